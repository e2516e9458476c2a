/- The row TargetNexts: whatever bits and whatever seconds, the law of the next target returns true and leaves what was there as it was. -/
import Derived.Test.YtegcdnjihnpolaaUx
import Derived.Test.YtegcdnjihnpolaaWo
set_option linter.unusedSimpArgs false
set_option linter.unusedVariables false
namespace Go.Proofs.Ytegcdnjihnpolaa
open Go Go.Eng Go.Proofs Go.RowKit
theorem span_one {x y : Int} (h : y - x < 120) : spanOf x y = 120 := by unfold spanOf; rw [if_pos h]
theorem span_two {x y : Int} (h : ¬ y - x < 120) (h2 : y - x > 1920) : spanOf x y = 1920 := by unfold spanOf; rw [if_neg h, if_pos h2]
theorem span_three {x y : Int} (h : ¬ y - x < 120) (h2 : ¬ y - x > 1920) : spanOf x y = y - x := by unfold spanOf; rw [if_neg h, if_neg h2]
theorem rbin32_sub {x y : Int} (h0 : 0 ≤ y - x) (h1 : y - x < 4294967296) : rbin .sub .u32 y x = y - x := by
  show IntKind.u32.wrap (y - x) = _
  rw [wrap_u32]; omega
theorem one_at {T : F} (h : ∀ j, j < 40 → T j = nb 0 j) : ∀ j, j < 40 → (fun j => if j = 0 then (1 : Int) else T j) j = nb 1 j := by
  intro j hj
  show (if j = 0 then (1 : Int) else T j) = nb 1 j
  by_cases h0 : j = 0
  · rw [if_pos h0, h0]; rfl
  · rw [if_neg h0, h j hj, nb_zero]
    unfold nb
    have : (256 : Int) ^ 1 ≤ 256 ^ j := by rw [pow256, pow256]; exact p2_le (by omega)
    rw [Int.ediv_eq_zero_of_lt (by decide) (by rw [Int.pow_succ, Int.pow_zero] at this; omega)]; rfl
attribute [local irreducible] CallOk HOk Run TIok rbin rcmp run1 words val updF shfF blitF pv V40 nb wq tgt rb tlim tgood tval cmant bytesOf gk workOf cpt ovm spanOf nextVal
def tx3 (l : LX) : Tbl := tbL [(63, sNExpand l.ln), (74, sNTimes l.ln), (121, sNOver l.ln), (71, sNLimit l.ln), (73, sNLess l.ln), (72, sNZero l.ln), (69, sNCompact l.ln)] []
theorem tx3_ok : TblOk Try.prog (tx3 lxR) := tbL_ok (by simpa [lxln] using ⟨nexpand_ok, ntimes_ok, nover_ok, nlimit_ok, nless_ok, nzero_ok, ncompact_ok⟩) (by simp)
set_option maxHeartbeats 3200000 in
set_option maxRecDepth 100000 in
theorem nnext_ok : CallOk Try.prog 97 (sNNext lxR) := by
  refine .nrm (num32t_spec_norm (g := fun b x y => (.tup [U32 (lxR.nx b x y), B (lxR.ln.l5.tb b)], [lxR.ln.l5.u32 b, lxR.ln.l5.u32 x, lxR.ln.l5.u32 y])) (fun l => rfl)) (.of_run (hc := (tx3 lxR).hc) Try.func97 rfl (by kernel_rfl) (by kernel_rfl) fun xs v ps hs hp w => ?_)
  split at hs
  case isFalse => cases hs
  rename_i hnm
  unfold sNNext at hs
  split at hs
  · rename_i b x y h
    obtain rfl := num32t_int h hnm
    cases hs
    have hb : 0 ≤ b ∧ b < 4294967296 := hp (l5R.u32 b) (by simp [lxR, lnR])
    have hx : 0 ≤ x ∧ x < 4294967296 := hp (l5R.u32 x) (by simp [lxR, lnR])
    have hy : 0 ≤ y ∧ y < 4294967296 := hp (l5R.u32 y) (by simp [lxR, lnR])
    clear hp h hnm
    have hl := tlim_lt
    have hl2 := lim_big
    have h320 := lim320
    have htv := tval_lt b
    have tl0 : 0 < tlim := by unfold tlim; decide +kernel
    by_cases hg : tgood b = true
    · have hnx : lxR.nx b x y = cpt (nextVal b x y) := if_pos hg
      have hnv : nextVal b x y = if tlim < tval b * spanOf x y / 480 then tlim else if tval b * spanOf x y / 480 = 0 then 1 else tval b * spanOf x y / 480 := by unfold nextVal; rfl
      have sp := span_facts x y
      have hP0 : 0 ≤ tval b * spanOf x y := Int.mul_nonneg htv.1 (by omega)
      have hP1 : tval b * spanOf x y ≤ tval b * 1920 := Int.mul_le_mul_of_nonneg_left sp.2 htv.1
      have h4096 : (115792089237316195423570985008687907853269984665640564039457584007913129639936 : Int) * 4096 < p2 320 := by decide +kernel
      have hQ0 : 0 ≤ tval b * spanOf x y / 480 := by omega
      have hQ1 : tval b * spanOf x y / 480 < p2 320 := by omega
      have hvb : V40 (lnR.nexp b) = tval b := V40_nb htv.1 (by omega)
      have ht : ∀ s, s = spanOf x y → lnR.ntm s := fun s hs => by rw [hs]; exact ⟨by omega, by omega⟩
      have hvt : V40 (lnR.ntimes (lnR.nexp b) (spanOf x y)) = tval b * spanOf x y := by
        show V40 (nb (V40 (lnR.nexp b) * spanOf x y)) = _
        rw [hvb]; exact V40_nb hP0 (by omega)
      have hT : ∀ s, s = spanOf x y → ∀ j, j < 40 → lnR.nover (lnR.ntimes (lnR.nexp b) s) 480 j = nb (tval b * spanOf x y / 480) j := by
        intro s hs j _
        rw [hs]
        show nb (V40 (lnR.ntimes (lnR.nexp b) (spanOf x y)) / 480) j = _
        rw [hvt]
      have hL : ∀ s, s = spanOf x y → lnR.nless lnR.nlim (lnR.nover (lnR.ntimes (lnR.nexp b) s) 480) = decide (tlim < tval b * spanOf x y / 480) := by
        intro s hs
        show decide (V40 lnR.nlim < V40 (lnR.nover (lnR.ntimes (lnR.nexp b) s) 480)) = _
        rw [vnlim, V40_congr (hT s hs), V40_nb hQ0 hQ1]
      by_cases hge : y ≥ x
      · have ed : IntKind.i64.wrap (rbin .sub .u32 y x) = y - x := by rw [rbin32_sub (by omega) (by omega)]; exact wrap_i64 (by omega)
        by_cases h1 : y - x < 120
        · have es := (span_one h1).symm
          have c1 : rcmp .lss (IntKind.i64.wrap (rbin .sub .u32 y x)) 120 = true := by rw [ed, rcmp_lss']; exact decide_eq_true h1
          have c2 := c1
          refine run_ex hmix ti_ok tx3_ok 99 false 800 [false, true, true] (fun ar lf => by conv => lhs; cbv) (allP ?_) ?_
          · simp only [conj]
            and_intros <;> first | exact nb_bd _ | exact hg | exact congrArg (fun b => !b) hg | exact hb | exact hb.1 | exact hb.2 | exact ht _ es | exact (ht _ es).1 | exact (ht _ es).2 | trivial | exact (rcmp_geq _ _).trans (decide_eq_true hge) | exact (rcmp_geq _ _).trans (decide_eq_false hge) | exact c1 | exact c2 | exact (show (0 : Int) < 480 by decide) | exact (show (480 : Int) ≤ 1099511627776 by decide) | exact (show (0 : Int) ≤ 120 by decide) | exact (show (120 : Int) ≤ 1099511627776 by decide) | exact (show (0 : Int) ≤ 1920 by decide) | exact (show (1920 : Int) ≤ 1099511627776 by decide)
          refine Run.cut [8, 45] [] 2 (by decide) rfl rfl ?_
          refine Run.fam2 (ι := {p : F × Bool // (∀ j, j < 40 → p.1 j = nb (tval b * spanOf x y / 480) j) ∧ p.2 = decide (tlim < tval b * spanOf x y / 480)})
            (fun i => ([.any, .any, .any, .any, .any, .any, .any, .any, .a (.one (.ptr 0 (.lit 0)))] ++ List.replicate 36 .any ++ [.a (.one (.bool i.1.2))] ++ List.replicate 6 .any, [some (KN i.1.1)])) ⟨(_, _), hT _ es, hL _ es⟩ ?_
          rintro ⟨⟨T, q⟩, f1, f2⟩
          simp only at f1 f2
          have hTb : bd40 T := bd40.congr (fun j hj => (f1 j hj).symm) (nb_bd _)
          have hTv : V40 T = tval b * spanOf x y / 480 := (V40_congr f1).trans (V40_nb hQ0 hQ1)
          by_cases hbig : tlim < tval b * spanOf x y / 480
          · rw [if_pos hbig] at hnv
            have k1 : q = true := f2.trans (decide_eq_true hbig)
            have k2 : lnR.nzero lnR.nlim = false := decide_eq_false (by rw [vnlim]; omega)
            have k3 : lnR.n256 lnR.nlim := by show V40 lnR.nlim < _; rw [vnlim]; exact hl
            refine run_ex hmix ti_ok tx3_ok 99 false 800 [true, false] (fun ar lf => by conv => lhs; cbv) (allP ?_) ?_
            · simp only [conj]
              exact ⟨nb_bd _, k3, k2, nb_bd _, k1, trivial⟩
            · refine Run.ret ti_ok rfl rfl (.tup2 (.int ?_) (.lbool hg.symm))
              rw [hnx, hnv]
              show cpt (V40 lnR.nlim) = _
              rw [vnlim]
          · rw [if_neg hbig] at hnv
            have k1 : q = false := f2.trans (decide_eq_false hbig)
            by_cases hz0 : tval b * spanOf x y / 480 = 0
            · rw [if_pos hz0] at hnv
              have k2 : lnR.nzero T = true := decide_eq_true (hTv.trans hz0)
              have hT1 : ∀ j, j < 40 → (fun j => if j = 0 then (1 : Int) else T j) j = nb 1 j := by
                exact one_at fun j hj => by rw [f1 j hj, hz0]
              have k4 : bd40 (fun j => if j = 0 then (1 : Int) else T j) := bd40.congr (fun j hj => (hT1 j hj).symm) (nb_bd _)
              have k5 : V40 (fun j => if j = 0 then (1 : Int) else T j) = 1 := (V40_congr hT1).trans (V40_nb (by decide) (by decide +kernel))
              have k3 : lnR.n256 (fun j => if j = 0 then (1 : Int) else T j) := by show V40 _ < _; rw [k5]; decide
              refine run_ex hmix ti_ok tx3_ok 99 false 800 [false, true] (fun ar lf => by conv => lhs; cbv) (allP ?_) ?_
              · simp only [conj]
                exact ⟨k4, k3, k2, hTb, k1, trivial⟩
              · refine Run.ret ti_ok rfl rfl (.tup2 (.int ?_) (.lbool hg.symm))
                rw [hnx, hnv]
                exact congrArg cpt k5
            · rw [if_neg hz0] at hnv
              have k2 : lnR.nzero T = false := decide_eq_false (by rw [hTv]; exact hz0)
              have k3 : lnR.n256 T := by show V40 T < _; rw [hTv]; omega
              refine run_ex hmix ti_ok tx3_ok 99 false 800 [false, false] (fun ar lf => by conv => lhs; cbv) (allP ?_) ?_
              · simp only [conj]
                exact ⟨hTb, k3, k2, hTb, k1, trivial⟩
              · refine Run.ret ti_ok rfl rfl (.tup2 (.int ?_) (.lbool hg.symm))
                rw [hnx, hnv]
                exact congrArg cpt hTv
        · have c1 : rcmp .lss (IntKind.i64.wrap (rbin .sub .u32 y x)) 120 = false := by rw [ed, rcmp_lss']; exact decide_eq_false h1
          by_cases h2 : y - x > 1920
          · have es := (span_two h1 h2).symm
            have c2 : rcmp .gtr (IntKind.i64.wrap (rbin .sub .u32 y x)) 1920 = true := by rw [ed, rcmp_gtr']; exact decide_eq_true h2
            refine run_ex hmix ti_ok tx3_ok 99 false 800 [false, true, false, true] (fun ar lf => by conv => lhs; cbv) (allP ?_) ?_
            · simp only [conj]
              and_intros <;> first | exact nb_bd _ | exact hg | exact congrArg (fun b => !b) hg | exact hb | exact hb.1 | exact hb.2 | exact ht _ es | exact (ht _ es).1 | exact (ht _ es).2 | trivial | exact (rcmp_geq _ _).trans (decide_eq_true hge) | exact (rcmp_geq _ _).trans (decide_eq_false hge) | exact c1 | exact c2 | exact (show (0 : Int) < 480 by decide) | exact (show (480 : Int) ≤ 1099511627776 by decide) | exact (show (0 : Int) ≤ 120 by decide) | exact (show (120 : Int) ≤ 1099511627776 by decide) | exact (show (0 : Int) ≤ 1920 by decide) | exact (show (1920 : Int) ≤ 1099511627776 by decide)
            refine Run.cut [8, 45] [] 2 (by decide) rfl rfl ?_
            refine Run.fam2 (ι := {p : F × Bool // (∀ j, j < 40 → p.1 j = nb (tval b * spanOf x y / 480) j) ∧ p.2 = decide (tlim < tval b * spanOf x y / 480)})
              (fun i => ([.any, .any, .any, .any, .any, .any, .any, .any, .a (.one (.ptr 0 (.lit 0)))] ++ List.replicate 36 .any ++ [.a (.one (.bool i.1.2))] ++ List.replicate 6 .any, [some (KN i.1.1)])) ⟨(_, _), hT _ es, hL _ es⟩ ?_
            rintro ⟨⟨T, q⟩, f1, f2⟩
            simp only at f1 f2
            have hTb : bd40 T := bd40.congr (fun j hj => (f1 j hj).symm) (nb_bd _)
            have hTv : V40 T = tval b * spanOf x y / 480 := (V40_congr f1).trans (V40_nb hQ0 hQ1)
            by_cases hbig : tlim < tval b * spanOf x y / 480
            · rw [if_pos hbig] at hnv
              have k1 : q = true := f2.trans (decide_eq_true hbig)
              have k2 : lnR.nzero lnR.nlim = false := decide_eq_false (by rw [vnlim]; omega)
              have k3 : lnR.n256 lnR.nlim := by show V40 lnR.nlim < _; rw [vnlim]; exact hl
              refine run_ex hmix ti_ok tx3_ok 99 false 800 [true, false] (fun ar lf => by conv => lhs; cbv) (allP ?_) ?_
              · simp only [conj]
                exact ⟨nb_bd _, k3, k2, nb_bd _, k1, trivial⟩
              · refine Run.ret ti_ok rfl rfl (.tup2 (.int ?_) (.lbool hg.symm))
                rw [hnx, hnv]
                show cpt (V40 lnR.nlim) = _
                rw [vnlim]
            · rw [if_neg hbig] at hnv
              have k1 : q = false := f2.trans (decide_eq_false hbig)
              by_cases hz0 : tval b * spanOf x y / 480 = 0
              · rw [if_pos hz0] at hnv
                have k2 : lnR.nzero T = true := decide_eq_true (hTv.trans hz0)
                have hT1 : ∀ j, j < 40 → (fun j => if j = 0 then (1 : Int) else T j) j = nb 1 j := by
                  exact one_at fun j hj => by rw [f1 j hj, hz0]
                have k4 : bd40 (fun j => if j = 0 then (1 : Int) else T j) := bd40.congr (fun j hj => (hT1 j hj).symm) (nb_bd _)
                have k5 : V40 (fun j => if j = 0 then (1 : Int) else T j) = 1 := (V40_congr hT1).trans (V40_nb (by decide) (by decide +kernel))
                have k3 : lnR.n256 (fun j => if j = 0 then (1 : Int) else T j) := by show V40 _ < _; rw [k5]; decide
                refine run_ex hmix ti_ok tx3_ok 99 false 800 [false, true] (fun ar lf => by conv => lhs; cbv) (allP ?_) ?_
                · simp only [conj]
                  exact ⟨k4, k3, k2, hTb, k1, trivial⟩
                · refine Run.ret ti_ok rfl rfl (.tup2 (.int ?_) (.lbool hg.symm))
                  rw [hnx, hnv]
                  exact congrArg cpt k5
              · rw [if_neg hz0] at hnv
                have k2 : lnR.nzero T = false := decide_eq_false (by rw [hTv]; exact hz0)
                have k3 : lnR.n256 T := by show V40 T < _; rw [hTv]; omega
                refine run_ex hmix ti_ok tx3_ok 99 false 800 [false, false] (fun ar lf => by conv => lhs; cbv) (allP ?_) ?_
                · simp only [conj]
                  exact ⟨hTb, k3, k2, hTb, k1, trivial⟩
                · refine Run.ret ti_ok rfl rfl (.tup2 (.int ?_) (.lbool hg.symm))
                  rw [hnx, hnv]
                  exact congrArg cpt hTv
          · have es := ed.trans (span_three h1 h2).symm
            have c2 : rcmp .gtr (IntKind.i64.wrap (rbin .sub .u32 y x)) 1920 = false := by rw [ed, rcmp_gtr']; exact decide_eq_false h2
            refine run_ex hmix ti_ok tx3_ok 99 false 800 [false, true, false, false] (fun ar lf => by conv => lhs; cbv) (allP ?_) ?_
            · simp only [conj]
              and_intros <;> first | exact nb_bd _ | exact hg | exact congrArg (fun b => !b) hg | exact hb | exact hb.1 | exact hb.2 | exact ht _ es | exact (ht _ es).1 | exact (ht _ es).2 | trivial | exact (rcmp_geq _ _).trans (decide_eq_true hge) | exact (rcmp_geq _ _).trans (decide_eq_false hge) | exact c1 | exact c2 | exact (show (0 : Int) < 480 by decide) | exact (show (480 : Int) ≤ 1099511627776 by decide) | exact (show (0 : Int) ≤ 120 by decide) | exact (show (120 : Int) ≤ 1099511627776 by decide) | exact (show (0 : Int) ≤ 1920 by decide) | exact (show (1920 : Int) ≤ 1099511627776 by decide)
            refine Run.cut [8, 45] [] 2 (by decide) rfl rfl ?_
            refine Run.fam2 (ι := {p : F × Bool // (∀ j, j < 40 → p.1 j = nb (tval b * spanOf x y / 480) j) ∧ p.2 = decide (tlim < tval b * spanOf x y / 480)})
              (fun i => ([.any, .any, .any, .any, .any, .any, .any, .any, .a (.one (.ptr 0 (.lit 0)))] ++ List.replicate 36 .any ++ [.a (.one (.bool i.1.2))] ++ List.replicate 6 .any, [some (KN i.1.1)])) ⟨(_, _), hT _ es, hL _ es⟩ ?_
            rintro ⟨⟨T, q⟩, f1, f2⟩
            simp only at f1 f2
            have hTb : bd40 T := bd40.congr (fun j hj => (f1 j hj).symm) (nb_bd _)
            have hTv : V40 T = tval b * spanOf x y / 480 := (V40_congr f1).trans (V40_nb hQ0 hQ1)
            by_cases hbig : tlim < tval b * spanOf x y / 480
            · rw [if_pos hbig] at hnv
              have k1 : q = true := f2.trans (decide_eq_true hbig)
              have k2 : lnR.nzero lnR.nlim = false := decide_eq_false (by rw [vnlim]; omega)
              have k3 : lnR.n256 lnR.nlim := by show V40 lnR.nlim < _; rw [vnlim]; exact hl
              refine run_ex hmix ti_ok tx3_ok 99 false 800 [true, false] (fun ar lf => by conv => lhs; cbv) (allP ?_) ?_
              · simp only [conj]
                exact ⟨nb_bd _, k3, k2, nb_bd _, k1, trivial⟩
              · refine Run.ret ti_ok rfl rfl (.tup2 (.int ?_) (.lbool hg.symm))
                rw [hnx, hnv]
                show cpt (V40 lnR.nlim) = _
                rw [vnlim]
            · rw [if_neg hbig] at hnv
              have k1 : q = false := f2.trans (decide_eq_false hbig)
              by_cases hz0 : tval b * spanOf x y / 480 = 0
              · rw [if_pos hz0] at hnv
                have k2 : lnR.nzero T = true := decide_eq_true (hTv.trans hz0)
                have hT1 : ∀ j, j < 40 → (fun j => if j = 0 then (1 : Int) else T j) j = nb 1 j := by
                  exact one_at fun j hj => by rw [f1 j hj, hz0]
                have k4 : bd40 (fun j => if j = 0 then (1 : Int) else T j) := bd40.congr (fun j hj => (hT1 j hj).symm) (nb_bd _)
                have k5 : V40 (fun j => if j = 0 then (1 : Int) else T j) = 1 := (V40_congr hT1).trans (V40_nb (by decide) (by decide +kernel))
                have k3 : lnR.n256 (fun j => if j = 0 then (1 : Int) else T j) := by show V40 _ < _; rw [k5]; decide
                refine run_ex hmix ti_ok tx3_ok 99 false 800 [false, true] (fun ar lf => by conv => lhs; cbv) (allP ?_) ?_
                · simp only [conj]
                  exact ⟨k4, k3, k2, hTb, k1, trivial⟩
                · refine Run.ret ti_ok rfl rfl (.tup2 (.int ?_) (.lbool hg.symm))
                  rw [hnx, hnv]
                  exact congrArg cpt k5
              · rw [if_neg hz0] at hnv
                have k2 : lnR.nzero T = false := decide_eq_false (by rw [hTv]; exact hz0)
                have k3 : lnR.n256 T := by show V40 T < _; rw [hTv]; omega
                refine run_ex hmix ti_ok tx3_ok 99 false 800 [false, false] (fun ar lf => by conv => lhs; cbv) (allP ?_) ?_
                · simp only [conj]
                  exact ⟨hTb, k3, k2, hTb, k1, trivial⟩
                · refine Run.ret ti_ok rfl rfl (.tup2 (.int ?_) (.lbool hg.symm))
                  rw [hnx, hnv]
                  exact congrArg cpt hTv
      · have es := (span_one (x := x) (y := y) (by omega)).symm
        have c1 : True := trivial
        have c2 : True := trivial
        refine run_ex hmix ti_ok tx3_ok 99 false 800 [false, false] (fun ar lf => by conv => lhs; cbv) (allP ?_) ?_
        · simp only [conj]
          and_intros <;> first | exact nb_bd _ | exact hg | exact congrArg (fun b => !b) hg | exact hb | exact hb.1 | exact hb.2 | exact ht _ es | exact (ht _ es).1 | exact (ht _ es).2 | trivial | exact (rcmp_geq _ _).trans (decide_eq_true hge) | exact (rcmp_geq _ _).trans (decide_eq_false hge) | exact c1 | exact c2 | exact (show (0 : Int) < 480 by decide) | exact (show (480 : Int) ≤ 1099511627776 by decide) | exact (show (0 : Int) ≤ 120 by decide) | exact (show (120 : Int) ≤ 1099511627776 by decide) | exact (show (0 : Int) ≤ 1920 by decide) | exact (show (1920 : Int) ≤ 1099511627776 by decide)
        refine Run.cut [8, 45] [] 2 (by decide) rfl rfl ?_
        refine Run.fam2 (ι := {p : F × Bool // (∀ j, j < 40 → p.1 j = nb (tval b * spanOf x y / 480) j) ∧ p.2 = decide (tlim < tval b * spanOf x y / 480)})
          (fun i => ([.any, .any, .any, .any, .any, .any, .any, .any, .a (.one (.ptr 0 (.lit 0)))] ++ List.replicate 36 .any ++ [.a (.one (.bool i.1.2))] ++ List.replicate 6 .any, [some (KN i.1.1)])) ⟨(_, _), hT _ es, hL _ es⟩ ?_
        rintro ⟨⟨T, q⟩, f1, f2⟩
        simp only at f1 f2
        have hTb : bd40 T := bd40.congr (fun j hj => (f1 j hj).symm) (nb_bd _)
        have hTv : V40 T = tval b * spanOf x y / 480 := (V40_congr f1).trans (V40_nb hQ0 hQ1)
        by_cases hbig : tlim < tval b * spanOf x y / 480
        · rw [if_pos hbig] at hnv
          have k1 : q = true := f2.trans (decide_eq_true hbig)
          have k2 : lnR.nzero lnR.nlim = false := decide_eq_false (by rw [vnlim]; omega)
          have k3 : lnR.n256 lnR.nlim := by show V40 lnR.nlim < _; rw [vnlim]; exact hl
          refine run_ex hmix ti_ok tx3_ok 99 false 800 [true, false] (fun ar lf => by conv => lhs; cbv) (allP ?_) ?_
          · simp only [conj]
            exact ⟨nb_bd _, k3, k2, nb_bd _, k1, trivial⟩
          · refine Run.ret ti_ok rfl rfl (.tup2 (.int ?_) (.lbool hg.symm))
            rw [hnx, hnv]
            show cpt (V40 lnR.nlim) = _
            rw [vnlim]
        · rw [if_neg hbig] at hnv
          have k1 : q = false := f2.trans (decide_eq_false hbig)
          by_cases hz0 : tval b * spanOf x y / 480 = 0
          · rw [if_pos hz0] at hnv
            have k2 : lnR.nzero T = true := decide_eq_true (hTv.trans hz0)
            have hT1 : ∀ j, j < 40 → (fun j => if j = 0 then (1 : Int) else T j) j = nb 1 j := by
              exact one_at fun j hj => by rw [f1 j hj, hz0]
            have k4 : bd40 (fun j => if j = 0 then (1 : Int) else T j) := bd40.congr (fun j hj => (hT1 j hj).symm) (nb_bd _)
            have k5 : V40 (fun j => if j = 0 then (1 : Int) else T j) = 1 := (V40_congr hT1).trans (V40_nb (by decide) (by decide +kernel))
            have k3 : lnR.n256 (fun j => if j = 0 then (1 : Int) else T j) := by show V40 _ < _; rw [k5]; decide
            refine run_ex hmix ti_ok tx3_ok 99 false 800 [false, true] (fun ar lf => by conv => lhs; cbv) (allP ?_) ?_
            · simp only [conj]
              exact ⟨k4, k3, k2, hTb, k1, trivial⟩
            · refine Run.ret ti_ok rfl rfl (.tup2 (.int ?_) (.lbool hg.symm))
              rw [hnx, hnv]
              exact congrArg cpt k5
          · rw [if_neg hz0] at hnv
            have k2 : lnR.nzero T = false := decide_eq_false (by rw [hTv]; exact hz0)
            have k3 : lnR.n256 T := by show V40 T < _; rw [hTv]; omega
            refine run_ex hmix ti_ok tx3_ok 99 false 800 [false, false] (fun ar lf => by conv => lhs; cbv) (allP ?_) ?_
            · simp only [conj]
              exact ⟨hTb, k3, k2, hTb, k1, trivial⟩
            · refine Run.ret ti_ok rfl rfl (.tup2 (.int ?_) (.lbool hg.symm))
              rw [hnx, hnv]
              exact congrArg cpt hTv
    · have hg0 : tgood b = false := by simpa using hg
      refine run_ex hmix ti_ok tx3_ok 99 false 800 [true] (fun ar lf => by conv => lhs; cbv) (allP ?_) ?_
      · simp only [conj]
        exact ⟨congrArg (fun b => !b) hg0, hb, trivial⟩
      · exact Run.ret ti_ok rfl rfl (.tup2 (.lit (if_neg hg).symm) (.lbool hg0.symm))
  · cases hs
end Go.Proofs.Ytegcdnjihnpolaa
namespace Go.Proofs.Ytegcdnjihnpolaa
open Go Go.Eng Go.Proofs Go.RowKit
theorem next_same {b x : Int} (hg : tgood b = true) : nextVal b x (x + 480) = tval b := by
  have hs : spanOf x (x + 480) = 480 := by
    unfold spanOf
    rw [if_neg (by omega), if_neg (by omega)]
    omega
  have htv := tval_lt b
  have hpos : 0 < tval b := by
    unfold tval; rw [if_pos hg]; unfold tgood at hg; rw [decide_eq_true_eq] at hg; exact hg.2.1
  unfold nextVal
  rw [hs, Int.mul_ediv_cancel _ (by decide), if_neg (by omega), if_neg (by omega)]
attribute [local irreducible] CallOk HOk Run TIok rbin rcmp run1 words val updF shfF blitF pv V40 nb wq tgt rb tlim tgood tval cmant bytesOf gk workOf cpt ovm spanOf nextVal
def tx4 (l : LX) : Tbl := tbL [(66, sAwake), (96, sNext l), (97, sNNext l), (63, sNExpand l.ln), (69, sNCompact l.ln)] []
theorem tx4_ok : TblOk Try.prog (tx4 lxR) := tbL_ok (by simpa [lxln] using ⟨awake5_ok, next_ok, nnext_ok, nexpand_ok, ncompact_ok⟩) (by simp)
set_option maxHeartbeats 1600000 in
set_option maxRecDepth 100000 in
theorem nexts_law : CallOk Try.prog 16 (sLawX lxR) := by
  refine .evalN (tb := tx4) hmix ti_ok tx4_ok Try.func16 rfl (by kernel_rfl) (by kernel_rfl) (num32t_spec_norm (g := fun b x y => (.a (.one (.lbool true)), [lxR.ln.l5.u32 b, lxR.ln.l5.u32 x, lxR.ln.l5.u32 y])) (fun l => rfl)) fun xs v ps hn hs hp => ?_
  unfold sLawX at hs
  split at hs
  · rename_i b x y h
    obtain rfl := num32t_int h hn
    cases hs
    have hb : 0 ≤ b ∧ b < 4294967296 := hp (l5R.u32 b) (by simp [lxR, lnR])
    have hx : 0 ≤ x ∧ x < 4294967296 := hp (l5R.u32 x) (by simp [lxR, lnR])
    have hy : 0 ≤ y ∧ y < 4294967296 := hp (l5R.u32 y) (by simp [lxR, lnR])
    clear hp h hn
    have h320 := lim320
    have hl := tlim_lt
    have htv := tval_lt b
    have hw : 0 ≤ rbin .add .u32 x 480 ∧ rbin .add .u32 x 480 < 4294967296 := by rw [rbin32_add]; omega
    have hvb : V40 (lnR.nexp b) = tval b := V40_nb htv.1 (by omega)
    have hn : lnR.n256 (lnR.nexp b) := by show V40 (lnR.nexp b) < _; rw [hvb]; omega
    by_cases hg : tgood b = true
    · have o1 : (!(rcmp .eql (l5R.te b) 0 == tgood b)) = false := by rw [te_g hg, eql_yes rfl, hg]; rfl
      by_cases hbig : x > 4294966815
      · have c1 : rcmp .gtr x 4294966815 = true := by rw [rcmp_gtr']; exact decide_eq_true hbig
        refine ⟨800, [false, false, false, false, true], _, fun ar lf => by conv => lhs; cbv, allP ?_, VLe.yes' ?_⟩
        · simp only [conj]
          exact ⟨c1, congrArg (fun b => !b) hg, neq_self _, congrArg (fun b => !b) hg, o1, hb, hb, hx, hw, hb, hx, hy, hb, hx, hy, trivial⟩
        · rfl
      · have c1 : rcmp .gtr x 4294966815 = false := by rw [rcmp_gtr']; exact decide_eq_false hbig
        have ew : rbin .add .u32 x 480 = x + 480 := by rw [rbin32_add]; omega
        have hsame : lxR.nx b x (rbin .add .u32 x 480) = lnR.ncp (lnR.nexp b) := by
          rw [ew]
          show (if tgood b = true then cpt (nextVal b x (x + 480)) else 0) = cpt (V40 (lnR.nexp b))
          rw [if_pos hg, next_same hg, hvb]
        refine ⟨800, [false, false, false, false, false, true], _, fun ar lf => by conv => lhs; cbv, allP ?_, VLe.yes ?_⟩
        · simp only [conj]
          exact ⟨nb_bd _, hn, eql_yes (te_g hg), c1, congrArg (fun b => !b) hg, neq_self _, congrArg (fun b => !b) hg, o1, hb, hb, hx, hw, hb, hx, hy, hb, hx, hy, trivial⟩
        · exact eql_yes hsame
    · have hg0 : tgood b = false := by simpa using hg
      have o1 : (!(rcmp .eql (l5R.te b) 0 == tgood b)) = false := by rw [te_b hg0, eql_n (by decide), hg0]; rfl
      have o5 : rcmp .neq (l5R.te b) 50 = false := by rw [te_b hg0]; exact neq_self _
      refine ⟨800, [false, true, false, false, true], _, fun ar lf => by conv => lhs; cbv, allP ?_, VLe.yes' ?_⟩
      · simp only [conj]
        exact ⟨congrArg (fun b => !b) hg0, neq_self _, o5, congrArg (fun b => !b) hg0, o1, hb, hb, hx, hw, hb, hx, hy, hb, hx, hy, trivial⟩
      · rfl
  · cases hs
end Go.Proofs.Ytegcdnjihnpolaa
namespace Go.Proofs.Ytegcdnjihnpolaa
open Go Go.Eng Go.Proofs
open Go.ChangeShapes Go.WideShapes Go.ChangeAt Go.RowKit
attribute [local irreducible] CallOk HOk Run TIok

theorem targetNexts_own : ownKnob Try.prog.godebug = none := by kernel_rfl
theorem targetNexts_laidOut : laidOutB Try.prog = true := by kernel_rfl

theorem targetNexts_walk (a0 : Int) (h0 : (Lit.int .u32 a0).wf = true) (a1 : Int) (h1 : (Lit.int .u32 a1).wf = true) (a2 : Int) (h2 : (Lit.int .u32 a2).wf = true) (w : World) :
    Calls Try.prog 16 #[.int .u32 a0, .int .u32 a1, .int .u32 a2] w fun e w' => e = .returned (.bool true) ∧ Below w.heap.size w w' := by
  have hb0 : 0 ≤ a0 ∧ a0 < 4294967296 := by
    have : 0 ≤ a0 ∧ a0 ≤ 4294967295 := by simpa [Lit.wf, IntKind.min, IntKind.max, IntKind.signed, IntKind.bits] using h0
    omega
  have hb1 : 0 ≤ a1 ∧ a1 < 4294967296 := by
    have : 0 ≤ a1 ∧ a1 ≤ 4294967295 := by simpa [Lit.wf, IntKind.min, IntKind.max, IntKind.signed, IntKind.bits] using h1
    omega
  have hb2 : 0 ≤ a2 ∧ a2 < 4294967296 := by
    have : 0 ≤ a2 ∧ a2 ≤ 4294967295 := by simpa [Lit.wf, IntKind.min, IntKind.max, IntKind.signed, IntKind.bits] using h2
    omega
  refine calls_true nexts_law (xs := [U32 a0, U32 a1, U32 a2]) (ps := [l5R.u32 a0, l5R.u32 a1, l5R.u32 a2]) Try.func16 rfl (by kernel_rfl) rfl ?_ ⟨rfl, fun j x hx => ?_⟩
  · simp only [List.forall_mem_cons]
    exact ⟨hb0, hb1, hb2, by simp⟩
  · match j with
    | 0 => simp only [List.getElem?_cons_zero, Option.some.injEq] at hx; subst hx; exact ⟨_, rfl, rfl⟩
    | 1 => simp only [List.getElem?_cons_succ, List.getElem?_cons_zero, Option.some.injEq] at hx; subst hx; exact ⟨_, rfl, rfl⟩
    | 2 => simp only [List.getElem?_cons_succ, List.getElem?_cons_zero, Option.some.injEq] at hx; subst hx; exact ⟨_, rfl, rfl⟩
    | j + 3 => simp at hx

set_option maxRecDepth 100000 in
theorem targetNexts_lifted (os : Os) (started : os.Started) (H : Type) (enc : TypeId × Value → H) :
    ReturnsInHanded {} Try.checked os 16 .any (Rows.targetNextsSpec.pre6 enc Try.prog Try.f16 Rows.targetNextsRow.domain false) (Rows.targetNextsSpec.post enc Try.prog Try.f16 false true false false) := by
  refine returnsInHanded_of_change (C := Try.checked) targetNexts_own started (by kernel_rfl) Try.func16
    (ChangeSpec.witness6 (enc := enc) (C := Try.checked) false ⟨#[], #[.int .u32 0, .int .u32 0, .int .u32 0], []⟩ 8 (by kernel_rfl) (by kernel_rfl) (by kernel_rfl) (by kernel_rfl)) ?_
  intro W base args ds gs before hval0 hW hcnd _
  have hval : ∀ (j : Nat) t v, Try.f16.params[j]? = some t → args[j]? = some v → Value.okWide Try.prog W .any base t v := hval0
  have hW' := hW
  obtain ⟨p, q, hA0, hV, rfl, hfz, hnd⟩ := hW
  have hA : DataW.TrodAll enc Try.prog W 0 (fun _ => true) true Try.f16.params.toList args.toList ds p := hA0
  rw [Try.params16] at hA hval
  obtain ⟨v0, vs0, d0, ds0, p0, q0, hargs, rfl, rfl, h0, r0⟩ := trodAll_cons hA
  obtain ⟨v1, vs1, d1, ds1, p1, q1, rfl, rfl, rfl, h1, r1⟩ := trodAll_cons r0
  obtain ⟨v2, vs2, d2, ds2, p2, q2, rfl, rfl, rfl, h2, r2⟩ := trodAll_cons r1
  obtain ⟨rfl, rfl, rfl⟩ := trodAll_nil r2
  obtain rfl : args = #[v0, v1, v2] := by cases args; simp_all
  obtain ⟨rfl, rfl⟩ := trodVars_none hV
  obtain ⟨a0, rfl, rfl, rfl, w0⟩ := open_int Try.underlying85 (hval 0 85 v0 rfl rfl) h0
  obtain ⟨a1, rfl, rfl, rfl, w1⟩ := open_int Try.underlying85 (hval 1 85 v1 rfl rfl) h1
  obtain ⟨a2, rfl, rfl, rfl, w2⟩ := open_int Try.underlying85 (hval 2 85 v2 rfl rfl) h2
  clear hA0 hval0
  refine (targetNexts_walk a0 w0 a1 w1 a2 w2 W).mono fun e W' ⟨he, bel⟩ => ?_
  subst he
  exact ⟨_, rfl, _, _, _, [], _, [], hW', trodAll_mk1 (shut_bool Try.underlying4 _), (trodAll_cons_mk (shut_int Try.underlying85 w0) (trodAll_cons_mk (shut_int Try.underlying85 w1) (trodAll_cons_mk (shut_int Try.underlying85 w2) trodAll_mk0))), rfl, bel.frame _, fun h => by cases h⟩

theorem targetNexts_over : Rows.targetNextsRow.holds Try.pinned (OpenSpec.ofChange Rows.targetNextsSpec) :=
  OpenClaim.holds_of_wide 16 Try.f16 rfl rfl rfl rfl rfl rfl rfl ⟨rfl, rfl, rfl, rfl, rfl⟩ rfl rfl rfl rfl rfl (by kernel_rfl) Try.func16 (by kernel_rfl)
    (of_decide_eq_true (by kernel_rfl)) (by unfold Func.isWrapper; first | (rw [if_pos (by decide +kernel)]; kernel_rfl) | (rw [if_neg (by decide +kernel)]; exact ⟨rfl, rfl⟩))
    (fun os started H enc _ => targetNexts_lifted os started H enc)

theorem targetNexts_proved : Rows.TargetNextsSaid := targetNexts_over
#print axioms targetNexts_proved
end Go.Proofs.Ytegcdnjihnpolaa
