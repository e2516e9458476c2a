import Derived.Test.YtegcdnjihnpolaaUl
set_option linter.unusedSimpArgs false
set_option linter.unusedVariables false
namespace Go.Eng
open Go
theorem nb_ext {f : F} {n : Int} (hf : bd40 f) (h : V40 f = n) : ∀ j, j < 40 → f j = nb n j := fun j hj => by rw [← h]; exact nb_V40 hf j hj
theorem V40_upd {f : F} {i : Nat} {y : Int} (hi : i < 40) : V40 (updF f i y) = V40 f + (y - f i) * 256 ^ i := pv_upd hi
theorem nb_inc {f : F} {n : Int} (hn : 0 ≤ n) (h2 : n % 2 = 0) (hf : ∀ j, j < 40 → f j = nb n j) (h3 : n < p2 320) : ∀ j, j < 40 → updF f 0 (f 0 + 1) j = nb (n + 1) j := by
  have hfb : bd40 f := bd40.congr (fun j hj => (hf j hj).symm) (nb_bd n)
  have hv : V40 f = n := (V40_congr hf).trans (V40_nb hn h3)
  have h0 : f 0 = n % 256 := by
    rw [hf 0 (by decide)]
    unfold nb
    rw [Int.pow_zero, Int.ediv_one]
  have hub : bd40 (updF f 0 (f 0 + 1)) := by
    intro j hj
    unfold updF
    split
    · omega
    · exact hfb j hj
  refine nb_ext hub ?_
  rw [V40_upd (by decide), hv, Int.pow_zero]
  omega
theorem nb_inc' {f : F} {n x : Int} (hn : 0 ≤ n) (h2 : n % 2 = 0) (hf : ∀ j, j < 40 → f j = nb n j) (h3 : n < p2 320) (hx : x = f 0 + 1) : ∀ j, j < 40 → (fun j => if j = 0 then x else f j) j = nb (n + 1) j := by
  intro j hj
  rw [← nb_inc hn h2 hf h3 j hj, hx]
  rfl
end Go.Eng
namespace Go.Proofs.Ytegcdnjihnpolaa
open Go Go.Eng Go.Proofs Go.RowKit
attribute [local irreducible] CallOk HOk Run TIok rbin rcmp run1 words val updF shfF blitF pv V40 nb wq tgt rb tlim tgood tval cmant bytesOf gk workOf cpt
def tw0 (l : LN) : Tbl := tbL [(63, sNExpand l), (74, sNTimes l), (73, sNLess l), (75, sNMinus l)] []
theorem tw0_ok : TblOk Try.prog (tw0 lnR) := tbL_ok (by simpa using ⟨nexpand_ok, ntimes_ok, nless_ok, nminus_ok⟩) (by simp)
set_option maxRecDepth 100000 in
theorem nwork_ok : CallOk Try.prog 84 (sNWork lnR) := by
  refine .nrm (num32_spec_norm (g := fun b => (.tup [N40 (lnR.nww b), B (lnR.l5.tb b)], [lnR.l5.u32 b])) (fun l => rfl)) (.of_run (hc := (tw0 lnR).hc) Try.func84 rfl (by kernel_rfl) (by kernel_rfl) fun xs v ps hs hp w => ?_)
  split at hs
  case isFalse => cases hs
  rename_i hnm
  unfold sNWork at hs
  split at hs
  · rename_i b h
    obtain rfl := num32_int h hnm
    cases hs
    have hb : 0 ≤ b ∧ b < 4294967296 := hp (l5R.u32 b) (by simp [lnR])
    clear hp h hnm
    have htv := tval_lt b
    have hlim := tlim_lt
    have h320 := lim320
    by_cases hg : tgood b = true
    · have hD : 0 < tval b + 1 := by omega
      have hw : workOf b = p2 256 / (tval b + 1) := by unfold workOf; rw [if_pos hg]
      refine run_ex hmix ti_ok tw0_ok 0 false 800 [false] (fun ar lf => by conv => lhs; cbv) (allP ?_) ?_
      · simp only [conj]
        exact ⟨congrArg (fun b => !b) hg, hb, trivial⟩
      refine Run.cut [2, 4, 6] [6] 2 (by decide) rfl rfl ?_
      refine Run.loop (ι := {p : Int × F // 0 ≤ p.1 ∧ p.1 ≤ 40 ∧ bd40 p.2 ∧ V40 p.2 + 256 ^ p.1.toNat = tval b + 1})
        (fun i => ([.any, .any, .a (.one (.ptr 0 (.lit 0))), .any, .a (.one (.ptr 1 (.lit 0))), .any, .a (.one (.int .i64 i.1.1))] ++ List.replicate 54 .any, [some (KN fun _ => 0), some (KN i.1.2)]))
        (fun i => (40 - i.1.1).toNat) ⟨(0, lnR.nexp b), Int.le_refl 0, show (0 : Int) ≤ 40 by decide, nb_bd _, ?_⟩ ?_
      · show V40 (nb (tval b)) + 256 ^ 0 = tval b + 1
        rw [V40_nb htv.1 (by omega), Int.pow_zero]
      rintro ⟨⟨i, p⟩, h0, h1, hpb, hv⟩ ih
      simp only at h0 h1 hpb hv
      have hpv := V40_bd hpb
      have hi : i < 40 := by
        apply Decidable.byContradiction
        intro h
        have e : (256 : Int) ^ i.toNat = p2 320 := by rw [show i.toNat = 40 by omega, pow256]
        rw [e] at hv
        omega
      have ei : 0 + i.toNat * 1 = i.toNat := by omega
      have eadd : rbin .add .i64 i 1 = i + 1 := rbin_addi (by omega)
      have eni : (i + 1).toNat = i.toNat + 1 := by omega
      have emu : (40 - rbin .add .i64 i 1).toNat < (40 - i).toNat := by rw [eadd]; omega
      have hpb' := hpb
      unfold bd40 at hpb'
      have hpi := hpb' i.toNat (by omega)
      have einc : rbin .add .i64 (p i.toNat) 1 = p i.toNat + 1 := rbin_addi (by omega)
      by_cases h255 : p i.toNat + 1 < 256
      · refine run_ex hmix ti_ok tw0_ok 2 false 800 [true, true] (fun ar lf => by conv => lhs; cbv) (allP ?_) ?_
        · simp only [conj, arR, N.val, rcmp_lss', ei, einc, updF_same, decide_eq_true_eq]
          and_intros <;> first | trivial | omega
        · have hub : bd40 (updF p i.toNat (p i.toNat + 1)) := by
            unfold bd40
            intro j hj
            rw [updF_at]
            split
            · omega
            · exact hpb' j hj
          have huv : V40 (updF p i.toNat (p i.toNat + 1)) = tval b + 1 := by
            rw [V40_upd (by omega), ← hv]
            rw [show p i.toNat + 1 - p i.toNat = 1 by omega, Int.one_mul]
          refine Run.cut [2, 4, 7, 8, 9] [9] 4 (by decide) rfl rfl ?_
          refine Run.loop (ι := {t : Int × F × F × F // -1 ≤ t.1 ∧ t.1 ≤ 256 ∧ bd40 t.2.1 ∧ V40 t.2.1 = tval b + 1 ∧ (∀ j, j < 40 → t.2.2.1 j = nb (p2 256 / p2 (t.1 + 1).toNat / (tval b + 1)) j) ∧ (∀ j, j < 40 → t.2.2.2 j = nb (p2 256 / p2 (t.1 + 1).toNat % (tval b + 1)) j)})
            (fun t => ([.any, .any, .a (.one (.ptr 0 (.lit 0))), .any, .a (.one (.ptr 1 (.lit 0))), .any, .any, .a (.one (.ptr 2 (.lit 0))), .a (.one (.ptr 3 (.lit 0))), .a (.one (.int .i64 t.1.1))] ++ List.replicate 51 .any, [some (KN fun _ => 0), some (KN t.1.2.1), some (KN t.1.2.2.1), some (KN t.1.2.2.2)]))
            (fun t => (t.1.1 + 1).toNat) ⟨(256, _, fun _ => 0, fun _ => 0), show (-1 : Int) ≤ 256 by decide, show (256 : Int) ≤ 256 by decide, ?_, ?_, ?_, ?_⟩ ?_
          · simp only [arR, N.val, ei, einc]; exact hub
          · simp only [arR, N.val, ei, einc]; exact huv
          · intro j hj
            show 0 = nb (p2 256 / p2 257 / (tval b + 1)) j
            rw [show p2 256 / p2 257 = 0 by decide +kernel, Int.zero_ediv, nb_zero]
          · intro j hj
            show 0 = nb (p2 256 / p2 257 % (tval b + 1)) j
            rw [show p2 256 / p2 257 = 0 by decide +kernel, Int.zero_emod, nb_zero]
          clear ih emu eadd eni hv hpv h0 h1 hpi einc h255 hub huv
          rintro ⟨⟨n, t, q, r⟩, n0, n1, htb, htV, hq, hr⟩ ih
          simp only at n0 n1 htb htV hq hr
          by_cases hn : 0 ≤ n
          · have en : (n + 1).toNat = n.toNat + 1 := by omega
            rw [en] at hq hr
            obtain ⟨d1, d2⟩ := div_round (a := p2 256) hD (n := n.toNat)
            have hR0 := Int.emod_nonneg (p2 256 / p2 (n.toNat + 1)) (Int.ne_of_gt hD)
            have hR1 := Int.emod_lt_of_pos (p2 256 / p2 (n.toNat + 1)) hD
            have hA0 : 0 ≤ p2 256 / p2 (n.toNat + 1) := Int.ediv_nonneg (Int.le_of_lt (p2_pos _)) (Int.le_of_lt (p2_pos _))
            have hA1 : p2 256 / p2 (n.toNat + 1) ≤ p2 256 := Int.ediv_le_self _ (Int.le_of_lt (p2_pos _))
            have hQ0 : 0 ≤ p2 256 / p2 (n.toNat + 1) / (tval b + 1) := Int.ediv_nonneg hA0 (by omega)
            have hQ1 : p2 256 / p2 (n.toNat + 1) / (tval b + 1) ≤ p2 256 / p2 (n.toNat + 1) := Int.ediv_le_self _ hA0
            have hp256 : p2 256 * 1024 < p2 320 := by decide +kernel
            have hp256b : (115792089237316195423570985008687907853269984665640564039457584007913129639936 : Int) = p2 256 := p2_256.symm
            have hy0 : p2 256 / p2 n.toNat % 2 = if n = 256 then 1 else 0 := by
              by_cases h : n = 256
              · rw [if_pos h, show n.toNat = 256 by omega, Int.ediv_self (Int.ne_of_gt (p2_pos _))]; rfl
              · rw [if_neg h]
                have e : p2 256 = p2 n.toNat * (2 * p2 (255 - n.toNat)) := by rw [← p2_succ, ← p2_add]; congr 1; omega
                rw [e, Int.mul_ediv_cancel_left _ (Int.ne_of_gt (p2_pos _)), Int.mul_emod_right]
            generalize p2 256 / p2 n.toNat % 2 = y at *
            generalize p2 256 / p2 (n.toNat + 1) % (tval b + 1) = R at *
            generalize p2 256 / p2 (n.toNat + 1) / (tval b + 1) = Q at *
            have hVr : V40 r = R := (V40_congr hr).trans (V40_nb hR0 (by omega))
            have hVq : V40 q = Q := (V40_congr hq).trans (V40_nb hQ0 (by omega))
            have hrb : bd40 r := bd40.congr (fun j hj => (hr j hj).symm) (nb_bd _)
            have hqb : bd40 q := bd40.congr (fun j hj => (hq j hj).symm) (nb_bd _)
            have hr2 : ∀ j, j < 40 → lnR.ntimes r 2 j = nb (2 * R) j := fun j _ => by
              show nb (V40 r * 2) j = _
              rw [hVr, Int.mul_comm]
            have hq2 : ∀ j, j < 40 → lnR.ntimes q 2 j = nb (2 * Q) j := fun j _ => by
              show nb (V40 q * 2) j = _
              rw [hVq, Int.mul_comm]
            have hrlo : 0 ≤ lnR.ntimes r 2 0 ∧ lnR.ntimes r 2 0 < 256 := nb_lo _ _
            have hqlo : 0 ≤ lnR.ntimes q 2 0 ∧ lnR.ntimes q 2 0 < 256 := nb_lo _ _
            have er1 : rbin .add .i64 (lnR.ntimes r 2 0) 1 = lnR.ntimes r 2 0 + 1 := rbin_addi (by omega)
            have eq1 : rbin .add .i64 (lnR.ntimes q 2 0) 1 = lnR.ntimes q 2 0 + 1 := rbin_addi (by omega)
            have hri := nb_inc' (by omega) (by omega) hr2 (by omega) er1
            have hqi := nb_inc' (by omega) (by omega) hq2 (by omega) eq1
            have esub : rbin .sub .i64 n 1 = n - 1 := rbin_subi (by omega)
            have emu : (rbin .sub .i64 n 1 + 1).toNat < (n + 1).toNat := by rw [esub]; omega
            have esub1 : rbin .sub .i64 n 1 + 1 = n := by rw [esub]; omega
            have minus : ∀ r1 : F, (∀ j, j < 40 → r1 j = nb (2 * R + y) j) → tval b + 1 ≤ 2 * R + y → bd40 r1 ∧ lnR.nless r1 t = false ∧ V40 t ≤ V40 r1 ∧ ∀ j, j < 40 → lnR.nminus r1 t j = nb (2 * R + y - (tval b + 1)) j := by
              intro r1 h1 hle
              have hv1 : V40 r1 = 2 * R + y := (V40_congr h1).trans (V40_nb (by omega) (by omega))
              refine ⟨bd40.congr (fun j hj => (h1 j hj).symm) (nb_bd _), ?_, ?_, fun j _ => ?_⟩
              · show decide (V40 r1 < V40 t) = false
                rw [hv1, htV]; exact decide_eq_false (by omega)
              · rw [hv1, htV]; exact hle
              · show nb (V40 r1 - V40 t) j = _
                rw [hv1, htV]
            have stay : ∀ r1 : F, (∀ j, j < 40 → r1 j = nb (2 * R + y) j) → ¬ tval b + 1 ≤ 2 * R + y → bd40 r1 ∧ lnR.nless r1 t = true := by
              intro r1 h1 hle
              have hv1 : V40 r1 = 2 * R + y := (V40_congr h1).trans (V40_nb (by omega) (by omega))
              refine ⟨bd40.congr (fun j hj => (h1 j hj).symm) (nb_bd _), ?_⟩
              show decide (V40 r1 < V40 t) = true
              rw [hv1, htV]; exact decide_eq_true (by omega)
            have t2 : lnR.ntm 2 := ⟨by decide, by decide⟩
            by_cases h256 : n = 256
            · rw [if_pos h256] at hy0
              rw [hy0] at d1 d2 minus stay
              have c1 : rcmp .eql n 256 = true := eql_yes h256
              by_cases hle : tval b + 1 ≤ 2 * R + 1
              · obtain ⟨m1, m2, m3, m4⟩ := minus _ hri hle
                rw [if_pos hle] at d1 d2
                refine run_ex hmix ti_ok tw0_ok 2 false 800 [true, true, true] (fun ar lf => by conv => lhs; cbv) (allP ?_) ?_
                · simp only [conj]
                  exact ⟨m1, htb, m3, congrArg (fun b => !b) m2, m1, htb, hqb, t2, c1, hrb, t2, (rcmp_geq n 0).trans (decide_eq_true hn), trivial⟩
                · refine Run.cut [2, 4, 7, 8, 9] [9] 4 (by decide) rfl rfl ?_
                  refine ih ⟨(_, _, _, _), ?_, ?_, htb, htV, ?_, ?_⟩ emu _ _
                  · simp only [esub]; omega
                  · simp only [esub]; omega
                  · simp only [esub1]; rw [d2]; exact hqi
                  · simp only [esub1]; rw [d1]; exact m4
              · obtain ⟨m1, m2⟩ := stay _ hri hle
                rw [if_neg hle] at d1 d2
                refine run_ex hmix ti_ok tw0_ok 2 false 800 [true, true, false] (fun ar lf => by conv => lhs; cbv) (allP ?_) ?_
                · simp only [conj]
                  exact ⟨congrArg (fun b => !b) m2, m1, htb, hqb, t2, c1, hrb, t2, (rcmp_geq n 0).trans (decide_eq_true hn), trivial⟩
                · refine Run.cut [2, 4, 7, 8, 9] [9] 4 (by decide) rfl rfl ?_
                  refine ih ⟨(_, _, _, _), ?_, ?_, htb, htV, ?_, ?_⟩ emu _ _
                  · simp only [esub]; omega
                  · simp only [esub]; omega
                  · simp only [esub1]; rw [d2, Int.add_zero]; exact hq2
                  · simp only [esub1]; rw [d1]; exact hri
            · rw [if_neg h256] at hy0
              rw [hy0] at d1 d2 minus stay
              rw [Int.add_zero] at d1 d2 minus stay
              have c1 : rcmp .eql n 256 = false := by rw [rcmp_eql]; exact decide_eq_false h256
              by_cases hle : tval b + 1 ≤ 2 * R
              · obtain ⟨m1, m2, m3, m4⟩ := minus _ hr2 hle
                rw [if_pos hle] at d1 d2
                refine run_ex hmix ti_ok tw0_ok 2 false 800 [true, false, true] (fun ar lf => by conv => lhs; cbv) (allP ?_) ?_
                · simp only [conj]
                  exact ⟨m1, htb, m3, congrArg (fun b => !b) m2, m1, htb, hqb, t2, c1, hrb, t2, (rcmp_geq n 0).trans (decide_eq_true hn), trivial⟩
                · refine Run.cut [2, 4, 7, 8, 9] [9] 4 (by decide) rfl rfl ?_
                  refine ih ⟨(_, _, _, _), ?_, ?_, htb, htV, ?_, ?_⟩ emu _ _
                  · simp only [esub]; omega
                  · simp only [esub]; omega
                  · simp only [esub1]; rw [d2]; exact hqi
                  · simp only [esub1]; rw [d1]; exact m4
              · obtain ⟨m1, m2⟩ := stay _ hr2 hle
                rw [if_neg hle] at d1 d2
                refine run_ex hmix ti_ok tw0_ok 2 false 800 [true, false, false] (fun ar lf => by conv => lhs; cbv) (allP ?_) ?_
                · simp only [conj]
                  exact ⟨congrArg (fun b => !b) m2, m1, htb, hqb, t2, c1, hrb, t2, (rcmp_geq n 0).trans (decide_eq_true hn), trivial⟩
                · refine Run.cut [2, 4, 7, 8, 9] [9] 4 (by decide) rfl rfl ?_
                  refine ih ⟨(_, _, _, _), ?_, ?_, htb, htV, ?_, ?_⟩ emu _ _
                  · simp only [esub]; omega
                  · simp only [esub]; omega
                  · simp only [esub1]; rw [d2, Int.add_zero]; exact hq2
                  · simp only [esub1]; rw [d1]; exact hr2
          · obtain rfl : n = -1 := by omega
            refine run_ex hmix ti_ok tw0_ok 2 false 800 [false] (fun ar lf => by conv => lhs; cbv) (allP ?_) ?_
            · simp only [conj, arR, rcmp_geq]
              decide
            · refine Run.ret ti_ok rfl rfl (.tup2 (.ints fun j hj => ?_) (.lbool hg.symm))
              show q j = nb (workOf b) j
              rw [hq j hj, hw, show ((-1 : Int) + 1).toNat = 0 by rfl, show p2 0 = 1 by decide, Int.ediv_one]
      · have hpe : p i.toNat = 255 := by omega
        refine run_ex hmix ti_ok tw0_ok 2 false 800 [true, false] (fun ar lf => by conv => lhs; cbv) (allP ?_) ?_
        · simp only [conj, arR, N.val, rcmp_lss', ei, einc, updF_same, decide_eq_true_eq, decide_eq_false_iff_not]
          and_intros <;> first | trivial | omega
        · refine Run.cut [2, 4, 6] [6] 2 (by decide) rfl rfl ?_
          have hub : bd40 (updF (updF p i.toNat (p i.toNat + 1)) i.toNat 0) := by
            unfold bd40
            intro j hj
            rw [updF_at]
            split
            · exact ⟨Int.le_refl 0, by decide⟩
            · rw [updF_at, if_neg (by omega)]; exact hpb' j hj
          refine ih ⟨(_, _), ?_, ?_, ?_, ?_⟩ emu _ _
          · simp only [eadd]; omega
          · simp only [eadd]; omega
          · simp only [arR, N.val, ei, einc]; exact hub
          · simp only [arR, N.val, ei, einc, eadd, eni]
            rw [V40_upd (by omega), V40_upd (by omega), updF_same, ← hv, Int.pow_succ, hpe]
            grind
    · have hg0 : tgood b = false := by simpa using hg
      refine run_ex hmix ti_ok tw0_ok 0 false 800 [true] (fun ar lf => by conv => lhs; cbv) (allP ?_) ?_
      · simp only [conj]
        exact ⟨congrArg (fun b => !b) hg0, hb, trivial⟩
      · refine Run.ret ti_ok rfl rfl (.tup2 (.ints fun j hj => ?_) (.lbool hg0.symm))
        show 0 = nb (workOf b) j
        rw [show workOf b = 0 by unfold workOf; rw [hg0]; rfl, nb_zero]
  · cases hs
end Go.Proofs.Ytegcdnjihnpolaa
