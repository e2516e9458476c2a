import Derived.Test.YtegcdnjihnpolaaUl
set_option linter.unusedSimpArgs false
set_option linter.unusedVariables false
namespace Go.Eng
open Go
section
/-- the state as one of a family -/
theorem Run.at {P : Program} {hc : FuncId → Bool} {W0 : World} {m0 : Nat} {fn : Func} {R : V → Heap → Prop} {ι : Type} (S : ι → List V × Heap) {x : Item} {T : List Item} (i0 : ι)
    (h : ∀ i, Run P hc W0 m0 fn R ⟨(S i).1, (S i).2, x :: T, [], []⟩) : Run P hc W0 m0 fn R ⟨(S i0).1, (S i0).2, x :: T, [], []⟩ := h i0
end
def uW : List A → Option (Int × F)
  | [.one c, .agg (.ints .u64 (.lit 4) f)] => match c.num? with
    | some (.u32, n, _) => some (n, f)
    | _ => none
  | _ => none
theorem uW_some {l : List A} {n : Int} {f : F} (h : uW l = some (n, f)) : ∃ a u, l = [.one a, W f] ∧ a.num? = some (.u32, n, u) := by
  unfold uW at h
  split at h
  · split at h
    · rename_i h1; cases h; exact ⟨_, _, rfl, h1⟩
    · cases h
  · cases h
theorem uW_norm {l : List A} {f : F} {n : Int} (h : uW l = some (n, f)) : uW (l.map A.norm) = some (n, f) := by
  obtain ⟨a, u, rfl, h1⟩ := uW_some h
  rcases num_cases h1 with rfl | rfl <;> rfl
theorem uW_int {l : List A} {f : F} {n : Int} (h : uW l = some (n, f)) (hn : l.map A.norm = l) : l = [U32 n, W f] := by
  obtain ⟨a, u, rfl, h1⟩ := uW_some h
  rcases num_cases h1 with rfl | rfl
  · rfl
  · cases hn
theorem uW_spec_norm {g : Int → F → V × List Prop} {s : ESpec} (hs : ∀ l, s l = match uW l with
  | some (n, f) => some (g n f)
  | none => none) : ∀ l r, s l = some r → s (l.map A.norm) = some r := by
  intro l r h
  rw [hs] at h ⊢
  split at h
  · rename_i f n h1
    rw [uW_norm h1]; exact h
  · cases h
def sLawB (l : LN) : ESpec := fun a => match uW a with
  | some (n, f) => some (.a (.one (.lbool true)), [l.l5.u32 n, l.l5.lf.bd f])
  | none => none
end Go.Eng
namespace Go.Proofs.Ytegcdnjihnpolaa
open Go Go.Eng Go.Proofs Go.RowKit
attribute [local irreducible] CallOk HOk Run TIok rbin rcmp run1 words val updF shfF blitF pv V40 nb wq tgt rb tlim tgood tval cmant bytesOf gk workOf cpt
def tn6 (l : LN) : Tbl := tbL [(66, sAwake), (62, sExpand l.l5), (63, sNExpand l), (64, sNFrom l), (65, sCompact l.l5), (67, sNWords l), (68, sForm l), (69, sNCompact l), (70, sLimit l.l5), (71, sNLimit l), (72, sNZero l), (73, sNLess l), (74, sNTimes l), (75, sNMinus l)] []
theorem tn6_ok : TblOk Try.prog (tn6 lnR) := tbL_ok (by simpa [lnl5] using ⟨awake5_ok, expand_ok, nexpand_ok, nfrom_ok, compact_ok, nwords_ok, form_ok, ncompact_ok, limit_ok, nlimit_ok, nzero_ok, nless_ok, ntimes_ok, nminus_ok⟩) (by simp)
set_option maxHeartbeats 1600000 in
set_option maxRecDepth 100000 in
theorem bits_law : CallOk Try.prog 10 (sLawB lnR) := by
  refine .nrm (uW_spec_norm (g := fun n f => (.a (.one (.lbool true)), [lnR.l5.u32 n, lnR.l5.lf.bd f])) (fun l => rfl)) (.of_run (hc := (tn6 lnR).hc) Try.func10 rfl (by kernel_rfl) (by kernel_rfl) fun xs v ps hs hp w => ?_)
  split at hs
  case isFalse => cases hs
  rename_i hnm
  unfold sLawB at hs
  split at hs
  · rename_i b f h
    obtain rfl := uW_int h hnm
    cases hs
    have hb : 0 ≤ b ∧ b < 4294967296 := hp (l5R.u32 b) (by simp [lnR])
    have hf : bd f := hp (lfR.bd f) (by simp [lnR, l5R])
    clear hp h hnm
    have hvf := val_bd hf
    have htv := tval_lt b
    have hl := tlim_lt
    have h320 := lim320
    have hvN : V40 (lnR.nexp b) = tval b := V40_nb htv.1 (by omega)
    have hvF : V40 (lnR.nfrom f) = val f := V40_nb hvf.1 (by omega)
    have hvW : val (l5R.tw b) = tval b := val_words_of htv.1 (by omega)
    have hn1 : lnR.n256 (lnR.nexp b) := by show V40 (lnR.nexp b) < _; rw [hvN]; omega
    have hn2 : lnR.n256 (lnR.nfrom f) := by show V40 (lnR.nfrom f) < _; rw [hvF]; exact hvf.2
    have o1 : (!(arR.lEq [l5R.lim 0, l5R.lim 1, l5R.lim 2, l5R.lim 3] [lnR.nwords lnR.nlim 0, lnR.nwords lnR.nlim 1, lnR.nwords lnR.nlim 2, lnR.nwords lnR.nlim 3])) = false := by
      have e : lnR.nwords lnR.nlim = l5R.lim := by show words (V40 lnR.nlim) = words tlim; rw [vnlim]
      rw [e]; exact nl_self _
    have o2 : rcmp .neq (l5R.cp f) (lnR.ncp (lnR.nfrom f)) = false := by
      have e : lnR.ncp (lnR.nfrom f) = l5R.cp f := by show cpt (V40 (lnR.nfrom f)) = cpt (val f); rw [hvF]
      rw [e]; exact neq_self _
    have o3 : (!(arR.lEq [l5R.tw b 0, l5R.tw b 1, l5R.tw b 2, l5R.tw b 3] [lnR.nwords (lnR.nexp b) 0, lnR.nwords (lnR.nexp b) 1, lnR.nwords (lnR.nexp b) 2, lnR.nwords (lnR.nexp b) 3])) = false := by
      have e : lnR.nwords (lnR.nexp b) = l5R.tw b := by show words (V40 (lnR.nexp b)) = words (tval b); rw [hvN]
      rw [e]; exact nl_self _
    have hcp : lnR.ncp (lnR.nexp b) = cpt (tval b) := by show cpt (V40 (lnR.nexp b)) = _; rw [hvN]
    by_cases hg : tgood b = true
    have hte : l5R.te b = 0 := by show (if tgood b = true then (0 : Int) else 50) = 0; rw [hg]; rfl
    have o4 : (!(rcmp .eql (l5R.te b) 0 == tgood b)) = false := by rw [hte, hg, rcmp_eql]; rfl
    have o5 : (!(lnR.form b == rcmp .eql (lnR.ncp (lnR.nexp b)) b)) = false := by
      have e : lnR.form b = rcmp .eql (lnR.ncp (lnR.nexp b)) b := by
        show (tgood b && decide (cpt (tval b) = b)) = _
        rw [hg, hcp, rcmp_eql, Bool.true_and]
      rw [e]; exact nn_self _
    refine run_ex hmix ti_ok tn6_ok 99 false (20 + 3) [false, false, false, true, false, false, false] (fun ar lf => exec_stage (by conv => lhs; cbv) (by conv => lhs; cbv)) (allP ?_) ?_
    · simp only [conj]
      exact ⟨o1, nb_bd _, o2, nb_bd _, hn2, o5, nb_bd _, hn1, hg, hb, o3, nb_bd _, congrArg (fun b => !b) hg, o4, hf, hf, hb, hb, trivial⟩
    refine Run.cut [9, 10] [] 4 (by decide) rfl rfl ?_
    rotate_left
    replace hg : tgood b = false := by simpa using hg
    have hte : l5R.te b = 50 := by show (if tgood b = true then (0 : Int) else 50) = 50; rw [hg]; rfl
    have o4 : (!(rcmp .eql (l5R.te b) 0 == tgood b)) = false := by rw [hte, hg, rcmp_eql]; rfl
    have o5 : (!(lnR.form b == false)) = false := by
      have e : lnR.form b = false := by
        show (tgood b && decide (cpt (tval b) = b)) = _
        rw [hg, Bool.false_and]
      rw [e]; rfl
    have o6 : (!(arR.lEq [l5R.tw b 0, l5R.tw b 1, l5R.tw b 2, l5R.tw b 3] [0, 0, 0, 0])) = false := by
      have e := eqb_zero (f := l5R.tw b) (words_bd _) (decide_eq_true (show val (l5R.tw b) = 0 by rw [hvW]; unfold tval; rw [hg]; rfl))
      rw [e]; rfl
    have o7 : rcmp .neq (l5R.te b) 50 = false := by rw [hte]; exact neq_self _
    refine run_ex hmix ti_ok tn6_ok 99 false (20 + 3) [false, true, false, false, false, false, false, false, false] (fun ar lf => exec_stage (by conv => lhs; cbv) (by conv => lhs; cbv)) (allP ?_) ?_
    · simp only [conj]
      exact ⟨o1, nb_bd _, o2, nb_bd _, hn2, o5, hg, hb, o3, nb_bd _, o6, o7, congrArg (fun b => !b) hg, o4, hf, hf, hb, hb, trivial⟩
    refine Run.cut [9, 10] [] 4 (by decide) rfl rfl ?_
    all_goals
      refine Run.at (ι := {p : Int × F × F × F // p.1 = cpt (val f) ∧ (∀ j, j < 40 → p.2.1 j = nb (val f) j)})
        (fun i => ([.any, .any, .any, .any, .any, .any, .any, .any, .any, .a (.one (.ptr 3 (.lit 0))), .a (.one (.int .u32 i.1.1))] ++ List.replicate 96 .any, [some (K4 f), some (K4 i.1.2.2.1), some (KN i.1.2.2.2), some (KN i.1.2.1)])) ⟨(lnR.l5.cp f, lnR.nfrom f, lnR.l5.tw b, lnR.nexp b), rfl, fun j _ => rfl⟩ ?_
      rintro ⟨⟨c, N, g1, g2⟩, hc, hN⟩
      simp only at hc hN
      have hNb : bd40 N := bd40.congr (fun j hj => (hN j hj).symm) (nb_bd _)
      have hNv : V40 N = val f := (V40_congr hN).trans (V40_nb hvf.1 (by omega))
      by_cases hz : val f = 0
      · have q1 : lnR.nzero N = true := decide_eq_true (hNv.trans hz)
        refine run_ex hmix ti_ok tn6_ok 99 false 400 [true] (fun ar lf => by conv => lhs; cbv) (allP ?_) ?_
        · simp only [conj]
          exact ⟨q1, hNb, trivial⟩
        · exact Run.ret ti_ok rfl rfl (VLe.yes' rfl)
      · have q1 : lnR.nzero N = false := decide_eq_false (by rw [hNv]; exact hz)
        by_cases hbig : tlim < val f
        · have q2 : lnR.nless lnR.nlim N = true := decide_eq_true (by rw [hNv, vnlim]; exact hbig)
          refine run_ex hmix ti_ok tn6_ok 99 false 400 [false, true] (fun ar lf => by conv => lhs; cbv) (allP ?_) ?_
          · simp only [conj]
            exact ⟨q2, nb_bd _, hNb, q1, hNb, trivial⟩
          · exact Run.ret ti_ok rfl rfl (VLe.yes' rfl)
        · have q2 : lnR.nless lnR.nlim N = false := decide_eq_false (by rw [hNv, vnlim]; exact hbig)
          obtain ⟨c0, c1, c2, c3, c4⟩ := cpt_near (n := val f) (by omega) (by omega)
          rw [← hc] at c0 c1 c2 c3 c4
          have htc := tval_lt c
          have q3 : rcmp .neq (l5R.te c) 0 = false := by
            have e : l5R.te c = 0 := by show (if tgood c = true then (0 : Int) else 50) = 0; rw [c2]; rfl
            rw [e]; exact neq_self _
          have hvc : val (l5R.tw c) = tval c := val_words_of htc.1 (by omega)
          have hVc : V40 (lnR.nfrom (l5R.tw c)) = tval c := by
            show V40 (nb (val (l5R.tw c))) = _
            rw [hvc]; exact V40_nb htc.1 (by omega)
          have q4 : lnR.nless N (lnR.nfrom (l5R.tw c)) = false := decide_eq_false (by rw [hNv, hVc]; omega)
          have hVm : V40 (lnR.nminus N (lnR.nfrom (l5R.tw c))) = val f - tval c := by
            show V40 (nb (V40 N - V40 (lnR.nfrom (l5R.tw c)))) = _
            rw [hNv, hVc]; exact V40_nb (by omega) (by omega)
          have hVt : V40 (lnR.ntimes (lnR.nminus N (lnR.nfrom (l5R.tw c))) 32768) = (val f - tval c) * 32768 := by
            show V40 (nb (V40 (lnR.nminus N (lnR.nfrom (l5R.tw c))) * 32768)) = _
            rw [hVm]; exact V40_nb (by omega) (by omega)
          have q5 : lnR.nless (lnR.ntimes (lnR.nminus N (lnR.nfrom (l5R.tw c))) 32768) N = true := decide_eq_true (by rw [hNv, hVt]; exact c4)
          have q6 : lnR.nle (lnR.nfrom (l5R.tw c)) N := by show V40 _ ≤ V40 _; rw [hNv, hVc]; exact c3
          refine run_ex hmix ti_ok tn6_ok 99 false 400 [false, false, false, true] (fun ar lf => by conv => lhs; cbv) (allP ?_) ?_
          · simp only [conj]
            exact ⟨nb_bd _, hNb, nb_bd _, ⟨by decide, by decide⟩, hNb, nb_bd _, q6, congrArg (fun b => !b) q4, hNb, nb_bd _, q3, words_bd _, ⟨c0, c1⟩, q2, nb_bd _, hNb, q1, hNb, trivial⟩
          · exact Run.ret ti_ok rfl rfl (VLe.yes q5)
  · cases hs
end Go.Proofs.Ytegcdnjihnpolaa
