import Derived.Test.YtegcdnjihnpolaaUe
set_option linter.unusedSimpArgs false
set_option linter.unusedVariables false
namespace Go.Eng
open Go
theorem updF_same (p : F) (i : Nat) (x : Int) : updF p i x i = x := by unfold updF; rw [if_pos rfl]
theorem nb_add (n c : Int) {j k : Nat} (h : j < k) : nb (n + c * 256 ^ k) j = nb n j := by
  unfold nb
  have e : (256 : Int) ^ k = 256 ^ j * (256 * 256 ^ (k - j - 1)) := by
    rw [← Int.pow_succ', ← Int.pow_add]; congr 1; omega
  rw [e, show n + c * (256 ^ j * (256 * 256 ^ (k - j - 1))) = n + 256 ^ j * (256 * (c * 256 ^ (k - j - 1))) by grind, Int.add_mul_ediv_left _ _ (Int.ne_of_gt (pow256_pos j)), Int.add_mul_emod_self_left]
theorem nzero_iff {f : F} (hf : bd40 f) : V40 f = 0 ↔ ∀ j, j < 40 → f j = 0 := by
  constructor
  · intro h j hj
    rw [nb_V40 hf j hj, h]
    unfold nb
    simp
  · intro h
    have e : V40 (nb 0) = 0 := V40_nb (Int.le_refl 0) (p2_pos _)
    rw [← e]
    apply V40_congr
    intro j hj
    rw [h j hj]
    unfold nb
    simp
end Go.Eng
namespace Go.Proofs.Ytegcdnjihnpolaa
open Go Go.Eng Go.Proofs Go.RowKit
theorem rcmp_lss' (x y : Int) : rcmp .lss x y = decide (x < y) := by unfold rcmp; rfl
attribute [local irreducible] CallOk HOk Run TIok rbin rcmp run1 words val updF shfF blitF pv V40 nb bd40
theorem lnl5 : lnR.l5 = l5R := rfl
def tn0 (l : LN) : Tbl := tbL [] []
theorem tn0_ok : TblOk Try.prog (tn0 lnR) := tbL_ok (by simp) (by simp)

set_option maxRecDepth 100000 in
theorem nless_ok : CallOk Try.prog 73 (sNLess lnR) := by
  refine .of_run (hc := (tn0 lnR).hc) Try.func73 rfl (by kernel_rfl) (by kernel_rfl) fun xs v ps hs hp w => ?_
  unfold sNLess at hs
  split at hs
  · rename_i f g h
    obtain rfl := nar2_some h
    cases hs
    have hf : bd40 f := hp (lnR.bn f) (by simp)
    have hg : bd40 g := hp (lnR.bn g) (by simp)
    clear hp h
    have hf' := hf
    have hg' := hg
    unfold bd40 at hf' hg'
    refine run_ex hmix ti_ok tn0_ok 0 false 800 [] (fun ar lf => by conv => lhs; cbv) (allP ?_) ?_
    · trivial
    refine Run.cut [2, 3, 5] [5] 2 (by decide) rfl rfl ?_
    refine Run.loop (ι := {i : Int // -1 ≤ i ∧ i ≤ 39 ∧ ∀ j : Nat, i < j → j < 40 → f j = g j})
      (fun i => ([.any, .any, .a (.one (.ptr 0 (.lit 0))), .a (.one (.ptr 1 (.lit 0))), .any, .a (.one (.int .i64 i.1))] ++ List.replicate 18 .any, [some (KN f), some (KN g)]))
      (fun i => (i.1 + 1).toNat) ⟨39, by decide, by decide, fun j h1 h2 => by omega⟩ ?_
    rintro ⟨i, h0, h1, he⟩ ih
    by_cases hn : 0 ≤ i
    · have ei : 0 + i.toNat * 1 = i.toNat := by omega
      have esub : rbin .sub .i64 i 1 = i - 1 := rbin_subi (by omega)
      have emu : (rbin .sub .i64 i 1 + 1).toNat < (i + 1).toNat := by rw [esub]; omega
      by_cases hq : f i.toNat = g i.toNat
      · refine run_ex hmix ti_ok tn0_ok 2 false 800 [true, false] (fun ar lf => by conv => lhs; cbv) (allP ?_) ?_
        · simp only [conj, arR, N.val, rcmp_geq, rcmp_neq, ei, decide_eq_true_eq, decide_eq_false_iff_not]
          and_intros <;> first | trivial | exact fun h => h hq | omega
        · refine Run.cut [2, 3, 5] [5] 2 (by decide) rfl rfl ?_
          refine ih ⟨_, ?_, ?_, ?_⟩ emu _ _
          · simp only [esub]; omega
          · simp only [esub]; omega
          · simp only [esub]
            intro j h2 h3
            by_cases hj : i < j
            · exact he j hj h3
            · rw [show j = i.toNat by omega]; exact hq
      · refine run_ex hmix ti_ok tn0_ok 2 false 800 [true, true] (fun ar lf => by conv => lhs; cbv) (allP ?_) ?_
        · simp only [conj, arR, N.val, rcmp_geq, rcmp_neq, ei, decide_eq_true_eq, decide_eq_false_iff_not]
          and_intros <;> first | trivial | exact hq | omega
        · refine Run.ret ti_ok rfl rfl (.a (.bool ?_))
          simp only [arR, N.val, ei, rcmp_lss']
          show decide _ = decide (V40 f < V40 g)
          rw [decide_eq_decide]
          have he' : ∀ j, i.toNat < j → j < 40 → f j = g j := fun j a b => he j (by omega) b
          constructor
          · intro h; unfold V40; exact pv_lex hf' hg' (by omega) he' h
          · intro h
            apply Decidable.byContradiction
            intro h2
            have : V40 g < V40 f := by unfold V40; exact pv_lex hg' hf' (i := i.toNat) (by omega) (fun j a b => (he' j a b).symm) (by omega)
            omega
    · obtain rfl : i = -1 := by omega
      refine run_ex hmix ti_ok tn0_ok 2 false 800 [false] (fun ar lf => by conv => lhs; cbv) (allP ?_) ?_
      · simp only [conj, arR, rcmp_geq]
        decide
      · refine Run.ret ti_ok rfl rfl (.a (.lbool ?_))
        have : V40 f = V40 g := V40_congr fun j hj => he j (by omega) hj
        exact (decide_eq_false (by omega)).symm
  · cases hs
theorem nzero_ok : CallOk Try.prog 72 (sNZero lnR) := by
  refine .eval (tb := tn0) hmix ti_ok tn0_ok Try.func72 rfl (by kernel_rfl) (by kernel_rfl) fun xs v ps hs hp => ?_
  unfold sNZero at hs
  split at hs
  · rename_i f h
    obtain rfl := nar1_some h
    cases hs
    have hf : bd40 f := hp (lnR.bn f) (by simp)
    refine ⟨800, [], _, fun ar lf => by conv => lhs; cbv, allP ?_, .a (.bool ?_)⟩
    · trivial
    · show ((List.range 40).map f == (List.range 40).map (fun _ => (0 : Int))) = decide (V40 f = 0)
      rw [Bool.eq_iff_iff, beq_iff_eq, decide_eq_true_eq, nzero_iff hf, List.map_inj_left]
      simp only [List.mem_range]
  · cases hs
end Go.Proofs.Ytegcdnjihnpolaa
