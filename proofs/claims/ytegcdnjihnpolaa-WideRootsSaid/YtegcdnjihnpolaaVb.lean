import Derived.Test.YtegcdnjihnpolaaVa
set_option linter.unusedSimpArgs false
set_option linter.unusedVariables false
namespace Go.Proofs.Ytegcdnjihnpolaa
open Go Go.Eng Go.Proofs Go.RowKit
attribute [local irreducible] CallOk HOk Run TIok rbin rcmp run1 words val updF shfF blitF rt

set_option maxRecDepth 100000 in
theorem rroot_ok : CallOk Try.prog 59 (sRoot lfrR) := by
  refine .of_run (hc := (tb17 lfR).hc) Try.func59 rfl (by kernel_rfl) (by kernel_rfl) fun xs v ps hs hp w => ?_
  unfold sRoot at hs
  split at hs
  · rename_i f h
    obtain rfl := arr1_some h
    cases hs
    have hf : bd f := hp (lfR.bd f) (by simp [lfrR])
    clear hp h
    have hvf := val_bd hf
    refine run_ex hmix ti_ok tb17_ok 0 false 800 [] (fun ar lf => by conv => lhs; cbv) (allP ?_) ?_
    · trivial
    refine Run.cut [1, 2, 3, 4] [4] 3 (by decide) rfl rfl ?_
    refine Run.loop (ι := {p : Int × F // -1 ≤ p.1 ∧ p.1 ≤ 127 ∧ (∀ j, j < 4 → p.2 j = words (rt (val f) (p.1 + 1).toNat) j)})
      (fun i => ([.any, .a (.one (.ptr 0 (.lit 0))), .a (.one (.ptr 1 (.lit 0))), .a (.one (.ptr 2 (.lit 0))), .a (.one (.int .i64 i.1.1))] ++ List.replicate 35 .any,
        [some (K4 f), some (K4 fun _ => 0), some (K4 i.1.2)]))
      (fun i => (i.1.1 + 1).toNat) ⟨(127, fun _ => 0), by decide, by decide, ?_⟩ ?_
    · show ∀ j, j < 4 → 0 = words (rt (val f) 128) j
      rw [show rt (val f) 128 = 0 by unfold rt; rfl]
      exact zero_words
    rintro ⟨⟨n, x⟩, h0, h1, hx⟩ ih
    simp only at h0 h1 hx
    by_cases hn : 0 ≤ n
    · have en : (n + 1).toNat = n.toNat + 1 := by omega
      rw [en] at hx
      obtain ⟨b1, b2, b3⟩ := rt_facts (val f) (n := n.toNat) (by omega)
      have hst := rt_step (val f) (n := n.toNat) (by omega)
      have hquo : rbin .quo .i64 n 64 = n / 64 := rbin_quoi hn (by omega) (by decide)
      have hrem : rbin .rem .i64 n 64 = n % 64 := rbin_remi hn
      have hu := (upd_bit hx hn (by omega) b1).2
      have hub : bd _ := bd.congr (fun j hj => (hu j hj).symm) (words_bd _)
      have hno := eqb_zero (b := true) (words_bd _) (decide_eq_true (square_no hu b2 b3))
      have hlow := square_low hu b2 b3
      have esub : rbin .sub .i64 n 1 = n - 1 := rbin_subi (by omega)
      have emu : (rbin .sub .i64 n 1 + 1).toNat < (n + 1).toNat := by rw [esub]; omega
      have esub1 : rbin .sub .i64 n 1 + 1 = n := by rw [esub]; omega
      by_cases hle : (rt (val f) (n.toNat + 1) + p2 n.toNat) * (rt (val f) (n.toNat + 1) + p2 n.toNat) ≤ val f
      · rw [if_pos hle] at hst
        have hcm := (leq_zero (f := lfR.wmulL (updF x (n / 64).toNat (rbin .add .u64 (x (n / 64).toNat) (rbin .shl .u64 1 (n % 64)))) (updF x (n / 64).toNat (rbin .add .u64 (x (n / 64).toNat) (rbin .shl .u64 1 (n % 64))))) (g := f)).trans (decide_eq_true (by rw [hlow]; exact hle))
        refine run_ex hmix ti_ok tb17_ok 2 false 800 [true, true, true] (fun ar lf => by conv => lhs; cbv) (allP ?_) ?_
        · simp only [conj, arR, N.val, hquo, hrem, rcmp_geq n, Nat.zero_add, Nat.mul_one]
          and_intros <;> first | exact hf | exact hub | trivial | exact hno | exact hcm | exact words_bd _ | exact ⟨by omega, by omega⟩ | omega | (simp only [decide_eq_true_eq]; omega)
        · refine Run.cut [1, 2, 3, 4] [] 3 (by decide) rfl rfl ?_
          refine ih ⟨(_, _), ?_, ?_, ?_⟩ emu _ _
          · simp only [esub]; omega
          · simp only [esub]; omega
          · simp only [esub1]
            rw [hst]
            intro j hj; rw [← hu j hj]; simp only [N.val, arR, hquo, hrem, Nat.zero_add, Nat.mul_one]
      · rw [if_neg hle] at hst
        have hcm := (leq_zero (f := lfR.wmulL (updF x (n / 64).toNat (rbin .add .u64 (x (n / 64).toNat) (rbin .shl .u64 1 (n % 64)))) (updF x (n / 64).toNat (rbin .add .u64 (x (n / 64).toNat) (rbin .shl .u64 1 (n % 64))))) (g := f)).trans (decide_eq_false (by rw [hlow]; exact hle))
        refine run_ex hmix ti_ok tb17_ok 2 false 800 [true, true, false] (fun ar lf => by conv => lhs; cbv) (allP ?_) ?_
        · simp only [conj, arR, N.val, hquo, hrem, rcmp_geq n, Nat.zero_add, Nat.mul_one]
          and_intros <;> first | exact hf | exact hub | trivial | exact hno | exact hcm | exact words_bd _ | exact ⟨by omega, by omega⟩ | omega | (simp only [decide_eq_true_eq]; omega)
        · refine Run.cut [1, 2, 3, 4] [] 3 (by decide) rfl rfl ?_
          refine ih ⟨(_, _), ?_, ?_, ?_⟩ emu _ _
          · simp only [esub]; omega
          · simp only [esub]; omega
          · simp only [esub1]
            rw [hst]
            exact hx
    · obtain rfl : n = -1 := by omega
      refine run_ex hmix ti_ok tb17_ok 2 false 800 [false] (fun ar lf => by conv => lhs; cbv) (allP ?_) ?_
      · simp only [conj, arR, rcmp_geq]
        decide
      · exact Run.ret ti_ok rfl rfl (.a (.ints hx))
  · cases hs

def sLaw1r (l : LFr) : ESpec := fun a => match arr1 a with
  | some f => some (.a (.one (.lbool true)), [l.lf.bd f])
  | none => none
def tb18 (l : LFr) : Tbl := tbL [(17, sAwake), (58, sRoot l), (59, sRoot l)] []
theorem tb18_ok : TblOk Try.prog (tb18 lfrR) := tbL_ok (by simpa using ⟨awake_ok, root_ok, rroot_ok⟩) (by simp)
set_option maxRecDepth 100000 in
theorem roots_ok : CallOk Try.prog 8 (sLaw1r lfrR) := by
  refine .eval (tb := tb18) hmix ti_ok tb18_ok Try.func8 rfl (by kernel_rfl) (by kernel_rfl) fun xs v ps hs hp => ?_
  unfold sLaw1r at hs
  split at hs
  · rename_i f h
    obtain rfl := arr1_some h
    cases hs
    have hf : bd f := hp (lfR.bd f) (by simp [lfrR])
    clear hp h
    refine ⟨800, [true], _, fun ar lf => by conv => lhs; cbv, allP ?_, VLe.yes ?_⟩
    · simp only [conj]
      and_intros <;> first | exact hf | trivial
    · exact lEq4 (fun j _ => rfl)
  · cases hs
end Go.Proofs.Ytegcdnjihnpolaa
