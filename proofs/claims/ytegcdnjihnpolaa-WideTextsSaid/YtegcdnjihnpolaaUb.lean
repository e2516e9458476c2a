import Derived.Test.YtegcdnjihnpolaaUa
set_option linter.unusedSimpArgs false
set_option linter.unusedVariables false
namespace Go.Proofs.Ytegcdnjihnpolaa
open Go Go.Eng Go.Proofs Go.RowKit
attribute [local irreducible] CallOk HOk Run TIok rbin rcmp run1 words val updF shfF blitF tgt tlim tgood tval cpt

theorem l5lf : l5R.lf = lfR := rfl
def tc0 (l : L5) : Tbl := tbL [(93, sFrom l.lf)] []
theorem tc0_ok : TblOk Try.prog (tc0 l5R) := tbL_ok (by simpa [l5lf] using from_ok) (by simp)
theorem low_iff {f : F} (hf : bd f) : (arR.lEq [f 0, f 1, f 2, f 3] [lfR.wfrom (f 0) 0, lfR.wfrom (f 0) 1, lfR.wfrom (f 0) 2, lfR.wfrom (f 0) 3] = decide (val f < (18446744073709551616 : Int))) ∧ (val f < (18446744073709551616 : Int) → f 0 = val f) := by
  have hb := hf.at
  have h0 : val (words (f 0)) = f 0 := val_words_of hb.1.1 (by omega)
  have hv : val f = f 0 + (18446744073709551616 : Int) * f 1 + (340282366920938463463374607431768211456 : Int) * f 2 + (6277101735386680763835789423207666416102355444464034512896 : Int) * f 3 := by
    unfold val; omega
  constructor
  · show ([f 0, f 1, f 2, f 3] == [words (f 0) 0, words (f 0) 1, words (f 0) 2, words (f 0) 3]) = _
    rw [Bool.eq_iff_iff, beq_iff_eq, decide_eq_true_eq]
    constructor
    · intro h
      simp only [List.cons.injEq, and_true] at h
      have : val f = val (words (f 0)) := val_congr (four h.1 h.2.1 h.2.2.1 h.2.2.2)
      omega
    · intro h
      have e : val f = val (words (f 0)) := by rw [h0]; omega
      have := (val_eq hf (words_bd _)).1 e
      rw [← this 0 (by decide), ← this 1 (by decide), ← this 2 (by decide), ← this 3 (by decide)]
  · intro h; omega
theorem low_ok : CallOk Try.prog 94 (sLow l5R) := by
  refine .eval (tb := tc0) hmix ti_ok tc0_ok Try.func94 rfl (by kernel_rfl) (by kernel_rfl) fun xs v ps hs hp => ?_
  unfold sLow at hs
  split at hs
  · rename_i f h
    obtain rfl := arr1_some h
    cases hs
    have hf : bd f := hp (lfR.bd f) (by simp [l5R])
    have h0 := hf.at.1
    obtain ⟨l1, l2⟩ := low_iff hf
    by_cases hv : val f < (18446744073709551616 : Int)
    · refine ⟨800, [false], _, fun ar lf => by conv => lhs; cbv, allP ?_, .tup2 (.int ?_) (.lbool ?_)⟩
      · simp only [conj]
        exact ⟨congrArg (fun b => !b) (l1.trans (decide_eq_true hv)), h0, trivial⟩
      · exact (l2 hv).trans (if_pos hv).symm
      · exact (decide_eq_true hv).symm
    · refine ⟨800, [true], _, fun ar lf => by conv => lhs; cbv, allP ?_, .tup2 (.lit ?_) (.lbool ?_)⟩
      · simp only [conj]
        exact ⟨congrArg (fun b => !b) (l1.trans (decide_eq_false hv)), h0, trivial⟩
      · exact (if_neg hv).symm
      · exact (decide_eq_false hv).symm
  · cases hs
def tc1 (l : L5) : Tbl := tbL [(22, sLeft l.lf), (23, sRight l.lf)] []
theorem tc1_ok : TblOk Try.prog (tc1 l5R) := tbL_ok (by simpa [l5lf] using ⟨left_ok, right_ok⟩) (by simp)
theorem shifted_ok : CallOk Try.prog 112 (sShifted l5R) := by
  refine .evalN (tb := tc1) hmix ti_ok tc1_ok Try.func112 rfl (by kernel_rfl) (by kernel_rfl) (arrI_norm5 (g := fun f n => (.a (W (l5R.sh f n)), [l5R.lf.bd f, l5R.sz n])) (fun l => rfl)) fun xs v ps hn hs hp => ?_
  unfold sShifted at hs
  split at hs
  · rename_i f n h
    obtain rfl := arrI_int h hn
    cases hs
    have hf : bd f := hp (lfR.bd f) (by simp [l5R])
    have hi : -300 ≤ n ∧ n ≤ 300 := hp (l5R.sz n) (by simp)
    clear hp h hn
    by_cases h0 : n < 0
    · have e1 : run1 .neg .i64 n = -n := neg_i64 (by omega)
      have e2 : rbin .mul .i64 (run1 .neg .i64 n) 8 = -n * 8 := by rw [e1]; exact rbin_muli (by omega)
      refine ⟨800, [true], _, fun ar lf => by conv => lhs; cbv, allP ?_, .a (.ints fun j _ => ?_)⟩
      · simp only [conj]
        refine ⟨hf, ?_, ?_, trivial⟩
        · show -9223372036854775808 ≤ rbin .mul .i64 (run1 .neg .i64 n) 8 ∧ rbin .mul .i64 (run1 .neg .i64 n) 8 ≤ 9223372036854775807
          rw [e2]; omega
        · show rcmp .lss n 0 = true
          rw [rcmp_lss]; exact decide_eq_true h0
      · show words (shl (val f) (-(rbin .mul .i64 (run1 .neg .i64 n) 8))) j = words (shl (val f) (8 * n)) j
        rw [e2, show -(-n * 8) = 8 * n by omega]
    · have e2 : rbin .mul .i64 n 8 = n * 8 := rbin_muli (by omega)
      refine ⟨800, [false], _, fun ar lf => by conv => lhs; cbv, allP ?_, .a (.ints fun j _ => ?_)⟩
      · simp only [conj]
        refine ⟨hf, ?_, ?_, trivial⟩
        · show -9223372036854775808 ≤ rbin .mul .i64 n 8 ∧ rbin .mul .i64 n 8 ≤ 9223372036854775807
          rw [e2]; omega
        · show rcmp .lss n 0 = false
          rw [rcmp_lss]; exact decide_eq_false h0
      · show words (shl (val f) (rbin .mul .i64 n 8)) j = words (shl (val f) (8 * n)) j
        rw [e2, Int.mul_comm]
  · cases hs
end Go.Proofs.Ytegcdnjihnpolaa
