import Derived.Test.YtegcdnjihnpolaaWi
set_option linter.unusedSimpArgs false
set_option linter.unusedVariables false
namespace Go.Proofs.Ytegcdnjihnpolaa
open Go Go.Eng Go.Proofs Go.RowKit
attribute [local irreducible] CallOk HOk Run TIok rbin rcmp run1 words val updF shfF blitF

theorem words_hi {x : Int} {j : Nat} (h0 : 0 ≤ x) (h1 : x < (115792089237316195423570985008687907853269984665640564039457584007913129639936 : Int)) (hj : 4 ≤ j) : words x j = 0 := by
  unfold words
  rw [m64_pow]
  have : p2 256 ≤ p2 (64 * j) := p2_le (by omega)
  rw [p2_256] at this
  rw [Int.ediv_eq_zero_of_lt h0 (by omega)]; rfl
theorem wright_pos {f : F} {n : Int} {m : Nat} (h : n = m) : lfR.wright f n = words (val f / p2 m) := by
  subst h
  show words (shl _ _) = _
  unfold shl
  split
  · have : m = 0 := by omega
    subst this
    rw [show (-((0 : Nat) : Int)).toNat = 0 from rfl, show p2 0 = 1 from rfl]; simp
  · rw [Int.neg_neg, Int.toNat_natCast]
theorem words_d (x : Int) (j : Nat) : words (x / (18446744073709551616 : Int)) j = words x (j + 1) := (words_succ x j).symm

set_option maxRecDepth 100000 in
theorem right0_ok : CallOk Try.prog 23 (sRight0 lfR) := by
  refine .evalN (tb := tb3) hmix ti_ok tb3_ok Try.func23 rfl (by kernel_rfl) (by kernel_rfl) (arrI_spec_norm (g := fun lf f n => (.a (W (lf.wright f n)), [lf.bd f, lf.nn n])) (fun l => rfl)) fun xs v ps hn hs hp => ?_
  unfold sRight0 at hs
  split at hs
  · rename_i f n h
    obtain rfl := arrI_int h hn
    cases hs
    have hf : bd f := hp (lfR.bd f) (by simp)
    have hi : 0 ≤ n ∧ n ≤ 9223372036854775807 := hp (lfR.nn n) (by simp)
    clear hp hn h
    have hv := val_bd hf
    by_cases h256 : 256 ≤ n
    · obtain ⟨m, hm⟩ := Int.eq_ofNat_of_zero_le hi.1
      refine ⟨800, [false, true], _, fun ar lf => by conv => lhs; cbv, ?_, ?_⟩
      · refine allP ?_
        simp only [conj, arR, rcmp_lss, rcmp_geq, decide_eq_true_eq, decide_eq_false_iff_not]
        exact ⟨by omega, by omega, trivial⟩
      · refine .a (.ints fun j hj => ?_)
        have : p2 256 ≤ p2 m := p2_le (by omega)
        rw [p2_256] at this
        rw [wright_pos hm, Int.ediv_eq_zero_of_lt hv.1 (by omega)]
        match j, hj with
        | 0, _ => decide +kernel
        | 1, _ => decide +kernel
        | 2, _ => decide +kernel
        | 3, _ => decide +kernel
    · obtain ⟨s, hs⟩ := Int.eq_ofNat_of_zero_le (Int.emod_nonneg n (by decide : (64 : Int) ≠ 0))
      have hs64 : s < 64 := by omega
      have hr : rbin .rem .i64 n 64 = (s : Int) := by rw [rbin_remi hi.1]; omega
      have hsub : rbin .sub .i64 64 (s : Int) = ((64 - s : Nat) : Int) := by rw [rbin_subi (by omega)]; omega
      obtain ⟨w0, w1, w2, w3⟩ := shr_words hf hs64
      have hx0 : 0 ≤ val f / p2 s := Int.ediv_nonneg hv.1 (Int.le_of_lt (p2_pos s))
      have hx1 : val f / p2 s < (115792089237316195423570985008687907853269984665640564039457584007913129639936 : Int) := by have := Int.ediv_le_self (p2 s) hv.1; omega
      have hq' := rbin_quoi hi.1 hi.2 (by decide : (0 : Int) < 64)
      have : n / 64 = 0 ∨ n / 64 = 1 ∨ n / 64 = 2 ∨ n / 64 = 3 := by omega
      rcases this with hq | hq | hq | hq
      · rw [hq] at hq'
        have hw : lfR.wright f n = words (val f / p2 s) := by
          rw [wright_pos (m := s + 0) (by omega), p2_add]
          congr 1
          rw [← Int.ediv_ediv_of_nonneg (Int.le_of_lt (p2_pos s))]
          have : p2 0 = 1 := by decide
          rw [this]; omega
        refine ⟨800, [false, false, true, true, true, true, true, true, true, false, false], _, fun ar lf => by conv => lhs; cbv, ?_, ?_⟩
        · refine allP ?_
          simp (disch := omega) only [conj, arR, N.val, hq', hr, hsub, rbin_subi, rbin_addi, rcmp_geq, rcmp_lss, rcmp_gtr, Int.reduceSub, Int.reduceAdd, Int.reduceToNat, Nat.reduceMul, Nat.reduceAdd, Nat.zero_add, Nat.mul_one, Int.reduceNeg, decide_eq_true_eq, decide_eq_false_iff_not]
          and_intros <;> first | exact hf | trivial | omega
        · refine .a (.ints (four ?_ ?_ ?_ ?_))
          · simp (disch := omega) only [arR, N.val, hq', hr, hsub, rbin_subi, rbin_addi, rcmp_geq, rcmp_lss, rcmp_gtr, Int.reduceSub, Int.reduceAdd, Int.reduceToNat, Nat.reduceMul, Nat.reduceAdd, Nat.zero_add, Nat.mul_one, Int.reduceNeg]
            rw [hw]; exact w0.symm
          · simp (disch := omega) only [arR, N.val, hq', hr, hsub, rbin_subi, rbin_addi, rcmp_geq, rcmp_lss, rcmp_gtr, Int.reduceSub, Int.reduceAdd, Int.reduceToNat, Nat.reduceMul, Nat.reduceAdd, Nat.zero_add, Nat.mul_one, Int.reduceNeg]
            rw [hw]; exact w1.symm
          · simp (disch := omega) only [arR, N.val, hq', hr, hsub, rbin_subi, rbin_addi, rcmp_geq, rcmp_lss, rcmp_gtr, Int.reduceSub, Int.reduceAdd, Int.reduceToNat, Nat.reduceMul, Nat.reduceAdd, Nat.zero_add, Nat.mul_one, Int.reduceNeg]
            rw [hw]; exact w2.symm
          · simp (disch := omega) only [arR, N.val, hq', hr, hsub, rbin_subi, rbin_addi, rcmp_geq, rcmp_lss, rcmp_gtr, Int.reduceSub, Int.reduceAdd, Int.reduceToNat, Nat.reduceMul, Nat.reduceAdd, Nat.zero_add, Nat.mul_one, Int.reduceNeg]
            rw [hw]; exact w3.symm
      · rw [hq] at hq'
        have hw : lfR.wright f n = words (val f / p2 s / (18446744073709551616 : Int)) := by
          rw [wright_pos (m := s + 64) (by omega), p2_add]
          congr 1
          rw [← Int.ediv_ediv_of_nonneg (Int.le_of_lt (p2_pos s))]
          have : p2 64 = 1 * (18446744073709551616 : Int) := by decide
          rw [this]; omega
        refine ⟨800, [false, false, true, true, true, true, true, false, false], _, fun ar lf => by conv => lhs; cbv, ?_, ?_⟩
        · refine allP ?_
          simp (disch := omega) only [conj, arR, N.val, hq', hr, hsub, rbin_subi, rbin_addi, rcmp_geq, rcmp_lss, rcmp_gtr, Int.reduceSub, Int.reduceAdd, Int.reduceToNat, Nat.reduceMul, Nat.reduceAdd, Nat.zero_add, Nat.mul_one, Int.reduceNeg, decide_eq_true_eq, decide_eq_false_iff_not]
          and_intros <;> first | exact hf | trivial | omega
        · refine .a (.ints (four ?_ ?_ ?_ ?_))
          · simp (disch := omega) only [arR, N.val, hq', hr, hsub, rbin_subi, rbin_addi, rcmp_geq, rcmp_lss, rcmp_gtr, Int.reduceSub, Int.reduceAdd, Int.reduceToNat, Nat.reduceMul, Nat.reduceAdd, Nat.zero_add, Nat.mul_one, Int.reduceNeg]
            rw [hw, words_d]; exact w1.symm
          · simp (disch := omega) only [arR, N.val, hq', hr, hsub, rbin_subi, rbin_addi, rcmp_geq, rcmp_lss, rcmp_gtr, Int.reduceSub, Int.reduceAdd, Int.reduceToNat, Nat.reduceMul, Nat.reduceAdd, Nat.zero_add, Nat.mul_one, Int.reduceNeg]
            rw [hw, words_d]; exact w2.symm
          · simp (disch := omega) only [arR, N.val, hq', hr, hsub, rbin_subi, rbin_addi, rcmp_geq, rcmp_lss, rcmp_gtr, Int.reduceSub, Int.reduceAdd, Int.reduceToNat, Nat.reduceMul, Nat.reduceAdd, Nat.zero_add, Nat.mul_one, Int.reduceNeg]
            rw [hw, words_d]; exact w3.symm
          · simp (disch := omega) only [arR, N.val, hq', hr, hsub, rbin_subi, rbin_addi, rcmp_geq, rcmp_lss, rcmp_gtr, Int.reduceSub, Int.reduceAdd, Int.reduceToNat, Nat.reduceMul, Nat.reduceAdd, Nat.zero_add, Nat.mul_one, Int.reduceNeg]
            rw [hw, words_d, words_hi hx0 hx1 (by decide)]; rfl
      · rw [hq] at hq'
        have hw : lfR.wright f n = words (val f / p2 s / (18446744073709551616 : Int) / (18446744073709551616 : Int)) := by
          rw [wright_pos (m := s + 128) (by omega), p2_add]
          congr 1
          rw [← Int.ediv_ediv_of_nonneg (Int.le_of_lt (p2_pos s))]
          have : p2 128 = 1 * (18446744073709551616 : Int) * (18446744073709551616 : Int) := by decide
          rw [this]; omega
        refine ⟨800, [false, false, true, true, true, false, false], _, fun ar lf => by conv => lhs; cbv, ?_, ?_⟩
        · refine allP ?_
          simp (disch := omega) only [conj, arR, N.val, hq', hr, hsub, rbin_subi, rbin_addi, rcmp_geq, rcmp_lss, rcmp_gtr, Int.reduceSub, Int.reduceAdd, Int.reduceToNat, Nat.reduceMul, Nat.reduceAdd, Nat.zero_add, Nat.mul_one, Int.reduceNeg, decide_eq_true_eq, decide_eq_false_iff_not]
          and_intros <;> first | exact hf | trivial | omega
        · refine .a (.ints (four ?_ ?_ ?_ ?_))
          · simp (disch := omega) only [arR, N.val, hq', hr, hsub, rbin_subi, rbin_addi, rcmp_geq, rcmp_lss, rcmp_gtr, Int.reduceSub, Int.reduceAdd, Int.reduceToNat, Nat.reduceMul, Nat.reduceAdd, Nat.zero_add, Nat.mul_one, Int.reduceNeg]
            rw [hw, words_d, words_d]; exact w2.symm
          · simp (disch := omega) only [arR, N.val, hq', hr, hsub, rbin_subi, rbin_addi, rcmp_geq, rcmp_lss, rcmp_gtr, Int.reduceSub, Int.reduceAdd, Int.reduceToNat, Nat.reduceMul, Nat.reduceAdd, Nat.zero_add, Nat.mul_one, Int.reduceNeg]
            rw [hw, words_d, words_d]; exact w3.symm
          · simp (disch := omega) only [arR, N.val, hq', hr, hsub, rbin_subi, rbin_addi, rcmp_geq, rcmp_lss, rcmp_gtr, Int.reduceSub, Int.reduceAdd, Int.reduceToNat, Nat.reduceMul, Nat.reduceAdd, Nat.zero_add, Nat.mul_one, Int.reduceNeg]
            rw [hw, words_d, words_d, words_hi hx0 hx1 (by decide)]; rfl
          · simp (disch := omega) only [arR, N.val, hq', hr, hsub, rbin_subi, rbin_addi, rcmp_geq, rcmp_lss, rcmp_gtr, Int.reduceSub, Int.reduceAdd, Int.reduceToNat, Nat.reduceMul, Nat.reduceAdd, Nat.zero_add, Nat.mul_one, Int.reduceNeg]
            rw [hw, words_d, words_d, words_hi hx0 hx1 (by decide)]; rfl
      · rw [hq] at hq'
        have hw : lfR.wright f n = words (val f / p2 s / (18446744073709551616 : Int) / (18446744073709551616 : Int) / (18446744073709551616 : Int)) := by
          rw [wright_pos (m := s + 192) (by omega), p2_add]
          congr 1
          rw [← Int.ediv_ediv_of_nonneg (Int.le_of_lt (p2_pos s))]
          have : p2 192 = 1 * (18446744073709551616 : Int) * (18446744073709551616 : Int) * (18446744073709551616 : Int) := by decide
          rw [this]; omega
        refine ⟨800, [false, false, true, false, false], _, fun ar lf => by conv => lhs; cbv, ?_, ?_⟩
        · refine allP ?_
          simp (disch := omega) only [conj, arR, N.val, hq', hr, hsub, rbin_subi, rbin_addi, rcmp_geq, rcmp_lss, rcmp_gtr, Int.reduceSub, Int.reduceAdd, Int.reduceToNat, Nat.reduceMul, Nat.reduceAdd, Nat.zero_add, Nat.mul_one, Int.reduceNeg, decide_eq_true_eq, decide_eq_false_iff_not]
          and_intros <;> first | exact hf | trivial | omega
        · refine .a (.ints (four ?_ ?_ ?_ ?_))
          · simp (disch := omega) only [arR, N.val, hq', hr, hsub, rbin_subi, rbin_addi, rcmp_geq, rcmp_lss, rcmp_gtr, Int.reduceSub, Int.reduceAdd, Int.reduceToNat, Nat.reduceMul, Nat.reduceAdd, Nat.zero_add, Nat.mul_one, Int.reduceNeg]
            rw [hw, words_d, words_d, words_d]; exact w3.symm
          · simp (disch := omega) only [arR, N.val, hq', hr, hsub, rbin_subi, rbin_addi, rcmp_geq, rcmp_lss, rcmp_gtr, Int.reduceSub, Int.reduceAdd, Int.reduceToNat, Nat.reduceMul, Nat.reduceAdd, Nat.zero_add, Nat.mul_one, Int.reduceNeg]
            rw [hw, words_d, words_d, words_d, words_hi hx0 hx1 (by decide)]; rfl
          · simp (disch := omega) only [arR, N.val, hq', hr, hsub, rbin_subi, rbin_addi, rcmp_geq, rcmp_lss, rcmp_gtr, Int.reduceSub, Int.reduceAdd, Int.reduceToNat, Nat.reduceMul, Nat.reduceAdd, Nat.zero_add, Nat.mul_one, Int.reduceNeg]
            rw [hw, words_d, words_d, words_d, words_hi hx0 hx1 (by decide)]; rfl
          · simp (disch := omega) only [arR, N.val, hq', hr, hsub, rbin_subi, rbin_addi, rcmp_geq, rcmp_lss, rcmp_gtr, Int.reduceSub, Int.reduceAdd, Int.reduceToNat, Nat.reduceMul, Nat.reduceAdd, Nat.zero_add, Nat.mul_one, Int.reduceNeg]
            rw [hw, words_d, words_d, words_d, words_hi hx0 hx1 (by decide)]; rfl
  · cases hs
end Go.Proofs.Ytegcdnjihnpolaa
