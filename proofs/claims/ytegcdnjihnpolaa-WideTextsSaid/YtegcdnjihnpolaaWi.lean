import Derived.Test.YtegcdnjihnpolaaWh
set_option linter.unusedSimpArgs false
set_option linter.unusedVariables false
namespace Go.Eng
open Go
def sLeft0 (lf : LF) : ESpec := fun l => match arrI l with
  | some (f, n) => some (.tup [W (lf.wleft f n), B (lf.wleftB f n)], [lf.bd f, lf.nn n])
  | none => none
def sRight0 (lf : LF) : ESpec := fun l => match arrI l with
  | some (f, n) => some (.a (W (lf.wright f n)), [lf.bd f, lf.nn n])
  | none => none
def sLeft (lf : LF) : ESpec := fun l => match arrI l with
  | some (f, n) => some (.tup [W (lf.wleft f n), B (lf.wleftB f n)], [lf.bd f, lf.i64 n])
  | none => none
def sRight (lf : LF) : ESpec := fun l => match arrI l with
  | some (f, n) => some (.a (W (lf.wright f n)), [lf.bd f, lf.i64 n])
  | none => none
end Go.Eng
namespace Go.Proofs.Ytegcdnjihnpolaa
open Go Go.Eng Go.Proofs Go.RowKit
attribute [local irreducible] CallOk HOk Run TIok rbin rcmp run1 words val updF shfF blitF

theorem arrI_spec_norm {g : LF → F → Int → V × List Prop} {s : ESpec} {lf : LF} (hs : ∀ l, s l = match arrI l with
  | some (f, n) => some (g lf f n)
  | none => none) : ∀ l r, s l = some r → s (l.map A.norm) = some r := by
  intro l r h
  rw [hs] at h ⊢
  split at h
  · rename_i x n h1
    rw [arrI_norm h1]; exact h
  · cases h

def tb3 (lf : LF) : Tbl := tbL [(104, sAdd64 lf), (105, sSub64 lf), (106, sMul64 lf), (98, sLen64 lf), (93, sFrom lf), (55, sZero lf), (46, sAdd lf), (47, sSub lf), (53, sNot lf), (20, sBit lf), (21, sBit lf), (18, sBits lf), (19, sBits lf)] []
theorem tb3_ok : TblOk Try.prog (tb3 lfR) := tbL_ok (by simpa using ⟨add64_ok, sub64_ok, mul64_ok, len64_ok, from_ok, zero_ok, add_ok, sub_ok, not_ok, bit_ok, rbit_ok, bits_ok, rbits_ok⟩) (by simp)

theorem wbits_le {f : F} (hf : bd f) : 0 ≤ lfR.wbits f ∧ lfR.wbits f ≤ 256 := by
  show 0 ≤ ((bitLen (val f).toNat : Nat) : Int) ∧ ((bitLen (val f).toNat : Nat) : Int) ≤ 256
  have h := bitLen_le 256 (val f) (by rw [p2_256]; exact (val_bd hf).2)
  omega
theorem words_m0 (x : Int) : words (x * (18446744073709551616 : Int)) 0 = 0 := (words_mul x 0).1
theorem words_m1 (x : Int) : words (x * (18446744073709551616 : Int)) 1 = words x 0 := (words_mul x 0).2
theorem words_m2 (x : Int) : words (x * (18446744073709551616 : Int)) 2 = words x 1 := (words_mul x 1).2
theorem words_m3 (x : Int) : words (x * (18446744073709551616 : Int)) 3 = words x 2 := (words_mul x 2).2
theorem wleft_pos {f : F} {n : Int} {m : Nat} (h : n = m) : lfR.wleft f n = words (val f * p2 m) := by
  subst h
  show words (shl _ _) = _
  unfold shl
  rw [if_pos (by omega), Int.toNat_natCast]
theorem wleftB_pos {f : F} {n : Int} {m : Nat} (h : n = m) : lfR.wleftB f n = decide ((115792089237316195423570985008687907853269984665640564039457584007913129639936 : Int) ≤ val f * p2 m) := by
  subst h
  show decide ((115792089237316195423570985008687907853269984665640564039457584007913129639936 : Int) ≤ shl _ _) = _
  unfold shl
  rw [if_pos (by omega), Int.toNat_natCast]
theorem bitLen_gt {x : Int} {n : Nat} (hx : 0 ≤ x) : bitLen x.toNat ≤ n ↔ x < p2 n := by
  refine ⟨fun h => ?_, bitLen_le n x⟩
  obtain ⟨k, rfl⟩ := Int.eq_ofNat_of_zero_le hx
  simp only [Int.toNat_natCast] at h
  have h1 := (bitLen_spec k).1
  have h2 : 2 ^ bitLen k ≤ 2 ^ n := Nat.pow_le_pow_right (by decide) h
  rw [p2_nat]
  exact Int.ofNat_lt.2 (Nat.lt_of_lt_of_le h1 h2)
theorem lost_eq {f : F} (hf : bd f) {n : Int} {m : Nat} (h : n = m) (hm : m ≤ 256) : decide (lfR.wbits f + n > 256) = lfR.wleftB f n := by
  rw [wleftB_pos h, Bool.eq_iff_iff, decide_eq_true_eq, decide_eq_true_eq]
  have hv := (val_bd hf).1
  have e := bitLen_gt (n := 256 - m) hv
  have em : p2 (256 - m) * p2 m = (115792089237316195423570985008687907853269984665640564039457584007913129639936 : Int) := by rw [← p2_add, Nat.sub_add_cancel hm, p2_256]
  have hp := p2_pos m
  show ((bitLen (val f).toNat : Nat) : Int) + n > 256 ↔ _
  rw [← em]
  constructor
  · intro h1
    have : ¬ val f < p2 (256 - m) := fun h2 => by have := e.2 h2; omega
    exact Int.mul_le_mul_of_nonneg_right (by omega) (by omega)
  · intro h1
    have h2 := Int.le_of_mul_le_mul_right h1 hp
    have : ¬ bitLen (val f).toNat ≤ 256 - m := fun h3 => by have := e.1 h3; omega
    omega

set_option maxRecDepth 100000 in
theorem left0_ok : CallOk Try.prog 22 (sLeft0 lfR) := by
  refine .evalN (tb := tb3) hmix ti_ok tb3_ok Try.func22 rfl (by kernel_rfl) (by kernel_rfl) (arrI_spec_norm (g := fun lf f n => (.tup [W (lf.wleft f n), B (lf.wleftB f n)], [lf.bd f, lf.nn n])) (fun l => rfl)) fun xs v ps hn hs hp => ?_
  unfold sLeft0 at hs
  split at hs
  · rename_i f n h
    obtain rfl := arrI_int h hn
    cases hs
    have hf : bd f := hp (lfR.bd f) (by simp)
    have hi : 0 ≤ n ∧ n ≤ 9223372036854775807 := hp (lfR.nn n) (by simp)
    clear hp hn h
    have hv := val_bd hf
    have hbl := wbits_le hf
    by_cases h256 : 256 ≤ n
    · obtain ⟨m, hm⟩ := Int.eq_ofNat_of_zero_le hi.1
      refine ⟨800, [false, true], _, fun ar lf => by conv => lhs; cbv, ?_, ?_⟩
      · refine allP ?_
        simp only [conj, arR, rcmp_lss, rcmp_geq, decide_eq_true_eq, decide_eq_false_iff_not]
        exact ⟨hf, by omega, by omega, trivial⟩
      · have em : p2 m = p2 (m - 256) * (115792089237316195423570985008687907853269984665640564039457584007913129639936 : Int) := by rw [← p2_256, ← p2_add]; congr 1; omega
        refine .tup2 (.ints fun j hj => ?_) (.bool ?_)
        · rw [wleft_pos hm, em, ← Int.mul_assoc]
          have := words_congr (m := 0) (n := val f * p2 (m - 256) * (115792089237316195423570985008687907853269984665640564039457584007913129639936 : Int)) (by rw [Int.mul_emod_left]; rfl) j hj
          rw [← this]
          match j, hj with
          | 0, _ => decide +kernel
          | 1, _ => decide +kernel
          | 2, _ => decide +kernel
          | 3, _ => decide +kernel
        · show (!decide (val f = 0)) = _
          rw [wleftB_pos hm, em, Bool.eq_iff_iff]
          have hp := p2_pos (m - 256)
          simp only [Bool.not_eq_true', decide_eq_false_iff_not, decide_eq_true_eq]
          constructor
          · intro h1
            have := Int.mul_le_mul (show 1 ≤ val f by omega) (show (115792089237316195423570985008687907853269984665640564039457584007913129639936 : Int) ≤ p2 (m - 256) * (115792089237316195423570985008687907853269984665640564039457584007913129639936 : Int) by
              have := Int.mul_le_mul_of_nonneg_right (show 1 ≤ p2 (m - 256) by omega) (show (0 : Int) ≤ (115792089237316195423570985008687907853269984665640564039457584007913129639936 : Int) by decide)
              omega) (by decide) hv.1
            omega
          · intro h1 h2
            rw [h2] at h1; omega
    · obtain ⟨s, hs⟩ := Int.eq_ofNat_of_zero_le (Int.emod_nonneg n (by decide : (64 : Int) ≠ 0))
      have hs64 : s < 64 := by omega
      have hr : rbin .rem .i64 n 64 = (s : Int) := by rw [rbin_remi hi.1]; omega
      have hsub : rbin .sub .i64 64 (s : Int) = ((64 - s : Nat) : Int) := by rw [rbin_subi (by omega)]; omega
      obtain ⟨w0, w1, w2, w3⟩ := shl_words hf hs64
      have hlost : rbin .add .i64 (lfR.wbits f) n = lfR.wbits f + n := rbin_addi (by omega)
      have hq' := rbin_quoi hi.1 hi.2 (by decide : (0 : Int) < 64)
      have hl2 := lost_eq hf (n := n) (m := n.toNat) (by omega) (by omega)
      have : n / 64 = 0 ∨ n / 64 = 1 ∨ n / 64 = 2 ∨ n / 64 = 3 := by omega
      rcases this with hq | hq | hq | hq
      · rw [hq] at hq'
        have hw : lfR.wleft f n = words (val f * p2 s) := by
          rw [wleft_pos (m := s + 0) (by omega), p2_add]
          congr 1
          rw [← Int.mul_assoc]
          have : p2 0 = 1 := by decide
          rw [this]; omega
        refine ⟨800, [false, false, true, true, true, true, true, true, true, false, false], _, fun ar lf => by conv => lhs; cbv, ?_, ?_⟩
        · refine allP ?_
          simp (disch := omega) only [conj, arR, N.val, hq', hr, hsub, rbin_subi, rbin_addi, hlost, rcmp_geq, rcmp_lss, rcmp_gtr, Int.reduceSub, Int.reduceAdd, Int.reduceToNat, Nat.reduceMul, Nat.reduceAdd, Nat.zero_add, Nat.mul_one, Int.reduceNeg, decide_eq_true_eq, decide_eq_false_iff_not]
          and_intros <;> first | exact hf | trivial | omega
        · refine .tup2 (.ints (four ?_ ?_ ?_ ?_)) (.bool ?_)
          · simp (disch := omega) only [arR, N.val, hq', hr, hsub, rbin_subi, rbin_addi, hlost, rcmp_geq, rcmp_lss, rcmp_gtr, Int.reduceSub, Int.reduceAdd, Int.reduceToNat, Nat.reduceMul, Nat.reduceAdd, Nat.zero_add, Nat.mul_one, Int.reduceNeg]
            rw [hw]; exact w0.symm
          · simp (disch := omega) only [arR, N.val, hq', hr, hsub, rbin_subi, rbin_addi, hlost, rcmp_geq, rcmp_lss, rcmp_gtr, Int.reduceSub, Int.reduceAdd, Int.reduceToNat, Nat.reduceMul, Nat.reduceAdd, Nat.zero_add, Nat.mul_one, Int.reduceNeg]
            rw [hw]; exact w1.symm
          · simp (disch := omega) only [arR, N.val, hq', hr, hsub, rbin_subi, rbin_addi, hlost, rcmp_geq, rcmp_lss, rcmp_gtr, Int.reduceSub, Int.reduceAdd, Int.reduceToNat, Nat.reduceMul, Nat.reduceAdd, Nat.zero_add, Nat.mul_one, Int.reduceNeg]
            rw [hw]; exact w2.symm
          · simp (disch := omega) only [arR, N.val, hq', hr, hsub, rbin_subi, rbin_addi, hlost, rcmp_geq, rcmp_lss, rcmp_gtr, Int.reduceSub, Int.reduceAdd, Int.reduceToNat, Nat.reduceMul, Nat.reduceAdd, Nat.zero_add, Nat.mul_one, Int.reduceNeg]
            rw [hw]; exact w3.symm
          · simp (disch := omega) only [arR, N.val, hq', hr, hsub, rbin_subi, rbin_addi, hlost, rcmp_geq, rcmp_lss, rcmp_gtr, Int.reduceSub, Int.reduceAdd, Int.reduceToNat, Nat.reduceMul, Nat.reduceAdd, Nat.zero_add, Nat.mul_one, Int.reduceNeg]
            exact hl2
      · rw [hq] at hq'
        have hw : lfR.wleft f n = words (val f * p2 s * (18446744073709551616 : Int)) := by
          rw [wleft_pos (m := s + 64) (by omega), p2_add]
          congr 1
          rw [← Int.mul_assoc]
          have : p2 64 = 1 * (18446744073709551616 : Int) := by decide
          rw [this]; omega
        refine ⟨800, [false, false, true, true, true, true, true, false, false], _, fun ar lf => by conv => lhs; cbv, ?_, ?_⟩
        · refine allP ?_
          simp (disch := omega) only [conj, arR, N.val, hq', hr, hsub, rbin_subi, rbin_addi, hlost, rcmp_geq, rcmp_lss, rcmp_gtr, Int.reduceSub, Int.reduceAdd, Int.reduceToNat, Nat.reduceMul, Nat.reduceAdd, Nat.zero_add, Nat.mul_one, Int.reduceNeg, decide_eq_true_eq, decide_eq_false_iff_not]
          and_intros <;> first | exact hf | trivial | omega
        · refine .tup2 (.ints (four ?_ ?_ ?_ ?_)) (.bool ?_)
          · simp (disch := omega) only [arR, N.val, hq', hr, hsub, rbin_subi, rbin_addi, hlost, rcmp_geq, rcmp_lss, rcmp_gtr, Int.reduceSub, Int.reduceAdd, Int.reduceToNat, Nat.reduceMul, Nat.reduceAdd, Nat.zero_add, Nat.mul_one, Int.reduceNeg]
            rw [hw, words_m0]; rfl
          · simp (disch := omega) only [arR, N.val, hq', hr, hsub, rbin_subi, rbin_addi, hlost, rcmp_geq, rcmp_lss, rcmp_gtr, Int.reduceSub, Int.reduceAdd, Int.reduceToNat, Nat.reduceMul, Nat.reduceAdd, Nat.zero_add, Nat.mul_one, Int.reduceNeg]
            rw [hw, words_m1]; exact w0.symm
          · simp (disch := omega) only [arR, N.val, hq', hr, hsub, rbin_subi, rbin_addi, hlost, rcmp_geq, rcmp_lss, rcmp_gtr, Int.reduceSub, Int.reduceAdd, Int.reduceToNat, Nat.reduceMul, Nat.reduceAdd, Nat.zero_add, Nat.mul_one, Int.reduceNeg]
            rw [hw, words_m2]; exact w1.symm
          · simp (disch := omega) only [arR, N.val, hq', hr, hsub, rbin_subi, rbin_addi, hlost, rcmp_geq, rcmp_lss, rcmp_gtr, Int.reduceSub, Int.reduceAdd, Int.reduceToNat, Nat.reduceMul, Nat.reduceAdd, Nat.zero_add, Nat.mul_one, Int.reduceNeg]
            rw [hw, words_m3]; exact w2.symm
          · simp (disch := omega) only [arR, N.val, hq', hr, hsub, rbin_subi, rbin_addi, hlost, rcmp_geq, rcmp_lss, rcmp_gtr, Int.reduceSub, Int.reduceAdd, Int.reduceToNat, Nat.reduceMul, Nat.reduceAdd, Nat.zero_add, Nat.mul_one, Int.reduceNeg]
            exact hl2
      · rw [hq] at hq'
        have hw : lfR.wleft f n = words (val f * p2 s * (18446744073709551616 : Int) * (18446744073709551616 : Int)) := by
          rw [wleft_pos (m := s + 128) (by omega), p2_add]
          congr 1
          rw [← Int.mul_assoc]
          have : p2 128 = 1 * (18446744073709551616 : Int) * (18446744073709551616 : Int) := by decide
          rw [this]; omega
        refine ⟨800, [false, false, true, true, true, false, false], _, fun ar lf => by conv => lhs; cbv, ?_, ?_⟩
        · refine allP ?_
          simp (disch := omega) only [conj, arR, N.val, hq', hr, hsub, rbin_subi, rbin_addi, hlost, rcmp_geq, rcmp_lss, rcmp_gtr, Int.reduceSub, Int.reduceAdd, Int.reduceToNat, Nat.reduceMul, Nat.reduceAdd, Nat.zero_add, Nat.mul_one, Int.reduceNeg, decide_eq_true_eq, decide_eq_false_iff_not]
          and_intros <;> first | exact hf | trivial | omega
        · refine .tup2 (.ints (four ?_ ?_ ?_ ?_)) (.bool ?_)
          · simp (disch := omega) only [arR, N.val, hq', hr, hsub, rbin_subi, rbin_addi, hlost, rcmp_geq, rcmp_lss, rcmp_gtr, Int.reduceSub, Int.reduceAdd, Int.reduceToNat, Nat.reduceMul, Nat.reduceAdd, Nat.zero_add, Nat.mul_one, Int.reduceNeg]
            rw [hw, words_m0]; rfl
          · simp (disch := omega) only [arR, N.val, hq', hr, hsub, rbin_subi, rbin_addi, hlost, rcmp_geq, rcmp_lss, rcmp_gtr, Int.reduceSub, Int.reduceAdd, Int.reduceToNat, Nat.reduceMul, Nat.reduceAdd, Nat.zero_add, Nat.mul_one, Int.reduceNeg]
            rw [hw, words_m1, words_m0]; rfl
          · simp (disch := omega) only [arR, N.val, hq', hr, hsub, rbin_subi, rbin_addi, hlost, rcmp_geq, rcmp_lss, rcmp_gtr, Int.reduceSub, Int.reduceAdd, Int.reduceToNat, Nat.reduceMul, Nat.reduceAdd, Nat.zero_add, Nat.mul_one, Int.reduceNeg]
            rw [hw, words_m2, words_m1]; exact w0.symm
          · simp (disch := omega) only [arR, N.val, hq', hr, hsub, rbin_subi, rbin_addi, hlost, rcmp_geq, rcmp_lss, rcmp_gtr, Int.reduceSub, Int.reduceAdd, Int.reduceToNat, Nat.reduceMul, Nat.reduceAdd, Nat.zero_add, Nat.mul_one, Int.reduceNeg]
            rw [hw, words_m3, words_m2]; exact w1.symm
          · simp (disch := omega) only [arR, N.val, hq', hr, hsub, rbin_subi, rbin_addi, hlost, rcmp_geq, rcmp_lss, rcmp_gtr, Int.reduceSub, Int.reduceAdd, Int.reduceToNat, Nat.reduceMul, Nat.reduceAdd, Nat.zero_add, Nat.mul_one, Int.reduceNeg]
            exact hl2
      · rw [hq] at hq'
        have hw : lfR.wleft f n = words (val f * p2 s * (18446744073709551616 : Int) * (18446744073709551616 : Int) * (18446744073709551616 : Int)) := by
          rw [wleft_pos (m := s + 192) (by omega), p2_add]
          congr 1
          rw [← Int.mul_assoc]
          have : p2 192 = 1 * (18446744073709551616 : Int) * (18446744073709551616 : Int) * (18446744073709551616 : Int) := by decide
          rw [this]; omega
        refine ⟨800, [false, false, true, false, false], _, fun ar lf => by conv => lhs; cbv, ?_, ?_⟩
        · refine allP ?_
          simp (disch := omega) only [conj, arR, N.val, hq', hr, hsub, rbin_subi, rbin_addi, hlost, rcmp_geq, rcmp_lss, rcmp_gtr, Int.reduceSub, Int.reduceAdd, Int.reduceToNat, Nat.reduceMul, Nat.reduceAdd, Nat.zero_add, Nat.mul_one, Int.reduceNeg, decide_eq_true_eq, decide_eq_false_iff_not]
          and_intros <;> first | exact hf | trivial | omega
        · refine .tup2 (.ints (four ?_ ?_ ?_ ?_)) (.bool ?_)
          · simp (disch := omega) only [arR, N.val, hq', hr, hsub, rbin_subi, rbin_addi, hlost, rcmp_geq, rcmp_lss, rcmp_gtr, Int.reduceSub, Int.reduceAdd, Int.reduceToNat, Nat.reduceMul, Nat.reduceAdd, Nat.zero_add, Nat.mul_one, Int.reduceNeg]
            rw [hw, words_m0]; rfl
          · simp (disch := omega) only [arR, N.val, hq', hr, hsub, rbin_subi, rbin_addi, hlost, rcmp_geq, rcmp_lss, rcmp_gtr, Int.reduceSub, Int.reduceAdd, Int.reduceToNat, Nat.reduceMul, Nat.reduceAdd, Nat.zero_add, Nat.mul_one, Int.reduceNeg]
            rw [hw, words_m1, words_m0]; rfl
          · simp (disch := omega) only [arR, N.val, hq', hr, hsub, rbin_subi, rbin_addi, hlost, rcmp_geq, rcmp_lss, rcmp_gtr, Int.reduceSub, Int.reduceAdd, Int.reduceToNat, Nat.reduceMul, Nat.reduceAdd, Nat.zero_add, Nat.mul_one, Int.reduceNeg]
            rw [hw, words_m2, words_m1, words_m0]; rfl
          · simp (disch := omega) only [arR, N.val, hq', hr, hsub, rbin_subi, rbin_addi, hlost, rcmp_geq, rcmp_lss, rcmp_gtr, Int.reduceSub, Int.reduceAdd, Int.reduceToNat, Nat.reduceMul, Nat.reduceAdd, Nat.zero_add, Nat.mul_one, Int.reduceNeg]
            rw [hw, words_m3, words_m2, words_m1]; exact w0.symm
          · simp (disch := omega) only [arR, N.val, hq', hr, hsub, rbin_subi, rbin_addi, hlost, rcmp_geq, rcmp_lss, rcmp_gtr, Int.reduceSub, Int.reduceAdd, Int.reduceToNat, Nat.reduceMul, Nat.reduceAdd, Nat.zero_add, Nat.mul_one, Int.reduceNeg]
            exact hl2
  · cases hs
end Go.Proofs.Ytegcdnjihnpolaa
