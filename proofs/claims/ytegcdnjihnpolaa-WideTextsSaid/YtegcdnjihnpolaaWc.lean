import Derived.Test.YtegcdnjihnpolaaWb
set_option linter.unusedSimpArgs false
set_option linter.unusedVariables false
namespace Go.Eng
open Go
def tbL (l : List (Nat × ESpec)) (hs : List (Nat × HSpec)) : Tbl := ⟨fun f => l.lookup f, fun f => (hs.lookup f).isSome, fun f => hs.lookup f⟩
theorem tbL_ok {P : Program} {l : List (Nat × ESpec)} {hs : List (Nat × HSpec)} (h1 : ∀ p ∈ l, CallOk P p.1 p.2) (h2 : ∀ p ∈ hs, HOk P p.1 p.2) : TblOk P (tbL l hs) :=
  ⟨fun f s h => h1 (f, s) (lookup_mem' h), fun f s h => h2 (f, s) (lookup_mem' h)⟩

def conj : List Prop → Prop
  | [] => True
  | p :: l => p ∧ conj l
theorem allP : ∀ {l : List Prop}, conj l → ∀ q ∈ l, q
  | [], _, q, h => by simp at h
  | p :: l, ⟨h1, h2⟩, q, h => by
    rcases List.mem_cons.1 h with rfl | h
    · exact h1
    · exact allP h2 q h

theorem wrap_u64 (n : Int) : IntKind.u64.wrap n = n % (18446744073709551616 : Int) := by simp [IntKind.wrap, IntKind.bits, IntKind.signed]

theorem add_words {a b : F} (ha : bd a) (hb : bd b) (c0 c1 c2 c3 : Int)
    (h0 : c0 = (a 0 + b 0 + 0) / (18446744073709551616 : Int)) (h1 : c1 = (a 1 + b 1 + c0) / (18446744073709551616 : Int)) (h2 : c2 = (a 2 + b 2 + c1) / (18446744073709551616 : Int)) (h3 : c3 = (a 3 + b 3 + c2) / (18446744073709551616 : Int)) :
    (words (val a + val b) 0 = (a 0 + b 0 + 0) % (18446744073709551616 : Int) ∧ words (val a + val b) 1 = (a 1 + b 1 + c0) % (18446744073709551616 : Int) ∧ words (val a + val b) 2 = (a 2 + b 2 + c1) % (18446744073709551616 : Int) ∧ words (val a + val b) 3 = (a 3 + b 3 + c2) % (18446744073709551616 : Int)) ∧
    (0 ≤ c0 ∧ c0 ≤ 1) ∧ (0 ≤ c1 ∧ c1 ≤ 1) ∧ (0 ≤ c2 ∧ c2 ≤ 1) ∧ (c3 ≠ 0 ↔ (115792089237316195423570985008687907853269984665640564039457584007913129639936 : Int) ≤ val a + val b) := by
  have := ha.at
  have := hb.at
  refine ⟨words_of (t := c3) (by omega) (by omega) (by omega) (by omega) ?_, by omega, by omega, by omega, ?_⟩
  · unfold val; omega
  · unfold val; omega
theorem sub_words {a b : F} (ha : bd a) (hb : bd b) (c0 c1 c2 c3 : Int)
    (h0 : c0 = if a 0 < b 0 + 0 then 1 else 0) (h1 : c1 = if a 1 < b 1 + c0 then 1 else 0) (h2 : c2 = if a 2 < b 2 + c1 then 1 else 0) (h3 : c3 = if a 3 < b 3 + c2 then 1 else 0) :
    (words (val a - val b) 0 = (a 0 - b 0 - 0) % (18446744073709551616 : Int) ∧ words (val a - val b) 1 = (a 1 - b 1 - c0) % (18446744073709551616 : Int) ∧ words (val a - val b) 2 = (a 2 - b 2 - c1) % (18446744073709551616 : Int) ∧ words (val a - val b) 3 = (a 3 - b 3 - c2) % (18446744073709551616 : Int)) ∧
    (0 ≤ c0 ∧ c0 ≤ 1) ∧ (0 ≤ c1 ∧ c1 ≤ 1) ∧ (0 ≤ c2 ∧ c2 ≤ 1) ∧ (c3 ≠ 0 ↔ val a < val b) := by
  have := ha.at
  have := hb.at
  refine ⟨words_of (t := -c3) (by omega) (by omega) (by omega) (by omega) ?_, by omega, by omega, by omega, ?_⟩
  · unfold val; omega
  · unfold val; omega
end Go.Eng

namespace Go.Proofs.Ytegcdnjihnpolaa
open Go Go.Eng Go.Proofs Go.RowKit
attribute [local irreducible] CallOk HOk Run TIok

def tb1 (lf : LF) : Tbl := tbL [(104, sAdd64 lf), (105, sSub64 lf)] []
theorem tb1_ok : TblOk Try.prog (tb1 lfR) := tbL_ok (by simpa using ⟨add64_ok, sub64_ok⟩) (by simp)

theorem from_ok : CallOk Try.prog 93 (sFrom lfR) := by
  refine .eval (tb := tb1) hmix ti_ok tb1_ok Try.func93 rfl (by kernel_rfl) (by kernel_rfl) fun xs v ps hs hp => ?_
  unfold sFrom at hs
  split at hs
  · rename_i x h
    obtain ⟨c, u, rfl, hc⟩ := num1_some h
    cases hs
    have hx : 0 ≤ x ∧ x < (18446744073709551616 : Int) := hp (lfR.u64 x) (by simp)
    rcases num_cases hc with rfl | rfl
    all_goals
      refine ⟨400, [], _, fun ar lf => by conv => lhs; cbv, ?_, ?_⟩
      · simp
      · refine .a (.ints (four ?_ ?_ ?_ ?_)) <;> simp [lfR, words0, words1, words2, words3] <;> omega
  · cases hs

theorem zero_ok : CallOk Try.prog 55 (sZero lfR) := by
  refine .eval (tb := tb1) hmix ti_ok tb1_ok Try.func55 rfl (by kernel_rfl) (by kernel_rfl) fun xs v ps hs hp => ?_
  unfold sZero at hs
  split at hs
  · rename_i x h
    obtain rfl := arr1_some h
    cases hs
    have hx : bd x := hp (lfR.bd x) (by simp)
    refine ⟨400, [], _, fun ar lf => by conv => lhs; cbv, ?_, ?_⟩
    · simp
    · refine .a (.bool ?_)
      have := val_zero hx
      simp only [lfR, arR]
      rw [Bool.eq_iff_iff]
      simp [this]
  · cases hs

theorem add_ok : CallOk Try.prog 46 (sAdd lfR) := by
  refine .eval (tb := tb1) hmix ti_ok tb1_ok Try.func46 rfl (by kernel_rfl) (by kernel_rfl) fun xs v ps hs hp => ?_
  unfold sAdd at hs
  split at hs
  · rename_i f g h
    obtain rfl := arr2_some h
    cases hs
    have hf : bd f := hp (lfR.bd f) (by simp)
    have hg : bd g := hp (lfR.bd g) (by simp)
    obtain ⟨⟨e0, e1, e2, e3⟩, b0, b1, b2, b3⟩ := add_words hf hg _ _ _ _ rfl rfl rfl rfl
    have := hf.at
    have := hg.at
    refine ⟨400, [], _, fun ar lf => by conv => lhs; cbv, ?_, ?_⟩
    · refine allP ?_
      simp only [conj, lfR, arR, N.val, and_true, true_and]
      refine ⟨?_, ?_, ?_, ?_, ?_, ?_, ?_, ?_, ?_, ?_, ?_, ?_⟩ <;> omega
    · refine .tup2 (.ints (four ?_ ?_ ?_ ?_)) (.bool ?_)
      · simp [lfR, e0]
      · simp [lfR, e1]
      · simp [lfR, e2]
      · simp [lfR, e3]
      · show (_ != _) = decide _
        rw [Bool.eq_iff_iff, bne_iff_ne, decide_eq_true_eq]; exact b3
  · cases hs

theorem sub_ok : CallOk Try.prog 47 (sSub lfR) := by
  refine .eval (tb := tb1) hmix ti_ok tb1_ok Try.func47 rfl (by kernel_rfl) (by kernel_rfl) fun xs v ps hs hp => ?_
  unfold sSub at hs
  split at hs
  · rename_i f g h
    obtain rfl := arr2_some h
    cases hs
    have hf : bd f := hp (lfR.bd f) (by simp)
    have hg : bd g := hp (lfR.bd g) (by simp)
    obtain ⟨⟨e0, e1, e2, e3⟩, b0, b1, b2, b3⟩ := sub_words hf hg _ _ _ _ rfl rfl rfl rfl
    have := hf.at
    have := hg.at
    refine ⟨400, [], _, fun ar lf => by conv => lhs; cbv, ?_, ?_⟩
    · refine allP ?_
      simp only [conj, lfR, arR, N.val, and_true, true_and]
      refine ⟨?_, ?_, ?_, ?_, ?_, ?_, ?_, ?_, ?_, ?_, ?_, ?_⟩ <;> omega
    · refine .tup2 (.ints (four ?_ ?_ ?_ ?_)) (.bool ?_)
      · simp [lfR, e0]
      · simp [lfR, e1]
      · simp [lfR, e2]
      · simp [lfR, e3]
      · show (_ != _) = decide _
        rw [Bool.eq_iff_iff, bne_iff_ne, decide_eq_true_eq]; exact b3
  · cases hs

theorem xor_ones (x : Int) (h : 0 ≤ x ∧ x < (18446744073709551616 : Int)) : run1 .xor .u64 x = (18446744073709551616 : Int) - 1 - x := by
  obtain ⟨n, rfl⟩ := Int.eq_ofNat_of_zero_le h.1
  have hn : n < 2 ^ 64 := by omega
  show IntKind.u64.wrap ((BitVec.ofInt 64 18446744073709551615) ^^^ (BitVec.ofInt 64 (n : Int))).toNat = _
  have e : (BitVec.ofInt 64 18446744073709551615) ^^^ (BitVec.ofInt 64 (n : Int)) = ~~~(BitVec.ofNat 64 n) := by
    rw [show BitVec.ofInt 64 18446744073709551615 = BitVec.allOnes 64 from by decide, BitVec.allOnes_xor]; rfl
  rw [e, wrap_u64, BitVec.toNat_not, BitVec.toNat_ofNat, Nat.mod_eq_of_lt hn]
  omega
theorem not_words {a : F} (ha : bd a) : words (-1 - val a) 0 = (18446744073709551616 : Int) - 1 - a 0 ∧ words (-1 - val a) 1 = (18446744073709551616 : Int) - 1 - a 1 ∧ words (-1 - val a) 2 = (18446744073709551616 : Int) - 1 - a 2 ∧ words (-1 - val a) 3 = (18446744073709551616 : Int) - 1 - a 3 := by
  have := ha.at
  exact words_of (t := -1) (by omega) (by omega) (by omega) (by omega) (by unfold val; omega)

theorem not_ok : CallOk Try.prog 53 (sNot lfR) := by
  refine .eval (tb := tb1) hmix ti_ok tb1_ok Try.func53 rfl (by kernel_rfl) (by kernel_rfl) fun xs v ps hs hp => ?_
  unfold sNot at hs
  split at hs
  · rename_i f h
    obtain rfl := arr1_some h
    cases hs
    have hf : bd f := hp (lfR.bd f) (by simp)
    obtain ⟨e0, e1, e2, e3⟩ := not_words hf
    have := hf.at
    refine ⟨400, [], _, fun ar lf => by conv => lhs; cbv, ?_, ?_⟩
    · refine allP ?_
      simp only [conj]
    · refine .a (.ints (four ?_ ?_ ?_ ?_))
      · simp only [lfR, arR, N.val]; rw [e0, ← xor_ones _ (by omega)]; rfl
      · simp only [lfR, arR, N.val]; rw [e1, ← xor_ones _ (by omega)]; rfl
      · simp only [lfR, arR, N.val]; rw [e2, ← xor_ones _ (by omega)]; rfl
      · simp only [lfR, arR, N.val]; rw [e3, ← xor_ones _ (by omega)]; rfl
  · cases hs
end Go.Proofs.Ytegcdnjihnpolaa
