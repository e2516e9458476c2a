import Derived.Test.YtegcdnjihnpolaaWj
set_option linter.unusedSimpArgs false
set_option linter.unusedVariables false
namespace Go.Eng
open Go
theorem CallOk.via {P : Program} {f : FuncId} {s : ESpec} (h : ∀ l v ps, s l = some (v, ps) → (∀ p ∈ ps, p) → ∃ s' ps', CallOk P f s' ∧ s' l = some (v, ps') ∧ ∀ p ∈ ps', p) : CallOk P f s := by
  unfold CallOk
  intro l v ps hs hp
  obtain ⟨s', ps', h1, h2, h3⟩ := h l v ps hs hp
  exact h1 l v ps' h2 h3
def sLeftN (lf : LF) : ESpec := fun l => match arrI l with
  | some (f, n) => if n < 0 then some (.tup [W (lf.wleft f n), B (lf.wleftB f n)], [lf.bd f, lf.i64 n]) else none
  | none => none
def sRightN (lf : LF) : ESpec := fun l => match arrI l with
  | some (f, n) => if n < 0 then some (.a (W (lf.wright f n)), [lf.bd f, lf.i64 n]) else none
  | none => none
end Go.Eng
namespace Go.Proofs.Ytegcdnjihnpolaa
open Go Go.Eng Go.Proofs Go.RowKit
attribute [local irreducible] CallOk HOk Run TIok rbin rcmp run1 words val updF shfF blitF

def tb4 (lf : LF) : Tbl := tbL [(18, sBits lf), (22, sLeft0 lf), (23, sRight0 lf), (55, sZero lf)] []
theorem tb4_ok : TblOk Try.prog (tb4 lfR) := tbL_ok (by simpa using ⟨bits_ok, left0_ok, right0_ok, zero_ok⟩) (by simp)

theorem wleft_neg {f : F} {n : Int} {m : Nat} (h : n = -(m : Int)) (hm : 0 < m) : lfR.wleft f n = words (val f / p2 m) := by
  subst h
  show words (shl _ _) = _
  unfold shl
  rw [if_neg (by omega), Int.neg_neg, Int.toNat_natCast]
theorem wright_neg {f : F} {n : Int} {m : Nat} (h : n = -(m : Int)) (hm : 0 < m) : lfR.wright f n = words (val f * p2 m) := by
  subst h
  show words (shl _ _) = _
  unfold shl
  rw [if_pos (by omega), Int.neg_neg, Int.toNat_natCast]
theorem neg_i64 {n : Int} (h : -9223372036854775808 < n ∧ n ≤ 9223372036854775807) : run1 .neg .i64 n = -n := by
  unfold run1
  show IntKind.i64.wrap (0 - n) = _
  rw [Int.zero_sub]
  exact wrap_i64 (by omega)
theorem mx_eq (x y : Int) : arR.mx x y = max x y := by
  show (if y > x then y else x) = _
  omega
theorem div_min {x : Int} (h0 : 0 ≤ x) (h1 : x < (115792089237316195423570985008687907853269984665640564039457584007913129639936 : Int)) {m : Nat} (h : 256 ≤ m) : x / p2 m = 0 := by
  have : p2 256 ≤ p2 m := p2_le h
  rw [p2_256] at this
  exact Int.ediv_eq_zero_of_lt h0 (by omega)
theorem mul_min {x : Int} {m : Nat} (h : 256 ≤ m) : ∀ j, j < 4 → words (x * p2 m) j = 0 := by
  intro j hj
  have em : p2 m = p2 (m - 256) * (115792089237316195423570985008687907853269984665640564039457584007913129639936 : Int) := by rw [← p2_256, ← p2_add]; congr 1; omega
  rw [em, ← Int.mul_assoc, ← words_congr (m := 0) (n := x * p2 (m - 256) * (115792089237316195423570985008687907853269984665640564039457584007913129639936 : Int)) (by rw [Int.mul_emod_left]; rfl) j hj]
  match j, hj with
  | 0, _ => decide +kernel
  | 1, _ => decide +kernel
  | 2, _ => decide +kernel
  | 3, _ => decide +kernel

theorem leftN_ok : CallOk Try.prog 22 (sLeftN lfR) := by
  refine .evalN (tb := tb4) hmix ti_ok tb4_ok Try.func22 rfl (by kernel_rfl) (by kernel_rfl) ?_ fun xs v ps hn hs hp => ?_
  · intro l r h
    unfold sLeftN at h ⊢
    split at h
    · rename_i x n h1
      rw [arrI_norm h1]; exact h
    · cases h
  unfold sLeftN at hs
  split at hs
  · rename_i f n h
    obtain rfl := arrI_int h hn
    split at hs
    · rename_i hneg
      cases hs
      have hf : bd f := hp (lfR.bd f) (by simp)
      have hi : -9223372036854775808 ≤ n ∧ n ≤ 9223372036854775807 := hp (lfR.i64 n) (by simp)
      clear hp hn h
      have hv := val_bd hf
      have e1 : run1 .neg .i64 (max n (-256)) = -(max n (-256)) := neg_i64 (by omega)
      refine ⟨800, [true], _, fun ar lf => by conv => lhs; cbv, ?_, ?_⟩
      · refine allP ?_
        simp only [conj, mx_eq]
        refine ⟨hf, ?_, ?_, trivial⟩
        · show 0 ≤ run1 _ _ _ ∧ run1 _ _ _ ≤ _
          rw [e1]; omega
        · show rcmp _ _ _ = true
          rw [rcmp_lss, decide_eq_true_eq]; exact hneg
      · obtain ⟨m, hm⟩ : ∃ m : Nat, n = -(m : Int) := ⟨(-n).toNat, by omega⟩
        obtain ⟨k, hk⟩ : ∃ k : Nat, -(max n (-256)) = (k : Int) := ⟨(-(max n (-256))).toNat, by omega⟩
        refine .tup2 (.ints fun j hj => ?_) (.lbool ?_)
        · rw [wleft_neg hm (by omega)]
          show lfR.wright f (run1 _ _ (arR.mx _ _)) j = _
          rw [mx_eq, e1, wright_pos hk]
          by_cases h : m ≤ 256
          · have : k = m := by omega
            rw [this]
          · rw [div_min hv.1 hv.2 (show 256 ≤ k by omega), div_min hv.1 hv.2 (show 256 ≤ m by omega)]
        · show false = decide ((115792089237316195423570985008687907853269984665640564039457584007913129639936 : Int) ≤ shl _ _)
          unfold shl
          rw [if_neg (by omega)]
          have := Int.ediv_le_self (p2 (-n).toNat) hv.1
          symm
          rw [decide_eq_false_iff_not]
          omega
    · cases hs
  · cases hs

theorem left_ok : CallOk Try.prog 22 (sLeft lfR) := by
  refine .via fun l v ps hs hp => ?_
  unfold sLeft at hs
  split at hs
  · rename_i f n h
    cases hs
    have hf : lfR.bd f := hp (lfR.bd f) (by simp)
    have hi : lfR.i64 n := hp (lfR.i64 n) (by simp)
    by_cases h0 : 0 ≤ n
    · refine ⟨_, _, left0_ok, by unfold sLeft0; rw [h], ?_⟩
      simp only [List.forall_mem_cons]
      exact ⟨hf, ⟨h0, hi.2⟩, by simp⟩
    · refine ⟨_, _, leftN_ok, by unfold sLeftN; rw [h]; simp only; rw [if_pos (by omega)], ?_⟩
      simp only [List.forall_mem_cons]
      exact ⟨hf, hi, by simp⟩
  · cases hs

theorem rightN_ok : CallOk Try.prog 23 (sRightN lfR) := by
  refine .evalN (tb := tb4) hmix ti_ok tb4_ok Try.func23 rfl (by kernel_rfl) (by kernel_rfl) ?_ fun xs v ps hn hs hp => ?_
  · intro l r h
    unfold sRightN at h ⊢
    split at h
    · rename_i x n h1
      rw [arrI_norm h1]; exact h
    · cases h
  unfold sRightN at hs
  split at hs
  · rename_i f n h
    obtain rfl := arrI_int h hn
    split at hs
    · rename_i hneg
      cases hs
      have hf : bd f := hp (lfR.bd f) (by simp)
      have hi : -9223372036854775808 ≤ n ∧ n ≤ 9223372036854775807 := hp (lfR.i64 n) (by simp)
      clear hp hn h
      have hv := val_bd hf
      have e1 : run1 .neg .i64 (max n (-256)) = -(max n (-256)) := neg_i64 (by omega)
      refine ⟨800, [true], _, fun ar lf => by conv => lhs; cbv, ?_, ?_⟩
      · refine allP ?_
        simp only [conj, mx_eq]
        refine ⟨hf, ?_, ?_, trivial⟩
        · show 0 ≤ run1 _ _ _ ∧ run1 _ _ _ ≤ _
          rw [e1]; omega
        · show rcmp _ _ _ = true
          rw [rcmp_lss, decide_eq_true_eq]; exact hneg
      · obtain ⟨m, hm⟩ : ∃ m : Nat, n = -(m : Int) := ⟨(-n).toNat, by omega⟩
        obtain ⟨k, hk⟩ : ∃ k : Nat, -(max n (-256)) = (k : Int) := ⟨(-(max n (-256))).toNat, by omega⟩
        refine .a (.ints fun j hj => ?_)
        rw [wright_neg hm (by omega)]
        show lfR.wleft f (run1 _ _ (arR.mx _ _)) j = _
        rw [mx_eq, e1, wleft_pos hk]
        by_cases h : m ≤ 256
        · have : k = m := by omega
          rw [this]
        · rw [mul_min (show 256 ≤ k by omega) j hj, mul_min (show 256 ≤ m by omega) j hj]
    · cases hs
  · cases hs

theorem right_ok : CallOk Try.prog 23 (sRight lfR) := by
  refine .via fun l v ps hs hp => ?_
  unfold sRight at hs
  split at hs
  · rename_i f n h
    cases hs
    have hf : lfR.bd f := hp (lfR.bd f) (by simp)
    have hi : lfR.i64 n := hp (lfR.i64 n) (by simp)
    by_cases h0 : 0 ≤ n
    · refine ⟨_, _, right0_ok, by unfold sRight0; rw [h], ?_⟩
      simp only [List.forall_mem_cons]
      exact ⟨hf, ⟨h0, hi.2⟩, by simp⟩
    · refine ⟨_, _, rightN_ok, by unfold sRightN; rw [h]; simp only; rw [if_pos (by omega)], ?_⟩
      simp only [List.forall_mem_cons]
      exact ⟨hf, hi, by simp⟩
  · cases hs
end Go.Proofs.Ytegcdnjihnpolaa
