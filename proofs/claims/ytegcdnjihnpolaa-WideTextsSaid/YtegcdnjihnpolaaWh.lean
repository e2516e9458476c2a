import Derived.Test.YtegcdnjihnpolaaWg
set_option linter.unusedSimpArgs false
set_option linter.unusedVariables false
namespace Go.Eng
open Go
theorem rbin_or_nat (X Y : Nat) (hX : X < 2 ^ 64) (hY : Y < 2 ^ 64) : rbin .or .u64 (X : Int) (Y : Int) = ((X ||| Y : Nat) : Int) := by
  show IntKind.u64.wrap ((BitVec.ofInt 64 (X : Int)) ||| (BitVec.ofInt 64 (Y : Int))).toNat = _
  have e1 : BitVec.ofInt 64 (X : Int) = BitVec.ofNat 64 X := rfl
  have e2 : BitVec.ofInt 64 (Y : Int) = BitVec.ofNat 64 Y := rfl
  rw [e1, e2, wrap_u64, BitVec.toNat_or, BitVec.toNat_ofNat, BitVec.toNat_ofNat, Nat.mod_eq_of_lt hX, Nat.mod_eq_of_lt hY]
  have := Nat.or_lt_two_pow hX hY
  omega
theorem or_comm64 (X Y : Int) (hX : 0 ≤ X ∧ X < (18446744073709551616 : Int)) (hY : 0 ≤ Y ∧ Y < (18446744073709551616 : Int)) : rbin .or .u64 X Y = rbin .or .u64 Y X := by
  obtain ⟨x, rfl⟩ := Int.eq_ofNat_of_zero_le hX.1
  obtain ⟨y, rfl⟩ := Int.eq_ofNat_of_zero_le hY.1
  rw [rbin_or_nat _ _ (by omega) (by omega), rbin_or_nat _ _ (by omega) (by omega), Nat.or_comm]
theorem lo_eq {a : Int} {s : Nat} (hs : s ≤ 64) : a * p2 s % (18446744073709551616 : Int) = p2 s * (a % p2 (64 - s)) := by
  rw [← p2_64, show p2 64 = p2 s * p2 (64 - s) from by rw [← p2_add]; congr 1; omega, Int.mul_comm, Int.mul_emod_mul_of_pos _ _ (p2_pos s)]
theorem or_add_aux {P Q k y : Nat} (em : (P : Int) * Q = (18446744073709551616 : Int)) (hk : k < Q) (hy : y < P) : (P : Int) * k + y < (18446744073709551616 : Int) := by
  have := Int.mul_le_mul_of_nonneg_left (show (k : Int) + 1 ≤ Q by omega) (show (0 : Int) ≤ P by omega)
  rw [Int.mul_add, em] at this
  omega
theorem p2_nat (s : Nat) : p2 s = ((2 ^ s : Nat) : Int) := by rw [Int.natCast_pow]; rfl
theorem or_add {a y : Int} {s : Nat} (hs : s ≤ 64) (hy : 0 ≤ y ∧ y < p2 s) : rbin .or .u64 (a * p2 s % (18446744073709551616 : Int)) y = a * p2 s % (18446744073709551616 : Int) + y ∧ a * p2 s % (18446744073709551616 : Int) + y < (18446744073709551616 : Int) := by
  have hq := p2_pos (64 - s)
  have em : p2 s * p2 (64 - s) = (18446744073709551616 : Int) := by rw [← p2_add, Nat.add_sub_cancel' hs, p2_64]
  rw [lo_eq hs]
  have k0 := Int.emod_nonneg a (Int.ne_of_gt hq)
  have k1 := Int.emod_lt_of_pos a hq
  generalize a % p2 (64 - s) = k at k0 k1 ⊢
  obtain ⟨k, rfl⟩ := Int.eq_ofNat_of_zero_le k0
  obtain ⟨y, rfl⟩ := Int.eq_ofNat_of_zero_le hy.1
  rw [p2_nat, p2_nat] at em
  rw [p2_nat] at hy k1 ⊢
  have hlt := or_add_aux em (Int.ofNat_lt.1 k1) (Int.ofNat_lt.1 hy.2)
  refine ⟨?_, hlt⟩
  have hy' : y < 2 ^ s := Int.ofNat_lt.1 hy.2
  have e : ((2 ^ s : Nat) : Int) * (k : Int) = ((2 ^ s * k : Nat) : Int) := by rw [Int.natCast_mul]
  rw [e] at hlt ⊢
  generalize hA : 2 ^ s * k = A at *
  have hA64 : A < 18446744073709551616 := by omega
  have hy64 : y < 18446744073709551616 := by omega
  rw [rbin_or_nat _ _ hA64 hy64, ← hA, ← Nat.two_pow_add_eq_or_of_lt hy', Int.natCast_add]
theorem hi_lt {a : Int} {s : Nat} (hs : s ≤ 64) (h : 0 ≤ a ∧ a < (18446744073709551616 : Int)) : 0 ≤ a / p2 (64 - s) ∧ a / p2 (64 - s) < p2 s := by
  have hq := p2_pos (64 - s)
  refine ⟨Int.ediv_nonneg h.1 (by omega), Int.ediv_lt_of_lt_mul hq ?_⟩
  rw [← p2_add, show s + (64 - s) = 64 by omega, p2_64]; exact h.2
theorem lo_hi {a : Int} {s : Nat} (hs : s ≤ 64) : a * p2 s = a * p2 s % (18446744073709551616 : Int) + (18446744073709551616 : Int) * (a / p2 (64 - s)) := by
  have hp := p2_pos s
  have hq := p2_pos (64 - s)
  have em : p2 s * p2 (64 - s) = (18446744073709551616 : Int) := by rw [← p2_add, Nat.add_sub_cancel' hs, p2_64]
  rw [lo_eq hs]
  have e := Int.emod_add_mul_ediv a (p2 (64 - s))
  calc a * p2 s = p2 s * (a % p2 (64 - s) + p2 (64 - s) * (a / p2 (64 - s))) := by rw [e, Int.mul_comm]
    _ = _ := by rw [Int.mul_add, ← Int.mul_assoc, em]

def sl (f : F) (s : Nat) (j : Nat) : Int := rbin .shl .u64 (f j) s
def sr (f : F) (s : Nat) (j : Nat) : Int := rbin .shr .u64 (f j) s
theorem sl_eq (f : F) {s : Nat} (hs : s ≤ 64) (j : Nat) : sl f s j = f j * p2 s % (18446744073709551616 : Int) := rbin_shl _ (by simp; omega)
theorem sr_eq (f : F) {s : Nat} (hs : s ≤ 64) (j : Nat) : sr f s j = f j / p2 s := rbin_shr _ (by simp; omega)

theorem shl_words {f : F} (hf : bd f) {s : Nat} (hs : s < 64) :
    words (val f * p2 s) 0 = sl f s 0 ∧ words (val f * p2 s) 1 = rbin .or .u64 (sl f s 1) (sr f (64 - s) 0) ∧
    words (val f * p2 s) 2 = rbin .or .u64 (sl f s 2) (sr f (64 - s) 1) ∧ words (val f * p2 s) 3 = rbin .or .u64 (sl f s 3) (sr f (64 - s) 2) := by
  obtain ⟨b0, b1, b2, b3⟩ := hf.at
  have hs' : s ≤ 64 := by omega
  simp only [sl_eq f hs', sr_eq f (show 64 - s ≤ 64 by omega)]
  obtain ⟨o1, l1⟩ := or_add (a := f 1) hs' (hi_lt hs' b0)
  obtain ⟨o2, l2⟩ := or_add (a := f 2) hs' (hi_lt hs' b1)
  obtain ⟨o3, l3⟩ := or_add (a := f 3) hs' (hi_lt hs' b2)
  rw [o1, o2, o3]
  have h0 := hi_lt hs' b0
  have h1 := hi_lt hs' b1
  have h2 := hi_lt hs' b2
  have e0 := lo_hi (a := f 0) hs'
  have e1 := lo_hi (a := f 1) hs'
  have e2 := lo_hi (a := f 2) hs'
  have e3 := lo_hi (a := f 3) hs'
  have ev : val f * p2 s = f 0 * p2 s + (18446744073709551616 : Int) * (f 1 * p2 s + (18446744073709551616 : Int) * (f 2 * p2 s + (18446744073709551616 : Int) * (f 3 * p2 s))) := by
    unfold val; simp only [Int.add_mul, Int.mul_assoc]
  generalize f 0 * p2 s = x0 at *
  generalize f 1 * p2 s = x1 at *
  generalize f 2 * p2 s = x2 at *
  generalize f 3 * p2 s = x3 at *
  generalize f 0 / p2 (64 - s) = y0 at *
  generalize f 1 / p2 (64 - s) = y1 at *
  generalize f 2 / p2 (64 - s) = y2 at *
  generalize f 3 / p2 (64 - s) = y3 at *
  exact words_of (t := y3) (by omega) (by omega) (by omega) (by omega) (by omega)

theorem words_mul (x : Int) (j : Nat) : words (x * (18446744073709551616 : Int)) 0 = 0 ∧ words (x * (18446744073709551616 : Int)) (j + 1) = words x j := by
  refine ⟨by rw [words0]; omega, ?_⟩
  rw [words_succ]; congr 1; omega
theorem val_ediv {f : F} (hf : bd f) : val f / (18446744073709551616 : Int) = val (fun j => if j < 3 then f (j + 1) else 0) := by
  have := hf.at
  simp [val]; omega

/-- to the right, by less than a word -/
theorem shr_words {f : F} (hf : bd f) {s : Nat} (hs : s < 64) :
    words (val f / p2 s) 0 = rbin .or .u64 (sr f s 0) (sl f (64 - s) 1) ∧ words (val f / p2 s) 1 = rbin .or .u64 (sr f s 1) (sl f (64 - s) 2) ∧
    words (val f / p2 s) 2 = rbin .or .u64 (sr f s 2) (sl f (64 - s) 3) ∧ words (val f / p2 s) 3 = sr f s 3 := by
  obtain ⟨b0, b1, b2, b3⟩ := hf.at
  have hs' : s ≤ 64 := by omega
  have hs2 : 64 - s ≤ 64 := by omega
  have e64 : 64 - (64 - s) = s := by omega
  have h0 := hi_lt hs2 b0
  have h1 := hi_lt hs2 b1
  have h2 := hi_lt hs2 b2
  have h3 := hi_lt hs2 b3
  rw [e64] at h0 h1 h2 h3
  have hm : p2 (64 - s) ≤ (18446744073709551616 : Int) := by rw [← p2_64]; exact p2_le hs2
  have rng : ∀ x : Int, 0 ≤ x * p2 (64 - s) % (18446744073709551616 : Int) ∧ x * p2 (64 - s) % (18446744073709551616 : Int) < (18446744073709551616 : Int) := fun x => ⟨Int.emod_nonneg _ (by decide), Int.emod_lt_of_pos _ (by decide)⟩
  simp only [sr_eq f hs', sl_eq f hs2]
  rw [or_comm64 _ _ (by omega) (rng _), or_comm64 _ _ (by omega) (rng _), or_comm64 _ _ (by omega) (rng _)]
  obtain ⟨o1, l1⟩ := or_add (a := f 1) hs2 h0
  obtain ⟨o2, l2⟩ := or_add (a := f 2) hs2 h1
  obtain ⟨o3, l3⟩ := or_add (a := f 3) hs2 h2
  rw [o1, o2, o3]
  have hp := p2_pos s
  have ev : val f / p2 s = (f 0 / p2 s + f 1 * p2 (64 - s)) + (18446744073709551616 : Int) * (f 2 * p2 (64 - s) + (18446744073709551616 : Int) * (f 3 * p2 (64 - s))) := by
    have em : (18446744073709551616 : Int) = p2 s * p2 (64 - s) := by rw [← p2_add, ← p2_64]; congr 1; omega
    have e : val f = f 0 + p2 s * (p2 (64 - s) * (f 1 + (18446744073709551616 : Int) * (f 2 + (18446744073709551616 : Int) * f 3))) := by
      rw [← Int.mul_assoc, ← em]; rfl
    rw [e, Int.add_mul_ediv_left _ _ (by omega)]
    have : p2 (64 - s) * (f 1 + (18446744073709551616 : Int) * (f 2 + (18446744073709551616 : Int) * f 3)) = f 1 * p2 (64 - s) + (18446744073709551616 : Int) * (f 2 * p2 (64 - s) + (18446744073709551616 : Int) * (f 3 * p2 (64 - s))) := by
      rw [Int.mul_comm]; simp only [Int.add_mul, Int.mul_assoc]
    omega
  have e1 := lo_hi (a := f 1) hs2
  have e2 := lo_hi (a := f 2) hs2
  have e3 := lo_hi (a := f 3) hs2
  rw [e64] at e1 e2 e3
  have r1 := rng (f 1)
  have r2 := rng (f 2)
  have r3 := rng (f 3)
  rw [ev]
  generalize f 1 * p2 (64 - s) = x1 at *
  generalize f 2 * p2 (64 - s) = x2 at *
  generalize f 3 * p2 (64 - s) = x3 at *
  generalize f 0 / p2 s = y0 at *
  generalize f 1 / p2 s = y1 at *
  generalize f 2 / p2 s = y2 at *
  generalize f 3 / p2 s = y3 at *
  exact words_of (t := 0) (by omega) (by omega) (by omega) (by omega) (by omega)
end Go.Eng
