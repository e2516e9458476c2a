import Derived.Test.YtegcdnjihnpolaaWl
set_option linter.unusedSimpArgs false
set_option linter.unusedVariables false
namespace Go.Eng
open Go
theorem or_bit_nat {x t : Nat} (h : x / 2 ^ t % 2 = 0) : x ||| 2 ^ t = x + 2 ^ t := by
  have hp : 0 < 2 ^ t := Nat.two_pow_pos t
  have e := Nat.div_add_mod x (2 ^ (t + 1))
  have hz : x % 2 ^ (t + 1) < 2 ^ t := by
    have h1 := Nat.mod_lt x (show 0 < 2 ^ (t + 1) from Nat.two_pow_pos _)
    have h2 : x % 2 ^ (t + 1) / 2 ^ t = 0 := by
      rw [Nat.pow_succ, Nat.mod_mul_right_div_self]; exact h
    rcases Nat.div_eq_zero_iff.1 h2 with h3 | h3 <;> omega
  generalize x % 2 ^ (t + 1) = z at *
  generalize x / 2 ^ (t + 1) = k at *
  have e2 : 2 ^ t + z = 2 ^ t ||| z := by have := Nat.two_pow_add_eq_or_of_lt hz 1; simpa using this
  have hlt : 2 ^ t + z < 2 ^ (t + 1) := by rw [Nat.pow_succ]; omega
  have hz2 : z < 2 ^ (t + 1) := by omega
  rw [← e, Nat.two_pow_add_eq_or_of_lt hz2, Nat.or_assoc, Nat.or_comm z, ← e2, ← Nat.two_pow_add_eq_or_of_lt hlt, ← Nat.two_pow_add_eq_or_of_lt hz2]
  omega
/-- a bit that is not there yet, by 'or' -/
theorem or_bit {x : Int} {t : Nat} (h0 : 0 ≤ x) (h1 : x + p2 t < (18446744073709551616 : Int)) (h : x / p2 t % 2 = 0) : rbin .or .u64 x (p2 t) = x + p2 t := by
  obtain ⟨n, rfl⟩ := Int.eq_ofNat_of_zero_le h0
  have hp := Nat.two_pow_pos t
  rw [p2_nat] at h h1 ⊢
  have hb : n / 2 ^ t % 2 = 0 := by omega
  have e := or_bit_nat hb
  generalize 2 ^ t = y at *
  rw [rbin_or_nat n y (by omega) (by omega), e, Int.natCast_add]
theorem p2_lt {s : Nat} (h : s < 64) : p2 s < (18446744073709551616 : Int) := by
  have h1 := p2_le (show s + 1 ≤ 64 by omega)
  rw [p2_succ, p2_64] at h1
  have := p2_pos s
  omega
theorem shl_one {s : Nat} (h : s < 64) : rbin .shl .u64 1 (s : Int) = p2 s := by
  rw [rbin_shl (m := s) _ (by simp; omega), Int.one_mul]
  have := p2_pos s
  exact Int.emod_eq_of_lt (by omega) (p2_lt h)

/-- one more bit of words: by 'or', and by '+' -/
theorem upd_bit {q : F} {Q : Int} (hq : ∀ j, j < 4 → q j = words Q j) {n : Int} (h0 : 0 ≤ n) (h1 : n < 256) (hb : Q / p2 n.toNat % 2 = 0) :
    (∀ j, j < 4 → updF q (n / 64).toNat (rbin .or .u64 (q (n / 64).toNat) (rbin .shl .u64 1 (n % 64))) j = words (Q + p2 n.toNat) j) ∧
    (∀ j, j < 4 → updF q (n / 64).toNat (rbin .add .u64 (q (n / 64).toNat) (rbin .shl .u64 1 (n % 64))) j = words (Q + p2 n.toNat) j) := by
  have hi : n.toNat = 64 * (n / 64).toNat + (n % 64).toNat := by omega
  have hs : (n % 64).toNat < 64 := by omega
  have hj : (n / 64).toNat < 4 := by omega
  rw [hi] at hb ⊢
  have es : n % 64 = ((n % 64).toNat : Int) := by omega
  generalize (n % 64).toNat = s at *
  generalize (n / 64).toNat = k at *
  obtain ⟨a1, a2⟩ := add_bit hs hb
  have hw := words_bit Q k s hs
  rw [hb] at hw
  have hlo := words_lo Q k
  have hp := p2_pos s
  rw [es, shl_one hs, hq k hj, or_bit hlo.1 a1 hw, rbin_add, Int.emod_eq_of_lt (by omega) a1]
  have key : ∀ j, j < 4 → updF q k (words Q k + p2 s) j = words (Q + p2 (64 * k + s)) j := by
    intro j hj4
    rw [a2 j]
    unfold updF
    split
    · rfl
    · exact hq j hj4
  exact ⟨key, key⟩

/-- the numbers of one round of a division by bits -/
theorem div_round {a b : Int} (hb : 0 < b) {n : Nat} :
    a / p2 n % b = (if b ≤ 2 * (a / p2 (n + 1) % b) + a / p2 n % 2 then 2 * (a / p2 (n + 1) % b) + a / p2 n % 2 - b else 2 * (a / p2 (n + 1) % b) + a / p2 n % 2) ∧
    a / p2 n / b = 2 * (a / p2 (n + 1) / b) + (if b ≤ 2 * (a / p2 (n + 1) % b) + a / p2 n % 2 then 1 else 0) := by
  have e : a / p2 (n + 1) = a / p2 n / 2 := by rw [p2_succ, Int.mul_comm, Int.ediv_ediv_of_nonneg (Int.le_of_lt (p2_pos n))]
  rw [e]
  clear e
  generalize a / p2 n = x
  have h1 := Int.emod_nonneg (x / 2) (Int.ne_of_gt hb)
  have h2 := Int.emod_lt_of_pos (x / 2) hb
  have h3 := Int.emod_add_mul_ediv (x / 2) b
  generalize x / 2 % b = r at *
  generalize hk : x / 2 / b = k at *
  have hx : x = b * (2 * k) + (2 * r + x % 2) := by
    have : b * (2 * k) = 2 * (b * k) := by rw [Int.mul_left_comm]
    omega
  have hy : 0 ≤ x % 2 ∧ x % 2 ≤ 1 := by omega
  generalize x % 2 = y at *
  split
  · have hx2 : x = b * (2 * k + 1) + (2 * r + y - b) := by rw [Int.mul_add]; omega
    rw [hx2, Int.mul_add_emod_self_left, Int.mul_add_ediv_left _ _ (by omega), Int.emod_eq_of_lt (by omega) (by omega), Int.ediv_eq_zero_of_lt (by omega) (by omega)]
    exact ⟨rfl, by omega⟩
  · rw [hx, Int.mul_add_emod_self_left, Int.mul_add_ediv_left _ _ (by omega), Int.emod_eq_of_lt (by omega) (by omega), Int.ediv_eq_zero_of_lt (by omega) (by omega)]
    exact ⟨rfl, by omega⟩
end Go.Eng
