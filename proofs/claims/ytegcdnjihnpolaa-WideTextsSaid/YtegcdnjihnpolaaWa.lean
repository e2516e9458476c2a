import Derived.Test.YtegcdnjihnpolaaE0
set_option linter.unusedSimpArgs false
set_option linter.unusedVariables false
namespace Go.Eng

/-! NUMBERS OF FOUR WORDS: plain arithmetic, no program in sight -/
abbrev F := Nat → Int
def val (f : F) : Int := f 0 + (18446744073709551616 : Int) * (f 1 + (18446744073709551616 : Int) * (f 2 + (18446744073709551616 : Int) * f 3))
def words (n : Int) : F := fun j => n / (18446744073709551616 : Int) ^ j % (18446744073709551616 : Int)
def bd (f : F) : Prop := ∀ j, j < 4 → 0 ≤ f j ∧ f j < (18446744073709551616 : Int)

theorem bd.at {f : F} (h : bd f) : (0 ≤ f 0 ∧ f 0 < (18446744073709551616 : Int)) ∧ (0 ≤ f 1 ∧ f 1 < (18446744073709551616 : Int)) ∧ (0 ≤ f 2 ∧ f 2 < (18446744073709551616 : Int)) ∧ (0 ≤ f 3 ∧ f 3 < (18446744073709551616 : Int)) :=
  ⟨h 0 (by omega), h 1 (by omega), h 2 (by omega), h 3 (by omega)⟩
theorem bd.of {f : F} (h0 : 0 ≤ f 0 ∧ f 0 < (18446744073709551616 : Int)) (h1 : 0 ≤ f 1 ∧ f 1 < (18446744073709551616 : Int)) (h2 : 0 ≤ f 2 ∧ f 2 < (18446744073709551616 : Int)) (h3 : 0 ≤ f 3 ∧ f 3 < (18446744073709551616 : Int)) : bd f := by
  intro j hj
  match j with
  | 0 => exact h0
  | 1 => exact h1
  | 2 => exact h2
  | 3 => exact h3
  | j + 4 => omega
theorem val_bd {f : F} (h : bd f) : 0 ≤ val f ∧ val f < (115792089237316195423570985008687907853269984665640564039457584007913129639936 : Int) := by
  have := h.at
  unfold val
  omega
theorem words_bd (n : Int) : bd (words n) := fun j _ => ⟨Int.emod_nonneg _ (by decide), Int.emod_lt_of_pos _ (by decide)⟩
theorem words_lo (n : Int) (j : Nat) : 0 ≤ words n j ∧ words n j < (18446744073709551616 : Int) := ⟨Int.emod_nonneg _ (by decide), Int.emod_lt_of_pos _ (by decide)⟩

theorem words0 (n : Int) : words n 0 = n % (18446744073709551616 : Int) := by simp [words]
theorem words1 (n : Int) : words n 1 = n / (18446744073709551616 : Int) % (18446744073709551616 : Int) := by simp [words]
theorem words2 (n : Int) : words n 2 = n / (18446744073709551616 : Int) / (18446744073709551616 : Int) % (18446744073709551616 : Int) := by
  simp only [words]
  rw [Int.ediv_ediv_of_nonneg (by decide)]; rfl
theorem words3 (n : Int) : words n 3 = n / (18446744073709551616 : Int) / (18446744073709551616 : Int) / (18446744073709551616 : Int) % (18446744073709551616 : Int) := by
  simp only [words]
  rw [Int.ediv_ediv_of_nonneg (by decide), Int.ediv_ediv_of_nonneg (by decide)]; rfl

theorem words_succ (n : Int) (j : Nat) : words n (j + 1) = words (n / (18446744073709551616 : Int)) j := by
  simp only [words]
  rw [Int.ediv_ediv_of_nonneg (by decide), Int.pow_succ, Int.mul_comm]

/-- to be a number's words -/
theorem words_cons {s t : Int} (h0 : 0 ≤ s) (h1 : s < (18446744073709551616 : Int)) : words (s + (18446744073709551616 : Int) * t) 0 = s ∧ (s + (18446744073709551616 : Int) * t) / (18446744073709551616 : Int) = t := by
  rw [words0]; omega
theorem words_of {s0 s1 s2 s3 t : Int} (h0 : 0 ≤ s0 ∧ s0 < (18446744073709551616 : Int)) (h1 : 0 ≤ s1 ∧ s1 < (18446744073709551616 : Int)) (h2 : 0 ≤ s2 ∧ s2 < (18446744073709551616 : Int)) (h3 : 0 ≤ s3 ∧ s3 < (18446744073709551616 : Int)) {n : Int}
    (hn : n = s0 + (18446744073709551616 : Int) * (s1 + (18446744073709551616 : Int) * (s2 + (18446744073709551616 : Int) * (s3 + (18446744073709551616 : Int) * t)))) : words n 0 = s0 ∧ words n 1 = s1 ∧ words n 2 = s2 ∧ words n 3 = s3 := by
  subst hn
  obtain ⟨a0, b0⟩ := words_cons (t := s1 + (18446744073709551616 : Int) * (s2 + (18446744073709551616 : Int) * (s3 + (18446744073709551616 : Int) * t))) h0.1 h0.2
  obtain ⟨a1, b1⟩ := words_cons (t := s2 + (18446744073709551616 : Int) * (s3 + (18446744073709551616 : Int) * t)) h1.1 h1.2
  obtain ⟨a2, b2⟩ := words_cons (t := s3 + (18446744073709551616 : Int) * t) h2.1 h2.2
  obtain ⟨a3, b3⟩ := words_cons (t := t) h3.1 h3.2
  refine ⟨a0, ?_, ?_, ?_⟩
  · rw [words_succ, b0, a1]
  · rw [words_succ, words_succ, b0, b1, a2]
  · rw [words_succ, words_succ, words_succ, b0, b1, b2, a3]
theorem words_val {f : F} (h : bd f) : ∀ j, j < 4 → words (val f) j = f j := by
  obtain ⟨a, b, c, d⟩ := h.at
  obtain ⟨h0, h1, h2, h3⟩ := words_of (t := 0) a b c d (n := val f) (by unfold val; omega)
  intro j hj
  match j with
  | 0 => exact h0
  | 1 => exact h1
  | 2 => exact h2
  | 3 => exact h3
  | j + 4 => omega
theorem val_words (n : Int) : val (words n) = n % (115792089237316195423570985008687907853269984665640564039457584007913129639936 : Int) := by
  unfold val
  rw [words0, words1, words2, words3]
  omega
theorem val_words_of {n : Int} (h0 : 0 ≤ n) (h1 : n < (115792089237316195423570985008687907853269984665640564039457584007913129639936 : Int)) : val (words n) = n := by
  rw [val_words]; exact Int.emod_eq_of_lt h0 h1
/-- words, from their value -/
theorem eq_words {f : F} (h : bd f) {n : Int} (hn : val f = n % (115792089237316195423570985008687907853269984665640564039457584007913129639936 : Int)) : ∀ j, j < 4 → f j = words n j := by
  intro j hj
  rw [← words_val h j hj, hn, ← val_words, words_val (words_bd n) j hj]
theorem words_congr {m n : Int} (h : m % (115792089237316195423570985008687907853269984665640564039457584007913129639936 : Int) = n % (115792089237316195423570985008687907853269984665640564039457584007913129639936 : Int)) : ∀ j, j < 4 → words m j = words n j :=
  eq_words (words_bd m) (by rw [val_words, h])
theorem val_congr {f g : F} (h : ∀ j, j < 4 → f j = g j) : val f = val g := by
  unfold val; rw [h 0 (by omega), h 1 (by omega), h 2 (by omega), h 3 (by omega)]
theorem bd.congr {f g : F} (h : ∀ j, j < 4 → f j = g j) (hf : bd f) : bd g := fun j hj => by rw [← h j hj]; exact hf j hj
theorem four {P : Nat → Prop} (h0 : P 0) (h1 : P 1) (h2 : P 2) (h3 : P 3) : ∀ j, j < 4 → P j := by
  intro j hj
  match j with
  | 0 => exact h0
  | 1 => exact h1
  | 2 => exact h2
  | 3 => exact h3
  | j + 4 => omega
theorem val_eq {f g : F} (hf : bd f) (hg : bd g) : val f = val g ↔ ∀ j, j < 4 → f j = g j :=
  ⟨fun h j hj => by rw [← words_val hf j hj, ← words_val hg j hj, h], val_congr⟩
theorem val_zero {f : F} (hf : bd f) : val f = 0 ↔ f 0 = 0 ∧ f 1 = 0 ∧ f 2 = 0 ∧ f 3 = 0 := by
  have := hf.at; unfold val; omega

/-! bits -/
def p2 (n : Nat) : Int := 2 ^ n
theorem p2_pos (n : Nat) : 0 < p2 n := Int.pow_pos (by decide)
theorem p2_add (m n : Nat) : p2 (m + n) = p2 m * p2 n := Int.pow_add ..
theorem p2_succ (n : Nat) : p2 (n + 1) = 2 * p2 n := by rw [p2_add]; unfold p2; omega
theorem p2_64 : p2 64 = (18446744073709551616 : Int) := by decide
theorem p2_256 : p2 256 = (115792089237316195423570985008687907853269984665640564039457584007913129639936 : Int) := by decide
theorem p2_le {m n : Nat} (h : m ≤ n) : p2 m ≤ p2 n := by
  obtain ⟨k, rfl⟩ := Nat.exists_eq_add_of_le h
  rw [p2_add]
  have := p2_pos m
  have h1 := p2_pos k
  calc p2 m = p2 m * 1 := by omega
    _ ≤ p2 m * p2 k := Int.mul_le_mul_of_nonneg_left (by omega) (by omega)
theorem m64_pow (j : Nat) : (18446744073709551616 : Int) ^ j = p2 (64 * j) := by
  rw [← p2_64]; unfold p2; rw [← Int.pow_mul]

/-- a bit of a digit is a bit of the number -/
theorem words_bit (n : Int) (j r : Nat) (hr : r < 64) : words n j / p2 r % 2 = n / p2 (64 * j + r) % 2 := by
  unfold words
  rw [m64_pow, ← p2_64, p2_add, ← Int.ediv_ediv_of_nonneg (Int.le_of_lt (p2_pos _))]
  obtain ⟨k, hk⟩ : ∃ k, 64 = r + (k + 1) := ⟨63 - r, by omega⟩
  generalize n / p2 (64 * j) = x
  rw [hk, p2_add, p2_succ]
  have hp := p2_pos r
  have e : x = x % (p2 r * (2 * p2 k)) + p2 r * (2 * p2 k * (x / (p2 r * (2 * p2 k)))) := by
    have := Int.emod_add_mul_ediv x (p2 r * (2 * p2 k)); rw [Int.mul_assoc] at this; omega
  conv => rhs; rw [e, Int.add_mul_ediv_left _ _ (by omega), Int.mul_assoc]
  omega

/-- one more bit, where it is not there yet -/
theorem add_bit {n : Int} {j r : Nat} (hr : r < 64) (hb : n / p2 (64 * j + r) % 2 = 0) :
    words n j + p2 r < (18446744073709551616 : Int) ∧ ∀ i, words (n + p2 (64 * j + r)) i = if i = j then words n j + p2 r else words n i := by
  have hw := words_bit n j r hr
  rw [hb] at hw
  obtain ⟨h0, h1⟩ := words_lo n j
  have hlt : words n j + p2 r < (18446744073709551616 : Int) := by
    obtain ⟨k, hk⟩ : ∃ k, 64 = r + (k + 1) := ⟨63 - r, by omega⟩
    have hm : (18446744073709551616 : Int) = p2 r * (2 * p2 k) := by rw [← p2_64, hk, p2_add, p2_succ]
    have hp := p2_pos r
    have e := Int.emod_add_mul_ediv (words n j) (p2 r)
    have e1 := Int.emod_lt_of_pos (words n j) hp
    have hq : words n j / p2 r < 2 * p2 k := by
      apply Int.ediv_lt_of_lt_mul hp
      rw [Int.mul_comm, ← hm]; exact h1
    have hq2 : words n j / p2 r + 2 ≤ 2 * p2 k := by omega
    have := Int.mul_le_mul_of_nonneg_left hq2 (Int.le_of_lt hp)
    rw [Int.mul_add] at this
    rw [hm]
    omega
  refine ⟨hlt, fun i => ?_⟩
  have hr64 : p2 r < (18446744073709551616 : Int) := by omega
  have hadd : n + p2 (64 * j + r) = n + p2 (64 * j) * p2 r := by rw [p2_add]
  have hx : 0 < p2 (64 * j) := p2_pos _
  split
  · rename_i h
    subst h
    show (n + p2 (64 * i + r)) / (18446744073709551616 : Int) ^ i % (18446744073709551616 : Int) = _
    rw [hadd, m64_pow, Int.add_mul_ediv_left _ _ (by omega)]
    have : words n i = n / p2 (64 * i) % (18446744073709551616 : Int) := by unfold words; rw [m64_pow]
    have := p2_pos r
    omega
  · rename_i h
    unfold words
    rw [hadd, m64_pow]
    rcases Nat.lt_or_gt_of_ne h with hlt' | hgt
    · obtain ⟨k, rfl⟩ : ∃ k, j = i + (k + 1) := ⟨j - i - 1, by omega⟩
      rw [show 64 * (i + (k + 1)) = 64 * i + (64 * k + 64) from by omega, p2_add, p2_add (64 * k), p2_64, Int.mul_assoc, Int.add_mul_ediv_left _ _ (by have := p2_pos (64 * i); omega),
        show p2 (64 * k) * (18446744073709551616 : Int) * p2 r = (18446744073709551616 : Int) * (p2 (64 * k) * p2 r) from by rw [Int.mul_comm (p2 (64 * k)), Int.mul_assoc], Int.add_mul_emod_self_left]
    · obtain ⟨k, rfl⟩ : ∃ k, i = j + (k + 1) := ⟨i - j - 1, by omega⟩
      rw [show 64 * (j + (k + 1)) = 64 * j + (64 + 64 * k) from by omega, p2_add (64 * j), p2_add 64, p2_64, ← Int.ediv_ediv_of_nonneg (by omega), ← Int.ediv_ediv_of_nonneg (by omega), ← Int.ediv_ediv_of_nonneg (y := p2 (64 * j)) (by omega), ← Int.ediv_ediv_of_nonneg (y := (18446744073709551616 : Int)) (by omega), Int.add_mul_ediv_left _ _ (by omega)]
      have e : words n j = n / p2 (64 * j) % (18446744073709551616 : Int) := by unfold words; rw [m64_pow]
      have e2 : (n / p2 (64 * j) + p2 r) / (18446744073709551616 : Int) = n / p2 (64 * j) / (18446744073709551616 : Int) := by have := p2_pos r; omega
      rw [e2]
end Go.Eng
