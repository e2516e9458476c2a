import Derived.Test.YtegcdnjihnpolaaWm
set_option linter.unusedSimpArgs false
set_option linter.unusedVariables false
namespace Go.Eng
open Go
/-- the number that digits are, to a base -/
def pv (β : Int) (f : F) : Nat → Int
  | 0 => 0
  | k + 1 => pv β f k + f k * β ^ k
theorem pv_congr {β : Int} {f g : F} : ∀ {n : Nat}, (∀ j, j < n → f j = g j) → pv β f n = pv β g n
  | 0, _ => rfl
  | n + 1, h => by simp only [pv]; rw [pv_congr (fun j hj => h j (by omega)), h n (by omega)]
theorem pv_upd {β : Int} {p : F} {j : Nat} {y : Int} : ∀ {n : Nat}, j < n → pv β (updF p j y) n = pv β p n + (y - p j) * β ^ j
  | 0, h => by omega
  | n + 1, h => by
    simp only [pv]
    by_cases hj : j = n
    · subst hj
      rw [pv_congr (g := p) (fun i hi => by unfold updF; rw [if_neg (by omega)]), show updF p j y j = y from by unfold updF; rw [if_pos rfl], Int.sub_mul]
      omega
    · rw [pv_upd (by omega), show updF p j y n = p n from by unfold updF; rw [if_neg (by omega)]]
      omega
theorem pv_val (f : F) : pv (18446744073709551616 : Int) f 4 = val f := by
  unfold val
  simp only [pv]
  have e1 : (18446744073709551616 : Int) ^ 1 = 18446744073709551616 := by decide
  have e2 : (18446744073709551616 : Int) ^ 2 = 340282366920938463463374607431768211456 := by decide
  have e3 : (18446744073709551616 : Int) ^ 3 = 6277101735386680763835789423207666416102355444464034512896 := by decide
  rw [e1, e2, e3, Int.pow_zero]
  omega
theorem mul_lt {x y β : Int} (hx : 0 ≤ x ∧ x < β) (hy : 0 ≤ y ∧ y < β) : 0 ≤ x * y ∧ x * y ≤ (β - 1) * (β - 1) :=
  ⟨Int.mul_nonneg hx.1 hy.1, Int.mul_le_mul (by omega) (by omega) hy.1 (by omega)⟩
/-- one digit's product, what is carried, what stands there: by the words' own steps -/
theorem mul_step {X c p : Int} (hX : 0 ≤ X ∧ X ≤ 340282366920938463426481119284349108225) (hc : 0 ≤ c ∧ c < (18446744073709551616 : Int)) (hp : 0 ≤ p ∧ p < (18446744073709551616 : Int)) :
    (p + (X % 18446744073709551616 + c + 0) % 18446744073709551616 + 0) % 18446744073709551616 = (p + X + c) % 18446744073709551616 ∧
    ((X / 18446744073709551616 + (X % 18446744073709551616 + c + 0) / 18446744073709551616) % 18446744073709551616 + (p + (X % 18446744073709551616 + c + 0) % 18446744073709551616 + 0) / 18446744073709551616) % 18446744073709551616 = (p + X + c) / 18446744073709551616 := by
  omega
/-- the sum stays what it is -/
theorem mul_keep {β P P' c T p e x y E v : Int} {i k : Nat} (h : P + c * β ^ (i + k) = E + x * β ^ i * v) (hP : P' = P + (T % β - p) * β ^ (i + k)) (hT : T = p + x * y + c) :
    P' + T / β * β ^ (i + k + 1) = E + x * β ^ i * (v + y * β ^ k) := by
  have e1 := Int.emod_add_mul_ediv T β
  have e2 : β ^ (i + k + 1) = β ^ (i + k) * β := Int.pow_succ ..
  have e3 : β ^ (i + k) = β ^ i * β ^ k := Int.pow_add ..
  rw [hP, e2]
  have : P + (T % β - p) * β ^ (i + k) + T / β * (β ^ (i + k) * β) = P + (T % β + β * (T / β) - p) * β ^ (i + k) := by grind
  rw [this, e1, hT]
  have : P + (p + x * y + c - p) * β ^ (i + k) = (P + c * β ^ (i + k)) + x * y * β ^ (i + k) := by grind
  rw [this, h, e3]
  grind
end Go.Eng
