import Derived.Test.YtegcdnjihnpolaaVh
set_option linter.unusedSimpArgs false
set_option linter.unusedVariables false
namespace Go.Eng
open Go
theorem wrap_u32 (n : Int) : IntKind.u32.wrap n = n % 4294967296 := by
  unfold IntKind.wrap; simp [IntKind.bits, IntKind.signed]
theorem rbin32_shr {n : Int} {m : Nat} (x : Int) (h : min n.toNat 32 = m) : rbin .shr .u32 x n = x / p2 m := by
  subst h
  show x.fdiv (2 ^ (min n.toNat 32)) = _
  rw [Int.fdiv_eq_ediv_of_nonneg _ (Int.le_of_lt (Int.pow_pos (by decide)))]; rfl
theorem rbin32_shl {n : Int} {m : Nat} (x : Int) (h : min n.toNat 32 = m) : rbin .shl .u32 x n = x * p2 m % 4294967296 := by
  subst h; exact wrap_u32 _
theorem and_mask (a n : Nat) : a &&& (2 ^ n - 1) = a % 2 ^ n := Nat.and_two_pow_sub_one_eq_mod a n
theorem and_one_bit (a n : Nat) : a &&& 2 ^ n = 2 ^ n * (a / 2 ^ n % 2) := by
  have h : a / 2 ^ n % 2 = (a.testBit n).toNat := by
    rw [Nat.testBit_eq_decide_div_mod_eq]
    rcases Nat.mod_two_eq_zero_or_one (a / 2 ^ n) with h | h <;> simp [h]
  rw [h]
  apply Nat.eq_of_testBit_eq
  intro i
  rw [Nat.testBit_and, Nat.testBit_two_pow]
  by_cases hi : n = i
  · subst hi
    cases hb : a.testBit n <;> simp
  · cases hb : a.testBit n <;> simp [hi]
theorem bits_and_u32_nat (a b : Nat) (ha : a < 4294967296) (hb : b < 4294967296) : bits .and .u32 (a : Int) (b : Int) = ((a &&& b : Nat) : Int) := by
  have hx : a &&& b < 2 ^ 32 := Nat.and_lt_two_pow _ (by omega)
  have h1 : (BitVec.ofInt 32 (a : Int)).toNat = a := by
    rw [BitVec.ofInt_natCast, BitVec.toNat_ofNat]; exact Nat.mod_eq_of_lt (by omega)
  have h2 : (BitVec.ofInt 32 (b : Int)).toNat = b := by
    rw [BitVec.ofInt_natCast, BitVec.toNat_ofNat]; exact Nat.mod_eq_of_lt (by omega)
  show IntKind.u32.wrap ((BitVec.ofInt 32 (a : Int) &&& BitVec.ofInt 32 (b : Int)).toNat : Int) = _
  rw [BitVec.toNat_and, h1, h2, wrap_u32]
  omega
theorem rbin32_mask (x : Int) (h0 : 0 ≤ x) (h1 : x < 4294967296) : rbin .and .u32 x 8388607 = x % 8388608 := by
  obtain ⟨a, rfl⟩ := Int.eq_ofNat_of_zero_le h0
  have e := bits_and_u32_nat a 8388607 (by omega) (by decide)
  show bits .and .u32 (a : Int) ((8388607 : Nat) : Int) = _
  rw [e, show (8388607 : Nat) = 2 ^ 23 - 1 by decide, and_mask]
  omega
theorem rbin32_bit (x : Int) (h0 : 0 ≤ x) (h1 : x < 4294967296) : rbin .and .u32 x 8388608 = 8388608 * (x / 8388608 % 2) := by
  obtain ⟨a, rfl⟩ := Int.eq_ofNat_of_zero_le h0
  have e := bits_and_u32_nat a 8388608 (by omega) (by decide)
  show bits .and .u32 (a : Int) ((8388608 : Nat) : Int) = _
  rw [e, show (8388608 : Nat) = 2 ^ 23 by decide, and_one_bit]
  omega
theorem rbin64_bit (x : Int) (h0 : 0 ≤ x) (h1 : x < (18446744073709551616 : Int)) : rbin .and .u64 x 8388608 = 8388608 * (x / 8388608 % 2) := by
  obtain ⟨a, rfl⟩ := Int.eq_ofNat_of_zero_le h0
  have e := bits_and_u64_nat a 8388608 (by omega) (by decide)
  show bits .and .u64 (a : Int) ((8388608 : Nat) : Int) = _
  rw [e, show (8388608 : Nat) = 2 ^ 23 by decide, and_one_bit]
  omega
theorem bits_or_u32_nat (a b : Nat) (ha : a < 4294967296) (hb : b < 4294967296) : bits .or .u32 (a : Int) (b : Int) = ((a ||| b : Nat) : Int) := by
  have hx : a ||| b < 2 ^ 32 := Nat.or_lt_two_pow (by omega) (by omega)
  have h1 : (BitVec.ofInt 32 (a : Int)).toNat = a := by
    rw [BitVec.ofInt_natCast, BitVec.toNat_ofNat]; exact Nat.mod_eq_of_lt (by omega)
  have h2 : (BitVec.ofInt 32 (b : Int)).toNat = b := by
    rw [BitVec.ofInt_natCast, BitVec.toNat_ofNat]; exact Nat.mod_eq_of_lt (by omega)
  show IntKind.u32.wrap ((BitVec.ofInt 32 (a : Int) ||| BitVec.ofInt 32 (b : Int)).toNat : Int) = _
  rw [BitVec.toNat_or, h1, h2, wrap_u32]
  omega
/-- 'or' of what stands high and what stands low -/
theorem rbin32_or {x y : Int} {k : Nat} (hk : k < 32) (hx : 0 ≤ x) (hx1 : x * p2 k < 4294967296) (hy : 0 ≤ y) (hy1 : y < p2 k) : rbin .or .u32 (x * p2 k) y = x * p2 k + y := by
  obtain ⟨a, rfl⟩ := Int.eq_ofNat_of_zero_le hx
  obtain ⟨b, rfl⟩ := Int.eq_ofNat_of_zero_le hy
  have ep : p2 k = ((2 ^ k : Nat) : Int) := p2_nat k
  have h1 : p2 k < 4294967296 := by
    have := p2_le (show k + 1 ≤ 32 by omega)
    rw [p2_succ, show p2 32 = 4294967296 by decide] at this
    have := p2_pos k
    omega
  rw [ep] at hx1 hy1 h1 ⊢
  have e1 : (a : Int) * ((2 ^ k : Nat) : Int) = ((a * 2 ^ k : Nat) : Int) := by rw [Int.natCast_mul]
  rw [e1] at hx1 ⊢
  have e := bits_or_u32_nat (a * 2 ^ k) b (by omega) (by omega)
  show bits .or .u32 _ _ = _
  rw [e, Nat.mul_comm, ← Nat.two_pow_add_eq_or_of_lt (by omega)]
  rfl
/-- what bits say, whatever the limit -/
def tgt (b : Int) : Int := if b / 16777216 ≤ 3 then b % 8388608 / p2 (8 * (3 - b / 16777216)).toNat else b % 8388608 * p2 (8 * (b / 16777216 - 3)).toNat
def tlim : Int := 8388607 * p2 232
def tgood (b : Int) : Bool := decide (b / 8388608 % 2 = 0 ∧ 0 < tgt b ∧ tgt b ≤ tlim)
def tval (b : Int) : Int := if tgood b = true then tgt b else 0
theorem tgt_nonneg {b : Int} (h : 0 ≤ b) : 0 ≤ tgt b := by
  unfold tgt
  split
  · exact Int.ediv_nonneg (by omega) (Int.le_of_lt (p2_pos _))
  · exact Int.mul_nonneg (by omega) (Int.le_of_lt (p2_pos _))
theorem tlim_lt : tlim < (115792089237316195423570985008687907853269984665640564039457584007913129639936 : Int) := by decide +kernel
theorem tval_lt (b : Int) : 0 ≤ tval b ∧ tval b ≤ tlim := by
  unfold tval
  split
  · rename_i h
    unfold tgood at h
    rw [decide_eq_true_eq] at h
    omega
  · exact ⟨Int.le_refl _, by decide +kernel⟩
/-- how many bytes a number has -/
def bytesOf (n : Int) : Int := (bitLen n.toNat + 7) / 8
def cmant (n : Int) : Int := if bytesOf n ≤ 3 then n * p2 (8 * (3 - bytesOf n)).toNat else n / p2 (8 * (bytesOf n - 3)).toNat
def cpt (n : Int) : Int := if cmant n / 8388608 % 2 = 1 then (bytesOf n + 1) * 16777216 + cmant n / 256 else bytesOf n * 16777216 + cmant n

structure L5 where
  lf : LF
  u32 : Int → Prop
  sz : Int → Prop
  rawW : Int → F
  rawB : Int → Bool
  lim : F
  tw : Int → F
  te : Int → Int
  tb : Int → Bool
  cp : F → Int
  low : F → Int
  lowB : F → Bool
  sh : F → Int → F
def l5R : L5 where
  lf := lfR
  u32 n := 0 ≤ n ∧ n < 4294967296
  sz n := -300 ≤ n ∧ n ≤ 300
  rawW b := words (if tgt b < (115792089237316195423570985008687907853269984665640564039457584007913129639936 : Int) then tgt b else 0)
  rawB b := decide (tgt b < (115792089237316195423570985008687907853269984665640564039457584007913129639936 : Int))
  lim := words tlim
  tw b := words (tval b)
  te b := if tgood b = true then 0 else 50
  tb := tgood
  cp f := cpt (val f)
  low f := if val f < (18446744073709551616 : Int) then val f else 0
  lowB f := decide (val f < (18446744073709551616 : Int))
  sh f n := words (shl (val f) (8 * n))
def num32 : List A → Option Int
  | [.one a] => match a.num? with
    | some (.u32, x, _) => some x
    | _ => none
  | _ => none
theorem num32_some {l : List A} {x : Int} (h : num32 l = some x) : ∃ a u, l = [.one a] ∧ a.num? = some (.u32, x, u) := by
  unfold num32 at h
  split at h
  · split at h
    · rename_i h1; cases h; exact ⟨_, _, rfl, h1⟩
    · cases h
  · cases h
theorem num32_norm {l : List A} {x : Int} (h : num32 l = some x) : num32 (l.map A.norm) = some x := by
  obtain ⟨a, u, rfl, h1⟩ := num32_some h
  rcases num_cases h1 with rfl | rfl <;> rfl
abbrev U32 (n : Int) : A := .one (.int .u32 n)
theorem num32_int {l : List A} {x : Int} (h : num32 l = some x) (hn : l.map A.norm = l) : l = [U32 x] := by
  obtain ⟨a, u, rfl, h1⟩ := num32_some h
  rcases num_cases h1 with rfl | rfl
  · rfl
  · cases hn
theorem num32_spec_norm {g : Int → V × List Prop} {s : ESpec} (hs : ∀ l, s l = match num32 l with
  | some x => some (g x)
  | none => none) : ∀ l r, s l = some r → s (l.map A.norm) = some r := by
  intro l r h
  rw [hs] at h ⊢
  split at h
  · rename_i x h1
    rw [num32_norm h1]; exact h
  · cases h
theorem arrI_norm5 {g : F → Int → V × List Prop} {s : ESpec} (hs : ∀ l, s l = match arrI l with
  | some (f, n) => some (g f n)
  | none => none) : ∀ l r, s l = some r → s (l.map A.norm) = some r := by
  intro l r h
  rw [hs] at h ⊢
  split at h
  · rename_i f n h1
    rw [arrI_norm h1]; exact h
  · cases h
def sShifted (l : L5) : ESpec := fun a => match arrI a with
  | some (f, n) => some (.a (W (l.sh f n)), [l.lf.bd f, l.sz n])
  | none => none
def sRaw (l : L5) : ESpec := fun a => match num32 a with
  | some b => some (.tup [W (l.rawW b), B (l.rawB b)], [l.u32 b])
  | none => none
def sLimit (l : L5) : ESpec := fun a => match a with
  | [] => some (.a (W l.lim), [])
  | _ => none
def sExpand (l : L5) : ESpec := fun a => match num32 a with
  | some b => some (.tup [W (l.tw b), I (l.te b)], [l.u32 b])
  | none => none
def sCompact (l : L5) : ESpec := fun a => match arr1 a with
  | some f => some (.a (U32 (l.cp f)), [l.lf.bd f])
  | none => none
def sLow (l : L5) : ESpec := fun a => match arr1 a with
  | some f => some (.tup [U (l.low f), B (l.lowB f)], [l.lf.bd f])
  | none => none
end Go.Eng
