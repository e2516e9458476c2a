import Derived.Test.YtegcdnjihnpolaaTi
import Derived.Test.YtegcdnjihnpolaaWa
import Derived.Laws.Externs
import Derived.Laws.MathBits
set_option linter.unusedSimpArgs false
set_option linter.unusedVariables false
namespace Go.Eng

/-- the functions that an evaluation keeps folded -/
structure LF where
  bd : F → Prop
  u64 : Int → Prop
  b01 : Int → Prop
  i64 : Int → Prop
  nz : F → Prop
  nn : Int → Prop
  addLo : Int → Int → Int → Int
  addC : Int → Int → Int → Int
  subLo : Int → Int → Int → Int
  subB : Int → Int → Int → Int
  mulHi : Int → Int → Int
  mulLo : Int → Int → Int
  len64 : Int → Int
  cmp : Int → Int → Int
  wfrom : Int → F
  wzero : F → Bool
  wadd : F → F → F
  waddB : F → F → Bool
  wsub : F → F → F
  wsubB : F → F → Bool
  wmulL : F → F → F
  wmulH : F → F → F
  wnot : F → F
  wcmp : F → F → Int
  wbit : F → Int → Bool
  wbits : F → Int
  wleft : F → Int → F
  wright : F → Int → F
  wleftB : F → Int → Bool
  wdivQ : F → F → F
  wdivR : F → F → F
  wdivE : F → Int
  wroot : F → F
  wrev : F → F

def shl (a n : Int) : Int := if 0 ≤ n then a * p2 n.toNat else a / p2 (-n).toNat
/-- the greatest number whose square is not above, found by its bits from the highest down -/
def rootBits (a : Int) : Nat → Int
  | 0 => 0
  | n + 1 => rootBits a n
def root (a : Int) : Int := rootBits a 128

def lfR : LF where
  bd := Go.Eng.bd
  u64 n := 0 ≤ n ∧ n < (18446744073709551616 : Int)
  b01 n := 0 ≤ n ∧ n ≤ 1
  i64 n := -9223372036854775808 ≤ n ∧ n ≤ 9223372036854775807
  nz f := val f ≠ 0
  nn n := 0 ≤ n ∧ n ≤ 9223372036854775807
  addLo x y c := (x + y + c) % (18446744073709551616 : Int)
  addC x y c := (x + y + c) / (18446744073709551616 : Int)
  subLo x y c := (x - y - c) % (18446744073709551616 : Int)
  subB x y c := if x < y + c then 1 else 0
  mulHi x y := x * y / (18446744073709551616 : Int)
  mulLo x y := x * y % (18446744073709551616 : Int)
  len64 x := bitLen x.toNat
  cmp x y := if x < y then -1 else if y < x then 1 else 0
  wfrom := words
  wzero f := decide (val f = 0)
  wadd f g := words (val f + val g)
  waddB f g := decide ((115792089237316195423570985008687907853269984665640564039457584007913129639936 : Int) ≤ val f + val g)
  wsub f g := words (val f - val g)
  wsubB f g := decide (val f < val g)
  wmulL f g := words (val f * val g)
  wmulH f g := words (val f * val g / (115792089237316195423570985008687907853269984665640564039457584007913129639936 : Int))
  wnot f := words (-1 - val f)
  wcmp f g := if val f < val g then -1 else if val g < val f then 1 else 0
  wbit f n := decide (0 ≤ n ∧ n < 256 ∧ val f / p2 n.toNat % 2 = 1)
  wbits f := bitLen (val f).toNat
  wleft f n := words (shl (val f) n)
  wright f n := words (shl (val f) (-n))
  wleftB f n := decide ((115792089237316195423570985008687907853269984665640564039457584007913129639936 : Int) ≤ shl (val f) n)
  wdivQ f g := words (val f / val g)
  wdivR f g := words (if val g = 0 then 0 else val f % val g)
  wdivE g := if val g = 0 then 40 else 0
  wroot f := words (root (val f))
  wrev f := fun j => f (3 - j)

def num3 : List A → Option (Int × Int × Int)
  | [.one a, .one b, .one c] => match a.num?, b.num?, c.num? with
    | some (.u64, x, _), some (.u64, y, _), some (.u64, z, _) => some (x, y, z)
    | _, _, _ => none
  | _ => none
def num2 : List A → Option (Int × Int)
  | [.one a, .one b] => match a.num?, b.num? with
    | some (.u64, x, _), some (.u64, y, _) => some (x, y)
    | _, _ => none
  | _ => none
def num1 : List A → Option Int
  | [.one a] => match a.num? with
    | some (.u64, x, _) => some x
    | _ => none
  | _ => none
abbrev W (f : F) : A := .agg (.ints .u64 (.lit 4) f)
abbrev U (n : Int) : A := .one (.int .u64 n)
abbrev I (n : Int) : A := .one (.int .i64 n)
abbrev B (b : Bool) : A := .one (.bool b)
def arr1 : List A → Option F
  | [.agg (.ints .u64 (.lit 4) f)] => some f
  | _ => none
def arr2 : List A → Option (F × F)
  | [.agg (.ints .u64 (.lit 4) f), .agg (.ints .u64 (.lit 4) g)] => some (f, g)
  | _ => none
def arrI : List A → Option (F × Int)
  | [.agg (.ints .u64 (.lit 4) f), .one c] => match c.num? with
    | some (.i64, n, _) => some (f, n)
    | _ => none
  | _ => none

def sAdd64 (lf : LF) : ESpec := fun l => match num3 l with
  | some (x, y, z) => some (.tup [U (lf.addLo x y z), U (lf.addC x y z)], [lf.u64 x, lf.u64 y, lf.b01 z])
  | none => none
def sSub64 (lf : LF) : ESpec := fun l => match num3 l with
  | some (x, y, z) => some (.tup [U (lf.subLo x y z), U (lf.subB x y z)], [lf.u64 x, lf.u64 y, lf.b01 z])
  | none => none
def sMul64 (lf : LF) : ESpec := fun l => match num2 l with
  | some (x, y) => some (.tup [U (lf.mulHi x y), U (lf.mulLo x y)], [lf.u64 x, lf.u64 y])
  | none => none
def sLen64 (lf : LF) : ESpec := fun l => match num1 l with
  | some x => some (.a (I (lf.len64 x)), [lf.u64 x])
  | none => none
def sFrom (lf : LF) : ESpec := fun l => match num1 l with
  | some x => some (.a (W (lf.wfrom x)), [lf.u64 x])
  | none => none
def sZero (lf : LF) : ESpec := fun l => match arr1 l with
  | some f => some (.a (B (lf.wzero f)), [lf.bd f])
  | none => none
def sAdd (lf : LF) : ESpec := fun l => match arr2 l with
  | some (f, g) => some (.tup [W (lf.wadd f g), B (lf.waddB f g)], [lf.bd f, lf.bd g])
  | none => none
def sSub (lf : LF) : ESpec := fun l => match arr2 l with
  | some (f, g) => some (.tup [W (lf.wsub f g), B (lf.wsubB f g)], [lf.bd f, lf.bd g])
  | none => none
def sMul (lf : LF) : ESpec := fun l => match arr2 l with
  | some (f, g) => some (.tup [W (lf.wmulL f g), W (lf.wmulH f g)], [lf.bd f, lf.bd g])
  | none => none
def sNot (lf : LF) : ESpec := fun l => match arr1 l with
  | some f => some (.a (W (lf.wnot f)), [lf.bd f])
  | none => none
def sCmp (lf : LF) : ESpec := fun l => match arr2 l with
  | some (f, g) => some (.a (I (lf.wcmp f g)), [lf.bd f, lf.bd g])
  | none => none
def sBit (lf : LF) : ESpec := fun l => match arrI l with
  | some (f, n) => some (.a (B (lf.wbit f n)), [lf.bd f, lf.i64 n])
  | none => none
def sBits (lf : LF) : ESpec := fun l => match arr1 l with
  | some f => some (.a (I (lf.wbits f)), [lf.bd f])
  | none => none

theorem num3_some {l : List A} {x y z : Int} (h : num3 l = some (x, y, z)) : ∃ a b c u v w, l = [.one a, .one b, .one c] ∧ a.num? = some (.u64, x, u) ∧ b.num? = some (.u64, y, v) ∧ c.num? = some (.u64, z, w) := by
  unfold num3 at h
  split at h
  · split at h
    · rename_i h1 h2 h3; cases h; exact ⟨_, _, _, _, _, _, rfl, h1, h2, h3⟩
    · cases h
  · cases h
theorem num2_some {l : List A} {x y : Int} (h : num2 l = some (x, y)) : ∃ a b u v, l = [.one a, .one b] ∧ a.num? = some (.u64, x, u) ∧ b.num? = some (.u64, y, v) := by
  unfold num2 at h
  split at h
  · split at h
    · rename_i h1 h2; cases h; exact ⟨_, _, _, _, rfl, h1, h2⟩
    · cases h
  · cases h
theorem num1_some {l : List A} {x : Int} (h : num1 l = some x) : ∃ a u, l = [.one a] ∧ a.num? = some (.u64, x, u) := by
  unfold num1 at h
  split at h
  · split at h
    · rename_i h1; cases h; exact ⟨_, _, rfl, h1⟩
    · cases h
  · cases h
theorem arr1_some {l : List A} {f : F} (h : arr1 l = some f) : l = [W f] := by
  unfold arr1 at h
  split at h
  · cases h; rfl
  · cases h
theorem arr2_some {l : List A} {f g : F} (h : arr2 l = some (f, g)) : l = [W f, W g] := by
  unfold arr2 at h
  split at h
  · cases h; rfl
  · cases h
theorem arrI_some {l : List A} {f : F} {n : Int} (h : arrI l = some (f, n)) : ∃ a u, l = [W f, .one a] ∧ a.num? = some (.i64, n, u) := by
  unfold arrI at h
  split at h
  · split at h
    · rename_i h1; cases h; exact ⟨_, _, rfl, h1⟩
    · cases h
  · cases h
/-- a numeral or not: the cell by its two forms -/
theorem num_cases {c : C} {k : IntKind} {n : Int} {l : Bool} (h : c.num? = some (k, n, l)) : c = .int k n ∨ c = .lit k n := by
  cases c <;> simp only [C.num?] at h <;> first | (cases h; simp; done) | cases h
end Go.Eng

namespace Go.Proofs.Ytegcdnjihnpolaa
open Go Go.Eng Go.Proofs Go.RowKit
theorem hmix : Try.prog.follows .mixedOrders = true := by kernel_rfl

section
attribute [local irreducible] Run TIok

/-- the arguments of three numbers -/
theorem args3 {a b c : C} {x y z : Int} {u v w : Bool} (h1 : a.num? = some (.u64, x, u)) (h2 : b.num? = some (.u64, y, v)) (h3 : c.num? = some (.u64, z, w)) {args : Array Value}
    (ha : args.size = 3 ∧ ∀ (j : Nat) (x : A), [A.one a, A.one b, A.one c][j]? = some x → ∃ v : Value, args[j]? = some v ∧ ARel (fun _ => none) x v) : args = #[.int .u64 x, .int .u64 y, .int .u64 z] := by
  obtain ⟨hsz, hget⟩ := ha
  obtain ⟨u0, e0, r0⟩ := hget 0 _ rfl
  obtain ⟨u1, e1, r1⟩ := hget 1 _ rfl
  obtain ⟨u2, e2, r2⟩ := hget 2 _ rfl
  have q0 := CRel.of_num r0 h1
  have q1 := CRel.of_num r1 h2
  have q2 := CRel.of_num r2 h3
  apply Array.ext_getElem?
  intro j
  match j with
  | 0 => rw [e0, q0]; rfl
  | 1 => rw [e1, q1]; rfl
  | 2 => rw [e2, q2]; rfl
  | j + 3 =>
    rw [Array.getElem?_eq_none (by omega), Array.getElem?_eq_none (by simp)]

theorem two_rel (x y : Int) : VRel (fun _ => none) (.tup [U x, U y]) (.tuple #[.int .u64 x, .int .u64 y]) := by
  refine ⟨_, rfl, rfl, fun j c hc => ?_⟩
  match j with
  | 0 => simp at hc; subst hc; exact ⟨_, rfl, rfl⟩
  | 1 => simp at hc; subst hc; exact ⟨_, rfl, rfl⟩
  | j + 2 => simp at hc

set_option maxRecDepth 100000 in
theorem add64_ok : CallOk Try.prog 104 (sAdd64 lfR) := by
  unfold CallOk
  intro xs v ps hs hp args w ha o a K Q hK
  unfold sAdd64 at hs
  split at hs
  · rename_i x y z h
    obtain ⟨ca, cb, cc, _, _, _, rfl, h1, h2, h3⟩ := num3_some h
    cases hs
    have hx : 0 ≤ x ∧ x < (18446744073709551616 : Int) := hp (lfR.u64 x) (by simp)
    have hy : 0 ≤ y ∧ y < (18446744073709551616 : Int) := hp (lfR.u64 y) (by simp)
    have hz : 0 ≤ z ∧ z ≤ 1 := hp (lfR.b01 z) (by simp)
    rw [args3 h1 h2 h3 ha, run_callFunc_extern (e := add64Entry) Try.func104 (by kernel_rfl) (by kernel_rfl) (by kernel_rfl) (by kernel_rfl), run_add64 x y z hx.1 hy.1 hz.1 hz.2]
    exact hK _ _ (two_rel _ _) (Below.refl _ _)
  · cases hs

def sub64Entry : Array Value → Sem Value := fun args => do
  let (x, y, b) ← Extern.MathBitsCarry.three "Sub64" args
  pure (Extern.MathBitsCarry.pair ((x + Extern.MathBitsCarry.m64 - y - b) % Extern.MathBitsCarry.m64) (if x < y + b then 1 else 0))

theorem run_sub64 {P : Program} (x y c : Int) (hx : 0 ≤ x) (hx1 : x < (18446744073709551616 : Int)) (hy : 0 ≤ y) (hy1 : y < (18446744073709551616 : Int)) (hc0 : 0 ≤ c) (hc : c ≤ 1) (w : World) :
    (sub64Entry #[.int .u64 x, .int .u64 y, .int .u64 c]).run P w =
      .ok (.tuple #[.int .u64 ((x - y - c) % (18446744073709551616 : Int)), .int .u64 (if x < y + c then 1 else 0)]) w := by
  have key : ∀ k : Nat, k ≤ 1 → (sub64Entry #[.int .u64 x, .int .u64 y, .int .u64 (k : Int)]).run P w =
      .ok (Extern.MathBitsCarry.pair ((x.toNat + Extern.MathBitsCarry.m64 - y.toNat - k) % Extern.MathBitsCarry.m64) (if x.toNat < y.toNat + k then 1 else 0)) w := by
    intro k hk
    have : k = 0 ∨ k = 1 := by omega
    rcases this with rfl | rfl <;> rfl
  obtain ⟨k, rfl⟩ := Int.eq_ofNat_of_zero_le hc0
  rw [key k (by omega)]
  obtain ⟨X, rfl⟩ := Int.eq_ofNat_of_zero_le hx
  obtain ⟨Y, rfl⟩ := Int.eq_ofNat_of_zero_le hy
  simp only [Extern.MathBitsCarry.pair, Extern.MathBitsCarry.m64, Int.toNat_natCast]
  have e1 : Int.ofNat ((X + 2 ^ 64 - Y - k) % 2 ^ 64) = ((X : Int) - Y - k) % (18446744073709551616 : Int) := by
    simp only [Int.ofNat_eq_natCast]; omega
  have e2 : Int.ofNat (if X < Y + k then 1 else 0) = (if (X : Int) < Y + k then 1 else 0) := by
    split <;> split <;> first | rfl | omega
  rw [e1, e2]

set_option maxRecDepth 100000 in
theorem sub64_ok : CallOk Try.prog 105 (sSub64 lfR) := by
  unfold CallOk
  intro xs v ps hs hp args w ha o a K Q hK
  unfold sSub64 at hs
  split at hs
  · rename_i x y z h
    obtain ⟨ca, cb, cc, _, _, _, rfl, h1, h2, h3⟩ := num3_some h
    cases hs
    have hx : 0 ≤ x ∧ x < (18446744073709551616 : Int) := hp (lfR.u64 x) (by simp)
    have hy : 0 ≤ y ∧ y < (18446744073709551616 : Int) := hp (lfR.u64 y) (by simp)
    have hz : 0 ≤ z ∧ z ≤ 1 := hp (lfR.b01 z) (by simp)
    rw [args3 h1 h2 h3 ha, run_callFunc_extern (e := sub64Entry) Try.func105 (by kernel_rfl) (by kernel_rfl) (by kernel_rfl) (by kernel_rfl), run_sub64 x y z hx.1 hx.2 hy.1 hy.2 hz.1 hz.2]
    exact hK _ _ (two_rel _ _) (Below.refl _ _)
  · cases hs
end
end Go.Proofs.Ytegcdnjihnpolaa
