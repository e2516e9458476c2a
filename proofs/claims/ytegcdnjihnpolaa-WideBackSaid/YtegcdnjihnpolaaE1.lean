import Derived.Test.YtegcdnjihnpolaaE0
import Derived.WalkKit
namespace Go.Eng
open Go

/-- the operations themselves -/
def rbin (op : BinOp) (k : IntKind) (x y : Int) : Int :=
  match op with
  | .add => k.wrap (x + y)
  | .sub => k.wrap (x - y)
  | .mul => k.wrap (x * y)
  | .quo => k.wrap (x.tdiv y)
  | .rem => x.tmod y
  | .and => k.wrap ((BitVec.ofInt k.bits x) &&& (BitVec.ofInt k.bits y)).toNat
  | .or => k.wrap ((BitVec.ofInt k.bits x) ||| (BitVec.ofInt k.bits y)).toNat
  | .xor => k.wrap ((BitVec.ofInt k.bits x) ^^^ (BitVec.ofInt k.bits y)).toNat
  | .andNot => k.wrap ((BitVec.ofInt k.bits x) &&& ~~~(BitVec.ofInt k.bits y)).toNat
  | .shl => k.wrap (x * 2 ^ (min y.toNat k.bits))
  | .shr => x.fdiv (2 ^ (min y.toNat k.bits))
  | _ => 0
def rcmp (op : BinOp) (x y : Int) : Bool :=
  match op with
  | .eql => x == y
  | .neq => x != y
  | .lss => decide (x < y)
  | .leq => decide (x ≤ y)
  | .gtr => decide (x > y)
  | .geq => decide (x ≥ y)
  | _ => false
def run1 (op : UnOp) (k : IntKind) (n : Int) : Int :=
  match op with
  | .neg => k.wrap (0 - n)
  | .xor => k.wrap ((BitVec.ofInt k.bits (if k.signed then -1 else k.max)) ^^^ (BitVec.ofInt k.bits n)).toNat
  | _ => 0
def updF (f : Nat → Int) (i : Nat) (x : Int) : Nat → Int := fun j => if j = i then x else f j
def shfF (f : Nat → Int) (o : Nat) : Nat → Int := fun j => f (o + j)
def blitF (f : Nat → Int) (o n : Nat) (g : Nat → Int) : Nat → Int := fun j => if o ≤ j ∧ j < o + n then g (j - o) else f j
def arR : Ar where
  bin := rbin
  cmp := rcmp
  un := run1
  conv k n := k.wrap n
  bnot b := !b
  beq a b := a == b
  upd := updF
  shf := shfF
  blit := blitF
  idx o i s := o + i.toNat * s
  lEq a b := a == b
  inb i n := 0 ≤ i ∧ i < n
  le0 i n := 0 ≤ i ∧ i ≤ n
  sof o c l s := if c = l.toNat then o else o + l.toNat * s
  sub a l := a - l.toNat
  tn x := x.toNat
  mn x y := if y < x then y else x
  mx x y := if y > x then y else x
  sx s l h := s.extract l h
  sz s := s.size
  sb s i := (s[i]?.getD 0).toNat
  sEq a b := a.toList == b.toList
  sLt a b := Op.bytesLess a.toList b.toList
  scat a b := a ++ b
  sfit a b := ((a.size + b.size : Nat) : Int) ≤ 9223372036854775807
  leN a b := a ≤ b
  nz i := i ≠ 0
  nneg i := 0 ≤ i
  eqb a b := a = b

theorem updN_eq (f : Nat → Int) (i : N) (x : Int) : updN arR f i x = updF f i.val x := by cases i <;> rfl
theorem shfN_eq (f : Nat → Int) (o : N) : shfN arR f o = shfF f o.val := by cases o <;> rfl

/-! the relation to the model's values -/
def one1 : Value → Bool
  | .agg _ | .tuple _ => false
  | _ => true

abbrev Ren := Nat → Option (Nat × Nat)

def CRel (ρ : Ren) : C → Value → Prop
  | .int k n, v => v = .int k n
  | .lit k n, v => v = .int k n
  | .bool b, v => v = .bool b
  | .lbool b, v => v = .bool b
  | .str s, v => v = .string s
  | .ptr b off, v => ∃ r o, ρ b = some (r, o) ∧ v = .pointer (some ⟨r, o + off.val, none⟩)
  | .nil, v => v = .pointer none
  | .sl b off len cap, v => ∃ r o, ρ b = some (r, o) ∧ v = .slice (some ⟨r, o + off.val, none⟩) len.val cap.val
  | .nsl, v => v = .slice none 0 0
  | .raw u, v => v = u ∧ one1 u = true

def G.at : G → Nat → Option C
  | .lst cs, j => cs[j]?
  | .ints k n f, j => if j < n.val then some (.int k (f j)) else none

def G.len : G → Nat
  | .lst cs => cs.length
  | .ints _ n _ => n.val

def GRel (ρ : Ren) (g : G) (arr : Array Value) : Prop :=
  arr.size = g.len ∧ ∀ (j : Nat) (x : C), g.at j = some x → ∃ v : Value, arr[j]? = some v ∧ CRel ρ x v

def ARel (ρ : Ren) : A → Value → Prop
  | .one c, v => CRel ρ c v
  | .agg g, v => ∃ arr, v = .agg arr ∧ GRel ρ g arr

def VRel (ρ : Ren) : V → Value → Prop
  | .a x, v => ARel ρ x v
  | .tup xs, v => ∃ arr : Array Value, v = .tuple arr ∧ arr.size = xs.length ∧ ∀ (j : Nat) (x : A), xs[j]? = some x → ∃ u : Value, arr[j]? = some u ∧ ARel ρ x u
  | .any, _ => True

def TRel (ρ : Ren) (tmps : List V) (arr : Array Value) : Prop :=
  arr.size = tmps.length ∧ ∀ (j : Nat) (x : V), tmps[j]? = some x → ∃ v : Value, arr[j]? = some v ∧ VRel ρ x v

def BRel (ρ : Ren) (b : Blk) (r o : Nat) (w : World) : Prop :=
  ∃ c ty fz, w.heap[r]? = some (.cells c ty fz) ∧ (b.ro = false → fz = (0, 0)) ∧
    ∀ (j : Nat) (x : C), b.g.at j = some x → ∃ v : Value, c[o + j]? = some v ∧ CRel ρ x v

structure HRel (W0 : World) (m0 : Nat) (ρ : Ren) (h : Heap) (w : World) : Prop where
  os : w.os = W0.os
  tape : w.tape = W0.tape
  output : w.output = W0.output
  size : W0.heap.size ≤ w.heap.size
  frame : ∀ k, k < W0.heap.size → (∀ n b o, h[n]? = some (some b) → b.ro = false → ρ n = some (k, o) → False) → w.heap[k]? = W0.heap[k]?
  dom : ∀ n p, ρ n = some p → ∃ b, h[n]? = some (some b)
  blk : ∀ n b, h[n]? = some (some b) → ∃ r o, ρ n = some (r, o) ∧ BRel ρ b r o w
  sep : ∀ n m r o o' b, n ≠ m → h[n]? = some (some b) → b.ro = false → ρ n = some (r, o) → ρ m = some (r, o') → False
  new : ∀ n r o, m0 ≤ n → ρ n = some (r, o) → W0.heap.size ≤ r

def Ext (ρ ρ' : Ren) : Prop := ∀ n p, ρ n = some p → ρ' n = some p

theorem Ext.refl (ρ : Ren) : Ext ρ ρ := fun _ _ h => h
theorem Ext.trans {a b c : Ren} (h : Ext a b) (k : Ext b c) : Ext a c := fun n p x => k n p (h n p x)

theorem CRel.ext {ρ ρ' : Ren} (h : Ext ρ ρ') {c : C} {v : Value} (hc : CRel ρ c v) : CRel ρ' c v := by
  cases c <;> simp only [CRel] at hc ⊢ <;> try exact hc
  all_goals (obtain ⟨r, o, h1, h2⟩ := hc; exact ⟨r, o, h _ _ h1, h2⟩)
theorem GRel.ext {ρ ρ' : Ren} (h : Ext ρ ρ') {g : G} {v : Array Value} (hc : GRel ρ g v) : GRel ρ' g v :=
  ⟨hc.1, fun j x hx => let ⟨u, h1, h2⟩ := hc.2 j x hx; ⟨u, h1, h2.ext h⟩⟩
theorem ARel.ext {ρ ρ' : Ren} (h : Ext ρ ρ') {c : A} {v : Value} (hc : ARel ρ c v) : ARel ρ' c v := by
  cases c with
  | one c => exact CRel.ext h hc
  | agg g => obtain ⟨arr, h1, h2⟩ := hc; exact ⟨arr, h1, h2.ext h⟩
theorem VRel.ext {ρ ρ' : Ren} (h : Ext ρ ρ') {c : V} {v : Value} (hc : VRel ρ c v) : VRel ρ' c v := by
  cases c with
  | a c => exact ARel.ext h hc
  | tup xs => obtain ⟨arr, h1, h2, h3⟩ := hc; exact ⟨arr, h1, h2, fun j x hx => let ⟨u, a, b⟩ := h3 j x hx; ⟨u, a, b.ext h⟩⟩
  | any => exact True.intro
theorem TRel.ext {ρ ρ' : Ren} (h : Ext ρ ρ') {t : List V} {v : Array Value} (hc : TRel ρ t v) : TRel ρ' t v :=
  ⟨hc.1, fun j x hx => let ⟨u, h1, h2⟩ := hc.2 j x hx; ⟨u, h1, h2.ext h⟩⟩

theorem CRel.isOne {ρ : Ren} {c : C} {v : Value} (h : CRel ρ c v) : one1 v = true := by
  cases c <;> simp only [CRel] at h
  case ptr => obtain ⟨r, o, _, rfl⟩ := h; rfl
  case sl => obtain ⟨r, o, _, rfl⟩ := h; rfl
  case raw => rw [h.1]; exact h.2
  all_goals (subst h; rfl)
theorem CRel.cells {ρ : Ren} {c : C} {v : Value} (h : CRel ρ c v) : v.cells = #[v] := by
  have := h.isOne
  cases v <;> simp_all [one1, Value.cells]

theorem CRel.of_num {ρ : Ren} {c : C} {v : Value} {k : IntKind} {n : Int} {l : Bool} (h : CRel ρ c v) (hn : c.num? = some (k, n, l)) : v = .int k n := by
  cases c <;> simp only [C.num?] at hn <;> first | (obtain ⟨rfl, rfl, rfl⟩ := hn; exact h) | cases hn

theorem kindEq_eq {a b : IntKind} (h : kindEq a b = true) : a = b := by
  cases a <;> cases b <;> first | rfl | cases h

theorem VRel.opnd {ρ : Ren} {t : List V} {arr : Array Value} (h : TRel ρ t arr) (x : Operand) (a : Act) (ha : a.tmps = arr) : VRel ρ (opnd t x) (a.eval x) := by
  cases x with
  | tmp i =>
    simp only [Go.Eng.opnd, Act.eval, ha]
    cases hx : t[i]? with
    | none =>
      have : arr[i]? = none := by
        have := List.getElem?_eq_none_iff.1 hx
        rw [Array.getElem?_eq_none_iff]; rw [h.1]; exact this
      simp only [List.getD_eq_getElem?_getD, hx, Option.getD_none, Array.getD_eq_getD_getElem?, this, undef]
      exact ⟨#[], rfl, rfl, fun j x hj => by simp at hj⟩
    | some v =>
      obtain ⟨u, h1, h2⟩ := h.2 i v hx
      simp only [List.getD_eq_getElem?_getD, hx, Option.getD_some, Array.getD_eq_getD_getElem?, h1]
      exact h2
  | const v =>
    simp only [Act.eval, Go.Eng.opnd]
    unfold constV
    split <;> simp_all [VRel, ARel, CRel]
  | global g => exact True.intro
  | func f => exact True.intro
end Go.Eng
