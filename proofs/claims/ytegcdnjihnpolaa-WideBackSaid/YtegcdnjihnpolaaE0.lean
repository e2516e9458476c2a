import Derived.Calls
import Derived.Orders
namespace Go.Eng
open Go

inductive N where
  | lit (n : Nat)
  | sym (n : Nat)

def N.val : N → Nat
  | .lit n => n
  | .sym n => n

inductive C where
  | int (k : IntKind) (n : Int)
  | lit (k : IntKind) (n : Int)
  | bool (b : Bool)
  | lbool (b : Bool)
  | str (s : ByteArray)
  | ptr (b : Nat) (off : N)
  | nil
  | sl (b : Nat) (off len cap : N)
  | nsl
  | raw (v : Value)

inductive G where
  | lst (cs : List C)
  | ints (k : IntKind) (n : N) (f : Nat → Int)

inductive A where
  | one (c : C)
  | agg (g : G)

inductive V where
  | a (x : A)
  | tup (xs : List A)
  | any

structure Blk where
  ro : Bool
  g : G

structure Ar where
  bin : BinOp → IntKind → Int → Int → Int
  cmp : BinOp → Int → Int → Bool
  un : UnOp → IntKind → Int → Int
  conv : IntKind → Int → Int
  bnot : Bool → Bool
  beq : Bool → Bool → Bool
  upd : (Nat → Int) → Nat → Int → Nat → Int
  shf : (Nat → Int) → Nat → Nat → Int
  blit : (Nat → Int) → Nat → Nat → (Nat → Int) → Nat → Int
  idx : Nat → Int → Nat → Nat
  lEq : List Int → List Int → Bool
  inb : Int → Nat → Prop
  le0 : Int → Nat → Prop
  sof : Nat → Nat → Int → Nat → Nat
  sub : Nat → Int → Nat
  tn : Int → Nat
  mn : Int → Int → Int
  mx : Int → Int → Int
  sx : ByteArray → Nat → Nat → ByteArray
  sz : ByteArray → Nat
  sb : ByteArray → Nat → Int
  sEq : ByteArray → ByteArray → Bool
  sLt : ByteArray → ByteArray → Bool
  scat : ByteArray → ByteArray → ByteArray
  sfit : ByteArray → ByteArray → Prop
  leN : Nat → Nat → Prop
  nz : Int → Prop
  nneg : Int → Prop
  eqb : Bool → Bool → Prop

inductive TD where
  | int (k : IntKind)
  | bool
  | str
  | ptr (e : Nat)
  | slice (elem : Nat)
  | arr (len elem : Nat)
  | strct (fields : List (Nat × Nat))
  | other

structure TI where
  known : Bool
  td : TD
  size : Nat
  agg : Bool
  zero : Option A
  plain : Bool

abbrev Heap := List (Option Blk)

def kindEq : IntKind → IntKind → Bool
  | .i8, .i8 | .i16, .i16 | .i32, .i32 | .i64, .i64 | .u8, .u8 | .u16, .u16 | .u32, .u32 | .u64, .u64 => true
  | _, _ => false

def C.num? : C → Option (IntKind × Int × Bool)
  | .int k n => some (k, n, false)
  | .lit k n => some (k, n, true)
  | _ => none

def updN (ar : Ar) (f : Nat → Int) (i : N) (x : Int) : Nat → Int :=
  match i with
  | .lit m => fun j => if j = m then x else f j
  | .sym m => ar.upd f m x
def shfN (ar : Ar) (f : Nat → Int) (o : N) : Nat → Int :=
  match o with
  | .lit m => fun j => f (m + j)
  | .sym m => ar.shf f m

/-- a is not above b: seen at once, or owed -/
def leq (ar : Ar) : N → Nat → N → Option (List Prop)
  | .lit a, d, .lit b => if a + d ≤ b then some [] else none
  | a, d, b => some [ar.leN (a.val + d) b.val]

def G.get? (ar : Ar) : G → N → Option (C × List Prop)
  | .lst cs, .lit i => match cs[i]? with
    | some c => some (c, [])
    | none => none
  | .lst _, .sym _ => none
  | .ints k n f, i => match leq ar i 1 n with
    | some ps => some (.int k (f i.val), ps)
    | none => none

/-- cells from off on, n of them -/
def G.cut (ar : Ar) : G → N → Nat → Option (G × List Prop)
  | .lst cs, .lit off, n => if off + n ≤ cs.length then some (.lst ((cs.drop off).take n), []) else none
  | .lst _, .sym _, _ => none
  | .ints k m f, .lit 0, n => match leq ar (.lit 0) n m with
    | some ps => some (.ints k (.lit n) f, ps)
    | none => none
  | .ints k m f, off, n => match leq ar off n m with
    | some ps => some (.ints k (.lit n) (shfN ar f off), ps)
    | none => none

def G.set (ar : Ar) : G → N → C → Option (G × List Prop)
  | .lst cs, .lit i, c => if i < cs.length then some (.lst (cs.set i c), []) else none
  | .lst _, .sym _, _ => none
  | .ints k n f, i, c => match c.num? with
    | some (k', x, _) => if kindEq k k' then (match leq ar i 1 n with
        | some ps => some (.ints k n (updN ar f i x), ps)
        | none => none)
      else none
    | none => none

/-- the cells of an aggregate, written out -/
def G.list : G → Option (List C)
  | .lst cs => some cs
  | .ints k (.lit n) f => some ((List.range n).map fun j => .int k (f j))
  | .ints _ (.sym _) _ => none

def G.put (ar : Ar) : G → N → G → Option (G × List Prop)
  | .lst cs, .lit off, g => match g.list with
    | some l => if off + l.length ≤ cs.length then some (.lst (cs.take off ++ l ++ cs.drop (off + l.length)), []) else none
    | none => none
  | .lst _, .sym _, _ => none
  | .ints k m f, .lit 0, .ints k' (.lit n) g =>
    if kindEq k k' then (match m with
      | .lit m' => if n = m' then some (.ints k (.lit m') g, []) else if n ≤ m' then some (.ints k (.lit m') (ar.blit f 0 n g), []) else none
      | .sym m' => some (.ints k (.sym m') (ar.blit f 0 n g), [ar.leN n m'])) else none
  | .ints k m f, off, .ints k' (.lit n) g => if kindEq k k' then (match leq ar off n m with
      | some ps => some (.ints k m (ar.blit f off.val n g), ps)
      | none => none) else none
  | .ints .., _, _ => none

/-- how many cells, where that is a numeral -/
def G.len? : G → Option Nat
  | .lst cs => some cs.length
  | .ints _ (.lit n) _ => some n
  | .ints _ (.sym _) _ => none

structure St where
  tmps : List V
  heap : Heap

def constV : Value → V
  | .int k n => .a (.one (.lit k n))
  | .bool b => .a (.one (.lbool b))
  | .string s => .a (.one (.str s))
  | .pointer none => .a (.one .nil)
  | .slice none 0 0 => .a (.one .nsl)
  | _ => .any

def opnd (tmps : List V) : Operand → V
  | .tmp t => tmps.getD t (.tup [])
  | .const v => constV v
  | _ => .any

abbrev HSpec := List A → List Blk → Option (V × List Blk × List Prop)

inductive Plan where
  | callh (s : HSpec) (args : List A)
  | val (v : V)
  | load (b : Nat) (off : N) (size : Nat) (agg : Bool)
  | store (b : Nat) (off : N) (x : A) (size : Nat)
  | alloc (g : G)

def Aof : V → Option A
  | .a x => some x
  | _ => none

def Cof : V → Option C
  | .a (.one c) => some c
  | _ => none

def A.gr : A → G
  | .one c => .lst [c]
  | .agg g => g

def binInt (ar : Ar) (op : BinOp) (k : IntKind) (x y : Int) (lit : Bool) (real : Ar) : V :=
  if lit then .a (.one (.lit k (real.bin op k x y))) else .a (.one (.int k (ar.bin op k x y)))
def cmpInt (ar : Ar) (op : BinOp) (x y : Int) (lit : Bool) (real : Ar) : V :=
  if lit then .a (.one (.lbool (real.cmp op x y))) else .a (.one (.bool (ar.cmp op x y)))

abbrev PR := Option (Plan × List Prop)
def ok (v : V) : PR := some (.val v, [])

def planBin (ar real : Ar) (op : BinOp) (x y : C) : PR :=
  match x.num?, y.num? with
  | some (k, a, la), some (k', b, lb) =>
    match op with
    | .shl | .shr => if lb then (if b < 0 then none else ok (binInt ar op k a b la real)) else some (.val (binInt ar op k a b false real), [ar.nneg b])
    | _ =>
      if kindEq k k' then
        match op with
        | .add | .sub | .mul | .and | .or | .xor | .andNot => ok (binInt ar op k a b (la && lb) real)
        | .quo | .rem => if lb then (if b = 0 then none else ok (binInt ar op k a b (la && lb) real)) else some (.val (binInt ar op k a b false real), [ar.nz b])
        | _ => ok (cmpInt ar op a b (la && lb) real)
      else none
  | _, _ => none

/-- strings -/
def planStr (ar : Ar) (op : BinOp) (a b : ByteArray) : PR :=
  match op with
  | .eql => ok (.a (.one (.bool (ar.sEq a b))))
  | .neq => ok (.a (.one (.bool (ar.bnot (ar.sEq a b)))))
  | .lss => ok (.a (.one (.bool (ar.sLt a b))))
  | .add => some (.val (.a (.one (.str (ar.scat a b)))), [ar.sfit a b])
  | _ => none

/-- '==' and '!=' of what are no numbers, by the operands' type -/
def planEq (ar : Ar) (t : TI) (x y : C) : Option C :=
  if !t.known then none else
  match t.td, x, y with
  | .bool, .lbool a, .lbool b => some (.lbool (a == b))
  | .bool, .bool a, .bool b | .bool, .lbool a, .bool b | .bool, .bool a, .lbool b => some (.bool (ar.beq a b))
  | .ptr _, .nil, .nil => some (.lbool true)
  | .ptr _, .ptr _ _, .nil | .ptr _, .nil, .ptr _ _ => some (.lbool false)
  | .slice _, .nsl, .nsl => some (.lbool true)
  | .slice _, .sl _ _ _ _, .nsl | .slice _, .nsl, .sl _ _ _ _ => some (.lbool false)
  | _, _, _ => none

def C.neg (ar : Ar) : C → C
  | .bool b => .bool (ar.bnot b)
  | .lbool b => .lbool (!b)
  | c => c

/-- the cells of an aggregate of integers of one kind -/
def G.numsOf (k : IntKind) : G → Option (List Int)
  | .lst cs => cs.mapM fun c => match c.num? with
    | some (k', n, _) => if kindEq k k' then some n else none
    | none => none
  | .ints k' (.lit n) f => if kindEq k k' then some ((List.range n).map f) else none
  | .ints _ (.sym _) _ => none

/-- '==' of aggregates: arrays of integers -/
def planAgg (ar : Ar) (ti : TypeId → TI) (t : TypeId) (g g' : G) : Option C :=
  if !((ti t).known && (ti t).plain) then none else
  match (ti t).td with
  | .arr n e => if !((ti e).known && (ti e).size == 1 && !(ti e).agg) then none else match (ti e).td with
    | .int k => match g.numsOf k, g'.numsOf k with
      | some l, some l' => if l.length = n ∧ l'.length = n then some (.bool (ar.lEq l l')) else none
      | _, _ => none
    | _ => none
  | _ => none

def addN (ar : Ar) (off : N) (i : Int) (lit : Bool) (size : Nat) : N :=
  match off, lit with
  | .lit o, true => .lit (o + i.toNat * size)
  | _, _ => .sym (ar.idx off.val i size)

/-- an index in its bounds: seen at once, or owed -/
def inR (ar : Ar) : N → Int → Bool → Option (List Prop)
  | .lit len, j, true => if 0 ≤ j ∧ j < (len : Int) then some [] else none
  | len, j, _ => some [ar.inb j len.val]

def fillL : List C → List (Nat × List C) → Option (List C)
  | cs, [] => some cs
  | cs, (off, l) :: rest => if off + l.length ≤ cs.length then fillL (cs.take off ++ l ++ cs.drop (off + l.length)) rest else none
def fillI (ar : Ar) (k : IntKind) (n : Nat) (f : Nat → Int) : List (Nat × V) → Option (Nat → Int)
  | [] => some f
  | (i, v) :: rest => match Cof v with
    | some c => match c.num? with
      | some (k', x, _) => if kindEq k k' && decide (i < n) then fillI ar k n (updN ar f (.lit i) x) rest else none
      | none => none
    | none => none

/-! slices -/
def leI (ar : Ar) (x : Int) (lt : Bool) (n : N) : Option (List Prop) :=
  match lt, n with
  | true, .lit m => if 0 ≤ x ∧ x ≤ (m : Int) then some [] else none
  | _, n => some [ar.le0 x n.val]
def intN (ar : Ar) (x : Int) (lt : Bool) : N := if lt then .lit x.toNat else .sym (ar.tn x)
def hiOf (ar : Ar) (ev : Operand → V) (hi : Option Operand) (len cap : N) : Option (N × List Prop) :=
  match hi with
  | none => some (len, [])
  | some x => match Cof (ev x) with
    | some c => match c.num? with
      | some (_, n, lt) => match leI ar n lt cap with
        | some ps => some (intN ar n lt, ps)
        | none => none
      | none => none
    | none => none
def loOf (ar : Ar) (ev : Operand → V) (lo : Option Operand) (h : N) : Option (Int × Bool × List Prop) :=
  match lo with
  | none => some (0, true, [])
  | some x => match Cof (ev x) with
    | some c => match c.num? with
      | some (_, n, lt) => match leI ar n lt h with
        | some ps => some (n, lt, ps)
        | none => none
      | none => none
    | none => none
def sofN (ar : Ar) (off cap : N) (lo : Int) (lt : Bool) (es : Nat) : N :=
  match off, cap, lt with
  | .lit o, .lit c, true => if c = lo.toNat then .lit o else .lit (o + lo.toNat * es)
  | off, cap, _ => .sym (ar.sof off.val cap.val lo es)
def subN (ar : Ar) (a : N) (lo : Int) (lt : Bool) : N :=
  match a, lt with
  | .lit a, true => .lit (a - lo.toNat)
  | a, _ => .sym (ar.sub a.val lo)
def planSlice (ar : Ar) (ti : TypeId → TI) (ev : Operand → V) (t : TypeId) (x : Operand) (lo hi : Option Operand) : PR :=
  if !(ti t).known then none else
  match (ti t).td, Cof (ev x) with
  | .arr n e, some (.ptr b off) => if !(ti e).known then none else
    match hiOf ar ev hi (.lit n) (.lit n) with
    | some (h, ps) => match loOf ar ev lo h with
      | some (l, lt, qs) => some (.val (.a (.one (.sl b (sofN ar off (.lit n) l lt (ti e).size) (subN ar h l lt) (subN ar (.lit n) l lt)))), qs ++ ps)
      | none => none
    | none => none
  | .slice e, some (.sl b off len cap) => if !(ti e).known then none else
    match hiOf ar ev hi len cap with
    | some (h, ps) => match loOf ar ev lo h with
      | some (l, lt, qs) => some (.val (.a (.one (.sl b (sofN ar off cap l lt (ti e).size) (subN ar h l lt) (subN ar cap l lt)))), qs ++ ps)
      | none => none
    | none => none
  | _, _ => none
def planLen (ar : Ar) (ti : TypeId → TI) (ev : Operand → V) (t : TypeId) (x : Operand) : PR :=
  if !(ti t).known then none else
  match (ti t).td, Cof (ev x) with
  | .slice _, some (.sl _ _ (.lit n) _) => ok (.a (.one (.lit .i64 n)))
  | .slice _, some (.sl _ _ (.sym n) _) => ok (.a (.one (.int .i64 n)))
  | .slice _, some .nsl => ok (.a (.one (.lit .i64 0)))
  | .str, some (.str s) => ok (.a (.one (.int .i64 (ar.sz s))))
  | _, _ => none
def planMin (ar real : Ar) (mx : Bool) (x y : V) : PR :=
  match Cof x, Cof y with
  | some c, some d => match c.num?, d.num? with
    | some (k, a, la), some (_, b, lb) =>
      if la && lb then ok (.a (.one (.lit k (if mx then real.mx a b else real.mn a b)))) else ok (.a (.one (.int k (if mx then ar.mx a b else ar.mn a b))))
    | _, _ => none
  | _, _ => none

def planCall (ar real : Ar) (ti : TypeId → TI) (ev : Operand → V) (c : Call) : PR :=
  match c.callee, c.args.toList, c.argTypes.toList with
  | .builtin .len, [x], [t] => planLen ar ti ev t x
  | .builtin .min, [x, y], _ => planMin ar real false (ev x) (ev y)
  | .builtin .max, [x, y], _ => planMin ar real true (ev x) (ev y)
  | _, _, _ => none

/-- a part of a struct: its place, its cells -/
def partOf (ti : TypeId → TI) (fs : List (Nat × Nat)) (i : Nat) (x : V) : Option (Nat × List C) :=
  match fs[i]?, Aof x with
  | some (off, ft), some v => if !(ti ft).known then none else match v.gr.list with
    | some l => if l.length = (ti ft).size then some (off, l) else none
    | none => none
  | _, _ => none

def plan (ar real : Ar) (ti : TypeId → TI) (ev : Operand → V) : Op → PR
  | .move x | .assign x => ok (ev x)
  | .pick c a b => match Cof (ev c) with
    | some (.lbool t) => ok (if t then ev a else ev b)
    | some (.bool t) => ok (if t then ev a else ev b)
    | _ => none
  | .alloc e => if !(ti e).known then none else match (ti e).zero with
    | some z => some (.alloc z.gr, [])
    | none => none
  | .box _ x => match Aof (ev x) with
    | some z => some (.alloc z.gr, [])
    | none => none
  | .build t parts =>
    if !(ti t).known then none else match (ti t).td, (ti t).zero with
    | .strct fs, some (.agg (.lst z)) =>
      match parts.toList.mapM (fun p => partOf ti fs p.1 (ev p.2)) with
      | some ps => match fillL z ps with
        | some cs => ok (.a (.agg (.lst cs)))
        | none => none
      | none => none
    | .arr _ e, some (.agg (.ints k (.lit n) f)) =>
      if (ti e).known && (ti e).size == 1 then match fillI ar k n f (parts.toList.map fun p => (p.1, ev p.2)) with
      | some f' => ok (.a (.agg (.ints k (.lit n) f')))
      | none => none
      else none
    | _, _ => none
  | .load t x => if !(ti t).known then none else match Cof (ev x) with
    | some (.ptr b off) => some (.load b off (ti t).size (ti t).agg, [])
    | _ => none
  | .store t x y => if !(ti t).known then none else match Cof (ev x), Aof (ev y) with
    | some (.ptr b off), some v => some (.store b off v (ti t).size, [])
    | _, _ => none
  | .nilCheck x => match Cof (ev x) with
    | some (.ptr b off) => ok (.a (.one (.ptr b off)))
    | _ => none
  | .binOp op T x y _ => match Aof (ev x), Aof (ev y) with
    | some (.one (.str a)), some (.one (.str b)) => planStr ar op a b
    | some (.one x), some (.one y) => match x.num? with
      | some _ => planBin ar real op x y
      | none => match op, planEq ar (ti T) x y with
        | .eql, some c => ok (.a (.one c))
        | .neq, some c => ok (.a (.one (c.neg ar)))
        | _, _ => none
    | some (.agg g), some (.agg g') => match op, planAgg ar ti T g g' with
      | .eql, some c => ok (.a (.one c))
      | .neq, some c => ok (.a (.one (c.neg ar)))
      | _, _ => none
    | _, _ => none
  | .unOp op _ x => match op, Cof (ev x) with
    | .neg, some (.int k n) | .xor, some (.int k n) => ok (.a (.one (.int k (ar.un op k n))))
    | .neg, some (.lit k n) | .xor, some (.lit k n) => ok (.a (.one (.lit k (real.un op k n))))
    | .not, some (.bool b) => ok (.a (.one (.bool (ar.bnot b))))
    | .not, some (.lbool b) => ok (.a (.one (.lbool (!b))))
    | _, _ => none
  | .convert src dst x => if !((ti src).known && (ti dst).known) then none else match Cof (ev x), (ti dst).td with
    | some (.int _ n), .int k => ok (.a (.one (.int k (ar.conv k n))))
    | some (.lit _ n), .int k => ok (.a (.one (.lit k (real.conv k n))))
    | _, _ => none
  | .extract t i => match ev t with
    | .tup l => match l[i]? with
      | some x => ok (.a x)
      | none => none
    | _ => none
  | .fieldAddr s x f => if !(ti s).known then none else match Cof (ev x), (ti s).td with
    | some (.ptr b (.lit off)), .strct fs => match fs[f]? with
      | some (o, ft) => if (ti ft).known && !((ti ft).size == 0) then ok (.a (.one (.ptr b (.lit (off + o))))) else none
      | none => none
    | _, _ => none
  | .field t x f => if !(ti t).known then none else match Aof (ev x), (ti t).td with
    | some (.agg g), .strct fs => match fs[f]? with
      | some (o, ft) => if !(ti ft).known then none else if (ti ft).agg then (match g.cut ar (.lit o) (ti ft).size with
          | some (g', ps) => some (.val (.a (.agg g')), ps)
          | none => none)
        else (match g.get? ar (.lit o) with
          | some (c, ps) => some (.val (.a (.one c)), ps)
          | none => none)
      | none => none
    | _, _ => none
  | .indexAddr t x i => if !(ti t).known then none else match Cof (ev i) with
    | some j => match j.num? with
      | some (_, j, lt) => match Cof (ev x), (ti t).td with
        | some (.ptr b off), .arr len e => if !(ti e).known then none else match inR ar (.lit len) j lt with
          | some ps => some (.val (.a (.one (.ptr b (addN ar off j lt (ti e).size)))), ps)
          | none => none
        | some (.sl b off len _), .slice e => if !(ti e).known then none else match inR ar len j lt with
          | some ps => some (.val (.a (.one (.ptr b (addN ar off j lt (ti e).size)))), ps)
          | none => none
        | _, _ => none
      | none => none
    | none => none
  | .index t x i => if !(ti t).known then none else match Cof (ev i) with
    | some j => match j.num? with
      | some (_, j, lt) => match Aof (ev x), (ti t).td with
        | some (.agg g), .arr len e => if !(ti e).known || (ti e).agg || !((ti e).size == 1) then none else match inR ar (.lit len) j lt with
          | some ps => match g.get? ar (addN ar (.lit 0) j lt 1) with
            | some (c, qs) => some (.val (.a (.one c)), qs ++ ps)
            | none => none
          | none => none
        | some (.one (.str s)), .str => some (.val (.a (.one (.int .u8 (ar.sb s j.toNat)))), [ar.inb j (ar.sz s)])
        | _, _ => none
      | none => none
    | none => none
  | .slice t x lo hi mx => match mx with
    | none => planSlice ar ti ev t x lo hi
    | some _ => none
  | .sliceToArrayPointer t x => if !(ti t).known then none else match (ti t).td, Cof (ev x) with
    | .arr n _, some (.sl b off (.lit len) _) => if n ≤ len then ok (.a (.one (.ptr b off))) else none
    | .arr n _, some (.sl b off (.sym len) _) => some (.val (.a (.one (.ptr b off))), [ar.leN n len])
    | _, _ => none
  | .call c => planCall ar real ti ev c
  | _ => none

/-! names of blocks -/
def namesC : C → List Nat
  | .ptr b _ => [b]
  | .sl b _ _ _ => [b]
  | _ => []
def namesG : G → List Nat
  | .lst cs => cs.flatMap namesC
  | .ints .. => []
def namesA : A → List Nat
  | .one c => namesC c
  | .agg g => namesG g
def addAll : List Nat → List Nat → List Nat
  | ns, [] => ns
  | ns, x :: xs => if ns.contains x then addAll ns xs else addAll (ns ++ [x]) xs
def namesAt (h : Heap) (n : Nat) : List Nat :=
  match h[n]? with
  | some (some b) => namesG b.g
  | _ => []
def clo (h : Heap) : Nat → List Nat → List Nat
  | 0, ns => ns
  | k + 1, ns => clo h k (addAll ns (ns.flatMap (namesAt h)))
def idxF : List Nat → Nat → Nat → Option Nat
  | [], _, _ => none
  | x :: xs, b, i => if x = b then some i else idxF xs b (i + 1)
def renC (ns : List Nat) : C → Option C
  | .ptr b off => (idxF ns b 0).map fun i => .ptr i off
  | .sl b off len cap => (idxF ns b 0).map fun i => .sl i off len cap
  | c => some c
def bakC (ns : List Nat) : C → Option C
  | .ptr i off => ns[i]?.map fun b => .ptr b off
  | .sl i off len cap => ns[i]?.map fun b => .sl b off len cap
  | c => some c
def mapG (f : C → Option C) : G → Option G
  | .lst cs => (cs.mapM f).map .lst
  | .ints k n g => some (.ints k n g)
def mapA (f : C → Option C) : A → Option A
  | .one c => (f c).map .one
  | .agg g => (mapG f g).map .agg
def mapV (f : C → Option C) : V → Option V
  | .a x => (mapA f x).map .a
  | .tup xs => (xs.mapM (mapA f)).map .tup
  | .any => some .any
def mapB (f : C → Option C) (b : Blk) : Option Blk := (mapG f b.g).map fun g => { ro := b.ro, g := g }
def setMany : Heap → List Nat → List Blk → Heap
  | h, n :: ns, b :: bs => setMany (h.set n (some b)) ns bs
  | h, _, _ => h
def blkAt (h : Heap) (n : Nat) : Option Blk :=
  match h[n]? with
  | some (some b) => some b
  | _ => none
def sameRo : List Blk → List Blk → Bool
  | [], [] => true
  | a :: as', b :: bs => (a.ro == b.ro) && sameRo as' bs
  | _, _ => false

/-- a call by its contract on the blocks that it reaches -/
def performH (al : Nat → Bool) (h : Heap) (ns : List Nat) (s : HSpec) (args : List A) : Option (V × List Blk × List Prop) :=
  if ns.all al then
    match ns.mapM (blkAt h) with
    | some bs => match args.mapM (mapA (renC ns)), bs.mapM (mapB (renC ns)) with
      | some las, some lbs => match s las lbs with
        | some (v, lbs', ps) => match mapV (bakC ns) v, lbs'.mapM (mapB (bakC ns)) with
          | some v', some bs' => if sameRo bs bs' then some (v', bs', ps) else none
          | _, _ => none
        | none => none
      | _, _ => none
    | none => none
  else none

def reach (h : Heap) (args : List A) : List Nat := clo h 3 (addAll [] (args.flatMap namesA))

def perform (ar : Ar) (al : Nat → Bool) (nm : Nat) (h : Heap) : Plan → Option (V × Heap × List Prop)
  | .callh s args => match performH al h (reach h args) s args with
    | some (v, bs, ps) => some (v, setMany h (reach h args) bs, ps)
    | none => none
  | .val v => some (v, h, [])
  | .load b off size agg => if al b then match h[b]? with
      | some (some blk) => if agg then (match blk.g.cut ar off size with
          | some (g, ps) => some (.a (.agg g), h, ps)
          | none => none)
        else match blk.g.get? ar off with
          | some (c, ps) => some (.a (.one c), h, ps)
          | none => none
      | _ => none
    else none
  | .store b off x size => if al b then match h[b]? with
      | some (some blk) => if blk.ro then none else match x with
        | .one c => if size = 1 then match blk.g.set ar off c with
          | some (g, ps) => some (.tup [], h.set b (some { blk with g := g }), ps)
          | none => none
          else none
        | .agg g0 => match g0.len? with
          | some n => if n = size then match blk.g.put ar off g0 with
            | some (g, ps) => some (.tup [], h.set b (some { blk with g := g }), ps)
            | none => none
            else none
          | none => none
      | _ => none
    else none
  | .alloc g => some (.a (.one (.ptr nm (.lit 0))), h.set nm (some { ro := false, g := g }), [])

structure Cfg where
  tmps : List V
  heap : Heap
  todo : List Item
  obs : List Prop
  hints : List Bool

abbrev ESpec := List A → Option (V × List Prop)
/-- the contracts: of the arguments alone; of what they reach in memory -/
structure Tbl where
  p : FuncId → Option ESpec
  hc : FuncId → Bool
  h : FuncId → Option HSpec

def pureC : C → Bool
  | .ptr .. | .sl .. => false
  | _ => true
def pureA : A → Bool
  | .one c => pureC c
  | .agg (.lst cs) => cs.all pureC
  | .agg (.ints ..) => true


def argsOf (ev : Operand → V) : List Operand → Option (List A)
  | [] => some []
  | x :: xs => match Aof (ev x), argsOf ev xs with
    | some a, some l => some (a :: l)
    | _, _ => none

def planOp (ar real : Ar) (ti : TypeId → TI) (tbl : Tbl) (ev : Operand → V) (op : Op) : PR :=
  match op with
  | .call { callee := .value (.func f), args := args, argTypes := _ } =>
    match argsOf ev args.toList with
    | some l =>
      if tbl.hc f then match tbl.h f with
        | some s => some (.callh s l, [])
        | none => none
      else match tbl.p f with
        | some s => if l.all pureA then (match s l with
          | some (v, ps) => some (.val v, ps)
          | none => none) else none
        | none => none
    | none => none
  | op => plan ar real ti ev op

def stepOp (ar real : Ar) (ti : TypeId → TI) (tbl : Tbl) (al : Nat → Bool) (nm : Nat) (op : Op) (tmps : List V) (h : Heap) : Option (V × Heap × List Prop) :=
  match planOp ar real ti tbl (opnd tmps) op with
  | none => none
  | some (p, qs) => match perform ar al nm h p with
    | none => none
    | some (v, h', rs) => some (v, h', rs ++ qs)

/-- is it carried out? -/
def wantedA (ops : Array Oper) (tmps : List V) (o : Oper) : Option Bool :=
  match o.guard with
  | none => some true
  | some (j, want) => match (ops[j]?).bind (·.dst) with
    | some d => match tmps.getD d (.tup []) with
      | .a (.one (.lbool b)) => some (b == want)
      | .a (.one (.bool b)) => some (b == want)
      | .tup _ => some false
      | _ => none
    | none => none

def isAlloc : Op → Bool
  | .alloc _ | .box .. => true
  | _ => false

def putV (tmps : List V) : Option Tmp → V → List V
  | some d, v => tmps.set d v
  | none, _ => tmps

structure RS where
  tmps : List V
  heap : Heap
  dec : List (Tmp × Bool)
  hints : List Bool
  obs : List Prop

/-- the truth of a slot: seen, decided already, or by the next hint -/
def boolAt (ar : Ar) (r : RS) (d : Tmp) : Option (Bool × RS) :=
  match r.tmps.getD d (.tup []) with
  | .a (.one (.lbool b)) => some (b, r)
  | .a (.one (.bool b)) => match r.dec.lookup d with
    | some h => some (h, r)
    | none => match r.hints with
      | h :: hs => some (h, { r with dec := (d, h) :: r.dec, hints := hs, obs := ar.eqb b h :: r.obs })
      | [] => none
  | _ => none

def guardAt (ar : Ar) (ops : Array Oper) (r : RS) (o : Oper) : Option (Bool × RS) :=
  match o.guard with
  | none => some (true, r)
  | some (j, want) => match (ops[j]?).bind (·.dst) with
    | some d => match r.tmps.getD d (.tup []) with
      | .tup _ => some (false, r)
      | _ => match boolAt ar r d with
        | some (b, r') => some (b == want, r')
        | none => none
    | none => none

def RS.put (r : RS) (dst : Option Tmp) (v : V) (h : Heap) (ps : List Prop) : RS :=
  { r with tmps := putV r.tmps dst v, heap := h, obs := ps ++ r.obs,
           dec := match dst with
             | some d => r.dec.filter (fun x => !(x.1 == d))
             | none => r.dec }

/-- one operation -/
def evOp (ar real : Ar) (ti : TypeId → TI) (tbl : Tbl) (al : Nat → Bool) (nm : Nat) (o : Oper) (r : RS) (h : Heap) : Option RS :=
  match o.op with
  | .pick (.tmp c) a b => match boolAt ar r c with
    | some (t, r') => some (r'.put o.dst (if t then opnd r.tmps a else opnd r.tmps b) h [])
    | none => none
  | op => match stepOp ar real ti tbl al nm op r.tmps h with
    | some (v, h', ps) => some (r.put o.dst v h' ps)
    | none => none

/-- the operations of a region in their order, one behind the other -/
def runOps (ar real : Ar) (ti : TypeId → TI) (tbl : Tbl) (ops : Array Oper) : List Oper → RS → Option RS
  | [], r => some r
  | o :: rest, r => match guardAt ar ops r o with
    | none => none
    | some (false, r) => runOps ar real ti tbl ops rest (r.put o.dst (.tup []) r.heap [])
    | some (true, r) =>
      match evOp ar real ti tbl (fun _ => true) r.heap.length o r (if isAlloc o.op then r.heap ++ [none] else r.heap) with
      | some r' => runOps ar real ti tbl ops rest r'
      | none => none

/-- what each operation waits for, directly or not, as bits -/
def waits (ops : Array Oper) : Array Nat := Region.before ops

/-- what an operation does to memory: nothing (0), it reads a block (1), it writes one (2), it makes one (3), it calls what may do all (4) -/
def lab (hc : FuncId → Bool) (tmps : List V) : Op → Nat × Nat
  | .load _ x => match Cof (opnd tmps x) with
    | some (.ptr b _) => (1, b)
    | _ => (4, 0)
  | .store _ x _ => match Cof (opnd tmps x) with
    | some (.ptr b _) => (2, b)
    | _ => (4, 0)
  | .alloc _ | .box .. => (3, 0)
  | .call { callee := .value (.func f), .. } => if hc f then (4, 0) else (0, 0)
  | _ => (0, 0)

/-- may the two change places? -/
def clsOk2 : Nat × Nat → Nat × Nat → Bool
  | (0, _), _ => true
  | (3, _), _ => true
  | _, (0, _) => true
  | _, (3, _) => true
  | (1, _), (1, _) => true
  | (1, b), (2, b') => !(Nat.beq b b')
  | (2, b), (1, b') => !(Nat.beq b b')
  | (2, b), (2, b') => !(Nat.beq b b')
  | _, _ => false

/-- against all that stand before it (the nearest first), but those that it waits for -/
def okEv (w : Nat) (e : Nat × Nat) : List (Nat × Nat) → Nat → Bool
  | e' :: l, j + 1 => (clsOk2 e' e || w.testBit j) && okEv w e l j
  | _, _ => true

/-- the operations of a region whose order is open: names by the operations' places -/
def runDraw (ar real : Ar) (ti : TypeId → TI) (tbl : Tbl) (ops : Array Oper) (ws : Array Nat) (n0 : Nat) : List (Nat × Nat) → Nat → List Oper → RS → Option RS
  | _, _, [], r => some r
  | evs, i, o :: rest, r => match guardAt ar ops r o with
    | none => none
    | some (false, r) => runDraw ar real ti tbl ops ws n0 ((0, 0) :: evs) (i + 1) rest (r.put o.dst (.tup []) r.heap [])
    | some (true, r) => if !(okEv (ws.getD i 0) (lab tbl.hc r.tmps o.op) evs i) then none else
      match evOp ar real ti tbl (fun n => decide (n < n0) || (ws.getD i 0).testBit (n - n0)) (n0 + i) o r r.heap with
      | some r' => runDraw ar real ti tbl ops ws n0 (lab tbl.hc r.tmps o.op :: evs) (i + 1) rest r'
      | none => none

/-- it neither writes nor makes memory, and calls nothing that may -/
def calmOp (hc : FuncId → Bool) : Op → Bool
  | .store .. | .alloc _ | .box .. => false
  | .call { callee := .value (.func f), .. } => !hc f
  | _ => true

/-- the operations of a region whose order is open, where none of them writes -/
def runCalm (ar real : Ar) (ti : TypeId → TI) (tbl : Tbl) (ops : Array Oper) (n0 : Nat) : Nat → List Oper → RS → Option RS
  | _, [], r => some r
  | i, o :: rest, r => match guardAt ar ops r o with
    | none => none
    | some (false, r) => runCalm ar real ti tbl ops n0 (i + 1) rest (r.put o.dst (.tup []) r.heap [])
    | some (true, r) => if Nat.ble (lab tbl.hc r.tmps o.op).1 1 then
        match evOp ar real ti tbl (fun n => decide (n < n0)) (n0 + i) o r r.heap with
        | some r' => runCalm ar real ti tbl ops n0 (i + 1) rest r'
        | none => none
      else none

def pad (ops : Array Oper) (h : Heap) : Heap := if ops.any (fun o => isAlloc o.op) then h ++ List.replicate ops.size none else h

def applyDec : List (Tmp × Bool) → List V → List V
  | [], t => t
  | (d, h) :: rest, t => applyDec rest (t.set d (.a (.one (.lbool h))))

def runAny (ar real : Ar) (ti : TypeId → TI) (tbl : Tbl) (ops : Array Oper) (c : Cfg) : Bool → Option RS
  | true => if ops.toList.all (fun o => calmOp tbl.hc o.op) then runCalm ar real ti tbl ops c.heap.length 0 ops.toList ⟨c.tmps, c.heap, [], c.hints, c.obs⟩
    else runDraw ar real ti tbl ops (waits ops) c.heap.length [] 0 ops.toList ⟨c.tmps, pad ops c.heap, [], c.hints, c.obs⟩
  | false => runOps ar real ti tbl ops ops.toList ⟨c.tmps, c.heap, [], c.hints, c.obs⟩

def runRegion (ar real : Ar) (ti : TypeId → TI) (tbl : Tbl) (ops : Array Oper) (draw : Bool) (c : Cfg) : Option Cfg :=
  match runAny ar real ti tbl ops c draw with
  | some r => some { c with tmps := applyDec r.dec r.tmps, heap := r.heap, hints := r.hints, obs := r.obs }
  | none => none

def step (ar real : Ar) (ti : TypeId → TI) (tbl : Tbl) (c : Cfg) : Option Cfg :=
  match c.todo with
  | [] => none
  | .code .ret :: _ => none
  | .code .skip :: k | .code (.label _) :: k | .inBlock _ :: k => some { c with todo := k }
  | .code (.seq a b) :: k => some { c with todo := .code a :: .code b :: k }
  | .code (.cond x a b) :: k => match Cof (opnd c.tmps x) with
    | some (.lbool t) => some { c with todo := .code (if t then a else b) :: k }
    | some (.bool t) => match c.hints with
      | h :: hs => some { c with todo := .code (if h then a else b) :: k, hints := hs, obs := ar.eqb t h :: c.obs }
      | [] => none
    | _ => none
  | .code (.block id b) :: k => some { c with todo := .code b :: .inBlock id :: k }
  | .code (.loop b) :: k | .inLoop b :: k => some { c with todo := .code b :: .inLoop b :: k }
  | .code (.exit id) :: k => match exitTo id k with
    | some k' => some { c with todo := k' }
    | none => none
  | .code (.region _ ops draw) :: k => match runRegion ar real ti tbl ops draw c with
    | some c' => some { c' with todo := k }
    | none => none
  | _ => none

def isLoop : List Item → Bool
  | .code (.loop _) :: _ => true
  | _ => false
def isBack (d : Nat) : List Item → Bool
  | .inLoop _ :: k => Nat.beq k.length d
  | _ => false

def exec (ar real : Ar) (ti : TypeId → TI) (tbl : Tbl) (d : Nat) (unroll : Bool) : Nat → Cfg → Cfg
  | 0, c => c
  | n + 1, c =>
    if isBack d c.todo then c
    else if (!unroll && isLoop c.todo) then c
    else match step ar real ti tbl c with
      | none => c
      | some c' => exec ar real ti tbl d unroll n c'

end Go.Eng
