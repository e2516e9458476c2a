import Derived.Calls
import Derived.Orders
import Derived.WalkKit
import Derived.Laws.BytesString
import Derived.Laws.Cells
import Derived.Laws.StructEq
set_option linter.defProp false
set_option linter.unusedSimpArgs false
set_option linter.unusedVariables false
namespace Go.Eng
open Go
theorem mc.{u} {α:Type u}{p:α→Prop}{a:α}{l:List α}(h:p a∧∀x∈l,p x):∀x∈a::l,p x:=List.forall_mem_cons.2 h
def sie:=@Option.some.injEq
def bsa:=@ByteArray.size_append
def po:=@Prod.mk.injEq
theorem ges.{u} {α:Type u}{l:List α}{i:Nat}{a:α}(h:l[i]?=some a):∃h:i<l.length,l[i]=a:=List.getElem?_eq_some_iff.1 h
def geg:=@List.getElem?_eq_getElem
def bat:=@Bool.and_eq_true
def oms:=@Option.map_eq_some_iff
def mcs:=@List.mem_cons_self
def baa:=@ByteArray.append_assoc
def mcm:=@List.mem_cons_of_mem
def odt:=@of_decide_eq_true
def srp:=@Sem.run_pure
def srb:=@Sem.run_bind
inductive N where
 |lit (n:Nat)
 |sym (n:Nat)
def N.val:N→Nat
 |.lit n=>n
 |.sym n=>n
inductive Sh where
 |int (k:IntKind)
 |bool
 |str
 |arr (k:IntKind) (m:Nat)
 |two (a b:Sh)
 |sl (s:Sh)
def Sh.width:Sh→Nat
 |.arr _ m=>m
 |.two a b=>a.width+b.width
 |_=>1
inductive D where
 |int (n:Int)
 |bool (b:Bool)
 |str (s:ByteArray)
 |row (l:List Int)
 |pair (a b:D)
 |sl (l:List D)
instance:Inhabited D:=⟨.int 0⟩
def D.int!:D→Int
 |.int n=>n
 |_=>0
def D.bool!:D→Bool
 |.bool b=>b
 |_=>false
def D.str!:D→ByteArray
 |.str s=>s
 |_=>.empty
def D.row!:D→List Int
 |.row l=>l
 |_=>[]
def D.sl!:D→List D
 |.sl l=>l
 |_=>[]
def D.fst!:D→D
 |.pair a _=>a
 |_=>.int 0
def D.snd!:D→D
 |.pair _ b=>b
 |_=>.int 0
inductive C where
 |int (k:IntKind) (n:Int)
 |lit (k:IntKind) (n:Int)
 |bool (b:Bool)
 |lbool (b:Bool)
 |str (s:ByteArray)
 |ptr (b:Nat) (off:N)
 |nil
 |sl (b:Nat) (off len cap:N)
 |nsl
 |raw (v:Value)
 |dat (s:Sh) (xs:List D) (tok:Option Nat)
 |dp (s:Sh) (d:D)
 |tri (p q:Prop)
 |adr (b:Nat) (T:Nat)
 |bf (s:ByteArray) (t:Nat) (e:Nat)
inductive Pt where
 |c (x:C)
 |v (s:Sh) (d:D)
inductive G where
 |lst (cs:List C)
 |prt (ps:List Pt)
 |ints (k:IntKind) (n:N) (f:Nat→Int)
 |col (s:Sh) (n:N) (f:Nat→D)
 |tail
 |dead
inductive A where
 |one (c:C)
 |agg (g:G)
inductive V where
 |a (x:A)
 |tup (xs:List A)
 |z
structure Blk where
 ro:Bool
 g:G
structure Ar where
 bin:BinOp→IntKind→Int→Int→Int
 cmp:BinOp→Int→Int→Bool
 un:UnOp→IntKind→Int→Int
 conv:IntKind→Int→Int
 bnot:Bool→Bool
 beq:Bool→Bool→Bool
 upd:(Nat→Int)→Nat→Int→Nat→Int
 shf:(Nat→Int)→Nat→Nat→Int
 blit:(Nat→Int)→Nat→Nat→(Nat→Int)→Nat→Int
 idx:Nat→Int→Nat→Nat
 lEq:List Int→List Int→Bool
 inb:Int→Nat→Prop
 le0:Int→Nat→Prop
 sof:Nat→Nat→Int→Nat→Nat
 sub:Nat→Int→Nat
 tn:Int→Nat
 mn:Int→Int→Int
 mx:Int→Int→Int
 sx:ByteArray→Nat→Nat→ByteArray
 sz:ByteArray→Nat
 sb:ByteArray→Nat→Int
 sEq:ByteArray→ByteArray→Bool
 sLt:ByteArray→ByteArray→Bool
 scat:ByteArray→ByteArray→ByteArray
 sfit:ByteArray→ByteArray→Prop
 leN:Nat→Nat→Prop
 nz:Int→Prop
 nneg:Int→Prop
 eqb:Bool→Bool→Prop
 dInt:D→Int
 dBool:D→Bool
 dStr:D→ByteArray
 dRow:D→Nat→Int
 dRowAt:D→Nat→D
 dSl:D→List D
 dFst:D→D
 dSnd:D→D
 dLen:List D→Nat
 dAt:List D→Nat→D
 dCut:List D→Nat→Nat→List D
 dCat:List D→List D→List D
 dMk:Nat→(Nat→Int)→List Int
 dNrm:Sh→D→D
 dTxt:List D→ByteArray
 dByt:ByteArray→List D
 dFit:List D→List D→Nat→Prop
 txt:(Nat→Int)→Nat→ByteArray
 dHead:List D→Nat→D
 dOf:(Nat→Int)→Nat→List D
 fitN:Nat→List D→Nat→Prop
 mkOk:Int→Int→Nat→Prop
 dNil:List D→Prop
 le2:Nat→Nat→Nat→Prop
 dUpd:(Nat→D)→Nat→D→Nat→D
 allB:List Bool→Bool
 sAt:List ByteArray→Nat→ByteArray
 ovr:(Nat→Int)→ByteArray→Nat→Int
 dEls:D→List D
inductive TD where
 |int (k:IntKind)
 |bool
 |str
 |ptr (e:Nat)
 |slice (elem:Nat)
 |arr (len elem:Nat)
 |strct (fields:List (Nat×Nat))
 |other
structure TI where
 known:Bool
 td:TD
 size:Nat
 agg:Bool
 zero:Option A
 plain:Bool
 bytes:Nat
 sh:Option Sh
 eqs:Bool:=false
abbrev Heap:=List (Option Blk)
def kindEq:IntKind→IntKind→Bool
 |.i8,.i8|.i16,.i16|.i32,.i32|.i64,.i64|.u8,.u8|.u16,.u16|.u32,.u32|.u64,.u64=>true
 |_,_=>false
def C.num?:C→Option (IntKind×Int×Bool)
 |.int k n=>some (k,n,false)
 |.lit k n=>some (k,n,true)
 |_=>none
def updN (ar:Ar) (f:Nat→Int) (i:N) (x:Int):Nat→Int:=
 match i with
 |.lit m=>fun j=>if j=m then x else f j
 |.sym m=>ar.upd f m x
def shfN (ar:Ar) (f:Nat→Int) (o:N):Nat→Int:=
 match o with
 |.lit m=>fun j=>f (m+j)
 |.sym m=>ar.shf f m
def leq (ar:Ar):N→Nat→N→Option (List Prop)
 |.lit a,d,.lit b=>if a+d≤b then some []else none
 |a,d,b=>some [ar.leN (a.val+d) b.val]
def shEq:Sh→Sh→Bool
 |.int k,.int k'=>kindEq k k'
 |.bool,.bool=>true
 |.str,.str=>true
 |.arr k m,.arr k' m'=>kindEq k k'&&Nat.beq m m'
 |.two a b,.two a' b'=>shEq a a'&&shEq b b'
 |.sl s,.sl s'=>shEq s s'
 |_,_=>false
def numK (k:IntKind) (c:C):Option Int:=match c.num? with
 |some (k',n,_)=>if kindEq k k' then some n else none
 |none=>none
def colC (ar:Ar):Sh→D→C
 |.int k,d=>.int k (ar.dInt d)
 |.bool,d=>.bool (ar.dBool d)
 |.str,d=>.str (ar.dStr d)
 |.sl s,d=>.dat s (ar.dSl d) none
 |_,_=>.nil
def encC:Sh→C→Option D
 |.int k,c=>(numK k c).map .int
 |.bool,.bool b=>some (.bool b)
 |.bool,.lbool b=>some (.bool b)
 |.str,.str s=>some (.str s)
 |.sl s,.dat s' xs _=>if shEq s s' then some (.sl xs)else none
 |.sl _,.nsl=>some (.sl [])
 |_,_=>none
def cellsD (ar:Ar):Sh→D→List C
 |.int k,d=>[.int k (ar.dInt d)]
 |.bool,d=>[.bool (ar.dBool d)]
 |.str,d=>[.str (ar.dStr d)]
 |.arr k m,d=>(List.range m).map fun j=>.int k (ar.dRow d j)
 |.two a b,d=>cellsD ar a (ar.dFst d)++cellsD ar b (ar.dSnd d)
 |.sl s,d=>[.dat s (ar.dSl d) none]
def dF (ar:Ar):D→D
 |.pair a _=>a
 |d=>ar.dFst d
def dS (ar:Ar):D→D
 |.pair _ b=>b
 |d=>ar.dSnd d
def dI (ar:Ar):D→Int
 |.int n=>n
 |d=>ar.dInt d
def dB (ar:Ar):D→Bool
 |.bool n=>n
 |d=>ar.dBool d
def dX (ar:Ar):D→ByteArray
 |.str n=>n
 |d=>ar.dStr d
def dL (ar:Ar):D→List D
 |.sl n=>n
 |d=>ar.dSl d
def Pt.width:Pt→Nat
 |.c _=>1
 |.v s _=>s.width
def widthP:List Pt→Nat
 | []=>0
 |p::l=>p.width+widthP l
def cellsP (ar:Ar):List Pt→List C
 | []=>[]
 |.c x::l=>x::cellsP ar l
 |.v s d::l=>cellsD ar s d++cellsP ar l
def partD (ar:Ar):Sh→D→Nat→Nat→Option (Sh×D)
 |.two a b,d,o,n=>match Nat.blt o a.width with
  |false=>partD ar b (dS ar d) (o-a.width) n
  |true=>(match Nat.ble (o+n) a.width with
   |true=>partD ar a (dF ar d) o n
   |false=>(match Nat.beq o 0&&Nat.beq (a.width+b.width) n with
    |true=>some (.two a b,d)
    |false=>none))
 |s,d,o,n=>match Nat.beq o 0&&Nat.beq s.width n with
  |true=>some (s,d)
  |false=>none
def leafC (ar:Ar):Sh→D→Option C
 |.int k,d=>some (.int k (dI ar d))
 |.bool,d=>some (.bool (dB ar d))
 |.str,d=>some (.str (dX ar d))
 |.sl s,d=>some (.dat s (dL ar d) none)
 |_,_=>none
def prtGet (ar:Ar):List Pt→Nat→Option C
 | [],_=>none
 |.c x::l,i=>if i=0 then some x else prtGet ar l (i-1)
 | [.v s d],i=>(match partD ar s d i 1 with
    |some (s',d')=>leafC ar s' d'
    |none=>none)
 |.v s d::l,i=>if i<s.width then(match partD ar s d i 1 with
   |some (s',d')=>leafC ar s' d'
   |none=>none)else prtGet ar l (i-s.width)
def prtTake:List Pt→Nat→Option (List Pt)
 |_,0=>some []
 | [],_=>none
 |p::l,n=>if p.width≤n then(prtTake l (n-p.width)).map (p :: ·)else none
def prtDrop:List Pt→Nat→Option (List Pt)
 |l,0=>some l
 | [],_=>none
 |p::l,n=>if p.width≤n then prtDrop l (n-p.width)else none
def prtPut (ar:Ar):Nat→List Pt→Nat→Nat→List Pt→Option (List Pt)
 |0,_,_,_,_=>none
 |_,[],_,_,_=>none
 |f+1,p::l,off,n,qs=>
  if p.width≤off then(prtPut ar f l (off-p.width) n qs).map (p :: ·)
  else if off=0∧p.width≤n then(prtDrop (p::l) n).map (qs ++ ·)
  else match p with
   |.v (.two a b) d=>prtPut ar f (.v a (dF ar d) :: .v b (dS ar d)::l) off n qs
   |_=>none
def strsOf (cs:List C):Option (List ByteArray):=cs.mapM fun c=>match c with
 |.str s=>some s
 |_=>none
def G.get? (ar:Ar):G→N→Option (C×List Prop)
 |.lst cs,.lit i=>match cs[i]? with
  |some c=>some (c,[])
  |none=>none
 |.lst cs,.sym i=>match strsOf cs with
  |some l=>some (.str (ar.sAt l i),[ar.leN (i+1) l.length])
  |none=>none
 |.ints k n f,i=>match leq ar i 1 n with
  |some ps=>some (.int k (f i.val),ps)
  |none=>none
 |.col s n f,i=>match leq ar i 1 n with
  |some ps=>some (colC ar s (f i.val),ps)
  |none=>none
 |.prt ps,.lit i=>(prtGet ar ps i).map fun c=>(c,[])
 |.prt _,.sym _=>none
 |.tail,_|.dead,_=>none
def valP (ar:Ar):Sh→D→G
 |.arr k m,d=>.ints k (.lit m) (ar.dRow d)
 |s,d=>.prt [.v s d]
def prtCut (ar:Ar):List Pt→Nat→Nat→Option G
 | [],_,_=>none
 |.c x::l,off,n=>if off=0 then(prtTake (.c x::l) n).map .prt else prtCut ar l (off-1) n
 |.v s d::l,off,n=>if off+n≤s.width then(match partD ar s d off n with
   |some (s',d')=>some (valP ar s' d')
   |none=>none)
  else if s.width≤off then prtCut ar l (off-s.width) n
  else if off=0 then(prtTake (.v s d::l) n).map .prt else none
def G.parts (ar:Ar):G→Option (List Pt)
 |.lst cs=>some (cs.map .c)
 |.prt ps=>some ps
 |.ints k (.lit m) f=>some [.v (.arr k m) (.row (ar.dMk m f))]
 |_=>none
def G.cut (ar:Ar):G→N→Nat→Option (G×List Prop)
 |.lst cs,.lit off,n=>if off+n≤cs.length then some (.lst ((cs.drop off).take n),[])else none
 |.lst _,.sym _,_=>none
 |.ints k m f,.lit 0,n=>match leq ar (.lit 0) n m with
  |some ps=>some (.ints k (.lit n) f,ps)
  |none=>none
 |.ints k m f,off,n=>match leq ar off n m with
  |some ps=>some (.ints k (.lit n) (shfN ar f off),ps)
  |none=>none
 |.prt ps,.lit off,n=>(prtCut ar ps off n).map fun g=>(g,[])
 |.prt _,.sym _,_=>none
 |.col ..,_,_=>none
 |.tail,_,_|.dead,_,_=>none
def G.set (ar:Ar):G→N→C→Option (G×List Prop)
 |.lst cs,.lit i,c=>if i<cs.length then some (.lst (cs.set i c),[])else none
 |.lst _,.sym _,_=>none
 |.ints k n f,i,c=>match c.num? with
  |some (k',x,_)=>if kindEq k k' then(match leq ar i 1 n with
    |some ps=>some (.ints k n (updN ar f i x),ps)
    |none=>none)
   else none
  |none=>none
 |.col s n f,i,c=>match encC s c with
  |some d=>(match leq ar i 1 n with
   |some ps=>some (.col s n (ar.dUpd f i.val d),ps)
   |none=>none)
  |none=>none
 |.prt ps,.lit i,c=>(prtPut ar 64 ps i 1 [.c c]).map fun rs=>(.prt rs,[])
 |.prt _,.sym _,_=>none
 |.tail,_,_|.dead,_,_=>none
def G.list:G→Option (List C)
 |.lst cs=>some cs
 |.ints k (.lit n) f=>some ((List.range n).map fun j=>.int k (f j))
 |.ints _ (.sym _) _=>none
 |.col ..=>none
 |.prt _=>none
 |.tail|.dead=>none
def G.put (ar:Ar):G→N→G→Option (G×List Prop)
 |.lst cs,.lit off,g=>match g.list with
  |some l=>if off+l.length≤cs.length then some (.lst (cs.take off++l++cs.drop (off+l.length)),[])else none
  |none=>match off,g with
   |0,.prt qs=>if Nat.beq (widthP qs) cs.length then some (.prt qs,[])else none
   |_,_=>none
 |.lst _,.sym _,_=>none
 |.ints k m f,.lit 0,.ints k' (.lit n) g=>
  if kindEq k k' then(match m with
   |.lit m'=>if n=m' then some (.ints k (.lit m') g,[])else if n≤m' then some (.ints k (.lit m') (ar.blit f 0 n g),[])else none
   |.sym m'=>some (.ints k (.sym m') (ar.blit f 0 n g),[ar.leN n m']))else none
 |.ints k m f,off,.ints k' (.lit n) g=>if kindEq k k' then(match leq ar off n m with
   |some ps=>some (.ints k m (ar.blit f off.val n g),ps)
   |none=>none)else none
 |.ints ..,_,_=>none
 |.prt ps,.lit off,g=>match g.parts ar with
  |some qs=>(prtPut ar 64 ps off (widthP qs) qs).map fun rs=>(.prt rs,[])
  |none=>none
 |.prt _,.sym _,_=>none
 |.col ..,_,_=>none
 |.tail,_,_|.dead,_,_=>none
def G.len?:G→Option Nat
 |.lst cs=>some cs.length
 |.ints _ (.lit n) _=>some n
 |.ints _ (.sym _) _=>none
 |.col ..=>none
 |.prt ps=>some (widthP ps)
 |.tail|.dead=>none
structure St where
 tmps:List V
 heap:Heap
def constV:Value→V
 |.int k n=>.a (.one (.lit k n))
 |.bool b=>.a (.one (.lbool b))
 |.string s=>.a (.one (.str s))
 |.pointer none=>.a (.one .nil)
 |.slice none 0 0=>.a (.one .nsl)
 |_=>.z
def opnd (tmps:List V):Operand→V
 |.tmp t=>tmps.getD t (.tup [])
 |.const v=>constV v
 |_=>.z
abbrev HSpec:=List A→List Blk→Option (V×List Blk×List Prop)
inductive Plan where
 |callh (s:HSpec) (args:List A)
 |val (v:V)
 |load (b:Nat) (off:N) (size:Nat) (agg:Bool)
 |store (b:Nat) (off:N) (x:A) (size:Nat)
 |alloc (g:G) (s:Option (N×N))
 |text (b:Nat) (off len:N)
 |copy (b:Nat) (off:N) (n:Nat) (s:ByteArray)
 |froze (b:Nat) (k:IntKind) (len cap:N) (ys:List D)
 |fresh (t:Option Nat) (s:Sh) (xs:List D)
def Aof:V→Option A
 |.a x=>some x
 |_=>none
def Cof:V→Option C
 |.a (.one c)=>some c
 |_=>none
def A.gr:A→G
 |.one c=>.lst [c]
 |.agg g=>g
def G.cells:G→Bool
 |.tail|.dead=>false
 |_=>true
def binInt (ar:Ar) (op:BinOp) (k:IntKind) (x y:Int) (lit:Bool) (real:Ar):V:=
 if lit then .a (.one (.lit k (real.bin op k x y)))else .a (.one (.int k (ar.bin op k x y)))
def cmpInt (ar:Ar) (op:BinOp) (x y:Int) (lit:Bool) (real:Ar):V:=
 if lit then .a (.one (.lbool (real.cmp op x y)))else .a (.one (.bool (ar.cmp op x y)))
abbrev PR:=Option (Plan×List Prop)
def ok (v:V):PR:=some (.val v,[])
def planBin (ar real:Ar) (op:BinOp) (x y:C):PR:=
 match x.num?,y.num? with
 |some (k,a,la),some (k',b,lb)=>
  match op with
  |.shl|.shr=>if lb then(if b<0 then none else ok (binInt ar op k a b la real))else some (.val (binInt ar op k a b false real),[ar.nneg b])
  |_=>
   if kindEq k k' then
    match op with
    |.add|.sub|.mul|.and|.or|.xor|.andNot=>ok (binInt ar op k a b (la&&lb) real)
    |.quo|.rem=>if lb then(if b=0 then none else ok (binInt ar op k a b (la&&lb) real))else some (.val (binInt ar op k a b false real),[ar.nz b])
    |_=>ok (cmpInt ar op a b (la&&lb) real)
   else none
 |_,_=>none
def planStr (ar:Ar) (op:BinOp) (a b:ByteArray):PR:=
 match op with
 |.eql=>ok (.a (.one (.bool (ar.sEq a b))))
 |.neq=>ok (.a (.one (.bool (ar.bnot (ar.sEq a b)))))
 |.lss=>ok (.a (.one (.bool (ar.sLt a b))))
 |.add=>some (.val (.a (.one (.str (ar.scat a b)))),[ar.sfit a b])
 |_=>none
def planEq (ar:Ar) (t:TI) (x y:C):Option C:=
 if !t.known then none else
 match t.td,x,y with
 |.bool,.lbool a,.lbool b=>some (.lbool (a == b))
 |.bool,.bool a,.bool b|.bool,.lbool a,.bool b|.bool,.bool a,.lbool b=>some (.bool (ar.beq a b))
 |.ptr _,.nil,.nil=>some (.lbool true)
 |.ptr _,.ptr _ _,.nil|.ptr _,.nil,.ptr _ _=>some (.lbool false)
 |.slice _,.nsl,.nsl=>some (.lbool true)
 |.slice _,.sl _ _ _ _,.nsl|.slice _,.nsl,.sl _ _ _ _=>some (.lbool false)
 |.slice _,.dat _ xs _,.nsl=>some (.tri (ar.dNil xs) True)
 |_,_,_=>none
def C.neg (ar:Ar):C→C
 |.bool b=>.bool (ar.bnot b)
 |.lbool b=>.lbool (!b)
 |.tri p q=>.tri q p
 |c=>c
def G.numsOf (k:IntKind):G→Option (List Int)
 |.lst cs=>cs.mapM fun c=>match c.num? with
  |some (k',n,_)=>if kindEq k k' then some n else none
  |none=>none
 |.ints k' (.lit n) f=>if kindEq k k' then some ((List.range n).map f)else none
 |.ints _ (.sym _) _=>none
 |.col ..=>none
 |.prt _=>none
 |.tail|.dead=>none
def eqPart (ar:Ar) (ti:TypeId→TI) (g g':G) (f:Nat×Nat):Option Bool:=
 if !(ti f.2).known then none else match (ti f.2).td with
 |.int k=>match g.get? ar (.lit f.1),g'.get? ar (.lit f.1)with
  |some (c,[]),some (c',[])=>match numK k c,numK k c' with
   |some a,some b=>if !(ti f.2).agg then some (ar.cmp .eql a b)else none
   |_,_=>none
  |_,_=>none
 |.str=>match g.get? ar (.lit f.1),g'.get? ar (.lit f.1)with
  |some (.str a,[]),some (.str b,[])=>if !(ti f.2).agg then some (ar.sEq a b)else none
  |_,_=>none
 |.arr n e=>if !((ti e).known&&(ti e).size == 1&&!(ti e).agg&&(ti f.2).agg&&Nat.beq (ti f.2).size n)then none else match (ti e).td with
  |.int k=>match g.cut ar (.lit f.1) n,g'.cut ar (.lit f.1) n with
   |some (x,[]),some (y,[])=>match x.numsOf k,y.numsOf k with
    |some l,some l'=>if l.length=n∧l'.length=n then some (ar.lEq l l')else none
    |_,_=>none
   |_,_=>none
  |_=>none
 |_=>none
def planAgg (ar:Ar) (ti:TypeId→TI) (t:TypeId) (g g':G):Option C:=
 if !((ti t).known&&(ti t).plain)then none else
 match (ti t).td with
 |.arr n e=>if !((ti e).known&&(ti e).size == 1&&!(ti e).agg)then none else match (ti e).td with
  |.int k=>match g.numsOf k,g'.numsOf k with
   |some l,some l'=>if l.length=n∧l'.length=n then some (.bool (ar.lEq l l'))else none
   |_,_=>none
  |_=>none
 |.strct fs=>if(ti t).eqs then match fs.mapM (eqPart ar ti g g')with
  |some bs=>some (.bool (ar.allB bs))
  |none=>none
  else none
 |_=>none
def valD (ar:Ar) (s:Sh) (d:D) (agg:Bool):Option A:=
 if agg then match s with
  |.arr k m=>some (.agg (.ints k (.lit m) (ar.dRow d)))
  |s=>some (.agg (.prt [.v s d]))
 else match cellsD ar s d with
  | [c]=>some (.one c)
  |_=>none
def subD (ar:Ar):Sh→D→Nat→Nat→Option (Sh×D)
 |.two a b,d,o,n=>if o=0∧a.width+b.width=n then some (.two a b,d)else if o<a.width then subD ar a (ar.dFst d) o n else subD ar b (ar.dSnd d) (o-a.width) n
 |s,d,o,n=>if o=0∧s.width=n then some (s,d)else none
def encL:Sh→List C→Option (D×List C)
 |.int k,c::l=>(numK k c).map fun n=>(.int n,l)
 |.bool,.bool b::l=>some (.bool b,l)
 |.bool,.lbool b::l=>some (.bool b,l)
 |.str,.str s::l=>some (.str s,l)
 |.arr k m,cs=>if m≤cs.length then((cs.take m).mapM (numK k)).map fun ns=>(.row ns,cs.drop m)else none
 |.two a b,cs=>match encL a cs with
  |some (x,cs')=>match encL b cs' with
   |some (y,cs'')=>some (.pair x y,cs'')
   |none=>none
  |none=>none
 |.sl s,.dat s' xs _::l=>if shEq s s' then some (.sl xs,l)else none
 |.sl _,.nsl::l=>some (.sl [],l)
 |_,_=>none
def encPt (ar:Ar) (s:Sh):List Pt→Option (D×List Pt)
 |.v s' d::l=>if shEq s' s then some (ar.dNrm s d,l)else none
 |.c x::l=>match encL s [x]with
  |some (d,[])=>some (d,l)
  |_=>none
 | []=>none
def encP (ar:Ar):Sh→List Pt→Option (D×List Pt)
 |.two a b,ps=>match encPt ar (.two a b) ps with
  |some r=>some r
  |none=>match encP ar a ps with
   |some (x,ps')=>(match encP ar b ps' with
    |some (y,ps'')=>some (.pair x y,ps'')
    |none=>none)
   |none=>none
 |.int k,ps=>encPt ar (.int k) ps
 |.bool,ps=>encPt ar .bool ps
 |.str,ps=>encPt ar .str ps
 |.arr k m,ps=>encPt ar (.arr k m) ps
 |.sl s,ps=>encPt ar (.sl s) ps
def encA (ar:Ar) (s:Sh):A→Option D
 |.one c=>match encL s [c]with
  |some (d,[])=>some d
  |_=>none
 |.agg (.ints k (.lit m) f)=>match s with
  |.arr k' m'=>if kindEq k k'&&Nat.beq m m' then some (.row (ar.dMk m f))else none
  |_=>none
 |.agg (.lst l)=>match encL s l with
  |some (d,[])=>some d
  |_=>none
 |.agg (.prt ps)=>match encP ar s ps with
  |some (d,[])=>some d
  |_=>none
 |.agg _=>none
def partsD (ar:Ar) (s:Sh) (ev:Operand→V):Nat→List (Nat×Operand)→Option (List D)
 |_,[]=>some []
 |i,(j,x)::l=>if i=j then(match Aof (ev x),partsD ar s ev (i+1) l with
   |some a,some ds=>match encA ar s a with
    |some d=>some (d::ds)
    |none=>none
   |_,_=>none)else none
def headD (s:Sh):C→Option (List D×Option Nat)
 |.dat s' xs (some t)=>if shEq s s' then some (xs,some t)else none
 |.nsl=>some ([],none)
 |_=>none
def argD (s:Sh):C→Option (List D)
 |.dat s' ys _=>if shEq s s' then some ys else none
 |.nsl=>some []
 |_=>none
def srcD (ar:Ar) (ti:TypeId→TI) (s:Sh) (t t':TypeId) (d:C):Option (List D):=
 if Nat.beq t t' then argD s d else match s,d with
  |.int .u8,.str b=>if(ti t').known then(match (ti t').td with
   |.str=>some (ar.dByt b)
   |_=>none)else none
  |_,_=>none
def planApp (ar:Ar) (ti:TypeId→TI) (ev:Operand→V) (t t':TypeId) (x y:Operand):Option (Plan×List Prop):=
 if !(ti t).known then none else match (ti t).td with
 |.slice e=>if !(ti e).known then none else match (ti e).sh with
  |some s=>if Nat.beq s.width (ti e).size&&Nat.blt 0 s.width&&(ti e).zero.isSome then(match Cof (ev x),Cof (ev y)with
    |some c,some d=>match srcD ar ti s t t' d with
     |some ys=>(match c,s with
      |.sl b (.lit 0) len cap,.int k=>some (.froze b k len cap ys,[ar.fitN len.val ys (ti e).bytes])
      |c,s=>(match headD s c with
       |some (xs,tok)=>some (.fresh tok s (ar.dCat xs ys),[ar.dFit xs ys (ti e).bytes])
       |none=>none))
     |none=>none
    |_,_=>none)else none
  |none=>none
 |_=>none
def addN (ar:Ar) (off:N) (i:Int) (lit:Bool) (size:Nat):N:=
 match off,lit with
 |.lit o,true=>.lit (o+i.toNat*size)
 |_,_=>.sym (ar.idx off.val i size)
def inR (ar:Ar):N→Int→Bool→Option (List Prop)
 |.lit len,j,true=>if 0≤j∧j<(len:Int)then some []else none
 |len,j,_=>some [ar.inb j len.val]
def fillL:List C→List (Nat×List C)→Option (List C)
 |cs,[]=>some cs
 |cs,(off,l)::rest=>if off+l.length≤cs.length then fillL (cs.take off++l++cs.drop (off+l.length)) rest else none
def fillI (ar:Ar) (k:IntKind) (n:Nat) (f:Nat→Int):List (Nat×V)→Option (Nat→Int)
 | []=>some f
 |(i,v)::rest=>match Cof v with
  |some c=>match c.num? with
   |some (k',x,_)=>if kindEq k k'&&decide (i<n)then fillI ar k n (updN ar f (.lit i) x) rest else none
   |none=>none
  |none=>none
def leI (ar:Ar) (x:Int) (lt:Bool) (n:N):Option (List Prop):=
 match lt,n with
 |true,.lit m=>if 0≤x∧x≤(m:Int)then some []else none
 |_,n=>some [ar.le0 x n.val]
def intN (ar:Ar) (x:Int) (lt:Bool):N:=if lt then .lit x.toNat else .sym (ar.tn x)
def hiOf (ar:Ar) (ev:Operand→V) (hi:Option Operand) (len cap:N):Option (N×List Prop):=
 match hi with
 |none=>some (len,[])
 |some x=>match Cof (ev x)with
  |some c=>match c.num? with
   |some (_,n,lt)=>match leI ar n lt cap with
    |some ps=>some (intN ar n lt,ps)
    |none=>none
   |none=>none
  |none=>none
def loOf (ar:Ar) (ev:Operand→V) (lo:Option Operand) (h:N):Option (Int×Bool×List Prop):=
 match lo with
 |none=>some (0,true,[])
 |some x=>match Cof (ev x)with
  |some c=>match c.num? with
   |some (_,n,lt)=>match leI ar n lt h with
    |some ps=>some (n,lt,ps)
    |none=>none
   |none=>none
  |none=>none
def sofN (ar:Ar) (off cap:N) (lo:Int) (lt:Bool) (es:Nat):N:=
 match off,cap,lt with
 |.lit o,.lit c,true=>if c=lo.toNat then .lit o else .lit (o+lo.toNat*es)
 |off,cap,_=>.sym (ar.sof off.val cap.val lo es)
def subN (ar:Ar) (a:N) (lo:Int) (lt:Bool):N:=
 match a,lt with
 |.lit a,true=>.lit (a-lo.toNat)
 |a,_=>.sym (ar.sub a.val lo)
def planSlice (ar:Ar) (ti:TypeId→TI) (ev:Operand→V) (t:TypeId) (x:Operand) (lo hi:Option Operand):PR:=
 if !(ti t).known then none else
 match (ti t).td,Cof (ev x)with
 |.arr n e,some (.ptr b off)=>if !(ti e).known then none else
  match hiOf ar ev hi (.lit n) (.lit n)with
  |some (h,ps)=>match loOf ar ev lo h with
   |some (l,lt,qs)=>some (.val (.a (.one (.sl b (sofN ar off (.lit n) l lt (ti e).size) (subN ar h l lt) (subN ar (.lit n) l lt)))),qs++ps)
   |none=>none
  |none=>none
 |.slice e,some (.sl b off len cap)=>if !(ti e).known then none else
  match hiOf ar ev hi len cap with
  |some (h,ps)=>match loOf ar ev lo h with
   |some (l,lt,qs)=>some (.val (.a (.one (.sl b (sofN ar off cap l lt (ti e).size) (subN ar h l lt) (subN ar cap l lt)))),qs++ps)
   |none=>none
  |none=>none
 |.slice e,some (.dat s xs tok)=>if !(ti e).known||!(Nat.beq s.width (ti e).size)then none else
  match hiOf ar ev hi (.sym (ar.dLen xs)) (.sym (ar.dLen xs))with
  |some (h,ps)=>match loOf ar ev lo h with
   |some (l,_,qs)=>some (.val (.a (.one (.dat s (ar.dCut xs (ar.tn l) h.val) (match hi with
    |none=>tok
    |some _=>none)))),qs++ps)
   |none=>none
  |none=>none
 |.str,some (.str s)=>match hiOf ar ev hi (.sym (ar.sz s)) (.sym (ar.sz s))with
  |some (h,ps)=>match loOf ar ev lo h with
   |some (l,_,qs)=>some (.val (.a (.one (.str (ar.sx s (ar.tn l) h.val)))),qs++ps)
   |none=>none
  |none=>none
 |.arr n e,some (.dp (.arr k m) d)=>if !((ti e).known&&Nat.beq (ti e).size 1&&Nat.beq m n)then none else match lo,hi with
  |none,none=>ok (.a (.one (.dat (.int k) (ar.dEls d) none)))
  |_,_=>none
 |_,_=>none
def planCut0 (ti:TypeId→TI) (ev:Operand→V) (t:TypeId) (x:Operand) (lo hi:Option Operand) (m:Operand):PR:=
 if !(ti t).known then none else
 match lo,hi,(ti t).td,Cof (ev x)with
 |none,some h,.slice e,some (.dat s _ _)=>if !(ti e).known||!(Nat.beq s.width (ti e).size)then none else match Cof (ev h),Cof (ev m)with
  |some (.lit _ 0),some (.lit _ 0)=>some (.fresh none s [],[])
  |_,_=>none
 |_,_,_,_=>none
def planMake (ar:Ar) (ti:TypeId→TI) (ev:Operand→V) (t:TypeId) (l c:Operand):PR:=
 if !(ti t).known then none else match (ti t).td with
 |.slice e=>if !(ti e).known then none else match (ti e).zero,Cof (ev l),Cof (ev c)with
  |some (.one (.lit k 0)),some cl,some cc=>if Nat.beq (ti e).size 1 then(match cl.num?,cc.num? with
   |some (_,n,lt),some (_,m,mt)=>some (.alloc (.ints k (intN ar m mt) (fun _=>0)) (some (intN ar n lt,intN ar m mt)),[ar.mkOk n m (ti e).bytes])
   |_,_=>none)else none
  |some (.one (.lbool false)),some cl,some cc=>if Nat.beq (ti e).size 1 then(match cl.num?,cc.num? with
   |some (_,n,lt),some (_,m,mt)=>some (.alloc (.col .bool (intN ar m mt) (fun _=>.bool false)) (some (intN ar n lt,intN ar m mt)),[ar.mkOk n m (ti e).bytes])
   |_,_=>none)else none
  |_,_,_=>none
 |_=>none
def planLen (ar:Ar) (ti:TypeId→TI) (ev:Operand→V) (t:TypeId) (x:Operand):PR:=
 if !(ti t).known then none else
 match (ti t).td,Cof (ev x)with
 |.slice _,some (.sl _ _ (.lit n) _)=>ok (.a (.one (.lit .i64 n)))
 |.slice _,some (.sl _ _ (.sym n) _)=>ok (.a (.one (.int .i64 n)))
 |.slice _,some .nsl=>ok (.a (.one (.lit .i64 0)))
 |.slice _,some (.dat _ xs _)=>ok (.a (.one (.int .i64 (ar.dLen xs))))
 |.str,some (.str s)=>ok (.a (.one (.int .i64 (ar.sz s))))
 |_,_=>none
def planMin (ar real:Ar) (mx:Bool) (x y:V):PR:=
 match Cof x,Cof y with
 |some c,some d=>match c.num?,d.num? with
  |some (k,a,la),some (_,b,lb)=>
   if la&&lb then ok (.a (.one (.lit k (if mx then real.mx a b else real.mn a b))))else ok (.a (.one (.int k (if mx then ar.mx a b else ar.mn a b))))
  |_,_=>none
 |_,_=>none
def planCopy (ti:TypeId→TI) (ev:Operand→V) (t:TypeId) (x y:Operand):PR:=
 if !(ti t).known then none else match (ti t).td,Cof (ev x),Cof (ev y)with
 |.slice e,some (.sl b off (.lit n) _),some (.str s)=>if !((ti e).known&&Nat.beq (ti e).size 1)then none else some (.copy b off n s,[])
 |_,_,_=>none
def planCall (ar real:Ar) (ti:TypeId→TI) (ev:Operand→V) (c:Call):PR:=
 match c.callee,c.args.toList,c.argTypes.toList with
 |.builtin .len,[x],[t]=>planLen ar ti ev t x
 |.builtin .min,[x,y],_=>planMin ar real false (ev x) (ev y)
 |.builtin .max,[x,y],_=>planMin ar real true (ev x) (ev y)
 |.builtin .append,[x,y],[t,t']=>planApp ar ti ev t t' x y
 |.builtin .copy,[x,y],[t,_]=>planCopy ti ev t x y
 |_,_,_=>none
def partOf (ti:TypeId→TI) (fs:List (Nat×Nat)) (i:Nat) (x:V):Option (Nat×List C):=
 match fs[i]?,Aof x with
 |some (off,ft),some v=>if !(ti ft).known then none else match v.gr.list with
  |some l=>if l.length=(ti ft).size then some (off,l)else none
  |none=>none
 |_,_=>none
def partOf1 (i:Nat) (x:V):Option (Nat×List C):=match Cof x with
 |some c=>some (i*1,[c])
 |none=>none
def partOfP (ar:Ar) (ti:TypeId→TI) (fs:List (Nat×Nat)) (i:Nat) (x:V):Option (Nat×List Pt):=
 match fs[i]?,Aof x with
 |some (off,ft),some v=>if !(ti ft).known then none else match v.gr.parts ar with
  |some l=>if widthP l=(ti ft).size then some (off,l)else none
  |none=>none
 |_,_=>none
def fillP (ar:Ar):List Pt→List (Nat×List Pt)→Option (List Pt)
 |ps,[]=>some ps
 |ps,(off,qs)::rest=>match prtPut ar 64 ps off (widthP qs) qs with
  |some rs=>fillP ar rs rest
  |none=>none
def plan (ar real:Ar) (ti:TypeId→TI) (ev:Operand→V):Op→PR
 |.move x|.assign x=>ok (ev x)
 |.pick c a b=>match Cof (ev c)with
  |some (.lbool t)=>ok (if t then ev a else ev b)
  |some (.bool t)=>ok (if t then ev a else ev b)
  |_=>none
 |.alloc e=>if !(ti e).known then none else match (ti e).zero with
  |some z=>if z.gr.cells then some (.alloc z.gr none,[])else none
  |none=>none
 |.box _ x=>match Aof (ev x)with
  |some z=>if z.gr.cells then some (.alloc z.gr none,[])else none
  |none=>none
 |.build t parts=>
  if !(ti t).known then none else match (ti t).td,(ti t).zero with
  |.strct fs,some (.agg (.lst z))=>
   match parts.toList.mapM (fun p=>partOf ti fs p.1 (ev p.2))with
   |some ps=>match fillL z ps with
    |some cs=>ok (.a (.agg (.lst cs)))
    |none=>none
   |none=>none
  |.strct fs,some (.agg (.prt z))=>
   match parts.toList.mapM (fun p=>partOfP ar ti fs p.1 (ev p.2))with
   |some ps=>match fillP ar z ps with
    |some rs=>ok (.a (.agg (.prt rs)))
    |none=>none
   |none=>none
  |.arr _ e,some (.agg (.ints k (.lit n) f))=>
   if(ti e).known&&(ti e).size == 1 then match fillI ar k n f (parts.toList.map fun p=>(p.1,ev p.2))with
   |some f'=>ok (.a (.agg (.ints k (.lit n) f')))
   |none=>none
   else none
  |.arr _ e,some (.agg (.lst z))=>
   if(ti e).known&&(ti e).size == 1 then match parts.toList.mapM (fun p=>partOf1 p.1 (ev p.2))with
   |some ps=>match fillL z ps with
    |some cs=>ok (.a (.agg (.lst cs)))
    |none=>none
   |none=>none
   else none
  |_,_=>none
 |.buildSlice t n parts=>if !(ti t).known then none else match (ti t).td with
  |.slice e=>if !(ti e).known then none else match (ti e).sh with
   |some s=>if Nat.beq s.width (ti e).size&&Nat.blt 0 s.width&&Nat.ble (n*s.width) 16777216&&(ti e).zero.isSome&&Nat.beq parts.toList.length n then(match partsD ar s ev 0 parts.toList with
     |some ds=>some (.fresh none s ds,[])
     |none=>none)else none
   |none=>none
  |_=>none
 |.load t x=>if !(ti t).known then none else match Cof (ev x)with
  |some (.ptr b off)=>some (.load b off (ti t).size (ti t).agg,[])
  |some (.dp s d)=>if Nat.beq s.width (ti t).size then(match valD ar s d (ti t).agg with
   |some x=>ok (.a x)
   |none=>none)else none
  |_=>none
 |.store t x y=>if !(ti t).known then none else match Cof (ev x),Aof (ev y)with
  |some (.ptr b off),some v=>some (.store b off v (ti t).size,[])
  |_,_=>none
 |.nilCheck x=>match Cof (ev x)with
  |some (.ptr b off)=>ok (.a (.one (.ptr b off)))
  |_=>none
 |.binOp op T x y _=>match Aof (ev x),Aof (ev y)with
  |some (.one (.str a)),some (.one (.str b))=>planStr ar op a b
  |some (.one x),some (.one y)=>match x.num? with
   |some _=>planBin ar real op x y
   |none=>match op,planEq ar (ti T) x y with
    |.eql,some c=>ok (.a (.one c))
    |.neq,some c=>ok (.a (.one (c.neg ar)))
    |_,_=>none
  |some (.agg g),some (.agg g')=>match op,planAgg ar ti T g g' with
   |.eql,some c=>ok (.a (.one c))
   |.neq,some c=>ok (.a (.one (c.neg ar)))
   |_,_=>none
  |_,_=>none
 |.unOp op _ x=>match op,Cof (ev x)with
  |.neg,some (.int k n)|.xor,some (.int k n)=>ok (.a (.one (.int k (ar.un op k n))))
  |.neg,some (.lit k n)|.xor,some (.lit k n)=>ok (.a (.one (.lit k (real.un op k n))))
  |.not,some (.bool b)=>ok (.a (.one (.bool (ar.bnot b))))
  |.not,some (.lbool b)=>ok (.a (.one (.lbool (!b))))
  |_,_=>none
 |.convert src dst x=>if !((ti src).known&&(ti dst).known)then none else match Cof (ev x),(ti dst).td with
  |some (.int _ n),.int k=>ok (.a (.one (.int k (ar.conv k n))))
  |some (.lit _ n),.int k=>ok (.a (.one (.lit k (real.conv k n))))
  |some (.dat (.int .u8) xs _),.str=>match (ti src).td with
   |.slice e=>if !(ti e).known then none else match (ti e).td with
    |.int .u8=>ok (.a (.one (.str (ar.dTxt xs))))
    |_=>none
   |_=>none
  |some (.sl b off len _),.str=>match (ti src).td with
   |.slice e=>if !(ti e).known then none else match (ti e).td with
    |.int .u8=>some (.text b off len,[])
    |_=>none
   |_=>none
  |_,_=>none
 |.extract t i=>match ev t with
  |.tup l=>match l[i]? with
   |some x=>ok (.a x)
   |none=>none
  |_=>none
 |.fieldAddr s x f=>if !(ti s).known then none else match Cof (ev x),(ti s).td with
  |some (.ptr b (.lit off)),.strct fs=>match fs[f]? with
   |some (o,ft)=>if(ti ft).known&&!((ti ft).size == 0)then ok (.a (.one (.ptr b (.lit (off+o)))))else none
   |none=>none
  |some (.dp sh d),.strct fs=>match fs[f]? with
   |some (o,ft)=>if(ti ft).known&&!((ti ft).size == 0)then(match subD ar sh d o (ti ft).size with
    |some (sh',d')=>ok (.a (.one (.dp sh' d')))
    |none=>none)else none
   |none=>none
  |_,_=>none
 |.field t x f=>if !(ti t).known then none else match Aof (ev x),(ti t).td with
  |some (.agg g),.strct fs=>match fs[f]? with
   |some (o,ft)=>if !(ti ft).known then none else if(ti ft).agg then(match g.cut ar (.lit o) (ti ft).size with
     |some (g',ps)=>some (.val (.a (.agg g')),ps)
     |none=>none)
    else(match g.get? ar (.lit o)with
     |some (c,ps)=>some (.val (.a (.one c)),ps)
     |none=>none)
   |none=>none
  |_,_=>none
 |.indexAddr t x i=>if !(ti t).known then none else match Cof (ev i)with
  |some j=>match j.num? with
   |some (_,j,lt)=>match Cof (ev x),(ti t).td with
    |some (.ptr b off),.arr len e=>if !(ti e).known then none else match inR ar (.lit len) j lt with
     |some ps=>some (.val (.a (.one (.ptr b (addN ar off j lt (ti e).size)))),ps)
     |none=>none
    |some (.sl b off len _),.slice e=>if !(ti e).known then none else match inR ar len j lt with
     |some ps=>some (.val (.a (.one (.ptr b (addN ar off j lt (ti e).size)))),ps)
     |none=>none
    |some (.dat s xs _),.slice e=>if !(ti e).known then none else if Nat.beq s.width (ti e).size then
      some (.val (.a (.one (.dp s (ar.dAt xs (ar.tn j))))),[ar.inb j (ar.dLen xs)])else none
    |some (.dp (.arr k m) d),.arr len e=>if !(ti e).known then none else if Nat.beq (ti e).size 1&&Nat.beq m len then(match inR ar (.lit len) j lt with
      |some ps=>some (.val (.a (.one (.dp (.int k) (ar.dRowAt d (ar.tn j))))),ps)
      |none=>none)else none
    |_,_=>none
   |none=>none
  |none=>none
 |.index t x i=>if !(ti t).known then none else match Cof (ev i)with
  |some j=>match j.num? with
   |some (_,j,lt)=>match Aof (ev x),(ti t).td with
    |some (.agg g),.arr len e=>if !(ti e).known||(ti e).agg||!((ti e).size == 1)then none else match inR ar (.lit len) j lt with
     |some ps=>match g.get? ar (addN ar (.lit 0) j lt 1)with
      |some (c,qs)=>some (.val (.a (.one c)),qs++ps)
      |none=>none
     |none=>none
    |some (.one (.str s)),.str=>some (.val (.a (.one (.int .u8 (ar.sb s (ar.tn j))))),[ar.inb j (ar.sz s)])
    |_,_=>none
   |none=>none
  |none=>none
 |.slice t x lo hi mx=>match mx with
  |none=>planSlice ar ti ev t x lo hi
  |some m=>planCut0 ti ev t x lo hi m
 |.sliceToArrayPointer t x=>if !(ti t).known then none else match (ti t).td,Cof (ev x)with
  |.arr n _,some (.sl b off (.lit len) _)=>if n≤len then ok (.a (.one (.ptr b off)))else none
  |.arr n _,some (.sl b off (.sym len) _)=>some (.val (.a (.one (.ptr b off))),[ar.leN n len])
  |.arr n e,some (.dat (.int k) xs _)=>if(ti e).known&&Nat.beq (ti e).size 1&&Nat.blt 0 n then some (.val (.a (.one (.dp (.arr k n) (ar.dHead xs n)))),[ar.leN n (ar.dLen xs)])else none
  |_,_=>none
 |.makeSlice t l c=>planMake ar ti ev t l c
 |.call c=>planCall ar real ti ev c
 |_=>none
def namesC:C→List Nat
 |.ptr b _=>[b]
 |.sl b _ _ _=>[b]
 |.dat _ _ (some t)=>[t]
 |.adr b _=>[b]
 |.bf _ t _=>[t]
 |_=>[]
def namesG:G→List Nat
 |.lst cs=>cs.flatMap namesC
 |.prt ps=>ps.flatMap fun p=>match p with
  |.c x=>namesC x
  |.v _ _=>[]
 |_=>[]
def namesA:A→List Nat
 |.one c=>namesC c
 |.agg g=>namesG g
def addAll:List Nat→List Nat→List Nat
 |ns,[]=>ns
 |ns,x::xs=>if ns.contains x then addAll ns xs else addAll (ns++[x]) xs
def namesAt (h:Heap) (n:Nat):List Nat:=
 match h[n]? with
 |some (some b)=>namesG b.g
 |_=>[]
def clo (h:Heap):Nat→List Nat→List Nat
 |0,ns=>ns
 |k+1,ns=>clo h k (addAll ns (ns.flatMap (namesAt h)))
def idxF:List Nat→Nat→Nat→Option Nat
 | [],_,_=>none
 |x::xs,b,i=>if x=b then some i else idxF xs b (i+1)
def renC (ns:List Nat):C→Option C
 |.ptr b off=>(idxF ns b 0).map fun i=>.ptr i off
 |.sl b off len cap=>(idxF ns b 0).map fun i=>.sl i off len cap
 |.dat s xs tok=>some (.dat s xs (tok.bind fun t=>idxF ns t 0))
 |.adr b T=>(idxF ns b 0).map fun i=>.adr i T
 |.bf s t e=>(idxF ns t 0).map fun i=>.bf s i e
 |c=>some c
def bakC (ns:List Nat):C→Option C
 |.ptr i off=>ns[i]?.map fun b=>.ptr b off
 |.sl i off len cap=>ns[i]?.map fun b=>.sl b off len cap
 |.dat s xs tok=>some (.dat s xs (tok.bind fun t=>ns[t]?))
 |.adr i T=>ns[i]?.map fun b=>.adr b T
 |.bf s i e=>ns[i]?.map fun t=>.bf s t e
 |c=>some c
def mapPt (f:C→Option C):Pt→Option Pt
 |.c x=>(f x).map .c
 |.v s d=>some (.v s d)
def mapG (f:C→Option C):G→Option G
 |.prt ps=>(ps.mapM (mapPt f)).map .prt
 |.lst cs=>(cs.mapM f).map .lst
 |.ints k n g=>some (.ints k n g)
 |.col (.sl _) _ _=>none
 |.col s n g=>some (.col s n g)
 |.tail=>some .tail
 |.dead=>some .dead
def mapA (f:C→Option C):A→Option A
 |.one c=>(f c).map .one
 |.agg g=>(mapG f g).map .agg
def mapV (f:C→Option C):V→Option V
 |.a x=>(mapA f x).map .a
 |.tup xs=>(xs.mapM (mapA f)).map .tup
 |.z=>some .z
def mapB (f:C→Option C) (b:Blk):Option Blk:=(mapG f b.g).map fun g=>{ro:=b.ro,g:=g}
def setMany:Heap→List Nat→List Blk→Heap
 |h,n::ns,b::bs=>setMany (h.set n (some b)) ns bs
 |h,_,_=>h
def blkAt (h:Heap) (n:Nat):Option Blk:=
 match h[n]? with
 |some (some b)=>some b
 |_=>none
def G.isTail:G→Bool
 |.tail=>true
 |_=>false
def G.isDead:G→Bool
 |.dead=>true
 |_=>false
def roOk (a b:Blk):Bool:=(a.ro == b.ro&&!b.g.isDead)||(!a.ro&&a.g.isTail&&b.ro&&b.g.isDead)
def sameRo:List Blk→List Blk→Bool
 | [],_=>true
 |a::as',b::bs=>roOk a b&&sameRo as' bs
 |_::_,[]=>false
def isFree (h:Heap) (n:Nat):Bool:=match h[n]? with
 |some none=>true
 |_=>false
def freeN (al:Nat→Bool) (h:Heap) (nm e:Nat):Bool:=(List.range e).all fun k=>isFree h (nm+k)&&(Nat.beq k 0||al (nm+k))
def performI (nm:Nat) (h:Heap) (ns:List Nat) (s:HSpec) (args:List A):Option (Nat×V×List Nat×List Blk×List Prop):=
 match ns.mapM (blkAt h)with
 |some bs=>match args.mapM (mapA (renC ns)),bs.mapM (mapB (renC ns))with
  |some las,some lbs=>match s las lbs with
   |some (v,lbs',ps)=>if Nat.ble ns.length lbs'.length then
     (match mapV (bakC (ns++List.range' nm (lbs'.length-ns.length))) v,lbs'.mapM (mapB (bakC (ns++List.range' nm (lbs'.length-ns.length))))with
     |some v',some bs'=>if sameRo bs bs' then some (lbs'.length-ns.length,v',ns++List.range' nm (lbs'.length-ns.length),bs',ps)else none
     |_,_=>none)else none
   |none=>none
  |_,_=>none
 |none=>none
def performH (al:Nat→Bool) (nm:Nat) (h:Heap) (ns:List Nat) (s:HSpec) (args:List A):Option (V×List Nat×List Blk×List Prop):=
 if ns.all al then match performI nm h ns s args with
  |some (e,r)=>if freeN al h nm e then some r else none
  |none=>none
 else none
def isLive (h:Heap) (n:Nat):Bool:=match h[n]? with
 |some (some b)=>match b.g with
  |.dead=>false
  |_=>true
 |_=>true
def reachA (h:Heap) (args:List A):List Nat:=clo h 3 (addAll [] (args.flatMap namesA))
def reach (h:Heap) (args:List A):List Nat:=(reachA h args).filter (isLive h)
def le3 (ar:Ar):N→N→N→Option (List Prop)
 |.lit a,.lit b,.lit m=>if a+b≤m then some []else none
 |a,b,m=>some [ar.le2 a.val b.val m.val]
def allocC (nm:Nat):Option (N×N)→C
 |none=>.ptr nm (.lit 0)
 |some (l,c)=>.sl nm (.lit 0) l c
def perform (ar:Ar) (al:Nat→Bool) (nm:Nat) (h:Heap):Plan→Option (V×Heap×List Prop)
 |.callh s args=>if(reachA h args).all al then(match performH al nm h (reach h args) s args with
  |some (v,ns,bs,ps)=>some (v,setMany h ns bs,ps)
  |none=>none)else none
 |.val v=>some (v,h,[])
 |.load b off size agg=>if al b then match h[b]? with
   |some (some blk)=>if agg then(match blk.g.cut ar off size with
     |some (g,ps)=>some (.a (.agg g),h,ps)
     |none=>none)
    else match blk.g.get? ar off with
     |some (c,ps)=>some (.a (.one c),h,ps)
     |none=>none
   |_=>none
  else none
 |.store b off x size=>if al b then match h[b]? with
   |some (some blk)=>if blk.ro then none else match x with
    |.one c=>if size=1 then match blk.g.set ar off c with
     |some (g,ps)=>some (.tup [],h.set b (some {blk with g:=g}),ps)
     |none=>none
     else none
    |.agg g0=>match g0.len? with
     |some n=>if n=size then match blk.g.put ar off g0 with
      |some (g,ps)=>some (.tup [],h.set b (some {blk with g:=g}),ps)
      |none=>none
      else none
     |none=>none
   |_=>none
  else none
 |.alloc g s=>some (.a (.one (allocC nm s)),h.set nm (some {ro:=false,g:=g}),[])
 |.text b off len=>if al b then(match h[b]? with
  |some (some {ro:=_,g:=.ints .u8 M f})=>(match le3 ar off len M with
   |some ps=>some (.a (.one (.str (ar.txt (shfN ar f off) len.val))),h,ps)
   |none=>none)
  |some (some {ro:=_,g:=.prt qs})=>(match len with
   |.lit n=>(match G.cut ar (.prt qs) off n with
    |some (.ints .u8 (.lit m) f,ps)=>if Nat.beq m n then some (.a (.one (.str (ar.txt f n))),h,ps)else none
    |_=>none)
   |.sym _=>none)
  |_=>none)else none
 |.copy b off n s=>if al b then(match h[b]? with
  |some (some blk)=>if blk.ro then none else(match G.cut ar blk.g off n with
   |some (.ints .u8 (.lit m) f,ps)=>if Nat.beq m n then(match G.put ar blk.g off (.ints .u8 (.lit n) (ar.ovr f s))with
    |some (g,qs)=>some (.a (.one (.int .i64 (ar.mn n (ar.sz s)))),h.set b (some {blk with g:=g}),qs++ps)
    |none=>none)else none
   |_=>none)
  |_=>none)else none
 |.froze b k len cap ys=>if al b then(match h[b]? with
  |some (some {ro:=false,g:=.ints k' M f})=>if kindEq k k' then some (.a (.one (.dat (.int k) (ar.dCat (ar.dOf f len.val) ys) (some nm))),(h.set b (some {ro:=true,g:=.dead})).set nm (some {ro:=false,g:=.tail}),[ar.leN len.val cap.val,ar.leN cap.val M.val,ar.leN 1 M.val])else none
  |_=>none)else none
 |.fresh t s xs=>match t with
  |none=>some (.a (.one (.dat s xs (some nm))),h.set nm (some {ro:=false,g:=.tail}),[])
  |some b=>if al b then(match h[b]? with
   |some (some {ro:=false,g:=.tail})=>some (.a (.one (.dat s xs (some nm))),(h.set b (some {ro:=true,g:=.dead})).set nm (some {ro:=false,g:=.tail}),[])
   |_=>none)else none
structure Cfg where
 tmps:List V
 heap:Heap
 todo:List Item
 obs:List Prop
 hints:List Bool
abbrev ESpec:=List A→Option (V×List Prop)
structure Tbl where
 p:FuncId→Option ESpec
 hc:FuncId→Bool
 h:FuncId→Option HSpec
def pureC:C→Bool
 |.ptr .. | .sl .. | .adr .. | .bf ..=>false
 |_=>true
def pureP:Pt→Bool
 |.c x=>pureC x
 |.v _ _=>true
def pureA:A→Bool
 |.one c=>pureC c
 |.agg (.lst cs)=>cs.all pureC
 |.agg (.prt ps)=>ps.all pureP
 |.agg (.col ..)=>false
 |.agg _=>true
def bareC:C→C
 |.dat s xs _=>.dat s xs none
 |c=>c
def bareP:Pt→Pt
 |.c x=>.c (bareC x)
 |.v s d=>.v s d
def bareA:A→A
 |.one c=>.one (bareC c)
 |.agg (.lst cs)=>.agg (.lst (cs.map bareC))
 |.agg (.prt ps)=>.agg (.prt (ps.map bareP))
 |x=>x
def argsOf (ev:Operand→V):List Operand→Option (List A)
 | []=>some []
 |x::xs=>match Aof (ev x),argsOf ev xs with
  |some a,some l=>some (a::l)
  |_,_=>none
def planOp (ar real:Ar) (ti:TypeId→TI) (tbl:Tbl) (ev:Operand→V) (op:Op):PR:=
 match op with
 |.call {callee:=.value (.func f),args:=args,argTypes:=_}=>
  match argsOf ev args.toList with
  |some l=>
   if tbl.hc f then match tbl.h f with
    |some s=>some (.callh s l,[])
    |none=>none
   else match tbl.p f with
    |some s=>if l.all pureA then(match s (l.map bareA)with
     |some (v,ps)=>some (.val v,ps)
     |none=>none)else none
    |none=>none
  |none=>none
 |op=>plan ar real ti ev op
def stepOp (ar real:Ar) (ti:TypeId→TI) (tbl:Tbl) (al:Nat→Bool) (nm:Nat) (op:Op) (tmps:List V) (h:Heap):Option (V×Heap×List Prop):=
 match planOp ar real ti tbl (opnd tmps) op with
 |none=>none
 |some (p,qs)=>match perform ar al nm h p with
  |none=>none
  |some (v,h',rs)=>some (v,h',rs++qs)
def wantedA (ops:Array Oper) (tmps:List V) (o:Oper):Option Bool:=
 match o.guard with
 |none=>some true
 |some (j,want)=>match (ops[j]?).bind (·.dst)with
  |some d=>match tmps.getD d (.tup [])with
   |.a (.one (.lbool b))=>some (b == want)
   |.a (.one (.bool b))=>some (b == want)
   |.tup _=>some false
   |_=>none
  |none=>none
def isAlloc:Op→Bool
 |.alloc _|.box .. | .buildSlice .. | .makeSlice ..=>true
 |.slice _ _ _ _ (some _)=>true
 |.call {callee:=.builtin .append,.. }=>true
 |_=>false
def putV (tmps:List V):Option Tmp→V→List V
 |some d,v=>tmps.set d v
 |none,_=>tmps
structure RS where
 tmps:List V
 heap:Heap
 dec:List (Tmp×Bool)
 hints:List Bool
 obs:List Prop
def boolAt (ar:Ar) (r:RS) (d:Tmp):Option (Bool×RS):=
 match r.tmps.getD d (.tup [])with
 |.a (.one (.lbool b))=>some (b,r)
 |.a (.one (.bool b))=>match r.dec.lookup d with
  |some h=>some (h,r)
  |none=>match r.hints with
   |h::hs=>some (h,{r with dec:=(d,h)::r.dec,hints:=hs,obs:=ar.eqb b h::r.obs})
   | []=>none
 |_=>none
def guardAt (ar:Ar) (ops:Array Oper) (r:RS) (o:Oper):Option (Bool×RS):=
 match o.guard with
 |none=>some (true,r)
 |some (j,want)=>match (ops[j]?).bind (·.dst)with
  |some d=>match r.tmps.getD d (.tup [])with
   |.tup _=>some (false,r)
   |_=>match boolAt ar r d with
    |some (b,r')=>some (b == want,r')
    |none=>none
  |none=>none
def RS.put (r:RS) (dst:Option Tmp) (v:V) (h:Heap) (ps:List Prop):RS:=
 {r with tmps:=putV r.tmps dst v,heap:=h,obs:=ps++r.obs,
         dec:=match dst with
          |some d=>r.dec.filter (fun x=>!(x.1 == d))
          |none=>r.dec}
def evOp (ar real:Ar) (ti:TypeId→TI) (tbl:Tbl) (al:Nat→Bool) (nm:Nat) (o:Oper) (r:RS) (h:Heap):Option RS:=
 match o.op with
 |.pick (.tmp c) a b=>match boolAt ar r c with
  |some (t,r')=>some (r'.put o.dst (if t then opnd r.tmps a else opnd r.tmps b) h [])
  |none=>none
 |op=>match stepOp ar real ti tbl al nm op r.tmps h with
  |some (v,h',ps)=>some (r.put o.dst v h' ps)
  |none=>none
def padN (hc:FuncId→Bool):Op→Nat
 |.call {callee:=.value (.func f),.. }=>if hc f then 4 else 0
 |op=>if isAlloc op then 1 else 0
def runOps (ar real:Ar) (ti:TypeId→TI) (tbl:Tbl) (ops:Array Oper):List Oper→RS→Option RS
 | [],r=>some r
 |o::rest,r=>match guardAt ar ops r o with
  |none=>none
  |some (false,r)=>runOps ar real ti tbl ops rest (r.put o.dst (.tup []) r.heap [])
  |some (true,r)=>
   match evOp ar real ti tbl (fun _=>true) r.heap.length o r (r.heap++List.replicate (padN tbl.hc o.op) none)with
   |some r'=>runOps ar real ti tbl ops rest r'
   |none=>none
def waits (ops:Array Oper):Array Nat:=Region.before ops
def lab (hc:FuncId→Bool) (tmps:List V):Op→Nat×Nat
 |.load _ x=>match Cof (opnd tmps x)with
  |some (.ptr b _)=>(1,b)
  |some (.dp _ _)=>(0,0)
  |_=>(4,0)
 |.store _ x _=>match Cof (opnd tmps x)with
  |some (.ptr b _)=>(2,b)
  |_=>(4,0)
 |.alloc _|.box .. | .buildSlice .. | .makeSlice ..=>(3,0)
 |.slice _ _ _ _ (some _)=>(3,0)
 |.convert _ _ x=>match Cof (opnd tmps x)with
  |some (.sl b _ _ _)=>(1,b)
  |_=>(0,0)
 |.call {callee:=.value (.func f),.. }=>if hc f then(4,0)else(0,0)
 |.call {callee:=.builtin .append,args:=args,.. }=>match args.toList with
  |x::_=>match Cof (opnd tmps x)with
   |some (.dat _ _ (some t))=>(5,t)
   |some (.sl ..)=>(4,0)
   |_=>(3,0)
  | []=>(3,0)
 |.call {callee:=.builtin .copy,.. }=>(4,0)
 |_=>(0,0)
def okMask (n0:Nat) (l:List Nat):Nat:=(List.range n0).foldl (fun m n=>if l.contains n then m else m ||| 2 ^ n) 0
def labH (hc:FuncId→Bool) (n0:Nat) (h:Heap) (tmps:List V):Op→Nat×Nat
 |.call {callee:=.value (.func f),args:=args,argTypes:=_}=>if hc f then(match argsOf (opnd tmps) args.toList with
  |some l=>(6,okMask n0 (reachA h l))
  |none=>(4,0))else(0,0)
 |op=>lab hc tmps op
def clsOk2:Nat×Nat→Nat×Nat→Bool
 |(0,_),_=>true
 |(3,_),_=>true
 |_,(0,_)=>true
 |_,(3,_)=>true
 |(1,_),(1,_)=>true
 |(1,b),(2,b')=>!(Nat.beq b b')
 |(2,b),(1,b')=>!(Nat.beq b b')
 |(2,b),(2,b')=>!(Nat.beq b b')
 |(1,b),(6,m)|(6,m),(1,b)|(2,b),(6,m)|(6,m),(2,b)=>m.testBit b
 |(1,b),(5,b')|(5,b),(1,b')|(2,b),(5,b')|(5,b),(2,b')|(5,b),(5,b')=>!(Nat.beq b b')
 |_,_=>false
def okEv (w:Nat) (e:Nat×Nat):List (Nat×Nat)→Nat→Bool
 |e'::l,j+1=>(clsOk2 e' e||w.testBit j)&&okEv w e l j
 |_,_=>true
def runDraw (ar real:Ar) (ti:TypeId→TI) (tbl:Tbl) (ops:Array Oper) (ws:Array Nat) (n0:Nat):List (Nat×Nat)→Nat→List Oper→RS→Option RS
 |_,_,[],r=>some r
 |evs,i,o::rest,r=>match guardAt ar ops r o with
  |none=>none
  |some (false,r)=>runDraw ar real ti tbl ops ws n0 ((0,0)::evs) (i+1) rest (r.put o.dst (.tup []) r.heap [])
  |some (true,r)=>if !(okEv (ws.getD i 0) (labH tbl.hc n0 r.heap r.tmps o.op) evs i)then none else
   match evOp ar real ti tbl (fun n=>decide (n<n0)||(ws.getD i 0).testBit (n-n0)) (n0+i) o r r.heap with
   |some r'=>runDraw ar real ti tbl ops ws n0 (labH tbl.hc n0 r.heap r.tmps o.op::evs) (i+1) rest r'
   |none=>none
def calmOp (hc:FuncId→Bool):Op→Bool
 |.store .. | .alloc _|.box .. | .buildSlice .. | .makeSlice ..=>false
 |.slice _ _ _ _ (some _)=>false
 |.call {callee:=.value (.func f),.. }=>!hc f
 |.call {callee:=.builtin .append,.. }=>false
 |.call {callee:=.builtin .copy,.. }=>false
 |_=>true
def runCalm (ar real:Ar) (ti:TypeId→TI) (tbl:Tbl) (ops:Array Oper) (n0:Nat):Nat→List Oper→RS→Option RS
 |_,[],r=>some r
 |i,o::rest,r=>match guardAt ar ops r o with
  |none=>none
  |some (false,r)=>runCalm ar real ti tbl ops n0 (i+1) rest (r.put o.dst (.tup []) r.heap [])
  |some (true,r)=>if Nat.ble (lab tbl.hc r.tmps o.op).1 1 then
    match evOp ar real ti tbl (fun n=>decide (n<n0)) (n0+i) o r r.heap with
    |some r'=>runCalm ar real ti tbl ops n0 (i+1) rest r'
    |none=>none
   else none
def isMem (hc:FuncId→Bool):Op→Bool
 |.call {callee:=.value (.func f),.. }=>hc f
 |_=>false
def pad (hc:FuncId→Bool) (ops:Array Oper) (h:Heap):Heap:=if ops.any (fun o=>isAlloc o.op||isMem hc o.op)then h++List.replicate ops.size none else h
def applyDec:List (Tmp×Bool)→List V→List V
 | [],t=>t
 |(d,h)::rest,t=>applyDec rest (t.set d (.a (.one (.lbool h))))
def runAny (ar real:Ar) (ti:TypeId→TI) (tbl:Tbl) (ops:Array Oper) (c:Cfg):Bool→Option RS
 |true=>if ops.toList.all (fun o=>calmOp tbl.hc o.op)then runCalm ar real ti tbl ops c.heap.length 0 ops.toList ⟨c.tmps,c.heap,[],c.hints,c.obs⟩
  else runDraw ar real ti tbl ops (waits ops) c.heap.length [] 0 ops.toList ⟨c.tmps,pad tbl.hc ops c.heap,[],c.hints,c.obs⟩
 |false=>runOps ar real ti tbl ops ops.toList ⟨c.tmps,c.heap,[],c.hints,c.obs⟩
def runRegion (ar real:Ar) (ti:TypeId→TI) (tbl:Tbl) (ops:Array Oper) (draw:Bool) (c:Cfg):Option Cfg:=
 match runAny ar real ti tbl ops c draw with
 |some r=>some {c with tmps:=applyDec r.dec r.tmps,heap:=r.heap,hints:=r.hints,obs:=r.obs}
 |none=>none
def step (ar real:Ar) (ti:TypeId→TI) (tbl:Tbl) (c:Cfg):Option Cfg:=
 match c.todo with
 | []=>none
 |.code .ret::_=>none
 |.code .skip::k|.code (.label _)::k|.inBlock _::k=>some {c with todo:=k}
 |.code (.seq a b)::k=>some {c with todo:=.code a :: .code b::k}
 |.code (.cond x a b)::k=>match Cof (opnd c.tmps x)with
  |some (.lbool t)=>some {c with todo:=.code (if t then a else b)::k}
  |some (.bool t)=>match c.hints with
   |h::hs=>some {c with todo:=.code (if h then a else b)::k,hints:=hs,obs:=ar.eqb t h::c.obs}
   | []=>none
  |_=>none
 |.code (.block id b)::k=>some {c with todo:=.code b :: .inBlock id::k}
 |.code (.loop b)::k|.inLoop b::k=>some {c with todo:=.code b :: .inLoop b::k}
 |.code (.exit id)::k=>match exitTo id k with
  |some k'=>some {c with todo:=k' }
  |none=>none
 |.code (.region _ ops draw)::k=>match runRegion ar real ti tbl ops draw c with
  |some c'=>some {c' with todo:=k}
  |none=>none
 |_=>none
def isLoop:List Item→Bool
 |.code (.loop _)::_=>true
 |_=>false
def isBack (d:Nat):List Item→Bool
 |.inLoop _::k=>Nat.beq k.length d
 |_=>false
def exec (ar real:Ar) (ti:TypeId→TI) (tbl:Tbl) (d:Nat) (unroll:Bool):Nat→Cfg→Cfg
 |0,c=>c
 |n+1,c=>
  if isBack d c.todo then c
  else if(!unroll&&isLoop c.todo)then c
  else match step ar real ti tbl c with
   |none=>c
   |some c'=>exec ar real ti tbl d unroll n c'
def rbin (op:BinOp) (k:IntKind) (x y:Int):Int:=
 match op with
 |.add=>k.wrap (x+y)
 |.sub=>k.wrap (x-y)
 |.mul=>k.wrap (x*y)
 |.quo=>k.wrap (x.tdiv y)
 |.rem=>x.tmod y
 |.and=>k.wrap ((BitVec.ofInt k.bits x) &&& (BitVec.ofInt k.bits y)).toNat
 |.or=>k.wrap ((BitVec.ofInt k.bits x) ||| (BitVec.ofInt k.bits y)).toNat
 |.xor=>k.wrap ((BitVec.ofInt k.bits x) ^^^ (BitVec.ofInt k.bits y)).toNat
 |.andNot=>k.wrap ((BitVec.ofInt k.bits x) &&& ~~~(BitVec.ofInt k.bits y)).toNat
 |.shl=>k.wrap (x*2 ^ (min y.toNat k.bits))
 |.shr=>x.fdiv (2 ^ (min y.toNat k.bits))
 |_=>0
def rcmp (op:BinOp) (x y:Int):Bool:=
 match op with
 |.eql=>x == y
 |.neq=>x != y
 |.lss=>decide (x<y)
 |.leq=>decide (x≤y)
 |.gtr=>decide (x>y)
 |.geq=>decide (x≥y)
 |_=>false
def run1 (op:UnOp) (k:IntKind) (n:Int):Int:=
 match op with
 |.neg=>k.wrap (0-n)
 |.xor=>k.wrap ((BitVec.ofInt k.bits (if k.signed then -1 else k.max)) ^^^ (BitVec.ofInt k.bits n)).toNat
 |_=>0
def updF (f:Nat→Int) (i:Nat) (x:Int):Nat→Int:=fun j=>if j=i then x else f j
def shfF (f:Nat→Int) (o:Nat):Nat→Int:=fun j=>f (o+j)
def blitF (f:Nat→Int) (o n:Nat) (g:Nat→Int):Nat→Int:=fun j=>if o≤j∧j<o+n then g (j-o)else f j
def nrmD:Sh→D→D
 |.int _,d=>.int d.int!
 |.bool,d=>.bool d.bool!
 |.str,d=>.str d.str!
 |.arr _ m,d=>.row ((List.range m).map fun j=>d.row!.getD j 0)
 |.two a b,d=>.pair (nrmD a d.fst!) (nrmD b d.snd!)
 |.sl _,d=>.sl d.sl!
def arR:Ar where
 bin:=rbin
 cmp:=rcmp
 un:=run1
 conv k n:=k.wrap n
 bnot b:=!b
 beq a b:=a == b
 upd:=updF
 shf:=shfF
 blit:=blitF
 idx o i s:=o+i.toNat*s
 lEq a b:=a == b
 inb i n:=0≤i∧i<n
 le0 i n:=0≤i∧i≤n
 sof o c l s:=if c=l.toNat then o else o+l.toNat*s
 sub a l:=a-l.toNat
 tn x:=x.toNat
 mn x y:=if y<x then y else x
 mx x y:=if y>x then y else x
 sx s l h:=s.extract l h
 sz s:=s.size
 sb s i:=(s[i]?.getD 0).toNat
 sEq a b:=a.toList == b.toList
 sLt a b:=Op.bytesLess a.toList b.toList
 scat a b:=a++b
 sfit a b:=((a.size+b.size:Nat):Int)≤9223372036854775807
 leN a b:=a≤b
 nz i:=i≠0
 nneg i:=0≤i
 eqb a b:=a=b
 dInt:=D.int!
 dBool:=D.bool!
 dStr:=D.str!
 dRow d j:=d.row!.getD j 0
 dRowAt d j:=.int (d.row!.getD j 0)
 dSl:=D.sl!
 dFst:=D.fst!
 dSnd:=D.snd!
 dLen:=List.length
 dAt xs i:=xs.getD i (.int 0)
 dCut xs l h:=(xs.take h).drop l
 dCat xs ys:=xs++ys
 dMk m f:=(List.range m).map f
 dNrm:=nrmD
 dTxt xs:=⟨(xs.map fun d=>UInt8.ofNat d.int!.toNat).toArray⟩
 dByt s:=s.data.toList.map fun b=>.int b.toNat
 dFit xs ys b:=xs.length+ys.length≤maxLen∧(xs.length+ys.length)*b≤140737488355328
 txt f n:=⟨((List.range n).map fun j=>UInt8.ofNat (f j).toNat).toArray⟩
 dHead xs n:=.row ((xs.take n).map D.int!)
 dOf f n:=(List.range n).map fun j=>.int (f j)
 fitN n ys b:=n+ys.length≤maxLen∧(n+ys.length)*b≤140737488355328
 mkOk l c b:=0≤l∧l≤c∧(b:Int)*c≤281474976710656∧c≤9223372036854775807
 le2 a b c:=a+b≤c
 dNil xs:=xs=[]
 dUpd f i d j:=if j=i then d else f j
 allB l:=l.all id
 sAt l i:=l.getD i .empty
 ovr f s j:=if j<s.size then((s[j]?).getD 0).toNat else f j
 dEls d:=d.row!.map .int
theorem updN_eq (f:Nat→Int) (i:N) (x:Int):updN arR f i x=updF f i.val x:=by cases i<;>rfl
theorem shfN_eq (f:Nat→Int) (o:N):shfN arR f o=shfF f o.val:=by cases o<;>rfl
def one1:Value→Bool
 |.agg _|.tuple _=>false
 |_=>true
structure Ren where
 f:Nat→Option (Nat×Nat)
 z:Nat→Nat→Option Value
 z0:Nat→Nat→Option Value
 room:Nat→Nat
 vd:Nat→Bool
 y:Nat→Option (Nat×Nat)
instance:CoeFun Ren (fun _=>Nat→Option (Nat×Nat)):=⟨Ren.f⟩
def Ren.bare (ρ:Ren):Ren:={ρ with f:=fun _=>none}
def Ren.none (z:Nat→Nat→Option Value):Ren:=⟨fun _=>Option.none,z,z,fun _=>0,fun _=>false,fun _=>Option.none⟩
def SRel (z:Nat→Nat→Option Value):Sh→D→(Nat→Option Value)→Prop
 |.int k,d,g=>∃n,d=.int n∧g 0=some (.int k n)
 |.bool,d,g=>∃b,d=.bool b∧g 0=some (.bool b)
 |.str,d,g=>∃s,d=.str s∧g 0=some (.string s)
 |.arr k m,d,g=>∃l,d=.row l∧l.length=m∧∀(j:Nat) x,l[j]? = some x→g j=some (.int k x)
 |.two a b,d,g=>∃x y,d=.pair x y∧SRel z a x g∧SRel z b y (fun j=>g (a.width+j))
 |.sl s,d,g=>∃l v,d=.sl l∧g 0=some v∧((v=.slice Option.none 0 0∧l=[])∨∃r o len cap,v=.slice (some ⟨r,o,Option.none⟩) len cap∧l.length=len∧len≤cap∧∀(i:Nat) x,l[i]? = some x→SRel z s x (fun j=>z r (o+i*s.width+j)))
def CRel (ρ:Ren):C→Value→Prop
 |.int k n,v=>v=.int k n
 |.lit k n,v=>v=.int k n
 |.bool b,v=>v=.bool b
 |.lbool b,v=>v=.bool b
 |.str s,v=>v=.string s
 |.ptr b off,v=>∃r o,ρ b=some (r,o)∧v=.pointer (some ⟨r,o+off.val,none⟩)
 |.nil,v=>v=.pointer none
 |.sl b off len cap,v=>∃r o,ρ b=some (r,o)∧v=.slice (some ⟨r,o+off.val,none⟩) len.val cap.val
 |.nsl,v=>v=.slice none 0 0
 |.raw u,v=>v=u∧one1 u=true
 |.dat s xs tok,v=>(v=.slice Option.none 0 0∧xs=[])∨∃r o len cap,v=.slice (some ⟨r,o,Option.none⟩) len cap∧xs.length=len∧len≤cap∧(∀(i:Nat) x,xs[i]? = some x→SRel ρ.z s x (fun j=>ρ.z r (o+i*s.width+j))) ∧
   ∀t,tok=some t→len=cap∨ρ t=some (r,o+len*s.width)∧(cap-len)*s.width≤ρ.room t
 |.dp s d,v=>∃r o,v=.pointer (some ⟨r,o,Option.none⟩)∧SRel ρ.z s d (fun j=>ρ.z r (o+j))
 |.tri p q,v=>∃b,v=.bool b∧(b=true→p)∧(b=false→q)
 |.adr b T,v=>∃r,ρ b=some (r,0)∧ρ.y r=some (T,2)∧(v=.pointer Option.none∨v=.pointer (some ⟨r,0,Option.none⟩))
 |.bf s t e,v=>(v=.slice Option.none 0 0∧s.size=0)∨∃r len cap n,v=.slice (some ⟨r,0,Option.none⟩) len cap∧ρ.y r=some (e,n)∧cap≤n∧s.size=len∧(0<len∧len≤cap)∧(∀(i:Nat) x,s.data.toList[i]? = some x→ρ.z r i=some (.int .u8 x.toNat))∧ρ t=some (r,len)∧cap-len≤ρ.room t
def G.at:G→Nat→Option C
 |.lst cs,j=>cs[j]?
 |.ints k n f,j=>if j<n.val then some (.int k (f j))else none
 |.col s n f,j=>if j<n.val then some (colC arR s (f j))else none
 |.prt ps,j=>(cellsP arR ps)[j]?
 |.tail,_|.dead,_=>none
def G.len:G→Nat
 |.lst cs=>cs.length
 |.ints _ n _=>n.val
 |.col _ n _=>n.val
 |.prt ps=>(cellsP arR ps).length
 |.tail|.dead=>0
def GRel (ρ:Ren) (g:G) (arr:Array Value):Prop:=
 arr.size=g.len∧∀(j:Nat) (x:C),g.at j=some x→∃v:Value,arr[j]? = some v∧CRel ρ x v
def ARel (ρ:Ren):A→Value→Prop
 |.one c,v=>CRel ρ c v
 |.agg g,v=>∃arr,v=.agg arr∧GRel ρ g arr
def VRel (ρ:Ren):V→Value→Prop
 |.a x,v=>ARel ρ x v
 |.tup xs,v=>∃arr:Array Value,v=.tuple arr∧arr.size=xs.length∧∀(j:Nat) (x:A),xs[j]? = some x→∃u:Value,arr[j]? = some u∧ARel ρ x u
 |.z,_=>True
def TRel (ρ:Ren) (tmps:List V) (arr:Array Value):Prop:=
 arr.size=tmps.length∧∀(j:Nat) (x:V),tmps[j]? = some x→∃v:Value,arr[j]? = some v∧VRel ρ x v
def BRel (ρ:Ren) (b:Blk) (r o:Nat) (w:World):Prop:=
 ∃c ty fz,w.heap[r]? = some (.cells c ty fz)∧(b.ro=false→fz=(0,0)) ∧
  ∀(j:Nat) (x:C),b.g.at j=some x→∃v:Value,c[o+j]? = some v∧CRel ρ x v
def ZOk (z:Nat→Nat→Option Value) (w:World):Prop:=∀r i v,z r i=some v→∃c ty fz,w.heap[r]? = some (.cells c ty fz)∧c[i]? = some v
def Owned (m0:Nat) (ρ:Ren) (h:Heap) (r:Nat):Prop:=∃(n:Nat) (b:Blk) (o:Nat),n<m0∧h[n]? = some (some b)∧(b.ro=false∨b.g=G.dead)∧ρ n=some (r,o)
structure HRel (W0:World) (m0:Nat) (ρ:Ren) (h:Heap) (w:World):Prop where
 os:w.os=W0.os
 tape:w.tape=W0.tape
 output:w.output=W0.output
 size:W0.heap.size≤w.heap.size
 frame:∀k,k<W0.heap.size→¬Owned m0 ρ h k→w.heap[k]? = W0.heap[k]?
 dom:∀n p,ρ n=some p→∃b,h[n]? = some (some b)
 blk:∀n b,h[n]? = some (some b)→b.g.cells=true→∃r o,ρ n=some (r,o)∧BRel ρ b r o w
 sep:∀n m r o o' b b',n≠m→h[n]? = some (some b)→b.ro=false→h[m]? = some (some b')→b'.g≠.dead→ρ n=some (r,o)→ρ m=some (r,o')→False
 new:∀n r o,m0≤n→ρ n=some (r,o)→W0.heap.size≤r∨Owned m0 ρ h r
 low:∀n r o,ρ n=some (r,o)→r<w.heap.size
 tails:∀n b,h[n]? = some (some b)→b.g=.tail→b.ro=false∧∀r o,ρ n=some (r,o)→∃c ty,w.heap[r]? = some (.cells c ty (0,0))∧o+ρ.room n≤c.size
 deadRo:∀(n:Nat) (b:Blk),h[n]? = some (some b)→b.g=G.dead→b.ro=true
 vd1:∀n,ρ.vd n=true→ρ n=Option.none∧∃b,h[n]? = some (some b)
 vd2:∀n b,h[n]? = some (some b)→ρ n=Option.none→ρ.vd n=true
 zok:ZOk ρ.z w
 zsep:∀n b r o i,h[n]? = some (some b)→b.ro=false→ρ n=some (r,o)→(b.g=.tail→o≤i)→ρ.z r i=Option.none
 zold:∀r i v,ρ.z r i=some v→r<W0.heap.size→ρ.z0 r i=some v∨Owned m0 ρ h r
 yok:∀r T n,ρ.y r=some (T,n)→∃c fz,w.heap[r]? = some (.cells c T fz)∧c.size=n
structure Sub (ρ ρ':Ren):Prop where
 f:∀n p,ρ n=some p→ρ' n=some p∧ρ'.room n=ρ.room n
 z:∀r i v,ρ.z r i=some v→ρ'.z r i=some v
 vd:∀n,ρ.vd n=true→ρ'.vd n=true
 y:∀r p,ρ.y r=some p→ρ'.y r=some p
structure Ext (ρ ρ':Ren):Prop extends Sub ρ ρ' where
 z0:ρ'.z0=ρ.z0
theorem Sub.refl (ρ:Ren):Sub ρ ρ:=⟨fun _ _ h=>⟨h,rfl⟩,fun _ _ _ h=>h,fun _ h=>h,fun _ _ h=>h⟩
theorem Sub.empty (ρ:Ren):Sub (Ren.none fun _ _=>Option.none) ρ:=⟨fun _ _ h=>(by cases h),fun _ _ _ h=>(by cases h),fun _ h=>(by cases h),fun _ _ h=>(by cases h)⟩
theorem Ext.refl (ρ:Ren):Ext ρ ρ:=⟨.refl ρ,rfl⟩
theorem Sub.trans {a b c:Ren}(h:Sub a b) (k:Sub b c):Sub a c:=⟨fun n p x=>⟨(k.f n p (h.f n p x).1).1,((k.f n p (h.f n p x).1).2).trans (h.f n p x).2⟩,fun r i v x=>k.z r i v (h.z r i v x),fun n x=>k.vd n (h.vd n x),fun r p x=>k.y r p (h.y r p x)⟩
theorem Ext.trans {a b c:Ren}(h:Ext a b) (k:Ext b c):Ext a c:=⟨h.toSub.trans k.toSub,k.z0.trans h.z0⟩
instance {ρ ρ':Ren}:Coe (Ext ρ ρ') (Sub ρ ρ'):=⟨Ext.toSub⟩
theorem SRel.mono {z z':Nat→Nat→Option Value}(hz:∀r i v,z r i=some v→z' r i=some v):∀{s:Sh}{d:D} {g g':Nat→Option Value},SRel z s d g→(∀j,j<s.width→∀v,g j=some v→g' j=some v)→SRel z' s d g'
 |.int k,d,g,g',⟨n,e,h⟩,hg=>⟨n,e,hg 0 Nat.one_pos _ h⟩
 |.bool,d,g,g',⟨n,e,h⟩,hg=>⟨n,e,hg 0 Nat.one_pos _ h⟩
 |.str,d,g,g',⟨n,e,h⟩,hg=>⟨n,e,hg 0 Nat.one_pos _ h⟩
 |.arr k m,d,g,g',⟨l,e,hl,h⟩,hg=>⟨l,e,hl,fun j x hx=>hg j (by
   have:=(ges hx).1
   show j<m
   omega) _ (h j x hx)⟩
 |.two a b,d,g,g',⟨x,y,e,h1,h2⟩,hg=>⟨x,y,e,h1.mono hz (fun j hj=>hg j (by show j<a.width+b.width;omega)),h2.mono hz (fun j hj v hv=>hg (a.width+j) (by show a.width+j<a.width+b.width;omega) v hv)⟩
 |.sl s,d,g,g',⟨l,v,e,h,hv⟩,hg=>⟨l,v,e,hg 0 Nat.one_pos _ h,by
   rcases hv with hv|⟨r,o,len,cap,e1,e2,e3,e4⟩
   ·exact .inl hv
   ·exact .inr ⟨r,o,len,cap,e1,e2,e3,fun i x hx=>(e4 i x hx).mono hz (fun j _ v hv=>hz _ _ _ hv)⟩⟩
theorem CRel.ext {ρ ρ':Ren}(h:Sub ρ ρ'){c:C}{v:Value}(hc:CRel ρ c v):CRel ρ' c v:=by
 cases c<;>simp only[CRel]at hc ⊢<;>try exact hc
 case ptr=>obtain⟨r,o,h1,h2⟩:=hc;exact⟨r,o,(h.f _ _ h1).1,h2⟩
 case sl=>obtain⟨r,o,h1,h2⟩:=hc;exact⟨r,o,(h.f _ _ h1).1,h2⟩
 case dat s xs tok=>
  rcases hc with hc|⟨r,o,len,cap,e1,e2,e3,e4,e5⟩
  ·exact .inl hc
  ·refine .inr ⟨r,o,len,cap,e1,e2,e3,fun i x hx=>(e4 i x hx).mono h.z (fun j _ v hv=>h.z _ _ _ hv),fun t ht=>?_⟩
   rcases e5 t ht with e|⟨a,b⟩
   ·exact .inl e
   ·obtain⟨c,d⟩:=h.f _ _ a
    exact .inr ⟨c,by rw[d];exact b⟩
 case dp s d=>
  obtain⟨r,o,e1,e2⟩:=hc
  exact⟨r,o,e1,e2.mono h.z (fun j _ v hv=>h.z _ _ _ hv)⟩
 case adr b T=>
  obtain⟨r,e1,e2,e3⟩:=hc
  exact⟨r,(h.f _ _ e1).1,h.y _ _ e2,e3⟩
 case bf s t e=>
  rcases hc with hc|⟨r,len,cap,n,e1,e2,e3,e4,e5,e6,e7⟩
  ·exact .inl hc
  ·refine .inr ⟨r,len,cap,n,e1,h.y _ _ e2,e3,e4,e5,fun i x hx=>h.z _ _ _ (e6 i x hx),?_⟩
   obtain⟨a,b⟩:=e7
   obtain⟨c,d⟩:=h.f _ _ a
   exact⟨c,by rw[d];exact b⟩
theorem GRel.ext {ρ ρ':Ren}(h:Sub ρ ρ'){g:G}{v:Array Value}(hc:GRel ρ g v):GRel ρ' g v:=
 ⟨hc.1,fun j x hx=>let ⟨u,h1,h2⟩:=hc.2 j x hx;⟨u,h1,h2.ext h⟩⟩
theorem ARel.ext {ρ ρ':Ren}(h:Sub ρ ρ'){c:A}{v:Value}(hc:ARel ρ c v):ARel ρ' c v:=by
 cases c with
 |one c=>exact CRel.ext h hc
 |agg g=>obtain⟨arr,h1,h2⟩:=hc;exact⟨arr,h1,h2.ext h⟩
theorem VRel.ext {ρ ρ':Ren}(h:Sub ρ ρ'){c:V}{v:Value}(hc:VRel ρ c v):VRel ρ' c v:=by
 cases c with
 |a c=>exact ARel.ext h hc
 |tup xs=>obtain⟨arr,h1,h2,h3⟩:=hc;exact⟨arr,h1,h2,fun j x hx=>let ⟨u,a,b⟩:=h3 j x hx;⟨u,a,b.ext h⟩⟩
 |z=>exact True.intro
theorem TRel.ext {ρ ρ':Ren}(h:Sub ρ ρ'){t:List V}{v:Array Value}(hc:TRel ρ t v):TRel ρ' t v:=
 ⟨hc.1,fun j x hx=>let ⟨u,h1,h2⟩:=hc.2 j x hx;⟨u,h1,h2.ext h⟩⟩
theorem CRel.isOne {ρ:Ren}{c:C}{v:Value}(h:CRel ρ c v):one1 v=true:=by
 cases c<;>simp only[CRel]at h
 case ptr=>obtain⟨r,o,_,rfl⟩:=h;rfl
 case sl=>obtain⟨r,o,_,rfl⟩:=h;rfl
 case raw=>rw[h.1];exact h.2
 case dat=>
  rcases h with ⟨rfl,-⟩|⟨r,o,len,cap,rfl,-⟩<;>rfl
 case dp=>obtain⟨r,o,rfl,-⟩:=h;rfl
 case tri=>obtain⟨b,rfl,-⟩:=h;rfl
 case adr=>obtain⟨r,-,-,rfl|rfl⟩:=h<;>rfl
 case bf=>rcases h with ⟨rfl,-⟩|⟨r,len,cap,n,rfl,-⟩<;>rfl
 all_goals(subst h;rfl)
theorem CRel.cells {ρ:Ren}{c:C}{v:Value}(h:CRel ρ c v):v.cells = #[v]:=by
 have:=h.isOne
 cases v<;>simp_all[one1,Value.cells]
theorem CRel.of_num {ρ:Ren}{c:C}{v:Value}{k:IntKind}{n:Int}{l:Bool}(h:CRel ρ c v) (hn:c.num? = some (k,n,l)):v=.int k n:=by
 cases c<;>simp only[C.num?]at hn<;>first|(obtain⟨rfl,rfl,rfl⟩:=hn;exact h)|cases hn
theorem kindEq_eq {a b:IntKind}(h:kindEq a b=true):a=b:=by
 cases a<;>cases b<;>first|rfl|cases h
theorem VRel.opnd {ρ:Ren}{t:List V}{arr:Array Value}(h:TRel ρ t arr) (x:Operand) (a:Act) (ha:a.tmps=arr):VRel ρ (opnd t x) (a.eval x):=by
 cases x with
 |tmp i=>
  simp only[Go.Eng.opnd,Act.eval,ha]
  cases hx:t[i]? with
  |none=>
   have:arr[i]? = none:=by
    have:=List.getElem?_eq_none_iff.1 hx
    rw[Array.getElem?_eq_none_iff];rw[h.1];exact this
   simp only[List.getD_eq_getElem?_getD,hx,Option.getD_none,Array.getD_eq_getD_getElem?,this,undef]
   exact⟨#[],rfl,rfl,fun j x hj=>by simp at hj⟩
  |some v=>
   obtain⟨u,h1,h2⟩:=h.2 i v hx
   simp only[List.getD_eq_getElem?_getD,hx,Option.getD_some,Array.getD_eq_getD_getElem?,h1]
   exact h2
 |const v=>
  simp only[Act.eval,Go.Eng.opnd]
  unfold constV
  split<;>simp_all[VRel,ARel,CRel]
 |global g=>exact True.intro
 |func f=>exact True.intro
def TDRel:TypeDesc→TD→Prop
 |.int k,.int k'=>k=k'
 |.slice e,.slice e'=>e=e'
 |.array n e,.arr n' e'=>n=n'∧e=e'
 |.struct fs,.strct l=>fs.toList.map (fun f=>(f.offset,f.type))=l
 |.bool,.bool=>True
 |.string,.str=>True
 |.pointer e,.ptr e'=>e=e'
 |_,.other=>True
 |_,_=>False
def aggOf:TypeDesc→Bool
 |.struct _|.array _ _=>true
 |_=>false
structure TOk (P:Program) (t:TypeId) (x:TI):Prop where
 info:∃i,P.info? t=some i∧i.size=x.size∧i.bytes=x.bytes∧∀z,x.zero=some z→∃v,i.zero=some v∧ARel (Ren.none fun _ _=>Option.none) z v
 und:∃d,P.underlying t=some d∧TDRel d x.td∧x.agg=aggOf d
 fields:∀fs,P.underlying t=some (.struct fs)→∀f∈fs,∃i,P.info? f.type=some i
 plain:x.plain=true→P.eqGuardType P.depth t=false
 zsz:∀i v,P.info? t=some i→i.zero=some v→v.cells.size=i.size
 eqs:x.eqs=true→P.stoodInHeld t=false∧∀f∈P.fieldsOf t,f.name≠"_"
def TIok (P:Program) (ti:TypeId→TI):Prop:=∀t,(ti t).known=true→TOk P t (ti t)
theorem Cof_rel {ρ:Ren}{v:V}{u:Value}{c:C}(h:VRel ρ v u) (hc:Cof v=some c):CRel ρ c u:=by
 unfold Cof at hc
 split at hc
 ·cases hc;exact h
 ·cases hc
theorem Aof_rel {ρ:Ren}{v:V}{u:Value}{c:A}(h:VRel ρ v u) (hc:Aof v=some c):ARel ρ c u:=by
 unfold Aof at hc
 split at hc
 ·cases hc;exact h
 ·cases hc
section
variable {P:Program}{ρ:Ren}
theorem run_underlying {t:TypeId}{d:TypeDesc}(h:P.underlying t=some d) (w:World):(underlying t).run P w=.ok d w:=by
 simp[underlying,program,Sem.run,h]
theorem run_typeInfo {t:TypeId}{i:TypeInfo}(h:P.info? t=some i) (w:World):(typeInfo t).run P w=.ok i w:=by
 simp[typeInfo,program,Sem.run,h]
theorem run_sizeOf {t:TypeId}{i:TypeInfo}(h:P.info? t=some i) (w:World):(sizeOf t).run P w=.ok i.size w:=by
 simp[sizeOf,run_typeInfo h]
theorem run_isAgg {t:TypeId}{d:TypeDesc}(h:P.underlying t=some d) (w:World):(isAgg t).run P w=.ok (aggOf d) w:=by
 simp[isAgg,srb,run_underlying h]
 cases d<;>simp[aggOf]
def Res (r:Result Next) (v:Value) (w':World):Prop:=r=.ok (.value v) w'∨(r=.ok .skip w'∧v=undef)
def Pur (P:Program) (ρ:Ren) (s:Sem Next) (v:V):Prop:=∀w,ZOk ρ.z w→∃v',s.run P w=.ok (.value v') w∧VRel ρ v v'
theorem Pur.of {s:Sem Next}{v:V} {v':Value}(h:∀w,s.run P w=.ok (.value v') w) (hv:VRel ρ v v'):Pur P ρ s v:=fun w _=>⟨v',h w,hv⟩
theorem ok_inv {v u:V}{qs:List Prop}(h:ok v=some (.val u,qs)):u=v:=by
 simp only[ok,sie,po,Plan.val.injEq]at h;exact h.1.symm
theorem pur_bin {op:BinOp} {T T':TypeId}{x y:C}{a b:Value}{v:V}{qs:List Prop}{X Y:Operand}{ev:Operand→Value}{o:Oper}
 (ho:o.op=.binOp op T X Y T') (ha:ev X=a) (hb:ev Y=b) (hx:CRel ρ x a) (hy:CRel ρ y b)
 (hp:planBin arR arR op x y=some (.val v,qs)) (hq:∀q∈qs,q):Pur P ρ (execOp ev o) v:=by
 subst ha hb
 unfold planBin at hp
 split at hp
 ·rename_i k n la k' m lb hn hm
  have e1:=hx.of_num hn
  have e2:=hy.of_num hm
  have hl:∀(l:Bool) (op:BinOp),VRel ρ (binInt arR op k n m l arR) (.int k (rbin op k n m)):=by
   intro l op;cases l<;>rfl
  have hc:∀(l:Bool) (op:BinOp),VRel ρ (cmpInt arR op n m l arR) (.bool (rcmp op n m)):=by
   intro l op;cases l<;>rfl
  have hg:∀w,(eqGuard op T X Y (ev X) (ev Y)).run P w=.ok () w:=by
   intro w;rw[e1,e2];cases op<;>simp[eqGuard,srp]
  have key:∀u,(∀w,(binOp op T (ev X) (ev Y)).run P w=.ok u w)→VRel ρ v u→Pur P ρ (execOp ev o) v:=by
   intro u hu hv
   refine .of (v':=u) (fun w=>?_) hv
   simp[execOp,ho,srb,hg,hu]
  split at hp
  ·
   split at hp
   ·split at hp
    ·cases hp
    ·rename_i hb
     obtain rfl:=ok_inv hp
     refine key _ (fun w=>?_) (hl _ _)
     rw[e1,e2];simp[binOp,Op.shift,hb,rbin,srp]
   ·simp only[sie,po,Plan.val.injEq]at hp
    obtain⟨rfl,rfl⟩:=hp
    have hb:¬m<0:=by have:(0:Int)≤m:=hq (arR.nneg m) (by simp);omega
    refine key _ (fun w=>?_) (hl _ _)
    rw[e1,e2];simp[binOp,Op.shift,hb,rbin,srp]
  ·split at hp
   ·split at hp
    ·cases hp
    ·rename_i hb
     obtain rfl:=ok_inv hp
     refine key _ (fun w=>?_) (hl _ _)
     rw[e1,e2];simp[binOp,Op.shift,hb,rbin,srp]
   ·simp only[sie,po,Plan.val.injEq]at hp
    obtain⟨rfl,rfl⟩:=hp
    have hb:¬m<0:=by have:(0:Int)≤m:=hq (arR.nneg m) (by simp);omega
    refine key _ (fun w=>?_) (hl _ _)
    rw[e1,e2];simp[binOp,Op.shift,hb,rbin,srp]
  ·split at hp
   ·rename_i hk
    have hk:=kindEq_eq hk
    subst hk
    split at hp
    case h_8|h_9=>
     split at hp
     ·split at hp
      ·cases hp
      ·rename_i hb
       obtain rfl:=ok_inv hp
       refine key _ (fun w=>?_) (hl _ _)
       rw[e1,e2];simp[binOp,Op.intDiv,hb,rbin,srp]
     ·simp only[sie,po,Plan.val.injEq]at hp
      obtain⟨rfl,rfl⟩:=hp
      have hb:¬m=0:=hq (arR.nz m) (by simp)
      refine key _ (fun w=>?_) (hl _ _)
      rw[e1,e2];simp[binOp,Op.intDiv,hb,rbin,srp]
    case h_10 n1 n2 n3 n4 n5 n6 n7 n8 n9=>
     obtain rfl:=ok_inv hp
     refine key _ (fun w=>?_) (hc _ _)
     rw[e1,e2]
     cases op<;>simp_all[binOp,Op.intCmp,rcmp,srp]
    all_goals
     obtain rfl:=ok_inv hp
     refine key _ (fun w=>?_) (hl _ _)
     rw[e1,e2];simp[binOp,Op.intArith,Op.intBits,rbin,srp]
   ·cases hp
 ·cases hp
end
section
variable {P:Program}{ρ:Ren}
theorem VRel.one {c:C}{u:Value}:VRel ρ (.a (.one c)) u=CRel ρ c u:=rfl
theorem VRel.agg {g:G}{u:Value}:VRel ρ (.a (.agg g)) u = ∃arr,u=.agg arr∧GRel ρ g arr:=rfl
theorem equal_eq (t:TypeId) (a b:Value):∃d,Op.equal t a b=Op.equalIn (d+1) t a b:=⟨9999,rfl⟩
theorem run_planEq {ti:TI}{t:TypeId}(hti:ti.known=true→TOk P t ti) {x y c:C}{a b:Value}(hx:CRel ρ x a) (hy:CRel ρ y b) (hp:planEq arR ti x y=some c) (w:World):
 ∃r:Bool,(Op.equal t a b).run P w=.ok r w∧CRel ρ c (.bool r)∧CRel ρ (c.neg arR) (.bool (!r))∧(∀op X Y,(eqGuard op t X Y a b).run P w=.ok () w) ∧
  binOp .eql t a b=(do pure (.bool (←Op.equal t a b)))∧binOp .neq t a b=(do pure (.bool (!(←Op.equal t a b)))):=by
 unfold planEq at hp
 split at hp
 ·cases hp
 ·rename_i hk
  have hk:ti.known=true:=by simpa using hk
  obtain⟨d,hd,htd,_⟩:=(hti hk).und
  obtain⟨D,hD⟩:=equal_eq t a b
  rw[hD]
  split at hp
  all_goals(rename_i htt)
  all_goals(first|(simp only[sie]at hp;subst hp)|cases hp)
  all_goals(rw[htt]at htd;cases d<;>simp only[TDRel]at htd)
  all_goals(simp only[CRel]at hx hy)
  all_goals(try(rcases(show _∨_ from hx)with ⟨rfl,hnil⟩|⟨r,o,len,cap,rfl,-⟩))
  all_goals(try(obtain⟨r,o,-,rfl⟩:=hx))
  all_goals(try(obtain⟨r',o',-,rfl⟩:=hy))
  all_goals(try subst hx)
  all_goals(try subst hy)
  all_goals
   refine⟨_,by simp[Op.equalIn,srb,Go.Eng.run_underlying hd,srp];rfl,?_,?_,?_,?_⟩
  all_goals first
   |(intro op X Y;cases op<;>simp[eqGuard,srp])
   |(simp only[←hD];exact⟨by simp[binOp],by simp[binOp]⟩)
   |(simp[CRel,C.neg,arR];done)
   |(simp only[CRel,C.neg,arR];exact⟨_,rfl,fun _=>hnil,fun _=>trivial⟩)
   |(simp only[CRel,C.neg,arR];exact⟨_,rfl,fun _=>trivial,fun _=>hnil⟩)
   |(simp only[CRel,C.neg,arR];exact⟨_,rfl,fun h=>(by cases h),fun _=>trivial⟩)
   |(simp only[CRel,C.neg,arR];exact⟨_,rfl,fun _=>trivial,fun h=>(by cases h)⟩)
theorem mapM_some_length {α β:Type}{f:α→Option β}:∀{l:List α}{r:List β},l.mapM f=some r→r.length=l.length
 | [],r,h=>by simp at h;subst h;rfl
 |x::l,r,h=>by
  simp only[List.mapM_cons,Option.bind_eq_bind,Option.pure_def]at h
  cases hx:f x with
  |none=>simp[hx]at h
  |some y=>
   cases hl:l.mapM f with
   |none=>simp[hx,hl]at h
   |some ys=>
    simp[hx,hl]at h
    subst h
    simp[mapM_some_length hl]
theorem mapM_some_get {α β:Type}{f:α→Option β}:∀{l:List α}{r:List β},l.mapM f=some r→∀(j:Nat) x,l[j]? = some x→∃y,f x=some y∧r[j]? = some y
 | [],r,h,j,x,hj=>by simp at hj
 |a::l,r,h,j,x,hj=>by
  simp only[List.mapM_cons,Option.bind_eq_bind,Option.pure_def]at h
  cases hx:f a with
  |none=>simp[hx]at h
  |some y=>
   cases hl:l.mapM f with
   |none=>simp[hx,hl]at h
   |some ys=>
    simp[hx,hl]at h
    subst h
    cases j with
    |zero=>simp at hj;subst hj;exact⟨y,hx,by simp⟩
    |succ j=>simpa using mapM_some_get hl j x (by simpa using hj)
theorem numsOf_rel {k:IntKind}{g:G}{l:List Int}{arr:Array Value}(hg:GRel ρ g arr) (h:g.numsOf k=some l):
 arr.size=l.length∧∀(j:Nat) n,l[j]? = some n→arr[j]? = some (.int k n):=by
 unfold G.numsOf at h
 split at h
 ·rename_i cs
  have hl:=mapM_some_length h
  refine⟨by rw[hg.1];exact hl.symm,fun j n hj=>?_⟩
  have hjl:j<cs.length:=by
   have:=(ges hj).1;omega
  obtain⟨y,hy,hr⟩:=mapM_some_get h j cs[j] (geg hjl)
  obtain⟨v,hv,hc⟩:=hg.2 j cs[j] (geg hjl)
  split at hy
  ·rename_i k' n' l' hnum
   split at hy
   ·rename_i hk
    have:=kindEq_eq hk
    subst this
    simp only[sie]at hy
    subst hy
    rw[hr]at hj
    simp only[sie]at hj
    subst hj
    rw[hv,hc.of_num hnum]
   ·cases hy
  ·cases hy
 ·rename_i k' n f
  split at h
  ·rename_i hk
   have:=kindEq_eq hk
   subst this
   simp only[sie]at h
   subst h
   refine⟨by rw[hg.1];simp[G.len,N.val],fun j m hj=>?_⟩
   have hjn:j<n:=by
    have:=(ges hj).1;simpa using this
   obtain⟨v,hv,hc⟩:=hg.2 j (.int k (f j)) (by simp[G.at,N.val,hjn])
   simp[hjn]at hj
   subst hj
   rw[hv,show v=.int k (f j)from hc]
  ·cases h
 ·cases h
 ·cases h
 ·cases h
 ·cases h
 ·cases h
theorem run_part_int {e:TypeId}{d:TypeDesc}(hd:P.underlying e=some d) (ha:aggOf d=false){arr:Array Value}{j:Nat}{v:Value}(h:arr[j]? = some v) (w:World):(part e arr j).run P w=.ok v w:=by
 simp[part,srb,run_isAgg hd,ha,h,srp]
theorem run_equalIn_ints {t e:TypeId}{k:IntKind}{n:Nat}{i:TypeInfo}(ht:P.underlying t=some (.array n e)) (he:P.underlying e=some (.int k)) (hi:P.info? e=some i) (hs:i.size=1)
 {xs ys:Array Value} {l l':List Int}(hx:∀(j:Nat) n,l[j]? = some n→xs[j]? = some (.int k n)) (hy:∀(j:Nat) n,l'[j]? = some n→ys[j]? = some (.int k n))
 (hl:l.length=n) (hl':l'.length=n) (w:World) (D:Nat):(Op.equalIn (D+1+1) t (.agg xs) (.agg ys)).run P w=.ok (l == l') w:=by
 rw[Op.equalIn]
 simp only[srb,Go.Eng.run_underlying ht,Result.andThen_ok,run_sizeOf hi,hs,Nat.mul_one]
 simp only[Std.Legacy.Range.forIn_eq_forIn_range',Std.Legacy.Range.size,Nat.sub_zero,Nat.add_one_sub_one,Nat.div_one]
 have key:∀(m s:Nat) (a b:List Int),a.length=m→b.length=m→(∀(j:Nat) n,a[j]? = some n→xs[s+j]? = some (.int k n))→(∀(j:Nat) n,b[j]? = some n→ys[s+j]? = some (.int k n)) →
  ∃st:Option Bool×Unit,(forIn (m:=Sem) (List.range' s m) ((none,()):Option Bool×Unit) fun i _=>do
   let x ←part e xs i
   let y ←part e ys i
   let r ←Op.equalIn (D+1) e x y
   if(!r)=true then pure (ForInStep.done (some false,()))else pure (ForInStep.yield (none,()))).run P w=.ok st w∧(if a=b then st.fst=none else st.fst=some false):=by
  intro m
  induction m with
  |zero=>
   intro s a b ha hb _ _
   have:a=[]:=List.length_eq_zero_iff.1 ha
   have:b=[]:=List.length_eq_zero_iff.1 hb
   subst a b
   exact⟨(none,()),by simp[srp],by simp⟩
  |succ m ih=>
   intro s a b ha hb h1 h2
   cases a with
   |nil=>simp at ha
   |cons p a=>
    cases b with
    |nil=>simp at hb
    |cons q b=>
     have e1:=h1 0 p (by simp)
     have e2:=h2 0 q (by simp)
     simp only[Nat.add_zero]at e1 e2
     have r1:=run_part_int he rfl e1 w
     have r2:=run_part_int he rfl e2 w
     have r3:(Op.equalIn (D+1) e (.int k p) (.int k q)).run P w=.ok (p == q) w:=by
      simp[Op.equalIn,srb,Go.Eng.run_underlying he,srp]
     simp only[List.range'_succ,List.forIn_cons,srb,r1,r2,r3,Result.andThen_ok]
     by_cases hpq:p=q
     ·subst hpq
      obtain⟨st,hst,hres⟩:=ih (s+1) a b (by simpa using ha) (by simpa using hb)
       (fun j n hj=>by have:=h1 (j+1) n (by simpa using hj);rwa [show s+1+j=s+(j+1) by omega])
       (fun j n hj=>by have:=h2 (j+1) n (by simpa using hj);rwa [show s+1+j=s+(j+1) by omega])
      refine⟨st,?_,by simpa using hres⟩
      simpa [srp]using hst
     ·refine⟨(some false,()),?_,by simp[hpq]⟩
      have:(p == q)=false:=by simpa using hpq
      simp[this,srp]
 obtain⟨st,hst,hres⟩:=key n 0 l l' hl hl' (fun j n hj=>by simpa using hx j n hj) (fun j n hj=>by simpa using hy j n hj)
 rw[hst,Result.andThen_ok]
 by_cases h:l=l'
 ·rw[if_pos h]at hres
  simp[hres,h,srp]
 ·rw[if_neg h]at hres
  have:(l == l')=false:=by simpa using h
  simp[hres,this,srp]
theorem run_equal_ints {t e:TypeId}{k:IntKind}{n:Nat}{i:TypeInfo}(ht:P.underlying t=some (.array n e)) (he:P.underlying e=some (.int k)) (hi:P.info? e=some i) (hs:i.size=1)
 {xs ys:Array Value} {l l':List Int}(hx:∀(j:Nat) n,l[j]? = some n→xs[j]? = some (.int k n)) (hy:∀(j:Nat) n,l'[j]? = some n→ys[j]? = some (.int k n))
 (hl:l.length=n) (hl':l'.length=n) (w:World):(Op.equal t (.agg xs) (.agg ys)).run P w=.ok (l == l') w:=run_equalIn_ints ht he hi hs hx hy hl hl' w 9998
end
section
variable {P:Program}{ρ:Ren}
@[simp] theorem N.val_lit (n:Nat):(N.lit n).val=n:=rfl
@[simp] theorem N.val_sym (n:Nat):(N.sym n).val=n:=rfl
theorem addr_add (r o n:Nat):(⟨r,o,none⟩:Addr).add n=⟨r,o+n,none⟩:=by
 unfold Addr.add
 split
 ·rename_i h;subst h;rfl
 ·rfl
theorem dF_eq (d:D):dF arR d=arR.dFst d:=by cases d<;>rfl
theorem dS_eq (d:D):dS arR d=arR.dSnd d:=by cases d<;>rfl
theorem cellsD_len:∀(s:Sh) (d:D),(cellsD arR s d).length=s.width
 |.int k,d=>rfl
 |.bool,d=>rfl
 |.str,d=>rfl
 |.arr k m,d=>by simp[cellsD,Sh.width]
 |.two a b,d=>by show(cellsD arR a _++cellsD arR b _).length=a.width+b.width;rw[List.length_append,cellsD_len a,cellsD_len b]
 |.sl s,d=>rfl
theorem cellsP_len:∀ps:List Pt,(cellsP arR ps).length=widthP ps
 | []=>rfl
 |.c x::l=>by simp only[cellsP,List.length_cons,widthP,Pt.width,cellsP_len l];omega
 |.v s d::l=>by simp only[cellsP,List.length_append,widthP,Pt.width,cellsP_len l,cellsD_len]
theorem cellsP_app:∀ps qs:List Pt,cellsP arR (ps++qs)=cellsP arR ps++cellsP arR qs
 | [],qs=>rfl
 |.c x::l,qs=>by simp only[List.cons_append,cellsP,cellsP_app l]
 |.v s d::l,qs=>by simp only[List.cons_append,cellsP,cellsP_app l,List.append_assoc]
theorem cellsP_c (cs:List C):cellsP arR (cs.map .c)=cs:=by
 induction cs with
 |nil=>rfl
 |cons c cs ih=>simp only[List.map_cons,cellsP,ih]
theorem partD_spec:∀{s:Sh}{d:D}{o n:Nat} {s':Sh} {d':D},partD arR s d o n=some (s',d')→s'.width=n∧∃pre post,cellsD arR s d=pre++cellsD arR s' d'++post∧pre.length=o
 |.two a b,d,o,n,s',d',h=>by
  simp only[partD]at h
  split at h
  ·rename_i hlt
   have hlt:¬o<a.width:=fun h=>by rw[←Nat.blt_eq,hlt]at h;cases h
   obtain⟨h1,pre,post,h2,h3⟩:=partD_spec h
   rw[dS_eq]at h2
   refine⟨h1,cellsD arR a (arR.dFst d)++pre,post,?_,?_⟩
   ·show cellsD arR a (arR.dFst d)++cellsD arR b (arR.dSnd d)=_
    rw[h2];simp
   ·rw[List.length_append,cellsD_len,h3];omega
  ·split at h
   ·obtain⟨h1,pre,post,h2,h3⟩:=partD_spec h
    rw[dF_eq]at h2
    exact⟨h1,pre,post++cellsD arR b (arR.dSnd d),by show cellsD arR a (arR.dFst d)++cellsD arR b (arR.dSnd d)=_;rw[h2];simp,h3⟩
   ·split at h
    ·rename_i hc
     rw[bat]at hc
     simp only[sie,po]at h
     obtain⟨rfl,rfl⟩:=h
     exact⟨Nat.eq_of_beq_eq_true hc.2,[],[],by simp,(Nat.eq_of_beq_eq_true hc.1).symm⟩
    ·cases h
 |.int k,d,o,n,s',d',h=>by
  simp only[partD]at h
  split at h
  ·rename_i hc
   rw[bat]at hc
   simp only[sie,po]at h;obtain⟨rfl,rfl⟩:=h;exact⟨Nat.eq_of_beq_eq_true hc.2,[],[],by simp,(Nat.eq_of_beq_eq_true hc.1).symm⟩
  ·cases h
 |.bool,d,o,n,s',d',h=>by
  simp only[partD]at h
  split at h
  ·rename_i hc
   rw[bat]at hc
   simp only[sie,po]at h;obtain⟨rfl,rfl⟩:=h;exact⟨Nat.eq_of_beq_eq_true hc.2,[],[],by simp,(Nat.eq_of_beq_eq_true hc.1).symm⟩
  ·cases h
 |.str,d,o,n,s',d',h=>by
  simp only[partD]at h
  split at h
  ·rename_i hc
   rw[bat]at hc
   simp only[sie,po]at h;obtain⟨rfl,rfl⟩:=h;exact⟨Nat.eq_of_beq_eq_true hc.2,[],[],by simp,(Nat.eq_of_beq_eq_true hc.1).symm⟩
  ·cases h
 |.arr k m,d,o,n,s',d',h=>by
  simp only[partD]at h
  split at h
  ·rename_i hc
   rw[bat]at hc
   simp only[sie,po]at h;obtain⟨rfl,rfl⟩:=h;exact⟨Nat.eq_of_beq_eq_true hc.2,[],[],by simp,(Nat.eq_of_beq_eq_true hc.1).symm⟩
  ·cases h
 |.sl s,d,o,n,s',d',h=>by
  simp only[partD]at h
  split at h
  ·rename_i hc
   rw[bat]at hc
   simp only[sie,po]at h;obtain⟨rfl,rfl⟩:=h;exact⟨Nat.eq_of_beq_eq_true hc.2,[],[],by simp,(Nat.eq_of_beq_eq_true hc.1).symm⟩
  ·cases h
theorem leafC_spec {s:Sh}{d:D}{c:C}(h:leafC arR s d=some c):cellsD arR s d=[c]:=by
 cases s<;>simp only[leafC,sie]at h<;>first|(cases h;done)|(subst h;cases d<;>rfl)
theorem getElem?_mid {α:Type}{pre mid post l:List α}{o j:Nat}(h:l=pre++mid++post) (ho:pre.length=o) (hj:j<mid.length):l[o+j]? = mid[j]?:=by
 subst h
 rw[List.append_assoc,List.getElem?_append_right (by omega),show o+j-pre.length=j by omega,List.getElem?_append_left hj]
theorem prtGet_spec:∀{ps:List Pt}{i:Nat}{c:C},prtGet arR ps i=some c→(cellsP arR ps)[i]? = some c:=by
 have leaf:∀{s:Sh}{d:D}{l:List Pt}{i:Nat}{c:C},(match partD arR s d i 1 with
  |some (s',d')=>leafC arR s' d'
  |none=>none)=some c→(cellsP arR (.v s d::l))[i]? = some c:=by
  intro s d l i c h
  split at h
  ·rename_i s' d' hp
   obtain⟨h1,pre,post,h2,h3⟩:=partD_spec hp
   have h4:=leafC_spec h
   have h5:=getElem?_mid (j:=0) h2 h3 (by rw[h4];simp)
   rw[h4]at h5
   have hlt:i<(cellsD arR s d).length:=by
    rw[h2];simp only[List.length_append,h4,List.length_cons,h3];omega
   simp only[cellsP]
   rw[List.getElem?_append_left hlt]
   simpa using h5
  ·cases h
 intro ps
 induction ps with
 |nil=>intro i c h;cases h
 |cons p l ih=>
  intro i c h
  cases p with
  |c x=>
   simp only[prtGet]at h
   split at h
   ·rename_i h0;subst h0;simpa [cellsP]using h
   ·rename_i h0
    have:=ih h
    obtain⟨j,rfl⟩:∃j,i=j+1:=⟨i-1,by omega⟩
    simpa [cellsP]using this
  |v s d=>
   cases l with
   |nil=>simp only[prtGet]at h;exact leaf h
   |cons p' l=>
    simp only[prtGet]at h
    split at h
    ·exact leaf h
    ·rename_i hlt
     have:=ih h
     simp only[cellsP]at this ⊢
     rw[List.getElem?_append_right (by rw[cellsD_len];omega),cellsD_len]
     exact this
theorem prtTake_spec:∀{ps:List Pt}{n:Nat}{qs:List Pt},prtTake ps n=some qs→∃post,cellsP arR ps=cellsP arR qs++post∧(cellsP arR qs).length=n
 |ps,0,qs,h=>by
  simp only[prtTake,sie]at h;subst h;exact⟨_,rfl,rfl⟩
 | [],n+1,qs,h=>by cases h
 |p::l,n+1,qs,h=>by
  simp only[prtTake]at h
  split at h
  ·rename_i hw
   rw[oms]at h
   obtain⟨rs,h1,rfl⟩:=h
   obtain⟨post,h2,h3⟩:=prtTake_spec h1
   refine⟨post,?_,?_⟩
   ·cases p<;>simp only[cellsP,h2,List.cons_append,List.append_assoc]
   ·cases p<;>simp only[cellsP,List.length_cons,List.length_append,h3,cellsD_len]<;>simp only[Pt.width]at *<;>omega
  ·cases h
theorem prtDrop_spec:∀{ps:List Pt}{n:Nat}{rs:List Pt},prtDrop ps n=some rs→∃mid,cellsP arR ps=mid++cellsP arR rs∧mid.length=n
 |ps,0,rs,h=>by
  simp only[prtDrop,sie]at h;subst h;exact⟨[],rfl,rfl⟩
 | [],n+1,rs,h=>by cases h
 |p::l,n+1,rs,h=>by
  simp only[prtDrop]at h
  split at h
  ·rename_i hw
   obtain⟨mid,h2,h3⟩:=prtDrop_spec h
   cases p with
   |c x=>exact⟨x::mid,by simp only[cellsP,h2,List.cons_append],by simp only[List.length_cons,h3,Pt.width]at *;omega⟩
   |v s d=>exact⟨cellsD arR s d++mid,by simp only[cellsP,h2,List.append_assoc],by simp only[List.length_append,h3,cellsD_len,Pt.width]at *;omega⟩
  ·cases h
theorem prtPut_spec:∀{f:Nat}{ps:List Pt}{off n:Nat}{qs rs:List Pt},prtPut arR f ps off n qs=some rs→∃pre mid post,cellsP arR ps=pre++mid++post∧pre.length=off∧mid.length=n∧cellsP arR rs=pre++cellsP arR qs++post
 |0,ps,off,n,qs,rs,h=>by simp[prtPut]at h
 |f+1,[],off,n,qs,rs,h=>by simp[prtPut]at h
 |f+1,p::l,off,n,qs,rs,h=>by
  unfold prtPut at h
  split at h
  ·rename_i hw
   rw[oms]at h
   obtain⟨ts,h1,rfl⟩:=h
   obtain⟨pre,mid,post,h2,h3,h4,h5⟩:=prtPut_spec h1
   cases p with
   |c x=>exact⟨x::pre,mid,post,by simp only[cellsP,h2,List.cons_append],by simp only[List.length_cons,h3,Pt.width]at *;omega,h4,by simp only[cellsP,h5,List.cons_append]⟩
   |v s d=>exact⟨cellsD arR s d++pre,mid,post,by simp only[cellsP,h2,List.append_assoc],by simp only[List.length_append,h3,cellsD_len,Pt.width]at *;omega,h4,by simp only[cellsP,h5,List.append_assoc]⟩
  ·split at h
   ·rename_i hc
    rw[oms]at h
    obtain⟨ts,h1,rfl⟩:=h
    obtain⟨mid,h2,h3⟩:=prtDrop_spec h1
    exact⟨[],mid,cellsP arR ts,by rw[h2];rfl,hc.1.symm,h3,by rw[cellsP_app];rfl⟩
   ·cases p with
    |c x=>cases h
    |v sh d=>
     cases sh with
     |two a b=>
      obtain⟨pre,mid,post,h2,h3,h4,h5⟩:=prtPut_spec h
      refine⟨pre,mid,post,?_,h3,h4,h5⟩
      rw[←h2]
      simp only[cellsP,dF_eq,dS_eq]
      show(cellsD arR a _++cellsD arR b _)++_=_
      rw[List.append_assoc]
     |_=>cases h
theorem prtPut_take {f:Nat}{ps:List Pt}{off n:Nat}{qs rs:List Pt}(h:prtPut arR f ps off n qs=some rs) (hn:widthP qs=n):off+n≤(cellsP arR ps).length∧cellsP arR rs=(cellsP arR ps).take off++cellsP arR qs++(cellsP arR ps).drop (off+(cellsP arR qs).length):=by
 obtain⟨pre,mid,post,h1,h2,h3,h4⟩:=prtPut_spec h
 have h5:=cellsP_len qs
 rw[h4,h1]
 refine⟨by simp only[List.length_append];omega,?_⟩
 congr 2
 ·rw[List.append_assoc,List.take_append_of_le_length (by omega),List.take_of_length_le (by omega)]
 ·rw[List.drop_append_of_le_length (by simp only[List.length_append];omega),List.drop_of_length_le (by simp only[List.length_append];omega)];rfl
theorem valP_spec {s:Sh}{d:D}:(valP arR s d).len=s.width∧∀(j:Nat) x,(valP arR s d).at j=some x→(cellsD arR s d)[j]? = some x:=by
 cases s with
 |arr k m=>
  refine⟨rfl,fun j x hx=>?_⟩
  simp only[valP,G.at]at hx
  split at hx
  ·rename_i hj
   have hj:j<m:=hj
   simp only[sie]at hx
   subst hx
   simp only[cellsD,List.getElem?_map,List.getElem?_range hj,Option.map_some]
  ·cases hx
 |_=>
  refine⟨?_,fun j x hx=>?_⟩
  ·show(cellsP arR [.v _ d]).length=_
   rw[cellsP_len];simp only[widthP,Pt.width];omega
  ·simpa only[valP,G.at,cellsP,List.append_nil]using hx
theorem prtCut_spec:∀{ps:List Pt}{off n:Nat}{g:G},prtCut arR ps off n=some g→g.len=n∧off+n≤(cellsP arR ps).length∧∀(j:Nat) x,g.at j=some x→j<n∧(cellsP arR ps)[off+j]? = some x:=by
 have tk:∀{ps:List Pt}{n:Nat}{g:G},(prtTake ps n).map .prt=some g→g.len=n∧0+n≤(cellsP arR ps).length∧∀(j:Nat) x,g.at j=some x→j<n∧(cellsP arR ps)[0+j]? = some x:=by
  intro ps n g h
  rw[oms]at h
  obtain⟨qs,h1,rfl⟩:=h
  obtain⟨post,h2,h3⟩:=prtTake_spec h1
  refine⟨h3,by rw[h2,List.length_append];omega,fun j x hx=>?_⟩
  have hx:(cellsP arR qs)[j]? = some x:=hx
  have hj:=(ges hx).1
  refine⟨by omega,?_⟩
  rw[h2,Nat.zero_add,List.getElem?_append_left hj];exact hx
 intro ps
 induction ps with
 |nil=>intro off n g h;cases h
 |cons p l ih=>
  intro off n g h
  cases p with
  |c x=>
   simp only[prtCut]at h
   split at h
   ·rename_i h0;subst h0;exact tk h
   ·rename_i h0
    obtain⟨h1,h2,h3⟩:=ih h
    refine⟨h1,by simp only[cellsP,List.length_cons];omega,fun j y hy=>?_⟩
    obtain⟨h4,h5⟩:=h3 j y hy
    refine⟨h4,?_⟩
    simp only[cellsP]
    rw[show off+j=(off-1+j)+1 by omega,List.getElem?_cons_succ];exact h5
  |v s d=>
   simp only[prtCut]at h
   split at h
   ·rename_i hle
    split at h
    ·rename_i s' d' hp
     simp only[sie]at h
     subst h
     obtain⟨h1,pre,post,h2,h3⟩:=partD_spec hp
     obtain⟨h4,h5⟩:=valP_spec (s:=s') (d:=d')
     refine⟨by rw[h4,h1],by simp only[cellsP,List.length_append,cellsD_len];omega,fun j y hy=>?_⟩
     have h6:=h5 j y hy
     have hj:j<n:=by
      have:=(ges h6).1
      rw[cellsD_len]at this;omega
     refine⟨hj,?_⟩
     simp only[cellsP]
     rw[List.getElem?_append_left (by rw[cellsD_len];omega),getElem?_mid h2 h3 (by rw[cellsD_len];omega)]
     exact h6
    ·cases h
   ·split at h
    ·rename_i hle
     obtain⟨h1,h2,h3⟩:=ih h
     refine⟨h1,by simp only[cellsP,List.length_append,cellsD_len];omega,fun j y hy=>?_⟩
     obtain⟨h4,h5⟩:=h3 j y hy
     refine⟨h4,?_⟩
     simp only[cellsP]
     rw[List.getElem?_append_right (by rw[cellsD_len];omega),cellsD_len,show off+j-s.width=off-s.width+j by omega];exact h5
    ·split at h
     ·rename_i h0;subst h0;exact tk h
     ·cases h
theorem parts_spec {g:G}{qs:List Pt}(h:g.parts arR=some qs):g.len=(cellsP arR qs).length∧∀(j:Nat) x,(cellsP arR qs)[j]? = some x→g.at j=some x:=by
 unfold G.parts at h
 split at h
 ·simp only[sie]at h
  subst h
  rw[cellsP_c];exact⟨rfl,fun j x hx=>hx⟩
 ·simp only[sie]at h
  subst h
  exact⟨rfl,fun j x hx=>hx⟩
 ·rename_i k m f
  simp only[sie]at h
  subst h
  refine⟨by rw[cellsP_len];simp[widthP,Pt.width,Sh.width,G.len],fun j x hx=>?_⟩
  simp only[cellsP,List.append_nil,cellsD,List.getElem?_map,oms]at hx
  obtain⟨y,hy,rfl⟩:=hx
  have hj:j<m:=by
   have:=(ges hy).1
   simpa using this
  rw[List.getElem?_range hj]at hy
  simp only[sie]at hy
  subst hy
  have e:arR.dRow (.row (arR.dMk m f)) j=f j:=by
   show((List.range m).map f).getD j 0=f j
   rw[List.getD_eq_getElem?_getD,List.getElem?_map,List.getElem?_range hj];rfl
  show(if j<m then some (C.int k (f j))else none)=_
  rw[if_pos hj,e]
 ·cases h
theorem leq_ok {a b:N}{d:Nat}{ps:List Prop}(h:leq arR a d b=some ps) (hq:∀q∈ps,q):a.val+d≤b.val:=by
 unfold leq at h
 split at h
 ·split at h
  ·simpa [N.val]
  ·cases h
 ·simp only[sie]at h
  subst h
  exact hq (arR.leN _ _) (by simp)
theorem get_at {g:G}{off:N}{c:C}{ps:List Prop}(h:g.get? arR off=some (c,ps)) (hq:∀q∈ps,q):g.at off.val=some c:=by
 unfold G.get? at h
 split at h
 ·split at h
  ·rename_i e
   simp only[sie,po]at h
   simp only[G.at,N.val,e,h.1]
  ·cases h
 ·rename_i cs i
  split at h
  ·rename_i l hl
   simp only[sie,po]at h
   obtain⟨rfl,rfl⟩:=h
   have hlt:i+1≤l.length:=hq _ (List.mem_singleton.2 rfl)
   have hll:=mapM_some_length hl
   obtain⟨y,h1,h2⟩:=mapM_some_get hl i cs[i] (geg (by omega))
   show cs[i]? = some (.str (l.getD i .empty))
   rw[geg (by omega),List.getD_eq_getElem?_getD,h2]
   split at h1
   ·rename_i e
    cases h1
    rw[e];rfl
   ·cases h1
  ·cases h
 ·split at h
  ·rename_i e
   simp only[sie,po]at h
   obtain⟨rfl,rfl⟩:=h
   have:=leq_ok e hq
   simp only[G.at]
   rw[if_pos (by omega)]
  ·cases h
 ·split at h
  ·rename_i e
   simp only[sie,po]at h
   obtain⟨rfl,rfl⟩:=h
   have:=leq_ok e hq
   simp only[G.at]
   rw[if_pos (by omega)]
  ·cases h
 ·rw[oms]at h
  obtain⟨c',h1,h2⟩:=h
  simp only[po]at h2
  obtain⟨rfl,rfl⟩:=h2
  exact prtGet_spec h1
 ·cases h
 ·cases h
 ·cases h
theorem cut_at {g g':G}{off:N}{n:Nat}{ps:List Prop}(h:g.cut arR off n=some (g',ps)) (hq:∀q∈ps,q):
 g'.len=n∧off.val+n≤g.len∧∀(j:Nat) x,g'.at j=some x→j<n∧g.at (off.val+j)=some x:=by
 unfold G.cut at h
 split at h
 ·rename_i cs off
  split at h
  ·rename_i hlen
   simp only[sie,po]at h
   obtain⟨rfl,rfl⟩:=h
   refine⟨by simp[G.len];omega,by simpa [G.len,N.val]using hlen,fun j x hx=>?_⟩
   simp only[G.at,N.val]at hx ⊢
   have hj:j<n:=by
    have:=(ges hx).1
    simp at this;omega
   rw[List.getElem?_take_of_lt hj,List.getElem?_drop]at hx
   exact⟨hj,hx⟩
  ·cases h
 ·cases h
 ·rename_i k m f
  split at h
  ·rename_i e
   simp only[sie,po]at h
   obtain⟨rfl,rfl⟩:=h
   have hl:=leq_ok e hq
   refine⟨rfl,by simpa [G.len,N.val]using hl,fun j x hx=>?_⟩
   simp only[G.at]at hx ⊢
   simp only[N.val_lit]at hl
   by_cases hj:j<n
   ·rw[if_pos (show j<(N.lit n).val from hj)]at hx
    refine⟨hj,?_⟩
    rw[if_pos (show(N.lit 0).val+j<m.val by simp only[N.val_lit];omega),show(N.lit 0).val+j=j from Nat.zero_add j]
    exact hx
   ·rw[if_neg (show ¬j<(N.lit n).val from hj)]at hx;cases hx
  ·cases h
 ·split at h
  ·rename_i e
   simp only[sie,po]at h
   obtain⟨rfl,rfl⟩:=h
   have hl:=leq_ok e hq
   refine⟨rfl,by simpa [G.len]using hl,fun j x hx=>?_⟩
   simp only[G.at]at hx ⊢
   by_cases hj:j<n
   ·rw[if_pos (show j<(N.lit n).val from hj)]at hx
    refine⟨hj,?_⟩
    rw[if_pos (by omega)]
    rw[shfN_eq]at hx
    exact hx
   ·rw[if_neg (show ¬j<(N.lit n).val from hj)]at hx;cases hx
  ·cases h
 ·rw[oms]at h
  obtain⟨g1,h1,h2⟩:=h
  simp only[po]at h2
  obtain⟨rfl,rfl⟩:=h2
  exact prtCut_spec h1
 ·cases h
 ·cases h
 ·cases h
 ·cases h
theorem inR_ok {len:N}{j:Int}{lt:Bool}{ps:List Prop}(h:inR arR len j lt=some ps) (hq:∀q∈ps,q):0≤j∧j<(len.val:Int):=by
 unfold inR at h
 split at h
 ·split at h
  ·rename_i e;simpa [N.val]using e
  ·cases h
 ·simp only[sie]at h
  subst h
  exact hq (arR.inb _ _) (by simp)
theorem addN_val (off:N) (j:Int) (lt:Bool) (s:Nat):(addN arR off j lt s).val=off.val+j.toNat*s:=by
 unfold addN
 split<;>simp[N.val,arR]
theorem cut_rel {g g':G}{off:N}{n:Nat}{ps:List Prop}{arr:Array Value}(hg:GRel ρ g arr) (h:g.cut arR off n=some (g',ps)) (hq:∀q∈ps,q):GRel ρ g' (arr.extract off.val (off.val+n)):=by
 obtain⟨h1,h2,h3⟩:=cut_at h hq
 refine⟨by simp[h1,hg.1];omega,fun j x hx=>?_⟩
 obtain⟨hj,hx⟩:=h3 j x hx
 obtain⟨v,hv,hc⟩:=hg.2 _ _ hx
 refine⟨v,?_,hc⟩
 rw[Array.getElem?_extract]
 rw[if_pos (by rw[hg.1];omega)]
 exact hv
theorem eqPart_rel {ti:TypeId→TI}(hti:TIok P ti) {g g':G}{xs ys:Array Value}(hx:GRel ρ g xs) (hy:GRel ρ g' ys){f:Nat×Nat}{b:Bool}(h:eqPart arR ti g g' f=some b) (w:World) (D:Nat):
 ∃u v,(part f.2 xs f.1).run P w=.ok u w∧(part f.2 ys f.1).run P w=.ok v w∧(Op.equalIn (D+1+1) f.2 u v).run P w=.ok b w:=by
 obtain⟨off,ft⟩:=f
 unfold eqPart at h
 simp only at h ⊢
 split at h
 ·cases h
 ·rename_i hk
  have hk:(ti ft).known=true:=by simpa using hk
  obtain⟨d,hd,htd,hag⟩:=(hti ft hk).und
  split at h
  ·rename_i k htt
   rw[htt]at htd;cases d<;>simp only[TDRel]at htd
   rename_i kd
   subst htd
   split at h
   ·rename_i c c' hc hc'
    split at h
    ·rename_i a b' ha hb
     split at h
     ·simp only[sie]at h
      subst h
      obtain⟨u,u1,u2⟩:=hx.2 _ _ (get_at hc (by simp))
      obtain⟨v,v1,v2⟩:=hy.2 _ _ (get_at hc' (by simp))
      simp only[N.val_lit]at u1 v1
      have hu:u=.int kd a:=by
       unfold numK at ha
       split at ha
       ·rename_i k' n' l' hn
        split at ha
        ·rename_i hkk
         have:=kindEq_eq hkk
         subst this
         cases ha
         exact u2.of_num hn
        ·cases ha
       ·cases ha
      have hv:v=.int kd b':=by
       unfold numK at hb
       split at hb
       ·rename_i k' n' l' hn
        split at hb
        ·rename_i hkk
         have:=kindEq_eq hkk
         subst this
         cases hb
         exact v2.of_num hn
        ·cases hb
       ·cases hb
      subst hu hv
      exact⟨_,_,run_part_int hd rfl u1 w,run_part_int hd rfl v1 w,by rw[run_equalIn_int w _ _ _ _ _ _ hd];rfl⟩
     ·cases h
    ·cases h
   ·cases h
  ·rename_i htt
   rw[htt]at htd;cases d<;>simp only[TDRel]at htd
   split at h
   ·rename_i a b' hc hc'
    split at h
    ·simp only[sie]at h
     subst h
     obtain⟨u,u1,u2⟩:=hx.2 _ _ (get_at hc (by simp))
     obtain⟨v,v1,v2⟩:=hy.2 _ _ (get_at hc' (by simp))
     simp only[N.val_lit]at u1 v1
     have hu:u=.string a:=u2
     have hv:v=.string b':=v2
     subst hu hv
     exact⟨_,_,run_part_int hd rfl u1 w,run_part_int hd rfl v1 w,by rw[run_equalIn_string w _ _ _ _ hd];rfl⟩
    ·cases h
   ·cases h
  ·rename_i n e htt
   rw[htt]at htd;cases d<;>simp only[TDRel]at htd
   obtain⟨rfl,rfl⟩:=htd
   rename_i n e
   split at h
   ·cases h
   ·rename_i hke
    have hke:((((ti e).known=true∧(ti e).size=1)∧(ti e).agg=false)∧(ti ft).agg=true)∧Nat.beq (ti ft).size n=true:=by simpa using hke
    obtain⟨d',hd',htd',hag'⟩:=(hti e hke.1.1.1.1).und
    obtain⟨i,hi,his,-⟩:=(hti e hke.1.1.1.1).info
    obtain⟨i2,hi2,his2,-⟩:=(hti ft hk).info
    have hsz:i2.size=n:=his2.trans (Nat.eq_of_beq_eq_true hke.2)
    split at h
    ·rename_i k hek
     rw[hek]at htd';cases d'<;>simp only[TDRel]at htd'
     subst htd'
     split at h
     ·rename_i x y hcx hcy
      split at h
      ·rename_i l l' hl hl'
       split at h
       ·rename_i hlen
        simp only[sie]at h
        subst h
        have c1:=cut_rel hx hcx (by simp)
        have c2:=cut_rel hy hcy (by simp)
        simp only[N.val_lit]at c1 c2
        have hpart:∀zs:Array Value,(part ft zs off).run P w=.ok (.agg (zs.extract off (off+n))) w:=fun zs=>by
         simp[part,srb,run_isAgg hd,aggOf,run_sizeOf hi2,hsz,srp]
        refine⟨_,_,hpart xs,hpart ys,?_⟩
        exact run_equalIn_ints hd hd' hi (his.trans hke.1.1.1.2) (numsOf_rel c1 hl).2 (numsOf_rel c2 hl').2 hlen.1 hlen.2 w D
       ·cases h
      ·cases h
     ·cases h
    ·cases h
  ·cases h
theorem eqFields_rel {ti:TypeId→TI}(hti:TIok P ti) {g g':G}{xs ys:Array Value}(hx:GRel ρ g xs) (hy:GRel ρ g' ys) (w:World) (D:Nat):∀{fs:List Field}{bs:List Bool},(∀f∈fs,f.name≠"_")→(fs.map fun f=>(f.offset,f.type)).mapM (eqPart arR ti g g')=some bs→(Op.eqFields (D+1+1) xs ys fs).run P w=.ok (bs.all id) w
 | [],bs,_,h=>by
   simp at h;subst h;simp[Op.eqFields,srp]
 |f::fs,bs,hn,h=>by
  simp only[List.map_cons,List.mapM_cons,Option.bind_eq_bind,Option.pure_def]at h
  cases h1:eqPart arR ti g g' (f.offset,f.type)with
  |none=>simp[h1]at h
  |some b=>
   cases h2:(fs.map fun f=>(f.offset,f.type)).mapM (eqPart arR ti g g')with
   |none=>simp[h1,h2]at h
   |some bs'=>
    simp[h1,h2]at h
    subst h
    obtain⟨u,v,e1,e2,e3⟩:=eqPart_rel hti hx hy h1 w D
    have ih:=eqFields_rel hti hx hy w D (fs:=fs) (fun f hf=>hn f (by simp[hf])) h2
    simp only[Op.eqFields,Sem.run_ite,if_pos (hn f (by simp)),srb,e1,e2,e3,Result.andThen_ok]
    cases b
    ·simp[srp]
    ·simpa using ih
theorem run_planAgg {ti:TypeId→TI}(hti:TIok P ti){t:TypeId} {g g':G}{c:C}{xs ys:Array Value}(hx:GRel ρ g xs) (hy:GRel ρ g' ys) (hp:planAgg arR ti t g g'=some c) (w:World):
 ∃r:Bool,(Op.equal t (.agg xs) (.agg ys)).run P w=.ok r w∧CRel ρ c (.bool r)∧CRel ρ (c.neg arR) (.bool (!r))∧(∀op X Y,(eqGuard op t X Y (.agg xs) (.agg ys)).run P w=.ok () w):=by
 unfold planAgg at hp
 split at hp
 ·cases hp
 ·rename_i hk
  have hk:(ti t).known=true∧(ti t).plain=true:=by simpa using hk
  have T:=hti t hk.1
  obtain⟨d,hd,htd,_⟩:=T.und
  split at hp
  ·rename_i n e htt
   split at hp
   ·cases hp
   ·rename_i hke
    have hke:((ti e).known=true∧(ti e).size=1)∧(ti e).agg=false:=by simpa using hke
    split at hp
    ·rename_i k hek
     have E:=hti e hke.1.1
     obtain⟨d',hd',htd',hag⟩:=E.und
     obtain⟨i,hi,his,_⟩:=E.info
     rw[htt]at htd;cases d<;>simp only[TDRel]at htd
     rw[hek]at htd';cases d'<;>simp only[TDRel]at htd'
     obtain⟨rfl,rfl⟩:=htd
     subst htd'
     split at hp
     ·rename_i l l' hl hl'
      split at hp
      ·rename_i hlen
       simp only[sie]at hp
       subst hp
       refine⟨_,run_equal_ints hd hd' hi (his.trans hke.1.2) (numsOf_rel hx hl).2 (numsOf_rel hy hl').2 hlen.1 hlen.2 w,?_,?_,?_⟩
       ·simp[CRel,arR]
       ·simp[CRel,C.neg,arR]
       ·intro op X Y
        have:=T.plain hk.2
        cases op<;>simp[eqGuard,program,srb,Sem.run,this,srp]
      ·cases hp
     ·cases hp
    ·cases hp
  ·rename_i fs htt
   split at hp
   ·rename_i heq
    obtain⟨hso,hnm⟩:=T.eqs heq
    split at hp
    ·rename_i bs hbs
     simp only[sie]at hp
     subst hp
     rw[htt]at htd;cases d<;>simp only[TDRel]at htd
     rename_i fields hag_
     subst htd
     have hf:P.fieldsOf t=fields:=by unfold Program.fieldsOf;rw[hd]
     have hd2:P.underlying t=some (.struct (P.fieldsOf t)):=by rw[hf];exact hd
     refine⟨bs.all id,?_,rfl,rfl,?_⟩
     ·show(Op.equalIn (9997+1+1+1) t (.agg xs) (.agg ys)).run P w=_
      rw[run_equalIn_struct w _ t xs ys hd2 hso,hf]
      refine eqFields_rel hti hx hy w 9997 (fun f hfm=>hnm f (by rw[hf];exact Array.mem_toList_iff.1 hfm)) ?_
      exact hbs
     ·intro op X Y
      have:=T.plain hk.2
      cases op<;>simp[eqGuard,program,srb,Sem.run,this,srp]
    ·cases hp
   ·cases hp
  ·cases hp
theorem fold_set (off:Nat):∀(l:List Value) (s:Nat) (c:Array Value),off+s+l.length≤c.size →
 ((l.zipIdx s).foldl (fun(cs:Array Value) (x:Value×Nat)=>cs.setIfInBounds (off+x.2) x.1) c).size=c.size ∧
 ∀k:Nat,((l.zipIdx s).foldl (fun(cs:Array Value) (x:Value×Nat)=>cs.setIfInBounds (off+x.2) x.1) c)[k]? = if off+s≤k∧k<off+s+l.length then l[k-(off+s)]? else c[k]?
 | [],s,c,h=>by
   refine⟨rfl,fun k=>?_⟩
   rw[if_neg (by simp)];rfl
 |x::l,s,c,h=>by
  simp only[List.length_cons]at h
  obtain⟨h1,h2⟩:=fold_set off l (s+1) (c.setIfInBounds (off+s) x) (by simp;omega)
  simp only[List.zipIdx_cons,List.foldl_cons]
  refine⟨by rw[h1];simp,fun k=>?_⟩
  rw[h2]
  simp only[List.length_cons]
  by_cases hk:k=off+s
  ·subst hk
   rw[if_neg (by omega),if_pos (by omega),Nat.sub_self,List.getElem?_cons_zero,Array.getElem?_setIfInBounds,if_pos rfl,if_pos (by omega)]
  ·by_cases hk2:off+(s+1)≤k∧k<off+(s+1)+l.length
   ·rw[if_pos hk2,if_pos (by omega)]
    rw[show k-(off+s)=(k-(off+(s+1)))+1 by omega]
    simp
   ·rw[if_neg hk2,if_neg (by omega)]
    rw[Array.getElem?_setIfInBounds_ne (by omega)]
theorem fill_step (c v:Array Value) (off:Nat) (h:off+v.size≤c.size):
 (v.zipIdx.foldl (fun(cs:Array Value) (x:Value×Nat)=>cs.setIfInBounds (off+x.2) x.1) c).size=c.size ∧
 ∀k:Nat,(v.zipIdx.foldl (fun(cs:Array Value) (x:Value×Nat)=>cs.setIfInBounds (off+x.2) x.1) c)[k]? = if off≤k∧k<off+v.size then v[k-off]? else c[k]?:=by
 have:=fold_set off v.toList 0 c (by simpa using h)
 rw[←Array.foldl_toList,Array.toList_zipIdx]
 simpa using this
def LRel (ρ:Ren) (l:List C) (arr:Array Value):Prop:=arr.size=l.length∧∀(j:Nat) x,l[j]? = some x→∃v:Value,arr[j]? = some v∧CRel ρ x v
theorem list_rel {g:G}{l:List C}{arr:Array Value}(h:GRel ρ g arr) (hl:g.list=some l):LRel ρ l arr:=by
 cases g with
 |lst cs=>simp only[G.list,sie]at hl;subst hl;exact h
 |ints k n f=>
  cases n with
  |lit n=>
   simp only[G.list,sie]at hl
   subst hl
   refine⟨by rw[h.1];simp[G.len],fun j x hx=>h.2 j x ?_⟩
   have hj:j<n:=by
    have:=(ges hx).1;simpa using this
   simp[hj]at hx
   subst hx
   simp[G.at,hj]
  |sym n=>cases hl
 |col s n f=>cases hl
 |prt ps=>cases hl
 |tail=>cases hl
 |dead=>cases hl
theorem gr_rel {x:A}{u:Value}(h:ARel ρ x u):GRel ρ x.gr u.cells:=by
 cases x with
 |one c=>
  have h':CRel ρ c u:=h
  rw[h'.cells]
  refine⟨rfl,fun j y hy=>?_⟩
  cases j with
  |zero=>simp[A.gr,G.at]at hy;subst hy;exact⟨u,rfl,h'⟩
  |succ j=>simp[A.gr,G.at]at hy
 |agg g=>
  obtain⟨arr,rfl,hg⟩:=h
  exact hg
theorem splice_rel {l m:List C}{c v:Array Value}{off:Nat}(hc:LRel ρ l c) (hv:LRel ρ m v) (h:off+m.length≤l.length):
 LRel ρ (l.take off++m++l.drop (off+m.length)) (v.zipIdx.foldl (fun(cs:Array Value) (x:Value×Nat)=>cs.setIfInBounds (off+x.2) x.1) c):=by
 obtain⟨h1,h2⟩:=fill_step c v off (by rw[hc.1,hv.1];exact h)
 refine⟨by rw[h1,hc.1];simp;omega,fun j x hx=>?_⟩
 rw[h2]
 by_cases hj:j<off
 ·rw[if_neg (by omega)]
  rw[List.append_assoc,List.getElem?_append_left (by simp;omega),List.getElem?_take_of_lt hj]at hx
  exact hc.2 j x hx
 ·by_cases hj2:j<off+m.length
  ·rw[if_pos (by rw[hv.1];omega)]
   rw[List.append_assoc,List.getElem?_append_right (by simp;omega),List.getElem?_append_left (by simp;omega)]at hx
   rw[show j-(l.take off).length=j-off by simp;omega]at hx
   exact hv.2 _ x hx
  ·rw[if_neg (by rw[hv.1];omega)]
   rw[List.append_assoc,List.getElem?_append_right (by simp;omega),List.getElem?_append_right (by simp;omega),List.getElem?_drop]at hx
   rw[show off+m.length+(j-(l.take off).length-m.length)=j by simp;omega]at hx
   exact hc.2 j x hx
theorem fill_rel {place:Nat→Option (Nat×Nat)}:∀{ps:List (Nat×List C)}{parts:List (Nat×Value)}{cs r:List C}{c:Array Value},
 ps.length=parts.length→(∀(j:Nat) off l i v,ps[j]? = some (off,l)→parts[j]? = some (i,v)→place i=some (off,l.length)∧LRel ρ l v.cells)→LRel ρ cs c→fillL cs ps=some r →
 ∃c',Instr.fill place c parts=some c'∧LRel ρ r c'
 | [],[],cs,r,c,_,_,hc,h=>by
   simp only[fillL,sie]at h
   subst h
   exact⟨c,rfl,hc⟩
 |(off,l)::ps,(i,v)::parts,cs,r,c,hlen,hall,hc,h=>by
  obtain⟨hp,hv⟩:=hall 0 off l i v rfl rfl
  simp only[fillL]at h
  split at h
  ·rename_i hoff
   have hs:=splice_rel hc hv hoff
   obtain⟨c',h1,h2⟩:=fill_rel (ps:=ps) (parts:=parts) (by simpa using hlen) (fun j off l i v a b=>hall (j+1) off l i v (by simpa using a) (by simpa using b)) hs h
   refine⟨c',?_,h2⟩
   simp only[Instr.fill,hp]
   rw[if_neg]
   ·exact h1
   ·have e1:=hv.1
    have e2:=hc.1
    simp[e1,e2];omega
  ·cases h
 | [],_::_,_,_,_,hlen,_,_,_=>by simp at hlen
 |_::_,[],_,_,_,hlen,_,_,_=>by simp at hlen
theorem fillP_L:∀{ps:List (Nat×List Pt)}{z r:List Pt},fillP arR z ps=some r→fillL (cellsP arR z) (ps.map fun p=>(p.1,cellsP arR p.2))=some (cellsP arR r)
 | [],z,r,h=>by
   simp only[fillP,sie]at h
   subst h;rfl
 |(off,qs)::ps,z,r,h=>by
  simp only[fillP]at h
  split at h
  ·rename_i rs hrs
   obtain⟨h1,h2⟩:=prtPut_take hrs rfl
   have h3:=fillP_L h
   rw[h2]at h3
   simp only[List.map_cons,fillL]
   rw[if_pos (by rw[cellsP_len];exact h1)]
   exact h3
  ·cases h
theorem parts_rel {g:G}{c:Array Value}{l:List Pt}(h:GRel ρ g c) (hl:g.parts arR=some l):LRel ρ (cellsP arR l) c:=by
 obtain⟨h1,h2⟩:=parts_spec hl
 exact⟨by rw[h.1,h1],fun j x hx=>h.2 j x (h2 j x hx)⟩
theorem fillI_rel {k:IntKind}{n:Nat}{ev:Operand→V}{eu:Operand→Value}(hev:∀x,VRel ρ (ev x) (eu x)):∀{ps:List (Nat×Operand)} {f f':Nat→Int}{c:Array Value},
 GRel ρ (.ints k (.lit n) f) c→fillI arR k n f (ps.map fun p=>(p.1,ev p.2))=some f' →
 ∃c',Instr.fill (fun i=>some (i*1,1)) c (ps.map fun p=>(p.1,eu p.2))=some c'∧GRel ρ (.ints k (.lit n) f') c'
 | [],f,f',c,hc,h=>by
   simp only[List.map_nil,fillI,sie]at h
   subst h
   exact⟨c,rfl,hc⟩
 |(i,x)::ps,f,f',c,hc,h=>by
  simp only[List.map_cons,fillI]at h
  split at h
  ·rename_i cx hcx
   split at h
   ·rename_i k' z l hnum
    split at h
    ·rename_i hk
     simp only[bat,decide_eq_true_eq]at hk
     have hkk:=kindEq_eq hk.1
     subst hkk
     have hv:=Cof_rel (hev x) hcx
     have hcells:=hv.cells
     have hev':=hv.of_num hnum
     have hsz:c.size=n:=hc.1
     obtain⟨h1,h2⟩:=fill_step c #[eu x] i (by simp;omega)
     obtain⟨c',e1,e2⟩:=fillI_rel hev (ps:=ps) (c:=((#[eu x]:Array Value).zipIdx.foldl (fun(cs:Array Value) (x:Value×Nat)=>cs.setIfInBounds (i+x.2) x.1) c)) (f:=updF f i z) (by
      refine⟨by rw[h1];exact hc.1,fun j y hy=>?_⟩
      simp only[G.at]at hy
      have hjn:j<n:=by
       by_cases hjn:j<n
       ·exact hjn
       ·rw[if_neg (show ¬j<(N.lit n).val from hjn)]at hy;cases hy
      rw[if_pos (show j<(N.lit n).val from hjn)]at hy
      simp only[sie]at hy
      subst hy
      rw[h2]
      by_cases hji:j=i
      ·subst hji
       rw[if_pos (by simp)]
       exact⟨eu x,by simp,by rw[hev'];simp[CRel,updF]⟩
      ·rw[if_neg (by simp;omega)]
       obtain⟨u,hu,hr⟩:=hc.2 j (.int k (f j)) (by simp only[G.at];rw[if_pos (show j<(N.lit n).val from hjn)])
       exact⟨u,hu,by simpa [CRel,updF,hji]using hr⟩) h
     refine⟨c',?_,e2⟩
     simp only[List.map_cons,Instr.fill,Nat.mul_one,hcells]
     rw[if_neg (by simp;omega)]
     simpa only[Nat.mul_one]using e1
    ·cases h
   ·cases h
  ·cases h
theorem run_mapM_list {α β:Type}{f:α→Sem β}{g:α→β}{w:World}:∀(l:List α),(∀x∈l,(f x).run P w=.ok (g x) w)→(l.mapM f).run P w=.ok (l.map g) w
 | [],_=>by simp[srp]
 |x::l,h=>by
  simp only[List.mapM_cons,srb,h x (by simp),Result.andThen_ok,run_mapM_list l (fun y hy=>h y (by simp[hy])),srp,List.map_cons]
theorem run_mapM {α β:Type}{f:α→Sem β}{g:α→β}{w:World}(xs:Array α) (h:∀x∈xs,(f x).run P w=.ok (g x) w):(xs.mapM f).run P w=.ok (xs.map g) w:=by
 rw[Array.mapM_eq_mapM_toList]
 have:=run_mapM_list (P:=P) xs.toList (fun x hx=>h x (by simpa using hx))
 change Sem.run P (List.mapM f xs.toList >>= fun l=>pure l.toArray) w=_
 rw[srb,this]
 simp[srp,←Array.toList_map]
theorem of_val {p q:V}{ps qs:List Prop}(h:some (Plan.val p,ps)=some (Plan.val q,qs)):p=q∧ps=qs:=by
 simpa using h
theorem leI_ok {x:Int}{lt:Bool}{n:N}{ps:List Prop}(h:leI arR x lt n=some ps) (hq:∀q∈ps,q):0≤x∧x≤(n.val:Int):=by
 unfold leI at h
 split at h
 ·split at h
  ·rename_i e;simpa using e
  ·cases h
 ·simp only[sie]at h
  subst h
  exact hq (arR.le0 _ _) (by simp)
theorem intN_val (x:Int) (lt:Bool):(intN arR x lt).val=x.toNat:=by cases lt<;>rfl
theorem sofN_val (off cap:N) (lo:Int) (lt:Bool) (es:Nat):(sofN arR off cap lo lt es).val=if cap.val=lo.toNat then off.val else off.val+lo.toNat*es:=by
 unfold sofN
 split
 ·split<;>simp_all
 ·rfl
theorem subN_val (a:N) (lo:Int) (lt:Bool):(subN arR a lo lt).val=a.val-lo.toNat:=by
 unfold subN
 split<;>simp[arR]
theorem hiOf_ok {ev:Operand→V}{eu:Operand→Value}(hev:∀x,VRel ρ (ev x) (eu x)){hi:Option Operand}{len cap h:N}{ps:List Prop}(e:hiOf arR ev hi len cap=some (h,ps)) (hq:∀q∈ps,q):
 (hi=none∧h=len)∨∃x k n,hi=some x∧eu x=.int k n∧0≤n∧n≤(cap.val:Int)∧h.val=n.toNat:=by
 unfold hiOf at e
 split at e
 ·simp only[sie,po]at e;exact .inl ⟨rfl,e.1.symm⟩
 ·rename_i x
  split at e
  ·rename_i c hc
   split at e
   ·rename_i k n lt hnum
    split at e
    ·rename_i ps' hle
     simp only[sie,po]at e
     obtain⟨rfl,rfl⟩:=e
     obtain⟨h1,h2⟩:=leI_ok hle hq
     exact .inr ⟨x,k,n,rfl,(Cof_rel (hev x) hc).of_num hnum,h1,h2,intN_val n lt⟩
    ·cases e
   ·cases e
  ·cases e
theorem loOf_ok {ev:Operand→V}{eu:Operand→Value}(hev:∀x,VRel ρ (ev x) (eu x)){lo:Option Operand}{h:N}{l:Int}{lt:Bool}{ps:List Prop}(e:loOf arR ev lo h=some (l,lt,ps)) (hq:∀q∈ps,q):
 (lo=none∧l=0)∨∃x k,lo=some x∧eu x=.int k l∧0≤l∧l≤(h.val:Int):=by
 unfold loOf at e
 split at e
 ·simp only[sie,po]at e;exact .inl ⟨rfl,e.1.symm⟩
 ·rename_i x
  split at e
  ·rename_i c hc
   split at e
   ·rename_i k n lt' hnum
    split at e
    ·rename_i ps' hle
     simp only[sie,po]at e
     obtain⟨rfl,rfl,rfl⟩:=e
     obtain⟨h1,h2⟩:=leI_ok hle hq
     exact .inr ⟨x,k,rfl,(Cof_rel (hev x) hc).of_num hnum,h1,h2⟩
    ·cases e
   ·cases e
  ·cases e
theorem run_bounds {isS:Bool}{len cap:Nat}{lo hi:Option Operand}{eu:Operand→Value}{h:Nat}{l:Int}(hh:(hi=none∧h=len)∨∃x k n,hi=some x∧eu x=.int k n∧0≤n∧n≤(cap:Int)∧h=n.toNat)
 (hl:(lo=none∧l=0)∨∃x k,lo=some x∧eu x=.int k l∧0≤l∧l≤(h:Int)) (w:World):(Instr.sliceBounds isS len cap (lo.map eu) (hi.map eu) none).run P w=.ok (l.toNat,h,cap) w:=by
 rcases hh with ⟨rfl,rfl⟩|⟨x,k,n,rfl,e1,e2,e3,rfl⟩<;>rcases hl with ⟨rfl,rfl⟩|⟨y,k',rfl,f1,f2,f3⟩
 ·simp[Instr.sliceBounds,srb,srp]
 ·simp[Instr.sliceBounds,Instr.sliceBound,asIntOf,srb,srp,f1,f2,f3]
 ·simp[Instr.sliceBounds,Instr.sliceBound,asIntOf,srb,srp,e1,e2,e3]
 ·generalize hm:n.toNat=m at *
  simp[Instr.sliceBounds,Instr.sliceBound,asIntOf,srb,srp,e1,e2,e3,f1,f2,f3,hm]
theorem slice_addr (r o c:Nat) (l:Int) (es:Nat):(if c=l.toNat then(⟨r,o,none⟩:Addr)else Addr.add ⟨r,o,none⟩ (l.toNat*es))=⟨r,if c=l.toNat then o else o+l.toNat*es,none⟩:=by
 split
 ·rfl
 ·rw[addr_add]
theorem cellsD_rel {ρ:Ren}:∀{s:Sh}{d:D}{g:Nat→Option Value},SRel ρ.z s d g→(cellsD arR s d).length=s.width∧∀(j:Nat) x,(cellsD arR s d)[j]? = some x→∃v,g j=some v∧CRel ρ x v
 |.int k,d,g,⟨n,e,h⟩=>by
  subst e
  refine⟨rfl,fun j x hx=>?_⟩
  cases j with
  |zero=>simp[cellsD]at hx;subst hx;exact⟨_,h,rfl⟩
  |succ j=>simp[cellsD]at hx
 |.bool,d,g,⟨n,e,h⟩=>by
  subst e
  refine⟨rfl,fun j x hx=>?_⟩
  cases j with
  |zero=>simp[cellsD]at hx;subst hx;exact⟨_,h,rfl⟩
  |succ j=>simp[cellsD]at hx
 |.str,d,g,⟨n,e,h⟩=>by
  subst e
  refine⟨rfl,fun j x hx=>?_⟩
  cases j with
  |zero=>simp[cellsD]at hx;subst hx;exact⟨_,h,rfl⟩
  |succ j=>simp[cellsD]at hx
 |.arr k m,d,g,⟨l,e,hl,h⟩=>by
  subst e
  refine⟨by simp[cellsD,Sh.width],fun j x hx=>?_⟩
  simp only[cellsD,List.getElem?_map,oms]at hx
  obtain⟨y,hy,rfl⟩:=hx
  have hj:j<m:=by
   have:=(ges hy).1
   simpa using this
  rw[List.getElem?_range hj]at hy
  simp only[sie]at hy
  subst hy
  have hjl:j<l.length:=by omega
  refine⟨.int k l[j],h j _ (geg hjl),?_⟩
  show Value.int k l[j]=.int k (l.getD j 0)
  rw[List.getD_eq_getElem?_getD,geg hjl];rfl
 |.two a b,d,g,⟨x,y,e,h1,h2⟩=>by
  subst e
  obtain⟨a1,a2⟩:=cellsD_rel h1
  obtain⟨b1,b2⟩:=cellsD_rel h2
  refine⟨by show(cellsD arR a x++cellsD arR b y).length=a.width+b.width;rw[List.length_append,a1,b1],fun j u hu=>?_⟩
  replace hu:(cellsD arR a x++cellsD arR b y)[j]? = some u:=hu
  by_cases hj:j<a.width
  ·rw[List.getElem?_append_left (by rw[a1];exact hj)]at hu
   exact a2 j u hu
  ·rw[List.getElem?_append_right (by rw[a1];omega),a1]at hu
   obtain⟨v,c1,c2⟩:=b2 _ u hu
   exact⟨v,by rw[show a.width+(j-a.width)=j by omega]at c1;exact c1,c2⟩
 |.sl s,d,g,⟨l,v,e,h,hv⟩=>by
  subst e
  refine⟨rfl,fun j x hx=>?_⟩
  cases j with
  |zero=>
   simp[cellsD]at hx
   subst hx
   refine⟨v,h,?_⟩
   rcases hv with hv|⟨r,o,len,cap,e1,e2,e3,e4⟩
   ·exact .inl hv
   ·exact .inr ⟨r,o,len,cap,e1,e2,e3,e4,fun t ht=>by cases ht⟩
  |succ j=>simp[cellsD]at hx
theorem subD_rel {z:Nat→Nat→Option Value}:∀{s:Sh}{d:D}{g:Nat→Option Value}{o n:Nat} {s':Sh} {d':D},subD arR s d o n=some (s',d')→SRel z s d g→s'.width=n∧SRel z s' d' (fun j=>g (o+j))
 |.two a b,d,g,o,n,s',d',h,hr=>by
  simp only[subD]at h
  split at h
  ·rename_i hc
   simp only[sie,po]at h
   obtain⟨rfl,rfl⟩:=h
   obtain⟨rfl,hw⟩:=hc
   refine⟨hw,?_⟩
   simpa only[Nat.zero_add]using hr
  ·obtain⟨x,y,e,h1,h2⟩:=hr
   subst e
   split at h
   ·exact subD_rel h h1
   ·rename_i hlt
    obtain⟨c1,c2⟩:=subD_rel h h2
    refine⟨c1,?_⟩
    have e:∀j,a.width+(o-a.width+j)=o+j:=fun j=>by omega
    simpa only[e]using c2
 |.int k,d,g,o,n,s',d',h,hr=>by
  simp only[subD]at h
  split at h
  ·rename_i hc
   simp only[sie,po]at h
   obtain⟨rfl,rfl⟩:=h
   obtain⟨rfl,hw⟩:=hc
   exact⟨hw,by simpa only[Nat.zero_add]using hr⟩
  ·cases h
 |.bool,d,g,o,n,s',d',h,hr=>by
  simp only[subD]at h
  split at h
  ·rename_i hc
   simp only[sie,po]at h
   obtain⟨rfl,rfl⟩:=h
   obtain⟨rfl,hw⟩:=hc
   exact⟨hw,by simpa only[Nat.zero_add]using hr⟩
  ·cases h
 |.str,d,g,o,n,s',d',h,hr=>by
  simp only[subD]at h
  split at h
  ·rename_i hc
   simp only[sie,po]at h
   obtain⟨rfl,rfl⟩:=h
   obtain⟨rfl,hw⟩:=hc
   exact⟨hw,by simpa only[Nat.zero_add]using hr⟩
  ·cases h
 |.arr k m,d,g,o,n,s',d',h,hr=>by
  simp only[subD]at h
  split at h
  ·rename_i hc
   simp only[sie,po]at h
   obtain⟨rfl,rfl⟩:=h
   obtain⟨rfl,hw⟩:=hc
   exact⟨hw,by simpa only[Nat.zero_add]using hr⟩
  ·cases h
 |.sl s,d,g,o,n,s',d',h,hr=>by
  simp only[subD]at h
  split at h
  ·rename_i hc
   simp only[sie,po]at h
   obtain⟨rfl,rfl⟩:=h
   obtain⟨rfl,hw⟩:=hc
   exact⟨hw,by simpa only[Nat.zero_add]using hr⟩
  ·cases h
theorem zok_cell {z:Nat→Nat→Option Value}{w:World}(hz:ZOk z w) {r i:Nat}{v:Value}(h:z r i=some v):w.cell? ⟨r,i,none⟩=some v:=by
 obtain⟨c,ty,fz,e1,e2⟩:=hz r i v h
 simp[World.cell?,e1,e2]
theorem one1_cell' {v:Value}(h:one1 v=true):v.oneCell'=true:=by
 cases v<;>simp_all[one1,Value.oneCell']
theorem valD_load {ρ:Ren}{w:World}(hz:ZOk ρ.z w){s:Sh}{d:D}{r o:Nat}(hs:SRel ρ.z s d (fun j=>ρ.z r (o+j))){agg:Bool}{x:A}(h:valD arR s d agg=some x):
 (agg=true→∃arr,(loadCells ⟨r,o,none⟩ s.width).run P w=.ok arr w∧ARel ρ x (.agg arr))∧(agg=false→∃v,w.cell? ⟨r,o,none⟩=some v∧ARel ρ x v):=by
 obtain⟨hl,hc⟩:=cellsD_rel hs
 constructor
 ·rintro rfl
  have hv:∀j,j<s.width→∃v,ρ.z r (o+j)=some v:=fun j hj=>by
   obtain⟨v,e,-⟩:=hc j _ (geg (by rw[hl];exact hj))
   exact⟨v,e⟩
  have hrun:=run_loadCells_list (P:=P) w ⟨r,o,none⟩ ((List.range s.width).map fun j=>(ρ.z r (o+j)).getD undef) (fun j v hj=>by
   rw[List.getElem?_map,oms]at hj
   obtain⟨y,hy,rfl⟩:=hj
   have hjw:j<s.width:=by
    have:=(ges hy).1
    simpa using this
   rw[List.getElem?_range hjw]at hy
   simp only[sie]at hy
   subst hy
   obtain⟨v,e⟩:=hv j hjw
   rw[addr_add,zok_cell hz e,e];rfl)
  rw[List.length_map,List.length_range]at hrun
  refine⟨_,hrun,?_⟩
  have harr:∀j,j<s.width→∀u,ρ.z r (o+j)=some u→((List.range s.width).map fun j=>(ρ.z r (o+j)).getD undef).toArray[j]? = some u:=by
   intro j hj u hu
   rw[List.getElem?_toArray,List.getElem?_map,List.getElem?_range hj]
   simp only[Option.map_some,hu,Option.getD_some]
  have gen:∀g:G,g.len=s.width→(∀(j:Nat) y,g.at j=some y→(cellsD arR s d)[j]? = some y)→GRel ρ g ((List.range s.width).map fun j=>(ρ.z r (o+j)).getD undef).toArray:=by
   intro g e1 e2
   refine⟨by simp[e1],fun j y hy=>?_⟩
   have hy':=e2 j y hy
   obtain⟨v,f1,f2⟩:=hc j y hy'
   have hj:j<s.width:=by
    have:=(ges hy').1
    omega
   exact⟨v,harr j hj v f1,f2⟩
  simp only[valD,if_true]at h
  split at h
  ·rename_i k m
   simp only[sie]at h
   subst h
   refine⟨_,rfl,gen _ rfl fun j y hy=>?_⟩
   simp only[G.at]at hy
   split at hy
   ·rename_i hj
    have hj:j<m:=hj
    simp only[sie]at hy
    subst hy
    simp only[cellsD]
    rw[List.getElem?_map,List.getElem?_range hj];rfl
   ·cases hy
  ·simp only[sie]at h
   subst h
   exact⟨_,rfl,gen _ (by show(cellsP arR [.v s d]).length=_;rw[cellsP_len];simp only[widthP,Pt.width];omega) fun j y hy=>by simpa only[G.at,cellsP,List.append_nil]using hy⟩
 ·rintro rfl
  simp only[valD,Bool.false_eq_true,if_false]at h
  split at h
  ·rename_i c e
   simp only[sie]at h
   subst h
   obtain⟨v,f1,f2⟩:=hc 0 c (by rw[e];rfl)
   exact⟨v,zok_cell hz f1,f2⟩
  ·cases h
theorem run_load0 {w:World}{a:Addr}{v:Value}(h:w.cell? a=some v):(load a).run P w=.ok v w:=by
 simp[load,Sem.run,h]
theorem foldl_push0:∀(ns:List Int) (l:List UInt8),ns.foldl (fun r n=>r.push (UInt8.ofNat n.toNat)) (ByteArray.mk l.toArray)=ByteArray.mk (l++ns.map fun n=>UInt8.ofNat n.toNat).toArray
 | [],l=>by simp
 |n::ns,l=>by
  simp only[List.foldl_cons,List.map_cons]
  have e:(ByteArray.mk l.toArray).push (UInt8.ofNat n.toNat)=ByteArray.mk (l++[UInt8.ofNat n.toNat]).toArray:=by
   show ByteArray.mk (l.toArray.push _)=_
   simp
  rw[e,foldl_push0 ns]
  simp
theorem planSlice_val {ti:TypeId→TI}(hti:TIok P ti){o:Oper}{ev:Operand→V}{eu:Operand→Value}(hev:∀x,VRel ρ (ev x) (eu x)){t:TypeId}{x:Operand}{lo hi:Option Operand}(ho:o.op=.slice t x lo hi none){v:V}{qs:List Prop}
 (hp:planSlice arR ti ev t x lo hi=some (.val v,qs)) (hq:∀q∈qs,q):Pur P ρ (execOp eu o) v:=by
 unfold planSlice at hp
 split at hp
 ·cases hp
 ·rename_i hk
  have hk:(ti t).known=true:=by simpa using hk
  obtain⟨d,hd,ht,-⟩:=(hti t hk).und
  split at hp
  ·rename_i n e b off htd hc
   rw[htd]at ht;cases d<;>simp only[TDRel]at ht
   rename_i n' e'
   obtain⟨rfl,rfl⟩:=ht
   obtain⟨r,oo,hr,ex⟩:=Cof_rel (hev x) hc
   split at hp
   ·cases hp
   ·rename_i hke
    obtain⟨i,hi',his,-⟩:=(hti _ (by simpa using hke)).info
    split at hp
    ·rename_i h ps hh
     split at hp
     ·rename_i l lt qs' hl
      obtain⟨rfl,rfl⟩:=of_val hp
      have h1:=hiOf_ok (ρ:=ρ) hev hh (fun q hx=>hq q (by simp[hx]))
      have h2:=loOf_ok (ρ:=ρ) hev hl (fun q hx=>hq q (by simp[hx]))
      refine fun w hzw=>⟨.slice (some ⟨r,if n'=l.toNat then oo+off.val else oo+off.val+l.toNat*(ti e').size,none⟩) (h.val-l.toNat) (n'-l.toNat),?_,r,oo,hr,?_⟩
      ·have hb:=run_bounds (P:=P) (isS:=false) (len:=n') (cap:=n') (lo:=lo) (hi:=hi) (eu:=eu) (h:=h.val) (l:=l) (by
        rcases h1 with ⟨a,b⟩|h1
        ·exact .inl ⟨a,by rw[b];rfl⟩
        ·exact .inr h1) h2 w
       simp only[execOp,ho,ex,Instr.sliceAt,srb,Go.Eng.run_underlying hd,Result.andThen_ok,Instr.sureAddr,srp,Option.map_none,hb,run_sizeOf hi',his,slice_addr]
      ·simp only[sofN_val,subN_val,N.val_lit]
       by_cases hnl:n'=l.toNat
       ·simp[hnl]
       ·simp[hnl,Nat.add_assoc]
     ·cases hp
    ·cases hp
  ·rename_i e b off len cap htd hc
   rw[htd]at ht;cases d<;>simp only[TDRel]at ht
   rename_i el
   subst ht
   obtain⟨r,oo,hr,ex⟩:=Cof_rel (hev x) hc
   split at hp
   ·cases hp
   ·rename_i hke
    obtain⟨i,hi',his,-⟩:=(hti _ (by simpa using hke)).info
    split at hp
    ·rename_i h ps hh
     split at hp
     ·rename_i l lt qs' hl
      obtain⟨rfl,rfl⟩:=of_val hp
      have h1:=hiOf_ok (ρ:=ρ) hev hh (fun q hx=>hq q (by simp[hx]))
      have h2:=loOf_ok (ρ:=ρ) hev hl (fun q hx=>hq q (by simp[hx]))
      refine fun w hzw=>⟨.slice (some ⟨r,if cap.val=l.toNat then oo+off.val else oo+off.val+l.toNat*(ti el).size,none⟩) (h.val-l.toNat) (cap.val-l.toNat),?_,r,oo,hr,?_⟩
      ·have hb:=run_bounds (P:=P) (isS:=true) (len:=len.val) (cap:=cap.val) (lo:=lo) (hi:=hi) (eu:=eu) (h:=h.val) (l:=l) (by
        rcases h1 with ⟨a,b⟩|h1
        ·exact .inl ⟨a,by rw[b]⟩
        ·exact .inr h1) h2 w
       simp only[execOp,ho,ex,Instr.sliceAt,Instr.slice,srb,Go.Eng.run_underlying hd,Result.andThen_ok,Instr.sureAddr,srp,Option.map_none,hb,run_sizeOf hi',his]
       by_cases hnl:cap.val=l.toNat
       ·simp[hnl]
       ·simp[hnl,addr_add]
      ·simp only[sofN_val,subN_val]
       by_cases hnl:cap.val=l.toNat
       ·simp[hnl]
       ·simp[hnl,Nat.add_assoc]
     ·cases hp
    ·cases hp
  ·rename_i e s xs tok htd hc
   rw[htd]at ht;cases d<;>simp only[TDRel]at ht
   rename_i el
   obtain rfl:el=e:=ht
   have hx:=Cof_rel (hev x) hc
   split at hp
   ·cases hp
   ·rename_i hke
    have hke:(ti el).known=true∧s.width.beq (ti el).size=true:=by simpa using hke
    have hw:s.width=(ti el).size:=Nat.eq_of_beq_eq_true hke.2
    obtain⟨i,hi',his,-⟩:=(hti _ hke.1).info
    split at hp
    ·rename_i h ps hh
     split at hp
     ·rename_i l lt qs' hl
      obtain⟨rfl,rfl⟩:=of_val hp
      have h1:=hiOf_ok (ρ:=ρ) hev hh (fun q hx=>hq q (by simp[hx]))
      have h2:=loOf_ok (ρ:=ρ) hev hl (fun q hx=>hq q (by simp[hx]))
      have hlen:(N.sym (arR.dLen xs)).val=xs.length:=rfl
      have hhl:h.val≤xs.length:=by
       rcases h1 with ⟨-,b⟩|⟨_,_,n,-,-,b1,b2,b3⟩
       ·rw[b];exact Nat.le_refl _
       ·rw[hlen]at b2;omega
      have hll:l.toNat≤h.val:=by
       rcases h2 with ⟨-,b⟩|⟨_,_,-,-,b1,b2⟩
       ·rw[b];exact Nat.zero_le _
       ·omega
      have hcut:arR.dCut xs (arR.tn l) h.val=(xs.take h.val).drop l.toNat:=rfl
      have hlc:(arR.dCut xs (arR.tn l) h.val).length=h.val-l.toNat:=by
       rw[hcut,List.length_drop,List.length_take,Nat.min_eq_left hhl]
      rcases hx with ⟨ex,rfl⟩|⟨r,oo,len,cap,ex,e1,e2,e3,e4⟩
      ·have hb:=run_bounds (P:=P) (isS:=true) (len:=0) (cap:=0) (lo:=lo) (hi:=hi) (eu:=eu) (h:=h.val) (l:=l) (by
        rcases h1 with ⟨a,b⟩|h1
        ·exact .inl ⟨a,by rw[b];rfl⟩
        ·exact .inr h1) h2
       refine fun w hzw=>⟨.slice none 0 0,?_,.inl ⟨rfl,by rw[hcut];simp⟩⟩
       have hl0:l.toNat=0:=by simp at hhl;omega
       have hh0:h.val=0:=by simp at hhl;omega
       simp only[execOp,ho,ex,Instr.sliceAt,Instr.slice,srb,Go.Eng.run_underlying hd,Result.andThen_ok,srp,Option.map_none,hb w,run_sizeOf hi',his,hl0,hh0,if_true]
      ·refine fun w hzw=>⟨.slice (some ⟨r,if cap=l.toNat then oo else oo+l.toNat*(ti el).size,none⟩) (h.val-l.toNat) (cap-l.toNat),?_,.inr ⟨r,if cap=l.toNat then oo else oo+l.toNat*(ti el).size,h.val-l.toNat,cap-l.toNat,rfl,hlc,by omega,fun i x hx=>?_,fun t ht=>?_⟩⟩
       ·have hb:=run_bounds (P:=P) (isS:=true) (len:=len) (cap:=cap) (lo:=lo) (hi:=hi) (eu:=eu) (h:=h.val) (l:=l) (by
         rcases h1 with ⟨a,b⟩|⟨y,k,n,f1,f2,f3,f4,f5⟩
         ·exact .inl ⟨a,by rw[b,hlen,e1]⟩
         ·exact .inr ⟨y,k,n,f1,f2,f3,by rw[hlen]at f4;omega,f5⟩) h2 w
        simp only[execOp,ho,ex,Instr.sliceAt,Instr.slice,srb,Go.Eng.run_underlying hd,Result.andThen_ok,Instr.sureAddr,srp,Option.map_none,hb,run_sizeOf hi',his]
        by_cases hnl:cap=l.toNat
        ·simp[hnl]
        ·simp[hnl,addr_add]
       ·rw[hcut]at hx
        have hi2:i<h.val-l.toNat:=by
         have:=(ges hx).1
         rw[←hcut,hlc]at this;exact this
        rw[List.getElem?_drop,List.getElem?_take_of_lt (by omega)]at hx
        have:=e3 _ x hx
        rw[if_neg (by omega)]
        have ee:∀j,oo+l.toNat*(ti el).size+i*s.width+j=oo+(l.toNat+i)*s.width+j:=fun j=>by
         rw[hw,Nat.add_mul];omega
        simpa only[ee]using this
       ·split at ht
        ·subst ht
         have hhx:h.val=len:=by
          rcases h1 with ⟨-,b⟩|⟨y,k,n,f1,-⟩
          ·rw[b,hlen,e1]
          ·cases f1
         rcases e4 t rfl with e4|⟨e4,e5⟩
         ·left;omega
         ·by_cases hcl:cap=l.toNat
          ·left;omega
          ·right
           rw[if_neg hcl,hhx]
           refine⟨?_,?_⟩
           ·rw[e4,hw,Nat.sub_mul]
            have:=Nat.mul_le_mul_right (ti el).size (show l.toNat≤len by omega)
            congr 2;omega
           ·rw[show cap-l.toNat-(len-l.toNat)=cap-len by omega];exact e5
        ·cases ht
     ·cases hp
    ·cases hp
  ·rename_i s htd hc
   rw[htd]at ht;cases d<;>simp only[TDRel]at ht
   have ex:eu x=.string s:=Cof_rel (hev x) hc
   split at hp
   ·rename_i h ps hh
    split at hp
    ·rename_i l lt qs' hl
     obtain⟨rfl,rfl⟩:=of_val hp
     have h1:=hiOf_ok (ρ:=ρ) hev hh (fun q hx=>hq q (by simp[hx]))
     have h2:=loOf_ok (ρ:=ρ) hev hl (fun q hx=>hq q (by simp[hx]))
     refine fun w hzw=>⟨.string (s.extract l.toNat h.val),?_,rfl⟩
     have hb:=run_bounds (P:=P) (isS:=false) (len:=s.size) (cap:=s.size) (lo:=lo) (hi:=hi) (eu:=eu) (h:=h.val) (l:=l) (by
      rcases h1 with ⟨a,b⟩|h1
      ·exact .inl ⟨a,by rw[b];rfl⟩
      ·exact .inr h1) h2 w
     simp only[execOp,ho,ex,Instr.sliceAt,Instr.slice,srb,Go.Eng.run_underlying hd,Result.andThen_ok,srp,Option.map_none,hb,Option.isSome_none,Bool.false_eq_true,if_false]
    ·cases hp
   ·cases hp
  ·rename_i n e k m d' htd hc
   rw[htd]at ht;cases d<;>simp only[TDRel]at ht
   rename_i n' e'
   obtain⟨rfl,rfl⟩:=ht
   obtain⟨r,oo,ex,l,hl,hm,hs⟩:=Cof_rel (hev x) hc
   split at hp
   ·cases hp
   ·rename_i hke
    have hke:((ti e').known=true∧Nat.beq (ti e').size 1=true)∧Nat.beq m n'=true:=by simpa using hke
    obtain⟨⟨k1,k2⟩,k3⟩:=hke
    have k3:=Nat.eq_of_beq_eq_true k3
    obtain⟨i,hi',his,-⟩:=(hti _ k1).info
    split at hp
    ·obtain rfl:=ok_inv hp
     refine fun w hzw=>⟨.slice (some ⟨r,if n'=(0:Int).toNat then oo else oo+(0:Int).toNat*(ti e').size,none⟩) (n'-(0:Int).toNat) (n'-(0:Int).toNat),?_,.inr ⟨r,oo,n',n',?_,?_,Nat.le_refl _,fun i x hx=>?_,fun t ht=>by cases ht⟩⟩
     ·have hb:=run_bounds (P:=P) (isS:=false) (len:=n') (cap:=n') (lo:=none) (hi:=none) (eu:=eu) (h:=n') (l:=0) (.inl ⟨rfl,rfl⟩) (.inl ⟨rfl,rfl⟩) w
      simp only[Option.map_none]at hb
      simp only[execOp,ho,ex,Instr.sliceAt,srb,Go.Eng.run_underlying hd,Result.andThen_ok,Instr.sureAddr,srp,Option.map_none,hb,run_sizeOf hi',his,slice_addr]
     ·simp
     ·show(d'.row!.map D.int).length=n'
      rw[hl,List.length_map,←k3];exact hm
     ·rw[show arR.dEls d'=d'.row!.map D.int from rfl,hl,List.getElem?_map,oms]at hx
      obtain⟨y,hy,rfl⟩:=hx
      refine⟨y,rfl,?_⟩
      have:=hs i y hy
      simpa [Sh.width]using this
    ·cases hp
  ·cases hp
theorem run_builtin {o:Oper}{b:Builtin}{args:Array Operand}{T:Array TypeId}(ho:o.op=.call {callee:=.builtin b,args:=args,argTypes:=T}){eu:Operand→Value}{v:Value}{w:World}(hb:∀cs,(builtin b T o.type cs (args.map eu)).run P w=.ok (.value v) w):(execOp eu o).run P w=.ok (.value v) w:=by
 simp only[execOp,ho,resolve,srb,srp,Result.andThen_ok,invoke]
 exact hb _
theorem planMin_rel {mx:Bool}{x y:V}{a b:Value}(hx:VRel ρ x a) (hy:VRel ρ y b){v:V}{qs:List Prop}(hp:planMin arR arR mx x y=some (.val v,qs)):∃k n k' m,a=.int k n∧b=.int k' m∧VRel ρ v (.int k (if mx then(if m>n then m else n)else(if m<n then m else n))):=by
 unfold planMin at hp
 split at hp
 ·rename_i c d hc hd
  split at hp
  ·rename_i k n la k' m lb h1 h2
   refine⟨k,n,k',m,(Cof_rel hx hc).of_num h1,(Cof_rel hy hd).of_num h2,?_⟩
   split at hp<;>(obtain rfl:=ok_inv hp;cases mx<;>rfl)
  ·cases hp
 ·cases hp
theorem plan_val {ti:TypeId→TI}(hti:TIok P ti){o:Oper}{ev:Operand→V}{eu:Operand→Value}(hev:∀x,VRel ρ (ev x) (eu x)){v:V}{qs:List Prop}
 (hp:plan arR arR ti ev o.op=some (.val v,qs)) (hq:∀q∈qs,q):Pur P ρ (execOp eu o) v:=by
 cases ho:o.op<;>rw[ho]at hp<;>simp only[plan]at hp
 case move x=>obtain rfl:=ok_inv hp;exact .of (fun w=>by simp[execOp,ho,srp]) (hev x)
 case assign x=>obtain rfl:=ok_inv hp;exact .of (fun w=>by simp[execOp,ho,srp]) (hev x)
 case pick c a b=>
  split at hp
  ·rename_i t hc
   obtain rfl:=ok_inv hp
   have h:=Cof_rel (hev c) hc
   simp only[CRel]at h
   cases t
   ·exact .of (fun w=>by simp[execOp,ho,h,asBool,srb,srp]) (hev b)
   ·exact .of (fun w=>by simp[execOp,ho,h,asBool,srb,srp]) (hev a)
  ·rename_i t hc
   obtain rfl:=ok_inv hp
   have h:=Cof_rel (hev c) hc
   simp only[CRel]at h
   cases t
   ·exact .of (fun w=>by simp[execOp,ho,h,asBool,srb,srp]) (hev b)
   ·exact .of (fun w=>by simp[execOp,ho,h,asBool,srb,srp]) (hev a)
  ·cases hp
 case alloc e=>(repeat' split at hp)<;>simp at hp
 case box e x=>(repeat' split at hp)<;>simp at hp
 case load t x=>
  split at hp
  ·cases hp
  ·rename_i hk
   have hk:(ti t).known=true:=by simpa using hk
   obtain⟨i,hi,his,-⟩:=(hti t hk).info
   obtain⟨d,hd,-,hag⟩:=(hti t hk).und
   split at hp
   ·simp at hp
   ·rename_i s x' hc
    split at hp
    ·rename_i hw
     have hw:=Nat.eq_of_beq_eq_true hw
     split at hp
     ·rename_i y hy
      obtain rfl:=ok_inv hp
      obtain⟨r,oo,ex,hs⟩:=Cof_rel (hev x) hc
      refine fun w hzw=>?_
      obtain⟨l1,l2⟩:=valD_load (P:=P) hzw hs hy
      cases ha:(ti t).agg with
      |true=>
       obtain⟨arr,g1,g2⟩:=l1 ha
       rw[hag]at ha
       refine⟨.agg arr,?_,g2⟩
       rw[hw]at g1
       simp[execOp,ho,ex,Instr.loadAt,Instr.sureAddr,loadVar,srb,srp,run_isAgg hd,ha,run_sizeOf hi,his,g1]
      |false=>
       obtain⟨v,g1,g2⟩:=l2 ha
       rw[hag]at ha
       refine⟨v,?_,g2⟩
       simp only[execOp,ho,ex,Instr.loadAt,Instr.sureAddr,loadVar,srb,srp,run_isAgg hd,ha,Result.andThen_ok,Bool.false_eq_true,if_false,run_load0 g1]
     ·cases hp
    ·cases hp
   ·cases hp
 case store t x y=>(repeat' split at hp)<;>simp at hp
 case buildSlice t n parts=>(repeat' split at hp)<;>simp at hp
 case nilCheck x=>
  split at hp
  ·rename_i b off hc
   obtain rfl:=ok_inv hp
   have h:=Cof_rel (hev x) hc
   obtain⟨r,oo,hr,e⟩:=h
   exact .of (v':=eu x) (fun w=>by simp[execOp,ho,e,srp]) ⟨r,oo,hr,e⟩
  ·cases hp
 case unOp op T x=>
  split at hp
  all_goals first|(cases hp;done)|(rename_i hc;obtain rfl:=ok_inv hp;have h:=Cof_rel (hev x) hc;simp only[CRel]at h)
  all_goals exact fun w hzw=>⟨_,by simp only[execOp,ho,h,Op.unary,Op.intArith,Op.intBits,srb,srp,Result.andThen_ok]<;>rfl,rfl⟩
 case binOp op T x y T'=>
  split at hp
  ·rename_i a b hx hy
   have ex:eu x=.string a:=Aof_rel (hev x) hx
   have ey:eu y=.string b:=Aof_rel (hev y) hy
   unfold planStr at hp
   split at hp
   ·obtain rfl:=ok_inv hp
    exact fun w hzw=>⟨.bool (a.toList == b.toList),by simp[execOp,ho,ex,ey,eqGuard,binOp,Op.stringOp,srb,srp],rfl⟩
   ·obtain rfl:=ok_inv hp
    exact fun w hzw=>⟨.bool (!(a.toList == b.toList)),by simp[execOp,ho,ex,ey,eqGuard,binOp,Op.stringOp,srb,srp],rfl⟩
   ·obtain rfl:=ok_inv hp
    exact fun w hzw=>⟨.bool (Op.bytesLess a.toList b.toList),by simp[execOp,ho,ex,ey,eqGuard,binOp,Op.stringOp,srb,srp],rfl⟩
   ·obtain⟨rfl,rfl⟩:=of_val hp
    have hfit:((a.size+b.size:Nat):Int)≤9223372036854775807:=hq (arR.sfit a b) (by simp)
    have hfit:¬((a.size+b.size:Nat):Int)>IntKind.i64.max:=by
     have:IntKind.i64.max=9223372036854775807:=rfl
     omega
    exact fun w hzw=>⟨.string (a++b),by simp only[execOp,ho,ex,ey,eqGuard,binOp,Op.stringOp,if_neg hfit];simp[srb,srp],rfl⟩
   ·cases hp
  ·rename_i x' y' hx hy
   have rx:=Aof_rel (hev x) hx
   have ry:=Aof_rel (hev y) hy
   split at hp
   ·exact pur_bin ho rfl rfl rx ry hp hq
   ·split at hp
    ·rename_i c hc
     obtain rfl:=ok_inv hp
     refine fun w hzw=>?_
     obtain⟨r,h1,h2,h3,h4,h5,h6⟩:=run_planEq (hti T) rx ry hc w
     exact⟨.bool r,by simp[execOp,ho,srb,h4,h5,h1,srp],h2⟩
    ·rename_i c hc
     obtain rfl:=ok_inv hp
     refine fun w hzw=>?_
     obtain⟨r,h1,h2,h3,h4,h5,h6⟩:=run_planEq (hti T) rx ry hc w
     exact⟨.bool (!r),by simp[execOp,ho,srb,h4,h6,h1,srp],h3⟩
    ·cases hp
  ·rename_i x' y' hx hy
   obtain⟨xs,ex,rx⟩:=Aof_rel (hev x) hx
   obtain⟨ys,ey,ry⟩:=Aof_rel (hev y) hy
   split at hp
   ·rename_i c hc
    obtain rfl:=ok_inv hp
    refine fun w hzw=>?_
    obtain⟨r,h1,h2,h3,h4⟩:=run_planAgg hti rx ry hc w
    exact⟨.bool r,by rw[execOp];simp[ho,ex,ey,srb,h4,binOp,h1,srp],h2⟩
   ·rename_i c hc
    obtain rfl:=ok_inv hp
    refine fun w hzw=>?_
    obtain⟨r,h1,h2,h3,h4⟩:=run_planAgg hti rx ry hc w
    exact⟨.bool (!r),by rw[execOp];simp[ho,ex,ey,srb,h4,binOp,h1,srp],h3⟩
   ·cases hp
  ·cases hp
 case extract t i=>
  split at hp
  ·rename_i l hl
   split at hp
   ·rename_i x hx
    obtain rfl:=ok_inv hp
    have h:=hev t
    rw[hl]at h
    obtain⟨arr,e,-,h⟩:=h
    obtain⟨u,hu,hr⟩:=h i x hx
    exact .of (v':=u) (fun w=>by simp[execOp,ho,e,Instr.extract,hu,srb,srp]) hr
   ·cases hp
  ·cases hp
 case convert src dst x=>
  split at hp
  ·cases hp
  ·rename_i hk
   have hk:(ti src).known=true∧(ti dst).known=true:=by simpa using hk
   obtain⟨d1,hd1,ht1,-⟩:=(hti src hk.1).und
   obtain⟨d2,hd2,ht2,-⟩:=(hti dst hk.2).und
   split at hp
   case h_3 xs tok hc htd=>
    split at hp
    ·rename_i e hte
     split at hp
     ·cases hp
     ·rename_i hke
      obtain⟨d3,hd3,ht3,-⟩:=(hti e (by simpa using hke)).und
      split at hp
      ·rename_i htde
       obtain rfl:=ok_inv hp
       rw[hte]at ht1;cases d1<;>simp only[TDRel]at ht1
       rename_i el
       obtain rfl:el=e:=ht1
       rw[htd]at ht2;cases d2<;>simp only[TDRel]at ht2
       rw[htde]at ht3;cases d3<;>simp only[TDRel]at ht3
       subst ht3
       refine fun w hzw=>?_
       rcases Cof_rel (hev x) hc with ⟨ex,rfl⟩|⟨r,oo,len,cap,ex,e1,e2,e3,-⟩
       ·have hconv:=run_convert_bytes_string (P:=P) w src dst el none 0 0 hd1 hd3 hd2
        refine⟨.string .empty,?_,rfl⟩
        simp only[execOp,ho,ex,srb,hconv,Conv.bytesToString,srp,Result.andThen_ok]
       ·have hcell:∀(j:Nat) y,xs[j]? = some y→∃n,y=.int n∧ρ.z r (oo+j)=some (.int .u8 n):=by
         intro j y hy
         obtain⟨n,f1,f2⟩:=e3 j y hy
         exact⟨n,f1,by simpa [Sh.width]using f2⟩
        have hld:=run_loadCells_list (P:=P) w ⟨r,oo,none⟩ ((xs.map D.int!).map (Value.int .u8)) (fun j v hj=>by
         rw[List.map_map,List.getElem?_map,oms]at hj
         obtain⟨y,hy,rfl⟩:=hj
         obtain⟨n,rfl,f2⟩:=hcell j y hy
         rw[addr_add,zok_cell hzw f2];rfl)
        rw[List.length_map,List.length_map,e1]at hld
        have hrun:=run_bytesToString (P:=P) w ⟨r,oo,none⟩ len cap (xs.map D.int!) hld
        have hstr:(xs.map D.int!).foldl (fun r n=>r.push (UInt8.ofNat n.toNat)) ByteArray.empty=arR.dTxt xs:=by
         have:=foldl_push0 (xs.map D.int!) []
         rw[show ByteArray.empty=ByteArray.mk ([]:List UInt8).toArray from rfl,this]
         simp[arR]
        rw[hstr]at hrun
        have hconv:=run_convert_bytes_string (P:=P) w src dst el (some ⟨r,oo,none⟩) len cap hd1 hd3 hd2
        rw[hrun]at hconv
        refine⟨.string (arR.dTxt xs),?_,rfl⟩
        simp only[execOp,ho,ex,srb,hconv,srp,Result.andThen_ok]
      ·cases hp
    ·cases hp
   case h_4=>(repeat' split at hp)<;>cases hp
   all_goals first|(cases hp;done)|(rename_i hc htd;obtain rfl:=ok_inv hp;have h:=Cof_rel (hev x) hc;simp only[CRel]at h;rw[htd]at ht2;cases d2<;>simp only[TDRel]at ht2;subst ht2)
   all_goals exact .of (v':=.int _ _) (fun w=>by simp[execOp,ho,h,convert,srb,Go.Eng.run_underlying hd1,Go.Eng.run_underlying hd2,Conv.intToInt,srp];rfl) rfl
 case fieldAddr st x f=>
  split at hp
  ·cases hp
  ·rename_i hk
   have hk:(ti st).known=true:=by simpa using hk
   obtain⟨d,hd,ht,-⟩:=(hti st hk).und
   split at hp
   ·rename_i b off fs hc htd
    split at hp
    ·rename_i o' ft hf
     split at hp
     ·rename_i hkf
      have hkf:(ti ft).known=true∧(ti ft).size≠0:=by simpa using hkf
      obtain⟨i,hi,his,-⟩:=(hti ft hkf.1).info
      obtain rfl:=ok_inv hp
      obtain⟨r,oo,hr,e⟩:=Cof_rel (hev x) hc
      rw[htd]at ht;cases d<;>simp only[TDRel]at ht
      rename_i fields
      subst ht
      simp only[List.getElem?_map,Array.getElem?_toList,oms,po]at hf
      obtain⟨fd,hfd,rfl,rfl⟩:=hf
      refine fun w hzw=>⟨_,by simp only[execOp,ho,e,Instr.fieldAt,srb,Go.Eng.run_underlying hd,Result.andThen_ok,hfd,Instr.sureAddr,srp,fieldPlace,run_sizeOf hi,his,hkf.2,if_false,addr_add]<;>rfl,r,oo,hr,?_⟩
      simp only[N.val_lit,Nat.add_assoc]
     ·cases hp
    ·cases hp
   ·rename_i sh dd fs hc htd
    split at hp
    ·rename_i o' ft hf
     split at hp
     ·rename_i hkf
      have hkf:(ti ft).known=true∧(ti ft).size≠0:=by simpa using hkf
      obtain⟨i,hi,his,-⟩:=(hti ft hkf.1).info
      split at hp
      ·rename_i sh' d' hsub
       obtain rfl:=ok_inv hp
       obtain⟨r,oo,e,hs⟩:=Cof_rel (hev x) hc
       rw[htd]at ht;cases d<;>simp only[TDRel]at ht
       rename_i fields
       subst ht
       simp only[List.getElem?_map,Array.getElem?_toList,oms,po]at hf
       obtain⟨fd,hfd,rfl,rfl⟩:=hf
       obtain⟨-,hs'⟩:=subD_rel hsub hs
       refine fun w hzw=>⟨_,by simp only[execOp,ho,e,Instr.fieldAt,srb,Go.Eng.run_underlying hd,Result.andThen_ok,hfd,Instr.sureAddr,srp,fieldPlace,run_sizeOf hi,his,hkf.2,if_false,addr_add]<;>rfl,r,oo+fd.offset,rfl,?_⟩
       simpa only[Nat.add_assoc]using hs'
      ·cases hp
     ·cases hp
    ·cases hp
   ·cases hp
 case field st x f=>
  split at hp
  ·cases hp
  ·rename_i hk
   have hk:(ti st).known=true:=by simpa using hk
   obtain⟨d,hd,ht,-⟩:=(hti st hk).und
   split at hp
   ·rename_i g fs hc htd
    obtain⟨arr,e,hg⟩:=Aof_rel (hev x) hc
    rw[htd]at ht;cases d<;>simp only[TDRel]at ht
    rename_i fields
    subst ht
    split at hp
    ·rename_i o' ft hf
     simp only[List.getElem?_map,Array.getElem?_toList,oms,po]at hf
     obtain⟨fd,hfd,rfl,rfl⟩:=hf
     split at hp
     ·cases hp
     ·rename_i hkf
      have hkf:(ti fd.type).known=true:=by simpa using hkf
      obtain⟨i,hi,his,-⟩:=(hti _ hkf).info
      obtain⟨d',hd',-,hag⟩:=(hti _ hkf).und
      split at hp
      ·rename_i ha
       rw[hag]at ha
       split at hp
       ·rename_i g' ps hcut
        obtain⟨rfl,rfl⟩:=of_val hp
        have:=cut_rel hg hcut hq
        refine fun w hzw=>⟨_,by simp only[execOp,ho,e,Instr.field,srb,Go.Eng.run_underlying hd,Result.andThen_ok,hfd,asAgg,part,run_isAgg hd',ha,if_true,run_sizeOf hi,his,srp]<;>rfl,_,rfl,this⟩
       ·cases hp
      ·rename_i ha
       have ha:aggOf d'=false:=by rw[←hag];simpa using ha
       split at hp
       ·rename_i c ps hget
        obtain⟨rfl,rfl⟩:=of_val hp
        obtain⟨u,hu,hc⟩:=hg.2 _ _ (get_at hget hq)
        simp only[N.val_lit]at hu
        refine fun w hzw=>⟨u,by simp[execOp,ho,e,Instr.field,srb,Go.Eng.run_underlying hd,Result.andThen_ok,hfd,asAgg,part,run_isAgg hd',ha,hu,srp],hc⟩
       ·cases hp
    ·cases hp
   ·cases hp
 case indexAddr t x i=>
  split at hp
  ·cases hp
  ·rename_i hk
   have hk:(ti t).known=true:=by simpa using hk
   obtain⟨d,hd,ht,-⟩:=(hti t hk).und
   split at hp
   ·rename_i cj hcj
    split at hp
    ·rename_i k j lt hnum
     have ei:=(Cof_rel (hev i) hcj).of_num hnum
     split at hp
     ·rename_i b off len el hc htd
      obtain⟨r,oo,hr,e⟩:=Cof_rel (hev x) hc
      rw[htd]at ht;cases d<;>simp only[TDRel]at ht
      obtain⟨rfl,rfl⟩:=ht
      split at hp
      ·cases hp
      ·rename_i hke
       obtain⟨i',hi,his,-⟩:=(hti _ (by simpa using hke)).info
       split at hp
       ·rename_i ps hin
        obtain⟨rfl,rfl⟩:=of_val hp
        have hb:=inR_ok hin hq
        simp only[N.val_lit]at hb
        refine fun w hzw=>⟨_,by simp only[execOp,ho,e,ei,Instr.indexAt,asIntOf,srb,srp,Go.Eng.run_underlying hd,Result.andThen_ok,Instr.sureAddr,if_pos hb,run_sizeOf hi,his,addr_add]<;>rfl,r,oo,hr,?_⟩
        rw[addN_val,Nat.add_assoc]
       ·cases hp
     ·rename_i b off len cap el hc htd
      obtain⟨r,oo,hr,e⟩:=Cof_rel (hev x) hc
      rw[htd]at ht;cases d<;>simp only[TDRel]at ht
      subst ht
      split at hp
      ·cases hp
      ·rename_i hke
       obtain⟨i',hi,his,-⟩:=(hti _ (by simpa using hke)).info
       split at hp
       ·rename_i ps hin
        obtain⟨rfl,rfl⟩:=of_val hp
        have hb:=inR_ok hin hq
        refine fun w hzw=>⟨_,by simp only[execOp,ho,e,ei,Instr.indexAt,asIntOf,srb,srp,Go.Eng.run_underlying hd,Result.andThen_ok,if_pos hb,run_sizeOf hi,his,addr_add]<;>rfl,r,oo,hr,?_⟩
        rw[addN_val,Nat.add_assoc]
       ·cases hp
     ·rename_i s xs tok el hc htd
      rw[htd]at ht;cases d<;>simp only[TDRel]at ht
      rename_i el'
      obtain rfl:el'=el:=ht
      split at hp
      ·cases hp
      ·rename_i hke
       obtain⟨i',hi,his,-⟩:=(hti _ (by simpa using hke)).info
       split at hp
       ·rename_i hw
        have hw:=Nat.eq_of_beq_eq_true hw
        obtain⟨rfl,rfl⟩:=of_val hp
        have hb:0≤j∧j<(xs.length:Int):=hq (arR.inb j (arR.dLen xs)) (by simp)
        rcases Cof_rel (hev x) hc with ⟨ex,rfl⟩|⟨r,oo,len,cap,ex,e1,e2,e3,-⟩
        ·simp at hb;omega
        ·have hb':0≤j∧j<(len:Int):=by rw[←e1];exact hb
         refine fun w hzw=>⟨_,by simp only[execOp,ho,ex,ei,Instr.indexAt,asIntOf,srb,srp,Go.Eng.run_underlying hd,Result.andThen_ok,if_pos hb',run_sizeOf hi,his,addr_add]<;>rfl,r,oo+j.toNat*(ti el').size,rfl,?_⟩
         have hj:j.toNat<xs.length:=by omega
         have:=e3 j.toNat _ (geg hj)
         rw[hw]at this
         show SRel ρ.z s (xs.getD j.toNat (.int 0)) _
         rw[List.getD_eq_getElem?_getD,geg hj]
         exact this
       ·cases hp
     ·rename_i k' m dd len el hc htd
      rw[htd]at ht;cases d<;>simp only[TDRel]at ht
      obtain⟨rfl,rfl⟩:=ht
      obtain⟨r,oo,e,l,rfl,hl,hs⟩:=Cof_rel (hev x) hc
      split at hp
      ·cases hp
      ·rename_i hke
       obtain⟨i',hi,his,-⟩:=(hti _ (by simpa using hke)).info
       split at hp
       ·rename_i hw
        simp only[bat]at hw
        have hw1:=Nat.eq_of_beq_eq_true hw.1
        have hw2:=Nat.eq_of_beq_eq_true hw.2
        split at hp
        ·rename_i ps hin
         obtain⟨rfl,rfl⟩:=of_val hp
         have hb:=inR_ok hin hq
         simp only[N.val_lit]at hb
         refine fun w hzw=>⟨_,by simp only[execOp,ho,e,ei,Instr.indexAt,asIntOf,srb,srp,Go.Eng.run_underlying hd,Result.andThen_ok,Instr.sureAddr,if_pos hb,run_sizeOf hi,his,addr_add]<;>rfl,r,oo+j.toNat*_,rfl,l.getD j.toNat 0,rfl,?_⟩
         have hj:j.toNat<l.length:=by omega
         have:=hs j.toNat _ (geg hj)
         rw[hw1,Nat.mul_one]
         show ρ.z r (oo+j.toNat+0)=some (Value.int k' (l.getD j.toNat 0))
         rw[Nat.add_zero,List.getD_eq_getElem?_getD,geg hj]
         exact this
        ·cases hp
       ·cases hp
     ·cases hp
    ·cases hp
   ·cases hp
 case index t x i=>
  split at hp
  ·cases hp
  ·rename_i hk
   have hk:(ti t).known=true:=by simpa using hk
   obtain⟨d,hd,ht,-⟩:=(hti t hk).und
   split at hp
   ·rename_i cj hcj
    split at hp
    ·rename_i k j lt hnum
     have ei:=(Cof_rel (hev i) hcj).of_num hnum
     split at hp
     ·rename_i g len el hc htd
      obtain⟨arr,e,hg⟩:=Aof_rel (hev x) hc
      rw[htd]at ht;cases d<;>simp only[TDRel]at ht
      rename_i len' el'
      obtain⟨rfl,rfl⟩:=ht
      split at hp
      ·cases hp
      ·rename_i hke
       have hke:((ti el').known=true∧(ti el').agg=false)∧(ti el').size=1:=by simpa using hke
       obtain⟨i',hi,his,-⟩:=(hti _ hke.1.1).info
       obtain⟨d',hd',-,hag⟩:=(hti _ hke.1.1).und
       have ha:aggOf d'=false:=by rw[←hag];exact hke.1.2
       split at hp
       ·rename_i ps hin
        split at hp
        ·rename_i c qs' hget
         obtain⟨rfl,rfl⟩:=of_val hp
         have hb:=inR_ok hin (fun q h=>hq q (by simp[h]))
         simp only[N.val_lit]at hb
         obtain⟨u,hu,hc⟩:=hg.2 _ _ (get_at hget (fun q h=>hq q (by simp[h])))
         simp only[addN_val,N.val_lit,Nat.mul_one,Nat.zero_add]at hu
         refine fun w hzw=>⟨u,by simp[execOp,ho,e,ei,Instr.index,asIntOf,srb,srp,Go.Eng.run_underlying hd,Result.andThen_ok,hb,run_sizeOf hi,his,hke.2,part,run_isAgg hd',ha,hu],hc⟩
        ·cases hp
       ·cases hp
     ·rename_i s hc htd
      have e:eu x=.string s:=Aof_rel (hev x) hc
      rw[htd]at ht;cases d<;>simp only[TDRel]at ht
      obtain⟨rfl,rfl⟩:=of_val hp
      have hb:0≤j∧j<(s.size:Int):=hq (arR.inb j (arR.sz s)) (by simp)
      have hlt:j.toNat<s.size:=by omega
      refine fun w hzw=>⟨.int .u8 ((s[j.toNat]?.getD 0).toNat:Nat),?_,rfl⟩
      simp only[execOp,ho,e,ei,srb,run_index_string w t s k j hd,dif_pos hb,Result.andThen_ok,srp]
      rw[ByteArray.getElem?_lt' s _ hlt];rfl
     ·cases hp
    ·cases hp
   ·cases hp
 case build t parts=>
  split at hp
  ·cases hp
  ·rename_i hk
   have hk:(ti t).known=true:=by simpa using hk
   obtain⟨d,hd,ht,-⟩:=(hti t hk).und
   obtain⟨i0,hi0,-,-,hz⟩:=(hti t hk).info
   split at hp
   ·rename_i fs z htd hzero
    obtain⟨zv,hzv,zr⟩:=hz _ hzero
    obtain⟨zarr,rfl,zg⟩:=zr
    rw[htd]at ht;cases d<;>simp only[TDRel]at ht
    rename_i fields
    subst ht
    split at hp
    ·rename_i ps hps
     split at hp
     ·rename_i r hr
      obtain rfl:=ok_inv hp
      have hfi:∀f∈fields,∀w,(do pure (f.offset,←sizeOf f.type):Sem (Nat×Nat)).run P w=.ok (f.offset,((P.info? f.type).map (·.size)).getD 0) w:=by
       intro f hf w
       obtain⟨i,hi⟩:=(hti t hk).fields _ hd f hf
       simp[srb,run_sizeOf hi,hi,srp]
      have hpl:=mapM_some_length hps
      obtain⟨c',hc1,hc2⟩:=fill_rel (place:=fun n=>(fields.map fun f=>(f.offset,((P.info? f.type).map (·.size)).getD 0))[n]?) (ps:=ps) (parts:=(parts.map fun(i,x)=>(i,eu x)).toList) (cs:=z) (r:=r) (c:=zarr)
       (by rw[hpl];simp) (by
         intro j off l i v h1 h2
         have hj:j<parts.toList.length:=by
          have:=(ges h1).1;omega
         obtain⟨y,hy,hr'⟩:=mapM_some_get hps j _ (geg hj)
         simp only[Array.toList_map,List.getElem?_map,geg hj,Option.map_some,sie]at h2
         rw[h1]at hr'
         simp only[sie]at hr'
         subst hr'
         generalize parts.toList[j]=q at hy h2
         obtain⟨qi,qx⟩:=q
         simp only[po]at h2
         obtain⟨rfl,rfl⟩:=h2
         unfold partOf at hy
         split at hy
         ·rename_i off' ft v' hf hA
          split at hy
          ·cases hy
          ·rename_i hkf
           have hkf:(ti ft).known=true:=by simpa using hkf
           obtain⟨i1,hi1,his1,-⟩:=(hti _ hkf).info
           split at hy
           ·rename_i l' hl'
            split at hy
            ·rename_i hlen
             simp only[sie,po]at hy
             obtain⟨rfl,rfl⟩:=hy
             simp only[List.getElem?_map,Array.getElem?_toList,oms,po]at hf
             obtain⟨fd,hfd,rfl,rfl⟩:=hf
             refine⟨by simp[hfd,hi1,his1,hlen],list_rel (gr_rel (Aof_rel (hev qx) hA)) hl'⟩
            ·cases hy
           ·cases hy
         ·cases hy) (GRel.ext (Sub.empty ρ) zg) hr
      refine fun w hzw=>⟨.agg c',?_,c',rfl,hc2⟩
      simp only[execOp,ho,Instr.build,srb,zeroValue,run_typeInfo hi0,Result.andThen_ok,hzv,srp,Go.Eng.run_underlying hd,Value.cells]
      rw[run_mapM fields (fun f hf=>hfi f hf w)]
      simp only[Result.andThen_ok]
      rw[hc1]
      simp only[srp,Result.andThen_ok]
     ·cases hp
    ·cases hp
   ·rename_i fs z htd hzero
    obtain⟨zv,hzv,zr⟩:=hz _ hzero
    obtain⟨zarr,rfl,zg⟩:=zr
    rw[htd]at ht;cases d<;>simp only[TDRel]at ht
    rename_i fields
    subst ht
    split at hp
    ·rename_i ps hps
     split at hp
     ·rename_i r hr
      obtain rfl:=ok_inv hp
      have hfi:∀f∈fields,∀w,(do pure (f.offset,←sizeOf f.type):Sem (Nat×Nat)).run P w=.ok (f.offset,((P.info? f.type).map (·.size)).getD 0) w:=by
       intro f hf w
       obtain⟨i,hi⟩:=(hti t hk).fields _ hd f hf
       simp[srb,run_sizeOf hi,hi,srp]
      have hpl:=mapM_some_length hps
      obtain⟨c',hc1,hc2⟩:=fill_rel (place:=fun n=>(fields.map fun f=>(f.offset,((P.info? f.type).map (·.size)).getD 0))[n]?) (ps:=ps.map fun p=>(p.1,cellsP arR p.2)) (parts:=(parts.map fun(i,x)=>(i,eu x)).toList) (cs:=cellsP arR z) (r:=cellsP arR r) (c:=zarr)
       (by rw[List.length_map,hpl];simp) (by
         intro j off l i v h1 h2
         rw[List.getElem?_map,oms]at h1
         obtain⟨⟨off1,l1⟩,h1,h1'⟩:=h1
         simp only[po]at h1'
         obtain⟨rfl,rfl⟩:=h1'
         have hj:j<parts.toList.length:=by
          have:=(ges h1).1;omega
         obtain⟨y,hy,hr'⟩:=mapM_some_get hps j _ (geg hj)
         simp only[Array.toList_map,List.getElem?_map,geg hj,Option.map_some,sie]at h2
         rw[h1]at hr'
         simp only[sie]at hr'
         subst hr'
         generalize parts.toList[j]=q at hy h2
         obtain⟨qi,qx⟩:=q
         simp only[po]at h2
         obtain⟨rfl,rfl⟩:=h2
         unfold partOfP at hy
         split at hy
         ·rename_i off' ft v' hf hA
          split at hy
          ·cases hy
          ·rename_i hkf
           have hkf:(ti ft).known=true:=by simpa using hkf
           obtain⟨i1,hi1,his1,-⟩:=(hti _ hkf).info
           split at hy
           ·rename_i l' hl'
            split at hy
            ·rename_i hlen
             simp only[sie,po]at hy
             obtain⟨rfl,rfl⟩:=hy
             simp only[List.getElem?_map,Array.getElem?_toList,oms,po]at hf
             obtain⟨fd,hfd,rfl,rfl⟩:=hf
             exact⟨by rw[cellsP_len];simp[hfd,hi1,his1,hlen],parts_rel (gr_rel (Aof_rel (hev qx) hA)) hl'⟩
            ·cases hy
           ·cases hy
         ·cases hy) (GRel.ext (Sub.empty ρ) zg) (fillP_L hr)
      refine fun w hzw=>⟨.agg c',?_,c',rfl,hc2⟩
      simp only[execOp,ho,Instr.build,srb,zeroValue,run_typeInfo hi0,Result.andThen_ok,hzv,srp,Go.Eng.run_underlying hd,Value.cells]
      rw[run_mapM fields (fun f hf=>hfi f hf w)]
      simp only[Result.andThen_ok]
      rw[hc1]
      simp only[srp,Result.andThen_ok]
     ·cases hp
    ·cases hp
   ·rename_i n' el0 k n f htd hzero
    obtain⟨zv,hzv,zr⟩:=hz _ hzero
    obtain⟨zarr,rfl,zg⟩:=zr
    rw[htd]at ht;cases d<;>simp only[TDRel]at ht
    rename_i n'' el
    obtain⟨rfl,rfl⟩:=ht
    split at hp
    ·rename_i hke
     have hke:(ti el).known=true∧(ti el).size=1:=by simpa using hke
     split at hp
     ·rename_i f' hf'
      obtain rfl:=ok_inv hp
      obtain⟨i1,hi1,his1,-⟩:=(hti _ hke.1).info
      obtain⟨c',e1,e2⟩:=fillI_rel hev (ps:=parts.toList) (GRel.ext (Sub.empty ρ) zg) hf'
      refine fun w hzw=>⟨.agg c',?_,c',rfl,e2⟩
      simp only[execOp,ho,Instr.build,srb,zeroValue,run_typeInfo hi0,Result.andThen_ok,hzv,srp,Go.Eng.run_underlying hd,Value.cells,run_sizeOf hi1,his1,hke.2,Array.toList_map]
      rw[e1]
      simp only[srp,Result.andThen_ok]
     ·cases hp
    ·cases hp
   ·rename_i n' el0 z htd hzero
    obtain⟨zv,hzv,zr⟩:=hz _ hzero
    obtain⟨zarr,rfl,zg⟩:=zr
    rw[htd]at ht;cases d<;>simp only[TDRel]at ht
    rename_i n'' el
    obtain⟨rfl,rfl⟩:=ht
    split at hp
    ·rename_i hke
     have hke:(ti el).known=true∧(ti el).size=1:=by simpa using hke
     split at hp
     ·rename_i ps hps
      split at hp
      ·rename_i r hr
       obtain rfl:=ok_inv hp
       obtain⟨i1,hi1,his1,-⟩:=(hti _ hke.1).info
       have hpl:=mapM_some_length hps
       obtain⟨c',e1,e2⟩:=fill_rel (place:=fun i=>some (i*1,1)) (ps:=ps) (parts:=parts.toList.map fun p=>(p.1,eu p.2)) (cs:=z) (r:=r) (c:=zarr)
        (by rw[hpl];simp) (by
          intro j off l i v h1 h2
          have hj:j<parts.toList.length:=by
           have:=(ges h1).1;omega
          obtain⟨y,hy,hr'⟩:=mapM_some_get hps j _ (geg hj)
          simp only[List.getElem?_map,geg hj,Option.map_some,sie]at h2
          rw[h1]at hr'
          simp only[sie]at hr'
          subst hr'
          generalize parts.toList[j]=q at hy h2
          obtain⟨qi,qx⟩:=q
          simp only[po]at h2
          obtain⟨rfl,rfl⟩:=h2
          unfold partOf1 at hy
          split at hy
          ·rename_i cx hcx
           simp only[sie,po]at hy
           obtain⟨rfl,rfl⟩:=hy
           have hv:=Cof_rel (hev qx) hcx
           refine⟨rfl,?_⟩
           rw[hv.cells]
           refine⟨rfl,fun m x hx=>?_⟩
           cases m with
           |zero=>simp at hx;subst hx;exact⟨_,rfl,hv⟩
           |succ m=>simp at hx
          ·cases hy) (GRel.ext (Sub.empty ρ) zg) hr
       refine fun w hzw=>⟨.agg c',?_,c',rfl,e2⟩
       simp only[execOp,ho,Instr.build,srb,zeroValue,run_typeInfo hi0,Result.andThen_ok,hzv,srp,Go.Eng.run_underlying hd,Value.cells,run_sizeOf hi1,his1,hke.2,Array.toList_map]
       rw[e1]
       simp only[srp,Result.andThen_ok]
      ·cases hp
     ·cases hp
    ·cases hp
   ·cases hp
 case slice t x lo hi mx=>
  split at hp
  ·rename_i hm
   exact planSlice_val hti hev ho hp hq
  ·unfold planCut0 at hp
   (repeat' split at hp)<;>cases hp
 case makeSlice t l c=>
  unfold planMake at hp
  (repeat' split at hp)<;>cases hp
 case sliceToArrayPointer t x=>
  split at hp
  ·cases hp
  ·rename_i hk
   have hk:(ti t).known=true:=by simpa using hk
   obtain⟨d,hd,ht,-⟩:=(hti t hk).und
   split at hp
   ·rename_i n e b off len cap htd hc
    rw[htd]at ht;cases d<;>simp only[TDRel]at ht
    obtain⟨rfl,rfl⟩:=ht
    obtain⟨r,oo,hr,ex⟩:=Cof_rel (hev x) hc
    split at hp
    ·rename_i hle
     obtain rfl:=ok_inv hp
     refine fun w hzw=>⟨.pointer (some ⟨r,oo+off.val,none⟩),?_,r,oo,hr,rfl⟩
     simp[execOp,ho,ex,Instr.arrayAt,srb,Go.Eng.run_underlying hd,srp,Nat.not_lt.2 hle]
    ·cases hp
   ·rename_i n e b off len cap htd hc
    rw[htd]at ht;cases d<;>simp only[TDRel]at ht
    obtain⟨rfl,rfl⟩:=ht
    obtain⟨r,oo,hr,ex⟩:=Cof_rel (hev x) hc
    obtain⟨rfl,rfl⟩:=of_val hp
    have hle:=hq _ (List.mem_singleton.2 rfl)
    simp only[arR]at hle
    refine fun w hzw=>⟨.pointer (some ⟨r,oo+off.val,none⟩),?_,r,oo,hr,rfl⟩
    simp[execOp,ho,ex,Instr.arrayAt,srb,Go.Eng.run_underlying hd,srp,Nat.not_lt.2 hle]
   ·rename_i n e k xs tok htd hc
    rw[htd]at ht;cases d<;>simp only[TDRel]at ht
    rename_i n' e'
    obtain⟨rfl,rfl⟩:=ht
    split at hp
    ·rename_i hcond
     simp only[bat]at hcond
     have h0:0<n':=Nat.le_of_ble_eq_true hcond.2
     obtain⟨rfl,rfl⟩:=of_val hp
     have hle:n'≤xs.length:=hq _ (List.mem_singleton.2 rfl)
     rcases Cof_rel (hev x) hc with ⟨-,rfl⟩|⟨r,oo,len,cap,ex,e1,e2,e3,-⟩
     ·simp at hle;omega
     ·refine fun w hzw=>⟨.pointer (some ⟨r,oo,none⟩),?_,r,oo,rfl,(xs.take n').map D.int!,rfl,by simp[hle],fun j y hy=>?_⟩
      ·have hle':n'≤len:=by omega
       simp[execOp,ho,ex,Instr.arrayAt,srb,Go.Eng.run_underlying hd,srp,Nat.not_lt.2 hle']
      ·rw[List.getElem?_map,oms]at hy
       obtain⟨d,hd',rfl⟩:=hy
       have hj:j<n':=by
        have:=(ges hd').1
        simp at this;omega
       rw[List.getElem?_take_of_lt hj]at hd'
       obtain⟨m,rfl,f2⟩:=e3 j d hd'
       simpa [Sh.width,D.int!]using f2
    ·cases hp
   ·cases hp
 case call c=>
  obtain⟨callee,args,T⟩:=c
  unfold planCall at hp
  simp only at hp
  split at hp
  ·rename_i x t hx ht'
   have hargs:args = #[x]:=by rw[←Array.toList_inj,hx]
   have hts:T = #[t]:=by rw[←Array.toList_inj,ht']
   subst hargs hts
   unfold planLen at hp
   split at hp
   ·cases hp
   ·rename_i hk
    have hk:(ti t).known=true:=by simpa using hk
    obtain⟨d,hd,ht,-⟩:=(hti t hk).und
    split at hp
    all_goals first|(cases hp;done)|rename_i htd hc
    all_goals
     obtain rfl:=ok_inv hp
     rw[htd]at ht;cases d<;>simp only[TDRel]at ht
     have hr:=Cof_rel (hev x) hc
    ·obtain⟨r,oo,hr,ex⟩:=hr
     exact fun w hzw=>⟨_,run_builtin ho (fun cs=>by simp[builtin,Builtin.len_,srb,Go.Eng.run_underlying hd,ex,srp];rfl),rfl⟩
    ·obtain⟨r,oo,hr,ex⟩:=hr
     exact fun w hzw=>⟨_,run_builtin ho (fun cs=>by simp[builtin,Builtin.len_,srb,Go.Eng.run_underlying hd,ex,srp];rfl),rfl⟩
    ·simp only[CRel]at hr
     exact fun w hzw=>⟨_,run_builtin ho (fun cs=>by simp[builtin,Builtin.len_,srb,Go.Eng.run_underlying hd,hr,srp];rfl),rfl⟩
    ·rcases hr with ⟨ex,rfl⟩|⟨r,oo,len,cap,ex,e1,-⟩
     ·exact fun w hzw=>⟨_,run_builtin ho (fun cs=>by simp[builtin,Builtin.len_,srb,Go.Eng.run_underlying hd,ex,srp];rfl),rfl⟩
     ·subst e1
      exact fun w hzw=>⟨_,run_builtin ho (fun cs=>by simp[builtin,Builtin.len_,srb,Go.Eng.run_underlying hd,ex,srp];rfl),rfl⟩
    ·simp only[CRel]at hr
     exact fun w hzw=>⟨_,run_builtin ho (fun cs=>by simp[builtin,Builtin.len_,srb,Go.Eng.run_underlying hd,hr,srp];rfl),rfl⟩
  ·rename_i x y hx
   have hargs:args = #[x,y]:=by rw[←Array.toList_inj,hx]
   subst hargs
   obtain⟨k,n,k',m,e1,e2,hv⟩:=planMin_rel (hev x) (hev y) hp
   exact fun w hzw=>⟨_,run_builtin ho (fun cs=>by simp[builtin,Builtin.min_,Builtin.min2,srb,e1,e2,srp]),hv⟩
  ·rename_i x y hx
   have hargs:args = #[x,y]:=by rw[←Array.toList_inj,hx]
   subst hargs
   obtain⟨k,n,k',m,e1,e2,hv⟩:=planMin_rel (hev x) (hev y) hp
   exact fun w hzw=>⟨_,run_builtin ho (fun cs=>by simp[builtin,Builtin.max_,Builtin.max2,srb,e1,e2,srp]),hv⟩
  ·unfold planApp at hp
   (repeat' split at hp)<;>simp at hp
  ·unfold planCopy at hp
   (repeat' split at hp)<;>simp at hp
  ·cases hp
 all_goals first|(cases hp;done)|((repeat' split at hp)<;>cases hp)
end
end Go.Eng
