import Derived.Test.YtlbllaocdilafaaZ10
import Derived.Test.YtlbllaocdilafaaRows
import Derived.WalkKit
import Derived.ProofKit
import Derived.OpenShut
import Derived.ShutString
import Derived.ChangeOld
import Derived.Below
import Derived.ChangeArms
import Derived.SizedLaws
import Derived.Test.YtlbllaocdilafaaZ22
set_option linter.unusedSimpArgs false
set_option linter.unusedVariables false
set_option maxRecDepth 100000
set_option maxHeartbeats 4000000
namespace Go.Eng
open Go Go.RowKit
def snap (w:World) (r i:Nat):Option Value:=match w.heap[r]? with
 |some (.cells c _ _)=>c[i]?
 |_=>none
theorem snap_ok (w:World):ZOk (snap w) w:=by
 intro r i v h
 unfold snap at h
 split at h
 ·rename_i c ty fz hw
  exact⟨c,ty,fz,hw,h⟩
 ·cases h
theorem snap_cell {w:World}{r o i n:Nat}{cs:List Value}{base:Nat}(h:w.cells? base (Addr.add ⟨r,o,none⟩ i) n=some cs):∀j,j<n→snap w r (o+i+j)=cs[j]?:=by
 intro j hj
 unfold World.cells? at h
 split at h
 ·obtain⟨y,e1,e2⟩:=mapM_some_get h j j (by simp[hj])
  rw[e2]
  have p:∀k,Addr.add ⟨r,o,none⟩ k=⟨r,o+k,none⟩:=by
   intro k
   unfold Addr.add
   split
   ·subst k;rfl
   ·rfl
  rw[p]at e1
  have q:∀k,Addr.add ⟨r,o+i,none⟩ k=⟨r,o+i+k,none⟩:=by
   intro k
   unfold Addr.add
   split
   ·subst k;rfl
   ·rfl
  rw[q]at e1
  unfold World.cell? at e1
  unfold snap
  split at e1
  ·rename_i hw
   simp only at hw
   rw[hw]
   simpa using e1
  ·cases e1
 ·cases h
def okD:Sh→D→Prop
 |.int k,.int n=>k.min≤n∧n≤k.max
 |.bool,.bool _=>True
 |.str,.str s=>s.size≤maxLen
 |.arr k m,.row l=>l.length=m∧∀x∈l,k.min≤x∧x≤k.max
 |.two a b,.pair x y=>okD a x∧okD b y
 |.sl s,.sl l=>l.length≤maxLen∧∀d∈l,okD s d
 |_,_=>False
def flatS:Sh→Bool
 |.sl _=>false
 |.two a b=>flatS a&&flatS b
 |_=>true
def fitK (P:Program) (k:IntKind) (t:TypeId):Bool:=match P.underlying t with
 |some (.int k')=>decide (k'=k)
 |_=>false
def loneF (P:Program) (s:Sh) (b:TypeId→Bool) (fs:List Field) (o:Nat):Bool:=match fs with
 | [f]=>decide (f.offset=o)&&decide (P.cellsOf f.type=s.width)&&b f.type
 |_=>false
def fit2 (P:Program):Sh→(TypeId→Bool)×(List Field→Nat→Bool)
 |.int k=>(fitK P k,loneF P (.int k) (fitK P k))
 |.bool=>(fun t=>match P.underlying t with
  |some .bool=>true
  |_=>false,loneF P .bool fun t=>match P.underlying t with
  |some .bool=>true
  |_=>false)
 |.str=>(fun t=>match P.underlying t with
  |some .string=>true
  |_=>false,loneF P .str fun t=>match P.underlying t with
  |some .string=>true
  |_=>false)
 |.arr k m=>(fun t=>match P.underlying t with
  |some (.array n e)=>decide (n=m)&&fitK P k e&&decide (P.cellsOf e=1)&&decide (P.cellsOf t=m)
  |_=>false,loneF P (.arr k m) fun t=>match P.underlying t with
  |some (.array n e)=>decide (n=m)&&fitK P k e&&decide (P.cellsOf e=1)&&decide (P.cellsOf t=m)
  |_=>false)
 |.sl s=>(fun t=>match P.underlying t with
  |some (.slice e)=>(fit2 P s).1 e&&decide (P.cellsOf e=s.width)&&flatS s&&decide (0<s.width)
  |_=>false,loneF P (.sl s) fun t=>match P.underlying t with
  |some (.slice e)=>(fit2 P s).1 e&&decide (P.cellsOf e=s.width)&&flatS s&&decide (0<s.width)
  |_=>false)
 |.two a b=>(fun t=>match P.underlying t with
  |some (.struct fs)=>(match fs.toList with
   |f::g::l=>decide (f.offset=0)&&decide (P.cellsOf f.type=a.width)&&(fit2 P a).1 f.type&&(fit2 P b).2 (g::l) a.width
   |_=>false)
  |_=>false,fun fs o=>match fs with
  | []=>false
  | [f]=>decide (f.offset=o)&&decide (P.cellsOf f.type=a.width+b.width)&&(match P.underlying f.type with
    |some (.struct fs)=>(match fs.toList with
     |f::g::l=>decide (f.offset=0)&&decide (P.cellsOf f.type=a.width)&&(fit2 P a).1 f.type&&(fit2 P b).2 (g::l) a.width
     |_=>false)
    |_=>false)
  |f::l=>decide (f.offset=o)&&decide (P.cellsOf f.type=a.width)&&(fit2 P a).1 f.type&&(fit2 P b).2 l (o+a.width))
def fitB (P:Program) (s:Sh) (t:TypeId):Bool:=(fit2 P s).1 t
def fitL (P:Program) (s:Sh) (fs:List Field) (o:Nat):Bool:=(fit2 P s).2 fs o
section
variable {P:Program}{t:TypeId}
theorem fitB_int {k:IntKind}:fitB P (.int k) t=fitK P k t:=rfl
theorem fitB_bool:fitB P .bool t=match P.underlying t with
 |some .bool=>true
 |_=>false:=rfl
theorem fitB_str:fitB P .str t=match P.underlying t with
 |some .string=>true
 |_=>false:=rfl
theorem fitB_arr {k:IntKind}{m:Nat}:fitB P (.arr k m) t=match P.underlying t with
 |some (.array n e)=>decide (n=m)&&fitK P k e&&decide (P.cellsOf e=1)&&decide (P.cellsOf t=m)
 |_=>false:=rfl
theorem fitB_sl {s:Sh}:fitB P (.sl s) t=match P.underlying t with
 |some (.slice e)=>fitB P s e&&decide (P.cellsOf e=s.width)&&flatS s&&decide (0<s.width)
 |_=>false:=rfl
theorem fitB_two {a b:Sh}:fitB P (.two a b) t=match P.underlying t with
 |some (.struct fs)=>(match fs.toList with
  |f::g::l=>decide (f.offset=0)&&decide (P.cellsOf f.type=a.width)&&fitB P a f.type&&fitL P b (g::l) a.width
  |_=>false)
 |_=>false:=rfl
theorem fitL_nil {s:Sh}{o:Nat}:fitL P s [] o=false:=by cases s<;>rfl
theorem fitL_one {s:Sh}{f:Field}{o:Nat}:fitL P s [f] o=(decide (f.offset=o)&&decide (P.cellsOf f.type=s.width)&&fitB P s f.type):=by cases s<;>rfl
theorem fitL_two {a b:Sh}{f g:Field}{l:List Field}{o:Nat}:fitL P (.two a b) (f::g::l) o=(decide (f.offset=o)&&decide (P.cellsOf f.type=a.width)&&fitB P a f.type&&fitL P b (g::l) (o+a.width)):=rfl
theorem fitL_not {s:Sh}(h:∀a b,s≠.two a b) {f g:Field}{l:List Field}{o:Nat}:fitL P s (f::g::l) o=false:=by
 cases s<;>first|rfl|exact absurd rfl (h _ _)
end
theorem SRel.mono2 {z:Nat→Nat→Option Value}:∀{s:Sh}{d:D} {g g':Nat→Option Value},(∀j v,g j=some v→g' j=some v)→SRel z s d g→SRel z s d g'
 |.int k,d,g,g',h,⟨n,a,b⟩=>⟨n,a,h _ _ b⟩
 |.bool,d,g,g',h,⟨n,a,b⟩=>⟨n,a,h _ _ b⟩
 |.str,d,g,g',h,⟨n,a,b⟩=>⟨n,a,h _ _ b⟩
 |.arr k m,d,g,g',h,⟨l,a,b,c⟩=>⟨l,a,b,fun j x hx=>h _ _ (c j x hx)⟩
 |.two s t,d,g,g',h,⟨x,y,a,b,c⟩=>⟨x,y,a,SRel.mono2 h b,SRel.mono2 (fun j v hv=>h _ _ hv) c⟩
 |.sl s,d,g,g',h,⟨l,v,a,b,c⟩=>⟨l,v,a,h _ _ b,c⟩
theorem exists_list {α:Type}{Q:Nat→α→Prop}:∀{n:Nat},(∀i,i<n→∃x,Q i x)→∃l:List α,l.length=n∧∀i x,l[i]? = some x→Q i x
 |0,_=>⟨[],rfl,fun i x h=>by simp at h⟩
 |n+1,h=>by
  obtain⟨l,h1,h2⟩:=exists_list (n:=n) fun i hi=>h i (by omega)
  obtain⟨x,hx⟩:=h n (by omega)
  refine⟨l++[x],by simp[h1],fun i y hy=>?_⟩
  by_cases hi:i<n
  ·rw[List.getElem?_append_left (by omega)]at hy;exact h2 i y hy
  ·rw[List.getElem?_append_right (by omega)]at hy
   have:i=n:=by
    by_cases hin:i=n
    ·exact hin
    ·rw[List.getElem?_eq_none (by simp;omega)]at hy;cases hy
   subst this
   simp[h1]at hy
   subst hy
   exact hx
theorem fitK_eq {P:Program}{k:IntKind}{t:TypeId}(h:fitK P k t=true):P.underlying t=some (.int k):=by
 unfold fitK at h
 split at h
 ·rename_i k' hk
  simp only[decide_eq_true_eq]at h
  subst h;exact hk
 ·cases h
theorem fit_rel {H:Type}{enc:TypeId×Value→H}{P:Program}{w:World}{sp:Nat→Bool}{held:Bool}:∀s:Sh,
 (∀(t:TypeId) (fuel:Nat) (cs:List Value) (x:DataW H×List MemPlace),fitB P s t=true→DataW.trod enc P w 0 sp held fuel t cs=some x→(flatS s=true∨∀(j:Nat) a l c,cs[j]? = some (.slice (some a) l c)→a.spot=none)→∃d,SRel (snap w) s d (fun j=>cs[j]?)∧okD s d) ∧
 (∀(fs:List Field) (o n:Nat) (cs:List Value),fitL P s fs o=true→(∀f∈fs,∃x,DataW.trod enc P w 0 sp held n f.type ((cs.drop f.offset).take (P.cellsOf f.type))=some x)→(flatS s=true∨∀(j:Nat) a l c,cs[j]? = some (.slice (some a) l c)→a.spot=none)→∃d,SRel (snap w) s d (fun j=>cs[o+j]?)∧okD s d):=by
 have sub:∀(cs:List Value) (o n:Nat) (j:Nat) v,((cs.drop o).take n)[j]? = some v→cs[o+j]? = some v:=by
  intro cs o n j v h
  rw[List.getElem?_take]at h
  split at h
  ·rwa [List.getElem?_drop]at h
  ·cases h
 have one:∀s:Sh,(∀(t:TypeId) (fuel:Nat) (cs:List Value) (x:DataW H×List MemPlace),fitB P s t=true→DataW.trod enc P w 0 sp held fuel t cs=some x→(flatS s=true∨∀(j:Nat) a l c,cs[j]? = some (.slice (some a) l c)→a.spot=none)→∃d,SRel (snap w) s d (fun j=>cs[j]?)∧okD s d) →
  ∀(f:Field) (o n:Nat) (cs:List Value),(decide (f.offset=o)&&decide (P.cellsOf f.type=s.width)&&fitB P s f.type)=true→(∃x,DataW.trod enc P w 0 sp held n f.type ((cs.drop f.offset).take (P.cellsOf f.type))=some x)→(flatS s=true∨∀(j:Nat) a l c,cs[j]? = some (.slice (some a) l c)→a.spot=none)→∃d,SRel (snap w) s d (fun j=>cs[o+j]?)∧okD s d:=by
  intro s h1 f o n cs hf ⟨x,hx⟩ hs
  simp only[bat,decide_eq_true_eq]at hf
  obtain⟨⟨ho,hw⟩,hb⟩:=hf
  obtain⟨d,e1,e2⟩:=h1 f.type n _ x hb hx (hs.imp id fun h j a l c hj=>h _ a l c (sub cs _ _ j _ hj))
  subst ho
  exact⟨d,e1.mono2 (fun j v hv=>sub cs _ _ j v hv),e2⟩
 have lone:∀s:Sh,(∀a b,s≠.two a b)→∀(fs:List Field) (o:Nat),fitL P s fs o=true→∃f,fs=[f]∧(decide (f.offset=o)&&decide (P.cellsOf f.type=s.width)&&fitB P s f.type)=true:=by
  intro s hne fs o h
  match fs with
  | []=>rw[fitL_nil]at h;cases h
  | [f]=>exact⟨f,rfl,by rw[←fitL_one];exact h⟩
  |f::g::l=>rw[fitL_not hne]at h;cases h
 have wrap:∀s:Sh,(∀a b,s≠.two a b)→(∀(t:TypeId) (fuel:Nat) (cs:List Value) (x:DataW H×List MemPlace),fitB P s t=true→DataW.trod enc P w 0 sp held fuel t cs=some x→(flatS s=true∨∀(j:Nat) a l c,cs[j]? = some (.slice (some a) l c)→a.spot=none)→∃d,SRel (snap w) s d (fun j=>cs[j]?)∧okD s d) →
  (∀(fs:List Field) (o n:Nat) (cs:List Value),fitL P s fs o=true→(∀f∈fs,∃x,DataW.trod enc P w 0 sp held n f.type ((cs.drop f.offset).take (P.cellsOf f.type))=some x)→(flatS s=true∨∀(j:Nat) a l c,cs[j]? = some (.slice (some a) l c)→a.spot=none)→∃d,SRel (snap w) s d (fun j=>cs[o+j]?)∧okD s d):=by
  intro s hne h1 fs o n cs hfit hx hs
  obtain⟨f,rfl,hf⟩:=lone s hne fs o hfit
  exact one s h1 f o n cs hf (hx f (by simp)) hs
 intro s
 induction s with
 |int k=>
  have h1:_:=fun(t:TypeId) (fuel:Nat) (cs:List Value) (x:DataW H×List MemPlace) (hb:fitB P (.int k) t=true) (hx:DataW.trod enc P w 0 sp held fuel t cs=some x) (hs:flatS (.int k)=true∨∀(j:Nat) a l c,cs[j]? = some (.slice (some a) l c)→a.spot=none)=>(show ∃d,SRel (snap w) (.int k) d (fun j=>cs[j]?)∧okD (.int k) d by
   obtain⟨n,rfl,-,hw⟩:=DataW.trod_int (fitK_eq (by rw[fitB_int]at hb;exact hb)) hx
   exact⟨.int n,⟨n,rfl,rfl⟩,by simpa [Lit.wf,okD]using hw⟩)
  exact⟨h1,wrap _ (by simp) h1⟩
 |bool=>
  have h1:_:=fun(t:TypeId) (fuel:Nat) (cs:List Value) (x:DataW H×List MemPlace) (hb:fitB P .bool t=true) (hx:DataW.trod enc P w 0 sp held fuel t cs=some x) (hs:flatS .bool=true∨∀(j:Nat) a l c,cs[j]? = some (.slice (some a) l c)→a.spot=none)=>(show ∃d,SRel (snap w) .bool d (fun j=>cs[j]?)∧okD .bool d by
   rw[fitB_bool]at hb
   split at hb
   ·rename_i hu
    obtain⟨b,rfl,-⟩:=DataW.trod_bool hu hx
    exact⟨.bool b,⟨b,rfl,rfl⟩,trivial⟩
   ·cases hb)
  exact⟨h1,wrap _ (by simp) h1⟩
 |str=>
  have h1:_:=fun(t:TypeId) (fuel:Nat) (cs:List Value) (x:DataW H×List MemPlace) (hb:fitB P .str t=true) (hx:DataW.trod enc P w 0 sp held fuel t cs=some x) (hs:flatS .str=true∨∀(j:Nat) a l c,cs[j]? = some (.slice (some a) l c)→a.spot=none)=>(show ∃d,SRel (snap w) .str d (fun j=>cs[j]?)∧okD .str d by
   rw[fitB_str]at hb
   split at hb
   ·rename_i hu
    obtain⟨b,rfl,-,hsz⟩:=DataW.trod_string hu hx
    exact⟨.str b,⟨b,rfl,rfl⟩,hsz⟩
   ·cases hb)
  exact⟨h1,wrap _ (by simp) h1⟩
 |arr k m=>
  have h1:_:=fun(t:TypeId) (fuel:Nat) (cs:List Value) (x:DataW H×List MemPlace) (hb:fitB P (.arr k m) t=true) (hx:DataW.trod enc P w 0 sp held fuel t cs=some x) (hs:flatS (.arr k m)=true∨∀(j:Nat) a l c,cs[j]? = some (.slice (some a) l c)→a.spot=none)=>(show ∃d,SRel (snap w) (.arr k m) d (fun j=>cs[j]?)∧okD (.arr k m) d by
   rw[fitB_arr]at hb
   split at hb
   ·rename_i n e hu
    simp only[bat,decide_eq_true_eq]at hb
    obtain⟨⟨⟨rfl,hk⟩,hc1⟩,hc2⟩:=hb
    obtain⟨xs,n',-,-,hl,hn,hel⟩:=DataW.trod_array hu hx
    have key:∀i,i<n→∃y,cs[i]? = some (.int k y)∧k.min≤y∧y≤k.max:=by
     intro i hi
     have h1:=hel i hi
     rw[geg (show i<xs.length by omega)]at h1
     obtain⟨y,e1,-,hwf⟩:=DataW.trod_int (fitK_eq hk) h1
     refine⟨y,?_,by simpa [Lit.wf]using hwf⟩
     rw[hc1,Nat.mul_one]at e1
     have e3:((cs.drop i).take 1)[0]? = some (Value.int k y):=by rw[e1];rfl
     exact sub cs i 1 0 _ e3
    obtain⟨l,h1,h2⟩:=exists_list key
    refine⟨.row l,⟨l,rfl,h1,fun j y hy=>(h2 j y hy).1⟩,h1,fun y hy=>?_⟩
    obtain⟨i,hi,rfl⟩:=List.getElem_of_mem hy
    exact(h2 i _ (geg hi)).2
   ·cases hb)
  exact⟨h1,wrap _ (by simp) h1⟩
 |sl s ih=>
  have h1:_:=fun(t:TypeId) (fuel:Nat) (cs:List Value) (x:DataW H×List MemPlace) (hb:fitB P (.sl s) t=true) (hx:DataW.trod enc P w 0 sp held fuel t cs=some x) (hs:flatS (.sl s)=true∨∀(j:Nat) a l c,cs[j]? = some (.slice (some a) l c)→a.spot=none)=>(show ∃d,SRel (snap w) (.sl s) d (fun j=>cs[j]?)∧okD (.sl s) d by
   rw[fitB_sl]at hb
   split at hb
   ·rename_i e hu
    simp only[bat,decide_eq_true_eq]at hb
    obtain⟨⟨⟨he,hc⟩,hfl⟩,h0⟩:=hb
    rcases DataW.trod_slice hu hx with ⟨rfl,-⟩|⟨a,len,cap,elems,rest,n,-,rfl,-,-,hl,hm,hn,hel,-,-⟩
    ·exact⟨.sl [],⟨[],_,rfl,rfl,.inl ⟨rfl,rfl⟩⟩,Nat.zero_le _,by simp⟩
    ·have hspot:a.spot=none:=hs.elim (fun h=>by cases h) (fun h=>h 0 a len cap rfl)
     obtain⟨r,o,spot⟩:=a
     simp only at hspot
     subst hspot
     have key:∀i,i<len→∃d,SRel (snap w) s d (fun j=>snap w r (o+i*s.width+j))∧okD s d:=by
      intro i hi
      have e1:=hel i hi
      rw[geg (show i<elems.length by omega)]at e1
      simp only[Option.bind_eq_some_iff]at e1
      obtain⟨ce,e2,e3⟩:=e1
      obtain⟨d,e4,e5⟩:=ih.1 e n ce _ he e3 (.inl hfl)
      have e6:=snap_cell e2
      have e7:ce.length=P.cellsOf e:=by
       unfold World.cells? at e2
       split at e2
       ·simpa using mapM_some_length e2
       ·cases e2
      refine⟨d,e4.mono2 (fun j v hv=>?_),e5⟩
      have hj:j<P.cellsOf e:=by rw[←e7];exact(ges hv).1
      have e8:=e6 j hj
      rw[hc]at e8
      rw[e8];exact hv
     obtain⟨l,h1,h2⟩:=exists_list key
     refine⟨.sl l,⟨l,_,rfl,rfl,.inr ⟨r,o,len,cap,rfl,h1,hl,fun i x hx=>(h2 i x hx).1⟩⟩,by omega,fun y hy=>?_⟩
     obtain⟨i,hi,rfl⟩:=List.getElem_of_mem hy
     exact(h2 i _ (geg hi)).2
   ·cases hb)
  exact⟨h1,wrap _ (by simp) h1⟩
 |two a b iha ihb=>
  have h1:_:=fun(t:TypeId) (fuel:Nat) (cs:List Value) (x:DataW H×List MemPlace) (hb:fitB P (.two a b) t=true) (hx:DataW.trod enc P w 0 sp held fuel t cs=some x) (hs:flatS (.two a b)=true∨∀(j:Nat) a l c,cs[j]? = some (.slice (some a) l c)→a.spot=none)=>(show ∃d,SRel (snap w) (.two a b) d (fun j=>cs[j]?)∧okD (.two a b) d by
   rw[fitB_two]at hb
   split at hb
   ·rename_i fs hu
    split at hb
    ·rename_i f g l hfs
     simp only[bat,decide_eq_true_eq]at hb
     obtain⟨⟨⟨ho,hc⟩,hf⟩,hl⟩:=hb
     obtain⟨xs,n,-,-,hlen,hn,hel⟩:=DataW.trod_struct hu hx
     have part:∀f'∈fs.toList,∃x,DataW.trod enc P w 0 sp held n f'.type ((cs.drop f'.offset).take (P.cellsOf f'.type))=some x:=by
      intro f' hf'
      obtain⟨i,hi,rfl⟩:=List.getElem_of_mem hf'
      have hi':i<fs.size:=by simpa using hi
      have:=hel i fs[i] (Array.getElem?_eq_getElem hi')
      rw[geg (by omega)]at this
      exact⟨_,by simpa using this⟩
     rw[hfs]at part
     have hsa:flatS a=true∨∀(j:Nat) a l c,cs[j]? = some (.slice (some a) l c)→a.spot=none:=hs.imp (fun h=>by simp only[flatS,bat]at h;exact h.1) id
     have hsb:flatS b=true∨∀(j:Nat) a l c,cs[j]? = some (.slice (some a) l c)→a.spot=none:=hs.imp (fun h=>by simp only[flatS,bat]at h;exact h.2) id
     obtain⟨d1,p1,p2⟩:=one a iha.1 f 0 n cs (by simp[ho,hc,hf]) (part f (by simp)) hsa
     obtain⟨d2,q1,q2⟩:=ihb.2 (g::l) a.width n cs hl (fun f' hf'=>part f' (by simp at hf' ⊢;exact .inr hf')) hsb
     exact⟨.pair d1 d2,⟨d1,d2,rfl,p1.mono2 (fun j v hv=>by simpa using hv),q1⟩,p2,q2⟩
    ·cases hb
   ·cases hb)
  refine⟨h1,fun fs o n cs hfit hx hs=>?_⟩
  match fs with
  | []=>rw[fitL_nil]at hfit;cases hfit
  | [f]=>exact one _ h1 f o n cs (by rw[←fitL_one];exact hfit) (hx f (by simp)) hs
  |f::g::l=>
   rw[fitL_two]at hfit
   simp only[bat,decide_eq_true_eq]at hfit
   obtain⟨⟨⟨ho,hc⟩,hf⟩,hl⟩:=hfit
   have hsa:flatS a=true∨∀(j:Nat) a l c,cs[j]? = some (.slice (some a) l c)→a.spot=none:=hs.imp (fun h=>by simp only[flatS,bat]at h;exact h.1) id
   have hsb:flatS b=true∨∀(j:Nat) a l c,cs[j]? = some (.slice (some a) l c)→a.spot=none:=hs.imp (fun h=>by simp only[flatS,bat]at h;exact h.2) id
   obtain⟨d1,p1,p2⟩:=one a iha.1 f o n cs (by simp[ho,hc,hf]) (hx f (by simp)) hsa
   obtain⟨d2,q1,q2⟩:=ihb.2 (g::l) (o+a.width) n cs hl (fun f' hf'=>hx f' (by simp at hf' ⊢;exact .inr hf')) hsb
   exact⟨.pair d1 d2,⟨d1,d2,rfl,p1,q1.mono2 (fun j v hv=>by show cs[o+(a.width+j)]? = some v;rw[←Nat.add_assoc];exact hv)⟩,p2,q2⟩
theorem spot_cell {P:Program}{w:World}{r:Reach}{base:Nat}{u:TypeId}{a:Addr}{l c:Nat}(h:Cell.okWide P w r base u (.slice (some a) l c)):a.spot=none:=by
 unfold Cell.okWide at h
 split at h
 all_goals first
  |(rename_i e;cases e;done)
  |skip
 all_goals(try(rename_i e1 e2;cases e2;done))
 unfold Cell.ok at h
 split at h
 all_goals first
  |exact h.elim
  |(rename_i e1 e2;cases e2;done)
  |skip
 rename_i e a' len cap h1 h2
 simp only[Value.slice.injEq,sie]at h2
 obtain⟨rfl,rfl,rfl⟩:=h2
 exact h.2.2.2.1
theorem arg_struct {H:Type}{enc:TypeId×Value→H}{P:Program}{w:World}{base:Nat}{r:Reach}{sp:Nat→Bool}{held:Bool}{v:Value}{d:DataW H}{p:List MemPlace}{t:TypeId}{fs:Array Field}{s:Sh}
 (ht:P.underlying t=some (.struct fs)) (hct:P.cellsOf t=s.width) (hfit:fitB P s t=true) (hok:Value.okWide P w r base t v) (h:DataW.Trod enc P w 0 sp held t v d p):∃d,ARel (Ren.none (snap w)) (.agg (.lst (cellsD arR s d))) v∧okD s d:=by
 obtain⟨fuel,hf⟩:=h
 simp only[Value.okWide,ht]at hok
 obtain⟨cs,rfl,hsz,ts,-,-,hrow⟩:=hok
 obtain⟨d,h1,h2⟩:=(fit_rel s).1 t fuel _ _ hfit hf (.inr fun j a l c hj=>by
  obtain⟨u,-,hu⟩:=hrow j _ (by simpa [Value.cells]using hj)
  exact spot_cell hu)
 obtain⟨e1,e2⟩:=cellsD_rel (ρ:=Ren.none (snap w)) h1
 refine⟨d,⟨cs,rfl,?_,fun j x hx=>?_⟩,h2⟩
 ·show cs.size=(cellsD arR s d).length
  rw[e1,hsz,hct]
 ·obtain⟨v,q1,q2⟩:=e2 j x hx
  exact⟨v,by simpa [Value.cells]using q1,q2⟩
theorem callFunc_enter {P:Program}{fn:Func}{f:FuncId}{body:Code}(hf:P.funcs[f]? = some fn) (hb:fn.body=some body) (hname:(fn.name == "runtime.NumGoroutine")=false) (args:Array Value) (w:World):
 (callFunc f args).run P w=.ok (.enter f args) w:=by
 have h1:fn.name≠"runtime.NumGoroutine":=by simpa using hname
 simp[callFunc,program,srb,Sem.run,hf,h1,hb,srp]
theorem calls_true {P:Program}{fn:Func}{f:FuncId}{s:ESpec}(hc:CallOk P f s){body:Code}(hf:P.funcs[f]? = some fn) (hb:fn.body=some body) (hname:(fn.name == "runtime.NumGoroutine")=false){xs:List A}{ps:List Prop}(hs:s xs=some (.a (.one (.bool true)),ps)) (hp:∀p∈ps,p){args:Array Value}{w:World}(ha:AsRel (Ren.none (snap w)) xs args):
 Calls P f args w fun e w'=>e=.returned (.bool true)∧Below w.heap.size w w':=by
 unfold CallOk at hc
 have h:=hc xs _ ps hs hp (snap w) args w (snap_ok w) ha { (default:Oper)with dst:=some 0} {tmps:=#[undef],defers:=[] } (fun a' w'=>a'.tmps = #[.bool true]∧Below w.heap.size w w') (fun _ _ _=>False) (fun z' v' w' _ _ _ hv hb=>by
  have hv:v'=.bool true:=hv
  subst hv
  exact⟨rfl,hb⟩)
 rw[callFunc_enter hf hb hname,Oper.upon_enter]at h
 refine h.mono fun e w' he=>?_
 cases e with
 |returned v=>
  obtain⟨h1,h2⟩:=he
  refine⟨?_,h2⟩
  have h1:#[v] = #[Value.bool true]:=h1
  simp at h1
  rw[h1]
 |panicked c=>exact he.elim
 |outgrown=>obtain⟨_,_,h⟩:=he;exact h.elim
theorem struct_len {H:Type}{enc:TypeId×Value→H}{P:Program}{w:World}{sp:Nat→Bool}{held:Bool}{v:Value}{d:DataW H}{p:List MemPlace}{t e:TypeId}{fs:Array Field}{i:Nat}{f:Field}{ρ:Ren}{cs:List C}{s:Sh}{l:List D}{B:Nat}
 (ht:P.underlying t=some (.struct fs)) (hfi:fs[i]? = some f) (hfe:P.underlying f.type=some (.slice e)) (hc:P.cellsOf f.type=1)
 (h:DataW.Trod enc P w 0 sp held t v d p) (hv:ARel ρ (.agg (.lst cs)) v) (hcs:cs[f.offset]? = some (.dat s l none))
 (hw:∀n∈d.weights P t,n≤B):l.length*P.bytesOf e≤B:=by
 obtain⟨fuel,hf⟩:=h
 obtain⟨arr,rfl,g2,g3⟩:=hv
 obtain⟨u,a1,a2⟩:=g3 f.offset _ hcs
 obtain⟨xs,n,-,hx,-,hlen,hfl⟩:=DataW.trod_struct ht hf
 have hd:d=.agg (xs.map (·.1)):=congrArg Prod.fst hx
 have hi:i<fs.size:=(Array.getElem?_eq_some_iff.1 hfi).1
 have hxi:=hfl i f hfi
 have hy:xs[i]? = some xs[i]:=geg (by omega)
 rw[hy]at hxi
 have hcell:((Value.agg arr).cells.toList.drop f.offset).take (P.cellsOf f.type)=[u]:=by
  rw[hc]
  have a3:arr.toList[f.offset]? = some u:=by simpa using a1
  show(arr.toList.drop f.offset).take 1=[u]
  have hlt:f.offset<arr.toList.length:=(ges a3).1
  rw[List.drop_eq_getElem_cons hlt]
  have:=(ges a3).2
  simp[←this]
 rw[hcell]at hxi
 rcases DataW.trod_slice hfe hxi with ⟨q1,-⟩|⟨a,len,cap,elems,rest,n',-,q1,q2,-,-,-,q3,-⟩
 ·simp only[List.cons.injEq,and_true]at q1
  rcases a2 with ⟨-,rfl⟩|⟨r,o,len,cap,e1,-⟩
  ·simp
  ·rw[q1]at e1;cases e1
 ·simp only[List.cons.injEq,and_true]at q1
  rcases a2 with ⟨-,rfl⟩|⟨r,o,len',cap',e1,e2,-⟩
  ·simp
  ·rw[q1]at e1
   simp only[Value.slice.injEq]at e1
   have hm:=hw ((elems.length+rest.length)*P.bytesOf e) (by
    rw[hd]
    simp only[DataW.weights,ht]
    refine DataW.weights_mem_each (j:=i) (t:=f.type) (d:=xs[i].1) (by simp[hfi]) (by simp[hy]) _ ?_
    rw[q2]
    simp[DataW.weights,hfe])
   refine Nat.le_trans (Nat.mul_le_mul_right _ ?_) hm
   rw[e2,←e1.2.1,←q3]
   exact Nat.le_add_right _ _
end Go.Eng
namespace Go.Eng
open Go
theorem okD_two {a b:Sh}{d:D}(h:okD (.two a b) d):∃x y,d=.pair x y∧okD a x∧okD b y:=by
 cases d with
 |pair x y=>exact⟨x,y,rfl,h.1,h.2⟩
 |_=>exact absurd h id
theorem okD_int {k:IntKind}{d:D}(h:okD (.int k) d):∃n:Int,d=.int n:=by
 cases d with
 |int n=>exact⟨n,rfl⟩
 |_=>exact absurd h id
theorem okD_bool {d:D}(h:okD .bool d):∃n,d=.bool n:=by
 cases d with
 |bool n=>exact⟨n,rfl⟩
 |_=>exact absurd h id
theorem okD_str {d:D}(h:okD .str d):∃n,d=.str n:=by
 cases d with
 |str n=>exact⟨n,rfl⟩
 |_=>exact absurd h id
theorem okD_arr {k:IntKind}{m:Nat}{d:D}(h:okD (.arr k m) d):∃l,d=.row l∧l.length=m:=by
 cases d with
 |row l=>exact⟨l,rfl,h.1⟩
 |_=>exact absurd h id
theorem okD_sl {s:Sh}{d:D}(h:okD (.sl s) d):∃l,d=.sl l∧l.length≤maxLen∧∀x∈l,okD s x:=by
 cases d with
 |sl l=>exact⟨l,rfl,h.1,h.2⟩
 |_=>exact absurd h id
theorem okD_nrm:∀{s:Sh}{d:D},okD s d→nrmD s d=d:=by
 intro s
 induction s with
 |int k=>intro d h;obtain⟨n,rfl⟩:=okD_int h;rfl
 |bool=>intro d h;obtain⟨n,rfl⟩:=okD_bool h;rfl
 |str=>intro d h;obtain⟨n,rfl⟩:=okD_str h;rfl
 |arr k m=>intro d h;obtain⟨l,rfl,e⟩:=okD_arr h;exact congrArg D.row (row_mk e)
 |two a b iha ihb=>
  intro d h
  obtain⟨x,y,rfl,hx,hy⟩:=okD_two h
  show D.pair (nrmD a x) (nrmD b y)=_
  rw[iha hx,ihb hy]
 |sl s ih=>intro d h;obtain⟨l,rfl,-⟩:=okD_sl h;rfl
theorem okD_net {d:D}(h:okD NS d):∃n:Nt,d=n.D∧n.ip.length=16:=by
 obtain⟨x1,y1,rfl,h1,g1⟩:=okD_two h
 obtain⟨x2,y2,rfl,h2,g2⟩:=okD_two g1
 obtain⟨x3,y3,rfl,h3,g3⟩:=okD_two g2
 obtain⟨n1,rfl⟩:=okD_int h1
 obtain⟨n2,rfl⟩:=okD_int h2
 obtain⟨n3,rfl,e⟩:=okD_arr h3
 obtain⟨n4,rfl⟩:=okD_int g3
 exact⟨⟨n1,n2,n3,n4⟩,rfl,e⟩
def lenC (d:D):Prop:=(∀s l,(cellsD arR MS d)[47]? = some (.dat s l none)→l.length*40≤140737488351232)∧(∀s l,(cellsD arR MS d)[48]? = some (.dat s l none)→l.length*36≤140737488351232)∧(∀s l,(cellsD arR MS d)[49]? = some (.dat s l none)→l.length*32≤140737488351232)∧(∀s l,(cellsD arR MS d)[114]? = some (.dat s l none)→l.length*16≤140737488351232)∧(∀s l,(cellsD arR MS d)[117]? = some (.dat s l none)→l.length*8≤140737488351232)∧(∀s l,(cellsD arR MS d)[118]? = some (.dat s l none)→l.length*24≤140737488351232)∧(∀s l,(cellsD arR MS d)[119]? = some (.dat s l none)→l.length*8≤140737488351232)∧(∀s l,(cellsD arR MS d)[120]? = some (.dat s l none)→l.length*16≤140737488351232)
theorem prt_rel {ρ:Ren}{s:Sh}{d:D}{v:Value}(h:ARel ρ (.agg (.lst (cellsD arR s d))) v):ARel ρ (.agg (.prt [.v s d])) v:=by
 obtain⟨arr,rfl,h1,h2⟩:=h
 refine⟨arr,rfl,?_,fun j x hx=>h2 j x ?_⟩
 ·rw[h1];simp[G.len,cellsP,List.append_nil]
 ·simpa [G.at,cellsP,List.append_nil]using hx
theorem fit_of {d:D}(h:okD MS d) (hl:lenC d):mFit d:=by
 obtain⟨x0,y0,rfl,h0,g0⟩:=okD_two h
 obtain⟨x1,y1,rfl,h1,g1⟩:=okD_two g0
 obtain⟨x2,y2,rfl,h2,g2⟩:=okD_two g1
 obtain⟨x3,y3,rfl,h3,g3⟩:=okD_two g2
 obtain⟨x4,y4,rfl,h4,g4⟩:=okD_two g3
 obtain⟨x5,y5,rfl,h5,g5⟩:=okD_two g4
 obtain⟨x6,y6,rfl,h6,g6⟩:=okD_two g5
 obtain⟨x7,y7,rfl,h7,g7⟩:=okD_two g6
 obtain⟨x8,y8,rfl,h8,g8⟩:=okD_two g7
 obtain⟨x9,y9,rfl,h9,g9⟩:=okD_two g8
 obtain⟨x10,y10,rfl,h10,g10⟩:=okD_two g9
 obtain⟨x11,y11,rfl,h11,g11⟩:=okD_two g10
 obtain⟨x12,y12,rfl,h12,g12⟩:=okD_two g11
 obtain⟨x13,y13,rfl,h13,g13⟩:=okD_two g12
 obtain⟨x14,y14,rfl,h14,g14⟩:=okD_two g13
 obtain⟨x15,y15,rfl,h15,g15⟩:=okD_two g14
 obtain⟨x16,y16,rfl,h16,g16⟩:=okD_two g15
 obtain⟨x17,y17,rfl,h17,g17⟩:=okD_two g16
 obtain⟨x18,y18,rfl,h18,g18⟩:=okD_two g17
 obtain⟨x19,y19,rfl,h19,g19⟩:=okD_two g18
 obtain⟨x20,y20,rfl,h20,g20⟩:=okD_two g19
 obtain⟨x21,y21,rfl,h21,g21⟩:=okD_two g20
 obtain⟨a0,rfl⟩:=okD_int h0
 obtain⟨a1,rfl⟩:=okD_int h1
 obtain⟨a2,rfl⟩:=okD_int h2
 obtain⟨a3,rfl⟩:=okD_int h3
 obtain⟨a4,rfl⟩:=okD_int h4
 obtain⟨a5,rfl,e5⟩:=okD_net h5
 obtain⟨a6,rfl,e6⟩:=okD_net h6
 obtain⟨a7,rfl⟩:=okD_str h7
 obtain⟨a8,rfl⟩:=okD_int h8
 obtain⟨a9,rfl⟩:=okD_bool h9
 obtain⟨a10,rfl⟩:=okD_bool h10
 obtain⟨a11,rfl,e11,n11⟩:=okD_sl h11
 obtain⟨a12,rfl,e12,n12⟩:=okD_sl h12
 obtain⟨a13,rfl,e13,n13⟩:=okD_sl h13
 obtain⟨a14,rfl,e14⟩:=okD_arr h14
 obtain⟨a15,rfl,e15⟩:=okD_arr h15
 obtain⟨a16,rfl,e16,n16⟩:=okD_sl h16
 obtain⟨a17,rfl⟩:=okD_str h17
 obtain⟨a18,rfl⟩:=okD_str h18
 obtain⟨a19,rfl,e19,n19⟩:=okD_sl h19
 obtain⟨a20,rfl,e20,n20⟩:=okD_sl h20
 obtain⟨a21,rfl,e21,n21⟩:=okD_sl h21
 obtain⟨a22,rfl,e22,n22⟩:=okD_sl g21
 have hl:lenC (Ms.D ⟨a0,a1,a2,a3,a4,a5,a6,a7,a8,a9,a10,a11,a12,a13,a14,a15,a16,a17,a18,a19,a20,a21,a22⟩):=hl
 obtain⟨l11,l12,l13,l16,l19,l20,l21,l22⟩:=hl
 replace l11:a11.length*40≤140737488351232:=l11 _ a11 rfl
 replace l12:a12.length*36≤140737488351232:=l12 _ a12 rfl
 replace l13:a13.length*32≤140737488351232:=l13 _ a13 rfl
 replace l16:a16.length*16≤140737488351232:=l16 _ a16 rfl
 replace l19:a19.length*8≤140737488351232:=l19 _ a19 rfl
 replace l20:a20.length*24≤140737488351232:=l20 _ a20 rfl
 replace l21:a21.length*8≤140737488351232:=l21 _ a21 rfl
 replace l22:a22.length*16≤140737488351232:=l22 _ a22 rfl
 refine⟨⟨a0,a1,a2,a3,a4,a5,a6,a7,a8,a9,a10,a11,a12,a13,a14,a15,a16,a17,a18,a19,a20,a21,a22⟩,rfl,⟨e5,e6,e14,e15,(by omega:a11.length≤4611686018427387904),(by omega:a12.length≤4611686018427387904),(by omega:a13.length≤4611686018427387904),(by omega:a16.length≤4611686018427387904),(by omega:a19.length≤4611686018427387904),(by omega:a20.length≤4611686018427387904),(by omega:a21.length≤4611686018427387904),(by omega:a22.length≤4611686018427387904)⟩,fun x hx=>okD_nrm (n11 x hx),l11,fun x hx=>okD_nrm (n12 x hx),l12,fun x hx=>okD_nrm (n13 x hx),l13,fun x hx=>okD_nrm (n16 x hx),l16,fun x hx=>okD_nrm (n19 x hx),l19,fun x hx=>okD_nrm (n20 x hx),l20,fun x hx=>okD_nrm (n21 x hx),l21,fun x hx=>okD_nrm (n22 x hx),l22⟩
end Go.Eng
namespace Go.Proofs.Ytlbllaocdilafaa
open Go Go.Eng Go.Proofs Go.RowKit
attribute[local irreducible] CallOk HOk Run TIok rbin rcmp run1 updF shfF blitF
end Go.Proofs.Ytlbllaocdilafaa
