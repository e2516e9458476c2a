import Derived.Test.YtlbllaocdilafaaZ05
import Derived.Test.YtlbllaocdilafaaZ06
set_option linter.unusedSimpArgs false
set_option linter.unusedVariables false
namespace Go.Eng
open Go Go.RowKit
section
variable {P:Program}{W0:World}{m0:Nat}{ρ:Ren}
def CallOk (P:Program) (f:FuncId) (s:ESpec):Prop:=
 ∀args v ps,s args=some (v,ps)→(∀p∈ps,p)→∀(z:Nat→Nat→Option Value) (args':Array Value) (w:World),ZOk z w→AsRel (Ren.none z) args args' →
  ∀(o:Oper) (a:Act) (K:Act→World→Prop) (Q:Exit→Act→World→Prop),(∀z' v' w',(∀r i u,z r i=some u→z' r i=some u)→(∀r i u,z' r i=some u→z r i=some u∨w.heap.size≤r)→ZOk z' w'→VRel (Ren.none z') v v'→Below w.heap.size w w'→K (a.put o.dst v') w')→o.upon P a K Q ((callFunc f args').run P w)
theorem bareC_rel {ρ':Ren}(hz:∀r i v,ρ.z r i=some v→ρ'.z r i=some v){c:C}{v:Value}(h:CRel ρ c v) (hp:pureC c=true):CRel ρ' (bareC c) v:=by
 cases c<;>first|exact h|cases hp|skip
 case dat s xs tok=>
  rcases h with h|⟨r,o,len,cap,e1,e2,e3,e4,-⟩
  ·exact .inl h
  ·exact .inr ⟨r,o,len,cap,e1,e2,e3,fun i x hx=>(e4 i x hx).mono hz (fun j _ v hv=>hz _ _ _ hv),fun t ht=>by cases ht⟩
 case dp s d=>
  obtain⟨r,o,e1,e2⟩:=h
  exact⟨r,o,e1,e2.mono hz (fun j _ v hv=>hz _ _ _ hv)⟩
theorem fixD' {ρ':Ren}(hz:∀r i v,ρ.z r i=some v→ρ'.z r i=some v):∀{s:Sh}{d:D}{j:Nat}{x:C}{v:Value},(cellsD arR s d)[j]? = some x→CRel ρ x v→CRel ρ' x v:=by
 intro s
 induction s with
 |two a b iha ihb=>
  intro d j x v hx
  have hx:(cellsD arR a (arR.dFst d)++cellsD arR b (arR.dSnd d))[j]? = some x:=hx
  rw[List.getElem?_append]at hx
  split at hx
  ·exact iha hx
  ·exact ihb hx
 |arr k m=>
  intro d j x v hx
  simp only[cellsD,List.getElem?_map,oms]at hx
  obtain⟨_,-,rfl⟩:=hx
  exact fun h=>h
 |sl s ih=>
  intro d j x v hx h
  have h1:=List.mem_of_getElem? hx
  simp only[cellsD,List.mem_singleton]at h1
  subst h1
  exact bareC_rel hz h rfl
 |_=>
  intro d j x v hx
  have h1:=List.mem_of_getElem? hx
  simp only[cellsD,List.mem_singleton]at h1
  subst h1
  exact fun h=>h
theorem bareP_at {ρ':Ren}(hz:∀r i v,ρ.z r i=some v→ρ'.z r i=some v):∀{ps:List Pt},ps.all pureP=true→(cellsP arR (ps.map bareP)).length=(cellsP arR ps).length∧∀(j:Nat) x',(cellsP arR (ps.map bareP))[j]? = some x'→∃x,(cellsP arR ps)[j]? = some x∧∀v,CRel ρ x v→CRel ρ' x' v:=by
 intro ps
 induction ps with
 |nil=>intro _;exact⟨rfl,fun j x' hx=>by simp[cellsP]at hx⟩
 |cons p l ih=>
  intro h
  simp only[List.all_cons,bat]at h
  obtain⟨h1,h2⟩:=ih h.2
  cases p with
  |c x=>
   refine⟨by simp[cellsP,bareP,h1],fun j x' hx=>?_⟩
   cases j with
   |zero=>
    have hx:some (bareC x)=some x':=hx
    simp only[sie]at hx
    subst hx
    exact⟨x,rfl,fun v hv=>bareC_rel hz hv h.1⟩
   |succ j=>exact h2 j x' hx
  |v s d=>
   refine⟨by simp[cellsP,bareP,h1],fun j x' hx=>?_⟩
   simp only[List.map_cons,bareP,cellsP]at hx ⊢
   rw[List.getElem?_append]at hx ⊢
   split
   ·rename_i hj
    rw[if_pos hj]at hx
    exact⟨x',hx,fun v hv=>fixD' hz hx hv⟩
   ·rename_i hj
    rw[if_neg hj]at hx
    exact h2 _ x' hx
theorem bareA_rel {ρ':Ren}(hz:∀r i v,ρ.z r i=some v→ρ'.z r i=some v){x:A}{v:Value}(h:ARel ρ x v) (hp:pureA x=true):ARel ρ' (bareA x) v:=by
 cases x with
 |one c=>exact bareC_rel hz h hp
 |agg g=>
  obtain⟨arr,e,h1,h2⟩:=h
  cases g with
  |lst cs=>
   refine⟨arr,e,by simpa [G.len]using h1,fun j x hx=>?_⟩
   simp only[G.at,List.getElem?_map,oms]at hx
   obtain⟨y,hy,rfl⟩:=hx
   obtain⟨u,a,b⟩:=h2 j y hy
   simp only[pureA,List.all_eq_true]at hp
   exact⟨u,a,bareC_rel hz b (hp y (List.mem_of_getElem? hy))⟩
  |prt ps=>
   obtain⟨k1,k2⟩:=bareP_at hz (ps:=ps) hp
   refine⟨arr,e,by rw[h1];exact k1.symm,fun j x hx=>?_⟩
   obtain⟨y,hy,hyx⟩:=k2 j x hx
   obtain⟨u,a,b⟩:=h2 j y hy
   exact⟨u,a,hyx _ b⟩
  |ints k n f=>
   refine⟨arr,e,h1,fun j x hx=>?_⟩
   obtain⟨u,a,b⟩:=h2 j x hx
   simp only[G.at]at hx
   split at hx
   ·simp only[sie]at hx;subst hx;exact⟨u,a,b⟩
   ·cases hx
  |col=>cases hp
  |tail=>exact⟨arr,e,h1,fun j x hx=>by cases hx⟩
  |dead=>exact⟨arr,e,h1,fun j x hx=>by cases hx⟩
theorem AsRel.bare {ρ':Ren}(hz:∀r i v,ρ.z r i=some v→ρ'.z r i=some v){args:List A} {args':Array Value}(h:AsRel ρ args args') (hp:args.all pureA=true):AsRel ρ' (args.map bareA) args':=
 ⟨by rw[h.1];simp,fun j x hx=>by
  rw[List.getElem?_map,oms]at hx
  obtain⟨y,hy,rfl⟩:=hx
  obtain⟨u,a,b⟩:=h.2 j y hy
  exact⟨u,a,bareA_rel hz b (List.all_eq_true.1 hp y (List.mem_of_getElem? hy))⟩⟩
def HOk (P:Program) (f:FuncId) (s:HSpec):Prop:=
 ∀las lbs v lbs' ps,s las lbs=some (v,lbs',ps)→(∀p∈ps,p)→∀(ρ:Ren) (args':Array Value) (w:World),AsRel ρ las args'→HRel w lbs.length ρ (lbs.map some) w →
  ∀(o:Oper) (a:Act) (K:Act→World→Prop) (Q:Exit→Act→World→Prop),(∀ρ' v' w',Ext ρ ρ'→VRel ρ' v v'→HRel w lbs.length ρ' (lbs'.map some) w'→K (a.put o.dst v') w')→o.upon P a K Q ((callFunc f args').run P w)
structure TblOk (P:Program) (tbl:Tbl):Prop where
 p:∀f s,tbl.p f=some s→CallOk P f s
 h:∀f s,tbl.h f=some s→HOk P f s
theorem HRel.keep {h:Heap} {w w':World}(hH:HRel W0 m0 ρ h w) (hb:Below w.heap.size w w') {z':Nat→Nat→Option Value}(hz:∀r i u,ρ.z r i=some u→z' r i=some u) (hn:∀r i u,z' r i=some u→ρ.z r i=some u∨w.heap.size≤r) (hk:ZOk z' w'):Ext ρ {ρ with z:=z' }∧HRel W0 m0 {ρ with z:=z' } h w':=by
 have hx:Ext ρ {ρ with z:=z' }:=⟨⟨fun n p hp=>⟨hp,rfl⟩,hz,fun n hv=>hv,fun _ _ h=>h⟩,rfl⟩
 refine⟨hx,hb.os.trans hH.os,hb.tape.trans hH.tape,hb.output.trans hH.output,Nat.le_trans hH.size hb.size,fun k hk hn=>?_,hH.dom,fun n b hb' hc=>?_,hH.sep,hH.new,fun n r o hp=>Nat.lt_of_lt_of_le (hH.low n r o hp) hb.size,fun n b hb' hg=>?_,hH.deadRo,hH.vd1,hH.vd2,hk,fun n b r o i hb' hro hp hi=>?_,fun r i v hv hr=>?_,fun r T n h=>let ⟨c,fz,e1,e2⟩:=hH.yok r T n h;⟨c,fz,by rw[hb.block r (Array.getElem?_eq_some_iff.1 e1).1];exact e1,e2⟩⟩
 ·rw[hb.block k (by have:=hH.size;omega)];exact hH.frame k hk hn
 ·obtain⟨r,o,hr,hB⟩:=hH.blk n b hb' hc
  obtain⟨c,ty,fz,hw,hz',hc'⟩:=hB.ext hx.toSub
  exact⟨r,o,hr,c,ty,fz,by rw[hb.block r (hH.low n r o hr)];exact hw,hz',hc'⟩
 ·obtain⟨t1,t3⟩:=hH.tails n b hb' hg
  refine⟨t1,fun r o hp=>?_⟩
  obtain⟨c,ty,e1,e2⟩:=t3 r o hp
  exact⟨c,ty,by rw[hb.block r (hH.low n r o hp)];exact e1,e2⟩
 ·cases e:z' r i with
  |none=>exact e
  |some v=>
   rcases hn r i v e with e|e
   ·rw[hH.zsep n b r o i hb' hro hp hi]at e;cases e
   ·have:=hH.low n r o hp;omega
 ·rcases hn r i v hv with e|e
  ·exact hH.zold r i v e hr
  ·have:=hH.size;omega
theorem HRel.drew {h:Heap}{w:World}(hH:HRel W0 m0 ρ h w) (n:Nat):HRel W0 m0 ρ h {w with drawn:=n}:=
 ⟨hH.os,hH.tape,hH.output,hH.size,hH.frame,hH.dom,hH.blk,hH.sep,hH.new,hH.low,hH.tails,hH.deadRo,hH.vd1,hH.vd2,hH.zok,hH.zsep,hH.zold,hH.yok⟩
theorem argsOf_rel {ev:Operand→V}{eu:Operand→Value}(hev:∀x,VRel ρ (ev x) (eu x)):∀{l:List Operand}{as:List A},argsOf ev l=some as→AsRel ρ as (l.map eu).toArray
 | [],as,h=>by
   simp only[argsOf,sie]at h
   subst h
   exact⟨rfl,fun j x hx=>by simp at hx⟩
 |x::l,as,h=>by
  simp only[argsOf]at h
  split at h
  ·rename_i a as' ha has
   simp only[sie]at h
   subst h
   obtain⟨h1,h2⟩:=argsOf_rel hev has
   refine⟨by simpa using h1,fun j y hy=>?_⟩
   cases j with
   |zero=>
    simp at hy;subst hy
    exact⟨eu x,by simp,Aof_rel (hev x) ha⟩
   |succ j=>
    obtain⟨u,hu,hr⟩:=h2 j y (by simpa using hy)
    exact⟨u,by simpa using hu,hr⟩
  ·cases h
def kindOk (ti:TypeId→TI) (ev:Operand→V) (p:Plan) (qs:List Prop):Op→Prop
 |.load t x=>(∃b off,Cof (ev x)=some (.ptr b off)∧(ti t).known=true∧p=.load b off (ti t).size (ti t).agg)∨∃s d v,Cof (ev x)=some (.dp s d)∧p=.val v
 |.store t x y=>∃b off v,Cof (ev x)=some (.ptr b off)∧Aof (ev y)=some v∧(ti t).known=true∧p=.store b off v (ti t).size
 |.alloc e=>∃z,(ti e).known=true∧(ti e).zero=some z∧z.gr.cells=true∧p=.alloc z.gr none
 |.box _ x=>∃z,Aof (ev x)=some z∧z.gr.cells=true∧p=.alloc z.gr none
 |.buildSlice _ n _=>∃s ds,p=.fresh none s ds
 |.call c=>(∃v,p=.val v)∨(∃x y t t',c={callee:=.builtin .append,args:=#[x,y],argTypes:=#[t,t'] }∧((∃s xs tok,p=.fresh tok s xs)∨∃b k len cap ys,p=.froze b k len cap ys))∨∃x y t t' b off n s,c={callee:=.builtin .copy,args:=#[x,y],argTypes:=#[t,t'] }∧p=.copy b off n s
 |.makeSlice _ _ _=>∃g s,p=.alloc g (some s)
 |.slice _ _ _ _ mx=>(∃v,p=.val v)∨(mx.isSome=true∧∃s,p=.fresh none s [])
 |.convert _ _ x=>(∃v,p=.val v)∨∃b off len cap,Cof (ev x)=some (.sl b off len cap)∧p=.text b off len
 |_=>∃v,p=.val v
theorem ok_val {v:V}{p:Plan}{qs:List Prop}(h:ok v=some (p,qs)):∃v,p=.val v:=by
 simp only[ok,sie,po]at h
 exact⟨v,h.1.symm⟩
theorem planBin_val {op:BinOp}{x y:C}{p:Plan}{qs:List Prop}(h:planBin arR arR op x y=some (p,qs)):∃v,p=.val v:=by
 unfold planBin at h
 (repeat' split at h)<;>first|exact ok_val h|(cases h;done)|(simp only[sie,po]at h;exact⟨_,h.1.symm⟩)
theorem planStr_kind {op:BinOp}{a b:ByteArray}{p:Plan}{qs:List Prop}(h:planStr arR op a b=some (p,qs)):∃v,p=.val v:=by
 unfold planStr at h
 split at h<;>first|exact ok_val h|(cases h;done)|(simp only[sie,po]at h;exact⟨_,h.1.symm⟩)
theorem planSlice_kind {ti:TypeId→TI}{ev:Operand→V}{t:TypeId}{x:Operand}{lo hi:Option Operand}{p:Plan}{qs:List Prop}(h:planSlice arR ti ev t x lo hi=some (p,qs)):∃v,p=.val v:=by
 unfold planSlice at h
 (repeat' split at h)<;>first|(cases h;done)|exact ok_val h|(simp only[sie,po]at h;exact⟨_,h.1.symm⟩)
theorem planCall_kind {ti:TypeId→TI}{ev:Operand→V}{c:Call}{p:Plan}{qs:List Prop}(h:planCall arR arR ti ev c=some (p,qs)):(∃v,p=.val v)∨(∃x y t t',c={callee:=.builtin .append,args:=#[x,y],argTypes:=#[t,t'] }∧((∃s xs tok,p=.fresh tok s xs)∨∃b k len cap ys,p=.froze b k len cap ys))∨∃x y t t' b off n s,c={callee:=.builtin .copy,args:=#[x,y],argTypes:=#[t,t'] }∧p=.copy b off n s:=by
 obtain⟨callee,args,T⟩:=c
 unfold planCall at h
 simp only at h
 split at h
 ·left
  unfold planLen at h
  (repeat' split at h)<;>first|exact ok_val h|(cases h;done)
 ·left
  unfold planMin at h
  (repeat' split at h)<;>first|exact ok_val h|(cases h;done)
 ·left
  unfold planMin at h
  (repeat' split at h)<;>first|exact ok_val h|(cases h;done)
 ·rename_i x y t t' hx ht
  right;left
  have hargs:args = #[x,y]:=by rw[←Array.toList_inj,hx]
  have hts:T = #[t,t']:=by rw[←Array.toList_inj,ht]
  subst hargs hts
  refine⟨x,y,t,t',rfl,?_⟩
  unfold planApp at h
  (repeat' split at h)<;>first|(cases h;done)|(simp only[sie,po]at h;first|exact .inl ⟨_,_,_,h.1.symm⟩|exact .inr ⟨_,_,_,_,_,h.1.symm⟩)
 ·rename_i x y t t' hx ht
  right;right
  have hargs:args = #[x,y]:=by rw[←Array.toList_inj,hx]
  have hts:T = #[t,t']:=by rw[←Array.toList_inj,ht]
  subst hargs hts
  unfold planCopy at h
  (repeat' split at h)<;>first|(cases h;done)|(simp only[sie,po]at h;exact⟨x,y,t,t',_,_,_,_,rfl,h.1.symm⟩)
 ·cases h
theorem plan_kind {ti:TypeId→TI}{ev:Operand→V}{p:Plan}{qs:List Prop}:∀{op:Op},plan arR arR ti ev op=some (p,qs)→kindOk ti ev p qs op:=by
 intro op h
 cases op<;>simp only[plan]at h<;>simp only[kindOk]
 case load t x=>
  split at h
  ·cases h
  ·rename_i hk
   split at h
   ·rename_i b off hc
    simp only[sie,po]at h
    exact .inl ⟨b,off,hc,by simpa using hk,h.1.symm⟩
   ·rename_i s d hc
    right
    (repeat' split at h)<;>first|(cases h;done)|(obtain⟨v,hv⟩:=ok_val h;exact⟨s,d,v,hc,hv⟩)
   ·cases h
 case store t x y=>
  split at h
  ·cases h
  ·rename_i hk
   split at h
   ·rename_i b off v hc hv
    simp only[sie,po]at h
    exact⟨b,off,v,hc,hv,by simpa using hk,h.1.symm⟩
   ·cases h
 case alloc e=>
  split at h
  ·cases h
  ·rename_i hk
   split at h
   ·rename_i z hz
    split at h
    ·rename_i hcl
     simp only[sie,po]at h
     exact⟨z,by simpa using hk,hz,hcl,h.1.symm⟩
    ·cases h
   ·cases h
 case box e x=>
  split at h
  ·rename_i z hz
   split at h
   ·rename_i hcl
    simp only[sie,po]at h
    exact⟨z,hz,hcl,h.1.symm⟩
   ·cases h
  ·cases h
 case buildSlice t n parts=>
  (repeat' split at h)<;>first|(cases h;done)|(simp only[sie,po]at h;exact⟨_,_,h.1.symm⟩)
 case makeSlice t l c=>
  unfold planMake at h
  (repeat' split at h)<;>first|(cases h;done)|(simp only[sie,po]at h;exact⟨_,_,h.1.symm⟩)
 case slice t x lo hi mx=>
  split at h
  ·exact .inl (planSlice_kind h)
  ·right
   refine⟨rfl,?_⟩
   unfold planCut0 at h
   (repeat' split at h)<;>first|(cases h;done)|(simp only[sie,po]at h;exact⟨_,h.1.symm⟩)
 case convert src dst x=>
  split at h
  ·cases h
  ·split at h
   case h_4 b off len cap hc htd=>
    right
    (repeat' split at h)<;>first|(cases h;done)|(simp only[sie,po]at h;exact⟨b,off,len,_,hc,h.1.symm⟩)
   all_goals
    left
    first
     |exact ok_val h
     |(cases h;done)
     |((repeat' split at h)<;>first|exact ok_val h|(cases h;done))
 all_goals first
  |exact ok_val h
  |exact planCall_kind h
  |(cases h;done)
  |((repeat' split at h)<;>first|exact ok_val h|exact planBin_val h|exact planStr_kind h|exact planSlice_kind h|exact planCall_kind h|(cases h;done)|(simp only[sie,po]at h;exact⟨_,h.1.symm⟩))
theorem ext_none {x:A}{u:Value}(h:ARel (Ren.none fun _ _=>none) x u):ARel ρ x u:=h.ext (Sub.empty ρ)
theorem planApp_inv {ti:TypeId→TI}{ev:Operand→V} {t t':TypeId}{x y:Operand}{p:Plan}{qs:List Prop}(h:planApp arR ti ev t t' x y=some (p,qs)):
 ∃e s c d ys,(ti t).known=true∧(ti t).td=.slice e∧(ti e).known=true∧s.width=(ti e).size∧0<s.width∧(ti e).zero.isSome=true∧Cof (ev x)=some c∧Cof (ev y)=some d∧srcD arR ti s t t' d=some ys ∧
  ((∃xs tok,headD s c=some (xs,tok)∧p=.fresh tok s (xs++ys)∧qs=[arR.dFit xs ys (ti e).bytes])∨∃b len cap k,c=.sl b (.lit 0) len cap∧s=.int k∧p=.froze b k len cap ys∧qs=[arR.fitN len.val ys (ti e).bytes]):=by
 unfold planApp at h
 split at h
 ·cases h
 ·rename_i hk
  split at h
  ·rename_i e htd
   split at h
   ·cases h
   ·rename_i hke
    split at h
    ·rename_i s' hs
     split at h
     ·rename_i hc
      simp only[bat]at hc
      split at h
      ·rename_i c d hcc hcd
       split at h
       ·rename_i ys h2
        refine⟨e,s',c,d,ys,by simpa using hk,htd,by simpa using hke,Nat.eq_of_beq_eq_true hc.1.1,Nat.le_of_ble_eq_true hc.1.2,hc.2,hcc,hcd,h2,?_⟩
        split at h
        ·rename_i b len cap k
         simp only[sie,po]at h
         exact .inr ⟨b,len,cap,k,rfl,rfl,h.1.symm,h.2.symm⟩
        ·split at h
         ·rename_i xs tok h1
          simp only[sie,po]at h
          exact .inl ⟨xs,tok,h1,h.1.symm,h.2.symm⟩
         ·cases h
       ·cases h
      ·cases h
     ·cases h
    ·cases h
  ·cases h
theorem stepOp_wp {ti:TypeId→TI}(hti:TIok P ti){tbl:Tbl}(htbl:TblOk P tbl){o:Oper}{a:Act}{w:World}{tmps:List V} {h h':Heap}(hT:TRel ρ tmps a.tmps) (hH:HRel W0 m0 ρ h w)
 {al:Nat→Bool}{nm:Nat}{v:V}{qs:List Prop}(hs:stepOp arR arR ti tbl al nm o.op tmps h=some (v,h',qs)) (hq:∀q∈qs,q) (hn:isAlloc o.op=true→h[nm]? = some none) (hm:m0≤nm)
 {K:Act→World→Prop}{Q:Exit→Act→World→Prop}(hK:∀ρ' v' w',Ext ρ ρ'→HRel W0 m0 ρ' h' w'→VRel ρ' v v'→K (a.put o.dst v') w'):o.wp P a w K Q:=by
 have hev:∀x,VRel ρ (opnd tmps x) (a.eval x):=fun x=>VRel.opnd hT x a rfl
 unfold stepOp at hs
 split at hs
 ·cases hs
 ·rename_i p qs1 hp
  split at hs
  ·cases hs
  ·rename_i v1 h1 rs1 hf
   simp only[sie,po]at hs
   obtain⟨rfl,rfl,rfl⟩:=hs
   have hq1:∀q∈qs1,q:=fun q hx=>hq q (by simp[hx])
   have hr1:∀q∈rs1,q:=fun q hx=>hq q (by simp[hx])
   unfold Oper.wp
   unfold planOp at hp
   split at hp
   ·rename_i f args T hop
    split at hp
    ·rename_i l hl
     have hargs:=argsOf_rel hev hl
     have e:(execOp a.eval o).run P w=(callFunc f (args.toList.map a.eval).toArray).run P w:=by
      have:args.map a.eval=(args.toList.map a.eval).toArray:=by rw[←Array.toList_map]
      simp[execOp,hop,resolve,Deferred.ofValue,Act.eval,invoke,srb,srp,this]
     rw[e]
     split at hp
     ·split at hp
      ·rename_i s hs
       simp only[sie,po]at hp
       obtain⟨rfl,rfl⟩:=hp
       simp only[perform]at hf
       split at hf
       ·split at hf
        ·rename_i v2 ns2 bs ps hperf
         simp only[sie,po]at hf
         obtain⟨rfl,rfl,rfl⟩:=hf
         obtain⟨las,lbs,v0,lbs',g1,g2,g3,g4⟩:=performH_sound (reach_nodup h l) hH hargs hm reach_live hperf
         exact htbl.h f s hs las lbs v0 lbs' _ g1 hr1 _ _ w g2 g3 o a K Q fun ρ' v' w' hx' hv' hh'=>by
          obtain⟨ρ1,k0,k1,k2⟩:=g4 ρ' v' w' hx' hv' hh'
          exact hK ρ1 v' w' k0 k2 k1
        ·cases hf
       ·cases hf
      ·cases hp
     ·split at hp
      ·rename_i s hs
       split at hp
       ·rename_i hpure
        split at hp
        ·rename_i v2 ps hv
         simp only[sie,po]at hp
         obtain⟨rfl,rfl⟩:=hp
         simp only[perform,sie,po]at hf
         obtain⟨rfl,rfl,rfl⟩:=hf
         exact htbl.p f s hs (l.map bareA) v2 ps hv hq1 ρ.z _ w hH.zok (AsRel.bare (ρ:=ρ) (ρ':=Ren.none ρ.z) (fun _ _ _ h=>h) hargs hpure) o a K Q fun z' v' w' hz1 hz2 hz3 hv' hb=>by
          obtain⟨k1,k2⟩:=hH.keep hb hz1 hz2 hz3
          exact hK _ v' w' k1 k2 (hv'.ext (show Sub (Ren.none z') {ρ with z:=z' }from⟨fun _ _ h=>(by cases h),fun r i u hu=>hu,fun n hn=>(by cases hn),fun _ _ h=>(by cases h)⟩))
        ·cases hp
       ·cases hp
      ·cases hp
    ·cases hp
   ·have hk:=plan_kind hp
    have fin:∀{v' w' ρ'},Res ((execOp a.eval o).run P w) v' w'→Ext ρ ρ'→HRel W0 m0 ρ' h1 w'→VRel ρ' v1 v'→o.upon P a K Q ((execOp a.eval o).run P w):=by
     intro v' w' ρ' hres he hh hv
     rcases hres with e|⟨e,rfl⟩
     ·rw[e];exact hK ρ' v' w' he hh hv
     ·rw[e];exact hK ρ' undef w' he hh hv
    cases hop:o.op<;>rw[hop]at hk
    case load t x=>
     rcases hk with ⟨b,off,hc,hkn,rfl⟩|⟨s,d,v2,hc,rfl⟩
     rotate_left
     ·simp only[perform,sie,po]at hf
      obtain⟨rfl,rfl,rfl⟩:=hf
      obtain⟨v',hrun,hv⟩:=plan_val hti hev hp hq1 w hH.zok
      exact fin (.inl hrun) (Ext.refl ρ) hH hv
     obtain⟨rfl,v',hrun,hv⟩:=load_sound hti hH hkn (Cof_rel (hev x) hc) hf hr1
     exact fin (.inl (by simp[execOp,hop,srb,hrun,srp])) (Ext.refl ρ) hH hv
    case store t x y=>
     obtain⟨b,off,z,hc,hz,hkn,rfl⟩:=hk
     obtain⟨rfl,w',hrun,hh⟩:=store_sound hti hH hkn (Cof_rel (hev x) hc) (Aof_rel (hev y) hz) hf hr1
     exact fin (.inr ⟨by simp[execOp,hop,srb,hrun,srp],rfl⟩) (Ext.refl ρ) hh ⟨#[],rfl,rfl,fun j x hx=>by simp at hx⟩
    case alloc e=>
     obtain⟨z,hkn,hz,hcl,rfl⟩:=hk
     obtain⟨i,hi,-,-,hzero⟩:=(hti e hkn).info
     obtain⟨zv,hzv,hzr⟩:=hzero z hz
     simp only[perform,sie,po]at hf
     obtain⟨rfl,rfl,rfl⟩:=hf
     have hn1:=hn (by rw[hop];rfl)
     obtain⟨ρ',he,hnm,hh⟩:=hH.alloc (ty:=e) hn1 hm (gr_rel (ext_none (ρ:=ρ) hzr)) hcl
     exact fin (v':=.pointer (some ⟨w.heap.size,0,none⟩)) (.inl (by simp[execOp,hop,Instr.alloc,srb,zeroValue,run_typeInfo hi,hzv,newVar,newRow,newObj,Sem.run,srp])) he hh ⟨w.heap.size,0,hnm,rfl⟩
    case buildSlice t n parts=>
     obtain⟨s,ds,rfl⟩:=hk
     simp only[perform,sie,po]at hf
     obtain⟨rfl,rfl,rfl⟩:=hf
     have hn1:=hn (by rw[hop];rfl)
     rw[hop]at hp
     simp only[plan]at hp
     split at hp
     ·cases hp
     ·rename_i hk
      have hk:(ti t).known=true:=by simpa using hk
      obtain⟨d,hd,ht,-⟩:=(hti t hk).und
      split at hp
      ·rename_i e htd
       rw[htd]at ht;cases d<;>simp only[TDRel]at ht
       subst ht
       split at hp
       ·cases hp
       ·rename_i hke
        split at hp
        ·rename_i s' hs'
         split at hp
         ·rename_i hcc
          simp only[bat]at hcc
          split at hp
          ·rename_i ds' hds
           simp only[sie,po,Plan.fresh.injEq]at hp
           obtain⟨⟨-,rfl,rfl⟩,rfl⟩:=hp
           obtain⟨i,hi,his,-,hzero⟩:=(hti _ (by simpa using hke)).info
           obtain⟨z,hz⟩:=Option.isSome_iff_exists.1 hcc.1.2
           obtain⟨zv,hzv,-⟩:=hzero z hz
           have hw:=Nat.eq_of_beq_eq_true hcc.1.1.1.1
           obtain⟨u',w',ρ',hrun,x1,x2,x3⟩:=build_sound hH hev hds (Nat.eq_of_beq_eq_true hcc.2) hd hi hzv (by rw[hw,his]) (Nat.le_of_ble_eq_true hcc.1.1.1.2) (Nat.le_of_ble_eq_true hcc.1.1.2) hn1 hm
           exact fin (.inl (by simp only[execOp,hop,srb,hrun,Result.andThen_ok,srp])) x1 x2 x3
          ·cases hp
         ·cases hp
        ·cases hp
      ·cases hp
    case box e x=>
     obtain⟨z,hz,hcl,rfl⟩:=hk
     simp only[perform,sie,po]at hf
     obtain⟨rfl,rfl,rfl⟩:=hf
     have hn1:=hn (by rw[hop];rfl)
     obtain⟨ρ',he,hnm,hh⟩:=hH.alloc (ty:=e) hn1 hm (gr_rel (Aof_rel (hev x) hz)) hcl
     exact fin (v':=.pointer (some ⟨w.heap.size,0,none⟩)) (.inl (by simp[execOp,hop,Instr.box,srb,newVar,newRow,newObj,Sem.run,srp])) he hh ⟨w.heap.size,0,hnm,rfl⟩
    case call c=>
     rcases hk with ⟨v2,rfl⟩|⟨x,y,t,t',rfl,hkind⟩|⟨x,y,t,t',b,off,n,s,rfl,rfl⟩
     ·simp only[perform,sie,po]at hf
      obtain⟨rfl,rfl,rfl⟩:=hf
      obtain⟨v',hrun,hv⟩:=plan_val hti hev hp hq1 w hH.zok
      exact fin (.inl hrun) (Ext.refl ρ) hH hv
     ·rw[hop]at hp
      replace hp:planApp arR ti (opnd tmps) t t' x y=some (p,qs1):=hp
      obtain⟨e,s,c,d,ys,k1,k2,k3,k4,k5,k6,k7,k8,k9,hcase⟩:=planApp_inv hp
      obtain⟨dt,hd,ht,-⟩:=(hti t k1).und
      rw[k2]at ht;cases dt<;>simp only[TDRel]at ht
      subst ht
      obtain⟨i,hi,his,hib,hzero⟩:=(hti _ k3).info
      obtain⟨z,hz⟩:=Option.isSome_iff_exists.1 k6
      obtain⟨zv,hzv,-⟩:=hzero z hz
      have hn1:=hn (by rw[hop];rfl)
      obtain⟨news,s1,s2,s3⟩:=srcD_rel (w:=w) hti hH.zok k9 (Cof_rel (hev y) k8) hd (n:=i.size) (by rw[k4,his]) k5
      rcases hcase with ⟨xs,tok,c1,rfl,rfl⟩|⟨b,len,cap,k,rfl,rfl,rfl,rfl⟩
      ·have hfit:xs.length+ys.length≤maxLen∧(xs.length+ys.length)*i.bytes≤140737488355328:=by
        rw[hib];exact hq1 _ (List.mem_singleton.2 rfl)
       have hpf:v1=.a (.one (.dat s (xs++ys) (some nm)))∧h1=(killT h tok).set nm (some ⟨false,.tail⟩)∧∀b,tok=some b→h[b]? = some (some ⟨false,.tail⟩):=by
        cases tok with
        |none=>
         simp only[perform,sie,po]at hf
         exact⟨hf.1.symm,hf.2.1.symm,fun b hb=>by cases hb⟩
        |some b=>
         simp only[perform]at hf
         split at hf
         ·split at hf
          ·rename_i hb
           simp only[sie,po]at hf
           exact⟨hf.1.symm,hf.2.1.symm,fun b' hb'=>by cases hb';exact hb⟩
          ·cases hf
         ·cases hf
       obtain⟨rfl,rfl,htok⟩:=hpf
       obtain⟨u',w',ρ',hrun,x1,x2,x3,-,-⟩:=app_sound (ty:=o.type) hH c1 (Cof_rel (hev x) k7) hd hi hzv (by rw[k4,his]) k5 ((hti _ k3).zsz i zv hi hzv) hfit htok hn1 hm s1 s2 s3
       exact fin (.inl (by simp only[execOp,hop,resolve,invoke,builtin,srb,srp,Result.andThen_ok,List.map_toArray,List.map_cons,List.map_nil,hrun])) x1 x2 x3
      ·have hfit:len.val+ys.length≤maxLen∧(len.val+ys.length)*i.bytes≤140737488355328:=by
        rw[hib];exact hq1 _ (List.mem_singleton.2 rfl)
       simp only[perform]at hf
       split at hf
       ·split at hf
        ·rename_i k' M f hb
         split at hf
         ·rename_i hkk
          obtain rfl:=kindEq_eq hkk
          simp only[sie,po]at hf
          obtain⟨rfl,rfl,rfl⟩:=hf
          have hw1:i.size=1:=by rw[his,←k4];rfl
          obtain⟨u',w',ρ',hrun,x1,x2,x3⟩:=froze_sound (ty:=o.type) hH (Cof_rel (hev x) k7) hb (hr1 (arR.leN len.val cap.val) (by simp)) (hr1 (arR.leN cap.val M.val) (by simp)) (hr1 (arR.leN 1 M.val) (by simp)) hd hi hzv hw1 ((hti _ k3).zsz i zv hi hzv) hfit hn1 hm s1 s2 s3
          exact fin (.inl (by simp only[execOp,hop,resolve,invoke,builtin,srb,srp,Result.andThen_ok,List.map_toArray,List.map_cons,List.map_nil,hrun])) x1 x2 x3
         ·cases hf
        ·cases hf
       ·cases hf
     ·rw[hop]at hp
      replace hp:planCopy ti (opnd tmps) t x y=some (.copy b off n s,qs1):=hp
      unfold planCopy at hp
      split at hp
      ·cases hp
      ·rename_i hkn
       have hkn:(ti t).known=true:=by simpa using hkn
       obtain⟨dt,hd,ht,-⟩:=(hti t hkn).und
       split at hp
       ·rename_i e b' off' n' cap s' htd hcx hcy
        split at hp
        ·cases hp
        ·rename_i hke
         have hke:(ti e).known=true∧(ti e).size=1:=by
          simp only[Bool.not_eq_true',Bool.not_eq_false,bat]at hke
          exact⟨hke.1,Nat.eq_of_beq_eq_true hke.2⟩
         simp only[sie,po,Plan.copy.injEq]at hp
         obtain⟨⟨rfl,rfl,rfl,rfl⟩,rfl⟩:=hp
         rw[htd]at ht;cases dt<;>simp only[TDRel]at ht
         subst ht
         obtain⟨i,hi,his,-,-⟩:=(hti _ hke.1).info
         have hy:CRel ρ (.str s') (a.eval y):=Cof_rel (hev y) hcy
         have hy:a.eval y=.string s':=hy
         obtain⟨u',w',hrun,x1,x2⟩:=copy_sound (sT:=t') (ty:=o.type) hH hd hi (by rw[his,hke.2]) (Cof_rel (hev x) hcx) hf hr1
         exact fin (.inl (by simp only[execOp,hop,resolve,invoke,builtin,srb,srp,Result.andThen_ok,List.map_toArray,List.map_cons,List.map_nil,hy,hrun])) (Ext.refl ρ) x1 x2
       ·cases hp
    case makeSlice t l c=>
     obtain⟨g,s,rfl⟩:=hk
     simp only[perform,sie,po]at hf
     obtain⟨rfl,rfl,rfl⟩:=hf
     have hn1:=hn (by rw[hop];rfl)
     rw[hop]at hp
     replace hp:planMake arR ti (opnd tmps) t l c=some (.alloc g (some s),qs1):=hp
     obtain⟨u',w',ρ',hrun,x1,x2,x3⟩:=make_sound hti hH hev hp hq1 hn1 hm
     exact fin (.inl (by simp only[execOp,hop,srb,hrun,Result.andThen_ok,srp])) x1 x2 x3
    case slice t x lo hi mx=>
     rcases hk with ⟨v2,rfl⟩|⟨hmx,s,rfl⟩
     ·simp only[perform,sie,po]at hf
      obtain⟨rfl,rfl,rfl⟩:=hf
      obtain⟨v',hrun,hv⟩:=plan_val hti hev hp hq1 w hH.zok
      exact fin (.inl hrun) (Ext.refl ρ) hH hv
     ·cases mx with
      |none=>cases hmx
      |some m=>
       have hn1:=hn (by rw[hop];rfl)
       rw[hop]at hp
       replace hp:planCut0 ti (opnd tmps) t x lo hi m=some (.fresh none s [],qs1):=hp
       obtain⟨s',e,u',ρ',hrun,x1,x2,x3⟩:=cut0_sound hti hH hev hp hn1 hm
       cases e
       simp only[perform,sie,po]at hf
       obtain⟨rfl,rfl,rfl⟩:=hf
       exact fin (.inl (by simp only[execOp,hop,srb,hrun,Option.map_some,Result.andThen_ok,srp])) x1 x2 x3
    case convert src dst x=>
     rcases hk with ⟨v2,rfl⟩|⟨b,off,len,cap,hc,rfl⟩
     ·simp only[perform,sie,po]at hf
      obtain⟨rfl,rfl,rfl⟩:=hf
      obtain⟨v',hrun,hv⟩:=plan_val hti hev hp hq1 w hH.zok
      exact fin (.inl hrun) (Ext.refl ρ) hH hv
     ·rw[hop]at hp
      simp only[plan]at hp
      split at hp
      ·cases hp
      ·rename_i hk
       have hk:(ti src).known=true∧(ti dst).known=true:=by simpa using hk
       obtain⟨d1,hd1,ht1,-⟩:=(hti src hk.1).und
       obtain⟨d2,hd2,ht2,-⟩:=(hti dst hk.2).und
       rw[hc]at hp
       split at hp<;>first|(cases hp;done)|skip
       all_goals first|(rename_i e1 _;cases e1;done)|skip
       all_goals(try(obtain⟨_,hx⟩:=ok_val hp;cases hx;done))
       rename_i htd
       split at hp
       ·rename_i e hte
        split at hp
        ·cases hp
        ·rename_i hke
         obtain⟨d3,hd3,ht3,-⟩:=(hti e (by simpa using hke)).und
         split at hp
         ·rename_i htde
          rw[hte]at ht1;cases d1<;>simp only[TDRel]at ht1
          subst ht1
          rw[htd]at ht2;cases d2<;>simp only[TDRel]at ht2
          rw[htde]at ht3;cases d3<;>simp only[TDRel]at ht3
          subst ht3
          obtain⟨rfl,s,hrun,rfl⟩:=text_sound hH hd1 hd3 hd2 (Cof_rel (hev x) hc) hf hr1
          exact fin (v':=.string s) (.inl (by simp only[execOp,hop,srb,hrun,Result.andThen_ok,srp])) (Ext.refl ρ) hH rfl
         ·cases hp
       ·cases hp
    all_goals
     obtain⟨v2,rfl⟩:=hk
     simp only[perform,sie,po]at hf
     obtain⟨rfl,rfl,rfl⟩:=hf
     obtain⟨v',hrun,hv⟩:=plan_val hti hev hp hq1 w hH.zok
     exact fin (.inl hrun) (Ext.refl ρ) hH hv
end
end Go.Eng
