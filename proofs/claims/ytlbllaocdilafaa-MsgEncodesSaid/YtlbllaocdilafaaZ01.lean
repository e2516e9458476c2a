import Derived.Test.YtlbllaocdilafaaZ00
import Derived.Laws.AppendOwn
import Derived.Laws.CopyRow
import Derived.Laws.Tables
set_option linter.unusedSimpArgs false
set_option linter.unusedVariables false
namespace Go.Eng
open Go
section
variable {P:Program}{W0:World}{m0:Nat}{ρ:Ren}
theorem HRel.free {h:Heap}{w:World}(hH:HRel W0 m0 ρ h w){n:Nat}(hn:h[n]? = some none):ρ n=none:=by
 cases hp:ρ n with
 |none=>rfl
 |some p=>obtain⟨x,hx⟩:=hH.dom n p hp;rw[hn]at hx;cases hx
theorem set_get {h:Heap}{n:Nat}(hlt:n<h.length) (x:Option Blk) (m:Nat):(h.set n x)[m]? = if n=m then some x else h[m]?:=by
 rw[List.getElem?_set];split
 ·simp[hlt]
 ·rfl
theorem HRel.dying {h:Heap}{w:World}(hH:HRel W0 m0 ρ h w){t:Nat}{g:G}(ht:h[t]? = some (some ⟨false,g⟩)):HRel W0 m0 ρ (h.set t (some ⟨true,.dead⟩)) w:=by
 have hlt:t<h.length:=(ges ht).1
 have hown:∀r,Owned m0 ρ h r→Owned m0 ρ (h.set t (some ⟨true,.dead⟩)) r:=by
  rintro r ⟨n,b,o,h1,h2,h3,h4⟩
  by_cases hnt:t=n
  ·exact⟨n,⟨true,.dead⟩,o,h1,by rw[set_get hlt,if_pos hnt],.inr rfl,h4⟩
  ·exact⟨n,b,o,h1,by rw[set_get hlt,if_neg hnt];exact h2,h3,h4⟩
 refine⟨hH.os,hH.tape,hH.output,hH.size,fun k hk hn=>?_,fun n p hp=>?_,fun n b hb hc=>?_,fun n m r o o' b b' hnm hb hro hb' hd h1 h2=>?_,fun n r o hn hp=>(hH.new n r o hn hp).imp id (hown r),hH.low,fun n b hb hg=>?_,fun n b hb hg=>?_,fun n hv=>⟨(hH.vd1 n hv).1,?_⟩,fun n b hb hp=>?_,hH.zok,fun n b r o i hb hro hp hi=>?_,fun r i v h hr=>(hH.zold r i v h hr).imp id (hown r),hH.yok⟩
 ·exact hH.frame k hk fun ho=>hn (hown k ho)
 ·by_cases hnt:t=n
  ·exact⟨_,by rw[set_get hlt,if_pos hnt]⟩
  ·obtain⟨x,hx⟩:=hH.dom n p hp
   exact⟨x,by rw[set_get hlt,if_neg hnt];exact hx⟩
 ·rw[set_get hlt]at hb
  by_cases hnt:t=n
  ·rw[if_pos hnt]at hb;simp only[sie]at hb;subst hb;cases hc
  ·rw[if_neg hnt]at hb;exact hH.blk n b hb hc
 ·rw[set_get hlt]at hb hb'
  by_cases hnt:t=n
  ·rw[if_pos hnt]at hb;simp only[sie]at hb;subst hb;cases hro
  ·rw[if_neg hnt]at hb
   by_cases hmt:t=m
   ·rw[if_pos hmt]at hb';simp only[sie]at hb';subst hb';exact hd rfl
   ·rw[if_neg hmt]at hb'
    exact hH.sep n m r o o' b b' hnm hb hro hb' hd h1 h2
 ·rw[set_get hlt]at hb
  by_cases hnt:t=n
  ·rw[if_pos hnt]at hb;simp only[sie]at hb;subst hb;cases hg
  ·rw[if_neg hnt]at hb;exact hH.tails n b hb hg
 ·rw[set_get hlt]at hb
  by_cases hnt:t=n
  ·rw[if_pos hnt]at hb;simp only[sie]at hb;subst hb;rfl
  ·rw[if_neg hnt]at hb;exact hH.deadRo n b hb hg
 ·by_cases hnt:t=n
  ·exact⟨_,by rw[set_get hlt,if_pos hnt]⟩
  ·obtain⟨b,hb⟩:=(hH.vd1 n hv).2
   exact⟨b,by rw[set_get hlt,if_neg hnt];exact hb⟩
 ·by_cases hnt:t=n
  ·subst hnt;exact hH.vd2 t _ ht hp
  ·rw[set_get hlt,if_neg hnt]at hb
   exact hH.vd2 n b hb hp
 ·rw[set_get hlt]at hb
  by_cases hnt:t=n
  ·rw[if_pos hnt]at hb;simp only[sie]at hb;subst hb;cases hro
  ·rw[if_neg hnt]at hb;exact hH.zsep n b r o i hb hro hp hi
def Ren.void (ρ:Ren) (nm:Nat):Ren:={ρ with vd:=fun n=>if n=nm then true else ρ.vd n}
theorem Ext.void {nm:Nat}:Ext ρ (ρ.void nm):=by
 refine⟨⟨fun n p h=>⟨h,rfl⟩,fun r i v h=>h,fun n h=>?_,fun _ _ h=>h⟩,rfl⟩
 show(if n=nm then true else ρ.vd n)=true
 split
 ·rfl
 ·exact h
theorem BRel.ext {ρ':Ren}(h:Sub ρ ρ'){b:Blk}{r o:Nat}{w:World}(hb:BRel ρ b r o w):BRel ρ' b r o w:=by
 obtain⟨c,ty,fz,h1,h2,h3⟩:=hb
 exact⟨c,ty,fz,h1,h2,fun j x hx=>let ⟨v,a,b⟩:=h3 j x hx;⟨v,a,b.ext h⟩⟩
theorem HRel.tailVoid {h:Heap}{w:World}(hH:HRel W0 m0 ρ h w){nm:Nat}(hnm:h[nm]? = some none) (hm:m0≤nm):HRel W0 m0 (ρ.void nm) (h.set nm (some ⟨false,.tail⟩)) w:=by
 have hlt:nm<h.length:=(ges hnm).1
 have hfree:=hH.free hnm
 have hne:∀n p,ρ n=some p→nm≠n:=fun n p hp e=>by subst e;rw[hfree]at hp;cases hp
 have hown:∀r,Owned m0 ρ h r→Owned m0 (ρ.void nm) (h.set nm (some ⟨false,.tail⟩)) r:=by
  rintro r ⟨n,b,o,h1,h2,h3,h4⟩
  exact⟨n,b,o,h1,by rw[set_get hlt,if_neg (hne n _ h4)];exact h2,h3,h4⟩
 refine⟨hH.os,hH.tape,hH.output,hH.size,fun k hk hn=>?_,fun n p hp=>?_,fun n b hb hc=>?_,fun n m r o o' b b' hnm hb hro hb' hd h1 h2=>?_,fun n r o hn hp=>(hH.new n r o hn hp).imp id (hown r),hH.low,fun n b hb hg=>?_,fun n b hb hg=>?_,fun n hv=>?_,fun n b hb hp=>?_,hH.zok,fun n b r o i hb hro hp hi=>?_,fun r i v h hr=>(hH.zold r i v h hr).imp id (hown r),hH.yok⟩
 ·exact hH.frame k hk fun ho=>hn (hown k ho)
 ·obtain⟨x,hx⟩:=hH.dom n p hp
  exact⟨x,by rw[set_get hlt,if_neg (hne n _ hp)];exact hx⟩
 ·rw[set_get hlt]at hb
  by_cases hnt:nm=n
  ·rw[if_pos hnt]at hb;simp only[sie]at hb;subst hb;cases hc
  ·rw[if_neg hnt]at hb
   obtain⟨r,o,e1,e2⟩:=hH.blk n b hb hc
   exact⟨r,o,e1,e2.ext (Ext.void (ρ:=ρ) (nm:=nm)).toSub⟩
 ·rw[set_get hlt,if_neg (hne n _ h1)]at hb
  rw[set_get hlt,if_neg (hne m _ h2)]at hb'
  exact hH.sep n m r o o' b b' hnm hb hro hb' hd h1 h2
 ·rw[set_get hlt]at hb
  by_cases hnt:nm=n
  ·rw[if_pos hnt]at hb;simp only[sie]at hb;subst hb
   subst hnt
   exact⟨rfl,fun r o hp=>by have hp:ρ nm=some (r,o):=hp;rw[hfree]at hp;cases hp⟩
  ·rw[if_neg hnt]at hb;exact hH.tails n b hb hg
 ·rw[set_get hlt]at hb
  by_cases hnt:nm=n
  ·rw[if_pos hnt]at hb;simp only[sie]at hb;subst hb;cases hg
  ·rw[if_neg hnt]at hb;exact hH.deadRo n b hb hg
 ·have hv:(if n=nm then true else ρ.vd n)=true:=hv
  by_cases hnt:n=nm
  ·subst hnt
   exact⟨hfree,_,by rw[set_get hlt,if_pos rfl]⟩
  ·rw[if_neg hnt]at hv
   obtain⟨g1,b,g2⟩:=hH.vd1 n hv
   exact⟨g1,b,by rw[set_get hlt,if_neg (Ne.symm hnt)];exact g2⟩
 ·show(if n=nm then true else ρ.vd n)=true
  by_cases hnt:n=nm
  ·rw[if_pos hnt]
  ·rw[set_get hlt,if_neg (Ne.symm hnt)]at hb
   rw[if_neg hnt];exact hH.vd2 n b hb hp
 ·rw[set_get hlt,if_neg (hne n _ hp)]at hb
  exact hH.zsep n b r o i hb hro hp hi
def Ren.name (ρ:Ren) (nm:Nat) (p:Nat×Nat) (rm:Nat):Ren:={ρ with f:=fun n=>if n=nm then some p else ρ n,room:=fun n=>if n=nm then rm else ρ.room n}
theorem Ext.name {nm:Nat}{p:Nat×Nat}{rm:Nat}(hf:ρ nm=none):Ext ρ (ρ.name nm p rm):=by
 refine⟨⟨fun n q hq=>?_,fun r i v h=>h,fun n h=>h,fun _ _ h=>h⟩,rfl⟩
 have:n≠nm:=fun e=>by subst e;rw[hf]at hq;cases hq
 exact⟨by show(if n=nm then some p else ρ n)=_;rw[if_neg this];exact hq,by show(if n=nm then rm else ρ.room n)=_;rw[if_neg this]⟩
theorem HRel.tailAt {h:Heap}{w:World}(hH:HRel W0 m0 ρ h w){nm:Nat}(hnm:h[nm]? = some none) (hm:m0≤nm) {r o rm:Nat}(hr0:W0.heap.size≤r∨Owned m0 ρ h r){c:Array Value}{ty:TypeId}(hw:w.heap[r]? = some (.cells c ty (0,0))) (hfit:o+rm≤c.size)
 (hsep:∀n o' b,h[n]? = some (some b)→b.g≠.dead→ρ n=some (r,o')→False) (hz:∀i,o≤i→ρ.z r i=none):HRel W0 m0 (ρ.name nm (r,o) rm) (h.set nm (some ⟨false,.tail⟩)) w:=by
 have hlt:nm<h.length:=(ges hnm).1
 have hfree:=hH.free hnm
 have hx:Ext ρ (ρ.name nm (r,o) rm):=Ext.name hfree
 have hset:∀n (x:Option Blk),(h.set nm x)[n]? = if nm=n then some x else h[n]?:=fun n x=>set_get hlt x n
 have hat:∀n p,(ρ.name nm (r,o) rm) n=some p→(n=nm∧p=(r,o))∨(n≠nm∧ρ n=some p):=by
  intro n p hp
  have hp:(if n=nm then some (r,o)else ρ n)=some p:=hp
  by_cases hn:n=nm
  ·rw[if_pos hn]at hp;exact .inl ⟨hn,(Option.some.inj hp).symm⟩
  ·rw[if_neg hn]at hp;exact .inr ⟨hn,hp⟩
 have hown:∀r',Owned m0 ρ h r'→Owned m0 (ρ.name nm (r,o) rm) (h.set nm (some ⟨false,.tail⟩)) r':=by
  rintro r' ⟨n,b,o',h1,h2,h3,h4⟩
  refine⟨n,b,o',h1,?_,h3,(hx.f n _ h4).1⟩
  rw[hset,if_neg]
  ·exact h2
  ·intro e;subst e;rw[hfree]at h4;cases h4
 refine⟨hH.os,hH.tape,hH.output,hH.size,fun k hk hn=>?_,fun n p hp=>?_,fun n b hb hc=>?_,fun n m r1 o1 o' b b' hnm' hb hro hb' hd h1 h2=>?_,fun n r1 o1 hn hp=>?_,fun n r1 o1 hp=>?_,fun n b hb hg=>?_,fun n b hb hg=>?_,fun n hv=>?_,fun n b hb hp=>?_,hH.zok,fun n b r1 o1 i hb hro hp hi=>?_,fun r i v h hr=>(hH.zold r i v h hr).imp id (hown r),hH.yok⟩
 ·exact hH.frame k hk fun ho=>hn (hown k ho)
 ·rcases hat n p hp with ⟨e1,-⟩|⟨e1,hp⟩
  ·exact⟨_,by rw[hset,if_pos e1.symm]⟩
  ·obtain⟨b,hb⟩:=hH.dom n p hp
   exact⟨b,by rw[hset,if_neg (Ne.symm e1)];exact hb⟩
 ·rw[hset]at hb
  by_cases hn:nm=n
  ·rw[if_pos hn]at hb;simp only[sie]at hb;subst hb;cases hc
  ·rw[if_neg hn]at hb
   obtain⟨r1,o1,e1,e2⟩:=hH.blk n b hb hc
   exact⟨r1,o1,(hx.f n _ e1).1,e2.ext hx⟩
 ·rw[hset]at hb hb'
  rcases hat n _ h1 with ⟨e1,e2⟩|⟨e1,h1⟩
  ·rcases hat m _ h2 with ⟨e3,-⟩|⟨e3,h2⟩
   ·exact hnm' (e1.trans e3.symm)
   ·simp only[po]at e2
    rw[e2.1]at h2
    rw[if_neg (Ne.symm e3)]at hb'
    exact hsep m o' b' hb' hd h2
  ·rw[if_neg (Ne.symm e1)]at hb
   rcases hat m _ h2 with ⟨e3,e4⟩|⟨e3,h2⟩
   ·simp only[po]at e4
    rw[e4.1]at h1
    by_cases hdb:b.g=.dead
    ·rw[hH.deadRo n b hb hdb]at hro;cases hro
    ·exact hsep n o1 b hb hdb h1
   ·rw[if_neg (Ne.symm e3)]at hb'
    exact hH.sep n m r1 o1 o' b b' hnm' hb hro hb' hd h1 h2
 ·rcases hat n _ hp with ⟨e1,e2⟩|⟨e1,hp⟩
  ·simp only[po]at e2
   rw[e2.1];exact hr0.imp id (hown r)
  ·exact(hH.new n r1 o1 hn hp).imp id (hown r1)
 ·rcases hat n _ hp with ⟨e1,e2⟩|⟨e1,hp⟩
  ·simp only[po]at e2
   rw[e2.1]
   exact(Array.getElem?_eq_some_iff.1 hw).1
  ·exact hH.low n r1 o1 hp
 ·rw[hset]at hb
  by_cases hn:nm=n
  ·rw[if_pos hn]at hb;simp only[sie]at hb;subst hb
   refine⟨rfl,fun r1 o1 hp=>?_⟩
   rcases hat n _ hp with ⟨e1,e2⟩|⟨e1,hp⟩
   ·simp only[po]at e2
    obtain⟨rfl,rfl⟩:=e2
    refine⟨c,ty,hw,?_⟩
    show o1+(if n=nm then rm else ρ.room n)≤_
    rw[if_pos e1];exact hfit
   ·exact absurd hn.symm e1
  ·rw[if_neg hn]at hb
   obtain⟨t1,t3⟩:=hH.tails n b hb hg
   refine⟨t1,fun r1 o1 hp=>?_⟩
   rcases hat n _ hp with ⟨e1,e2⟩|⟨e1,hp⟩
   ·exact absurd e1.symm hn
   ·obtain⟨c1,ty1,f1,f2⟩:=t3 r1 o1 hp
    refine⟨c1,ty1,f1,?_⟩
    show o1+(if n=nm then rm else ρ.room n)≤_
    rw[if_neg e1];exact f2
 ·rw[hset]at hb
  by_cases hn:nm=n
  ·rw[if_pos hn]at hb;simp only[sie]at hb;subst hb;cases hg
  ·rw[if_neg hn]at hb;exact hH.deadRo n b hb hg
 ·obtain⟨g1,b,g2⟩:=hH.vd1 n hv
  have hne:nm≠n:=fun e=>by subst e;rw[hnm]at g2;cases g2
  exact⟨by show(if n=nm then some (r,o)else ρ n)=none;rw[if_neg (Ne.symm hne)];exact g1,b,by rw[hset,if_neg hne];exact g2⟩
 ·have hp:(if n=nm then some (r,o)else ρ n)=none:=hp
  by_cases hn:n=nm
  ·rw[if_pos hn]at hp;cases hp
  ·rw[if_neg hn]at hp
   rw[hset,if_neg (Ne.symm hn)]at hb
   exact hH.vd2 n b hb hp
 ·rw[hset]at hb
  rcases hat n _ hp with ⟨e1,e2⟩|⟨e1,hp⟩
  ·simp only[po]at e2
   obtain⟨rfl,rfl⟩:=e2
   rw[if_pos e1.symm]at hb
   simp only[sie]at hb
   subst hb
   exact hz i (hi rfl)
  ·rw[if_neg (Ne.symm e1)]at hb
   exact hH.zsep n b r1 o1 i hb hro hp hi
end
section
variable {P:Program}{W0:World}{m0:Nat}{ρ:Ren}
def Ren.freeze (ρ:Ren) (zn:Nat→Nat→Option Value):Ren:={ρ with z:=fun r i=>match ρ.z r i with
 |some v=>some v
 |Option.none=>zn r i}
theorem Ext.freeze {zn:Nat→Nat→Option Value}:Ext ρ (ρ.freeze zn):=by
 refine⟨⟨fun n p h=>⟨h,rfl⟩,fun r i v h=>?_,fun n h=>h,fun _ _ h=>h⟩,rfl⟩
 show(match ρ.z r i with
  |some v=>some v
  |none=>zn r i)=some v
 rw[h]
theorem freeze_get {zn:Nat→Nat→Option Value}{r i:Nat}{v:Value}(h:(ρ.freeze zn).z r i=some v):ρ.z r i=some v∨(ρ.z r i=none∧zn r i=some v):=by
 replace h:(match ρ.z r i with
  |some v=>some v
  |none=>zn r i)=some v:=h
 cases e:ρ.z r i with
 |some u=>rw[e]at h;exact .inl h
 |none=>rw[e]at h;exact .inr ⟨rfl,h⟩
theorem freeze_new {zn:Nat→Nat→Option Value}{r i:Nat}{v:Value}(h0:ρ.z r i=none) (h:zn r i=some v):(ρ.freeze zn).z r i=some v:=by
 show(match ρ.z r i with
  |some v=>some v
  |none=>zn r i)=some v
 rw[h0];exact h
theorem HRel.freeze {h:Heap}{w:World}(hH:HRel W0 m0 ρ h w){zn:Nat→Nat→Option Value}(hz:ZOk zn w) (hnew:∀r i v,zn r i=some v→W0.heap.size≤r∨Owned m0 ρ h r)
 (hsep:∀(n:Nat) (b:Blk) r o i,h[n]? = some (some b)→b.ro=false→ρ n=some (r,o)→(b.g=.tail→o≤i)→zn r i=none):HRel W0 m0 (ρ.freeze zn) h w:=by
 have hx:Ext ρ (ρ.freeze zn):=Ext.freeze
 refine⟨hH.os,hH.tape,hH.output,hH.size,hH.frame,hH.dom,fun n b hb hc=>?_,hH.sep,hH.new,hH.low,hH.tails,hH.deadRo,hH.vd1,hH.vd2,fun r i v h=>?_,fun n b r o i hb hro hp hi=>?_,fun r i v h hr=>?_,hH.yok⟩
 ·obtain⟨r,o,e1,e2⟩:=hH.blk n b hb hc
  exact⟨r,o,e1,e2.ext hx⟩
 ·rcases freeze_get h with h|⟨-,h⟩
  ·exact hH.zok r i v h
  ·exact hz r i v h
 ·cases e:(ρ.freeze zn).z r i with
  |none=>rfl
  |some v=>
   rcases freeze_get e with e|⟨-,e⟩
   ·rw[hH.zsep n b r o i hb hro hp hi]at e;cases e
   ·rw[hsep n b r o i hb hro hp hi]at e;cases e
 ·rcases freeze_get h with h|⟨-,h⟩
  ·exact hH.zold r i v h hr
  ·rcases hnew r i v h with h1|h1
   ·omega
   ·exact .inr h1
theorem HRel.push {h:Heap}{w:World}(hH:HRel W0 m0 ρ h w) (x:Obj) (d:Nat):HRel W0 m0 ρ h {w with heap:=w.heap.push x,drawn:=d}:=by
 have keep:∀r,r<w.heap.size→({w with heap:=w.heap.push x,drawn:=d}:World).heap[r]? = w.heap[r]?:=by
  intro r hr
  show(w.heap.push x)[r]? = _
  rw[Array.getElem?_push,if_neg (by omega)]
 refine⟨hH.os,hH.tape,hH.output,by simp only[Array.size_push];have:=hH.size;omega,fun k hk hn=>?_,hH.dom,fun n b hb hc=>?_,hH.sep,hH.new,fun n r o hp=>by simp only[Array.size_push];have:=hH.low n r o hp;omega,fun n b hb hg=>?_,hH.deadRo,hH.vd1,hH.vd2,fun r i v h=>?_,hH.zsep,hH.zold,fun r T n h=>let ⟨c,fz,e1,e2⟩:=hH.yok r T n h;⟨c,fz,by rw[keep r (Array.getElem?_eq_some_iff.1 e1).1];exact e1,e2⟩⟩
 ·rw[keep k (by have:=hH.size;omega)];exact hH.frame k hk hn
 ·obtain⟨r,o,e1,c,ty,fz,e2,e3⟩:=hH.blk n b hb hc
  exact⟨r,o,e1,c,ty,fz,by rw[keep r (hH.low n r o e1)];exact e2,e3⟩
 ·obtain⟨t1,t3⟩:=hH.tails n b hb hg
  refine⟨t1,fun r o hp=>?_⟩
  obtain⟨c,ty,e1,e2⟩:=t3 r o hp
  exact⟨c,ty,by rw[keep r (hH.low n r o hp)];exact e1,e2⟩
 ·obtain⟨c,ty,fz,e1,e2⟩:=hH.zok r i v h
  exact⟨c,ty,fz,by rw[keep r (Array.getElem?_eq_some_iff.1 e1).1];exact e1,e2⟩
theorem HRel.poke {h:Heap} {w w':World}(hH:HRel W0 m0 ρ h w) {t r o:Nat}(ht:h[t]? = some (some ⟨false,.tail⟩)) (hp:ρ t=some (r,o)) {c c':Array Value}{ty:TypeId}(hw:w.heap[r]? = some (.cells c ty (0,0))) (hw':w'.heap[r]? = some (.cells c' ty (0,0))) (hs:c'.size=c.size) (hlow:∀i,i<o→c'[i]? = c[i]?)
 (h1:w'.os=w.os) (h2:w'.tape=w.tape) (h3:w'.output=w.output) (h4:w'.heap.size=w.heap.size) (h5:∀k,k≠r→w'.heap[k]? = w.heap[k]?):HRel W0 m0 ρ h w':=by
 have hr0:W0.heap.size≤r∨Owned m0 ρ h r:=by
  rcases Nat.lt_or_ge t m0 with h1|h1
  ·exact .inr ⟨t,_,o,h1,ht,.inl rfl,hp⟩
  ·exact hH.new t r o h1 hp
 refine⟨h1.trans hH.os,h2.trans hH.tape,h3.trans hH.output,by rw[h4];exact hH.size,fun k hk hn=>?_,hH.dom,fun n b hb hc=>?_,hH.sep,hH.new,fun n r1 o1 hp1=>by rw[h4];exact hH.low n r1 o1 hp1,fun n b hb hg=>?_,hH.deadRo,hH.vd1,hH.vd2,fun r1 i v h=>?_,hH.zsep,hH.zold,fun r1 T n h=>by
  obtain⟨c1,fz1,e1,e2⟩:=hH.yok r1 T n h
  by_cases hne:r1=r
  ·subst hne
   rw[hw]at e1
   simp only[sie,Obj.cells.injEq]at e1
   obtain⟨rfl,rfl,rfl⟩:=e1
   exact⟨c',(0,0),hw',by rw[hs];exact e2⟩
  ·exact⟨c1,fz1,by rw[h5 r1 hne];exact e1,e2⟩⟩
 ·rw[h5 k (by
   intro e
   subst e
   rcases hr0 with h1|h1
   ·omega
   ·exact hn h1)];exact hH.frame k hk hn
 ·obtain⟨r1,o1,e1,c1,ty1,fz1,e2,e3⟩:=hH.blk n b hb hc
  have hne:r1≠r:=by
   intro e
   subst e
   have htn:t≠n:=by
    intro e
    subst e
    rw[ht]at hb
    simp only[sie]at hb
    subst hb;cases hc
   refine hH.sep t n r1 o o1 _ b htn ht rfl hb (fun e=>?_) hp e1
   rw[e]at hc;cases hc
  exact⟨r1,o1,e1,c1,ty1,fz1,by rw[h5 r1 hne];exact e2,e3⟩
 ·obtain⟨t1,t3⟩:=hH.tails n b hb hg
  refine⟨t1,fun r1 o1 hp1=>?_⟩
  obtain⟨c1,ty1,e1,e2⟩:=t3 r1 o1 hp1
  by_cases hne:r1=r
  ·subst hne
   rw[hw]at e1
   simp only[sie,Obj.cells.injEq]at e1
   obtain⟨rfl,rfl,-⟩:=e1
   exact⟨c',ty,hw',by rw[hs];exact e2⟩
  ·exact⟨c1,ty1,by rw[h5 r1 hne];exact e1,e2⟩
 ·obtain⟨c1,ty1,fz1,e1,e2⟩:=hH.zok r1 i v h
  by_cases hne:r1=r
  ·subst hne
   rw[hw]at e1
   simp only[sie,Obj.cells.injEq]at e1
   obtain⟨rfl,rfl,rfl⟩:=e1
   refine⟨c',ty,(0,0),hw',?_⟩
   rw[hlow i]
   ·exact e2
   ·apply Decidable.byContradiction
    intro hi
    rw[hH.zsep t _ r1 o i ht rfl hp (fun _=>by omega)]at h
    cases h
  ·exact⟨c1,ty1,fz1,by rw[h5 r1 hne];exact e1,e2⟩
theorem realloc_rel {h:Heap}{w:World}(hH:HRel W0 m0 ρ h w){nm:Nat}(hnm:h[nm]? = some none) (hm:m0≤nm) (cells:List Value) (rest:Array Value) (e:TypeId) (d:Nat):
 ∃ρ',Ext ρ ρ'∧HRel W0 m0 ρ' (h.set nm (some ⟨false,.tail⟩)) {w with heap:=w.heap.push (.cells (cells.toArray++rest) e),drawn:=d}∧ρ' nm=some (w.heap.size,cells.length)∧ρ'.room nm=rest.size∧∀(j:Nat) v,cells[j]? = some v→ρ'.z w.heap.size j=some v:=by
 have hlt:nm<h.length:=(ges hnm).1
 have hfree:=hH.free hnm
 have hz0:∀i,ρ.z w.heap.size i=none:=fun i=>by
  cases e:ρ.z w.heap.size i with
  |none=>rfl
  |some v=>
   obtain⟨c,ty,fz,e1,-⟩:=hH.zok _ _ _ e
   have:=(Array.getElem?_eq_some_iff.1 e1).1
   omega
 have hget:({w with heap:=w.heap.push (.cells (cells.toArray++rest) e),drawn:=d}:World).heap[w.heap.size]? = some (.cells (cells.toArray++rest) e):=by
  show(w.heap.push _)[w.heap.size]? = _
  simp
 have hcell:∀(j:Nat) v,cells[j]? = some v→(cells.toArray++rest)[j]? = some v:=fun j v hj=>by
  rw[Array.getElem?_append_left (by simpa using (ges hj).1),List.getElem?_toArray];exact hj
 let zn:Nat→Nat→Option Value:=fun r i=>if r=w.heap.size then cells[i]? else none
 have h1:=hH.push (.cells (cells.toArray++rest) e) d
 have h2:=h1.freeze (zn:=zn) (fun r i v hv=>by
  by_cases hr:r=w.heap.size
  ·have hv2:(if r=w.heap.size then cells[i]? else none)=some v:=hv
   rw[if_pos hr]at hv2
   subst hr
   exact⟨_,_,_,hget,hcell i v hv2⟩
  ·have hv:(if r=w.heap.size then cells[i]? else none)=some v:=hv
   rw[if_neg hr]at hv;cases hv) (fun r i v hv=>by
  by_cases hr:r=w.heap.size
  ·have:=hH.size;exact .inl (by omega)
  ·have hv:(if r=w.heap.size then cells[i]? else none)=some v:=hv
   rw[if_neg hr]at hv;cases hv) (fun n b r o i hb hro hp hi=>by
  have:=hH.low n r o hp
  show(if r=w.heap.size then cells[i]? else none)=none
  rw[if_neg (by omega)])
 have hznew:∀(j:Nat) v,cells[j]? = some v→(ρ.freeze zn).z w.heap.size j=some v:=fun j v hj=>freeze_new (hz0 j) (by show(if w.heap.size=w.heap.size then cells[j]? else none)=_;rw[if_pos rfl];exact hj)
 have h4:=h2.tailAt (nm:=nm) hnm hm (r:=w.heap.size) (o:=cells.length) (rm:=rest.size) (.inl hH.size) hget (by simp) (fun n o' b hb hd hp=>by
  have:=hH.low n _ o' hp
  omega) (fun i hi=>by
  cases e:(ρ.freeze zn).z w.heap.size i with
  |none=>rfl
  |some v=>
   rcases freeze_get e with e|⟨-,e⟩
   ·rw[hz0]at e;cases e
   ·have e:(if w.heap.size=w.heap.size then cells[i]? else none)=some v:=e
    rw[if_pos rfl,List.getElem?_eq_none_iff.2 hi]at e;cases e)
 exact⟨_,Ext.freeze.trans (Ext.name hfree),h4,by show(if nm=nm then _ else _)=_;rw[if_pos rfl],by show(if nm=nm then _ else _)=_;rw[if_pos rfl],hznew⟩
theorem inplace_rel {h:Heap} {w w':World}(hH:HRel W0 m0 ρ h w) {b r o:Nat}(hb:h[b]? = some (some ⟨false,.tail⟩)) (hp:ρ b=some (r,o)){nm:Nat}(hnm:h[nm]? = some none) (hm:m0≤nm) (news:List Value) (hroom:news.length≤ρ.room b)
 {c c':Array Value}{ty:TypeId}(hw:w.heap[r]? = some (.cells c ty (0,0))) (hw':w'.heap[r]? = some (.cells c' ty (0,0))) (hs:c'.size=c.size) (hlow:∀i,i<o→c'[i]? = c[i]?) (hnew:∀(j:Nat) v,news[j]? = some v→c'[o+j]? = some v)
 (h1:w'.os=w.os) (h2:w'.tape=w.tape) (h3:w'.output=w.output) (h4:w'.heap.size=w.heap.size) (h5:∀k,k≠r→w'.heap[k]? = w.heap[k]?):
 ∃ρ',Ext ρ ρ'∧HRel W0 m0 ρ' ((h.set b (some ⟨true,.dead⟩)).set nm (some ⟨false,.tail⟩)) w'∧ρ' nm=some (r,o+news.length)∧ρ'.room nm=ρ.room b-news.length∧∀(j:Nat) v,news[j]? = some v→ρ'.z r (o+j)=some v:=by
 have hltb:b<h.length:=(ges hb).1
 have hlt:nm<h.length:=(ges hnm).1
 have hfree:=hH.free hnm
 have hbn:b≠nm:=fun e=>by subst e;rw[hb]at hnm;cases hnm
 have hr0:W0.heap.size≤r∨Owned m0 ρ h r:=by
  rcases Nat.lt_or_ge b m0 with h1|h1
  ·exact .inr ⟨b,_,o,h1,hb,.inl rfl,hp⟩
  ·exact hH.new b r o h1 hp
 have hown1:Owned m0 ρ h r→Owned m0 ρ (h.set b (some ⟨true,.dead⟩)) r:=by
  rintro⟨n,x,o1,g1,g2,g3,g4⟩
  by_cases hn:b=n
  ·exact⟨n,⟨true,.dead⟩,o1,g1,by rw[set_get hltb,if_pos hn],.inr rfl,g4⟩
  ·exact⟨n,x,o1,g1,by rw[set_get hltb,if_neg hn];exact g2,g3,g4⟩
 have hz0:∀i,o≤i→ρ.z r i=none:=fun i hi=>hH.zsep b _ r o i hb rfl hp (fun _=>hi)
 have hothers:∀n o' x,n≠b→h[n]? = some (some x)→x.g≠.dead→ρ n=some (r,o')→False:=fun n o' x hn hx hd hpn=>hH.sep b n r o o' _ x (Ne.symm hn) hb rfl hx hd hp hpn
 have k1:=hH.poke hb hp hw hw' hs hlow h1 h2 h3 h4 h5
 have k2:=k1.dying hb
 let zn:Nat→Nat→Option Value:=fun r' i=>if r'=r∧o≤i then news[i-o]? else none
 have hset:∀n (x:Blk),(h.set b (some ⟨true,.dead⟩))[n]? = some (some x)→(n=b∧x=⟨true,.dead⟩)∨(n≠b∧h[n]? = some (some x)):=fun n x hx=>by
  rw[set_get hltb]at hx
  by_cases hn:b=n
  ·rw[if_pos hn]at hx
   simp only[sie]at hx
   exact .inl ⟨hn.symm,hx.symm⟩
  ·rw[if_neg hn]at hx
   exact .inr ⟨Ne.symm hn,hx⟩
 have hzn:∀r' i v,zn r' i=some v→r'=r∧o≤i∧news[i-o]? = some v:=fun r' i v hv=>by
  have hv:(if r'=r∧o≤i then news[i-o]? else none)=some v:=hv
  by_cases hc:r'=r∧o≤i
  ·rw[if_pos hc]at hv;exact⟨hc.1,hc.2,hv⟩
  ·rw[if_neg hc]at hv;cases hv
 have k3:=k2.freeze (zn:=zn) (fun r' i v hv=>by
  obtain⟨rfl,hi,hv⟩:=hzn r' i v hv
  refine⟨c',ty,_,hw',?_⟩
  have:=hnew (i-o) v hv
  rw[show o+(i-o)=i by omega]at this
  exact this) (fun r' i v hv=>by
  obtain⟨rfl,-,-⟩:=hzn r' i v hv
  exact hr0.imp id hown1) (fun n x r' o' i hx hro hpn hi=>by
  cases e:zn r' i with
  |none=>rfl
  |some v=>
   exfalso
   obtain⟨rfl,-,-⟩:=hzn r' i v e
   rcases hset n x hx with ⟨-,rfl⟩|⟨hn,hx⟩
   ·cases hro
   ·refine hothers n o' x hn hx (fun hd=>?_) hpn
    rw[hH.deadRo n x hx hd]at hro;cases hro)
 have hnm2:(h.set b (some ⟨true,.dead⟩))[nm]? = some none:=by rw[set_get hltb,if_neg hbn];exact hnm
 have k5:=k3.tailAt (nm:=nm) hnm2 hm (r:=r) (o:=o+news.length) (rm:=ρ.room b-news.length) (hr0.imp id hown1) hw' (by
  obtain⟨-,t3⟩:=hH.tails b _ hb rfl
  obtain⟨c1,ty1,e1,e2⟩:=t3 r o hp
  rw[hw]at e1
  simp only[sie,Obj.cells.injEq]at e1
  obtain⟨rfl,-,-⟩:=e1
  omega) (fun n o' x hx hd hpn=>by
  rcases hset n x hx with ⟨-,rfl⟩|⟨hn,hx⟩
  ·exact hd rfl
  ·exact hothers n o' x hn hx hd hpn) (fun i hi=>by
  cases e:(ρ.freeze zn).z r i with
  |none=>rfl
  |some v=>
   rcases freeze_get e with e|⟨-,e⟩
   ·rw[hz0 i (by omega)]at e;cases e
   ·obtain⟨-,hi2,e⟩:=hzn r i v e
    rw[List.getElem?_eq_none_iff.2 (by omega)]at e;cases e)
 refine⟨_,Ext.freeze.trans (Ext.name hfree),k5,by show(if nm=nm then _ else _)=_;rw[if_pos rfl],by show(if nm=nm then _ else _)=_;rw[if_pos rfl],fun j v hj=>?_⟩
 refine freeze_new (hz0 _ (by omega)) ?_
 show(if r=r∧o≤o+j then news[o+j-o]? else none)=_
 rw[if_pos ⟨rfl,by omega⟩,show o+j-o=j by omega];exact hj
end
end Go.Eng
