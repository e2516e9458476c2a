import Derived.Test.YtlbllaocdilafaaZ04
import Derived.Great.BuildSlice
set_option linter.unusedSimpArgs false
set_option linter.unusedVariables false
namespace Go.Eng
open Go Go.RowKit
section
variable {P:Program}{W0:World}{m0:Nat}{ρ:Ren}
def LL (ρ:Ren) (cs:List C) (vs:List Value):Prop:=vs.length=cs.length∧∀(j:Nat) x,cs[j]? = some x→∃v,vs[j]? = some v∧CRel ρ x v
theorem numK_rel {k:IntKind}{c:C}{n:Int}{v:Value}(h:numK k c=some n) (hv:CRel ρ c v):v=.int k n:=by
 unfold numK at h
 split at h
 ·rename_i k' m l hnum
  split at h
  ·rename_i hk
   simp only[sie]at h
   subst h
   rw[hv.of_num hnum,kindEq_eq hk]
  ·cases h
 ·cases h
theorem LL.drop {cs:List C}{vs:List Value}(h:LL ρ cs vs) (n:Nat):LL ρ (cs.drop n) (vs.drop n):=
 ⟨by rw[List.length_drop,List.length_drop,h.1],fun j x hx=>by
  rw[List.getElem?_drop]at hx
  obtain⟨v,a,b⟩:=h.2 _ x hx
  exact⟨v,by rw[List.getElem?_drop];exact a,b⟩⟩
theorem LL.tail {c:C}{cs:List C}{vs:List Value}(h:LL ρ (c::cs) vs):∃v vs',vs=v::vs'∧CRel ρ c v∧LL ρ cs vs':=by
 cases vs with
 |nil=>have:=h.1;simp at this
 |cons v vs'=>
  obtain⟨u,a,b⟩:=h.2 0 c rfl
  simp at a
  subst a
  refine⟨_,_,rfl,b,by have:=h.1;simpa using this,fun j x hx=>?_⟩
  exact h.2 (j+1) x hx
theorem encL_rel:∀{s:Sh}{cs:List C}{d:D} {cs':List C}{vs:List Value},encL s cs=some (d,cs')→LL ρ cs vs→s.width≤vs.length∧LL ρ cs' (vs.drop s.width)∧SRel ρ.z s d (fun j=>vs[j]?)
 |.int k,[],d,cs',vs,h,hl=>by simp[encL]at h
 |.int k,c::l,d,cs',vs,h,hl=>by
  simp only[encL,oms,po]at h
  obtain⟨n,hn,rfl,rfl⟩:=h
  obtain⟨v,vs',rfl,hv,hr⟩:=hl.tail
  exact⟨by simp[Sh.width],hr,n,rfl,by show some v=_;rw[numK_rel hn hv]⟩
 |.bool,[],d,cs',vs,h,hl=>by simp[encL]at h
 |.bool,c::l,d,cs',vs,h,hl=>by
  obtain⟨v,vs',rfl,hv,hr⟩:=hl.tail
  cases c<;>simp only[encL]at h<;>first|(cases h;done)|skip
  all_goals
   simp only[sie,po]at h
   obtain⟨rfl,rfl⟩:=h
   exact⟨by simp[Sh.width],hr,_,rfl,congrArg some hv⟩
 |.str,[],d,cs',vs,h,hl=>by simp[encL]at h
 |.str,c::l,d,cs',vs,h,hl=>by
  obtain⟨v,vs',rfl,hv,hr⟩:=hl.tail
  cases c<;>simp only[encL]at h<;>first|(cases h;done)|skip
  simp only[sie,po]at h
  obtain⟨rfl,rfl⟩:=h
  exact⟨by simp[Sh.width],hr,_,rfl,congrArg some hv⟩
 |.arr k m,cs,d,cs',vs,h,hl=>by
  simp only[encL]at h
  split at h
  ·rename_i hm
   simp only[oms,po]at h
   obtain⟨ns,hns,rfl,rfl⟩:=h
   have hlen:=mapM_some_length hns
   rw[List.length_take,Nat.min_eq_left hm]at hlen
   refine⟨by show m≤_;rw[hl.1];exact hm,hl.drop m,ns,rfl,hlen,fun j x hx=>?_⟩
   obtain⟨c,e1,e2⟩:=mapM_back hns j x hx
   have hj:j<m:=by
    have:=(ges hx).1
    omega
   rw[List.getElem?_take_of_lt hj]at e1
   obtain⟨v,f1,f2⟩:=hl.2 j c e1
   show vs[j]? = _
   rw[f1,numK_rel e2 f2]
  ·cases h
 |.two a b,cs,d,cs',vs,h,hl=>by
  simp only[encL]at h
  split at h
  ·rename_i x c1 h1
   split at h
   ·rename_i y c2 h2
    simp only[sie,po]at h
    obtain⟨rfl,rfl⟩:=h
    obtain⟨p1,p2,p3⟩:=encL_rel h1 hl
    obtain⟨q1,q2,q3⟩:=encL_rel h2 p2
    rw[List.length_drop]at q1
    refine⟨by show a.width+b.width≤_;omega,?_,x,y,rfl,p3,?_⟩
    ·rw[List.drop_drop]at q2;exact q2
    ·have e:(fun j=>(vs.drop a.width)[j]?)=fun j=>vs[a.width+j]?:=by funext j;rw[List.getElem?_drop]
     rw[e]at q3;exact q3
   ·cases h
  ·cases h
 |.sl s,[],d,cs',vs,h,hl=>by simp[encL]at h
 |.sl s,c::l,d,cs',vs,h,hl=>by
  obtain⟨v,vs',rfl,hv,hr⟩:=hl.tail
  cases c<;>simp only[encL]at h<;>first|(cases h;done)|skip
  case nsl=>
   simp only[sie,po]at h
   obtain⟨rfl,rfl⟩:=h
   exact⟨by simp[Sh.width],hr,[],v,rfl,rfl,.inl ⟨hv,rfl⟩⟩
  case dat s' xs tok=>
   split at h
   ·rename_i he
    obtain rfl:=shEq_eq he
    simp only[sie,po]at h
    obtain⟨rfl,rfl⟩:=h
    refine⟨by simp[Sh.width],hr,xs,v,rfl,rfl,?_⟩
    rcases hv with hv|⟨r,o,len,cap,e1,e2,e3,e4,-⟩
    ·exact .inl hv
    ·exact .inr ⟨r,o,len,cap,e1,e2,e3,e4⟩
   ·cases h
theorem nrm_rel:∀{s:Sh}{d:D}{g:Nat→Option Value},(∀(j:Nat) x,(cellsD arR s d)[j]? = some x→∃v,g j=some v∧CRel ρ x v)→SRel ρ.z s (nrmD s d) g:=by
 intro s
 induction s with
 |two a b iha ihb=>
  intro d g h
  have e:cellsD arR (.two a b) d=cellsD arR a d.fst! ++ cellsD arR b d.snd!:=rfl
  rw[e]at h
  refine⟨_,_,rfl,iha fun j x hx=>?_,ihb fun j x hx=>?_⟩
  ·exact h j x (by rw[List.getElem?_append_left (ges hx).1];exact hx)
  ·exact h (a.width+j) x (by rw[List.getElem?_append_right (by rw[cellsD_len];omega),cellsD_len,Nat.add_sub_cancel_left];exact hx)
 |arr k m=>
  intro d g h
  refine⟨_,rfl,by simp,fun j x hx=>?_⟩
  rw[List.getElem?_map,oms]at hx
  obtain⟨i,hi,rfl⟩:=hx
  have hj:j<m:=by
   have:=(ges hi).1
   simpa using this
  rw[List.getElem?_range hj]at hi
  simp only[sie]at hi
  subst hi
  obtain⟨v,h1,h2⟩:=h j (.int k (d.row!.getD j 0)) (by simp only[cellsD];rw[List.getElem?_map,List.getElem?_range hj];rfl)
  rw[h1];exact congrArg some h2
 |sl s ih=>
  intro d g h
  obtain⟨v,h1,h2⟩:=h 0 (.dat s d.sl! none) rfl
  refine⟨_,v,rfl,h1,?_⟩
  rcases h2 with h2|⟨r,o,len,cap,e1,e2,e3,e4,-⟩
  ·exact .inl h2
  ·exact .inr ⟨r,o,len,cap,e1,e2,e3,e4⟩
 |_=>
  intro d g h
  obtain⟨v,h1,h2⟩:=h 0 _ rfl
  exact⟨_,rfl,by rw[h1];exact congrArg some h2⟩
theorem encPt_rel {s:Sh}{ps l:List Pt}{d:D}{g:Nat→Option Value}(h:encPt arR s ps=some (d,l)) (hg:∀(j:Nat) x,(cellsP arR ps)[j]? = some x→∃v,g j=some v∧CRel ρ x v):
 SRel ρ.z s d g∧(cellsP arR ps).length=s.width+(cellsP arR l).length∧∀(j:Nat) x,(cellsP arR l)[j]? = some x→∃v,g (s.width+j)=some v∧CRel ρ x v:=by
 unfold encPt at h
 split at h
 ·rename_i s' d' l'
  split at h
  ·rename_i he
   obtain rfl:=shEq_eq he
   simp only[sie,po]at h
   obtain⟨rfl,rfl⟩:=h
   simp only[cellsP]at hg ⊢
   refine⟨nrm_rel fun j x hx=>hg j x (by rw[List.getElem?_append_left (ges hx).1];exact hx),by rw[List.length_append,cellsD_len],fun j x hx=>?_⟩
   exact hg _ x (by rw[List.getElem?_append_right (by rw[cellsD_len];omega),cellsD_len,Nat.add_sub_cancel_left];exact hx)
  ·cases h
 ·rename_i x l'
  split at h
  ·rename_i d' he
   simp only[sie,po]at h
   obtain⟨rfl,rfl⟩:=h
   obtain⟨v,h1,h2⟩:=hg 0 x rfl
   have hl:LL ρ [x] [v]:=⟨rfl,fun(j:Nat) y hy=>by
    cases j with
    |zero=>simp at hy;subst hy;exact⟨v,rfl,h2⟩
    |succ j=>simp at hy⟩
   obtain⟨p1,p2,p3⟩:=encL_rel he hl
   have hw:s.width=1:=by
    have:=p2.1
    simp at this p1
    omega
   refine⟨?_,by simp only[cellsP,List.length_cons,hw];omega,fun j y hy=>hg _ y (by rw[hw,Nat.add_comm];exact hy)⟩
   refine p3.mono (fun _ _ _ h=>h) fun j hj v' hv=>?_
   have hj:j=0:=by omega
   subst hj
   simp at hv
   subst hv;exact h1
  ·cases h
 ·cases h
theorem encP_rel:∀{s:Sh}{ps l:List Pt}{d:D}{g:Nat→Option Value},encP arR s ps=some (d,l)→(∀(j:Nat) x,(cellsP arR ps)[j]? = some x→∃v,g j=some v∧CRel ρ x v) →
 SRel ρ.z s d g∧(cellsP arR ps).length=s.width+(cellsP arR l).length∧∀(j:Nat) x,(cellsP arR l)[j]? = some x→∃v,g (s.width+j)=some v∧CRel ρ x v:=by
 intro s
 induction s with
 |two a b iha ihb=>
  intro ps l d g h hg
  simp only[encP]at h
  split at h
  ·rename_i r hr
   simp only[sie]at h
   subst h
   exact encPt_rel hr hg
  ·split at h
   ·rename_i x ps' h1
    split at h
    ·rename_i y ps'' h2
     simp only[sie,po]at h
     obtain⟨rfl,rfl⟩:=h
     obtain⟨p1,p2,p3⟩:=iha h1 hg
     obtain⟨q1,q2,q3⟩:=ihb h2 p3
     refine⟨⟨x,y,rfl,p1,q1⟩,by show _=a.width+b.width+_;omega,fun j x hx=>?_⟩
     show ∃v,g (a.width+b.width+j)=some v∧_
     rw[Nat.add_assoc]
     exact q3 j x hx
    ·cases h
   ·cases h
 |_=>intro ps l d g h hg;simp only[encP]at h;exact encPt_rel h hg
theorem encA_rel {s:Sh}{x:A}{d:D}{v:Value}(h:encA arR s x=some d) (hx:ARel ρ x v):SRel ρ.z s d (fun j=>v.cells[j]?)∧v.cells.size=s.width:=by
 unfold encA at h
 split at h
 ·rename_i c
  split at h
  ·rename_i d' he
   simp only[sie]at h
   subst h
   have hc:CRel ρ c v:=hx
   have hl:LL ρ [c] [v]:=⟨rfl,fun(j:Nat) y hy=>by
    cases j with
    |zero=>simp at hy;subst hy;exact⟨v,rfl,hc⟩
    |succ j=>simp at hy⟩
   obtain⟨p1,p2,p3⟩:=encL_rel he hl
   rw[hc.cells]
   have h1:=p2.1
   simp at h1
   refine⟨?_,by simp at p1 ⊢;omega⟩
   have e:(fun(j:Nat)=>(#[v]:Array Value)[j]?)=fun(j:Nat)=>([v]:List Value)[j]?:=by funext j;simp
   rw[e];exact p3
  ·cases h
 ·rename_i k m f
  split at h
  ·rename_i k' m'
   split at h
   ·rename_i hk
    simp only[bat]at hk
    have h1:=kindEq_eq hk.1
    have h2:=Nat.eq_of_beq_eq_true hk.2
    subst h1 h2
    simp only[sie]at h
    subst h
    obtain⟨arr,rfl,hg1,hg2⟩:=hx
    refine⟨⟨_,rfl,by simp[arR],fun j y hy=>?_⟩,hg1⟩
    simp only[arR,List.getElem?_map,oms]at hy
    obtain⟨i,hi,rfl⟩:=hy
    have hj:j<m:=by
     have:=(ges hi).1
     simpa using this
    rw[List.getElem?_range hj]at hi
    simp only[sie]at hi
    subst hi
    obtain⟨u,a,b⟩:=hg2 j (.int k (f j)) (by simp only[G.at];rw[if_pos (show j<(N.lit m).val from hj)])
    show arr[j]? = _
    rw[a];exact congrArg some b
   ·cases h
  ·cases h
 ·rename_i l
  split at h
  ·rename_i d' he
   simp only[sie]at h
   subst h
   obtain⟨arr,rfl,hg1,hg2⟩:=hx
   have hl:LL ρ l arr.toList:=⟨by show arr.toList.length=_;rw[Array.length_toList];exact hg1,fun j y hy=>by
    obtain⟨u,a,b⟩:=hg2 j y hy
    exact⟨u,by simpa using a,b⟩⟩
   obtain⟨p1,p2,p3⟩:=encL_rel he hl
   have h1:=p2.1
   simp at h1 p1
   refine⟨?_,by show arr.size=_;omega⟩
   have e:(fun(j:Nat)=>(Value.agg arr).cells[j]?)=fun(j:Nat)=>arr.toList[j]?:=by funext j;show arr[j]? = _;simp
   rw[e];exact p3
  ·cases h
 ·rename_i ps
  split at h
  ·rename_i d' he
   simp only[sie]at h
   subst h
   obtain⟨arr,rfl,hg1,hg2⟩:=hx
   obtain⟨p1,p2,-⟩:=encP_rel (g:=fun j=>arr[j]?) he (fun j x hx=>hg2 j x hx)
   refine⟨p1,?_⟩
   show arr.size=_
   rw[hg1]
   show(cellsP arR ps).length=_
   simpa [cellsP]using p2
  ·cases h
 ·cases h
def seqP:Nat→List (Nat×Value)→Prop
 |_,[]=>True
 |i,(j,_)::l=>j=i∧seqP (i+1) l
theorem fill_seq {w:Nat}:∀{l:List (Nat×Value)}{i:Nat}{c:Array Value},seqP i l→(∀p∈l,p.2.cells.size=w)→(i+l.length)*w≤c.size →
 ∃c',Instr.fill (fun i=>some (i*w,w)) c l=some c'∧c'.size=c.size∧(∀j,j<i*w→c'[j]? = c[j]?)∧∀(q:Nat) p k,l[q]? = some p→k<w→c'[(i+q)*w+k]? = p.2.cells[k]?
 | [],i,c,_,_,_=>⟨c,rfl,rfl,fun _ _=>rfl,fun q p k h=>by simp at h⟩
 |(j,v)::l,i,c,hs,hw,hfit=>by
  obtain⟨rfl,hs⟩:=hs
  have hv:=hw (j,v) (by simp)
  simp only at hv
  have hfit1:j*w+w≤c.size:=by
   have:(j+1)*w≤(j+((j,v)::l).length)*w:=Nat.mul_le_mul_right _ (by simp)
   rw[Nat.add_mul]at this
   omega
  obtain⟨f1,f2⟩:=fill_step c v.cells (j*w) (by rw[hv];exact hfit1)
  obtain⟨c',g1,g2,g3,g4⟩:=fill_seq (l:=l) (i:=j+1) (c:=v.cells.zipIdx.foldl (fun(cs:Array Value) (x:Value×Nat)=>cs.setIfInBounds (j*w+x.2) x.1) c) hs (fun p hp=>hw p (by simp[hp])) (by
   rw[f1]
   have:(j+1+l.length)=(j+((j,v)::l).length):=by simp;omega
   rw[this];exact hfit)
  refine⟨c',?_,by rw[g2,f1],fun k hk=>?_,fun q p k hq hk=>?_⟩
  ·simp only[Instr.fill]
   rw[if_neg (by simp[hv];omega)]
   exact g1
  ·rw[g3 k (by rw[Nat.add_mul];omega),f2 k,if_neg (by omega)]
  ·cases q with
   |zero=>
    simp at hq
    subst hq
    rw[Nat.add_zero,g3 _ (by rw[Nat.add_mul];omega),f2,if_pos (by rw[hv];omega)]
    simp
   |succ q=>
    have:=g4 q p k (by simpa using hq) hk
    rw[show j+(q+1)=j+1+q by omega]
    exact this
theorem partsD_rel {s:Sh}{ev:Operand→V}{eu:Operand→Value}(hev:∀x,VRel ρ (ev x) (eu x)):∀{l:List (Nat×Operand)}{i:Nat}{ds:List D},partsD arR s ev i l=some ds →
 ds.length=l.length∧seqP i (l.map fun p=>(p.1,eu p.2))∧(∀p∈l.map (fun p=>(p.1,eu p.2)),p.2.cells.size=s.width)∧∀(q:Nat) d p,ds[q]? = some d→(l.map fun p=>(p.1,eu p.2))[q]? = some p→SRel ρ.z s d (fun j=>p.2.cells[j]?)
 | [],i,ds,h=>by
   simp only[partsD,sie]at h
   subst h
   exact⟨rfl,trivial,fun p hp=>by simp at hp,fun q d p hq=>by simp at hq⟩
 |(j,x)::l,i,ds,h=>by
  simp only[partsD]at h
  split at h
  ·rename_i hij
   split at h
   ·rename_i a ds' ha hds
    split at h
    ·rename_i d hd
     simp only[sie]at h
     subst h hij
     obtain⟨p1,p2,p3,p4⟩:=partsD_rel hev hds
     obtain⟨q1,q2⟩:=encA_rel hd (Aof_rel (hev x) ha)
     refine⟨by simp[p1],⟨rfl,p2⟩,fun p hp=>?_,fun q d' p hq hp=>?_⟩
     ·rw[List.map_cons,List.mem_cons]at hp
      rcases hp with rfl|hp
      ·exact q2
      ·exact p3 p hp
     ·cases q with
      |zero=>simp at hq hp;subst hq hp;exact q1
      |succ q=>exact p4 q d' p (by simpa using hq) (by simpa using hp)
    ·cases h
   ·cases h
  ·cases h
theorem build_sound {h:Heap}{w:World}(hH:HRel W0 m0 ρ h w){s:Sh}{ds:List D}{ev:Operand→V}{eu:Operand→Value}(hev:∀x,VRel ρ (ev x) (eu x)){parts:Array (Nat×Operand)}{n:Nat}(hp:partsD arR s ev 0 parts.toList=some ds) (hn:parts.toList.length=n)
 {t e:TypeId}{i:TypeInfo}{z:Value}(ht:P.underlying t=some (.slice e)) (hi:P.info? e=some i) (hz:i.zero=some z) (hw:s.width=i.size) (h0:0<s.width) (hsmall:n*s.width≤16777216){nm:Nat}(hnm:h[nm]? = some none) (hm:m0≤nm):
 ∃u' w' ρ',(Instr.buildSlice t n (parts.map fun(i,x)=>(i,eu x))).run P w=.ok u' w'∧Ext ρ ρ'∧HRel W0 m0 ρ' (h.set nm (some ⟨false,.tail⟩)) w'∧CRel ρ' (.dat s ds (some nm)) u':=by
 obtain⟨p1,p2,p3,p4⟩:=partsD_rel hev hp
 have hlen:(parts.toList.map fun p=>(p.1,eu p.2)).length=n:=by simpa using hn
 have main:∀c':Array Value,c'.size=n*s.width→(∀(q:Nat) p k,(parts.toList.map fun p=>(p.1,eu p.2))[q]? = some p→k<s.width→c'[(0+q)*s.width+k]? = p.2.cells[k]?) →
  (Instr.buildSlice t n (parts.map fun(i,x)=>(i,eu x))).run P w=.ok (.slice (some ⟨w.heap.size,0,none⟩) n n) (w.alloc (.cells c' e)) →
  ∃u' w' ρ',(Instr.buildSlice t n (parts.map fun(i,x)=>(i,eu x))).run P w=.ok u' w'∧Ext ρ ρ'∧HRel W0 m0 ρ' (h.set nm (some ⟨false,.tail⟩)) w'∧CRel ρ' (.dat s ds (some nm)) u':=by
  intro c' hs hc hrun
  obtain⟨ρ',x1,x2,x3,x4,x5⟩:=realloc_rel hH hnm hm c'.toList #[] e w.drawn
  have earr:c'.toList.toArray++(#[]:Array Value)=c':=by simp
  rw[earr]at x2
  refine⟨_,_,ρ',hrun,x1,x2,.inr ⟨w.heap.size,0,n,n,rfl,by rw[p1,←hn],Nat.le_refl _,fun q d hd=>?_,fun t' ht'=>.inl rfl⟩⟩
  have hq:q<(parts.toList.map fun p=>(p.1,eu p.2)).length:=by
   have:=(ges hd).1
   rw[hlen,←hn,←p1];exact this
  refine(p4 q d _ hd (geg hq)).mono x1.z fun k hk v hv=>?_
  have:=hc q _ k (geg hq) hk
  rw[Nat.zero_add]at this
  rw[Nat.zero_add]
  refine x5 _ v ?_
  rw[Array.getElem?_toList,this]
  exact hv
 by_cases hn0:n=0
 ·subst hn0
  have hnil:parts.toList.map (fun p=>(p.1,eu p.2))=[]:=List.length_eq_zero_iff.1 hlen
  refine main #[] (by simp) (fun q p k hq=>by rw[hnil]at hq;simp at hq) ?_
  have hpe:(parts.map fun(i,x)=>(i,eu x)) = #[]:=by
   have:parts = #[]:=by
    apply Array.toList_inj.1
    rw[List.length_eq_zero_iff.1 hn]
   rw[this];simp
  rw[hpe]
  simp[Instr.buildSlice,run_underlying ht,sizeOf,typeInfo,hi,Instr.fill,newRow]
  have hr:Array.range 0 = #[]:=by apply Array.ext';simp
  rw[hr];simp
 ·obtain⟨c',f1,f2,-,f4⟩:=fill_seq (w:=s.width) (i:=0) (c:=(Array.range (n*i.size)).map (z.cells[· % z.cells.size]!)) p2 p3 (by rw[Nat.zero_add,hlen];simp[hw])
  refine main c' (by rw[f2];simp[hw]) f4 ?_
  refine run_buildSlice w t e n _ c' i z ht hi hz (by rw[←hw];omega) (fun hz0=>?_) ?_
  ·rw[←hw]at hz0
   rcases Nat.mul_eq_zero.1 hz0 with h1|h1<;>omega
  ·rw[Array.toList_map,←hw]
   rw[←hw]at f1
   exact f1
end
end Go.Eng
