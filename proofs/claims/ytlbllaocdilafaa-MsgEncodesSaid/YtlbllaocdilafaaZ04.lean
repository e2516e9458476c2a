import Derived.Test.YtlbllaocdilafaaZ03
set_option linter.unusedSimpArgs false
set_option linter.unusedVariables false
namespace Go.Eng
open Go Go.RowKit
def AsRel (ρ:Ren) (args:List A) (args':Array Value):Prop:=
 args'.size=args.length∧∀(j:Nat) (x:A),args[j]? = some x→∃u:Value,args'[j]? = some u∧ARel ρ x u
section
variable {P:Program}{W0:World}{m0:Nat}{ρ:Ren}
theorem idxF_spec {b:Nat}:∀{ns:List Nat}{i0 i:Nat},idxF ns b i0=some i→i0≤i∧ns[i-i0]? = some b
 | [],i0,i,h=>by cases h
 |x::ns,i0,i,h=>by
  simp only[idxF]at h
  split at h
  ·rename_i e
   simp only[sie]at h
   subst h e
   exact⟨Nat.le_refl _,by simp⟩
  ·obtain⟨h1,h2⟩:=idxF_spec h
   refine⟨by omega,?_⟩
   rw[show i-i0=(i-(i0+1))+1 by omega]
   simpa using h2
theorem idxF_zero {n:Nat}{ns:List Nat}{i:Nat}(h:idxF ns n 0=some i):ns[i]? = some n:=by
 have:=(idxF_spec h).2
 rwa [Nat.sub_zero]at this
def small (ρ:Ren) (ns:List Nat):Ren:=⟨fun i=>ns[i]?.bind ρ.f,ρ.z,ρ.z,fun i=>match ns[i]? with
 |some n=>ρ.room n
 |none=>0,fun i=>match ns[i]? with
 |some n=>ρ.vd n
 |none=>false,ρ.y⟩
def big (ρ ρ':Ren) (ns:List Nat):Ren:=⟨fun n=>match idxF ns n 0 with
 |some i=>ρ' i
 |none=>ρ n,ρ'.z,ρ.z0,fun n=>match idxF ns n 0 with
 |some i=>ρ'.room i
 |none=>ρ.room n,fun n=>match idxF ns n 0 with
 |some i=>ρ'.vd i
 |none=>ρ.vd n,ρ'.y⟩
theorem nodup_idx {n:Nat}:∀{ns:List Nat}{i j:Nat},ns.Nodup→ns[i]? = some n→ns[j]? = some n→i=j
 | [],i,j,_,h,_=>by simp at h
 |x::ns,0,0,_,_,_=>rfl
 |x::ns,0,j+1,hn,h1,h2=>by
  simp at h1 h2
  subst h1
  exact absurd (List.mem_of_getElem? h2) (List.nodup_cons.1 hn).1
 |x::ns,i+1,0,hn,h1,h2=>by
  simp at h1 h2
  subst h2
  exact absurd (List.mem_of_getElem? h1) (List.nodup_cons.1 hn).1
 |x::ns,i+1,j+1,hn,h1,h2=>by
  have:=nodup_idx (List.nodup_cons.1 hn).2 (by simpa using h1) (by simpa using h2)
  omega
theorem idxF_some {n:Nat}:∀{ns:List Nat}{i i0:Nat},ns[i]? = some n→∃k,idxF ns n i0=some k
 | [],i,i0,h=>by simp at h
 |x::ns,i,i0,h=>by
  simp only[idxF]
  split
  ·exact⟨_,rfl⟩
  ·rename_i hne
   cases i with
   |zero=>simp at h;exact absurd h hne
   |succ i=>exact idxF_some (i:=i) (by simpa using h)
theorem idxF_at {n:Nat}{ns:List Nat}{i:Nat}(hn:ns.Nodup) (h:ns[i]? = some n):idxF ns n 0=some i:=by
 obtain⟨k,hk⟩:=idxF_some (i0:=0) h
 have:=(idxF_spec hk).2
 rw[Nat.sub_zero]at this
 rw[hk,nodup_idx hn this h]
theorem idxF_none {n:Nat}{ns:List Nat}(h:n∉ns):idxF ns n 0=none:=by
 cases e:idxF ns n 0 with
 |none=>rfl
 |some k=>exact absurd (List.mem_of_getElem? (idxF_spec e).2) h
theorem big_at {ρ ρ':Ren}{ns:List Nat}{n i:Nat}(hn:ns.Nodup) (h:ns[i]? = some n):big ρ ρ' ns n=ρ' i∧(big ρ ρ' ns).room n=ρ'.room i∧(big ρ ρ' ns).vd n=ρ'.vd i:=by
 have e:=idxF_at hn h
 refine⟨?_,?_,?_⟩
 ·show(match idxF ns n 0 with
   |some i=>ρ' i
   |none=>ρ n)=_
  rw[e]
 ·show(match idxF ns n 0 with
   |some i=>ρ'.room i
   |none=>ρ.room n)=_
  rw[e]
 ·show(match idxF ns n 0 with
   |some i=>ρ'.vd i
   |none=>ρ.vd n)=_
  rw[e]
theorem big_out {ρ ρ':Ren}{ns:List Nat}{n:Nat}(h:n∉ns):big ρ ρ' ns n=ρ n∧(big ρ ρ' ns).room n=ρ.room n∧(big ρ ρ' ns).vd n=ρ.vd n:=by
 have e:=idxF_none h
 refine⟨?_,?_,?_⟩
 ·show(match idxF ns n 0 with
   |some i=>ρ' i
   |none=>ρ n)=_
  rw[e]
 ·show(match idxF ns n 0 with
   |some i=>ρ'.room i
   |none=>ρ.room n)=_
  rw[e]
 ·show(match idxF ns n 0 with
   |some i=>ρ'.vd i
   |none=>ρ.vd n)=_
  rw[e]
theorem small_at {ρ:Ren}{ns:List Nat}{n i:Nat}(h:ns[i]? = some n):small ρ ns i=ρ n∧(small ρ ns).room i=ρ.room n∧(small ρ ns).vd i=ρ.vd n:=by
 refine⟨?_,?_,?_⟩
 ·show ns[i]?.bind ρ.f=_
  rw[h];rfl
 ·show(match ns[i]? with
   |some n=>ρ.room n
   |none=>0)=_
  rw[h]
 ·show(match ns[i]? with
   |some n=>ρ.vd n
   |none=>false)=_
  rw[h]
theorem small_some {ρ:Ren}{ns:List Nat}{i:Nat}{p:Nat×Nat}(h:small ρ ns i=some p):∃n,ns[i]? = some n∧ρ n=some p:=by
 replace h:ns[i]?.bind ρ.f=some p:=h
 cases hx:ns[i]? with
 |none=>rw[hx]at h;cases h
 |some n=>rw[hx]at h;exact⟨n,rfl,h⟩
theorem renC_rel {ns:List Nat} {c c':C}{v:Value}(h:renC ns c=some c') (hc:CRel ρ c v):CRel (small ρ ns) c' v:=by
 cases c<;>simp only[renC]at h
 case ptr b off=>
  simp only[oms]at h
  obtain⟨i,hi,rfl⟩:=h
  obtain⟨r,o,h1,h2⟩:=hc
  exact⟨r,o,by rw[(small_at (idxF_zero hi)).1];exact h1,h2⟩
 case sl b off len cap=>
  simp only[oms]at h
  obtain⟨i,hi,rfl⟩:=h
  obtain⟨r,o,h1,h2⟩:=hc
  exact⟨r,o,by rw[(small_at (idxF_zero hi)).1];exact h1,h2⟩
 case dat s xs tok=>
  simp only[sie]at h
  subst h
  rcases hc with hc|⟨r,o,len,cap,e1,e2,e3,e4,e5⟩
  ·exact .inl hc
  ·refine .inr ⟨r,o,len,cap,e1,e2,e3,e4,fun t ht=>?_⟩
   rw[Option.bind_eq_some_iff]at ht
   obtain⟨n,rfl,hi⟩:=ht
   obtain⟨a1,a2,-⟩:=small_at (ρ:=ρ) (idxF_zero hi)
   rcases e5 n rfl with e5|⟨e5,e6⟩
   ·exact .inl e5
   ·exact .inr ⟨by rw[a1];exact e5,by rw[a2];exact e6⟩
 case adr b T=>
  simp only[oms]at h
  obtain⟨i,hi,rfl⟩:=h
  obtain⟨r,h1,h2⟩:=hc
  exact⟨r,by rw[(small_at (ρ:=ρ) (idxF_zero hi)).1];exact h1,h2⟩
 case bf s t e=>
  simp only[oms]at h
  obtain⟨i,hi,rfl⟩:=h
  obtain⟨a1,a2,-⟩:=small_at (ρ:=ρ) (idxF_zero hi)
  rcases hc with hc|⟨r,len,cap,n,e1,e2,e3,e4,e5,e6,e7⟩
  ·exact .inl hc
  ·refine .inr ⟨r,len,cap,n,e1,e2,e3,e4,e5,e6,⟨by rw[a1];exact e7.1,by rw[a2];exact e7.2⟩⟩
 all_goals(simp only[sie]at h;subst h;exact hc)
theorem bakC_rel {ρ':Ren}{ns:List Nat}(hn:ns.Nodup) {c c':C}{v:Value}(h:bakC ns c=some c') (hc:CRel ρ' c v):CRel (big ρ ρ' ns) c' v:=by
 cases c<;>simp only[bakC]at h
 case ptr i off=>
  simp only[oms]at h
  obtain⟨b,hb,rfl⟩:=h
  obtain⟨r,o,h1,h2⟩:=hc
  exact⟨r,o,by rw[(big_at hn hb).1];exact h1,h2⟩
 case sl i off len cap=>
  simp only[oms]at h
  obtain⟨b,hb,rfl⟩:=h
  obtain⟨r,o,h1,h2⟩:=hc
  exact⟨r,o,by rw[(big_at hn hb).1];exact h1,h2⟩
 case dat s xs tok=>
  simp only[sie]at h
  subst h
  rcases hc with hc|⟨r,o,len,cap,e1,e2,e3,e4,e5⟩
  ·exact .inl hc
  ·refine .inr ⟨r,o,len,cap,e1,e2,e3,e4,fun t ht=>?_⟩
   rw[Option.bind_eq_some_iff]at ht
   obtain⟨n,rfl,hi⟩:=ht
   obtain⟨a1,a2,-⟩:=big_at (ρ:=ρ) (ρ':=ρ') hn hi
   rcases e5 n rfl with e5|⟨e5,e6⟩
   ·exact .inl e5
   ·exact .inr ⟨by rw[a1];exact e5,by rw[a2];exact e6⟩
 case adr b T=>
  simp only[oms]at h
  obtain⟨i,hi,rfl⟩:=h
  obtain⟨r,h1,h2⟩:=hc
  exact⟨r,by rw[(big_at (ρ:=ρ) (ρ':=ρ') hn hi).1];exact h1,h2⟩
 case bf s t e=>
  simp only[oms]at h
  obtain⟨i,hi,rfl⟩:=h
  obtain⟨a1,a2,-⟩:=big_at (ρ:=ρ) (ρ':=ρ') hn hi
  rcases hc with hc|⟨r,len,cap,n,e1,e2,e3,e4,e5,e6,e7⟩
  ·exact .inl hc
  ·refine .inr ⟨r,len,cap,n,e1,e2,e3,e4,e5,e6,⟨by rw[a1];exact e7.1,by rw[a2];exact e7.2⟩⟩
 all_goals(simp only[sie]at h;subst h;exact hc)
theorem mapM_back {α β:Type}{f:α→Option β}:∀{l:List α}{r:List β},l.mapM f=some r→∀(j:Nat) y,r[j]? = some y→∃x,l[j]? = some x∧f x=some y
 | [],r,h,j,y,hj=>by simp at h;subst h;simp at hj
 |a::l,r,h,j,y,hj=>by
  simp only[List.mapM_cons,Option.bind_eq_bind,Option.pure_def]at h
  cases hx:f a with
  |none=>simp[hx]at h
  |some b=>
   cases hl:l.mapM f with
   |none=>simp[hx,hl]at h
   |some bs=>
    simp[hx,hl]at h
    subst h
    cases j with
    |zero=>simp at hj;subst hj;exact⟨a,by simp,hx⟩
    |succ j=>simpa using mapM_back hl j y (by simpa using hj)
theorem fixD:∀{s:Sh}{d:D}{j:Nat}{x:C},(cellsD arR s d)[j]? = some x→∀(ρ ρ':Ren) v,ρ.z=ρ'.z→CRel ρ x v→CRel ρ' x v:=by
 intro s
 induction s with
 |two a b iha ihb=>
  intro d j x hx
  have hx:(cellsD arR a (arR.dFst d)++cellsD arR b (arR.dSnd d))[j]? = some x:=hx
  rw[List.getElem?_append]at hx
  split at hx
  ·exact iha hx
  ·exact ihb hx
 |arr k m=>
  intro d j x hx
  simp only[cellsD,List.getElem?_map,oms]at hx
  obtain⟨_,-,rfl⟩:=hx
  exact fun _ _ _ _ h=>h
 |sl s ih=>
  intro d j x hx ρ ρ' v hz h
  have h1:=List.mem_of_getElem? hx
  simp only[cellsD,List.mem_singleton]at h1
  subst h1
  rcases h with h|⟨r,o,len,cap,e1,e2,e3,e4,-⟩
  ·exact .inl h
  ·exact .inr ⟨r,o,len,cap,e1,e2,e3,hz▸e4,fun t ht=>by cases ht⟩
 |_=>
  intro d j x hx
  have h1:=List.mem_of_getElem? hx
  simp only[cellsD,List.mem_singleton]at h1
  subst h1
  exact fun _ _ _ _ h=>h
theorem mapP_at {f:C→Option C}:∀{ps qs:List Pt},ps.mapM (mapPt f)=some qs→(cellsP arR qs).length=(cellsP arR ps).length∧∀(j:Nat) x',(cellsP arR qs)[j]? = some x'→(∃x,(cellsP arR ps)[j]? = some x∧(f x=some x'∨(x'=x∧∀(ρ ρ':Ren) v,ρ.z=ρ'.z→CRel ρ x v→CRel ρ' x v))):=by
 intro ps
 induction ps with
 |nil=>intro qs h;simp at h;subst h;exact⟨rfl,fun j x' hx=>by simp[cellsP]at hx⟩
 |cons p l ih=>
  intro qs h
  simp only[List.mapM_cons,Option.bind_eq_bind,Option.pure_def]at h
  rw[Option.bind_eq_some_iff]at h
  obtain⟨q,hq,h⟩:=h
  rw[Option.bind_eq_some_iff]at h
  obtain⟨rs,hr,h⟩:=h
  simp only[sie]at h
  subst h
  obtain⟨h1,h2⟩:=ih hr
  cases p with
  |c x=>
   simp only[mapPt,oms]at hq
   obtain⟨y,hy,rfl⟩:=hq
   refine⟨by simp[cellsP,h1],fun j x' hx=>?_⟩
   cases j with
   |zero=>
    have hx:some y=some x':=hx
    simp only[sie]at hx
    subst hx
    exact⟨x,rfl,.inl hy⟩
   |succ j=>exact h2 j x' hx
  |v s d=>
   simp only[mapPt,sie]at hq
   subst hq
   refine⟨by simp[cellsP,h1],fun j x' hx=>?_⟩
   simp only[cellsP]at hx ⊢
   rw[List.getElem?_append]at hx ⊢
   split
   ·rename_i hj
    rw[if_pos hj]at hx
    exact⟨x',hx,.inr ⟨rfl,fixD hx⟩⟩
   ·rename_i hj
    rw[if_neg hj]at hx
    exact h2 _ x' hx
theorem mapG_at {f:C→Option C} {g g':G}(h:mapG f g=some g'):g'.len=g.len∧∀(j:Nat) x',g'.at j=some x'→(∃x,g.at j=some x∧(f x=some x'∨(x'=x∧∀(ρ ρ':Ren) v,ρ.z=ρ'.z→CRel ρ x v→CRel ρ' x v))):=by
 cases g with
 |lst cs=>
  simp only[mapG,oms]at h
  obtain⟨l,hl,rfl⟩:=h
  refine⟨by simp[G.len,mapM_some_length hl],fun j x' hx=>?_⟩
  obtain⟨x,h1,h2⟩:=mapM_back hl j x' hx
  exact⟨x,h1,.inl h2⟩
 |prt ps=>
  simp only[mapG,oms]at h
  obtain⟨l,hl,rfl⟩:=h
  exact mapP_at hl
 |ints k n g=>
  simp only[mapG,sie]at h
  subst h
  refine⟨rfl,fun j x' hx=>⟨x',hx,.inr ⟨rfl,?_⟩⟩⟩
  simp only[G.at]at hx
  split at hx
  ·simp only[sie]at hx;subst hx;exact fun _ _ _ _ h=>h
  ·cases hx
 |col s n g=>
  have hd:g'=.col s n g∧∀d (ρ ρ':Ren) v,ρ.z=ρ'.z→CRel ρ (colC arR s d) v→CRel ρ' (colC arR s d) v:=by
   cases s<;>simp only[mapG,sie]at h<;>first|(cases h;done)|(subst h;exact⟨rfl,fun d _ _ _ _ h=>h⟩)
  obtain⟨rfl,hd⟩:=hd
  refine⟨rfl,fun j x' hx=>⟨x',hx,.inr ⟨rfl,?_⟩⟩⟩
  simp only[G.at]at hx
  split at hx
  ·simp only[sie]at hx;subst hx;exact hd _
  ·cases hx
 |tail=>simp only[mapG,sie]at h;subst h;exact⟨rfl,fun j x' hx=>by cases hx⟩
 |dead=>simp only[mapG,sie]at h;subst h;exact⟨rfl,fun j x' hx=>by cases hx⟩
theorem mapG_kind {f:C→Option C} {g g':G}(h:mapG f g=some g'):g'.cells=g.cells∧(g'=.tail↔g=.tail)∧(g'=.dead↔g=.dead):=by
 cases g with
 |lst cs=>
  simp only[mapG,oms]at h
  obtain⟨l,hl,rfl⟩:=h
  simp[G.cells]
 |prt ps=>
  simp only[mapG,oms]at h
  obtain⟨l,hl,rfl⟩:=h
  simp[G.cells]
 |ints k n g=>simp only[mapG,sie]at h;subst h;simp[G.cells]
 |col s n g=>cases s<;>simp only[mapG,sie]at h<;>first|(cases h;done)|(subst h;simp[G.cells])
 |tail=>simp only[mapG,sie]at h;subst h;simp[G.cells]
 |dead=>simp only[mapG,sie]at h;subst h;simp[G.cells]
theorem mapB_kind {f:C→Option C} {b b':Blk}(h:mapB f b=some b'):b'.ro=b.ro∧b'.g.cells=b.g.cells∧(b'.g=.tail↔b.g=.tail)∧(b'.g=.dead↔b.g=.dead):=by
 simp only[mapB,oms]at h
 obtain⟨g,hg,rfl⟩:=h
 exact⟨rfl,mapG_kind hg⟩
theorem mapG_cell {ρ':Ren}(hz:ρ.z=ρ'.z){f:C→Option C}(hf:∀c c' v,f c=some c'→CRel ρ c v→CRel ρ' c' v) {x x':C}{v:Value}(h:f x=some x'∨(x'=x∧∀(ρ ρ':Ren) v,ρ.z=ρ'.z→CRel ρ x v→CRel ρ' x v)) (hv:CRel ρ x v):CRel ρ' x' v:=by
 rcases h with h|⟨rfl,h⟩
 ·exact hf _ _ _ h hv
 ·exact h _ _ _ hz hv
theorem mapA_rel {ρ':Ren}(hz:ρ.z=ρ'.z){f:C→Option C}(hf:∀c c' v,f c=some c'→CRel ρ c v→CRel ρ' c' v) {x x':A}{v:Value}(h:mapA f x=some x') (hv:ARel ρ x v):ARel ρ' x' v:=by
 cases x with
 |one c=>
  simp only[mapA,oms]at h
  obtain⟨c',hc,rfl⟩:=h
  exact hf _ _ _ hc hv
 |agg g=>
  simp only[mapA,oms]at h
  obtain⟨g',hg,rfl⟩:=h
  obtain⟨arr,e,h1,h2⟩:=hv
  obtain⟨a1,a2⟩:=mapG_at hg
  refine⟨arr,e,by rw[h1,a1],fun j x' hx=>?_⟩
  obtain⟨x,b1,b2⟩:=a2 j x' hx
  obtain⟨u,c1,c2⟩:=h2 j x b1
  exact⟨u,c1,mapG_cell hz hf b2 c2⟩
theorem mapV_rel {ρ':Ren}(hz:ρ.z=ρ'.z){f:C→Option C}(hf:∀c c' v,f c=some c'→CRel ρ c v→CRel ρ' c' v) {x x':V}{v:Value}(h:mapV f x=some x') (hv:VRel ρ x v):VRel ρ' x' v:=by
 cases x with
 |a x=>
  simp only[mapV,oms]at h
  obtain⟨y,hy,rfl⟩:=h
  exact mapA_rel hz hf hy hv
 |tup xs=>
  simp only[mapV,oms]at h
  obtain⟨l,hl,rfl⟩:=h
  obtain⟨arr,e,h1,h2⟩:=hv
  refine⟨arr,e,by rw[h1,mapM_some_length hl],fun j x' hx=>?_⟩
  obtain⟨x,b1,b2⟩:=mapM_back hl j x' hx
  obtain⟨u,c1,c2⟩:=h2 j x b1
  exact⟨u,c1,mapA_rel hz hf b2 c2⟩
 |z=>
  simp only[mapV,sie]at h
  subst h
  exact True.intro
theorem mapB_rel {ρ':Ren}(hz:ρ.z=ρ'.z){f:C→Option C}(hf:∀c c' v,f c=some c'→CRel ρ c v→CRel ρ' c' v) {b b':Blk}{r o:Nat}{w:World}(h:mapB f b=some b') (hb:BRel ρ b r o w):b'.ro=b.ro∧BRel ρ' b' r o w:=by
 simp only[mapB,oms]at h
 obtain⟨g,hg,rfl⟩:=h
 obtain⟨c,ty,fz,h1,h2,h3⟩:=hb
 refine⟨rfl,c,ty,fz,h1,h2,fun j x' hx=>?_⟩
 obtain⟨x,b1,b2⟩:=(mapG_at hg).2 j x' hx
 obtain⟨u,c1,c2⟩:=h3 j x b1
 exact⟨u,c1,mapG_cell hz hf b2 c2⟩
theorem setMany_len:∀{ns:List Nat}{bs:List Blk}{h:Heap},(setMany h ns bs).length=h.length
 | [],bs,h=>by cases bs<;>rfl
 |n::ns,[],h=>rfl
 |n::ns,b::bs,h=>by simp only[setMany];rw[setMany_len];simp
theorem setMany_out {k:Nat}:∀{ns:List Nat}{bs:List Blk}{h:Heap},k∉ns→(setMany h ns bs)[k]? = h[k]?
 | [],bs,h,_=>by cases bs<;>rfl
 |n::ns,[],h,_=>rfl
 |n::ns,b::bs,h,hk=>by
  simp only[setMany]
  rw[setMany_out (fun e=>hk (by simp[e])),List.getElem?_set_ne (fun e=>hk (by simp[e]))]
theorem setMany_at {k:Nat}{b:Blk}:∀{ns:List Nat}{bs:List Blk}{h:Heap}{i:Nat},ns.Nodup→ns[i]? = some k→bs[i]? = some b→k<h.length→(setMany h ns bs)[k]? = some (some b)
 | [],bs,h,i,_,hi,_,_=>by simp at hi
 |n::ns,[],h,i,_,_,hb,_=>by simp at hb
 |n::ns,b'::bs,h,0,hn,hi,hb,hk=>by
  simp at hi hb
  subst hi hb
  simp only[setMany]
  rw[setMany_out (List.nodup_cons.1 hn).1]
  simp[hk]
 |n::ns,b'::bs,h,i+1,hn,hi,hb,hk=>by
  simp only[setMany]
  exact setMany_at (List.nodup_cons.1 hn).2 (by simpa using hi) (by simpa using hb) (by simpa using hk)
theorem isTail_eq {g:G}(h:g.isTail=true):g=.tail:=by cases g<;>first|rfl|cases h
theorem isDead_eq {g:G}(h:g.isDead=true):g=.dead:=by cases g<;>first|rfl|cases h
theorem isDead_ne {g:G}(h:g.isDead=false):g≠.dead:=fun e=>by rw[e]at h;cases h
theorem roOk_spec {a b:Blk}(h:roOk a b=true):(a.ro=b.ro∧b.g≠.dead)∨(a.ro=false∧a.g=.tail∧b.ro=true∧b.g=.dead):=by
 unfold roOk at h
 simp only[Bool.or_eq_true,bat,beq_iff_eq,Bool.not_eq_true']at h
 rcases h with ⟨h1,h2⟩|⟨⟨⟨h1,h2⟩,h3⟩,h4⟩
 ·exact .inl ⟨h1,isDead_ne h2⟩
 ·exact .inr ⟨h1,isTail_eq h2,h3,isDead_eq h4⟩
theorem sameRo_spec:∀{l m:List Blk},sameRo l m=true→∀(i:Nat) a b,l[i]? = some a→m[i]? = some b→roOk a b=true
 | [],_,_,i,a,b,h,_=>by simp at h
 |_::_,[],h,_,_,_,_,_=>by simp[sameRo]at h
 |x::l,y::m,h,i,a,b,ha,hb=>by
  simp only[sameRo,bat]at h
  cases i with
  |zero=>
   simp at ha hb
   subst ha hb
   exact h.1
  |succ i=>exact sameRo_spec h.2 i a b (by simpa using ha) (by simpa using hb)
theorem blkAt_eq {h:Heap}{n:Nat}{b:Blk}(e:blkAt h n=some b):h[n]? = some (some b):=by
 unfold blkAt at e
 split at e
 ·rename_i x hx;simp only[sie]at e;rw[hx,e]
 ·cases e
theorem addAll_nodup:∀{xs ns:List Nat},ns.Nodup→(addAll ns xs).Nodup
 | [],ns,h=>h
 |x::xs,ns,h=>by
  simp only[addAll]
  split
  ·exact addAll_nodup h
  ·rename_i hx
   refine addAll_nodup ?_
   rw[List.nodup_append]
   refine⟨h,by simp,fun a ha b hb=>?_⟩
   simp at hb
   subst hb
   intro e
   subst e
   simp at hx
   exact hx ha
theorem clo_nodup {h:Heap}:∀{k:Nat}{ns:List Nat},ns.Nodup→(clo h k ns).Nodup
 |0,ns,hn=>hn
 |k+1,ns,hn=>by
  simp only[clo]
  exact clo_nodup (addAll_nodup hn)
theorem reach_nodup (h:Heap) (args:List A):(reach h args).Nodup:=List.Pairwise.filter _ (clo_nodup (addAll_nodup List.nodup_nil))
theorem reach_live {h:Heap}{args:List A}:∀n∈reach h args,∀b,h[n]? = some (some b)→b.g≠.dead:=by
 intro n hn b hb hd
 have h1:=(List.mem_filter.1 hn).2
 unfold isLive at h1
 rw[hb]at h1
 simp only[hd]at h1
 cases h1
theorem freeN_spec {al:Nat→Bool}{h:Heap}{nm e:Nat}(hf:freeN al h nm e=true):∀k,k<e→h[nm+k]? = some none∧(k=0∨al (nm+k)=true):=by
 intro k hk
 unfold freeN at hf
 rw[List.all_eq_true]at hf
 have:=hf k (List.mem_range.2 hk)
 simp only[bat,Bool.or_eq_true]at this
 refine⟨?_,this.2.imp Nat.eq_of_beq_eq_true id⟩
 have h1:=this.1
 unfold isFree at h1
 split at h1
 ·assumption
 ·cases h1
theorem performH_sound {al:Nat→Bool}{nm:Nat}{h:Heap} {ns ns':List Nat}{s:HSpec}{args:List A}{v:V} {bs':List Blk}{ps:List Prop}{w:World} {args':Array Value}(hn:ns.Nodup) (hH:HRel W0 m0 ρ h w) (hA:AsRel ρ args args') (hm:m0≤nm) (hlive:∀n∈ns,∀b,h[n]? = some (some b)→b.g≠.dead)
 (hp:performH al nm h ns s args=some (v,ns',bs',ps)):
 ∃las lbs v0 lbs',s las lbs=some (v0,lbs',ps)∧AsRel (small ρ ns) las args'∧HRel w lbs.length (small ρ ns) (lbs.map some) w ∧
  ∀ρ' v' w',Ext (small ρ ns) ρ'→VRel ρ' v0 v'→HRel w lbs.length ρ' (lbs'.map some) w'→∃ρ1,Ext ρ ρ1∧VRel ρ1 v v'∧HRel W0 m0 ρ1 (setMany h ns' bs') w':=by
 obtain⟨e,hI,hfree⟩:∃e,performI nm h ns s args=some (e,v,ns',bs',ps)∧freeN al h nm e=true:=by
  unfold performH at hp
  split at hp
  ·split at hp
   ·rename_i e r hI
    split at hp
    ·rename_i hf
     simp only[sie]at hp
     subst hp
     exact⟨e,hI,hf⟩
    ·cases hp
   ·cases hp
  ·cases hp
 clear hp
 have hp:=hI
 clear hI
 unfold performI at hp
 ·split at hp
  ·rename_i bs hbs
   split at hp
   ·rename_i las lbs hlas hlbs
    split at hp
    ·rename_i v0 lbs' ps' hs
     split at hp
     ·rename_i hle
      have hle:=Nat.le_of_ble_eq_true hle
      have hfree:=freeN_spec hfree
      split at hp
      ·rename_i v1 bs1 hv1 hbs1
       split at hp
       ·rename_i hro
        simp only[sie,po]at hp
        obtain⟨rfl,rfl,rfl,rfl,rfl⟩:=hp
        generalize he:lbs'.length-ns.length=e at *
        have hl1:=mapM_some_length hbs
        have hl2:=mapM_some_length hlbs
        have hl3:=mapM_some_length hbs1
        have hro:=sameRo_spec hro
        have hpres:∀n,n∈ns→∃b,h[n]? = some (some b):=by
         intro n hmem
         obtain⟨i,hi,e1⟩:=List.getElem_of_mem hmem
         obtain⟨b,hb,-⟩:=mapM_some_get hbs i n (by rw[←e1];exact geg hi)
         exact⟨b,blkAt_eq hb⟩
        have hnew:∀k,k<e→nm+k∉ns:=by
         intro k hk hmem
         obtain⟨b,hb⟩:=hpres _ hmem
         rw[(hfree k hk).1]at hb;cases hb
        have hN:(ns++List.range' nm e).Nodup:=by
         rw[List.nodup_append]
         refine⟨hn,List.nodup_range',fun a ha b hb=>?_⟩
         rw[List.mem_range']at hb
         obtain⟨k,hk,rfl⟩:=hb
         intro e1
         subst e1
         rw[Nat.one_mul]at ha
         exact hnew k hk ha
        have hNl:(ns++List.range' nm e).length=lbs'.length:=by simp;omega
        have at_old:∀{i:Nat},i<ns.length→(ns++List.range' nm e)[i]? = ns[i]?:=fun hi=>List.getElem?_append_left hi
        have at_new:∀{k:Nat},k<e→(ns++List.range' nm e)[ns.length+k]? = some (nm+k):=fun {k} hk=>by
         rw[List.getElem?_append_right (by omega),show ns.length+k-ns.length=k by omega,List.getElem?_range' hk,Nat.one_mul]
        have mem_cases:∀{n:Nat},n∈ns++List.range' nm e→n∈ns∨∃k,k<e∧n=nm+k:=fun {n} hmem=>by
         rcases List.mem_append.1 hmem with h1|h1
         ·exact .inl h1
         ·rw[List.mem_range']at h1
          obtain⟨k,hk,rfl⟩:=h1
          exact .inr ⟨k,hk,by rw[Nat.one_mul]⟩
        have at_ns:∀(i:Nat) lb,lbs[i]? = some lb→∃n b,ns[i]? = some n∧h[n]? = some (some b)∧mapB (renC ns) b=some lb∧bs[i]? = some b:=by
         intro i lb hi
         obtain⟨b,hb,hmm⟩:=mapM_back hlbs i lb hi
         obtain⟨n,hn',hbn⟩:=mapM_back hbs i b hb
         exact⟨n,b,hn',blkAt_eq hbn,hmm,hb⟩
        have lbs_at:∀(i:Nat) (lb:Blk),(lbs.map some)[i]? = some (some lb)→lbs[i]? = some lb:=fun i lb hi=>by
         simp only[List.getElem?_map,oms]at hi
         obtain⟨lb',hi,e1⟩:=hi
         simp only[sie]at e1
         subst e1;exact hi
        refine⟨las,lbs,v0,lbs',hs,⟨by rw[hA.1,mapM_some_length hlas],fun j x hx=>?_⟩,?_,fun ρ' v' w' hX hv' hH'=>?_⟩
        ·obtain⟨y,h1,h2⟩:=mapM_back hlas j x hx
         obtain⟨u,h3,h4⟩:=hA.2 j y h1
         exact⟨u,h3,mapA_rel (ρ:=ρ) (ρ':=small ρ ns) rfl (fun c c' u=>renC_rel) h2 h4⟩
        ·refine⟨rfl,rfl,rfl,Nat.le_refl _,fun _ _ _=>rfl,fun i p hi=>?_,fun i lb hi hc=>?_,fun i j r o o' lb lb' hij hi hroi hj hdj e1 e2=>?_,fun i r o hi e1=>?_,fun i r o hp=>?_,fun i lb hi hg=>?_,fun i lb hi hg=>?_,fun i hv=>?_,fun i lb hi hp=>?_,hH.zok,fun i lb r o k hi hroi e1 hk=>?_,fun r i v hv _=>.inl hv,hH.yok⟩
         ·obtain⟨n,hn1,hn2⟩:=small_some hi
          have:i<lbs.length:=by
           have:=(ges hn1).1;omega
          exact⟨lbs[i],by simp[this]⟩
         ·obtain⟨n,b,h1,h2,h3,-⟩:=at_ns i lb (lbs_at i lb hi)
          obtain⟨r,o,h4,h5⟩:=hH.blk n b h2 (by rw[←(mapB_kind h3).2.1];exact hc)
          exact⟨r,o,by rw[(small_at h1).1];exact h4,(mapB_rel (ρ:=ρ) (ρ':=small ρ ns) rfl (fun c c' u=>renC_rel) h3 h5).2⟩
         ·obtain⟨n,b,h1,h2,h3,-⟩:=at_ns i lb (lbs_at i lb hi)
          obtain⟨m,b',g1,g2,g3,-⟩:=at_ns j lb' (lbs_at j lb' hj)
          rw[(small_at h1).1]at e1
          rw[(small_at g1).1]at e2
          refine hH.sep n m r o o' b b' ?_ h2 (by rw[←(mapB_kind h3).1];exact hroi) g2 (fun e3=>hdj ((mapB_kind g3).2.2.2.2 e3)) e1 e2
          intro e3
          subst e3
          exact hij (nodup_idx hn h1 g1)
         ·obtain⟨n,hn1,-⟩:=small_some e1
          have:=(ges hn1).1
          omega
         ·obtain⟨n,hn1,hn2⟩:=small_some hp
          exact hH.low n r o hn2
         ·obtain⟨n,b,h1,h2,h3,-⟩:=at_ns i lb (lbs_at i lb hi)
          have hk:=mapB_kind h3
          obtain⟨t1,t3⟩:=hH.tails n b h2 (hk.2.2.1.1 hg)
          refine⟨by rw[hk.1];exact t1,fun r o hp=>?_⟩
          rw[(small_at h1).1]at hp
          obtain⟨c,ty,f1,f2⟩:=t3 r o hp
          exact⟨c,ty,f1,by rw[(small_at h1).2.1];exact f2⟩
         ·obtain⟨n,b,h1,h2,h3,-⟩:=at_ns i lb (lbs_at i lb hi)
          rw[(mapB_kind h3).1]
          exact hH.deadRo n b h2 ((mapB_kind h3).2.2.2.1 hg)
         ·have hv:(match ns[i]? with
           |some n=>ρ.vd n
           |none=>false)=true:=hv
          cases hni:ns[i]? with
          |none=>rw[hni]at hv;cases hv
          |some n=>
           rw[hni]at hv
           obtain⟨g1,b,g2⟩:=hH.vd1 n hv
           refine⟨by rw[(small_at hni).1];exact g1,?_⟩
           have hil:i<lbs.length:=by
            have:=(ges hni).1;omega
           exact⟨lbs[i],by simp[hil]⟩
         ·obtain⟨n,b,h1,h2,h3,-⟩:=at_ns i lb (lbs_at i lb hi)
          rw[(small_at h1).1]at hp
          rw[(small_at h1).2.2]
          exact hH.vd2 n b h2 hp
         ·obtain⟨n,b,h1,h2,h3,-⟩:=at_ns i lb (lbs_at i lb hi)
          rw[(small_at h1).1]at e1
          exact hH.zsep n b r o k h2 (by rw[←(mapB_kind h3).1];exact hroi) e1 (fun e3=>hk ((mapB_kind h3).2.2.1.2 e3))
        ·
         have lbs'_at:∀(i:Nat) (lb:Blk),(lbs'.map some)[i]? = some (some lb)→lbs'[i]? = some lb:=fun i lb hi=>by
          simp only[List.getElem?_map,oms]at hi
          obtain⟨lb',hi,e1⟩:=hi
          simp only[sie]at e1
          subst e1;exact hi
         have to_map:∀(i:Nat) (lb:Blk),lbs'[i]? = some lb→(lbs'.map some)[i]? = some (some lb):=fun i lb hi=>by simp[hi]
         have bs1_of:∀(i:Nat) lb,lbs'[i]? = some lb→∃bb,bs1[i]? = some bb∧mapB (bakC (ns++List.range' nm e)) lb=some bb:=by
          intro i lb hi
          obtain⟨bb,h1,h2⟩:=mapM_some_get hbs1 i lb hi
          exact⟨bb,h2,h1⟩
         have in_h:∀{i n:Nat},(ns++List.range' nm e)[i]? = some n→n<h.length:=by
          intro i n hi
          rcases mem_cases (List.mem_of_getElem? hi)with hmem|⟨k,hk,rfl⟩
          ·obtain⟨b,hb⟩:=hpres n hmem
           exact(ges hb).1
          ·exact(ges (hfree k hk).1).1
         have put:∀{i n:Nat}{bb:Blk},(ns++List.range' nm e)[i]? = some n→bs1[i]? = some bb→(setMany h (ns++List.range' nm e) bs1)[n]? = some (some bb):=fun {i n bb} h1 h2=>setMany_at hN h1 h2 (in_h h1)
         have get:∀(n:Nat) bb,(setMany h (ns++List.range' nm e) bs1)[n]? = some (some bb)→(∃(i:Nat) (lb:Blk),(ns++List.range' nm e)[i]? = some n∧bs1[i]? = some bb∧lbs'[i]? = some lb∧mapB (bakC (ns++List.range' nm e)) lb=some bb)∨(n∉ns++List.range' nm e∧h[n]? = some (some bb)):=by
          intro n bb hb
          by_cases hmem:n∈ns++List.range' nm e
          ·obtain⟨i,hi,e1⟩:=List.getElem_of_mem hmem
           have hi1:(ns++List.range' nm e)[i]? = some n:=by rw[←e1];exact geg hi
           have hil:i<lbs'.length:=by omega
           obtain⟨b2,g1,g2⟩:=bs1_of i _ (geg hil)
           have:=put hi1 g1
           rw[hb]at this
           simp only[sie]at this
           subst this
           exact .inl ⟨i,_,hi1,g1,geg hil,g2⟩
          ·rw[setMany_out hmem]at hb
           exact .inr ⟨hmem,hb⟩
         have old:∀{i n:Nat}{bb:Blk},i<ns.length→(ns++List.range' nm e)[i]? = some n→bs1[i]? = some bb→∃b,h[n]? = some (some b)∧bs[i]? = some b∧roOk b bb=true∧b.g≠.dead:=by
          intro i n bb hi h1 h2
          rw[at_old hi]at h1
          have hib:i<bs.length:=by omega
          obtain⟨n2,g1,g2⟩:=mapM_back hbs i _ (geg hib)
          rw[h1]at g1
          simp only[sie]at g1
          subst g1
          exact⟨bs[i],blkAt_eq g2,geg hib,hro i _ _ (geg hib) h2,hlive n (List.mem_of_getElem? h1) _ (blkAt_eq g2)⟩
         have fresh_none:∀{i n:Nat},ns.length≤i→(ns++List.range' nm e)[i]? = some n→h[n]? = some none∧m0≤n:=by
          intro i n hi h1
          rw[List.getElem?_append_right hi,List.getElem?_eq_some_iff]at h1
          obtain⟨h2,h3⟩:=h1
          rw[List.getElem_range',Nat.one_mul]at h3
          have hk:i-ns.length<e:=by simpa using h2
          exact⟨by rw[←h3];exact(hfree _ hk).1,by omega⟩
         have hX1:Ext ρ (big ρ ρ' (ns++List.range' nm e)):=by
          refine⟨⟨fun n p hp=>?_,fun r i v hv=>hX.z r i v hv,fun n hv=>?_,fun r p hv=>hX.y r p hv⟩,rfl⟩
          ·by_cases hmem:n∈ns++List.range' nm e
           ·obtain⟨i,hi,e1⟩:=List.getElem_of_mem hmem
            have hi1:(ns++List.range' nm e)[i]? = some n:=by rw[←e1];exact geg hi
            obtain⟨b1,b2,-⟩:=big_at (ρ:=ρ) (ρ':=ρ') hN hi1
            by_cases hil:i<ns.length
            ·rw[at_old hil]at hi1
             obtain⟨s1,s2,-⟩:=small_at (ρ:=ρ) hi1
             obtain⟨x1,x2⟩:=hX.f i p (by rw[s1];exact hp)
             exact⟨by rw[b1];exact x1,by rw[b2,x2,s2]⟩
            ·obtain⟨x,hx⟩:=hH.dom n p hp
             rw[(fresh_none (by omega) hi1).1]at hx;cases hx
           ·obtain⟨b1,b2,-⟩:=big_out (ρ:=ρ) (ρ':=ρ') hmem
            exact⟨by rw[b1];exact hp,b2⟩
          ·by_cases hmem:n∈ns++List.range' nm e
           ·obtain⟨i,hi,e1⟩:=List.getElem_of_mem hmem
            have hi1:(ns++List.range' nm e)[i]? = some n:=by rw[←e1];exact geg hi
            obtain⟨-,-,b3⟩:=big_at (ρ:=ρ) (ρ':=ρ') hN hi1
            by_cases hil:i<ns.length
            ·rw[at_old hil]at hi1
             obtain⟨-,-,s3⟩:=small_at (ρ:=ρ) hi1
             rw[b3]
             exact hX.vd i (by rw[s3];exact hv)
            ·obtain⟨-,b,hb⟩:=hH.vd1 n hv
             rw[(fresh_none (by omega) hi1).1]at hb;cases hb
           ·rw[(big_out (ρ:=ρ) (ρ':=ρ') hmem).2.2];exact hv
         have hsame:∀{i n:Nat},i<ns.length→(ns++List.range' nm e)[i]? = some n→ρ' i=ρ n:=by
          intro i n hi h1
          rw[at_old hi]at h1
          obtain⟨s1,-,s3⟩:=small_at (ρ:=ρ) h1
          cases hp:ρ n with
          |some p=>exact(hX.f i p (by rw[s1];exact hp)).1
          |none=>
           obtain⟨b,hb⟩:=hpres n (List.mem_of_getElem? h1)
           exact(hH'.vd1 i (hX.vd i (by rw[s3];exact hH.vd2 n b hb hp))).1
         have owned_back:∀r,Owned lbs.length ρ' (lbs'.map some) r→∃n b o,n∈ns∧h[n]? = some (some b)∧b.ro=false∧b.g≠.dead∧ρ n=some (r,o)∧∃bb,(setMany h (ns++List.range' nm e) bs1)[n]? = some (some bb)∧(bb.ro=false∨bb.g=.dead):=by
          rintro r ⟨i,lb,o,h1,h2,h3,h4⟩
          have hi:i<ns.length:=by omega
          obtain⟨bb,g1,g2⟩:=bs1_of i lb (lbs'_at i lb h2)
          obtain⟨n,hn1⟩:∃n,(ns++List.range' nm e)[i]? = some n:=⟨_,geg (by omega)⟩
          obtain⟨b,k1,-,k3,k4⟩:=old hi hn1 g1
          have hkind:=mapB_kind g2
          have hmem:n∈ns:=by rw[at_old hi]at hn1;exact List.mem_of_getElem? hn1
          have hbb:bb.ro=false∨bb.g=.dead:=h3.imp (fun e1=>by rw[hkind.1];exact e1) (fun e1=>hkind.2.2.2.2 e1)
          refine⟨n,b,o,hmem,k1,?_,k4,by rw[←hsame hi hn1];exact h4,bb,put hn1 g1,hbb⟩
          rcases roOk_spec k3 with ⟨q1,q2⟩|⟨q1,-⟩
          ·rcases hbb with hbb|hbb
           ·rw[q1];exact hbb
           ·exact absurd hbb q2
          ·exact q1
         have hown:∀r,Owned m0 ρ h r→Owned m0 (big ρ ρ' (ns++List.range' nm e)) (setMany h (ns++List.range' nm e) bs1) r:=by
          rintro r ⟨n,b,o,h1,h2,h3,h4⟩
          by_cases hmem:n∈ns++List.range' nm e
          ·obtain⟨i,hi,e1⟩:=List.getElem_of_mem hmem
           have hi1:(ns++List.range' nm e)[i]? = some n:=by rw[←e1];exact geg hi
           have hil:i<ns.length:=by
            apply Decidable.byContradiction
            intro hge
            have:=(fresh_none (by omega) hi1).2
            omega
           obtain⟨bb,g1,g2⟩:=bs1_of i _ (geg (by omega:i<lbs'.length))
           obtain⟨b0,k1,-,k3,k4⟩:=old hil hi1 g1
           rw[h2]at k1
           simp only[sie]at k1
           subst k1
           refine⟨n,bb,o,h1,put hi1 g1,?_,(hX1.f n _ h4).1⟩
           rcases roOk_spec k3 with ⟨q1,q2⟩|⟨-,-,-,q4⟩
           ·rcases h3 with h3|h3
            ·exact .inl (by rw[←q1];exact h3)
            ·exact absurd h3 k4
           ·exact .inr q4
          ·exact⟨n,b,o,h1,by rw[setMany_out hmem];exact h2,h3,(hX1.f n _ h4).1⟩
         have hand:∀{n:Nat}{b:Blk}{r o:Nat},n∈ns→h[n]? = some (some b)→b.ro=false→b.g≠.dead→ρ n=some (r,o)→W0.heap.size≤r∨Owned m0 ρ h r:=by
          intro n b r o h1 h2 h3 h4 h5
          rcases Nat.lt_or_ge n m0 with g|g
          ·exact .inr ⟨n,b,o,g,h2,.inl h3,h5⟩
          ·exact hH.new n r o g h5
         have hsz:=hH.size
         refine⟨big ρ ρ' (ns++List.range' nm e),hX1,mapV_rel (ρ:=ρ') (ρ':=big ρ ρ' (ns++List.range' nm e)) rfl (fun c c' u=>bakC_rel hN) hv1 hv',hH'.os.trans hH.os,hH'.tape.trans hH.tape,hH'.output.trans hH.output,Nat.le_trans hH.size hH'.size,fun k hk hno=>?_,fun n p hp=>?_,fun n bb hb hc=>?_,fun n m r o o' bb bb' hnm' hb hrob hb' hd h1 h2=>?_,fun n r o hn1 hp=>?_,fun n r o hp=>?_,fun n bb hb hg=>?_,fun n bb hb hg=>?_,fun n hv=>?_,fun n bb hb hp=>?_,hH'.zok,fun n bb r o i hb hrob hp hi=>?_,fun r i v hz hr=>?_,hH'.yok⟩
         ·rw[hH'.frame k (by omega) (fun ho=>by
           obtain⟨n,b,o,k1,k2,k3,k4,k5,-⟩:=owned_back k ho
           rcases hand k1 k2 k3 k4 k5 with g|g
           ·omega
           ·exact hno (hown k g))]
          exact hH.frame k hk fun ho=>hno (hown k ho)
         ·by_cases hmem:n∈ns++List.range' nm e
          ·obtain⟨i,hi,e1⟩:=List.getElem_of_mem hmem
           have hi1:(ns++List.range' nm e)[i]? = some n:=by rw[←e1];exact geg hi
           obtain⟨bb,g1,-⟩:=bs1_of i _ (geg (by omega:i<lbs'.length))
           exact⟨bb,put hi1 g1⟩
          ·rw[(big_out hmem).1]at hp
           obtain⟨b,hb⟩:=hH.dom n p hp
           exact⟨b,by rw[setMany_out hmem];exact hb⟩
         ·rcases get n bb hb with ⟨i,lb,g1,g2,g3,g4⟩|⟨g1,g2⟩
          ·obtain⟨r,o,a1,a2⟩:=hH'.blk i lb (to_map i lb g3) (by rw[←(mapB_kind g4).2.1];exact hc)
           exact⟨r,o,by rw[(big_at hN g1).1];exact a1,(mapB_rel (ρ:=ρ') (ρ':=big ρ ρ' (ns++List.range' nm e)) rfl (fun c c' u=>bakC_rel hN) g4 a2).2⟩
          ·obtain⟨r,o,a1,c,ty,fz,a2,a3,a4⟩:=hH.blk n bb g2 hc
           refine⟨r,o,by rw[(big_out g1).1];exact a1,c,ty,fz,?_,a3,fun j y hy=>?_⟩
           ·rw[hH'.frame r (hH.low n r o a1) (fun ho=>by
             obtain⟨n2,b2,o2,k1,k2,k3,k4,k5,-⟩:=owned_back r ho
             refine hH.sep n2 n r o2 o b2 bb (fun e1=>?_) k2 k3 g2 (fun e1=>by rw[e1]at hc;cases hc) k5 a1
             subst e1
             exact g1 (List.mem_append_left _ k1))]
            exact a2
           ·obtain⟨v,q1,q2⟩:=a4 j y hy
            exact⟨v,q1,q2.ext hX1⟩
         ·rcases get n bb hb with ⟨i,lb,g1,g2,g3,g4⟩|⟨g1,g2⟩
          ·rw[(big_at hN g1).1]at h1
           rcases get m bb' hb' with ⟨j,lb',f1,f2,f3,f4⟩|⟨f1,f2⟩
           ·rw[(big_at hN f1).1]at h2
            exact hH'.sep i j r o o' lb lb' (fun e1=>by subst e1;rw[g1]at f1;exact hnm' (Option.some.inj f1)) (to_map i lb g3) (by rw[←(mapB_kind g4).1];exact hrob) (to_map j lb' f3) (fun e1=>hd ((mapB_kind f4).2.2.2.2 e1)) h1 h2
           ·rw[(big_out f1).1]at h2
            have hrl:=hH.low m r o' h2
            have hex:∃n2 b2 o2,n2∈ns∧h[n2]? = some (some b2)∧b2.ro=false∧ρ n2=some (r,o2):=by
             by_cases hil:i<ns.length
             ·obtain⟨b,k1,-,k3,k4⟩:=old hil g1 g2
              have hmem:n∈ns:=by rw[at_old hil]at g1;exact List.mem_of_getElem? g1
              refine⟨n,b,o,hmem,k1,?_,by rw[←hsame hil g1];exact h1⟩
              rcases roOk_spec k3 with ⟨q1,-⟩|⟨q1,-⟩
              ·rw[q1];exact hrob
              ·exact q1
             ·rcases hH'.new i r o (by omega) h1 with q|q
              ·omega
              ·obtain⟨n2,b2,o2,k1,k2,k3,k4,k5,-⟩:=owned_back r q
               exact⟨n2,b2,o2,k1,k2,k3,k5⟩
            obtain⟨n2,b2,o2,k1,k2,k3,k5⟩:=hex
            exact hH.sep n2 m r o2 o' b2 bb' (fun e1=>by subst e1;exact f1 (List.mem_append_left _ k1)) k2 k3 f2 hd k5 h2
          ·rw[(big_out g1).1]at h1
           rcases get m bb' hb' with ⟨j,lb',f1,f2,f3,f4⟩|⟨f1,f2⟩
           ·rw[(big_at hN f1).1]at h2
            have hrl:=hH.low n r o h1
            have hnd:bb.g≠.dead:=fun e1=>by rw[hH.deadRo n bb g2 e1]at hrob;cases hrob
            have hex:∃n2 b2 o2,n2∈ns∧h[n2]? = some (some b2)∧b2.g≠.dead∧ρ n2=some (r,o2):=by
             by_cases hil:j<ns.length
             ·obtain⟨b,k1,-,k3,k4⟩:=old hil f1 f2
              have hmem:m∈ns:=by rw[at_old hil]at f1;exact List.mem_of_getElem? f1
              exact⟨m,b,o',hmem,k1,k4,by rw[←hsame hil f1];exact h2⟩
             ·rcases hH'.new j r o' (by omega) h2 with q|q
              ·omega
              ·obtain⟨n2,b2,o2,k1,k2,k3,k4,k5,-⟩:=owned_back r q
               exact⟨n2,b2,o2,k1,k2,k4,k5⟩
            obtain⟨n2,b2,o2,k1,k2,k4,k5⟩:=hex
            exact hH.sep n n2 r o o2 bb b2 (fun e1=>by subst e1;exact g1 (List.mem_append_left _ k1)) g2 hrob k2 k4 h1 k5
           ·rw[(big_out f1).1]at h2
            exact hH.sep n m r o o' bb bb' hnm' g2 hrob f2 hd h1 h2
         ·by_cases hmem:n∈ns++List.range' nm e
          ·obtain⟨i,hi,e1⟩:=List.getElem_of_mem hmem
           have hi1:(ns++List.range' nm e)[i]? = some n:=by rw[←e1];exact geg hi
           rw[(big_at hN hi1).1]at hp
           by_cases hil:i<ns.length
           ·rw[hsame hil hi1]at hp
            exact(hH.new n r o hn1 hp).imp id (hown r)
           ·rcases hH'.new i r o (by omega) hp with q|q
            ·exact .inl (by omega)
            ·obtain⟨n2,b2,o2,k1,k2,k3,k4,k5,-⟩:=owned_back r q
             exact(hand k1 k2 k3 k4 k5).imp id (hown r)
          ·rw[(big_out hmem).1]at hp
           exact(hH.new n r o hn1 hp).imp id (hown r)
         ·by_cases hmem:n∈ns++List.range' nm e
          ·obtain⟨i,hi,e1⟩:=List.getElem_of_mem hmem
           have hi1:(ns++List.range' nm e)[i]? = some n:=by rw[←e1];exact geg hi
           rw[(big_at hN hi1).1]at hp
           exact hH'.low i r o hp
          ·rw[(big_out hmem).1]at hp
           exact Nat.lt_of_lt_of_le (hH.low n r o hp) hH'.size
         ·rcases get n bb hb with ⟨i,lb,g1,g2,g3,g4⟩|⟨g1,g2⟩
          ·obtain⟨t1,t3⟩:=hH'.tails i lb (to_map i lb g3) ((mapB_kind g4).2.2.1.1 hg)
           refine⟨by rw[(mapB_kind g4).1];exact t1,fun r o hp=>?_⟩
           obtain⟨b1,b2,-⟩:=big_at (ρ:=ρ) (ρ':=ρ') hN g1
           rw[b1]at hp
           rw[b2]
           exact t3 r o hp
          ·obtain⟨t1,t3⟩:=hH.tails n bb g2 hg
           refine⟨t1,fun r o hp=>?_⟩
           obtain⟨b1,b2,-⟩:=big_out (ρ:=ρ) (ρ':=ρ') g1
           rw[b1]at hp
           rw[b2]
           obtain⟨c,ty,q1,q2⟩:=t3 r o hp
           refine⟨c,ty,?_,q2⟩
           rw[hH'.frame r (hH.low n r o hp) (fun ho=>by
            obtain⟨n2,b2,o2,k1,k2,k3,k4,k5,-⟩:=owned_back r ho
            refine hH.sep n2 n r o2 o b2 bb (fun e1=>?_) k2 k3 g2 (fun e1=>by rw[hg]at e1;cases e1) k5 hp
            subst e1
            exact g1 (List.mem_append_left _ k1))]
           exact q1
         ·rcases get n bb hb with ⟨i,lb,g1,g2,g3,g4⟩|⟨g1,g2⟩
          ·rw[(mapB_kind g4).1]
           exact hH'.deadRo i lb (to_map i lb g3) ((mapB_kind g4).2.2.2.1 hg)
          ·exact hH.deadRo n bb g2 hg
         ·by_cases hmem:n∈ns++List.range' nm e
          ·obtain⟨i,hi,e1⟩:=List.getElem_of_mem hmem
           have hi1:(ns++List.range' nm e)[i]? = some n:=by rw[←e1];exact geg hi
           obtain⟨b1,-,b3⟩:=big_at (ρ:=ρ) (ρ':=ρ') hN hi1
           rw[b3]at hv
           obtain⟨bb,g1,-⟩:=bs1_of i _ (geg (by omega:i<lbs'.length))
           exact⟨by rw[b1];exact(hH'.vd1 i hv).1,bb,put hi1 g1⟩
          ·obtain⟨b1,-,b3⟩:=big_out (ρ:=ρ) (ρ':=ρ') hmem
           rw[b3]at hv
           obtain⟨q1,b,q2⟩:=hH.vd1 n hv
           exact⟨by rw[b1];exact q1,b,by rw[setMany_out hmem];exact q2⟩
         ·rcases get n bb hb with ⟨i,lb,g1,g2,g3,g4⟩|⟨g1,g2⟩
          ·obtain⟨b1,-,b3⟩:=big_at (ρ:=ρ) (ρ':=ρ') hN g1
           rw[b1]at hp
           rw[b3]
           exact hH'.vd2 i lb (to_map i lb g3) hp
          ·obtain⟨b1,-,b3⟩:=big_out (ρ:=ρ) (ρ':=ρ') g1
           rw[b1]at hp
           rw[b3]
           exact hH.vd2 n bb g2 hp
         ·rcases get n bb hb with ⟨j,lb,g1,g2,g3,g4⟩|⟨g1,g2⟩
          ·rw[(big_at hN g1).1]at hp
           exact hH'.zsep j lb r o i (to_map j lb g3) (by rw[←(mapB_kind g4).1];exact hrob) hp (fun e1=>hi ((mapB_kind g4).2.2.1.2 e1))
          ·rw[(big_out g1).1]at hp
           cases hz:ρ'.z r i with
           |none=>exact hz
           |some v=>
            exfalso
            rcases hH'.zold r i v hz (hH.low n r o hp)with q|q
            ·have q:ρ'.z0 r i=some v:=q
             rw[hX.z0]at q
             have q:ρ.z r i=some v:=q
             rw[hH.zsep n bb r o i g2 hrob hp hi]at q
             cases q
            ·obtain⟨n2,b2,o2,k1,k2,k3,k4,k5,-⟩:=owned_back r q
             exact hH.sep n n2 r o o2 bb b2 (fun e1=>by subst e1;exact g1 (List.mem_append_left _ k1)) g2 hrob k2 k4 hp k5
         ·rcases hH'.zold r i v hz (by omega)with q|q
          ·have q:ρ'.z0 r i=some v:=q
           rw[hX.z0]at q
           have q:ρ.z r i=some v:=q
           exact(hH.zold r i v q hr).imp id (hown r)
          ·obtain⟨n2,b2,o2,k1,k2,k3,k4,k5,-⟩:=owned_back r q
           rcases hand k1 k2 k3 k4 k5 with g|g
           ·omega
           ·exact .inr (hown r g)
       ·cases hp
      ·cases hp
     ·cases hp
    ·cases hp
   ·cases hp
  ·cases hp
end
end Go.Eng
