import Derived.Test.YtlbllaocdilafaaZ01
import Derived.Deep.AppendSrc
import Derived.Deep.Upon
set_option linter.unusedSimpArgs false
set_option linter.unusedVariables false
namespace Go.Eng
open Go
section
variable {P:Program}{W0:World}{m0:Nat}{ρ:Ren}
theorem shEq_eq:∀{s s':Sh},shEq s s'=true→s=s'
 |.int k,s',h=>by cases s'<;>simp only[shEq]at h<;>first|(rw[kindEq_eq h])|cases h
 |.bool,s',h=>by cases s'<;>simp only[shEq]at h<;>first|rfl|cases h
 |.str,s',h=>by cases s'<;>simp only[shEq]at h<;>first|rfl|cases h
 |.arr k m,s',h=>by
  cases s'<;>simp only[shEq]at h<;>try cases h
  simp only[bat]at h
  rw[kindEq_eq h.1,Nat.eq_of_beq_eq_true h.2]
 |.two a b,s',h=>by
  cases s'<;>simp only[shEq]at h<;>try cases h
  simp only[bat]at h
  rw[shEq_eq h.1,shEq_eq h.2]
 |.sl s,s',h=>by
  cases s'<;>simp only[shEq]at h<;>try cases h
  rw[shEq_eq h]
def ERel (z:Nat→Nat→Option Value) (s:Sh) (xs:List D) (r o:Nat):Prop:=∀(i:Nat) x,xs[i]? = some x→SRel z s x (fun j=>z r (o+i*s.width+j))
theorem ERel.at {ρ:Ren}{s:Sh}{xs:List D}{r o:Nat}(h:ERel ρ.z s xs r o) (h0:0<s.width):∀j,j<xs.length*s.width→∃v,ρ.z r (o+j)=some v∧one1 v=true:=by
 intro j hj
 have hi:j / s.width<xs.length:=Nat.div_lt_of_lt_mul (by rw[Nat.mul_comm];exact hj)
 have hk:j % s.width<s.width:=Nat.mod_lt _ h0
 obtain⟨hl,hc⟩:=cellsD_rel (h (j / s.width) _ (geg hi))
 obtain⟨v,e1,e2⟩:=hc (j % s.width) _ (geg (by rw[hl];exact hk))
 refine⟨v,?_,e2.isOne⟩
 have e:o+j / s.width*s.width+j % s.width=o+j:=by
  have:=Nat.div_add_mod j s.width
  rw[Nat.mul_comm]at this
  omega
 rw[←e];exact e1
theorem ERel.move {z z':Nat→Nat→Option Value}{s:Sh}{xs:List D} {r o r' o':Nat}(h:ERel z s xs r o) (hz:∀r i v,z r i=some v→z' r i=some v) (hm:∀j,j<xs.length*s.width→∀v,z r (o+j)=some v→z' r' (o'+j)=some v):ERel z' s xs r' o':=by
 intro i x hx
 have hi:i<xs.length:=(ges hx).1
 refine(h i x hx).mono hz fun j hj v hv=>?_
 have hlt:i*s.width+j<xs.length*s.width:=by
  have:(i+1)*s.width≤xs.length*s.width:=Nat.mul_le_mul_right _ hi
  rw[Nat.add_mul]at this
  omega
 have:=hm (i*s.width+j) hlt v (by rw[←Nat.add_assoc];exact hv)
 rw[←Nat.add_assoc]at this
 exact this
theorem ERel.cat {z:Nat→Nat→Option Value}{s:Sh}{xs ys:List D}{r o:Nat}(h:ERel z s xs r o) (k:ERel z s ys r (o+xs.length*s.width)):ERel z s (xs++ys) r o:=by
 intro i x hx
 by_cases hi:i<xs.length
 ·rw[List.getElem?_append_left hi]at hx
  exact h i x hx
 ·rw[List.getElem?_append_right (by omega)]at hx
  have:=k _ x hx
  have e:∀j,o+xs.length*s.width+(i-xs.length)*s.width+j=o+i*s.width+j:=fun j=>by
   have:xs.length*s.width+(i-xs.length)*s.width=i*s.width:=by rw[←Nat.add_mul];congr 1;omega
   omega
  simpa only[e]using this
theorem ERel.nil {z:Nat→Nat→Option Value}{s:Sh}{r o:Nat}:ERel z s [] r o:=fun i x hx=>by simp at hx
def LSl (ρ:Ren) (s:Sh) (xs:List D) (v:Value):Prop:=(v=.slice none 0 0∧xs=[])∨∃r o cap,v=.slice (some ⟨r,o,none⟩) xs.length cap∧xs.length≤cap∧ERel ρ.z s xs r o
theorem argD_rel {s:Sh}{d:C}{ys:List D}{v:Value}(h:argD s d=some ys) (hv:CRel ρ d v):LSl ρ s ys v:=by
 unfold argD at h
 split at h
 ·split at h
  ·rename_i he
   simp only[sie]at h
   obtain rfl:=shEq_eq he
   subst h
   rcases hv with hv|⟨r,o,len,cap,e1,e2,e3,e4,-⟩
   ·exact .inl hv
   ·subst e2
    exact .inr ⟨r,o,cap,e1,e3,e4⟩
  ·cases h
 ·simp only[sie]at h
  subst h
  exact .inl ⟨hv,rfl⟩
 ·cases h
theorem headD_rel {s:Sh}{c:C}{xs:List D}{tok:Option Nat}{u:Value}(h:headD s c=some (xs,tok)) (hu:CRel ρ c u):
 (u=.slice none 0 0∧xs=[])∨∃r o cap b,u=.slice (some ⟨r,o,none⟩) xs.length cap∧xs.length≤cap∧ERel ρ.z s xs r o∧tok=some b∧(xs.length=cap∨ρ b=some (r,o+xs.length*s.width)∧(cap-xs.length)*s.width≤ρ.room b):=by
 unfold headD at h
 split at h
 ·split at h
  ·rename_i t he
   simp only[sie,po]at h
   obtain rfl:=shEq_eq he
   obtain⟨rfl,rfl⟩:=h
   rcases hu with hu|⟨r,o,len,cap,e1,e2,e3,e4,e5⟩
   ·exact .inl hu
   ·subst e2
    exact .inr ⟨r,o,cap,t,e1,e3,e4,rfl,e5 t rfl⟩
  ·cases h
 ·simp only[sie,po]at h
  obtain⟨rfl,rfl⟩:=h
  exact .inl ⟨hu,rfl⟩
 ·cases h
def rowL (ρ:Ren) (r o n:Nat):List Value:=(List.range n).map fun j=>(ρ.z r (o+j)).getD undef
theorem rowL_length (ρ:Ren) (r o n:Nat):(rowL ρ r o n).length=n:=by simp[rowL]
theorem rowL_at {ρ:Ren}{r o n j:Nat}{v:Value}(hj:j<n) (h:ρ.z r (o+j)=some v):(rowL ρ r o n)[j]? = some v:=by
 unfold rowL
 rw[List.getElem?_map,List.getElem?_range hj]
 simp only[Option.map_some,h,Option.getD_some]
theorem rowL_get {ρ:Ren}{s:Sh}{xs:List D}{r o:Nat}(h:ERel ρ.z s xs r o) (h0:0<s.width){j:Nat}{v:Value}(hj:(rowL ρ r o (xs.length*s.width))[j]? = some v):j<xs.length*s.width∧ρ.z r (o+j)=some v∧one1 v=true:=by
 have hlt:j<xs.length*s.width:=by
  have:=(ges hj).1
  rw[rowL_length]at this;exact this
 obtain⟨u,e1,e2⟩:=h.at h0 j hlt
 rw[rowL_at hlt e1]at hj
 simp only[sie]at hj
 subst hj
 exact⟨hlt,e1,e2⟩
def killT (h:Heap):Option Nat→Heap
 |some b=>h.set b (some ⟨true,.dead⟩)
 |none=>h
theorem srcD_rel {ti:TypeId→TI}(hti:TIok P ti){w:World}(hz:ZOk ρ.z w){s:Sh} {t t' e:TypeId}{d:C}{ys:List D}{v:Value}{n:Nat}(hd:srcD arR ti s t t' d=some ys) (hv:CRel ρ d v) (ht:P.underlying t=some (.slice e)) (hn:s.width=n) (h0:0<s.width):
 ∃news,Src P n t' v ys.length news w∧(∀u∈news,u.oneCell'=true)∧∀(z':Nat→Nat→Option Value) (r o:Nat),(∀r i v,ρ.z r i=some v→z' r i=some v)→(∀(j:Nat) v,news[j]? = some v→z' r (o+j)=some v)→ERel z' s ys r o:=by
 subst hn
 unfold srcD at hd
 split at hd
 ·rename_i htt
  have htt:=Nat.eq_of_beq_eq_true htt
  subst htt
  rcases argD_rel hd hv with ⟨rfl,rfl⟩|⟨ra,oa,ca,rfl,hca,hEa⟩
  ·exact⟨[],Src.ofNil w ht 0,by simp,fun _ _ _ _ _=>ERel.nil⟩
  ·have hone:∀x∈rowL ρ ra oa (ys.length*s.width),x.oneCell'=true:=fun x hx=>by
    obtain⟨j,hj,e1⟩:=List.getElem_of_mem hx
    obtain⟨-,-,h1⟩:=rowL_get hEa h0 (geg hj)
    rw[e1]at h1
    exact one1_cell' h1
   refine⟨rowL ρ ra oa (ys.length*s.width),Src.ofSlice w ht ⟨ra,oa,none⟩ ys.length ca _ (rowL_length _ _ _ _) (fun j x hj=>?_) hone,hone,fun z' r o hz1 hz2=>hEa.move hz1 (fun j hj v hv=>hz2 j v (rowL_at hj hv))⟩
   obtain⟨-,e1,-⟩:=rowL_get hEa h0 hj
   rw[addr_add];exact zok_cell hz e1
 ·split at hd
  ·rename_i b
   split at hd
   ·rename_i hk
    obtain⟨dt,hdt,hrel,-⟩:=(hti _ hk).und
    split at hd
    ·rename_i htd
     rw[htd]at hrel;cases dt<;>simp only[TDRel]at hrel
     simp only[sie]at hd
     subst hd
     simp only[CRel]at hv
     subst hv
     have hlen:(arR.dByt b).length=b.size:=by
      show(b.data.toList.map _).length=_
      rw[List.length_map,Array.length_toList];rfl
     refine⟨byteCells b,by rw[hlen];exact Src.ofString w hdt b,fun u hu=>by
      obtain⟨_,_,rfl⟩:=List.mem_map.1 hu
      rfl,fun z' r o hz1 hz2 i x hx=>?_⟩
     have hx:(b.data.toList.map fun b=>D.int b.toNat)[i]? = some x:=hx
     rw[List.getElem?_map,oms]at hx
     obtain⟨y,hy,rfl⟩:=hx
     refine⟨_,rfl,?_⟩
     have:=hz2 i (.int .u8 y.toNat) (by unfold byteCells;rw[List.getElem?_map,hy];rfl)
     simpa [Sh.width]using this
    ·cases hd
   ·cases hd
  ·cases hd
theorem app_sound {h:Heap}{w:World}(hH:HRel W0 m0 ρ h w){s:Sh}{xs ys:List D}{tok:Option Nat}{c:C}{u v:Value}(hc:headD s c=some (xs,tok)) (hu:CRel ρ c u)
 {t tx e ty:TypeId}{i:TypeInfo}{z:Value}(ht:P.underlying t=some (.slice e)) (hi:P.info? e=some i) (hz:i.zero=some z) (hw:s.width=i.size) (h0:0<s.width) (hzs:z.cells.size=i.size)
 (hfit:xs.length+ys.length≤maxLen∧(xs.length+ys.length)*i.bytes≤140737488355328) (htok:∀b,tok=some b→h[b]? = some (some ⟨false,.tail⟩)){nm:Nat}(hnm:h[nm]? = some none) (hm:m0≤nm)
 {news:List Value}(hs:Src P i.size tx v ys.length news w) (hone:∀x∈news,x.oneCell'=true) (hEy:∀(z':Nat→Nat→Option Value) (r o:Nat),(∀r i v,ρ.z r i=some v→z' r i=some v)→(∀(j:Nat) v,news[j]? = some v→z' r (o+j)=some v)→ERel z' s ys r o):
 ∃u' w' ρ',(Builtin.append_ #[t,tx] ty #[u,v]).run P w=.ok u' w'∧Ext ρ ρ'∧HRel W0 m0 ρ' ((killT h tok).set nm (some ⟨false,.tail⟩)) w'∧CRel ρ' (.dat s (xs++ys) (some nm)) u'∧(∀r o len cap,u'=.slice (some ⟨r,o,none⟩) len cap→(∃n0,u=.slice (some ⟨r,o,none⟩) n0 cap)∨(o=0∧∃c fz,w'.heap[r]? = some (.cells c e fz)∧c.size=cap*s.width))∧(∀r o len cap,u'=.slice (some ⟨r,o,none⟩) len cap→(∀b r0 o0 n0 c0,tok=some b→u=.slice (some ⟨r0,o0,none⟩) n0 c0→ρ b=some (r0,o0+n0*s.width)∧(c0-n0)*s.width≤ρ.room b)→ρ' nm=some (r,o+len*s.width)∧(cap-len)*s.width≤ρ'.room nm):=by
 have hmax:maxLen=9223372036854775807:=by decide
 have hnl:news.length=ys.length*s.width:=by rw[hs.newsLen,hw]
 have hkill:HRel W0 m0 ρ (killT h tok) w∧(killT h tok)[nm]? = some none:=by
  cases tok with
  |none=>exact⟨hH,hnm⟩
  |some b=>
   have hb:=htok b rfl
   refine⟨hH.dying hb,?_⟩
   show(h.set b _)[nm]? = _
   rw[set_get (ges hb).1,if_neg]
   ·exact hnm
   ·intro e;subst e;rw[hb]at hnm;cases hnm
 obtain⟨hK,hKn⟩:=hkill
 have hzc:∀n,(Builtin.zeroCells z.cells n).size=n*i.size:=fun n=>by rw[size_zeroCells,hzs]
 have grown:∀(olds:List Value) (cap need:Nat),olds.length=need*s.width→need≤cap→need=xs.length+ys.length→(∀ρ':Ren,Ext ρ ρ'→(∀(j:Nat) v,olds[j]? = some v→ρ'.z w.heap.size j=some v)→ERel ρ'.z s (xs++ys) w.heap.size 0) →
  (Builtin.append_ #[t,tx] ty #[u,v]).run P w=.ok (.slice (some ⟨w.heap.size,0,none⟩) need cap) (w.drew.alloc (.cells (olds.toArray++Builtin.zeroCells z.cells (cap-need)) e)) →
  ∃u' w' ρ',(Builtin.append_ #[t,tx] ty #[u,v]).run P w=.ok u' w'∧Ext ρ ρ'∧HRel W0 m0 ρ' ((killT h tok).set nm (some ⟨false,.tail⟩)) w'∧CRel ρ' (.dat s (xs++ys) (some nm)) u'∧(∀r o len cap,u'=.slice (some ⟨r,o,none⟩) len cap→(∃n0,u=.slice (some ⟨r,o,none⟩) n0 cap)∨(o=0∧∃c fz,w'.heap[r]? = some (.cells c e fz)∧c.size=cap*s.width))∧(∀r o len cap,u'=.slice (some ⟨r,o,none⟩) len cap→(∀b r0 o0 n0 c0,tok=some b→u=.slice (some ⟨r0,o0,none⟩) n0 c0→ρ b=some (r0,o0+n0*s.width)∧(c0-n0)*s.width≤ρ.room b)→ρ' nm=some (r,o+len*s.width)∧(cap-len)*s.width≤ρ'.room nm):=by
  intro olds cap need hl hle hneed hE hrun
  obtain⟨ρ',x1,x2,x3,x4,x5⟩:=realloc_rel hK hKn hm olds (Builtin.zeroCells z.cells (cap-need)) e (w.drawn+1)
  refine⟨_,_,ρ',hrun,x1,x2,.inr ⟨w.heap.size,0,need,cap,rfl,by rw[List.length_append,hneed],hle,hE ρ' x1 x5,fun t' ht'=>?_⟩,fun r o len cap' he=>.inr ?_,fun r o len cap' he _=>?_⟩
  rotate_left
  ·simp only[Value.slice.injEq,sie,Addr.mk.injEq,and_true]at he
   obtain⟨⟨rfl,rfl⟩,-,rfl⟩:=he
   refine⟨rfl,_,(0,0),by show(w.heap.push _)[w.heap.size]? = _;rw[Array.getElem?_push,if_pos rfl],?_⟩
   rw[Array.size_append,List.size_toArray,hl,hzc,←hw,←Nat.add_mul]
   congr 1
   omega
  ·simp only[Value.slice.injEq,sie,Addr.mk.injEq,and_true]at he
   obtain⟨⟨rfl,rfl⟩,rfl,rfl⟩:=he
   refine⟨by rw[x3,hl,Nat.zero_add],?_⟩
   rw[x4,hzc,hw]
   exact Nat.le_refl _
  simp only[sie]at ht'
  subst ht'
  refine .inr ⟨by rw[x3,hl,Nat.zero_add],?_⟩
  rw[x4,hzc,hw]
  exact Nat.le_refl _
 rcases headD_rel hc hu with ⟨rfl,rfl⟩|⟨r,o,cap,b,rfl,hcap,hE,rfl,htk⟩
 ·by_cases hy0:ys=[]
  ·subst hy0
   have hnil:news=[]:=List.length_eq_zero_iff.1 (by simpa using hnl)
   subst hnil
   exact⟨.slice none 0 0,w,ρ.void nm,run_append_nothing w t tx ty e i ht hi none 0 0 (Nat.le_refl _) v hs,Ext.void,hK.tailVoid hKn hm,.inl ⟨rfl,rfl⟩,fun r o len cap he=>(by cases he),fun r o len cap he _=>(by cases he)⟩
  ·have hpos:0<ys.length:=List.length_pos_iff.2 hy0
   have hrun:=run_append_grow_src (P:=P) w t tx ty e i z ht hi hz none 0 0 [] (run_firstCells_none _ _ _ _ _) v ys.length news hs (by omega) (by simp at hfit ⊢;omega) (growslice_fits (by omega) (by simpa using hfit.2))
   have hge:=grownCap_ge w (0+ys.length) 0 e
   refine grown news _ (0+ys.length) (by rw[Nat.zero_add];exact hnl) hge (by simp) (fun ρ' hx hz'=>?_) (by simpa using hrun)
   rw[List.nil_append]
   exact hEy ρ'.z _ 0 hx.z (fun j v hv=>by rw[Nat.zero_add];exact hz' j v hv)
 ·have hb:=htok b rfl
  by_cases hroom:xs.length+ys.length≤cap
  ·by_cases hys:ys=[]
   ·subst hys
    have hnil:news=[]:=List.length_eq_zero_iff.1 (by simpa using hnl)
    subst hnil
    have hrun:=run_append_nothing (P:=P) w t tx ty e i ht hi (some ⟨r,o,none⟩) xs.length cap hcap v hs
    by_cases hk:ρ b=some (r,o+xs.length*s.width)∧(cap-xs.length)*s.width≤ρ.room b
    rotate_left
    ·have htk:xs.length=cap:=htk.resolve_right hk
     exact⟨_,w,ρ.void nm,hrun,Ext.void,hK.tailVoid hKn hm,.inr ⟨r,o,xs.length,cap,rfl,by simp,hcap,by rw[List.append_nil];exact hE,fun t' ht'=>.inl htk⟩,fun r1 o1 len1 cap1 he=>.inl (by cases he;exact⟨_,rfl⟩),fun r1 o1 len1 cap1 he hp=>absurd (hp b r o xs.length cap rfl rfl) hk⟩
    ·obtain⟨k1,k2⟩:=hk
     obtain⟨-,t3⟩:=hH.tails b _ hb rfl
     obtain⟨cc,tyc,e1,e2⟩:=t3 _ _ k1
     obtain⟨ρ',x1,x2,x3,x4,-⟩:=inplace_rel hH hb k1 hnm hm [] (Nat.zero_le _) e1 e1 rfl (fun i _=>rfl) (fun j v hj=>by simp at hj) rfl rfl rfl rfl (fun _ _=>rfl)
     refine⟨_,w,ρ',hrun,x1,x2,.inr ⟨r,o,xs.length,cap,rfl,by simp,hcap,?_,fun t' ht'=>.inr ?_⟩,fun r1 o1 len1 cap1 he=>.inl (by cases he;exact⟨_,rfl⟩),fun r1 o1 len1 cap1 he _=>by
      cases he
      exact⟨by rw[x3];simp,by rw[x4];simpa using k2⟩⟩
     ·rw[List.append_nil];exact hE.move x1.z (fun j _ v hv=>x1.z _ _ _ hv)
     ·simp only[sie]at ht'
      subst ht'
      exact⟨by rw[x3];simp,by rw[x4];simpa using k2⟩
   ·have hypos:0<ys.length:=List.length_pos_iff.2 hys
    rcases htk with htk|⟨k1,k2⟩
    ·omega
    ·obtain⟨-,t3⟩:=hH.tails b _ hb rfl
     obtain⟨cc,tyc,e1,e2⟩:=t3 _ _ k1
     have hmul:ys.length*s.width≤(cap-xs.length)*s.width:=Nat.mul_le_mul_right _ (by omega)
     have hfitc:o+xs.length*i.size+news.length≤cc.size:=by rw[hnl,←hw];omega
     have hrun:(Builtin.append_ #[t,tx] ty #[.slice (some ⟨r,o,none⟩) xs.length cap,v]).run P w=.ok (.slice (some ⟨r,o,none⟩) (xs.length+ys.length) cap) (w.setRow r (cc.toList.take (o+xs.length*i.size)++news++cc.toList.drop (o+xs.length*i.size+news.length)).toArray):=by
      have hadd:(⟨r,o,none⟩:Addr).add (xs.length*i.size)=⟨r,o+xs.length*i.size,none⟩:=addr_add _ _ _
      have hst:=run_storeCells_at P r (o+xs.length*i.size) tyc news 0 cc w e1 (by simpa using hfitc) hone
      simp only[Nat.add_zero]at hst
      rcases hs.kind with ⟨e',hk⟩|hk<;>simp[Builtin.append_,run_underlying ht,run_underlying hk,sizeOf,typeInfo,hi,hs.len,hroom,hs.cells,hadd,hst]
     have hsz:(cc.toList.take (o+xs.length*i.size)++news++cc.toList.drop (o+xs.length*i.size+news.length)).toArray.size=cc.size:=by
      simp;omega
     obtain⟨ρ',x1,x2,x3,x4,x5⟩:=inplace_rel hH hb k1 hnm hm news (by rw[hnl];omega) e1 (w':=w.setRow r (cc.toList.take (o+xs.length*i.size)++news++cc.toList.drop (o+xs.length*i.size+news.length)).toArray) (setRow_heap _ _ _ _ _ _ e1) hsz (fun q hq=>by
      rw[List.getElem?_toArray,List.append_assoc,List.getElem?_append_left (by simp;rw[←hw];omega),List.getElem?_take_of_lt (by rw[←hw];exact hq)]
      simp) (fun j x hj=>by
      have hj2:j<news.length:=(ges hj).1
      rw[List.getElem?_toArray,List.append_assoc,List.getElem?_append_right (by simp;rw[←hw];omega),List.getElem?_append_left (by simp;rw[←hw];omega)]
      rw[show o+xs.length*s.width+j-(cc.toList.take (o+xs.length*i.size)).length=j by simp;rw[←hw];omega]
      exact hj) rfl rfl rfl (setRow_size _ _ _) (fun k hk=>by
      simp only[World.setRow,Array.getElem?_modify]
      rw[if_neg (Ne.symm hk)])
     refine⟨_,_,ρ',hrun,x1,x2,.inr ⟨r,o,xs.length+ys.length,cap,rfl,by simp,hroom,?_,fun t' ht'=>.inr ?_⟩,fun r1 o1 len1 cap1 he=>.inl (by cases he;exact⟨_,rfl⟩),fun r1 o1 len1 cap1 he _=>by
      cases he
      refine⟨by rw[x3,hnl,Nat.add_mul,Nat.add_assoc],?_⟩
      rw[x4,hnl,←Nat.sub_sub,Nat.sub_mul (cap-xs.length)]
      omega⟩
     ·exact(hE.move x1.z (fun j _ v hv=>x1.z _ _ _ hv)).cat (hEy ρ'.z _ _ x1.z x5)
     ·simp only[sie]at ht'
      subst ht'
      refine⟨by rw[x3,hnl,Nat.add_mul,Nat.add_assoc],?_⟩
      rw[x4,hnl,←Nat.sub_sub,Nat.sub_mul (cap-xs.length)]
      omega
  ·have hold:=run_firstCells_some (P:=P) w.drew i.size xs.length ⟨r,o,none⟩ xs.length cap (rowL ρ r o (xs.length*s.width)) (by rw[rowL_length,hw]) (fun j x hj=>by
    obtain⟨-,e1,-⟩:=rowL_get hE h0 hj
    rw[addr_add]
    exact zok_cell hH.zok e1)
   have hrun:=run_append_grow_src (P:=P) w t tx ty e i z ht hi hz (some ⟨r,o,none⟩) xs.length cap (rowL ρ r o (xs.length*s.width)) hold v ys.length news hs (by omega) (by omega) (growslice_fits (by omega) hfit.2)
   have hge:=grownCap_ge w (xs.length+ys.length) cap e
   refine grown (rowL ρ r o (xs.length*s.width)++news) _ (xs.length+ys.length) (by rw[List.length_append,rowL_length,hnl,Nat.add_mul]) hge rfl (fun ρ' hx hz'=>?_) hrun
   refine ERel.cat (hE.move hx.z (fun j hj v hv=>?_)) (hEy ρ'.z _ _ hx.z (fun j v hj=>?_))
   ·rw[Nat.zero_add]
    refine hz' j v ?_
    rw[List.getElem?_append_left (by rw[rowL_length];exact hj)]
    exact rowL_at hj hv
   ·rw[Nat.zero_add]
    refine hz' _ v ?_
    rw[List.getElem?_append_right (by rw[rowL_length];omega),rowL_length,show xs.length*s.width+j-xs.length*s.width=j by omega]
    exact hj
end
end Go.Eng
