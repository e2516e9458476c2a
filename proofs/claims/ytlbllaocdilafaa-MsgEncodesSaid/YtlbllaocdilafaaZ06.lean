import Derived.Test.YtlbllaocdilafaaZ03
import Derived.Laws.MakeOwn
set_option linter.unusedSimpArgs false
set_option linter.unusedVariables false
namespace Go.Eng
open Go
section
variable {P:Program}{W0:World}{m0:Nat}{ρ:Ren}
theorem fix_rel {h:Heap}{w:World}(hH:HRel W0 m0 ρ h w) {b r o:Nat}{g:G}(hg:g.cells=true) (hb:h[b]? = some (some ⟨false,g⟩)) (hp:ρ b=some (r,o)){nm:Nat}(hnm:h[nm]? = some none) (hm:m0≤nm) (vs:List Value) (rm:Nat)
 {c:Array Value}{ty:TypeId}(hw:w.heap[r]? = some (.cells c ty (0,0))) (hvs:∀(j:Nat) v,vs[j]? = some v→c[o+j]? = some v) (hfit:o+vs.length+rm≤c.size):
 ∃ρ',Ext ρ ρ'∧HRel W0 m0 ρ' ((h.set b (some ⟨true,.dead⟩)).set nm (some ⟨false,.tail⟩)) w∧ρ' nm=some (r,o+vs.length)∧ρ'.room nm=rm∧∀(j:Nat) v,vs[j]? = some v→ρ'.z r (o+j)=some v:=by
 have hltb:b<h.length:=(ges hb).1
 have hlt:nm<h.length:=(ges hnm).1
 have hfree:=hH.free hnm
 have hbn:b≠nm:=fun e=>by subst e;rw[hb]at hnm;cases hnm
 have hr0:W0.heap.size≤r∨Owned m0 ρ h r:=by
  rcases Nat.lt_or_ge b m0 with h1|h1
  ·exact .inr ⟨b,_,o,h1,hb,.inl rfl,hp⟩
  ·exact hH.new b r o h1 hp
 have hown1:Owned m0 ρ h r→Owned m0 ρ (h.set b (some ⟨true,.dead⟩)) r:=by
  rintro⟨n,x,o1,g1,g2,g3,g4⟩
  by_cases hn:b=n
  ·exact⟨n,⟨true,.dead⟩,o1,g1,by rw[set_get hltb,if_pos hn],.inr rfl,g4⟩
  ·exact⟨n,x,o1,g1,by rw[set_get hltb,if_neg hn];exact g2,g3,g4⟩
 have hz0:∀i,ρ.z r i=none:=fun i=>hH.zsep b _ r o i hb rfl hp (fun e=>by simp only at e;subst e;cases hg)
 have hothers:∀n o' x,n≠b→h[n]? = some (some x)→x.g≠.dead→ρ n=some (r,o')→False:=fun n o' x hn hx hd hpn=>hH.sep b n r o o' _ x (Ne.symm hn) hb rfl hx hd hp hpn
 have k2:=hH.dying hb
 let zn:Nat→Nat→Option Value:=fun r' i=>if r'=r∧o≤i then vs[i-o]? else none
 have hset:∀n (x:Blk),(h.set b (some ⟨true,.dead⟩))[n]? = some (some x)→(n=b∧x=⟨true,.dead⟩)∨(n≠b∧h[n]? = some (some x)):=fun n x hx=>by
  rw[set_get hltb]at hx
  by_cases hn:b=n
  ·rw[if_pos hn]at hx
   simp only[sie]at hx
   exact .inl ⟨hn.symm,hx.symm⟩
  ·rw[if_neg hn]at hx
   exact .inr ⟨Ne.symm hn,hx⟩
 have hzn:∀r' i v,zn r' i=some v→r'=r∧o≤i∧vs[i-o]? = some v:=fun r' i v hv=>by
  have hv:(if r'=r∧o≤i then vs[i-o]? else none)=some v:=hv
  by_cases hc:r'=r∧o≤i
  ·rw[if_pos hc]at hv;exact⟨hc.1,hc.2,hv⟩
  ·rw[if_neg hc]at hv;cases hv
 have k3:=k2.freeze (zn:=zn) (fun r' i v hv=>by
  obtain⟨rfl,hi,hv⟩:=hzn r' i v hv
  refine⟨c,ty,_,hw,?_⟩
  have:=hvs (i-o) v hv
  rw[show o+(i-o)=i by omega]at this
  exact this) (fun r' i v hv=>by
  obtain⟨rfl,-,-⟩:=hzn r' i v hv
  exact hr0.imp id hown1) (fun n x r' o' i hx hro hpn hi=>by
  cases e:zn r' i with
  |none=>rfl
  |some v=>
   exfalso
   obtain⟨rfl,-,-⟩:=hzn r' i v e
   rcases hset n x hx with ⟨-,rfl⟩|⟨hn,hx⟩
   ·cases hro
   ·refine hothers n o' x hn hx (fun hd=>?_) hpn
    rw[hH.deadRo n x hx hd]at hro;cases hro)
 have hnm2:(h.set b (some ⟨true,.dead⟩))[nm]? = some none:=by rw[set_get hltb,if_neg hbn];exact hnm
 have k5:=k3.tailAt (nm:=nm) hnm2 hm (r:=r) (o:=o+vs.length) (rm:=rm) (hr0.imp id hown1) hw hfit (fun n o' x hx hd hpn=>by
  rcases hset n x hx with ⟨-,rfl⟩|⟨hn,hx⟩
  ·exact hd rfl
  ·exact hothers n o' x hn hx hd hpn) (fun i hi=>by
  cases e:(ρ.freeze zn).z r i with
  |none=>rfl
  |some v=>
   rcases freeze_get e with e|⟨-,e⟩
   ·rw[hz0 i]at e;cases e
   ·obtain⟨-,hi2,e⟩:=hzn r i v e
    rw[List.getElem?_eq_none_iff.2 (by omega)]at e;cases e)
 refine⟨_,Ext.freeze.trans (Ext.name hfree),k5,by show(if nm=nm then _ else _)=_;rw[if_pos rfl],by show(if nm=nm then _ else _)=_;rw[if_pos rfl],fun j v hj=>?_⟩
 refine freeze_new (hz0 _) ?_
 show(if r=r∧o≤o+j then vs[o+j-o]? else none)=_
 rw[if_pos ⟨rfl,by omega⟩,show o+j-o=j by omega];exact hj
def intsL (k:IntKind) (f:Nat→Int) (n:Nat):List Value:=(List.range n).map fun j=>.int k (f j)
theorem intsL_length (k:IntKind) (f:Nat→Int) (n:Nat):(intsL k f n).length=n:=by simp[intsL]
theorem intsL_get {k:IntKind}{f:Nat→Int}{n j:Nat}{v:Value}(h:(intsL k f n)[j]? = some v):j<n∧v=.int k (f j):=by
 have hj:j<n:=by
  have:=(ges h).1
  rw[intsL_length]at this;exact this
 unfold intsL at h
 rw[List.getElem?_map,List.getElem?_range hj]at h
 simp only[Option.map_some,sie]at h
 exact⟨hj,h.symm⟩
theorem intsL_at (k:IntKind) (f:Nat→Int) {n j:Nat}(h:j<n):(intsL k f n)[j]? = some (.int k (f j)):=by
 unfold intsL
 rw[List.getElem?_map,List.getElem?_range h];rfl
theorem dOf_rel {z:Nat→Nat→Option Value}{k:IntKind}{f:Nat→Int}{n r o:Nat}(h:∀(j:Nat) v,(intsL k f n)[j]? = some v→z r (o+j)=some v):ERel z (.int k) (arR.dOf f n) r o:=by
 intro i x hx
 have hx:((List.range n).map fun j=>D.int (f j))[i]? = some x:=hx
 rw[List.getElem?_map,oms]at hx
 obtain⟨y,hy,rfl⟩:=hx
 have hi:i<n:=by
  have:=(ges hy).1
  simpa using this
 rw[List.getElem?_range hi]at hy
 simp only[sie]at hy
 subst hy
 exact⟨_,rfl,by simpa [Sh.width]using h i _ (intsL_at k f hi)⟩
theorem dOf_len (f:Nat→Int) (n:Nat):(arR.dOf f n).length=n:=by
 show((List.range n).map _).length=n
 simp
theorem froze_sound {h:Heap}{w:World}(hH:HRel W0 m0 ρ h w){b:Nat}{k:IntKind}{len cap M:N}{f:Nat→Int}{ys:List D}{u v:Value}(hu:CRel ρ (.sl b (.lit 0) len cap) u) (hb:h[b]? = some (some ⟨false,.ints k M f⟩))
 (g1:len.val≤cap.val) (g2:cap.val≤M.val) (g3:1≤M.val)
 {t tx e ty:TypeId}{i:TypeInfo}{z:Value}(ht:P.underlying t=some (.slice e)) (hi:P.info? e=some i) (hz:i.zero=some z) (hw1:i.size=1) (hzs:z.cells.size=i.size)
 (hfit:len.val+ys.length≤maxLen∧(len.val+ys.length)*i.bytes≤140737488355328){nm:Nat}(hnm:h[nm]? = some none) (hm:m0≤nm)
 {news:List Value}(hs:Src P i.size tx v ys.length news w) (hone:∀x∈news,x.oneCell'=true) (hEy:∀(z':Nat→Nat→Option Value) (r o:Nat),(∀r i v,ρ.z r i=some v→z' r i=some v)→(∀(j:Nat) v,news[j]? = some v→z' r (o+j)=some v)→ERel z' (.int k) ys r o):
 ∃u' w' ρ',(Builtin.append_ #[t,tx] ty #[u,v]).run P w=.ok u' w'∧Ext ρ ρ'∧HRel W0 m0 ρ' ((h.set b (some ⟨true,.dead⟩)).set nm (some ⟨false,.tail⟩)) w'∧CRel ρ' (.dat (.int k) (arR.dOf f len.val++ys) (some nm)) u':=by
 have hmax:maxLen=9223372036854775807:=by decide
 have hnl:news.length=ys.length:=by rw[hs.newsLen,hw1,Nat.mul_one]
 obtain⟨r,o,hρ,rfl⟩:=hu
 simp only[N.val_lit,Nat.add_zero]
 obtain⟨r',o',hρ',c,ty',fz,hw,hfz,hc⟩:=hH.blk b _ hb rfl
 rw[hρ]at hρ'
 simp only[sie,po]at hρ'
 obtain⟨rfl,rfl⟩:=hρ'
 have hfz:=hfz rfl
 subst hfz
 have hsz:o+M.val≤c.size:=block_size (b:=⟨false,.ints k M f⟩) hc g3
 have hold:∀j,j<len.val→c[o+j]? = some (.int k (f j)):=by
  intro j hj
  obtain⟨v,e1,e2⟩:=hc j (.int k (f j)) (by simp only[G.at];rw[if_pos (by omega)])
  rw[e1,show v=.int k (f j)from e2]
 have hltb:b<h.length:=(ges hb).1
 have hbn:b≠nm:=fun e=>by subst e;rw[hb]at hnm;cases hnm
 by_cases hroom:len.val+ys.length≤cap.val
 ·have inplace:∀(w':World) (c':Array Value),(Builtin.append_ #[t,tx] ty #[.slice (some ⟨r,o,none⟩) len.val cap.val,v]).run P w=.ok (.slice (some ⟨r,o,none⟩) (len.val+ys.length) cap.val) w' →
   w'.os=w.os→w'.tape=w.tape→w'.output=w.output→w'.heap.size=w.heap.size→(∀k,k≠r→w'.heap[k]? = w.heap[k]?)→w'.heap[r]? = some (.cells c' ty' (0,0))→c'.size=c.size→(∀j,j<len.val→c'[o+j]? = some (.int k (f j)))→(∀(j:Nat) v,news[j]? = some v→c'[o+len.val+j]? = some v) →
   ∃u' w' ρ',(Builtin.append_ #[t,tx] ty #[.slice (some ⟨r,o,none⟩) len.val cap.val,v]).run P w=.ok u' w'∧Ext ρ ρ'∧HRel W0 m0 ρ' ((h.set b (some ⟨true,.dead⟩)).set nm (some ⟨false,.tail⟩)) w'∧CRel ρ' (.dat (.int k) (arR.dOf f len.val++ys) (some nm)) u':=by
   intro w' c' hrun e1 e2 e3 e4 e5 e6 e7 e8 e9
   have k1:=hH.write (blk':=⟨false,.lst []⟩) hb rfl rfl rfl rfl hρ e1 e2 e3 e4 e5 (fun c1 ty1 fz1 h1=>⟨c',(0,0),by rw[hw]at h1;cases h1;exact e6,by rw[hw]at h1;cases h1;exact e7⟩) ⟨c',ty',(0,0),e6,fun _=>rfl,fun j x hx=>by simp[G.at]at hx⟩
   obtain⟨ρ',x1,x2,x3,x4,x5⟩:=fix_rel k1 (b:=b) (g:=.lst []) (nm:=nm) rfl (by rw[set_get hltb,if_pos rfl]) hρ (by rw[set_get hltb,if_neg hbn];exact hnm) hm (intsL k f len.val++news) (cap.val-(len.val+ys.length)) e6 (fun j v hj=>by
    by_cases hlt:j<len.val
    ·rw[List.getElem?_append_left (by rw[intsL_length];exact hlt)]at hj
     obtain⟨-,rfl⟩:=intsL_get hj
     exact e8 j hlt
    ·rw[List.getElem?_append_right (by rw[intsL_length];omega),intsL_length]at hj
     have:=e9 _ v hj
     rw[show o+len.val+(j-len.val)=o+j by omega]at this
     exact this) (by rw[List.length_append,intsL_length,hnl,e7];omega)
   rw[List.set_set]at x2
   have hlen:(intsL k f len.val++news).length=len.val+ys.length:=by rw[List.length_append,intsL_length,hnl]
   refine⟨_,w',ρ',hrun,x1,x2,.inr ⟨r,o,len.val+ys.length,cap.val,rfl,by rw[List.length_append,dOf_len],hroom,?_,fun t' ht'=>.inr ?_⟩⟩
   ·refine ERel.cat (dOf_rel fun j v hj=>x5 j v ?_) (hEy ρ'.z _ _ x1.z fun j v hj=>?_)
    ·rw[List.getElem?_append_left (ges hj).1];exact hj
    ·rw[dOf_len]
     have:=x5 (len.val+j) v (by rw[List.getElem?_append_right (by rw[intsL_length];omega),intsL_length,Nat.add_sub_cancel_left];exact hj)
     rw[show o+len.val*(Sh.int k).width+j=o+(len.val+j) by simp[Sh.width];omega]
     exact this
   ·simp only[sie]at ht'
    subst ht'
    refine⟨by rw[x3,hlen];simp[Sh.width],?_⟩
    rw[x4];simp[Sh.width]
  by_cases hy0:ys=[]
  ·subst hy0
   have hnil:news=[]:=List.length_eq_zero_iff.1 (by simpa using hnl)
   subst hnil
   exact inplace w c (by simpa using run_append_nothing (P:=P) w t tx ty e i ht hi (some ⟨r,o,none⟩) len.val cap.val g1 v hs) rfl rfl rfl rfl (fun _ _=>rfl) hw rfl hold (fun j v hj=>by simp at hj)
  ·have hfitc:o+len.val+news.length≤c.size:=by rw[hnl];omega
   have hrun:(Builtin.append_ #[t,tx] ty #[.slice (some ⟨r,o,none⟩) len.val cap.val,v]).run P w=.ok (.slice (some ⟨r,o,none⟩) (len.val+ys.length) cap.val) (w.setRow r (c.toList.take (o+len.val)++news++c.toList.drop (o+len.val+news.length)).toArray):=by
    have hadd:(⟨r,o,none⟩:Addr).add (len.val*i.size)=⟨r,o+len.val,none⟩:=by rw[addr_add,hw1,Nat.mul_one]
    have hst:=run_storeCells_at P r (o+len.val) ty' news 0 c w hw (by simpa using hfitc) hone
    simp only[Nat.add_zero]at hst
    rcases hs.kind with ⟨e',hk⟩|hk<;>simp[Builtin.append_,Go.run_underlying ht,Go.run_underlying hk,sizeOf,typeInfo,hi,hs.len,hroom,hs.cells,hadd,hst]
   refine inplace _ (c.toList.take (o+len.val)++news++c.toList.drop (o+len.val+news.length)).toArray hrun rfl rfl rfl (setRow_size _ _ _) (fun k hk=>setRow_other _ _ _ _ hk) (setRow_heap _ _ _ _ _ _ hw) (by simp;omega) (fun j hj=>?_) (fun j v hj=>?_)
   ·rw[List.getElem?_toArray,List.append_assoc,List.getElem?_append_left (by simp;omega),List.getElem?_take_of_lt (by omega)]
    rw[Array.getElem?_toList]
    exact hold j hj
   ·have hj2:j<news.length:=(ges hj).1
    rw[List.getElem?_toArray,List.append_assoc,List.getElem?_append_right (by simp;omega),List.getElem?_append_left (by simp;omega)]
    rw[show o+len.val+j-(c.toList.take (o+len.val)).length=j by simp;omega]
    exact hj
 ·have hK:=hH.dying hb
  have hKn:(h.set b (some ⟨true,.dead⟩))[nm]? = some none:=by rw[set_get hltb,if_neg hbn];exact hnm
  have hfirst:=run_firstCells_some (P:=P) w.drew i.size len.val ⟨r,o,none⟩ len.val cap.val (intsL k f len.val) (by rw[intsL_length,hw1,Nat.mul_one]) (fun j x hj=>by
   obtain⟨hj',rfl⟩:=intsL_get hj
   rw[addr_add]
   show w.cell? _=_
   rw[cell_of hw]
   exact hold j hj')
  have hrun:=run_append_grow_src (P:=P) w t tx ty e i z ht hi hz (some ⟨r,o,none⟩) len.val cap.val (intsL k f len.val) hfirst v ys.length news hs (by omega) (by omega) (growslice_fits (by omega) hfit.2)
  have hge:=grownCap_ge w (len.val+ys.length) cap.val e
  obtain⟨ρ',x1,x2,x3,x4,x5⟩:=realloc_rel hK hKn hm (intsL k f len.val++news) (Builtin.zeroCells z.cells (grownCap w (len.val+ys.length) cap.val e-(len.val+ys.length))) e (w.drawn+1)
  have hlen:(intsL k f len.val++news).length=len.val+ys.length:=by rw[List.length_append,intsL_length,hnl]
  refine⟨_,_,ρ',hrun,x1,x2,.inr ⟨w.heap.size,0,len.val+ys.length,_,rfl,by rw[List.length_append,dOf_len],hge,?_,fun t' ht'=>.inr ?_⟩⟩
  ·refine ERel.cat (dOf_rel fun j v hj=>?_) (hEy ρ'.z _ _ x1.z fun j v hj=>?_)
   ·rw[Nat.zero_add]
    exact x5 j v (by rw[List.getElem?_append_left (ges hj).1];exact hj)
   ·rw[dOf_len,Nat.zero_add]
    have:=x5 (len.val+j) v (by rw[List.getElem?_append_right (by rw[intsL_length];omega),intsL_length,Nat.add_sub_cancel_left];exact hj)
    rw[show len.val*(Sh.int k).width+j=len.val+j by simp[Sh.width]]
    exact this
  ·simp only[sie]at ht'
   subst ht'
   refine⟨by rw[x3,hlen];simp[Sh.width],?_⟩
   rw[x4,size_zeroCells,hzs,hw1];simp[Sh.width]
theorem text_sound {h h':Heap}{w:World}(hH:HRel W0 m0 ρ h w) {src dst e:TypeId}(hT0:P.underlying src=some (.slice e)) (he:P.underlying e=some (.int .u8)) (hU:P.underlying dst=some .string){b:Nat}{off len cap:N}{u:Value}(hu:CRel ρ (.sl b off len cap) u)
 {al:Nat→Bool}{nm:Nat}{v:V}{rs:List Prop}(hf:perform arR al nm h (.text b off len)=some (v,h',rs)) (hr:∀q∈rs,q):h'=h∧∃s,(convert src dst u).run P w=.ok (.string s) w∧v=.a (.one (.str s)):=by
 obtain⟨r,o,hρ,rfl⟩:=hu
 have key:∀(f:Nat→Int) (blk:Blk),h[b]? = some (some blk)→blk.g.cells=true→(∀j,j<len.val→blk.g.at (off.val+j)=some (.int .u8 (f j))) →
  (convert src dst (.slice (some ⟨r,o+off.val,none⟩) len.val cap.val)).run P w=.ok (.string (arR.txt f len.val)) w:=by
  intro f blk hb hcl hat
  obtain⟨r',o',hρ',c,ty',fz,hw,-,hc⟩:=hH.blk b _ hb hcl
  rw[hρ]at hρ'
  simp only[sie,po]at hρ'
  obtain⟨rfl,rfl⟩:=hρ'
  have hget:∀j,j<len.val→c[o+off.val+j]? = some (.int .u8 (f j)):=by
   intro j hj
   obtain⟨v,e1,e2⟩:=hc (off.val+j) (.int .u8 (f j)) (hat j hj)
   rw[Nat.add_assoc,e1,show v=.int .u8 (f j)from e2]
  have hld:(loadCells ⟨r,o+off.val,none⟩ len.val).run P w=.ok ((((List.range len.val).map fun j=>f j).map (Value.int .u8)).toArray) w:=by
   have:=run_loadCells_list (P:=P) w ⟨r,o+off.val,none⟩ (((List.range len.val).map fun j=>f j).map (Value.int .u8)) (fun j v hv=>by
    rw[List.map_map,List.getElem?_map,oms]at hv
    obtain⟨y,h1,rfl⟩:=hv
    have hj:j<len.val:=by
     have:=(ges h1).1
     simpa using this
    rw[List.getElem?_range hj]at h1
    simp only[sie]at h1
    subst h1
    rw[addr_add,cell_of hw]
    exact hget j hj)
   simpa using this
  have hrun:=run_bytesToString (P:=P) w ⟨r,o+off.val,none⟩ len.val cap.val ((List.range len.val).map fun j=>f j) hld
  have hstr:((List.range len.val).map fun j=>f j).foldl (fun r n=>r.push (UInt8.ofNat n.toNat)) ByteArray.empty=arR.txt f len.val:=by
   have:=foldl_push0 ((List.range len.val).map fun j=>f j) []
   rw[show ByteArray.empty=ByteArray.mk ([]:List UInt8).toArray from rfl,this]
   simp[arR]
  rw[hstr]at hrun
  have hconv:=run_convert_bytes_string (P:=P) w src dst e (some ⟨r,o+off.val,none⟩) len.val cap.val hT0 he hU
  rw[hrun]at hconv
  exact hconv
 simp only[perform]at hf
 split at hf
 ·split at hf
  ·rename_i ro M f hb
   split at hf
   ·rename_i ps hps
    simp only[sie,po]at hf
    obtain⟨rfl,rfl,rfl⟩:=hf
    have hle:off.val+len.val≤M.val:=by
     unfold le3 at hps
     split at hps
     ·split at hps
      ·assumption
      ·cases hps
     ·simp only[sie]at hps
      subst hps
      exact hr _ (List.mem_singleton.2 rfl)
    refine⟨rfl,_,key (shfN arR f off) _ hb rfl (fun j hj=>?_),rfl⟩
    simp only[G.at]
    rw[if_pos (by omega),shfN_eq]
    rfl
   ·cases hf
  ·rename_i ro qs hb
   split at hf
   ·rename_i n
    split at hf
    ·rename_i m f ps hcut
     split at hf
     ·rename_i hmn
      have hmn:=Nat.eq_of_beq_eq_true hmn
      subst hmn
      simp only[sie,po]at hf
      obtain⟨rfl,rfl,rfl⟩:=hf
      obtain⟨-,-,e3⟩:=cut_at hcut hr
      refine⟨rfl,_,key f _ hb rfl (fun j hj=>(e3 j (.int .u8 (f j)) ?_).2),rfl⟩
      simp only[G.at,N.val_lit]
      exact if_pos hj
     ·cases hf
    ·cases hf
   ·cases hf
  ·cases hf
 ·cases hf
theorem bytes_cells (s:ByteArray) (k:Nat) (hk:k≤s.size):List.take k (List.map (fun b=>Value.int .u8 b.toNat) s.data.toList)=(List.range k).map fun j=>.int .u8 (((s[j]?).getD 0).toNat:Nat):=by
 have hsz:s.data.toList.length=s.size:=by rw[Array.length_toList];rfl
 apply List.ext_getElem
 ·simp[hsz];omega
 ·intro i h1 h2
  have hi:i<k:=by simpa using h2
  have hs:i<s.size:=by omega
  simp only[List.getElem_take,List.getElem_map,List.getElem_range]
  rw[ByteArray.getElem?_lt' s _ hs]
  rfl
theorem ints_rel {f:Nat→Int}{m:Nat}:GRel ρ (.ints .u8 (.lit m) f) ((List.range m).map fun j=>Value.int .u8 (f j)).toArray:=by
 refine⟨by simp[G.len],fun j x hx=>?_⟩
 replace hx:(if j<m then some (C.int .u8 (f j))else none)=some x:=hx
 by_cases hj:j<m
 ·rw[if_pos hj]at hx
  cases hx
  exact⟨.int .u8 (f j),by simp[hj],rfl⟩
 ·rw[if_neg hj]at hx;cases hx
theorem copy_sound {h h':Heap}{w:World}(hH:HRel W0 m0 ρ h w) {dT sT ty e:TypeId}(hT:P.underlying dT=some (.slice e)){i:TypeInfo}(hi:P.info? e=some i) (h1i:i.size=1){b:Nat}{off cap:N}{n:Nat}{s:ByteArray}{u:Value}(hu:CRel ρ (.sl b off (.lit n) cap) u)
 {al:Nat→Bool}{nm:Nat}{v:V}{rs:List Prop}(hf:perform arR al nm h (.copy b off n s)=some (v,h',rs)) (hr:∀q∈rs,q):
 ∃u' w',(Builtin.copy_ #[dT,sT] ty #[u,.string s]).run P w=.ok u' w'∧HRel W0 m0 ρ h' w'∧VRel ρ v u':=by
 obtain⟨r,o,hρ,rfl⟩:=hu
 simp only[perform]at hf
 split at hf
 ·split at hf
  ·rename_i blk hb
   split at hf
   ·cases hf
   ·rename_i hro
    have hro:blk.ro=false:=by simpa using hro
    split at hf
    ·rename_i m f ps hcut
     split at hf
     ·rename_i hmn
      have hmn:=Nat.eq_of_beq_eq_true hmn
      subst hmn
      split at hf
      ·rename_i g qs hput
       simp only[sie,po]at hf
       obtain⟨rfl,rfl,rfl⟩:=hf
       have hcl:blk.g.cells=true:=by
        cases hg:blk.g with
        |tail=>rw[hg]at hcut;simp[G.cut]at hcut
        |dead=>rw[hg]at hcut;simp[G.cut]at hcut
        |_=>rfl
       obtain⟨r',o',hρ',c,ty',fz,hw,hfz,hc⟩:=hH.blk b _ hb hcl
       rw[hρ]at hρ'
       simp only[sie,po]at hρ'
       obtain⟨rfl,rfl⟩:=hρ'
       have hfz:=hfz hro
       subst hfz
       obtain⟨-,e2,e3⟩:=cut_at hcut (fun q hq=>hr q (by simp[hq]))
       have hold:∀j,j<m→c[o+off.val+j]? = some (.int .u8 (f j)):=by
        intro j hj
        obtain⟨v,x1,x2⟩:=hc (off.val+j) (.int .u8 (f j)) (e3 j (.int .u8 (f j)) (by simp only[G.at,N.val_lit];exact if_pos hj)).2
        rw[Nat.add_assoc,x1,show v=.int .u8 (f j)from x2]
       have hfit:m=0∨o+off.val+m≤c.size:=by
        by_cases hm:m=0
        ·exact .inl hm
        ·have:=(Array.getElem?_eq_some_iff.1 (hold (m-1) (by omega))).1
         exact .inr (by omega)
       let k:=Nat.min s.size m
       have hk1:k≤s.size:=Nat.min_le_left _ _
       have hk2:k≤m:=Nat.min_le_right _ _
       let cs:List Value:=(List.range k).map fun j=>.int .u8 (((s[j]?).getD 0).toNat:Nat)
       have hcl2:cs.length=k:=by simp[cs]
       have hone:∀v∈cs,v.oneCell'=true:=by
        intro v hv
        simp only[cs,List.mem_map]at hv
        obtain⟨j,-,rfl⟩:=hv
        rfl
       let c':Array Value:=(c.toList.take (o+off.val)++cs++c.toList.drop (o+off.val+cs.length)).toArray
       have hgo:∀w2,(storeCells ⟨r,o+off.val,none⟩ cs).run P w=.ok () w2→(Builtin.copy_ #[dT,sT] ty #[.slice (some ⟨r,o+off.val,none⟩) m cap.val,.string s]).run P w=.ok (goInt k) w2:=by
        intro w2 hw2
        have:=bytes_cells s k hk1
        simp[Builtin.copy_,Go.run_underlying hT,Builtin.lenOf,Builtin.firstCells,sizeOf,typeInfo,hi,h1i,srb,srp,cs]
        rw[show Nat.min s.size m=k from rfl]
        rw[this,show(List.map (fun j=>Value.int .u8 (((s[j]?).getD 0).toNat:Nat)) (List.range k))=cs from rfl,hw2]
        rfl
       have hv:VRel ρ (.a (.one (.int .i64 (arR.mn (m:Nat) (arR.sz s))))) (goInt k):=by
        show goInt k=.int .i64 (if(s.size:Int)<m then(s.size:Int)else m)
        have:(k:Int)=if(s.size:Int)<m then(s.size:Int)else m:=by
         show((Nat.min s.size m:Nat):Int)=_
         rw[show Nat.min s.size m=min s.size m from rfl]
         split<;>omega
        rw[←this]
        rfl
       by_cases hk0:k=0
       ·have hcs:cs=[]:=List.length_eq_zero_iff.1 (by rw[hcl2,hk0])
        have hupd:Upd c c (o+off.val) ((List.range m).map fun j=>Value.int .u8 (arR.ovr f s j)).toArray:=by
         refine⟨fun j hj=>?_,fun j _=>rfl⟩
         have hj:j<m:=by simpa using hj
         rw[hold j hj]
         have:¬j<s.size:=by
          have:k=min s.size m:=rfl
          omega
         simp[arR,hj,this]
        refine⟨_,w,?_,?_,hv⟩
        ·exact hgo _ (by rw[hcs];rfl)
        ·exact hH.write hb hro hcl hro (put_cells hput) hρ rfl rfl rfl rfl (fun _ _=>rfl) (fun c ty fz h=>⟨c,fz,h,rfl⟩) ⟨c,ty',(0,0),hw,fun _=>rfl,(put_holds hput (fun q hq=>hr q (by simp[hq])) hc ints_rel hupd).2⟩
       ·have hfit:o+off.val+m≤c.size:=by
         rcases hfit with h0|h0
         ·omega
         ·exact h0
        have hst:=run_storeCells_at P r (o+off.val) ty' cs 0 c w hw (by rw[hcl2];omega) hone
        simp only[Nat.add_zero]at hst
        have hupd:Upd c c' (o+off.val) ((List.range m).map fun j=>Value.int .u8 (arR.ovr f s j)).toArray:=by
         refine⟨fun j hj=>?_,fun j hj=>?_⟩
         ·have hj:j<m:=by simpa using hj
          simp only[c',List.getElem?_toArray]
          by_cases hjk:j<k
          ·have hjs:j<s.size:=by omega
           rw[List.append_assoc,List.getElem?_append_right (by simp;omega),List.getElem?_append_left (by simp[hcl2];omega)]
           simp only[List.length_take,Array.length_toList]
           rw[show o+off.val+j-min (o+off.val) c.size=j by omega]
           simp[cs,hjk,hj,arR,hjs]
          ·have hjs:¬j<s.size:=by
            have:k=min s.size m:=rfl
            omega
           rw[List.getElem?_append_right (by simp[hcl2];omega)]
           simp only[List.length_append,List.length_take,Array.length_toList,hcl2,List.getElem?_drop]
           rw[show o+off.val+k+(o+off.val+j-(min (o+off.val) c.size+k))=o+off.val+j by omega,Array.getElem?_toList,hold j hj]
           simp[hj,arR,hjs]
         ·have hj:j<o+off.val∨o+off.val+m≤j:=by simpa using hj
          simp only[c',List.getElem?_toArray]
          rcases hj with hj|hj
          ·rw[List.append_assoc,List.getElem?_append_left (by simp;omega),List.getElem?_take_of_lt hj,Array.getElem?_toList]
          ·rw[List.getElem?_append_right (by simp[hcl2];omega)]
           simp only[List.length_append,List.length_take,Array.length_toList,hcl2,List.getElem?_drop]
           rw[show o+off.val+k+(j-(min (o+off.val) c.size+k))=j by omega,Array.getElem?_toList]
        have hc's:c'.size=c.size:=by simp[c',hcl2];omega
        refine⟨_,w.setRow r c',?_,?_,hv⟩
        ·exact hgo _ hst
        ·exact hH.write hb hro hcl hro (put_cells hput) hρ rfl rfl rfl (setRow_size _ _ _) (fun k hk=>setRow_other _ _ _ _ hk) (fun c1 ty1 fz1 h1=>⟨_,fz1,setRow_heap _ _ _ _ _ _ h1,by rw[hw]at h1;cases h1;exact hc's⟩) ⟨c',ty',(0,0),setRow_heap _ _ _ _ _ _ hw,fun _=>rfl,(put_holds hput (fun q hq=>hr q (by simp[hq])) hc ints_rel hupd).2⟩
      ·cases hf
     ·cases hf
    ·cases hf
  ·cases hf
 ·cases hf
theorem make_sound {ti:TypeId→TI}(hti:TIok P ti){h:Heap}{w:World}(hH:HRel W0 m0 ρ h w){ev:Operand→V}{eu:Operand→Value}(hev:∀x,VRel ρ (ev x) (eu x)){t:TypeId}{l c:Operand}{g:G}{s:Option (N×N)}{qs:List Prop}(hp:planMake arR ti ev t l c=some (.alloc g s,qs)) (hq:∀q∈qs,q)
 {nm:Nat}(hnm:h[nm]? = some none) (hm:m0≤nm):∃u' w' ρ',(Instr.makeSlice t (eu l) (eu c)).run P w=.ok u' w'∧Ext ρ ρ'∧HRel W0 m0 ρ' (h.set nm (some ⟨false,g⟩)) w'∧CRel ρ' (allocC nm s) u':=by
 unfold planMake at hp
 split at hp
 ·cases hp
 ·rename_i hk
  obtain⟨d,hd,htd,-⟩:=(hti t (by simpa using hk)).und
  split at hp
  ·rename_i e hte
   rw[hte]at htd;cases d<;>simp only[TDRel]at htd
   subst htd
   split at hp
   ·cases hp
   ·rename_i hke
    obtain⟨i,hi,his,hib,hzero⟩:=(hti _ (by simpa using hke)).info
    split at hp
    ·rename_i k cl cc hz hcl hcc
     split at hp
     ·rename_i hsz
      have hsz:=Nat.eq_of_beq_eq_true hsz
      split at hp
      ·rename_i k1 n lt k2 m mt hn hmm
       simp only[sie,po,Plan.alloc.injEq]at hp
       obtain⟨⟨rfl,rfl⟩,rfl⟩:=hp
       obtain⟨zv,hzv,hzr⟩:=hzero _ hz
       have hzr:zv=.int k 0:=hzr
       subst hzr
       have hok:0≤n∧n≤m∧((ti _).bytes:Int)*m≤281474976710656∧m≤9223372036854775807:=hq _ (List.mem_singleton.2 rfl)
       have e1:=(Cof_rel (hev l) hcl).of_num hn
       have e2:=(Cof_rel (hev c) hcc).of_num hmm
       have hrun:=run_make (P:=P) w t _ i _ hd hi hzv k1 k2 n m hok.1 hok.2.1 (by rw[hib];exact hok.2.2.1) hok.2.2.2
       rw[e1,e2,hrun]
       have hG:GRel ρ (.ints k (intN arR m mt) (fun _=>0)) (madeCells (Value.int k 0).cells (m.toNat*i.size)):=by
        refine⟨by rw[size_madeCells,his,hsz,Nat.mul_one];exact(intN_val m mt).symm,fun j y hy=>?_⟩
        simp only[G.at]at hy
        split at hy
        ·rename_i hj
         rw[intN_val]at hj
         simp only[sie]at hy
         subst hy
         refine⟨.int k 0,?_,rfl⟩
         unfold madeCells
         rw[Array.getElem?_map,Array.getElem?_range,if_pos (by rw[his,hsz,Nat.mul_one];exact hj)]
         simp[Value.cells,Nat.mod_one]
        ·cases hy
       obtain⟨ρ',x1,x2,x3⟩:=HRel.alloc (ty:=_) hH hnm hm hG rfl
       refine⟨_,_,ρ',rfl,x1,x3,w.heap.size,0,x2,?_⟩
       rw[intN_val,intN_val];rfl
      ·cases hp
     ·cases hp
    ·rename_i cl cc hz hcl hcc
     split at hp
     ·rename_i hsz
      have hsz:=Nat.eq_of_beq_eq_true hsz
      split at hp
      ·rename_i k1 n lt k2 m mt hn hmm
       simp only[sie,po,Plan.alloc.injEq]at hp
       obtain⟨⟨rfl,rfl⟩,rfl⟩:=hp
       obtain⟨zv,hzv,hzr⟩:=hzero _ hz
       have hzr:zv=.bool false:=hzr
       subst hzr
       have hok:0≤n∧n≤m∧((ti _).bytes:Int)*m≤281474976710656∧m≤9223372036854775807:=hq _ (List.mem_singleton.2 rfl)
       have e1:=(Cof_rel (hev l) hcl).of_num hn
       have e2:=(Cof_rel (hev c) hcc).of_num hmm
       have hrun:=run_make (P:=P) w t _ i _ hd hi hzv k1 k2 n m hok.1 hok.2.1 (by rw[hib];exact hok.2.2.1) hok.2.2.2
       rw[e1,e2,hrun]
       have hG:GRel ρ (.col .bool (intN arR m mt) (fun _=>.bool false)) (madeCells (Value.bool false).cells (m.toNat*i.size)):=by
        refine⟨by rw[size_madeCells,his,hsz,Nat.mul_one];exact(intN_val m mt).symm,fun j y hy=>?_⟩
        simp only[G.at]at hy
        split at hy
        ·rename_i hj
         rw[intN_val]at hj
         simp only[sie]at hy
         subst hy
         refine⟨.bool false,?_,rfl⟩
         unfold madeCells
         rw[Array.getElem?_map,Array.getElem?_range,if_pos (by rw[his,hsz,Nat.mul_one];exact hj)]
         simp[Value.cells,Nat.mod_one]
        ·cases hy
       obtain⟨ρ',x1,x2,x3⟩:=HRel.alloc (ty:=_) hH hnm hm hG rfl
       refine⟨_,_,ρ',rfl,x1,x3,w.heap.size,0,x2,?_⟩
       rw[intN_val,intN_val];rfl
      ·cases hp
     ·cases hp
    ·cases hp
  ·cases hp
theorem cut0_sound {ti:TypeId→TI}(hti:TIok P ti){h:Heap}{w:World}(hH:HRel W0 m0 ρ h w){ev:Operand→V}{eu:Operand→Value}(hev:∀x,VRel ρ (ev x) (eu x)){t:TypeId}{x:Operand}{lo hi:Option Operand}{m:Operand}{p:Plan}{qs:List Prop}(hp:planCut0 ti ev t x lo hi m=some (p,qs))
 {nm:Nat}(hnm:h[nm]? = some none) (hm:m0≤nm):∃s,p=.fresh none s []∧∃u' ρ',(Instr.sliceAt t (eu x) (lo.map eu) (hi.map eu) (some (eu m))).run P w=.ok u' w∧Ext ρ ρ'∧HRel W0 m0 ρ' (h.set nm (some ⟨false,.tail⟩)) w∧CRel ρ' (.dat s [] (some nm)) u':=by
 unfold planCut0 at hp
 split at hp
 ·cases hp
 ·rename_i hk
  obtain⟨d,hd,htd,-⟩:=(hti t (by simpa using hk)).und
  split at hp
  ·rename_i hh e s xs tok hte hc
   rw[hte]at htd;cases d<;>simp only[TDRel]at htd
   subst htd
   split at hp
   ·cases hp
   ·rename_i hke
    simp only[Bool.or_eq_true,not_or]at hke
    obtain⟨i,hi,his,-⟩:=(hti _ (by simpa using hke.1)).info
    split at hp
    ·rename_i k1 k2 h1 h2
     simp only[sie,po]at hp
     obtain⟨rfl,rfl⟩:=hp
     have e1:eu hh=.int k1 0:=Cof_rel (hev hh) h1
     have e2:eu m=.int k2 0:=Cof_rel (hev m) h2
     refine⟨s,rfl,?_⟩
     have bounds:∀len cap,(Instr.sliceBounds true len cap none (some (eu hh)) (some (eu m))).run P w=.ok (0,0,0) w:=by
      intro len cap
      simp[Instr.sliceBounds,Instr.sliceBound,e1,e2,asIntOf,srb,srp]
     rcases Cof_rel (hev x) hc with ⟨ex,-⟩|⟨r,o,len,cap,ex,-⟩
     ·refine⟨.slice none 0 0,ρ.void nm,?_,Ext.void,hH.tailVoid hnm hm,.inl ⟨rfl,rfl⟩⟩
      simp only[ex,Instr.sliceAt,Instr.slice,srb,Go.Eng.run_underlying hd,Result.andThen_ok,srp,Option.map_none,Option.map_some,bounds,run_sizeOf hi,if_true]
     ·refine⟨.slice (some ⟨r,o,none⟩) 0 0,ρ.void nm,?_,Ext.void,hH.tailVoid hnm hm,.inr ⟨r,o,0,0,rfl,rfl,Nat.le_refl _,fun i x hx=>by simp at hx,fun t ht=>.inl rfl⟩⟩
      simp only[ex,Instr.sliceAt,Instr.slice,srb,Go.Eng.run_underlying hd,Result.andThen_ok,srp,Option.map_none,Option.map_some,bounds,run_sizeOf hi,if_true]
    ·cases hp
  ·cases hp
end
end Go.Eng
