import Derived.Test.YtlbllaocdilafaaZ10
import Derived.Test.YtlbllaocdilafaaProg
import Derived.Lib.Builder
import Derived.Lib.UnsafeStr
import Derived.WalkKit
import Derived.Laws.Externs
import Derived.ProofKit
set_option linter.unusedSimpArgs false
set_option linter.unusedVariables false
set_option maxRecDepth 100000
set_option maxHeartbeats 2000000
namespace Go.Eng
open Go
theorem HOk.of_calls {P:Program}{f:FuncId}{s:HSpec}{fn:Func}(hf:P.funcs[f]? = some fn) (hname:(fn.name == "runtime.NumGoroutine")=false) (hb:fn.body.isSome=true)
 (h:∀l bs v bs' ps,s l bs=some (v,bs',ps)→(∀p∈ps,p)→∀(ρ:Ren) (args':Array Value) (w:World),AsRel ρ l args'→HRel w bs.length ρ (bs.map some) w →
   Calls P f args' w fun e w'=>∃v' ρ',e=.returned v'∧Ext ρ ρ'∧VRel ρ' v v'∧HRel w bs.length ρ' (bs'.map some) w'):HOk P f s:=by
 intro l bs v bs' ps hs hp ρ args' w ha hH o a K Q hK
 have hent:(callFunc f args').run P w=.ok (.enter f args') w:=by
  have h1:fn.name≠"runtime.NumGoroutine":=by simpa using hname
  obtain⟨c,hb⟩:=Option.isSome_iff_exists.1 hb
  simp[callFunc,hf,h1,hb,mark]
 rw[hent,Oper.upon_enter]
 refine(h l bs v bs' ps hs hp ρ args' w ha hH).mono ?_
 rintro e w' ⟨v',ρ',rfl,hx,hv,hh⟩
 exact hK ρ' v' w' hx hv hh
section
variable {P:Program}{W0:World}{m0:Nat}{ρ:Ren}
theorem HRel.typed {h:Heap}{w:World}(hH:HRel W0 m0 ρ h w) {r T:Nat}{c:Array Value}{fz:Nat×Nat}(hr:w.heap[r]? = some (.cells c T fz)):
 ∃ρ',Ext ρ ρ'∧(∀n,ρ' n=ρ n∧ρ'.room n=ρ.room n)∧ρ'.z=ρ.z∧ρ'.y r=some (T,c.size)∧HRel W0 m0 ρ' h w:=by
 have hx:Ext ρ {ρ with y:=fun q=>if q=r then some (T,c.size)else ρ.y q}:=by
  refine⟨⟨fun n p h=>⟨h,rfl⟩,fun _ _ _ h=>h,fun _ h=>h,fun q p hq=>?_⟩,rfl⟩
  show(if q=r then some (T,c.size)else ρ.y q)=some p
  by_cases e:q=r
  ·subst e
   obtain⟨T',n'⟩:=p
   obtain⟨c',fz',e1,e2⟩:=hH.yok q T' n' hq
   rw[hr]at e1
   cases e1
   rw[if_pos rfl,e2]
  ·rw[if_neg e];exact hq
 refine⟨_,hx,fun n=>⟨rfl,rfl⟩,rfl,by show(if r=r then _ else _)=_;rw[if_pos rfl],hH.os,hH.tape,hH.output,hH.size,hH.frame,hH.dom,fun n b hb hc=>?_,hH.sep,hH.new,hH.low,hH.tails,hH.deadRo,hH.vd1,hH.vd2,hH.zok,hH.zsep,hH.zold,fun q T' n' hq=>?_⟩
 ·obtain⟨r,o,e1,e2⟩:=hH.blk n b hb hc
  exact⟨r,o,e1,e2.ext hx.toSub⟩
 ·have hq:(if q=r then some (T,c.size)else ρ.y q)=some (T',n'):=hq
  by_cases e:q=r
  ·subst e
   rw[if_pos rfl]at hq
   cases hq
   exact⟨c,fz,hr,rfl⟩
  ·rw[if_neg e]at hq
   exact hH.yok q T' n' hq
end
section
variable {P:Program}{W0:World}{m0:Nat}{ρ:Ren}
theorem HRel.setCell {h:Heap}{w:World}(hH:HRel W0 m0 ρ h w) {b r o i:Nat} {g g':G}(hb:h[b]? = some (some ⟨false,g⟩)) (hcl:g.cells=true) (hcl':g'.cells=true) (hρ:ρ b=some (r,o)){c:Array Value}{ty:Nat}(hw:w.heap[r]? = some (.cells c ty (0,0))) (v:Value)
 (hB:∀(j:Nat) x,g'.at j=some x→∃u:Value,(c.setIfInBounds i v)[o+j]? = some u∧CRel ρ x u):HRel W0 m0 ρ (h.set b (some ⟨false,g'⟩)) (w.setCell ⟨r,i,none⟩ v):=by
 have h1:=heap_setCell_same w r i c ty v hw
 refine hH.write (blk':=⟨false,g'⟩) hb rfl hcl rfl hcl' hρ rfl rfl rfl (World.size_setCell _ _ _) (fun k hk=>heap_setCell_other _ _ _ _ hk) (fun c1 ty1 fz1 e=>?_) ⟨_,ty,(0,0),h1,fun _=>rfl,hB⟩
 rw[hw]at e
 cases e
 exact⟨_,_,h1,by simp⟩
end
theorem wpList_append_run {P:Program}{ops:Array Oper}{rest:List Oper}{o:Oper}{a:Act}{Q:Exit→Act→World→Prop}(hgd:o.guard=none) (sl x:Operand) (t u:TypeId)
 (ho:o.op=.call {callee:=.builtin .append,args:=#[sl,x],argTypes:=#[t,u] }) {w w':World} {v xv v':Value}(hs:a.eval sl=v) (hx:a.eval x=xv)
 (hr:(Builtin.append_ #[t,u] o.type #[v,xv]).run P w=.ok v' w') (h:wpList P ops Q rest (a.put o.dst v') w'):wpList P ops Q (o::rest) a w:=by
 refine wpList_plain hgd fun K hK=>?_
 unfold Oper.wp execOp
 simp only[ho,resolve,invoke,builtin,srb,srp,Result.andThen_ok,List.map_toArray,List.map_cons,List.map_nil,hs,hx,hr]
 exact hK _ _ h
section
variable {P:Program}{W0:World}{m0:Nat}{ρ:Ren}
theorem dByt_len (b:ByteArray):(arR.dByt b).length=b.size:=by
 show(b.data.toList.map _).length=_
 rw[List.length_map,Array.length_toList];rfl
theorem dByt_cat (a b:ByteArray):arR.dByt (a++b)=arR.dByt a++arR.dByt b:=by
 show(a++b).data.toList.map _=a.data.toList.map _++b.data.toList.map _
 rw[ByteArray.data_append,Array.toList_append,List.map_append]
theorem bf_dat {s:ByteArray}{t e:Nat}{v:Value}(h:CRel ρ (.bf s t e) v):CRel ρ (.dat (.int .u8) (arR.dByt s) (some t)) v:=by
 rcases h with ⟨h1,h2⟩|⟨r,len,cap,n,e1,e2,e3,e4,e5,e6,e7⟩
 ·exact .inl ⟨h1,List.eq_nil_of_length_eq_zero (by rw[dByt_len];exact h2)⟩
 ·refine .inr ⟨r,0,len,cap,e1,by rw[dByt_len];exact e4,e5.2,fun i x hx=>?_,fun t' ht=>?_⟩
  ·have hx:(s.data.toList.map fun b=>D.int b.toNat)[i]? = some x:=hx
   rw[List.getElem?_map,oms]at hx
   obtain⟨y,hy,rfl⟩:=hx
   exact⟨_,rfl,by simpa [Sh.width]using e6 i y hy⟩
  ·cases ht
   exact .inr (by simpa [Sh.width]using e7)
theorem dat_bf {s:ByteArray}{t e:Nat}{v:Value}(h:CRel ρ (.dat (.int .u8) (arR.dByt s) (some t)) v) (hy:∀r o len cap,v=.slice (some ⟨r,o,none⟩) len cap→0<len∧o=0∧(ρ t=some (r,len)∧cap-len≤ρ.room t)∧∃n,ρ.y r=some (e,n)∧cap≤n):CRel ρ (.bf s t e) v:=by
 rcases h with ⟨h1,h2⟩|⟨r,o,len,cap,e1,e2,e3,e4,e5⟩
 ·refine .inl ⟨h1,?_⟩
  have:=dByt_len s
  rw[h2]at this
  exact this.symm
 ·obtain⟨hp,rfl,hnm,n,f1,f2⟩:=hy r o len cap e1
  refine .inr ⟨r,len,cap,n,e1,f1,f2,by rw[←dByt_len];exact e2,⟨hp,e3⟩,fun i x hx=>?_,hnm⟩
  obtain⟨m,g1,g2⟩:=e4 i (.int x.toNat) (by
   show(s.data.toList.map fun b=>D.int b.toNat)[i]? = _
   rw[List.getElem?_map,hx];rfl)
  cases g1
  simpa [Sh.width]using g2
theorem str_src {tx:Nat}(w:World) (hdt:P.underlying tx=some .string) (b:ByteArray):
 ∃news,Src P 1 tx (.string b) (arR.dByt b).length news w∧(∀u∈news,u.oneCell'=true)∧∀(z':Nat→Nat→Option Value) (r o:Nat),(∀r i v,ρ.z r i=some v→z' r i=some v)→(∀(j:Nat) v,news[j]? = some v→z' r (o+j)=some v)→ERel z' (.int .u8) (arR.dByt b) r o:=by
 refine⟨byteCells b,by rw[dByt_len];exact Src.ofString w hdt b,fun u hu=>by
  obtain⟨_,_,rfl⟩:=List.mem_map.1 hu
  rfl,fun z' r o hz1 hz2 i x hx=>?_⟩
 have hx:(b.data.toList.map fun b=>D.int b.toNat)[i]? = some x:=hx
 rw[List.getElem?_map,oms]at hx
 obtain⟨y,hy,rfl⟩:=hx
 refine⟨_,rfl,?_⟩
 have:=hz2 i (.int .u8 y.toNat) (by unfold byteCells;rw[List.getElem?_map,hy];rfl)
 simpa [Sh.width]using this
theorem bf_app {h:Heap}{w:World}(hH:HRel W0 m0 ρ h w) {s b:ByteArray}{t0:Nat}{v:Value}(hv:CRel ρ (.bf s t0 5) v) {t tx ty:TypeId}{i:TypeInfo}(ht:P.underlying t=some (.slice 5)) (htx:P.underlying tx=some .string) (hi:P.info? 5=some i) (hz:i.zero=some (.int .u8 0)) (hsz:i.size=1) (hby:i.bytes=1)
 (hfit:s.size+b.size≤140737488355328) (htok:h[t0]? = some (some ⟨false,.tail⟩)){nm:Nat}(hnm:h[nm]? = some none) (hm:m0≤nm):
 ∃v' w' ρ',(Builtin.append_ #[t,tx] ty #[v,.string b]).run P w=.ok v' w'∧Ext ρ ρ'∧HRel W0 m0 ρ' ((h.set t0 (some ⟨true,.dead⟩)).set nm (some ⟨false,.tail⟩)) w'∧CRel ρ' (.bf (s++b) nm 5) v':=by
 obtain⟨news,s1,s2,s3⟩:=str_src (P:=P) (ρ:=ρ) w htx b
 have hmax:maxLen=9223372036854775807:=by decide
 by_cases h0:s.size+b.size=0
 ·have hvn:v=.slice none 0 0:=by
   rcases hv with ⟨q,-⟩|⟨r,len,cap,n,q1,q2,q3,q4,q5,-⟩
   ·exact q
   ·omega
  subst hvn
  have hl0:(arR.dByt b).length=0:=by rw[dByt_len];omega
  have hnl:news=[]:=List.length_eq_zero_iff.1 (by rw[s1.newsLen,hl0])
  subst hnl
  rw[hl0]at s1
  have hKn:(h.set t0 (some ⟨true,.dead⟩))[nm]? = some none:=by
   rw[set_get (ges htok).1,if_neg]
   ·exact hnm
   ·intro e;subst e;rw[htok]at hnm;cases hnm
  exact⟨.slice none 0 0,w,ρ.void nm,run_append_nothing w t tx ty 5 i ht hi none 0 0 (Nat.le_refl _) (.string b) (by rw[hsz];exact s1),Ext.void,(hH.dying htok).tailVoid hKn hm,.inl ⟨rfl,by rw[bsa];omega⟩⟩
 obtain⟨v',w',ρ',k1,k2,k3,k4,k5,k6⟩:=app_sound (ty:=ty) (s:=.int .u8) (c:=.dat (.int .u8) (arR.dByt s) (some t0)) (xs:=arR.dByt s) (tok:=some t0) hH rfl (bf_dat hv) ht hi hz (by rw[hsz];rfl) (by decide) (by rw[hsz];rfl) (by rw[dByt_len,dByt_len,hby];omega) (fun b hb=>by cases hb;exact htok) hnm hm (by rw[hsz];exact s1) s2 s3
 rw[←dByt_cat]at k4
 have hlen:∀r o len cap,v'=.slice (some ⟨r,o,none⟩) len cap→len=s.size+b.size:=by
  intro r o len cap e
  rcases k4 with ⟨q1,-⟩|⟨r',o',len',cap',q1,q2,-⟩
  ·rw[e]at q1;cases q1
  ·rw[e]at q1
   cases q1
   rw[←q2,dByt_len,bsa]
 by_cases hn:∃r o len cap,v'=.slice (some ⟨r,o,none⟩) len cap
 ·obtain⟨r,o,len,cap,hv'⟩:=hn
  have hl:=hlen r o len cap hv'
  have hnamed:=k6 r o len cap hv' (fun b r0 o0 n0 c0 hb hu=>by
   cases hb
   rcases hv with ⟨q1,-⟩|⟨r1,len1,cap1,n,q1,q2,q3,q4,q5,q6,q7,q8⟩
   ·rw[hu]at q1;cases q1
   ·rw[hu]at q1
    cases q1
    exact⟨by simpa [Sh.width]using q7,by simpa [Sh.width]using q8⟩)
  simp only[Sh.width,Nat.mul_one]at hnamed
  rcases k5 r o len cap hv' with ⟨n0,hs⟩|⟨ho,c,fz,hc1,hc2⟩
  ·
   rcases hv with ⟨q1,-⟩|⟨r0,len0,cap0,n,q1,q2,q3,q4,q5,-⟩
   ·rw[hs]at q1;cases q1
   ·rw[hs]at q1
    cases q1
    refine⟨v',w',ρ',k1,k2,k3,dat_bf k4 fun r2 o2 len2 cap2 e=>?_⟩
    rw[hv']at e
    cases e
    exact⟨by omega,rfl,by simpa using hnamed,n,k2.y _ _ q2,q3⟩
  ·obtain⟨ρ2,x1,x2,x3,x4,x5⟩:=k3.typed hc1
   refine⟨v',w',ρ2,k1,k2.trans x1,x5,dat_bf (k4.ext x1.toSub) fun r2 o2 len2 cap2 e=>?_⟩
   have hne:0<len:=by omega
   rw[hv']at e
   cases e
   subst ho
   refine⟨hne,rfl,⟨by rw[(x2 nm).1];simpa using hnamed.1,by rw[(x2 nm).2];exact hnamed.2⟩,_,x4,?_⟩
   rw[hc2];exact Nat.le_of_eq (Nat.mul_one _).symm
 ·refine⟨v',w',ρ',k1,k2,k3,dat_bf k4 fun r2 o2 len2 cap2 e=>absurd ⟨r2,o2,len2,cap2,e⟩ hn⟩
end
section
variable {P:Program}{W0:World}{m0:Nat}{ρ:Ren}
theorem freeze_heap {w:World}{r n:Nat}(k:Nat):(k≠r→(w.freeze ⟨r,0,none⟩ n).heap[k]? = w.heap[k]?)∧∀c ty fz,w.heap[k]? = some (.cells c ty fz)→∃fz',(w.freeze ⟨r,0,none⟩ n).heap[k]? = some (.cells c ty fz'):=by
 unfold World.freeze
 split
 ·exact⟨fun _=>rfl,fun c ty fz h=>⟨fz,h⟩⟩
 ·refine⟨fun hk=>?_,fun c ty fz h=>?_⟩
  ·simp only[Array.getElem?_modify]
   rw[if_neg (Ne.symm hk)]
  ·simp only[Array.getElem?_modify]
   by_cases hk:r=k
   ·subst hk
    rw[if_pos rfl,h]
    exact⟨_,rfl⟩
   ·rw[if_neg hk,h]
    exact⟨_,rfl⟩
theorem HRel.iced {h:Heap}{w:World}(hH:HRel W0 m0 ρ h w) {t r o:Nat}(ht:h[t]? = some (some ⟨false,.tail⟩)) (hp:ρ t=some (r,o)) (n d:Nat):HRel W0 m0 ρ (h.set t (some ⟨true,.dead⟩)) {w.freeze ⟨r,0,none⟩ n with drawn:=d}:=by
 have hlt:t<h.length:=(ges ht).1
 have hd:=hH.dying ht
 have hf:=fun k=>freeze_heap (w:=w) (r:=r) (n:=n) k
 have hsz:(w.freeze ⟨r,0,none⟩ n).heap.size=w.heap.size:=by
  unfold World.freeze;split<;>simp
 have he:(w.freeze ⟨r,0,none⟩ n).os=w.os∧(w.freeze ⟨r,0,none⟩ n).tape=w.tape∧(w.freeze ⟨r,0,none⟩ n).output=w.output:=by
  unfold World.freeze;split<;>exact⟨rfl,rfl,rfl⟩
 have hother:∀n' b o',n'≠t→h[n']? = some (some b)→b.g≠.dead→ρ n'=some (r,o')→False:=fun n' b o' hn hb hdd hpn=>hH.sep t n' r o o' _ b (Ne.symm hn) ht rfl hb hdd hp hpn
 have hset:∀n' (x:Blk),(h.set t (some ⟨true,.dead⟩))[n']? = some (some x)→(n'=t∧x=⟨true,.dead⟩)∨(n'≠t∧h[n']? = some (some x)):=fun n' x hx=>by
  rw[set_get hlt]at hx
  by_cases hn:t=n'
  ·rw[if_pos hn]at hx
   simp only[sie]at hx
   exact .inl ⟨hn.symm,hx.symm⟩
  ·rw[if_neg hn]at hx
   exact .inr ⟨Ne.symm hn,hx⟩
 have hr0:W0.heap.size≤r∨Owned m0 ρ (h.set t (some ⟨true,.dead⟩)) r:=by
  rcases Nat.lt_or_ge t m0 with h1|h1
  ·exact .inr ⟨t,_,o,h1,by rw[set_get hlt,if_pos rfl],.inr rfl,hp⟩
  ·exact hd.new t r o h1 hp
 refine⟨he.1.trans hd.os,he.2.1.trans hd.tape,he.2.2.trans hd.output,by show _≤(w.freeze _ _).heap.size;rw[hsz];exact hd.size,fun k hk hn=>?_,hd.dom,fun n' b hb hc=>?_,hd.sep,hd.new,fun n' r' o' hp'=>by show _<(w.freeze _ _).heap.size;rw[hsz];exact hd.low n' r' o' hp',fun n' b hb hg=>?_,hd.deadRo,hd.vd1,hd.vd2,fun r' i v hv=>?_,hd.zsep,hd.zold,fun r' T k hy=>?_⟩
 ·show(w.freeze _ _).heap[k]? = _
  rw[(hf k).1 (by
   intro e
   subst e
   rcases hr0 with h1|h1
   ·omega
   ·exact hn h1)]
  exact hd.frame k hk hn
 ·obtain⟨r',o',e1,c,ty,fz,e2,e3,e4⟩:=hd.blk n' b hb hc
  rcases hset n' b hb with ⟨-,rfl⟩|⟨hn,hb'⟩
  ·cases hc
  ·have hne:r'≠r:=by
    intro e
    subst e
    exact hother n' b o' hn hb' (fun e=>by rw[e]at hc;cases hc) e1
   exact⟨r',o',e1,c,ty,fz,by show(w.freeze _ _).heap[r']? = _;rw[(hf r').1 hne];exact e2,e3,e4⟩
 ·obtain⟨t1,t3⟩:=hd.tails n' b hb hg
  refine⟨t1,fun r' o' hp'=>?_⟩
  obtain⟨c,ty,e1,e2⟩:=t3 r' o' hp'
  rcases hset n' b hb with ⟨-,rfl⟩|⟨hn,hb'⟩
  ·cases hg
  ·have hne:r'≠r:=by
    intro e
    subst e
    exact hother n' b o' hn hb' (fun e=>by rw[e]at hg;cases hg) hp'
   exact⟨c,ty,by show(w.freeze _ _).heap[r']? = _;rw[(hf r').1 hne];exact e1,e2⟩
 ·obtain⟨c,ty,fz,e1,e2⟩:=hd.zok r' i v hv
  obtain⟨fz',e3⟩:=(hf r').2 c ty fz e1
  exact⟨c,ty,fz',e3,e2⟩
 ·obtain⟨c,fz,e1,e2⟩:=hd.yok r' T k hy
  obtain⟨fz',e3⟩:=(hf r').2 c T fz e1
  exact⟨c,fz',e3,e2⟩
end
end Go.Eng
namespace Go.Proofs.Ytlbllaocdilafaa
open Go Go.Eng Go.Proofs Go.RowKit
attribute[local irreducible] HOk CallOk
theorem newW_calls (w:World):Calls Try.prog 69 #[] w fun e w'=>e=.returned (.pointer (some ⟨w.heap.size,0,none⟩))∧w'=w.alloc (.cells #[.pointer none,.slice none 0 0] 167):=by
 go_enter Try.func69,Try.ntmps69
 go_wp2
 go_ret
 exact⟨rfl,rfl⟩
theorem info165:(Try.prog.info? 165).map (·.size)=some 2:=by kernel_rfl
theorem lies167:liesAt Try.prog Try.prog.depth 167 (2 / Try.prog.cellsOf 167) 0 165 1=true:=by kernel_rfl
theorem copy_used (b:Nat) (w:World) (h0:w.cell? ⟨b,0,none⟩=some (.pointer (some ⟨b,0,none⟩))):
 Calls Try.prog 154 #[.pointer (some ⟨b,0,none⟩)] w fun e w'=>e=.returned (.tuple #[])∧w'=w:=by
 obtain⟨j,hj,hjs⟩:=Option.map_eq_some_iff.1 info165
 go_enter Try.func154,Try.ntmps154
 go_wp2
 rw[Lib.run_neq_ptr_same w _ Try.underlying163 hj]
 go_wp2
 go_end0
 exact⟨rfl,rfl⟩
theorem copy_fresh (b:Nat) (w:World) (h0:w.cell? ⟨b,0,none⟩=some (.pointer none)) (hsh:w.shape? b=some (167,2)) (hfz:w.frozen? ⟨b,0,none⟩=false):
 Calls Try.prog 154 #[.pointer (some ⟨b,0,none⟩)] w fun e w'=>e=.returned (.tuple #[])∧w'=w.setCell ⟨b,0,none⟩ (.pointer (some ⟨b,0,none⟩)):=by
 obtain⟨j,hj,hjs⟩:=Option.map_eq_some_iff.1 info165
 go_enter Try.func154,Try.ntmps154
 go_wp2
 rw[Lib.run_to_unsafe w ⟨b,0,none⟩ Try.underlying163 Try.underlying220 hj (by rw[hjs];decide) hsh (Nat.zero_lt_succ 1)]
 simp only[Result.andThen]
 rw[Oper.upon_value]
 go_wp2
 rw[run_callFunc_extern Try.func162 (by kernel_rfl) (by kernel_rfl) (by kernel_rfl) (e:=Extern.AbiNoEscape.same) (by kernel_rfl)]
 rw[Lib.run_noEscape]
 simp only[Result.andThen]
 rw[Oper.upon_value]
 go_wp2
 rw[Lib.run_from_unsafe w ⟨b,0,none⟩ Try.underlying220 Try.underlying163 hj hsh lies167]
 simp only[Result.andThen]
 rw[Oper.upon_value]
 go_wp2
 go_end0
 exact⟨rfl,rfl⟩
theorem blen_calls (b:Nat) (w:World) (ao:Option Addr) (n cap:Nat) (h1:w.cell? ⟨b,1,none⟩=some (.slice ao n cap)):
 Calls Try.prog 100 #[.pointer (some ⟨b,0,none⟩)] w fun e w'=>e=.returned (.int .i64 n)∧w'=w:=by
 go_enter Try.func100,Try.ntmps100
 go_wp2
 go_ret
 exact⟨rfl,rfl⟩
theorem wB_open {W0:World}{m0:Nat}{ρ:Ren}{h:Heap}{w:World}(hH:HRel W0 m0 ρ h w) {b t:Nat}{s:ByteArray}(hb:h[b]? = some (some ⟨false,.lst [.adr b 167,.bf s t 5]⟩)):
 ∃r c p v,ρ b=some (r,0)∧w.heap[r]? = some (.cells c 167 (0,0))∧c = #[p,v]∧CRel ρ (.adr b 167) p∧CRel ρ (.bf s t 5) v∧(p=.pointer none∨p=.pointer (some ⟨r,0,none⟩)):=by
 obtain⟨r,o,e1,c,ty,fz,e2,e3,e4⟩:=hH.blk b _ hb rfl
 obtain⟨p,a1,a2⟩:=e4 0 (.adr b 167) rfl
 obtain⟨v,a3,a4⟩:=e4 1 (.bf s t 5) rfl
 have a2':=a2
 obtain⟨r',f1,f2,f3⟩:=a2
 rw[e1]at f1
 cases f1
 obtain⟨c',fz',g1,g2⟩:=hH.yok r 167 2 f2
 rw[e2]at g1
 cases g1
 have e3:=e3 rfl
 subst e3
 simp only[Nat.zero_add]at a1 a3
 refine⟨r,c,p,v,e1,e2,?_,a2',a4,f3⟩
 apply Array.ext
 ·simpa using g2
 ·intro i h1 h2
  simp only[List.size_toArray,List.length_cons,List.length_nil]at h2
  match i with
  |0=>have:=(Array.getElem?_eq_some_iff.1 a1).2;simpa using this
  |1=>have:=(Array.getElem?_eq_some_iff.1 a3).2;simpa using this
theorem copy_calls {W0:World}{m0:Nat}{ρ:Ren}{h:Heap}{w:World}(hH:HRel W0 m0 ρ h w) {b t r:Nat}{s:ByteArray}(hb:h[b]? = some (some ⟨false,.lst [.adr b 167,.bf s t 5]⟩)) (hr:ρ b=some (r,0)):
 Calls Try.prog 154 #[.pointer (some ⟨r,0,none⟩)] w fun e w'=>e=.returned (.tuple #[])∧HRel W0 m0 ρ h w':=by
 obtain⟨r0,c,p,v,e1,e2,rfl,e4,e5,e6⟩:=wB_open hH hb
 rw[hr]at e1
 cases e1
 have c0:w.cell? ⟨r,0,none⟩=some p:=by rw[cell_of e2];rfl
 rcases e6 with rfl|rfl
 ·refine(copy_fresh r w c0 (by simp[World.shape?,e2]) (frozen_of_row _ _ _ _ _ e2)).mono ?_
  rintro e w' ⟨rfl,rfl⟩
  refine⟨rfl,?_⟩
  have hh:h=h.set b (some ⟨false,.lst [.adr b 167,.bf s t 5]⟩):=by
   apply List.ext_getElem?
   intro n
   rw[set_get (ges hb).1]
   split
   ·rename_i hn;subst hn;exact hb
   ·rfl
  rw[hh]
  refine hH.setCell (b:=b) (i:=0) hb rfl rfl hr e2 _ (fun j x hx=>?_)
  match j with
  |0=>
   simp[G.at]at hx
   subst hx
   obtain⟨r',f1,f2,f3⟩:=e4
   rw[hr]at f1
   cases f1
   exact⟨_,rfl,r,hr,f2,.inr rfl⟩
  |1=>
   simp[G.at]at hx
   subst hx
   exact⟨v,rfl,e5⟩
  |j+2=>simp[G.at]at hx
 ·refine(copy_used r w c0).mono ?_
  rintro e w' ⟨rfl,rfl⟩
  exact⟨rfl,hH⟩
theorem info5:(Try.prog.info? 5).map (fun i=>(i.zero,i.size,i.bytes))=some (some (.int .u8 0),1,1):=by kernel_rfl
theorem writeS_calls {W0:World}{m0:Nat}{ρ:Ren}{h:Heap}{w:World}(hH:HRel W0 m0 ρ h w) {b t r nm:Nat}{s:ByteArray}(hb:h[b]? = some (some ⟨false,.lst [.adr b 167,.bf s t 5]⟩)) (hr:ρ b=some (r,0)) (ht:h[t]? = some (some ⟨false,.tail⟩)) (hnm:h[nm]? = some none) (hm:m0≤nm) (u:ByteArray) (hfit:s.size+u.size≤140737488355328):
 Calls Try.prog 134 #[.pointer (some ⟨r,0,none⟩),.string u] w fun e w'=>∃ρ',e=.returned (.tuple #[.int .i64 u.size,.nilIface])∧Ext ρ ρ'∧HRel W0 m0 ρ' (((h.set t (some ⟨true,.dead⟩)).set nm (some ⟨false,.tail⟩)).set b (some ⟨false,.lst [.adr b 167,.bf (s++u) nm 5]⟩)) w':=by
 obtain⟨i0,hi,hi0⟩:=Option.map_eq_some_iff.1 info5
 simp only[po]at hi0
 go_enter Try.func134,Try.ntmps134
 go_wp2_with (go_at_call 154;refine(copy_calls hH hb hr).mono ?_)
 rintro e w1 ⟨rfl,hH1⟩
 obtain⟨r0,c,p,v,e1,e2,rfl,e4,e5,e6⟩:=wB_open hH1 hb
 rw[hr]at e1
 cases e1
 have c0:w1.cell? ⟨r,0,none⟩=some p:=by rw[cell_of e2];rfl
 have c1:w1.cell? ⟨r,1,none⟩=some v:=by rw[cell_of e2];rfl
 obtain⟨v',w2,ρ2,k1,k2,k3,k4⟩:=bf_app (P:=Try.prog) (b:=u) (t:=107) (tx:=9) (ty:=107) hH1 e5 Try.underlying107 Try.underlying9 hi hi0.1 hi0.2.1 hi0.2.2 hfit ht hnm hm
 have hbt:t≠b:=fun e=>by subst e;rw[ht]at hb;cases hb
 have hbn:nm≠b:=fun e=>by subst e;rw[hnm]at hb;cases hb
 have hb2:((h.set t (some ⟨true,.dead⟩)).set nm (some ⟨false,.tail⟩))[b]? = some (some ⟨false,.lst [.adr b 167,.bf s t 5]⟩):=by
  rw[set_get (by rw[List.length_set];exact(ges hnm).1),if_neg hbn,set_get (ges ht).1,if_neg hbt]
  exact hb
 obtain⟨r2,c2,p2,v2,f1,f2,rfl,f4,f5,f6⟩:=wB_open k3 hb2
 rw[(k2.f _ _ hr).1]at f1
 cases f1
 have d1:w2.cell? ⟨r,1,none⟩=some v2:=by rw[cell_of f2];rfl
 have d2:w2.frozen? ⟨r,1,none⟩=false:=frozen_of_row _ _ _ _ _ f2
 obtain⟨ao,n',cap,rfl⟩:∃ao n' cap,v'=.slice ao n' cap:=by
  rcases k4 with ⟨q1,-⟩|⟨q1,q2,q3,q4,q5,-⟩
  ·exact⟨_,_,_,q1⟩
  ·exact⟨_,_,_,q5⟩
 go_wp2_with (at_builtin;refine wpList_append_run rfl (.tmp 12) (.tmp 13) 107 9 rfl rfl rfl k1 ?_)
 go_ret2
 refine⟨ρ2,rfl,k2,?_⟩
 refine k3.setCell (b:=b) (i:=1) hb2 rfl rfl (k2.f _ _ hr).1 f2 _ (fun j x hx=>?_)
 match j with
 |0=>
  simp[G.at]at hx
  subst hx
  exact⟨p2,rfl,f4⟩
 |1=>
  simp[G.at]at hx
  subst hx
  exact⟨_,rfl,k4⟩
 |j+2=>simp[G.at]at hx
theorem args1 {ρ:Ren}{x:A}{args:Array Value}(ha:AsRel ρ [x] args):∃u,args = #[u]∧ARel ρ x u:=by
 obtain⟨u,hu,hr⟩:=ha.2 0 _ rfl
 refine⟨u,?_,hr⟩
 apply Array.ext
 ·simpa using ha.1
 ·intro i h1 h2
  simp only[List.size_toArray,List.length_cons,List.length_nil]at h2
  match i with
  |0=>have:=(Array.getElem?_eq_some_iff.1 hu).2;simpa using this
theorem args2 {ρ:Ren}{x y:A}{args:Array Value}(ha:AsRel ρ [x,y] args):∃u v,args = #[u,v]∧ARel ρ x u∧ARel ρ y v:=by
 obtain⟨u,hu,hr⟩:=ha.2 0 _ rfl
 obtain⟨v,hv,hr2⟩:=ha.2 1 _ rfl
 refine⟨u,v,?_,hr,hr2⟩
 apply Array.ext
 ·simpa using ha.1
 ·intro i h1 h2
  simp only[List.size_toArray,List.length_cons,List.length_nil]at h2
  match i with
  |0=>have:=(Array.getElem?_eq_some_iff.1 hu).2;simpa using this
  |1=>have:=(Array.getElem?_eq_some_iff.1 hv).2;simpa using this
structure LB where
 cat:ByteArray→ByteArray→ByteArray
 fits:ByteArray→ByteArray→Prop
 byt:ByteArray→List D
 fit1:ByteArray→Prop
 size:ByteArray→Int
def lbR:LB where
 cat a b:=a++b
 fits a b:=a.size+b.size≤140737488355328
 byt:=arR.dByt
 fit1 s:=s.size≤9223372036854775807
 size s:=s.size
def hWS (lf:LB):HSpec:=fun l bs=>match l,bs with
 | [.one (.ptr 0 (.lit 0)),.one (.str u)],[⟨false,.lst [.adr 0 167,.bf s 1 5]⟩,⟨false,.tail⟩]=>some (.z,[⟨false,.lst [.adr 0 167,.bf (lf.cat s u) 2 5]⟩,⟨true,.dead⟩,⟨false,.tail⟩],[lf.fits s u])
 |_,_=>none
theorem writeS_ok:HOk Try.prog 134 (hWS lbR):=by
 refine .of_calls Try.func134 (by kernel_rfl) (by kernel_rfl) fun l bs v bs' ps hs hp ρ args' w ha hH=>?_
 unfold hWS at hs
 split at hs
 ·rename_i u s
  cases hs
  have hfit:s.size+u.size≤140737488355328:=hp (lbR.fits s u) (by simp)
  obtain⟨x,y,rfl,hx,hy⟩:=args2 ha
  obtain⟨r0,c,p,v,e1,e2,-⟩:=wB_open hH (b:=0) (t:=1) (s:=s) rfl
  obtain⟨r,o,e3,rfl⟩:=hx
  rw[e1]at e3
  cases e3
  cases hy
  refine(writeS_calls (b:=0) (t:=1) (nm:=2) (s:=s) (hH.pad 1) rfl e1 rfl rfl (Nat.le_refl _) u hfit).mono ?_
  rintro e w' ⟨ρ',rfl,k1,k2⟩
  exact⟨_,ρ',rfl,k1,True.intro,k2⟩
 ·cases hs
def hBLen (lf:LB):HSpec:=fun l bs=>match l,bs with
 | [.one (.ptr 0 (.lit 0))],[⟨false,.lst [.adr 0 167,.bf s 1 5]⟩,⟨false,.tail⟩]=>some (.a (.one (.int .i64 (lf.size s))),[⟨false,.lst [.adr 0 167,.bf s 1 5]⟩,⟨false,.tail⟩],[])
 |_,_=>none
theorem blen_ok:HOk Try.prog 100 (hBLen lbR):=by
 refine .of_calls Try.func100 (by kernel_rfl) (by kernel_rfl) fun l bs v bs' ps hs hp ρ args' w ha hH=>?_
 unfold hBLen at hs
 split at hs
 ·rename_i s
  cases hs
  obtain⟨x,rfl,hx⟩:=args1 ha
  obtain⟨r0,c,p,v,e1,e2,rfl,e4,e5,e6⟩:=wB_open hH (b:=0) (t:=1) (s:=s) rfl
  obtain⟨r,o,e3,rfl⟩:=hx
  rw[e1]at e3
  cases e3
  have c1:w.cell? ⟨r0,1,none⟩=some v:=by rw[cell_of e2];rfl
  rcases e5 with ⟨rfl,q⟩|⟨r,len,cap,n,rfl,-,-,q,-⟩
  ·refine(blen_calls r0 w _ _ _ c1).mono ?_
   rintro e w' ⟨rfl,rfl⟩
   exact⟨_,ρ,rfl,Ext.refl ρ,(by show Value.int .i64 _=.int .i64 (s.size:Nat);rw[q];try rfl),hH⟩
  ·refine(blen_calls r0 w _ _ _ c1).mono ?_
   rintro e w' ⟨rfl,rfl⟩
   exact⟨_,ρ,rfl,Ext.refl ρ,(by show Value.int .i64 _=.int .i64 (s.size:Nat);rw[q];try rfl),hH⟩
 ·cases hs
theorem cells5:Try.prog.cellsOf 5=1:=by kernel_rfl
theorem bstr_row (b g cap:Nat) (p:Value) (cur:Array Value) (l:List UInt8) (w:World) (hbk:w.heap[b]? = some (.cells #[p,.slice (some ⟨g,0,none⟩) l.length cap] 167 (0,0))){fz:Nat×Nat}(hg:w.heap[g]? = some (.cells cur 5 fz)) (hnc:l.length≤cap) (hcs:cap≤cur.size) (h0:l≠[]) (h63:l.length≤9223372036854775807)
 (hcell:∀j x,l[j]? = some x→w.cell? ⟨g,j,none⟩=some (.int .u8 x.toNat)):
 Calls Try.prog 101 #[.pointer (some ⟨b,0,none⟩)] w fun e w'=>e=.returned (.string ⟨l.toArray⟩)∧∃d,w'={w.freeze ⟨g,0,none⟩ l.length with drawn:=d}:=by
 have hl0:l.length≠0:=by simpa using h0
 have c1:w.drew.cell? ⟨b,1,none⟩=some (.slice (some ⟨g,0,none⟩) l.length cap):=by
  have:w.drew.heap[b]? = some (.cells #[p,.slice (some ⟨g,0,none⟩) l.length cap] 167 (0,0)):=hbk
  rw[Lib.cell_of_heap this];rfl
 have hSD:(Builtin.unsafeSliceData_ #[107] 200 #[.slice (some ⟨g,0,none⟩) l.length cap]).run Try.prog w.drew=.ok (.pointer (some ⟨g,0,none⟩)) w.drew:=
  Lib.run_unsafeSliceData_row _ _ _ _ _ _ (by omega)
 have hUS:(Builtin.unsafeString_ #[200,3] 9 #[.pointer (some ⟨g,0,none⟩),.int .i64 l.length]).run Try.prog w.drew=.ok (.string ⟨l.toArray⟩) (w.drew.freeze ⟨g,0,none⟩ l.length):=by
  refine Lib.run_unsafeString_row w.drew 200 3 9 5 Try.underlying200 cells5 g cur.size (by have hg':w.drew.heap[g]? = some (.cells cur 5 fz):=hg;simp[World.shape?,hg']) l h0 (by omega) h63 ?_
  intro j x hx
  have:=hcell j x hx
  rw[addr_add,Nat.zero_add]
  exact this
 go_enter Try.func101,Try.ntmps101
 go_wp2
 go_region
 all_goals(go_wp2;go_ret;exact⟨rfl,w.drew.drawn,by unfold World.freeze World.drew;split<;>rfl⟩)
theorem bstr_nil (b:Nat) (p:Value) (w:World) (hbk:w.heap[b]? = some (.cells #[p,.slice none 0 0] 167 (0,0))):
 Calls Try.prog 101 #[.pointer (some ⟨b,0,none⟩)] w fun e w'=>e=.returned (.string ⟨#[]⟩)∧w'=w.drew:=by
 have hUS:∀W,(Builtin.unsafeString_ #[200,3] 9 #[.pointer none,.int .i64 0]).run Try.prog W=.ok (.string .empty) W:=fun W=>Lib.run_unsafeString_none W _ _ _ none
 have c1:w.drew.cell? ⟨b,1,none⟩=some (.slice none 0 0):=by
  have:w.drew.heap[b]? = some (.cells #[p,.slice none 0 0] 167 (0,0)):=hbk
  rw[Lib.cell_of_heap this];rfl
 have hSD:(Builtin.unsafeSliceData_ #[107] 200 #[.slice none 0 0]).run Try.prog w.drew=.ok (.pointer none) w.drew:=rfl
 go_enter Try.func101,Try.ntmps101
 go_wp2
 go_region
 all_goals(go_wp2;go_ret;exact⟨rfl,rfl⟩)
def hBStr (lf:LB):HSpec:=fun l bs=>match l,bs with
 | [.one (.ptr 0 (.lit 0))],[⟨false,.lst [.adr 0 167,.bf s 1 5]⟩,⟨false,.tail⟩]=>some (.a (.one (.str s)),[⟨false,.lst [.adr 0 167,.dat (.int .u8) (lf.byt s) none]⟩,⟨true,.dead⟩],[lf.fit1 s])
 |_,_=>none
theorem bstr_ok:HOk Try.prog 101 (hBStr lbR):=by
 refine .of_calls Try.func101 (by kernel_rfl) (by kernel_rfl) fun l bs v bs' ps hs hp ρ args' w ha hH=>?_
 unfold hBStr at hs
 split at hs
 ·rename_i s
  cases hs
  have h63:s.size≤9223372036854775807:=hp (lbR.fit1 s) (by simp)
  obtain⟨x,rfl,hx⟩:=args1 ha
  obtain⟨r0,c,p,v,e1,e2,rfl,e4,e5,e6⟩:=wB_open hH (b:=0) (t:=1) (s:=s) rfl
  obtain⟨r,o,e3,rfl⟩:=hx
  rw[e1]at e3
  cases e3
  have hdat:CRel ρ (.dat (.int .u8) (arR.dByt s) none) v:=by
   rcases bf_dat e5 with q|⟨r,o,len,cap,q1,q2,q3,q4,-⟩
   ·exact .inl q
   ·exact .inr ⟨r,o,len,cap,q1,q2,q3,q4,fun t ht=>by cases ht⟩
  have fin:∀w',HRel w 2 ρ ([some ⟨false,.lst [.adr 0 167,.bf s 1 5]⟩,some ⟨true,.dead⟩]:Heap) w'→HRel w 2 ρ ([some ⟨false,.lst [.adr 0 167,.dat (.int .u8) (lbR.byt s) none]⟩,some ⟨true,.dead⟩]:Heap) w':=by
   intro w' hh
   refine hh.swap fun n=>?_
   match n with
   |0=>
    refine .inr ⟨_,_,rfl,rfl,rfl,rfl,by simp,by simp,fun r o ⟨c,ty,fz,q1,q2,q3⟩=>⟨c,ty,fz,q1,q2,fun j x hx=>?_⟩⟩
    match j with
    |0=>exact q3 0 x hx
    |1=>
     simp[G.at]at hx
     subst hx
     obtain⟨u,a1,a2⟩:=q3 1 (.bf s 1 5) rfl
     refine⟨u,a1,?_⟩
     rcases bf_dat a2 with q|⟨r,o,len,cap,q1,q2,q3,q4,-⟩
     ·exact .inl q
     ·exact .inr ⟨r,o,len,cap,q1,q2,q3,q4,fun t ht=>by cases ht⟩
    |j+2=>simp[G.at]at hx
   |1=>exact .inl rfl
   |n+2=>exact .inl rfl
  rcases e5 with ⟨rfl,q⟩|⟨r,len,cap,n,rfl,q2,q3,q4,q5,q6,q7,q8⟩
  ·refine(bstr_nil r0 p w e2).mono ?_
   rintro e w' ⟨rfl,rfl⟩
   refine⟨_,ρ,rfl,Ext.refl ρ,?_,fin _ ?_⟩
   ·show Value.string _=.string s
    have:s=⟨#[]⟩:=by
     have h1:s.data.size=0:=q
     cases s with
     |mk d=>simp at h1;subst h1;rfl
    rw[this]
   ·exact(hH.dying (t:=1) (g:=.tail) rfl).drew _
  ·obtain⟨c',fz',g1,g2⟩:=hH.yok r 5 n q2
   have hl:s.data.toList.length=len:=by rw[Array.length_toList];exact q4
   subst hl
   have hfit:=q5.2
   refine(bstr_row r0 r cap p c' s.data.toList w e2 g1 hfit (by omega) (fun h=>by have:=q5.1;rw[h]at this;simp at this) ?_ (fun j x hx=>zok_cell hH.zok (q6 j x hx))).mono ?_
   ·rw[Array.length_toList];exact h63
   rintro e w' ⟨rfl,d,rfl⟩
   refine⟨_,ρ,rfl,Ext.refl ρ,?_,fin _ ?_⟩
   ·show Value.string _=.string s
    rfl
   ·exact hH.iced (t:=1) rfl q7 _ d
 ·cases hs
def hNewW (lf:LB):HSpec:=fun l bs=>match l,bs with
 | [],[]=>some (.a (.one (.ptr 0 (.lit 0))),[⟨false,.lst [.adr 0 167,.bf .empty 1 5]⟩,⟨false,.tail⟩],[])
 |_,_=>none
theorem newW_ok:HOk Try.prog 69 (hNewW lbR):=by
 refine .of_calls Try.func69 (by kernel_rfl) (by kernel_rfl) fun l bs v bs' ps hs hp ρ args' w ha hH=>?_
 unfold hNewW at hs
 split at hs
 ·cases hs
  have:args' = #[]:=Array.size_eq_zero_iff.1 ha.1
  subst this
  refine(newW_calls w).mono ?_
  rintro e w' ⟨rfl,rfl⟩
  obtain⟨ρ1,x1,x2,x3⟩:=HRel.alloc (ty:=167) (hH.pad 2) (nm:=0) rfl (Nat.zero_le _) (g:=.lst [.nil,.nsl]) (arr:=#[.pointer none,.slice none 0 0]) ⟨rfl,fun j x hx=>by
   match j with
   |0=>simp[G.at]at hx;subst hx;exact⟨_,rfl,rfl⟩
   |1=>simp[G.at]at hx;subst hx;exact⟨_,rfl,rfl⟩
   |j+2=>simp[G.at]at hx⟩ rfl
  have hrow:(w.alloc (.cells #[.pointer none,.slice none 0 0] 167)).heap[w.heap.size]? = some (.cells #[.pointer none,.slice none 0 0] 167 (0,0)):=by
   show(w.heap.push _)[w.heap.size]? = _
   rw[Array.getElem?_push,if_pos rfl]
  obtain⟨ρ2,y1,y2,y3,y4,y5⟩:=HRel.typed x3 hrow
  have hp0:ρ2 0=some (w.heap.size,0):=(y2 0).1.trans x2
  have y6:=y5.tailVoid (nm:=1) rfl (Nat.zero_le _)
  refine⟨_,ρ2.void 1,rfl,(x1.trans y1).trans Ext.void,⟨w.heap.size,0,hp0,rfl⟩,y6.swap fun n=>?_⟩
  match n with
  |0=>
   refine .inr ⟨_,_,rfl,rfl,rfl,rfl,by simp,by simp,fun r o ⟨c,ty,fz,q1,q2,q3⟩=>⟨c,ty,fz,q1,q2,fun j x hx=>?_⟩⟩
   match j with
   |0=>
    simp[G.at]at hx
    subst hx
    obtain⟨u,a1,a2⟩:=q3 0 .nil rfl
    exact⟨u,a1,w.heap.size,hp0,y4,.inl a2⟩
   |1=>
    simp[G.at]at hx
    subst hx
    obtain⟨u,a1,a2⟩:=q3 1 .nsl rfl
    exact⟨u,a1,.inl ⟨a2,rfl⟩⟩
   |j+2=>simp[G.at]at hx
  |1=>exact .inl rfl
  |n+2=>exact .inl rfl
 ·cases hs
end Go.Proofs.Ytlbllaocdilafaa
