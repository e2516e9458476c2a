import Derived.Test.YtlbllaocdilafaaZ35
import Derived.Test.YtlbllaocdilafaaZ36
set_option linter.unusedSimpArgs false
set_option linter.unusedVariables false
set_option maxRecDepth 100000
set_option maxHeartbeats 16000000
namespace Go.Eng
open Go
theorem catN_le {f:Nat→ByteArray}{c:Nat}:∀{n:Nat},(∀i,i<n→(f i).size≤c)→(catN f n).size≤n*c
 |0,_=>Nat.zero_le _
 |n+1,h=>by
  have h1:=catN_le (n:=n) fun i hi=>h i (by omega)
  have h2:=h n (by omega)
  rw[catN_succ,bsa,Nat.add_mul]
  omega
theorem cntB_le (n:Int):(cntB n).size≤9:=by
 have h1:=cntB_size n
 have h2:=cntL_le n
 omega
theorem rawB_le (u:ByteArray):(rawB u).size≤9+u.size:=by
 have h1:=rawB_size u
 have h2:=cntL_le (u.size:Int)
 omega
theorem listB_le {f:List D→Nat→ByteArray}{l:List D}{c:Nat}(h:∀i,i<l.length→(f l i).size≤c):(listB f l).size≤9+l.length*c:=by
 have h1:=catN_le (f:=f l) h
 have h2:=cntB_le (l.length:Int)
 unfold listB
 rw[bsa]
 omega
theorem mem_atN {l:List D}{i:Nat}(h:i<l.length):l.getD i (.int 0)∈l:=by
 rw[List.getD_eq_getElem?_getD,geg h];exact List.getElem_mem h
theorem nm_1_agent (m:Ms) (h:m.kind=1):(namedM m).agent=m.agent:=by
 unfold namedM
 rw[h]
 rfl
theorem nm_7_addrs (m:Ms) (h:m.kind=7):(namedM m).addrs=m.addrs:=by
 unfold namedM
 rw[h]
 rfl
theorem nm_8_items (m:Ms) (h:m.kind=8):(namedM m).items=m.items:=by
 unfold namedM
 rw[h]
 rfl
theorem nm_9_items (m:Ms) (h:m.kind=9):(namedM m).items=m.items:=by
 unfold namedM
 rw[h]
 rfl
theorem nm_10_items (m:Ms) (h:m.kind=10):(namedM m).items=m.items:=by
 unfold namedM
 rw[h]
 rfl
theorem nm_11_hashes (m:Ms) (h:m.kind=11):(namedM m).hashes=m.hashes:=by
 unfold namedM
 rw[h]
 rfl
theorem nm_12_heads (m:Ms) (h:m.kind=12):(namedM m).heads=m.heads:=by
 unfold namedM
 rw[h]
 rfl
theorem nm_16_shorts (m:Ms) (h:m.kind=16):(namedM m).shorts=m.shorts:=by
 unfold namedM
 rw[h]
 rfl
theorem nm_16_filled (m:Ms) (h:m.kind=16):(namedM m).filled=m.filled:=by
 unfold namedM
 rw[h]
 rfl
theorem nm_17_places (m:Ms) (h:m.kind=17):(namedM m).places=m.places:=by
 unfold namedM
 rw[h]
 rfl
theorem nm_18_raws (m:Ms) (h:m.kind=18):(namedM m).raws=m.raws:=by
 unfold namedM
 rw[h]
 rfl
theorem pay_small {m:Ms}(hr:m.raw.size≤140737488351232) (hm:¬manyP (namedM m)) (hw:¬wrongP m):(payM m).size≤140737488351232:=by
 have hw1:∀d∈m.heads,strS d=80:=fun d hd=>Decidable.byContradiction fun hh=>hw (Or.inl ⟨d,hd,hh⟩)
 have hw2:m.kind=16→m.head.size=80:=fun hk=>Decidable.byContradiction fun hh=>hw (Or.inr (Or.inr (Or.inl ⟨hk,by omega⟩)))
 clear hw
 obtain⟨a0,a1,a2,a3,a4,⟨a5t,a5s,a5i,a5p⟩,⟨a6t,a6s,a6i,a6p⟩,a7,a8,a9,a10,a11,a12,a13,a14,a15,a16,a17,a18,a19,a20,a21,a22⟩:=m
 simp only at hr hw1 hw2
 unfold payM
 simp only
 split
 ·rename_i hk
  subst hk
  have h1:¬((a7.size:Int)>64):=fun hh=>hm (by unfold manyP;rw[nm_1_agent _ rfl];exact Or.inr (Or.inr (Or.inl hh)))
  rw[verM_size]
  have:=rawB_le a7
  simp only
  omega
 split
 ·rw[layB_size];decide
 split
 ·rename_i hk
  subst hk
  have h1:¬((a11.length:Int)>100):=fun hh=>hm (by unfold manyP;rw[nm_7_addrs _ rfl];exact Or.inr (Or.inr (Or.inr (Or.inl hh))))
  have:=listB_le (f:=elNet) (l:=a11) (c:=30) fun i hi=>by unfold elNet;rw[bsa,layB_size,netB_size];decide
  omega
 split
 ·rename_i hk
  have h1:¬((a12.length:Int)>500):=by
   rcases hk with hk|hk|hk<;>subst hk<;>exact fun hh=>hm (by unfold manyP;(first|rw[nm_8_items _ rfl]|rw[nm_9_items _ rfl]|rw[nm_10_items _ rfl]);exact Or.inr (Or.inr (Or.inr (Or.inr (Or.inl hh)))))
  have:=listB_le (f:=elItem) (l:=a12) (c:=36) fun i hi=>by unfold elItem;rw[bsa,layB_size,rowB_size];decide
  omega
 split
 ·rename_i hk
  subst hk
  have h1:¬((a13.length:Int)>64):=fun hh=>hm (by unfold manyP;rw[nm_11_hashes _ rfl];exact Or.inr (Or.inr (Or.inr (Or.inr (Or.inr (Or.inl hh))))))
  have:=listB_le (f:=elHash) (l:=a13) (c:=32) fun i hi=>by unfold elHash;rw[rowB_size];exact Nat.le_refl 32
  rw[bsa,bsa,layB_size,rowB_size]
  omega
 split
 ·rename_i hk
  subst hk
  have h1:¬((a16.length:Int)>100):=fun hh=>hm (by unfold manyP;rw[nm_12_heads _ rfl];exact Or.inr (Or.inr (Or.inr (Or.inr (Or.inr (Or.inr (Or.inl hh)))))))
  have:=listB_le (f:=elHead) (l:=a16) (c:=81) fun i hi=>by
   unfold elHead
   rw[bsa,layB_size]
   have:=hw1 _ (mem_atN hi)
   unfold strS at this
   omega
  omega
 split
 ·exact hr
 split
 ·rw[bsa,layB_size,flagB_size];decide
 split
 ·rename_i hk
  subst hk
  have h1:¬((a19.length:Int)>500):=fun hh=>hm (by unfold manyP;rw[nm_16_shorts _ rfl];exact Or.inr (Or.inr (Or.inr (Or.inr (Or.inr (Or.inr (Or.inr (Or.inl hh))))))))
  have h2:¬((a20.length:Int)>500):=fun hh=>hm (by unfold manyP;rw[nm_16_filled _ rfl];exact Or.inr (Or.inr (Or.inr (Or.inr (Or.inr (Or.inr (Or.inr (Or.inr (Or.inl hh)))))))))
  have h3:∀d∈a20,¬filS d>4096:=fun d hd hh=>hm (by unfold manyP;rw[nm_16_filled _ rfl];exact Or.inl ⟨d,hd,hh⟩)
  have h4:=hw2 rfl
  have e1:=listB_le (f:=elShort) (l:=a19) (c:=6) fun i hi=>by unfold elShort;rw[layB_size];exact Nat.le_refl 6
  have e2:=listB_le (f:=elFill) (l:=a20) (c:=4114) fun i hi=>by
   unfold elFill gapB
   rw[bsa]
   have f1:=cntB_le (filP (a20.getD i (.int 0))-prevI filP a20 i-1)
   have f2:=rawB_le (a20.getD i (.int 0)).snd!.str!
   have f3:=h3 _ (mem_atN hi)
   unfold filS at f3
   omega
  unfold comM
  rw[bsa,bsa,bsa,layB_size]
  simp only
  omega
 split
 ·rename_i hk
  subst hk
  have h1:¬((a21.length:Int)>500):=fun hh=>hm (by unfold manyP;rw[nm_17_places _ rfl];exact Or.inr (Or.inr (Or.inr (Or.inr (Or.inr (Or.inr (Or.inr (Or.inr (Or.inr (Or.inl hh))))))))))
  have:=listB_le (f:=gapB intS) (l:=a21) (c:=9) fun i hi=>by unfold gapB;exact cntB_le _
  rw[bsa,rowB_size]
  omega
 split
 ·rename_i hk
  subst hk
  have h1:¬((a22.length:Int)>500):=fun hh=>hm (by unfold manyP;rw[nm_18_raws _ rfl];exact Or.inr (Or.inr (Or.inr (Or.inr (Or.inr (Or.inr (Or.inr (Or.inr (Or.inr (Or.inr (hh)))))))))))
  have h3:∀d∈a22,¬strS d>4096:=fun d hd hh=>hm (by unfold manyP;rw[nm_18_raws _ rfl];exact Or.inr (Or.inl ⟨d,hd,hh⟩))
  have e2:=listB_le (f:=elRaw) (l:=a22) (c:=4105) fun i hi=>by
   unfold elRaw
   have f2:=rawB_le (a22.getD i (.int 0)).str!
   have f3:=h3 _ (mem_atN hi)
   unfold strS at f3
   omega
  rw[bsa,rowB_size]
  omega
 ·exact Nat.zero_le _
structure fitM (m:Ms):Prop where
 ok:m.ok
 l:((∀x∈m.addrs,nrmD (.two (.int .u32) (.two (.int .u64) (.two (.arr .u8 16) (.int .u16)))) x=x)∧m.addrs.length*40≤140737488351232)∧((∀x∈m.items,nrmD (.two (.int .u32) (.arr .u8 32)) x=x)∧m.items.length*36≤140737488351232)∧((∀x∈m.hashes,nrmD (.arr .u8 32) x=x)∧m.hashes.length*32≤140737488351232)∧((∀x∈m.heads,nrmD (.str) x=x)∧m.heads.length*16≤140737488351232)∧((∀x∈m.shorts,nrmD (.int .u64) x=x)∧m.shorts.length*8≤140737488351232)∧((∀x∈m.filled,nrmD (.two (.int .i64) .str) x=x)∧m.filled.length*24≤140737488351232)∧((∀x∈m.places,nrmD (.int .i64) x=x)∧m.places.length*8≤140737488351232)∧((∀x∈m.raws,nrmD (.str) x=x)∧m.raws.length*16≤140737488351232)
theorem fitM.ite {p:Prop} [Decidable p] {a b:Ms}(ha:fitM a) (hb:fitM b):fitM (if p then a else b):=by
 by_cases h:p
 ·rw[if_pos h];exact ha
 ·rw[if_neg h];exact hb
theorem fitM.mFit {m:Ms}(h:fitM m):mFit m.D:=by
 obtain⟨h1,⟨f11,n11⟩,⟨f12,n12⟩,⟨f13,n13⟩,⟨f16,n16⟩,⟨f19,n19⟩,⟨f20,n20⟩,⟨f21,n21⟩,⟨f22,n22⟩⟩:=h
 exact⟨m,rfl,h1,f11,n11,f12,n12,f13,n13,f16,n16,f19,n19,f20,n20,f21,n21,f22,n22⟩
theorem fitM.named {m:Ms}(h:fitM m):fitM (namedM m):=by
 obtain⟨⟨h1,h2,h3,h4,g1,g2,g3,g4,g5,g6,g7,g8⟩,l1,l2,l3,l4,l5,l6,l7,l8⟩:=h
 have z0:(0:Nat)≤4611686018427387904:=Nat.zero_le _
 have r16:(List.replicate 16 (0:Int)).length=16:=rfl
 have r32:(List.replicate 32 (0:Int)).length=32:=rfl
 have nl:∀(s:Sh) (k:Nat),(∀x∈([]:List D),nrmD s x=x)∧([]:List D).length*k≤140737488351232:=fun s k=>⟨fun x hx=>(by cases hx),by simp⟩
 unfold namedM
 repeat' apply fitM.ite
 all_goals
  refine⟨?_,?_⟩
  ·constructor<;>first|assumption|exact z0|exact r16|exact r32
  ·refine⟨?_,?_,?_,?_,?_,?_,?_,?_⟩<;>first|assumption|exact nl _ _
def mAll (d:D):Prop:=∃m:Ms,d=m.D∧okD MS m.D∧fitM m∧(m.addrs.length≤140737488351232∧m.items.length≤140737488351232∧m.hashes.length≤140737488351232∧m.heads.length≤140737488351232∧m.shorts.length≤140737488351232∧m.filled.length≤140737488351232∧m.places.length≤140737488351232∧m.raws.length≤140737488351232)∧m.raw.size≤140737488351232
open Classical in
noncomputable def encS (m:Ms):ByteArray:=if((cmdOf m.kind).toList == ByteArray.empty.toList)=true∨manyP (namedM m)∨wrongP m∨(payM m).size>16384 then .empty else payM m
open Classical in
noncomputable def encE (m:Ms):Int:=if((cmdOf m.kind).toList == ByteArray.empty.toList)=true then 90 else if manyP (namedM m)then 5 else if wrongP m then 1 else if(payM m).size>16384 then 110 else 0
open Classical in
theorem enc_1 {m:Ms}(h:((cmdOf m.kind).toList == ByteArray.empty.toList)=true):encS m=.empty∧encE m=90:=⟨if_pos (.inl h),if_pos h⟩
open Classical in
theorem enc_2 {m:Ms}(h:¬((cmdOf m.kind).toList == ByteArray.empty.toList)=true) (h2:manyP (namedM m)):encS m=.empty∧encE m=5:=⟨if_pos (.inr (.inl h2)),(if_neg h).trans (if_pos h2)⟩
open Classical in
theorem enc_3 {m:Ms}(h:¬((cmdOf m.kind).toList == ByteArray.empty.toList)=true) (h2:¬manyP (namedM m)) (h3:wrongP m):encS m=.empty∧encE m=1:=⟨if_pos (.inr (.inr (.inl h3))),(if_neg h).trans ((if_neg h2).trans (if_pos h3))⟩
open Classical in
theorem enc_4 {m:Ms}(h:¬((cmdOf m.kind).toList == ByteArray.empty.toList)=true) (h2:¬manyP (namedM m)) (h3:¬wrongP m) (h4:(payM m).size>16384):encS m=.empty∧encE m=110:=⟨if_pos (.inr (.inr (.inr h4))),(if_neg h).trans ((if_neg h2).trans ((if_neg h3).trans (if_pos h4)))⟩
open Classical in
theorem enc_5 {m:Ms}(h:¬((cmdOf m.kind).toList == ByteArray.empty.toList)=true) (h2:¬manyP (namedM m)) (h3:¬wrongP m) (h4:¬(payM m).size>16384):encS m=payM m∧encE m=0:=⟨if_neg (by rintro(g|g|g|g);exact h g;exact h2 g;exact h3 g;exact h4 g),(if_neg h).trans ((if_neg h2).trans ((if_neg h3).trans (if_neg h4)))⟩
theorem cmd_rng {k:Int}(h:¬((cmdOf k).toList == ByteArray.empty.toList)=true):1≤k∧k≤18:=by
 refine Decidable.byContradiction fun hn=>h ?_
 have hk:k=0∨¬(0≤k∧k<19):=by omega
 rcases hk with rfl|hk
 ·show((cmdOf 0).toList == ByteArray.empty.toList)=true
  kernel_rfl
 ·rw[show cmdOf k=⟨⟨[]⟩⟩from if_neg hk]
  show((⟨⟨[]⟩⟩:ByteArray).toList == ByteArray.empty.toList)=true
  kernel_rfl
theorem putOk_of {m:Ms}(h:okD MS m.D) (hl:m.addrs.length≤140737488351232∧m.items.length≤140737488351232∧m.hashes.length≤140737488351232∧m.heads.length≤140737488351232∧m.shorts.length≤140737488351232∧m.filled.length≤140737488351232∧m.places.length≤140737488351232∧m.raws.length≤140737488351232) (hw:¬wrongP m):putOk m.D:=by
 refine⟨m,rfl,h,hl,?_,?_⟩
 ·exact Classical.byContradiction fun hh=>hw (Or.inr (Or.inr (Or.inr (Or.inl hh))))
 ·exact Classical.byContradiction fun hh=>hw (Or.inr (Or.inr (Or.inr (Or.inr (Or.inl hh)))))
theorem pay_bare {m:Ms}(h:m.kind<1∨(m.kind=2∨m.kind=3∨m.kind=4)∨18<m.kind):payM m=.empty:=by
 unfold payM
 have e1:¬m.kind=1:=by omega
 have e2:¬(m.kind=5∨m.kind=6):=by omega
 have e3:¬m.kind=7:=by omega
 have e4:¬(m.kind=8∨m.kind=9∨m.kind=10):=by omega
 have e5:¬m.kind=11:=by omega
 have e6:¬m.kind=12:=by omega
 have e7:¬(m.kind=13∨m.kind=14):=by omega
 have e8:¬m.kind=15:=by omega
 have e9:¬m.kind=16:=by omega
 have e10:¬m.kind=17:=by omega
 have e11:¬m.kind=18:=by omega
 rw[if_neg e1,if_neg e2,if_neg e3,if_neg e4,if_neg e5,if_neg e6,if_neg e7,if_neg e8,if_neg e9,if_neg e10,if_neg e11]
structure EM extends QR where
 encS:D→ByteArray
 encE:D→Int
 mAll:D→Prop
noncomputable def emR:EM where
 toQR:=qrR
 encS d:=encS (msOf d)
 encE d:=encE (msOf d)
 mAll:=mAll
def isFat (d:D):Prop:=¬((msOf d).kind=2∨(msOf d).kind=3∨(msOf d).kind=4)
def isBare (d:D):Prop:=(msOf d).kind=2∨(msOf d).kind=3∨(msOf d).kind=4
end Go.Eng
namespace Go.Proofs.Ytlbllaocdilafaa
open Go Go.Eng Go.Proofs Go.RowKit
attribute[local irreducible] CallOk HOk Run TIok rbin rcmp run1 updF shfF blitF
noncomputable def tsy0 (lf:EM):Tbl:=tbL [(45,nP (sCmd ⟨lf.toQR.toPM.toME5.toME4.toME3.toME2.toME1.toLN9.toLN8.toLN7.toLN6.toLN5.toLN4.toLN1,lf.toQR.toPM.toME5.toME4.toME3.toME2.toME1.toLN9.toLN8.cmd⟩)),(67,sNamed lf.toQR.toPM.toME5.toME4.toME3),(66,sMany lf.toQR.toPM.toME5.toME4.toME3.toME2),(68,sWrong lf.toQR.toPM.toME5)] [(69,hNewW lf.n.toWL.toLA.toLB),(70,hPut lf.toQR.toPM),(71,nH (hWLen lf.n.toWL.toLA)),(72,nH (hWText lf.n.toWL.toLA))]
theorem tsy0_ok:TblOk Try.prog (tsy0 emR):=tbL_ok (mc ⟨cmd_ok.nP,mc ⟨named_ok,mc ⟨many_ok,mc ⟨wrong_ok,nofun⟩⟩⟩⟩) (mc ⟨newW_ok,mc ⟨put_ok,mc ⟨wlen_ok.nH,mc ⟨wtext_ok.nH,nofun⟩⟩⟩⟩)
noncomputable def tsy1 (lf:EM):Tbl:=tbL [(45,nP (sCmd ⟨lf.toQR.toPM.toME5.toME4.toME3.toME2.toME1.toLN9.toLN8.toLN7.toLN6.toLN5.toLN4.toLN1,lf.toQR.toPM.toME5.toME4.toME3.toME2.toME1.toLN9.toLN8.cmd⟩)),(67,sNamed lf.toQR.toPM.toME5.toME4.toME3),(66,sMany lf.toQR.toPM.toME5.toME4.toME3.toME2),(68,sWrong lf.toQR.toPM.toME5)] [(69,hNewW lf.n.toWL.toLA.toLB),(70,hPut0 lf.toQR.toPM),(71,nH (hWLen lf.n.toWL.toLA)),(72,nH (hWText lf.n.toWL.toLA))]
theorem tsy1_ok:TblOk Try.prog (tsy1 emR):=tbL_ok (mc ⟨cmd_ok.nP,mc ⟨named_ok,mc ⟨many_ok,mc ⟨wrong_ok,nofun⟩⟩⟩⟩) (mc ⟨newW_ok,mc ⟨put0_ok,mc ⟨wlen_ok.nH,mc ⟨wtext_ok.nH,nofun⟩⟩⟩⟩)
noncomputable def tsy2 (lf:EM):Tbl:=tbL [(42,nP (sCmd ⟨lf.toQR.toPM.toME5.toME4.toME3.toME2.toME1.toLN9.toLN8.toLN7.toLN6.toLN5.toLN4.toLN1,lf.toQR.toPM.toME5.toME4.toME3.toME2.toME1.toLN9.toLN8.cmd⟩)),(74,sNamed lf.toQR.toPM.toME5.toME4.toME3),(73,sMany lf.toQR.toPM.toME5.toME4.toME3.toME2),(75,sWrong lf.toQR.toPM.toME5),(76,sPay lf.toQR)] []
theorem tsy2_ok:TblOk Try.prog (tsy2 emR):=tbL_ok (mc ⟨rcmd_ok.nP,mc ⟨rnamed_ok,mc ⟨rmany_ok,mc ⟨odd_ok,mc ⟨payl_ok,nofun⟩⟩⟩⟩⟩) (nofun)
noncomputable def tsy3 (lf:EM):Tbl:=tbL [(42,nP (sCmd ⟨lf.toQR.toPM.toME5.toME4.toME3.toME2.toME1.toLN9.toLN8.toLN7.toLN6.toLN5.toLN4.toLN1,lf.toQR.toPM.toME5.toME4.toME3.toME2.toME1.toLN9.toLN8.cmd⟩)),(74,sNamed lf.toQR.toPM.toME5.toME4.toME3),(73,sMany lf.toQR.toPM.toME5.toME4.toME3.toME2),(75,sWrong lf.toQR.toPM.toME5),(76,sPay0 lf.toQR)] []
theorem tsy3_ok:TblOk Try.prog (tsy3 emR):=tbL_ok (mc ⟨rcmd_ok.nP,mc ⟨rnamed_ok,mc ⟨rmany_ok,mc ⟨odd_ok,mc ⟨pay0_ok,nofun⟩⟩⟩⟩⟩) (nofun)
noncomputable def sEncG (G:D→Prop):ESpec:=fun l=>match l with
 | [.agg (.prt [.v sh d])]=>if shEq sh MS then some (.tup [.one (.str (emR.encS d)),.one (.int .i64 (emR.encE d))],[mAll d,G d])else none
 |_=>none
theorem enc_fat:CallOk Try.prog 37 (sEncG isFat):=by
 refine .of_run (hc:=(tsy0 emR).hc) Try.func37 rfl (by kernel_rfl) (by kernel_rfl) fun xs v ps hs hp w=>?_
 unfold sEncG at hs
 split at hs
 ·rename_i sh d
  split at hs
  ·rename_i hsh
   obtain rfl:=shEq_eq hsh
   clear hsh
   cases hs
   have hG:isFat d:=hp (isFat d) (by simp)
   obtain⟨m,rfl,hok,hfm,hlen,hraw⟩:=hp (mAll d) (by simp)
   have hG2:¬(m.kind=2∨m.kind=3∨m.kind=4):=(congrArg (fun x:Ms=>¬(x.kind=2∨x.kind=3∨x.kind=4)) (msOf_D m)).mp hG
   clear hp
   have hmf:mFit m.D:=hfm.mFit
   have hnm:qrR.named m.D=(namedM m).D:=congrArg (fun x=>(namedM x).D) (msOf_D m)
   have hmf2:mFit (qrR.named m.D):=by rw[hnm];exact hfm.named.mFit
   have e1:emR.encS m.D=encS m:=congrArg encS (msOf_D m)
   have e2:emR.encE m.D=encE m:=congrArg encE (msOf_D m)
   have em:me5.many (qrR.named m.D)=manyV (namedM m):=by rw[hnm];exact congrArg manyV (msOf_D _)
   have ew:me5.wrong m.D=wrongV m:=congrArg wrongV (msOf_D m)
   have ep:qrR.pay m.D=payM m:=payOfE
   rw[e1,e2]
   by_cases h1:((cmdOf m.kind).toList == ByteArray.empty.toList)=true
   ·obtain⟨x1,x2⟩:=enc_1 h1
    rw[x1,x2]
    obtain⟨a0,a1,a2,a3,a4,⟨a5t,a5s,a5i,a5p⟩,⟨a6t,a6s,a6i,a6p⟩,a7,a8,a9,a10,a11,a12,a13,a14,a15,a16,a17,a18,a19,a20,a21,a22⟩:=m
    refine rx tsy0_ok 999 false 400 [true] ?_ ?_
    ·simp only[conj,z0,z2,arR,z1,zd]
     (repeat' with_reducible apply And.intro)<;>first
       |exact hmf
       |exact hmf2
       |exact h1
       |exact trivial
       |omega
       |decide
    ·exact Run.ret ti_ok rfl rfl (VLe.tup2 (.str rfl) (.lit rfl))
   have h1':((cmdOf m.kind).toList == ByteArray.empty.toList)=false:=by simpa using h1
   by_cases h2:manyP (namedM m)
   ·obtain⟨x1,x2⟩:=enc_2 h1 h2
    have hmv:me5.many (qrR.named m.D)=true:=em.trans (many_yes h2)
    rw[x1,x2]
    obtain⟨a0,a1,a2,a3,a4,⟨a5t,a5s,a5i,a5p⟩,⟨a6t,a6s,a6i,a6p⟩,a7,a8,a9,a10,a11,a12,a13,a14,a15,a16,a17,a18,a19,a20,a21,a22⟩:=m
    refine rx tsy0_ok 999 false 400 [false,true] ?_ ?_
    ·simp only[conj,z0,z2,arR,z1,zd]
     (repeat' with_reducible apply And.intro)<;>first
       |exact hmf
       |exact hmf2
       |exact h1'
       |exact hmv
       |exact trivial
       |omega
       |decide
    ·exact Run.ret ti_ok rfl rfl (VLe.tup2 (.str rfl) (.lit rfl))
   have hmv:me5.many (qrR.named m.D)=false:=em.trans (many_no h2)
   by_cases h3:wrongP m
   ·obtain⟨x1,x2⟩:=enc_3 h1 h2 h3
    have hwv:me5.wrong m.D=true:=ew.trans (wrong_yes h3)
    rw[x1,x2]
    obtain⟨a0,a1,a2,a3,a4,⟨a5t,a5s,a5i,a5p⟩,⟨a6t,a6s,a6i,a6p⟩,a7,a8,a9,a10,a11,a12,a13,a14,a15,a16,a17,a18,a19,a20,a21,a22⟩:=m
    refine rx tsy0_ok 999 false 400 [false,false,true] ?_ ?_
    ·simp only[conj,z0,z2,arR,z1,zd]
     (repeat' with_reducible apply And.intro)<;>first
       |exact hmf
       |exact hmf2
       |exact h1'
       |exact hmv
       |exact hwv
       |exact trivial
       |omega
       |decide
    ·exact Run.ret ti_ok rfl rfl (VLe.tup2 (.str rfl) (.lit rfl))
   have hwv:me5.wrong m.D=false:=ew.trans (wrong_no h3)
   have hpo:putOk m.D:=putOk_of hok hlen h3
   have hps:=pay_small hraw h2 h3
   have hk:=cmd_rng h1
   have hfat:qrR.fat m.D:=(congrArg (fun x:Ms=>(1≤x.kind∧x.kind≤18)∧¬(x.kind=2∨x.kind=3∨x.kind=4)) (msOf_D m)).mpr ⟨hk,hG2⟩
   have hf0:ByteArray.empty.size+(qrR.pay m.D).size≤140737488355328:=by rw[ep];show 0+(payM m).size≤_;omega
   have hf1:(qrR.pay m.D).size≤140737488355328:=by rw[ep];omega
   have hf2:(ByteArray.empty++qrR.pay m.D).size≤9223372036854775807:=by rw[bsa];omega
   have hf3:(ByteArray.empty++qrR.pay m.D).size=(payM m).size:=by rw[ByteArray.empty_append,ep]
   have hf4:(qrR.pay m.D).size=(payM m).size:=by rw[ep]
   by_cases h4:(payM m).size>16384
   ·obtain⟨x1,x2⟩:=enc_4 h1 h2 h3 h4
    rw[x1,x2]
    have hf6:((ByteArray.empty++qrR.pay m.D).size:Int)>16384:=by rw[hf3];omega
    have hf7:((qrR.pay m.D).size:Int)>16384:=by rw[hf4];omega
    generalize payM m=py at *
    obtain⟨a0,a1,a2,a3,a4,⟨a5t,a5s,a5i,a5p⟩,⟨a6t,a6s,a6i,a6p⟩,a7,a8,a9,a10,a11,a12,a13,a14,a15,a16,a17,a18,a19,a20,a21,a22⟩:=m
    refine rx tsy0_ok 999 false 400 [false,false,false,true] ?_ ?_
    ·simp only[conj,z0,z2,arR,z1,zd,hf3,hf4]
     (repeat' with_reducible apply And.intro)<;>first
       |exact hmf
       |exact hmf2
       |exact hpo
       |exact hfat
       |exact hf0
       |exact hf1
       |exact hf2
       |exact hf6
       |exact hf7
       |exact h1'
       |exact hmv
       |exact hwv
       |exact trivial
       |omega
       |decide
    ·exact Run.ret ti_ok rfl rfl (VLe.tup2 (.str rfl) (.lit rfl))
   ·obtain⟨x1,x2⟩:=enc_5 h1 h2 h3 h4
    rw[x1,x2]
    have hf6:¬((ByteArray.empty++qrR.pay m.D).size:Int)>16384:=by rw[hf3];omega
    have hf7:¬((qrR.pay m.D).size:Int)>16384:=by rw[hf4];omega
    generalize payM m=py at *
    obtain⟨a0,a1,a2,a3,a4,⟨a5t,a5s,a5i,a5p⟩,⟨a6t,a6s,a6i,a6p⟩,a7,a8,a9,a10,a11,a12,a13,a14,a15,a16,a17,a18,a19,a20,a21,a22⟩:=m
    refine rx tsy0_ok 999 false 400 [false,false,false,false] ?_ ?_
    ·simp only[conj,z0,z2,arR,z1,zd,hf3,hf4]
     (repeat' with_reducible apply And.intro)<;>first
       |exact hmf
       |exact hmf2
       |exact hpo
       |exact hfat
       |exact hf0
       |exact hf1
       |exact hf2
       |exact hf6
       |exact hf7
       |exact h1'
       |exact hmv
       |exact hwv
       |exact trivial
       |omega
       |decide
    ·refine Run.ret ti_ok rfl rfl (VLe.tup2 (.str ?_) (.lit rfl))
     show ByteArray.empty++qrR.pay _=py
     rw[ByteArray.empty_append];exact ep
  ·cases hs
 ·cases hs
theorem enc_bare:CallOk Try.prog 37 (sEncG isBare):=by
 refine .of_run (hc:=(tsy1 emR).hc) Try.func37 rfl (by kernel_rfl) (by kernel_rfl) fun xs v ps hs hp w=>?_
 unfold sEncG at hs
 split at hs
 ·rename_i sh d
  split at hs
  ·rename_i hsh
   obtain rfl:=shEq_eq hsh
   clear hsh
   cases hs
   have hG:isBare d:=hp (isBare d) (by simp)
   obtain⟨m,rfl,hok,hfm,hlen,hraw⟩:=hp (mAll d) (by simp)
   have hG2:m.kind=2∨m.kind=3∨m.kind=4:=(congrArg (fun x:Ms=>x.kind=2∨x.kind=3∨x.kind=4) (msOf_D m)).mp hG
   clear hp
   have hmf:mFit m.D:=hfm.mFit
   have hnm:qrR.named m.D=(namedM m).D:=congrArg (fun x=>(namedM x).D) (msOf_D m)
   have hmf2:mFit (qrR.named m.D):=by rw[hnm];exact hfm.named.mFit
   have e1:emR.encS m.D=encS m:=congrArg encS (msOf_D m)
   have e2:emR.encE m.D=encE m:=congrArg encE (msOf_D m)
   have em:me5.many (qrR.named m.D)=manyV (namedM m):=by rw[hnm];exact congrArg manyV (msOf_D _)
   have ew:me5.wrong m.D=wrongV m:=congrArg wrongV (msOf_D m)
   have ep:qrR.pay m.D=payM m:=payOfE
   rw[e1,e2]
   by_cases h1:((cmdOf m.kind).toList == ByteArray.empty.toList)=true
   ·obtain⟨x1,x2⟩:=enc_1 h1
    rw[x1,x2]
    obtain⟨a0,a1,a2,a3,a4,⟨a5t,a5s,a5i,a5p⟩,⟨a6t,a6s,a6i,a6p⟩,a7,a8,a9,a10,a11,a12,a13,a14,a15,a16,a17,a18,a19,a20,a21,a22⟩:=m
    refine rx tsy1_ok 999 false 400 [true] ?_ ?_
    ·simp only[conj,z0,z2,arR,z1,zd]
     (repeat' with_reducible apply And.intro)<;>first
       |exact hmf
       |exact hmf2
       |exact h1
       |exact trivial
       |omega
       |decide
    ·exact Run.ret ti_ok rfl rfl (VLe.tup2 (.str rfl) (.lit rfl))
   have h1':((cmdOf m.kind).toList == ByteArray.empty.toList)=false:=by simpa using h1
   by_cases h2:manyP (namedM m)
   ·obtain⟨x1,x2⟩:=enc_2 h1 h2
    have hmv:me5.many (qrR.named m.D)=true:=em.trans (many_yes h2)
    rw[x1,x2]
    obtain⟨a0,a1,a2,a3,a4,⟨a5t,a5s,a5i,a5p⟩,⟨a6t,a6s,a6i,a6p⟩,a7,a8,a9,a10,a11,a12,a13,a14,a15,a16,a17,a18,a19,a20,a21,a22⟩:=m
    refine rx tsy1_ok 999 false 400 [false,true] ?_ ?_
    ·simp only[conj,z0,z2,arR,z1,zd]
     (repeat' with_reducible apply And.intro)<;>first
       |exact hmf
       |exact hmf2
       |exact h1'
       |exact hmv
       |exact trivial
       |omega
       |decide
    ·exact Run.ret ti_ok rfl rfl (VLe.tup2 (.str rfl) (.lit rfl))
   have hmv:me5.many (qrR.named m.D)=false:=em.trans (many_no h2)
   by_cases h3:wrongP m
   ·obtain⟨x1,x2⟩:=enc_3 h1 h2 h3
    have hwv:me5.wrong m.D=true:=ew.trans (wrong_yes h3)
    rw[x1,x2]
    obtain⟨a0,a1,a2,a3,a4,⟨a5t,a5s,a5i,a5p⟩,⟨a6t,a6s,a6i,a6p⟩,a7,a8,a9,a10,a11,a12,a13,a14,a15,a16,a17,a18,a19,a20,a21,a22⟩:=m
    refine rx tsy1_ok 999 false 400 [false,false,true] ?_ ?_
    ·simp only[conj,z0,z2,arR,z1,zd]
     (repeat' with_reducible apply And.intro)<;>first
       |exact hmf
       |exact hmf2
       |exact h1'
       |exact hmv
       |exact hwv
       |exact trivial
       |omega
       |decide
    ·exact Run.ret ti_ok rfl rfl (VLe.tup2 (.str rfl) (.lit rfl))
   have hwv:me5.wrong m.D=false:=ew.trans (wrong_no h3)
   have hpo:putOk m.D:=putOk_of hok hlen h3
   have hps:=pay_small hraw h2 h3
   have hk:=cmd_rng h1
   have hbr:qrR.bare m.D:=(congrArg (fun x:Ms=>x.kind<1∨(x.kind=2∨x.kind=3∨x.kind=4)∨18<x.kind) (msOf_D m)).mpr (.inr (.inl hG2))
   have ep0:payM m=.empty:=pay_bare (.inr (.inl hG2))
   obtain⟨x1,x2⟩:=enc_5 h1 h2 h3 (by rw[ep0];decide)
   have hf6:¬((ByteArray.empty.size:Nat):Int)>16384:=by decide
   have hf7:ByteArray.empty.size≤9223372036854775807:=by decide
   rw[x1,x2,ep0]
   obtain⟨a0,a1,a2,a3,a4,⟨a5t,a5s,a5i,a5p⟩,⟨a6t,a6s,a6i,a6p⟩,a7,a8,a9,a10,a11,a12,a13,a14,a15,a16,a17,a18,a19,a20,a21,a22⟩:=m
   refine rx tsy1_ok 999 false 400 [false,false,false,false] ?_ ?_
   ·simp only[conj,z0,z2,arR,z1,zd]
    (repeat' with_reducible apply And.intro)<;>first
      |exact hmf
      |exact hmf2
      |exact hf6
      |exact hf7
      |exact h1'
      |exact hmv
      |exact hwv
      |exact hbr
      |exact trivial
      |omega
      |decide
   ·exact Run.ret ti_ok rfl rfl (VLe.tup2 (.str rfl) (.lit rfl))
  ·cases hs
 ·cases hs
theorem renc_fat:CallOk Try.prog 38 (sEncG isFat):=by
 refine .of_run (hc:=(tsy2 emR).hc) Try.func38 rfl (by kernel_rfl) (by kernel_rfl) fun xs v ps hs hp w=>?_
 unfold sEncG at hs
 split at hs
 ·rename_i sh d
  split at hs
  ·rename_i hsh
   obtain rfl:=shEq_eq hsh
   clear hsh
   cases hs
   have hG:isFat d:=hp (isFat d) (by simp)
   obtain⟨m,rfl,hok,hfm,hlen,hraw⟩:=hp (mAll d) (by simp)
   have hG2:¬(m.kind=2∨m.kind=3∨m.kind=4):=(congrArg (fun x:Ms=>¬(x.kind=2∨x.kind=3∨x.kind=4)) (msOf_D m)).mp hG
   clear hp
   have hmf:mFit m.D:=hfm.mFit
   have hnm:qrR.named m.D=(namedM m).D:=congrArg (fun x=>(namedM x).D) (msOf_D m)
   have hmf2:mFit (qrR.named m.D):=by rw[hnm];exact hfm.named.mFit
   have e1:emR.encS m.D=encS m:=congrArg encS (msOf_D m)
   have e2:emR.encE m.D=encE m:=congrArg encE (msOf_D m)
   have em:me5.many (qrR.named m.D)=manyV (namedM m):=by rw[hnm];exact congrArg manyV (msOf_D _)
   have ew:me5.wrong m.D=wrongV m:=congrArg wrongV (msOf_D m)
   have ep:qrR.pay m.D=payM m:=payOfE
   rw[e1,e2]
   by_cases h1:((cmdOf m.kind).toList == ByteArray.empty.toList)=true
   ·obtain⟨x1,x2⟩:=enc_1 h1
    rw[x1,x2]
    obtain⟨a0,a1,a2,a3,a4,⟨a5t,a5s,a5i,a5p⟩,⟨a6t,a6s,a6i,a6p⟩,a7,a8,a9,a10,a11,a12,a13,a14,a15,a16,a17,a18,a19,a20,a21,a22⟩:=m
    refine rx tsy2_ok 999 false 400 [true] ?_ ?_
    ·simp only[conj,z0,z2,arR,z1,zd]
     (repeat' with_reducible apply And.intro)<;>first
       |exact hmf
       |exact hmf2
       |exact h1
       |exact trivial
       |omega
       |decide
    ·exact Run.ret ti_ok rfl rfl (VLe.tup2 (.str rfl) (.lit rfl))
   have h1':((cmdOf m.kind).toList == ByteArray.empty.toList)=false:=by simpa using h1
   by_cases h2:manyP (namedM m)
   ·obtain⟨x1,x2⟩:=enc_2 h1 h2
    have hmv:me5.many (qrR.named m.D)=true:=em.trans (many_yes h2)
    rw[x1,x2]
    obtain⟨a0,a1,a2,a3,a4,⟨a5t,a5s,a5i,a5p⟩,⟨a6t,a6s,a6i,a6p⟩,a7,a8,a9,a10,a11,a12,a13,a14,a15,a16,a17,a18,a19,a20,a21,a22⟩:=m
    refine rx tsy2_ok 999 false 400 [false,true] ?_ ?_
    ·simp only[conj,z0,z2,arR,z1,zd]
     (repeat' with_reducible apply And.intro)<;>first
       |exact hmf
       |exact hmf2
       |exact h1'
       |exact hmv
       |exact trivial
       |omega
       |decide
    ·exact Run.ret ti_ok rfl rfl (VLe.tup2 (.str rfl) (.lit rfl))
   have hmv:me5.many (qrR.named m.D)=false:=em.trans (many_no h2)
   by_cases h3:wrongP m
   ·obtain⟨x1,x2⟩:=enc_3 h1 h2 h3
    have hwv:me5.wrong m.D=true:=ew.trans (wrong_yes h3)
    rw[x1,x2]
    obtain⟨a0,a1,a2,a3,a4,⟨a5t,a5s,a5i,a5p⟩,⟨a6t,a6s,a6i,a6p⟩,a7,a8,a9,a10,a11,a12,a13,a14,a15,a16,a17,a18,a19,a20,a21,a22⟩:=m
    refine rx tsy2_ok 999 false 400 [false,false,true] ?_ ?_
    ·simp only[conj,z0,z2,arR,z1,zd]
     (repeat' with_reducible apply And.intro)<;>first
       |exact hmf
       |exact hmf2
       |exact h1'
       |exact hmv
       |exact hwv
       |exact trivial
       |omega
       |decide
    ·exact Run.ret ti_ok rfl rfl (VLe.tup2 (.str rfl) (.lit rfl))
   have hwv:me5.wrong m.D=false:=ew.trans (wrong_no h3)
   have hpo:putOk m.D:=putOk_of hok hlen h3
   have hps:=pay_small hraw h2 h3
   have hk:=cmd_rng h1
   have hfat:qrR.fat m.D:=(congrArg (fun x:Ms=>(1≤x.kind∧x.kind≤18)∧¬(x.kind=2∨x.kind=3∨x.kind=4)) (msOf_D m)).mpr ⟨hk,hG2⟩
   have hf0:ByteArray.empty.size+(qrR.pay m.D).size≤140737488355328:=by rw[ep];show 0+(payM m).size≤_;omega
   have hf1:(qrR.pay m.D).size≤140737488355328:=by rw[ep];omega
   have hf2:(ByteArray.empty++qrR.pay m.D).size≤9223372036854775807:=by rw[bsa];omega
   have hf3:(ByteArray.empty++qrR.pay m.D).size=(payM m).size:=by rw[ByteArray.empty_append,ep]
   have hf4:(qrR.pay m.D).size=(payM m).size:=by rw[ep]
   by_cases h4:(payM m).size>16384
   ·obtain⟨x1,x2⟩:=enc_4 h1 h2 h3 h4
    rw[x1,x2]
    have hf6:((ByteArray.empty++qrR.pay m.D).size:Int)>16384:=by rw[hf3];omega
    have hf7:((qrR.pay m.D).size:Int)>16384:=by rw[hf4];omega
    generalize payM m=py at *
    obtain⟨a0,a1,a2,a3,a4,⟨a5t,a5s,a5i,a5p⟩,⟨a6t,a6s,a6i,a6p⟩,a7,a8,a9,a10,a11,a12,a13,a14,a15,a16,a17,a18,a19,a20,a21,a22⟩:=m
    refine rx tsy2_ok 999 false 400 [false,false,false,true] ?_ ?_
    ·simp only[conj,z0,z2,arR,z1,zd,hf3,hf4]
     (repeat' with_reducible apply And.intro)<;>first
       |exact hmf
       |exact hmf2
       |exact hpo
       |exact hfat
       |exact hf0
       |exact hf1
       |exact hf2
       |exact hf6
       |exact hf7
       |exact h1'
       |exact hmv
       |exact hwv
       |exact trivial
       |omega
       |decide
    ·exact Run.ret ti_ok rfl rfl (VLe.tup2 (.str rfl) (.lit rfl))
   ·obtain⟨x1,x2⟩:=enc_5 h1 h2 h3 h4
    rw[x1,x2]
    have hf6:¬((ByteArray.empty++qrR.pay m.D).size:Int)>16384:=by rw[hf3];omega
    have hf7:¬((qrR.pay m.D).size:Int)>16384:=by rw[hf4];omega
    generalize payM m=py at *
    obtain⟨a0,a1,a2,a3,a4,⟨a5t,a5s,a5i,a5p⟩,⟨a6t,a6s,a6i,a6p⟩,a7,a8,a9,a10,a11,a12,a13,a14,a15,a16,a17,a18,a19,a20,a21,a22⟩:=m
    refine rx tsy2_ok 999 false 400 [false,false,false,false] ?_ ?_
    ·simp only[conj,z0,z2,arR,z1,zd,hf3,hf4]
     (repeat' with_reducible apply And.intro)<;>first
       |exact hmf
       |exact hmf2
       |exact hpo
       |exact hfat
       |exact hf0
       |exact hf1
       |exact hf2
       |exact hf6
       |exact hf7
       |exact h1'
       |exact hmv
       |exact hwv
       |exact trivial
       |omega
       |decide
    ·refine Run.ret ti_ok rfl rfl (VLe.tup2 (.str ?_) (.lit rfl))
     show qrR.pay _=py
     exact ep
  ·cases hs
 ·cases hs
theorem renc_bare:CallOk Try.prog 38 (sEncG isBare):=by
 refine .of_run (hc:=(tsy3 emR).hc) Try.func38 rfl (by kernel_rfl) (by kernel_rfl) fun xs v ps hs hp w=>?_
 unfold sEncG at hs
 split at hs
 ·rename_i sh d
  split at hs
  ·rename_i hsh
   obtain rfl:=shEq_eq hsh
   clear hsh
   cases hs
   have hG:isBare d:=hp (isBare d) (by simp)
   obtain⟨m,rfl,hok,hfm,hlen,hraw⟩:=hp (mAll d) (by simp)
   have hG2:m.kind=2∨m.kind=3∨m.kind=4:=(congrArg (fun x:Ms=>x.kind=2∨x.kind=3∨x.kind=4) (msOf_D m)).mp hG
   clear hp
   have hmf:mFit m.D:=hfm.mFit
   have hnm:qrR.named m.D=(namedM m).D:=congrArg (fun x=>(namedM x).D) (msOf_D m)
   have hmf2:mFit (qrR.named m.D):=by rw[hnm];exact hfm.named.mFit
   have e1:emR.encS m.D=encS m:=congrArg encS (msOf_D m)
   have e2:emR.encE m.D=encE m:=congrArg encE (msOf_D m)
   have em:me5.many (qrR.named m.D)=manyV (namedM m):=by rw[hnm];exact congrArg manyV (msOf_D _)
   have ew:me5.wrong m.D=wrongV m:=congrArg wrongV (msOf_D m)
   have ep:qrR.pay m.D=payM m:=payOfE
   rw[e1,e2]
   by_cases h1:((cmdOf m.kind).toList == ByteArray.empty.toList)=true
   ·obtain⟨x1,x2⟩:=enc_1 h1
    rw[x1,x2]
    obtain⟨a0,a1,a2,a3,a4,⟨a5t,a5s,a5i,a5p⟩,⟨a6t,a6s,a6i,a6p⟩,a7,a8,a9,a10,a11,a12,a13,a14,a15,a16,a17,a18,a19,a20,a21,a22⟩:=m
    refine rx tsy3_ok 999 false 400 [true] ?_ ?_
    ·simp only[conj,z0,z2,arR,z1,zd]
     (repeat' with_reducible apply And.intro)<;>first
       |exact hmf
       |exact hmf2
       |exact h1
       |exact trivial
       |omega
       |decide
    ·exact Run.ret ti_ok rfl rfl (VLe.tup2 (.str rfl) (.lit rfl))
   have h1':((cmdOf m.kind).toList == ByteArray.empty.toList)=false:=by simpa using h1
   by_cases h2:manyP (namedM m)
   ·obtain⟨x1,x2⟩:=enc_2 h1 h2
    have hmv:me5.many (qrR.named m.D)=true:=em.trans (many_yes h2)
    rw[x1,x2]
    obtain⟨a0,a1,a2,a3,a4,⟨a5t,a5s,a5i,a5p⟩,⟨a6t,a6s,a6i,a6p⟩,a7,a8,a9,a10,a11,a12,a13,a14,a15,a16,a17,a18,a19,a20,a21,a22⟩:=m
    refine rx tsy3_ok 999 false 400 [false,true] ?_ ?_
    ·simp only[conj,z0,z2,arR,z1,zd]
     (repeat' with_reducible apply And.intro)<;>first
       |exact hmf
       |exact hmf2
       |exact h1'
       |exact hmv
       |exact trivial
       |omega
       |decide
    ·exact Run.ret ti_ok rfl rfl (VLe.tup2 (.str rfl) (.lit rfl))
   have hmv:me5.many (qrR.named m.D)=false:=em.trans (many_no h2)
   by_cases h3:wrongP m
   ·obtain⟨x1,x2⟩:=enc_3 h1 h2 h3
    have hwv:me5.wrong m.D=true:=ew.trans (wrong_yes h3)
    rw[x1,x2]
    obtain⟨a0,a1,a2,a3,a4,⟨a5t,a5s,a5i,a5p⟩,⟨a6t,a6s,a6i,a6p⟩,a7,a8,a9,a10,a11,a12,a13,a14,a15,a16,a17,a18,a19,a20,a21,a22⟩:=m
    refine rx tsy3_ok 999 false 400 [false,false,true] ?_ ?_
    ·simp only[conj,z0,z2,arR,z1,zd]
     (repeat' with_reducible apply And.intro)<;>first
       |exact hmf
       |exact hmf2
       |exact h1'
       |exact hmv
       |exact hwv
       |exact trivial
       |omega
       |decide
    ·exact Run.ret ti_ok rfl rfl (VLe.tup2 (.str rfl) (.lit rfl))
   have hwv:me5.wrong m.D=false:=ew.trans (wrong_no h3)
   have hpo:putOk m.D:=putOk_of hok hlen h3
   have hps:=pay_small hraw h2 h3
   have hk:=cmd_rng h1
   have hbr:qrR.bare m.D:=(congrArg (fun x:Ms=>x.kind<1∨(x.kind=2∨x.kind=3∨x.kind=4)∨18<x.kind) (msOf_D m)).mpr (.inr (.inl hG2))
   have ep0:payM m=.empty:=pay_bare (.inr (.inl hG2))
   obtain⟨x1,x2⟩:=enc_5 h1 h2 h3 (by rw[ep0];decide)
   have hf6:¬((ByteArray.empty.size:Nat):Int)>16384:=by decide
   have hf7:ByteArray.empty.size≤9223372036854775807:=by decide
   rw[x1,x2,ep0]
   obtain⟨a0,a1,a2,a3,a4,⟨a5t,a5s,a5i,a5p⟩,⟨a6t,a6s,a6i,a6p⟩,a7,a8,a9,a10,a11,a12,a13,a14,a15,a16,a17,a18,a19,a20,a21,a22⟩:=m
   refine rx tsy3_ok 999 false 400 [false,false,false,false] ?_ ?_
   ·simp only[conj,z0,z2,arR,z1,zd]
    (repeat' with_reducible apply And.intro)<;>first
      |exact hmf
      |exact hmf2
      |exact hf6
      |exact hf7
      |exact h1'
      |exact hmv
      |exact hwv
      |exact hbr
      |exact trivial
      |omega
      |decide
   ·exact Run.ret ti_ok rfl rfl (VLe.tup2 (.str rfl) (.lit rfl))
  ·cases hs
 ·cases hs
noncomputable def sEnc (lf:EM):ESpec:=fun l=>match l with
 | [.agg (.prt [.v sh d])]=>if shEq sh MS then some (.tup [.one (.str (lf.encS d)),.one (.int .i64 (lf.encE d))],[lf.mAll d])else none
 |_=>none
theorem enc_ok:CallOk Try.prog 37 (sEnc emR):=by
 refine CallOk.split fun l v ps hs hp=>?_
 unfold sEnc at hs
 split at hs
 ·rename_i sh d
  split at hs
  ·rename_i hsh
   cases hs
   have h1:mAll d:=hp (emR.mAll d) (by simp)
   have go:∀G:D→Prop,CallOk Try.prog 37 (sEncG G)→G d→∃s' ps',CallOk Try.prog 37 s'∧s' [.agg (.prt [.v sh d])]=some (.tup [.one (.str (emR.encS d)),.one (.int .i64 (emR.encE d))],ps')∧∀p∈ps',p:=fun G h hk=>
    ⟨sEncG G,[mAll d,G d],h,by simp only[sEncG];rw[if_pos hsh],by
     intro p hp
     simp only[List.mem_cons,List.mem_nil_iff,or_false]at hp
     rcases hp with rfl|rfl
     ·exact h1
     ·exact hk⟩
   by_cases hb:isBare d
   ·exact go isBare enc_bare hb
   ·exact go isFat enc_fat hb
  ·cases hs
 ·cases hs
theorem renc_ok:CallOk Try.prog 38 (sEnc emR):=by
 refine CallOk.split fun l v ps hs hp=>?_
 unfold sEnc at hs
 split at hs
 ·rename_i sh d
  split at hs
  ·rename_i hsh
   cases hs
   have h1:mAll d:=hp (emR.mAll d) (by simp)
   have go:∀G:D→Prop,CallOk Try.prog 38 (sEncG G)→G d→∃s' ps',CallOk Try.prog 38 s'∧s' [.agg (.prt [.v sh d])]=some (.tup [.one (.str (emR.encS d)),.one (.int .i64 (emR.encE d))],ps')∧∀p∈ps',p:=fun G h hk=>
    ⟨sEncG G,[mAll d,G d],h,by simp only[sEncG];rw[if_pos hsh],by
     intro p hp
     simp only[List.mem_cons,List.mem_nil_iff,or_false]at hp
     rcases hp with rfl|rfl
     ·exact h1
     ·exact hk⟩
   by_cases hb:isBare d
   ·exact go isBare renc_bare hb
   ·exact go isFat renc_fat hb
  ·cases hs
 ·cases hs
end Go.Proofs.Ytlbllaocdilafaa
