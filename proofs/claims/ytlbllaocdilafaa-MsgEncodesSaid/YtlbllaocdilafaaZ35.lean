import Derived.Test.YtlbllaocdilafaaZ32
import Derived.Test.YtlbllaocdilafaaZ33
import Derived.Test.YtlbllaocdilafaaZ34
import Derived.Test.YtlbllaocdilafaaZ19
import Derived.Test.YtlbllaocdilafaaZ22
import Derived.Test.YtlbllaocdilafaaZ26
set_option linter.unusedSimpArgs false
set_option linter.unusedVariables false
set_option maxRecDepth 100000
set_option maxHeartbeats 16000000
namespace Go.Proofs.Ytlbllaocdilafaa
open Go Go.Eng Go.Proofs Go.RowKit
attribute[local irreducible] CallOk HOk Run TIok rbin rcmp run1 updF shfF blitF
theorem pay_17:CallOk Try.prog 76 (sPayG (kindIs 17)):=by
 refine .of_run (hc:=(tst0 qrR).hc) Try.func76 rfl (by kernel_rfl) (by kernel_rfl) fun xs v ps hs hp w=>?_
 unfold sPayG at hs
 split at hs
 ·rename_i sh d
  split at hs
  ·rename_i hsh
   obtain rfl:=shEq_eq hsh
   clear hsh
   cases hs
   obtain⟨m,rfl,hok,⟨z11,z12,z13,z16,z19,z20,z21,z22⟩,hr1,hr2⟩:=hp (putOk d) (by simp)
   have hf:(payM m).size≤140737488355328:=(congrArg (fun x=>(payM x).size≤140737488355328) (msOf_D m)).mp (hp (qrR.r.sml (qrR.pay m.D)) (by simp))
   have hk:m.kind=17:=(congrArg Ms.kind (msOf_D m)).symm.trans (hp (kindIs 17 m.D) (by simp))
   clear hp
   rw[show qrR.pay m.D=payM m from payOfE]
   obtain⟨a0,a1,a2,a3,a4,⟨a5t,a5s,a5i,a5p⟩,⟨a6t,a6s,a6i,a6p⟩,a7,a8,a9,a10,a11,a12,a13,a14,a15,a16,a17,a18,a19,a20,a21,a22⟩:=m
   obtain⟨r0,r1,r2,r3,r4,r5,r6,r7,r8,r9,r10,r11,r12,r13,r14,r15,r16,r17,r18,r19,r20,r21,r22⟩:=hok
   simp only at hk z11 z12 z13 z16 z19 z20 z21 z22
   subst hk
   replace hr1:riseP filP a20:=hr1
   replace hr2:riseP intS a21:=hr2
   have hF:=fx a1 a2 a3 a4 a8 a5t a5s a5p a6t a6s a6p a5i a6i a11 a12 a13 a16 a19 a20 a21 a22 r1 r2 r3 r8 r11 r12 r13 r16 r19 r20 r21 r22 r5 r6
   clear r11 r12 r13 r16 r19 r20 r21 r22
   obtain⟨R1,R2,R3,R8,R4,r11,r12,r13,r16,r19,r20,r21,r22,N5,N6⟩:=hF
   have e:payM ⟨17,a1,a2,a3,a4,⟨a5t,a5s,a5i,a5p⟩,⟨a6t,a6s,a6i,a6p⟩,a7,a8,a9,a10,a11,a12,a13,a14,a15,a16,a17,a18,a19,a20,a21,a22⟩=rowB a15 32++(cntB a21.length++catN (gapB intS a21) a21.length):=rfl
   rw[e]at hf ⊢
   clear e
   simp only[bsa]at hf
   obtain⟨base,hbase⟩:∃b,b=rowB a15 32++cntB a21.length:=⟨_,rfl⟩
   have hB:(base++catN (gapB intS a21) a21.length).size≤140737488355328:=by rw[hbase];simp only[bsa];omega
   clear r0 r7 r9 r10 r14 r15 r17 r18 r20 r21 r22
   refine ra tst0_ok 0 false 400 [false,false,false,false,false,false,false,false,false,false,false,false,false,true] [1,3,11,12] [3,11,12] ?_ ?_
   ·simp only[conj,z0,z2,arR,z1,qrR,pmR,nrR,nlR,wlR,laR,lbR,zd,netT_false,netT_true]
    (repeat' with_reducible apply And.intro)<;>first
      |omega
      |((try simp only[bsa,layB_size,rowB_size,netB_size,bigB_size,flagB_size,txz,elz,one0]);omega)
      |exact trivial
      |assumption
   refine Run.loop (ι:={q:Int×ByteArray×Int // (0≤q.1∧q.1≤a21.length)∧(q.2.1=base++catN (gapB intS a21) q.1.toNat∧q.2.2=prevI intS a21 q.1.toNat)})
    (fun i=>([.z,.a (.one (.ptr 0 (.lit 0))),.z,.a (.one (.str i.1.2.1)),.z,.z,.z,.z,.z,.z,.z,.a (.one (.int .i64 i.1.2.2)),.a (.one (.int .i64 i.1.1)),.z,.z,.z,.z,.z,.z,.z,.z,.z,.z,.z,.z,.z,.z,.z,.z,.z,.z,.z,.z,.z,.z,.z,.z,.z,.z,.z,.z,.z,.z,.z,.z,.z,.z,.z,.z,.z,.z,.z,.z,.z,.z,.z,.z,.z,.z,.z,.z,.z,.z,.z,.z,.z,.z,.z,.z,.z,.z,.z,.z,.z,.z,.z,.z,.z,.z,.z,.z,.z,.z,.z,.z,.z,.z,.z,.z,.z,.z,.z,.z,.z,.z,.z,.z,.z,.z,.z,.z,.z,.z,.z,.z,.z,.z,.z,.z,.z,.z,.z,.z,.z,.z,.z,.z,.z,.z,.z,.z,.z,.z,.z,.z,.z,.z,.z,.z,.z,.z,.z,.z,.z,.z,.z,.z,.z,.z,.z,.z,.z,.z,.z,.z,.z,.z,.z,.z,.z,.z,.z,.z,.z,.z,.z,.z,.z,.z,.z,.z,.z,.z,.z,.z,.z,.z,.z,.z,.z,.z,.z,.z,.z,.z,.z,.z,.z,.z,.z,.z,.z,.z,.z,.z,.z,.z,.z,.z,.z,.z,.z,.z,.z,.z,.z,.z,.z,.z,.z,.z,.z,.z,.z,.z,.z,.z,.z,.z,.z,.z,.z,.z,.z,.z,.z,.z,.z,.z,.z,.z,.z,.z,.z,.z,.z,.z,.z,.z,.z,.z,.z,.z,.z,.z,.z,.z,.z,.z,.z,.z,.z,.z,.z,.z,.z,.z,.z,.z,.z,.z,.z,.z,.z,.z,.z,.z,.z,.z,.z,.z,.z,.z,.z,.z,.z,.z,.z,.z,.z,.z,.z,.z,.z,.z,.z,.z,.z,.z,.z,.z,.z,.z,.z,.z,.z,.z,.z,.z,.z,.z,.z,.z,.z,.z,.z,.z,.z,.z,.z,.z,.z,.z,.z,.z,.z,.z,.z],[some ⟨false,.prt [.v MS (.pair (.int 17) (.pair (.int a1) (.pair (.int a2) (.pair (.int a3) (.pair (.int a4) (.pair (.pair (.int a5t) (.pair (.int a5s) (.pair (.row a5i) (.int a5p)))) (.pair (.pair (.int a6t) (.pair (.int a6s) (.pair (.row a6i) (.int a6p)))) (.pair (.str a7) (.pair (.int a8) (.pair (.bool a9) (.pair (.bool a10) (.pair (.sl a11) (.pair (.sl a12) (.pair (.sl a13) (.pair (.row a14) (.pair (.row a15) (.pair (.sl a16) (.pair (.str a17) (.pair (.str a18) (.pair (.sl a19) (.pair (.sl a20) (.pair (.sl a21) (.sl a22)))))))))))))))))))))))]⟩]))
    (fun i=>(a21.length-i.1.1).toNat) ⟨(0,_,-1),by simp only;omega,⟨(by show wlR.tx (fun j=>a15.getD j 0) 32++cntB _=base ++ .empty;rw[row_tx,ByteArray.append_empty,hbase];rfl),rfl⟩⟩ ?_
   rintro⟨⟨p,t,la⟩,hp,⟨ht,hla⟩⟩ ih
   try simp only at hp ht hla
   by_cases hlt:p<a21.length
   ·have e1:rbin .add .i64 p 1=p+1:=addi (by omega) (by omega)
    have hpn:p.toNat<a21.length:=by omega
    have hcf:=cat_fit2 (f:=gapB intS a21) hpn hB
    have hcg:=cat_fit3 (f:=gapB intS a21) hpn hB
    rw[←ht]at hcf
    have hnx:t++gapB intS a21 p.toNat=base++catN (gapB intS a21) (p+1).toNat:=by
     rw[ht,show(p+1).toNat=p.toNat+1 by omega,catN_succ,baa]
    have hq:=hr2 p.toNat hpn
    have hge:=prev_ge (g:=intS) (l:=a21) (n:=p.toNat) (fun i hi=>hr2 i (by omega))
    rw[←hla]at hge
    have hat:la<intS (a21.getD p.toNat (.int 0))∧intS (a21.getD p.toNat (.int 0))≤65535:=by rw[hla];exact hq
    have hg:=gap_ok2 hge hat.1 hat.2
    unfold gapB at hcf
    rw[←hla]at hcf
    unfold intS at hg hcf
    refine ra tst0_ok 3 true 400 [true] [1,3,11,12] [3,11,12] ?_ ?_
    ·simp only[conj,z0,z2,arR,z1,qrR,pmR,nrR,nlR,wlR,laR,lbR,zd,netT_false,netT_true,hg.1]
     (repeat' with_reducible apply And.intro)<;>first
       |omega
       |((try simp only[bsa,layB_size,rowB_size,netB_size,bigB_size,flagB_size,txz,elz,one0]);omega)
       |exact trivial
       |assumption
    ·refine ih ⟨(_,_,_),?_,?_⟩ ?_ _ _
     ·show 0≤rbin .add .i64 p 1∧rbin .add .i64 p 1≤a21.length
      rw[e1];omega
     ·simp only[arR,dF_m,dS_m,dI_m,dX_m,e1]
      refine⟨Eq.trans ?_ hnx,?_⟩
      ·show t++cntB (rbin .sub .i64 (rbin .sub .i64 (a21.getD p.toNat (.int 0)).int! la) 1)=t++cntB (intS (a21.getD p.toNat (.int 0))-prevI intS a21 p.toNat-1)
       rw[hg.1,←hla]
       rfl
      ·show intS (a21.getD p.toNat (.int 0))=prevI intS a21 (p+1).toNat
       rw[show(p+1).toNat=p.toNat+1 by omega];rfl
     ·show((a21.length:Int)-rbin .add .i64 p 1).toNat<((a21.length:Int)-p).toNat
      rw[e1];omega
   ·have hpe:p.toNat=a21.length:=by omega
    rw[hpe]at ht
    clear ih
    refine rx tst0_ok 999 false 400 [false] ?_ ?_
    ·simp only[conj,z0,z2,arR,z1,qrR,pmR,nrR,nlR,wlR,laR,lbR,zd,netT_false,netT_true]
     (repeat' with_reducible apply And.intro)<;>first
       |omega
       |((try simp only[bsa,layB_size,rowB_size,netB_size,bigB_size,flagB_size,txz,elz,one0]);omega)
       |exact trivial
       |exact hB
       |assumption
    refine Run.ret ti_ok rfl rfl (.a (.str ?_))
    rw[ht,hbase]
    try simp only[baa]
  ·cases hs
 ·cases hs
theorem pay_18:CallOk Try.prog 76 (sPayG (kindIs 18)):=by
 refine .of_run (hc:=(tst0 qrR).hc) Try.func76 rfl (by kernel_rfl) (by kernel_rfl) fun xs v ps hs hp w=>?_
 unfold sPayG at hs
 split at hs
 ·rename_i sh d
  split at hs
  ·rename_i hsh
   obtain rfl:=shEq_eq hsh
   clear hsh
   cases hs
   obtain⟨m,rfl,hok,⟨z11,z12,z13,z16,z19,z20,z21,z22⟩,hr1,hr2⟩:=hp (putOk d) (by simp)
   have hf:(payM m).size≤140737488355328:=(congrArg (fun x=>(payM x).size≤140737488355328) (msOf_D m)).mp (hp (qrR.r.sml (qrR.pay m.D)) (by simp))
   have hk:m.kind=18:=(congrArg Ms.kind (msOf_D m)).symm.trans (hp (kindIs 18 m.D) (by simp))
   clear hp
   rw[show qrR.pay m.D=payM m from payOfE]
   obtain⟨a0,a1,a2,a3,a4,⟨a5t,a5s,a5i,a5p⟩,⟨a6t,a6s,a6i,a6p⟩,a7,a8,a9,a10,a11,a12,a13,a14,a15,a16,a17,a18,a19,a20,a21,a22⟩:=m
   obtain⟨r0,r1,r2,r3,r4,r5,r6,r7,r8,r9,r10,r11,r12,r13,r14,r15,r16,r17,r18,r19,r20,r21,r22⟩:=hok
   simp only at hk z11 z12 z13 z16 z19 z20 z21 z22
   subst hk
   replace hr1:riseP filP a20:=hr1
   replace hr2:riseP intS a21:=hr2
   have hF:=fx a1 a2 a3 a4 a8 a5t a5s a5p a6t a6s a6p a5i a6i a11 a12 a13 a16 a19 a20 a21 a22 r1 r2 r3 r8 r11 r12 r13 r16 r19 r20 r21 r22 r5 r6
   clear r11 r12 r13 r16 r19 r20 r21 r22
   obtain⟨R1,R2,R3,R8,R4,r11,r12,r13,r16,r19,r20,r21,r22,N5,N6⟩:=hF
   have e:payM ⟨18,a1,a2,a3,a4,⟨a5t,a5s,a5i,a5p⟩,⟨a6t,a6s,a6i,a6p⟩,a7,a8,a9,a10,a11,a12,a13,a14,a15,a16,a17,a18,a19,a20,a21,a22⟩=rowB a15 32++(cntB a22.length++catN (elRaw a22) a22.length):=rfl
   rw[e]at hf ⊢
   clear e
   simp only[bsa]at hf
   obtain⟨base,hbase⟩:∃b,b=rowB a15 32++cntB a22.length:=⟨_,rfl⟩
   have hB:(base++catN (elRaw a22) a22.length).size≤140737488355328:=by rw[hbase];simp only[bsa];omega
   clear r0 r7 r9 r10 r14 r15 r17 r18 r20 r21 r22
   refine ra tst0_ok 0 false 400 [false,false,false,false,false,false,false,false,false,false,false,false,false,false,true] [1,3,13] [3,13] ?_ ?_
   ·simp only[conj,z0,z2,arR,z1,qrR,pmR,nrR,nlR,wlR,laR,lbR,zd,netT_false,netT_true]
    (repeat' with_reducible apply And.intro)<;>first
      |omega
      |((try simp only[bsa,layB_size,rowB_size,netB_size,bigB_size,flagB_size,txz,elz,one0]);omega)
      |exact trivial
      |assumption
   refine Run.loop (ι:={q:Int×ByteArray // (0≤q.1∧q.1≤a22.length)∧q.2=base++catN (elRaw a22) q.1.toNat})
    (fun i=>([.z,.a (.one (.ptr 0 (.lit 0))),.z,.a (.one (.str i.1.2)),.z,.z,.z,.z,.z,.z,.z,.z,.z,.a (.one (.int .i64 i.1.1)),.z,.z,.z,.z,.z,.z,.z,.z,.z,.z,.z,.z,.z,.z,.z,.z,.z,.z,.z,.z,.z,.z,.z,.z,.z,.z,.z,.z,.z,.z,.z,.z,.z,.z,.z,.z,.z,.z,.z,.z,.z,.z,.z,.z,.z,.z,.z,.z,.z,.z,.z,.z,.z,.z,.z,.z,.z,.z,.z,.z,.z,.z,.z,.z,.z,.z,.z,.z,.z,.z,.z,.z,.z,.z,.z,.z,.z,.z,.z,.z,.z,.z,.z,.z,.z,.z,.z,.z,.z,.z,.z,.z,.z,.z,.z,.z,.z,.z,.z,.z,.z,.z,.z,.z,.z,.z,.z,.z,.z,.z,.z,.z,.z,.z,.z,.z,.z,.z,.z,.z,.z,.z,.z,.z,.z,.z,.z,.z,.z,.z,.z,.z,.z,.z,.z,.z,.z,.z,.z,.z,.z,.z,.z,.z,.z,.z,.z,.z,.z,.z,.z,.z,.z,.z,.z,.z,.z,.z,.z,.z,.z,.z,.z,.z,.z,.z,.z,.z,.z,.z,.z,.z,.z,.z,.z,.z,.z,.z,.z,.z,.z,.z,.z,.z,.z,.z,.z,.z,.z,.z,.z,.z,.z,.z,.z,.z,.z,.z,.z,.z,.z,.z,.z,.z,.z,.z,.z,.z,.z,.z,.z,.z,.z,.z,.z,.z,.z,.z,.z,.z,.z,.z,.z,.z,.z,.z,.z,.z,.z,.z,.z,.z,.z,.z,.z,.z,.z,.z,.z,.z,.z,.z,.z,.z,.z,.z,.z,.z,.z,.z,.z,.z,.z,.z,.z,.z,.z,.z,.z,.z,.z,.z,.z,.z,.z,.z,.z,.z,.z,.z,.z,.z,.z,.z,.z,.z,.z,.z,.z,.z,.z,.z,.z,.z,.z,.z,.z,.z,.z,.z,.z,.z,.z,.z],[some ⟨false,.prt [.v MS (.pair (.int 18) (.pair (.int a1) (.pair (.int a2) (.pair (.int a3) (.pair (.int a4) (.pair (.pair (.int a5t) (.pair (.int a5s) (.pair (.row a5i) (.int a5p)))) (.pair (.pair (.int a6t) (.pair (.int a6s) (.pair (.row a6i) (.int a6p)))) (.pair (.str a7) (.pair (.int a8) (.pair (.bool a9) (.pair (.bool a10) (.pair (.sl a11) (.pair (.sl a12) (.pair (.sl a13) (.pair (.row a14) (.pair (.row a15) (.pair (.sl a16) (.pair (.str a17) (.pair (.str a18) (.pair (.sl a19) (.pair (.sl a20) (.pair (.sl a21) (.sl a22)))))))))))))))))))))))]⟩]))
    (fun i=>(a22.length-i.1.1).toNat) ⟨(0,_),by simp only;omega,(by show wlR.tx (fun j=>a15.getD j 0) 32++cntB _=base ++ .empty;rw[row_tx,ByteArray.append_empty,hbase];rfl)⟩ ?_
   rintro⟨⟨p,t⟩,hp,ht⟩ ih
   try simp only at hp ht
   by_cases hlt:p<a22.length
   ·have e1:rbin .add .i64 p 1=p+1:=addi (by omega) (by omega)
    have hpn:p.toNat<a22.length:=by omega
    have hcf:=cat_fit2 (f:=elRaw a22) hpn hB
    have hcg:=cat_fit3 (f:=elRaw a22) hpn hB
    rw[←ht]at hcf
    have hnx:t++elRaw a22 p.toNat=base++catN (elRaw a22) (p+1).toNat:=by
     rw[ht,show(p+1).toNat=p.toNat+1 by omega,catN_succ,baa]
    replace hcf:t.size+(rawB (a22.getD p.toNat (.int 0)).str!).size≤140737488355328:=hcf
    have hrl:=raw_le (a22.getD p.toNat (.int 0)).str!
    refine ra tst0_ok 3 true 400 [true] [1,3,13] [3,13] ?_ ?_
    ·simp only[conj,z0,z2,arR,z1,qrR,pmR,nrR,nlR,wlR,laR,lbR,zd,netT_false,netT_true]
     (repeat' with_reducible apply And.intro)<;>first
       |omega
       |((try simp only[bsa,layB_size,rowB_size,netB_size,bigB_size,flagB_size,txz,elz,one0]);omega)
       |exact trivial
       |assumption
    ·refine ih ⟨(_,_),?_,?_⟩ ?_ _ _
     ·show 0≤rbin .add .i64 p 1∧rbin .add .i64 p 1≤a22.length
      rw[e1];omega
     ·simp only[arR,dF_m,dS_m,dI_m,dX_m,e1]
      refine Eq.trans ?_ hnx
      rfl
     ·show((a22.length:Int)-rbin .add .i64 p 1).toNat<((a22.length:Int)-p).toNat
      rw[e1];omega
   ·have hpe:p.toNat=a22.length:=by omega
    rw[hpe]at ht
    clear ih
    refine rx tst0_ok 999 false 400 [false] ?_ ?_
    ·simp only[conj,z0,z2,arR,z1,qrR,pmR,nrR,nlR,wlR,laR,lbR,zd,netT_false,netT_true]
     (repeat' with_reducible apply And.intro)<;>first
       |omega
       |((try simp only[bsa,layB_size,rowB_size,netB_size,bigB_size,flagB_size,txz,elz,one0]);omega)
       |exact trivial
       |exact hB
       |assumption
    refine Run.ret ti_ok rfl rfl (.a (.str ?_))
    rw[ht,hbase]
    try simp only[baa]
  ·cases hs
 ·cases hs
noncomputable def sPay (lf:QR):ESpec:=fun l=>match l with
 | [.agg (.prt [.v sh d])]=>if shEq sh MS then some (.a (.one (.str (lf.pay d))),[lf.putOk d,lf.r.sml (lf.pay d),lf.fat d])else none
 |_=>none
theorem payl_ok:CallOk Try.prog 76 (sPay qrR):=by
 refine CallOk.split fun l v ps hs hp=>?_
 unfold sPay at hs
 split at hs
 ·rename_i sh d
  split at hs
  ·rename_i hsh
   cases hs
   have h1:putOk d:=hp (qrR.putOk d) (by simp)
   have h2:qrR.r.sml (qrR.pay d):=hp (qrR.r.sml (qrR.pay d)) (by simp)
   have h3:(1≤(msOf d).kind∧(msOf d).kind≤18)∧¬((msOf d).kind=2∨(msOf d).kind=3∨(msOf d).kind=4):=hp (qrR.fat d) (by simp)
   have go:∀k,CallOk Try.prog 76 (sPayG (kindIs k))→(msOf d).kind=k→∃s' ps',CallOk Try.prog 76 s'∧s' [.agg (.prt [.v sh d])]=some (.a (.one (.str (qrR.pay d))),ps')∧∀p∈ps',p:=fun k h hk=>
    ⟨sPayG (kindIs k),[putOk d,qrR.r.sml (qrR.pay d),kindIs k d],h,by simp only[sPayG];rw[if_pos hsh],by
     intro p hp
     simp only[List.mem_cons,List.mem_nil_iff,or_false]at hp
     rcases hp with rfl|rfl|rfl
     ·exact h1
     ·exact h2
     ·exact hk⟩
   generalize hk:(msOf d).kind=k at h3
   have hkk:k=1∨k=5∨k=6∨k=7∨k=8∨k=9∨k=10∨k=11∨k=12∨k=13∨k=14∨k=15∨k=16∨k=17∨k=18:=by omega
   rcases hkk with rfl|rfl|rfl|rfl|rfl|rfl|rfl|rfl|rfl|rfl|rfl|rfl|rfl|rfl|rfl
   ·exact go 1 pay_1 hk
   ·exact go 5 pay_5 hk
   ·exact go 6 pay_6 hk
   ·exact go 7 pay_7 hk
   ·exact go 8 pay_8 hk
   ·exact go 9 pay_9 hk
   ·exact go 10 pay_10 hk
   ·exact go 11 pay_11 hk
   ·exact go 12 pay_12 hk
   ·exact go 13 pay_13 hk
   ·exact go 14 pay_14 hk
   ·exact go 15 pay_15 hk
   ·exact go 16 pay_16 hk
   ·exact go 17 pay_17 hk
   ·exact go 18 pay_18 hk
  ·cases hs
 ·cases hs
noncomputable def sPay0 (lf:QR):ESpec:=fun l=>match l with
 | [.agg (.prt [.v sh d])]=>if shEq sh MS then some (.a (.one (.str .empty)),[lf.mf.mFit d,lf.bare d])else none
 |_=>none
theorem pay0_ok:CallOk Try.prog 76 (sPay0 qrR):=by
 refine .of_run (hc:=(tst0 qrR).hc) Try.func76 rfl (by kernel_rfl) (by kernel_rfl) fun xs v ps hs hp w=>?_
 unfold sPay0 at hs
 split at hs
 ·rename_i sh d
  split at hs
  ·rename_i hsh
   obtain rfl:=shEq_eq hsh
   clear hsh
   cases hs
   obtain⟨m,rfl,-⟩:mFit d:=hp (qrR.mf.mFit d) (by simp)
   have hb:(msOf m.D).kind<1∨((msOf m.D).kind=2∨(msOf m.D).kind=3∨(msOf m.D).kind=4)∨18<(msOf m.D).kind:=hp (qrR.bare m.D) (by simp)
   rw[msOf_D]at hb
   clear hp
   obtain⟨a0,a1,a2,a3,a4,⟨a5t,a5s,a5i,a5p⟩,⟨a6t,a6s,a6i,a6p⟩,a7,a8,a9,a10,a11,a12,a13,a14,a15,a16,a17,a18,a19,a20,a21,a22⟩:=m
   simp only at hb
   refine rx tst0_ok 999 false 400 [false,false,false,false,false,false,false,false,false,false,false,false,false,false,false] ?_ ?_
   ·simp only[conj,z0,z2,arR,z1,qrR,pmR,nrR,nlR,wlR,laR,lbR,zd,netT_false,netT_true]
    (repeat' with_reducible apply And.intro)<;>first
      |omega
      |((try simp only[bsa,layB_size,rowB_size,netB_size,bigB_size,flagB_size,txz,elz,one0]);omega)
      |exact trivial
      |assumption
   exact Run.ret ti_ok rfl rfl (.a (.str rfl))
  ·cases hs
 ·cases hs
end Go.Proofs.Ytlbllaocdilafaa
namespace Go.Eng
open Go
theorem str_at:∀(l:List ByteArray) (n:Nat),((l.map D.str).getD n (.int 0)).str! = l.getD n .empty:=by
 intro l
 induction l with
 |nil=>intro n;rfl
 |cons x l ih=>
  intro n
  cases n with
  |zero=>rfl
  |succ n=>exact ih n
end Go.Eng
namespace Go.Proofs.Ytlbllaocdilafaa
open Go Go.Eng Go.Proofs Go.RowKit
attribute[local irreducible] CallOk HOk Run TIok rbin rcmp run1 updF shfF blitF
theorem bare_ok:CallOk Try.prog 47 (sBare lnR):=by
 refine .of_run (hc:=(ti0b lnR).hc) Try.func47 rfl (by kernel_rfl) (by kernel_rfl) fun xs v ps hs hp w=>?_
 unfold sBare at hs
 split at hs
 ·rename_i k
  cases hs
  clear hp
  refine rx ti0b_ok 999 false 400 [] ?_ ?_
  ·simp only[conj,z0,z2,arR,z1]
  ·exact Run.ret ti_ok rfl rfl (.a (ALe.prt rfl))
 ·cases hs
theorem rcmd_ok:CallOk Try.prog 42 (sCmd ln2):=by
 refine .of_run (hc:=(ti0b lnR).hc) Try.func42 rfl (by kernel_rfl) (by kernel_rfl) fun xs v ps hs hp w=>?_
 unfold sCmd at hs
 split at hs
 ·rename_i k
  cases hs
  clear hp
  by_cases h0:k<1
  ·refine rx ti0b_ok 999 false 400 [true,true] ?_ ?_
   ·simp only[conj,z0,z2,arR,z1]
    ((repeat' with_reducible apply And.intro)<;>first|omega|assumption|rfl|trivial)
   ·refine Run.ret ti_ok rfl rfl (.a (.str ?_))
    show _=cmdOf k
    unfold cmdOf
    split
    ·have e:k=0:=by omega
     subst e
     rfl
    ·rfl
  ·by_cases h1:k<19
   ·refine rx ti0b_ok 999 false 400 [false,false] ?_ ?_
    ·simp only[conj,z0,z2,arR,z1]
     ((repeat' with_reducible apply And.intro)<;>first|omega|assumption|rfl|trivial)
    ·refine Run.ret ti_ok rfl rfl (.a (.str ?_))
     show _=cmdOf k
     have e:cmdOf k=cmds.getD k.toNat .empty:=if_pos (by omega)
     rw[e]
     exact str_at cmds k.toNat
   ·refine rx ti0b_ok 999 false 400 [false,true] ?_ ?_
    ·simp only[conj,z0,z2,arR,z1]
     ((repeat' with_reducible apply And.intro)<;>first|omega|assumption|rfl|trivial)
    ·refine Run.ret ti_ok rfl rfl (.a (.str ?_))
     exact(if_neg (by omega)).symm
 ·cases hs
def ts4 (lf:ME5):Tbl:=tbL [(88,sRise lf.toME4),(89,sPlaces lf.toME4),(67,sNamed lf.toME4.toME3),(34,sSame lf.toME4.toME3.toME2.toME1.toLN9.toLN8.toLN7.toLN6.toLN5.toLN4.toLN1.toLQm)] []
theorem ts4_ok:TblOk Try.prog (ts4 me5):=tbL_ok (mc ⟨rise_ok,mc ⟨places_ok,mc ⟨named_ok,mc ⟨same_ok,nofun⟩⟩⟩⟩) nofun
def sWrong (lf:ME5):ESpec:=fun l=>match l with
 | [.agg (.prt [.v s d])]=>if shEq s MS then some (.a (.one (.bool (lf.wrong d))),[lf.mf.mFit d])else none
 |_=>none
theorem wrong_ok:CallOk Try.prog 68 (sWrong me5):=by
 refine .of_run (hc:=(ts4 me5).hc) Try.func68 rfl (by kernel_rfl) (by kernel_rfl) fun xs v ps hs hp w=>?_
 unfold sWrong at hs
 split at hs
 ·rename_i s d
  split at hs
  ·rename_i hsh
   obtain rfl:=shEq_eq hsh
   clear hsh
   cases hs
   have hmf:mFit d:=hp (me5.mf.mFit d) (by simp)
   obtain⟨m,rfl,hmo,hf⟩:=hmf
   have hmf:mFit m.D:=hp (me5.mf.mFit m.D) (by simp)
   clear hp
   rw[show me5.wrong m.D=wrongV m from congrArg wrongV (msOf_D m)]
   have hnm:me5.named m.D=(namedM m).D:=congrArg (fun x=>(namedM x).D) (msOf_D m)
   have hmo1:mOk m.D:=⟨m,rfl,hmo⟩
   have hmo2:mOk (me5.named m.D):=⟨namedM m,hnm,named_ok2 hmo⟩
   have hyes:wrongP m→wrongV m=true:=wrong_yes
   have hno:¬wrongP m→wrongV m=false:=wrong_no
   generalize hmv:wrongV m=mv at hyes hno ⊢
   unfold wrongP at hyes hno
   rw[←hnm]at hyes hno
   obtain⟨a0,a1,a2,a3,a4,⟨a5t,a5s,a5i,a5p⟩,⟨a6t,a6s,a6i,a6p⟩,a7,a8,a9,a10,a11,a12,a13,a14,a15,a16,a17,a18,a19,a20,a21,a22⟩:=m
   simp only at hf hyes hno
   refine ra ts4_ok 0 false 400 [] [1,8,9,10] [10] ?_ ?_
   ·simp only[conj,z0,z2,arR,z1,zd]<;>(repeat' with_reducible apply And.intro)<;>first|omega|assumption|rfl|trivial
   refine Run.loop (ι:={q:Int×Int // (0≤q.1∧q.1≤a16.length)∧q.2=a16.length∧∀i,i<q.1.toNat→¬strS (a16.getD i (.int 0))≠80})
    (fun i=>([.z,.a (.one (.ptr 0 (.lit 0))),.z,.z,.z,.z,.z,.z,.a (.one (.dat .str a16 none)),.a (.one (.int .i64 i.1.2)),.a (.one (.int .i64 i.1.1)),.z,.z,.z,.z,.z,.z,.z,.z,.z,.z,.z,.z,.z,.z,.z,.z,.z,.z,.z,.z,.z,.z,.z,.z,.z,.z,.z,.z,.z,.z,.z,.z,.z,.z,.z,.z,.z,.z,.z,.z,.z,.z,.z,.z,.z,.z],[some ⟨false,.prt [.v MS (MD a0 a1 a2 a3 a4 a5t a5s a5i a5p a6t a6s a6i a6p a7 a8 a9 a10 a11 a12 a13 a14 a15 a16 a17 a18 a19 a20 a21 a22)]⟩]))
    (fun i=>(a16.length-i.1.1).toNat) ⟨(0,_),by simp only;omega,rfl,fun i hi=>by simp at hi⟩ ?_
   rintro⟨⟨p,len⟩,hp,hl,hq⟩ ih
   try simp only at hp hl hq
   by_cases hlt:p<a16.length
   ·have e1:rbin .add .i64 p 1=p+1:=addi (by omega) (by omega)
    by_cases hb:strS (a16.getD p.toNat (.int 0))≠80
    ·have h0:=some_at (P:=fun d=>strS d≠80) hp.1 hlt hb
     unfold strS at hb
     refine rx ts4_ok 999 false 400 [true,true] ?_ ?_
     ·simp only[conj,z0,z2,arR,z1,hl,zd]<;>(repeat' with_reducible apply And.intro)<;>first|omega|assumption|rfl|trivial
     ·exact Run.ret ti_ok rfl rfl (.a (.lbool (hyes (.inl h0)).symm))
    ·have hq':=upto (Q:=fun i=>¬strS (a16.getD i (.int 0))≠80) hp.1 hq hb
     unfold strS at hb
     refine ra ts4_ok 2 true 400 [true,false] [1,8,9,10] [10] ?_ ?_
     ·simp only[conj,z0,z2,arR,z1,hl,zd]<;>(repeat' with_reducible apply And.intro)<;>first|omega|assumption|rfl|trivial
     ·refine ih ⟨(_,_),?_,hl,?_⟩ ?_ _ _
      ·show 0≤rbin .add .i64 p 1∧rbin .add .i64 p 1≤a16.length
       rw[e1];omega
      ·show ∀i,i<(rbin .add .i64 p 1).toNat→_
       rw[e1];exact hq'
      ·show((a16.length:Int)-rbin .add .i64 p 1).toNat<((a16.length:Int)-p).toNat
       rw[e1];omega
   ·have h0:=none_at (P:=fun d=>strS d≠80) hlt hq
    refine ra ts4_ok 2 false 400 [false] [1,19,20,21] [21] ?_ ?_
    ·simp only[conj,z0,z2,arR,z1,hl,zd]<;>(repeat' with_reducible apply And.intro)<;>first|omega|assumption|rfl|trivial
    refine Run.loop (ι:={q:Int×Int // (0≤q.1∧q.1≤a19.length)∧q.2=a19.length∧∀i,i<q.1.toNat→¬intS (a19.getD i (.int 0))>281474976710655})
     (fun i=>([.z,.a (.one (.ptr 0 (.lit 0))),.z,.z,.z,.z,.z,.z,.z,.z,.z,.z,.z,.z,.z,.z,.z,.z,.z,.a (.one (.dat (.int .u64) a19 none)),.a (.one (.int .i64 i.1.2)),.a (.one (.int .i64 i.1.1)),.z,.z,.z,.z,.z,.z,.z,.z,.z,.z,.z,.z,.z,.z,.z,.z,.z,.z,.z,.z,.z,.z,.z,.z,.z,.z,.z,.z,.z,.z,.z,.z,.z,.z,.z],[some ⟨false,.prt [.v MS (MD a0 a1 a2 a3 a4 a5t a5s a5i a5p a6t a6s a6i a6p a7 a8 a9 a10 a11 a12 a13 a14 a15 a16 a17 a18 a19 a20 a21 a22)]⟩]))
     (fun i=>(a19.length-i.1.1).toNat) ⟨(0,_),by simp only;omega,rfl,fun i hi=>by simp at hi⟩ ?_
    rintro⟨⟨p,len⟩,hp,hl,hq⟩ ih
    try simp only at hp hl hq
    by_cases hlt:p<a19.length
    ·have e1:rbin .add .i64 p 1=p+1:=addi (by omega) (by omega)
     by_cases hb:intS (a19.getD p.toNat (.int 0))>281474976710655
     ·have h1:=some_at (P:=fun d=>intS d>281474976710655) hp.1 hlt hb
      unfold intS at hb
      refine rx ts4_ok 999 false 400 [true,true] ?_ ?_
      ·simp only[conj,z0,z2,arR,z1,hl,zd]<;>(repeat' with_reducible apply And.intro)<;>first|omega|assumption|rfl|trivial
      ·exact Run.ret ti_ok rfl rfl (.a (.lbool (hyes (.inr (.inl h1))).symm))
     ·have hq':=upto (Q:=fun i=>¬intS (a19.getD i (.int 0))>281474976710655) hp.1 hq hb
      unfold intS at hb
      refine ra ts4_ok 2 true 400 [true,false] [1,19,20,21] [21] ?_ ?_
      ·simp only[conj,z0,z2,arR,z1,hl,zd]<;>(repeat' with_reducible apply And.intro)<;>first|omega|assumption|rfl|trivial
      ·refine ih ⟨(_,_),?_,hl,?_⟩ ?_ _ _
       ·show 0≤rbin .add .i64 p 1∧rbin .add .i64 p 1≤a19.length
        rw[e1];omega
       ·show ∀i,i<(rbin .add .i64 p 1).toNat→_
        rw[e1];exact hq'
       ·show((a19.length:Int)-rbin .add .i64 p 1).toNat<((a19.length:Int)-p).toNat
        rw[e1];omega
    ·have h1:=none_at (P:=fun d=>intS d>281474976710655) hlt hq
     have hr1:me5.rise (me5.plcs a20)=true↔riseP filP a20:=rise_iff.trans (rise_map a20)
     have hr2:me5.rise a21=true↔riseP intS a21:=rise_iff
     have hf1:me5.fits24 a20:=(by omega:a20.length*24≤140737488351232)
     have hf2:me5.fits8 (me5.plcs a20):=(by show(a20.map _).length*8≤140737488351232;rw[List.length_map];omega)
     have hf3:me5.fits8 a21:=(by omega:a21.length*8≤140737488351232)
     generalize hv1:me5.rise (me5.plcs a20)=r1 at hr1
     generalize hv2:me5.rise a21=r2 at hr2
     by_cases h16:a0=16
     ·by_cases h80:(a17.size:Int)≠80
      ·refine rx ts4_ok 999 false 400 [false,true,true,true,true] ?_ ?_
       ·simp only[conj,z0,z2,arR,z1,hl,hv1,hv2,zd]<;>(repeat' with_reducible apply And.intro)<;>first|omega|assumption|rfl|trivial|exact hmo1|exact hmo2|exact hmf
       ·exact Run.ret ti_ok rfl rfl (.a (.lbool (hyes (.inr (.inr (.inl ⟨h16,h80⟩)))).symm))
      ·cases r1 with
       |false=>
        refine rx ts4_ok 999 false 400 [false,true,false,true,true,true] ?_ ?_
        ·simp only[conj,z0,z2,arR,z1,hl,hv1,hv2,zd]<;>(repeat' with_reducible apply And.intro)<;>first|omega|assumption|rfl|trivial|exact hmo1|exact hmo2|exact hmf
        ·exact Run.ret ti_ok rfl rfl (.a (.lbool (hyes (.inr (.inr (.inr (.inl fun h=>by cases hr1.2 h))))).symm))
       |true=>
        cases r2 with
        |false=>
         refine rx ts4_ok 999 false 400 [false,true,false,false,true,true] ?_ ?_
         ·simp only[conj,z0,z2,arR,z1,hl,hv1,hv2,zd]<;>(repeat' with_reducible apply And.intro)<;>first|omega|assumption|rfl|trivial|exact hmo1|exact hmo2|exact hmf
         ·exact Run.ret ti_ok rfl rfl (.a (.lbool (hyes (.inr (.inr (.inr (.inr (.inl fun h=>by cases hr2.2 h)))))).symm))
        |true=>
         refine rx ts4_ok 999 false 400 [false,true,false,false,false] ?_ ?_
         ·simp only[conj,z0,z2,arR,z1,hl,hv1,hv2,zd]<;>(repeat' with_reducible apply And.intro)<;>first|omega|assumption|rfl|trivial|exact hmo1|exact hmo2|exact hmf
         ·refine Run.ret ti_ok rfl rfl (.a (.bool ?_))
          show(!(eqD MS (Ms.D ⟨a0,a1,a2,a3,a4,⟨a5t,a5s,a5i,a5p⟩,⟨a6t,a6s,a6i,a6p⟩,a7,a8,a9,a10,a11,a12,a13,a14,a15,a16,a17,a18,a19,a20,a21,a22⟩) (me5.named (Ms.D ⟨a0,a1,a2,a3,a4,⟨a5t,a5s,a5i,a5p⟩,⟨a6t,a6s,a6i,a6p⟩,a7,a8,a9,a10,a11,a12,a13,a14,a15,a16,a17,a18,a19,a20,a21,a22⟩))))=mv
          cases he:eqD MS (Ms.D ⟨a0,a1,a2,a3,a4,⟨a5t,a5s,a5i,a5p⟩,⟨a6t,a6s,a6i,a6p⟩,a7,a8,a9,a10,a11,a12,a13,a14,a15,a16,a17,a18,a19,a20,a21,a22⟩) (me5.named (Ms.D ⟨a0,a1,a2,a3,a4,⟨a5t,a5s,a5i,a5p⟩,⟨a6t,a6s,a6i,a6p⟩,a7,a8,a9,a10,a11,a12,a13,a14,a15,a16,a17,a18,a19,a20,a21,a22⟩))with
          |false=>exact(hyes (.inr (.inr (.inr (.inr (.inr he)))))).symm
          |true=>
           refine(hno ?_).symm
           rintro(hh|hh|hh|hh|hh|hh)
           ·exact h0 hh
           ·exact h1 hh
           ·exact absurd hh (fun h=>h80 h.2)
           ·exact hh (hr1.1 rfl)
           ·exact hh (hr2.1 rfl)
           ·rw[he]at hh;cases hh
     ·cases r1 with
      |false=>
       refine rx ts4_ok 999 false 400 [false,false,true,true,true] ?_ ?_
       ·simp only[conj,z0,z2,arR,z1,hl,hv1,hv2,zd]<;>(repeat' with_reducible apply And.intro)<;>first|omega|assumption|rfl|trivial|exact hmo1|exact hmo2|exact hmf
       ·exact Run.ret ti_ok rfl rfl (.a (.lbool (hyes (.inr (.inr (.inr (.inl fun h=>by cases hr1.2 h))))).symm))
      |true=>
       cases r2 with
       |false=>
        refine rx ts4_ok 999 false 400 [false,false,false,true,true] ?_ ?_
        ·simp only[conj,z0,z2,arR,z1,hl,hv1,hv2,zd]<;>(repeat' with_reducible apply And.intro)<;>first|omega|assumption|rfl|trivial|exact hmo1|exact hmo2|exact hmf
        ·exact Run.ret ti_ok rfl rfl (.a (.lbool (hyes (.inr (.inr (.inr (.inr (.inl fun h=>by cases hr2.2 h)))))).symm))
       |true=>
        refine rx ts4_ok 999 false 400 [false,false,false,false] ?_ ?_
        ·simp only[conj,z0,z2,arR,z1,hl,hv1,hv2,zd]<;>(repeat' with_reducible apply And.intro)<;>first|omega|assumption|rfl|trivial|exact hmo1|exact hmo2|exact hmf
        ·refine Run.ret ti_ok rfl rfl (.a (.bool ?_))
         show(!(eqD MS (Ms.D ⟨a0,a1,a2,a3,a4,⟨a5t,a5s,a5i,a5p⟩,⟨a6t,a6s,a6i,a6p⟩,a7,a8,a9,a10,a11,a12,a13,a14,a15,a16,a17,a18,a19,a20,a21,a22⟩) (me5.named (Ms.D ⟨a0,a1,a2,a3,a4,⟨a5t,a5s,a5i,a5p⟩,⟨a6t,a6s,a6i,a6p⟩,a7,a8,a9,a10,a11,a12,a13,a14,a15,a16,a17,a18,a19,a20,a21,a22⟩))))=mv
         cases he:eqD MS (Ms.D ⟨a0,a1,a2,a3,a4,⟨a5t,a5s,a5i,a5p⟩,⟨a6t,a6s,a6i,a6p⟩,a7,a8,a9,a10,a11,a12,a13,a14,a15,a16,a17,a18,a19,a20,a21,a22⟩) (me5.named (Ms.D ⟨a0,a1,a2,a3,a4,⟨a5t,a5s,a5i,a5p⟩,⟨a6t,a6s,a6i,a6p⟩,a7,a8,a9,a10,a11,a12,a13,a14,a15,a16,a17,a18,a19,a20,a21,a22⟩))with
         |false=>exact(hyes (.inr (.inr (.inr (.inr (.inr he)))))).symm
         |true=>
          refine(hno ?_).symm
          rintro(hh|hh|hh|hh|hh|hh)
          ·exact h0 hh
          ·exact h1 hh
          ·exact absurd hh (fun h=>h16 h.1)
          ·exact hh (hr1.1 rfl)
          ·exact hh (hr2.1 rfl)
          ·rw[he]at hh;cases hh
  ·cases hs
 ·cases hs
end Go.Proofs.Ytlbllaocdilafaa
