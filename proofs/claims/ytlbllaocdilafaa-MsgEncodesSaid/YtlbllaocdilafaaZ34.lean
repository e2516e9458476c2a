import Derived.Test.YtlbllaocdilafaaZ32
set_option linter.unusedSimpArgs false
set_option linter.unusedVariables false
set_option maxRecDepth 100000
set_option maxHeartbeats 16000000
namespace Go.Proofs.Ytlbllaocdilafaa
open Go Go.Eng Go.Proofs Go.RowKit
attribute[local irreducible] CallOk HOk Run TIok rbin rcmp run1 updF shfF blitF
theorem pay_11:CallOk Try.prog 76 (sPayG (kindIs 11)):=by
 refine .of_run (hc:=(tst0 qrR).hc) Try.func76 rfl (by kernel_rfl) (by kernel_rfl) fun xs v ps hs hp w=>?_
 unfold sPayG at hs
 split at hs
 ·rename_i sh d
  split at hs
  ·rename_i hsh
   obtain rfl:=shEq_eq hsh
   clear hsh
   cases hs
   obtain⟨m,rfl,hok,⟨z11,z12,z13,z16,z19,z20,z21,z22⟩,hr1,hr2⟩:=hp (putOk d) (by simp)
   have hf:(payM m).size≤140737488355328:=(congrArg (fun x=>(payM x).size≤140737488355328) (msOf_D m)).mp (hp (qrR.r.sml (qrR.pay m.D)) (by simp))
   have hk:m.kind=11:=(congrArg Ms.kind (msOf_D m)).symm.trans (hp (kindIs 11 m.D) (by simp))
   clear hp
   rw[show qrR.pay m.D=payM m from payOfE]
   obtain⟨a0,a1,a2,a3,a4,⟨a5t,a5s,a5i,a5p⟩,⟨a6t,a6s,a6i,a6p⟩,a7,a8,a9,a10,a11,a12,a13,a14,a15,a16,a17,a18,a19,a20,a21,a22⟩:=m
   obtain⟨r0,r1,r2,r3,r4,r5,r6,r7,r8,r9,r10,r11,r12,r13,r14,r15,r16,r17,r18,r19,r20,r21,r22⟩:=hok
   simp only at hk z11 z12 z13 z16 z19 z20 z21 z22
   subst hk
   replace hr1:riseP filP a20:=hr1
   replace hr2:riseP intS a21:=hr2
   have hF:=fx a1 a2 a3 a4 a8 a5t a5s a5p a6t a6s a6p a5i a6i a11 a12 a13 a16 a19 a20 a21 a22 r1 r2 r3 r8 r11 r12 r13 r16 r19 r20 r21 r22 r5 r6
   clear r11 r12 r13 r16 r19 r20 r21 r22
   obtain⟨R1,R2,R3,R8,R4,r11,r12,r13,r16,r19,r20,r21,r22,N5,N6⟩:=hF
   have e:payM ⟨11,a1,a2,a3,a4,⟨a5t,a5s,a5i,a5p⟩,⟨a6t,a6s,a6i,a6p⟩,a7,a8,a9,a10,a11,a12,a13,a14,a15,a16,a17,a18,a19,a20,a21,a22⟩=layB a1 4++(cntB a13.length++catN (elHash a13) a13.length)++rowB a14 32:=rfl
   rw[e]at hf ⊢
   clear e
   simp only[bsa]at hf
   obtain⟨base,hbase⟩:∃b,b=layB a1 4++cntB a13.length:=⟨_,rfl⟩
   have hB:(base++catN (elHash a13) a13.length).size≤140737488355328:=by rw[hbase];simp only[bsa];omega
   have w1:IntKind.u64.wrap a1=a1:=w_id ⟨R1.1,by omega⟩
   have hfT:(base++catN (elHash a13) a13.length).size+32≤140737488355328:=by rw[hbase];simp only[bsa,rowB_size]at hf ⊢;omega
   clear r0 r7 r9 r10 r14 r15 r17 r18 r20 r21 r22
   refine ra tst0_ok 0 false 400 [false,false,false,false,false,false,false,true] [1,3,6] [3,6] ?_ ?_
   ·simp only[conj,z0,z2,arR,z1,qrR,pmR,nrR,nlR,wlR,laR,lbR,zd,netT_false,netT_true,w1]
    (repeat' with_reducible apply And.intro)<;>first
      |omega
      |((try simp only[bsa,layB_size,rowB_size,netB_size,bigB_size,flagB_size,txz,elz,one0]);omega)
      |exact trivial
      |assumption
   refine Run.loop (ι:={q:Int×ByteArray // (0≤q.1∧q.1≤a13.length)∧q.2=base++catN (elHash a13) q.1.toNat})
    (fun i=>([.z,.a (.one (.ptr 0 (.lit 0))),.z,.a (.one (.str i.1.2)),.z,.z,.a (.one (.int .i64 i.1.1)),.z,.z,.z,.z,.z,.z,.z,.z,.z,.z,.z,.z,.z,.z,.z,.z,.z,.z,.z,.z,.z,.z,.z,.z,.z,.z,.z,.z,.z,.z,.z,.z,.z,.z,.z,.z,.z,.z,.z,.z,.z,.z,.z,.z,.z,.z,.z,.z,.z,.z,.z,.z,.z,.z,.z,.z,.z,.z,.z,.z,.z,.z,.z,.z,.z,.z,.z,.z,.z,.z,.z,.z,.z,.z,.z,.z,.z,.z,.z,.z,.z,.z,.z,.z,.z,.z,.z,.z,.z,.z,.z,.z,.z,.z,.z,.z,.z,.z,.z,.z,.z,.z,.z,.z,.z,.z,.z,.z,.z,.z,.z,.z,.z,.z,.z,.z,.z,.z,.z,.z,.z,.z,.z,.z,.z,.z,.z,.z,.z,.z,.z,.z,.z,.z,.z,.z,.z,.z,.z,.z,.z,.z,.z,.z,.z,.z,.z,.z,.z,.z,.z,.z,.z,.z,.z,.z,.z,.z,.z,.z,.z,.z,.z,.z,.z,.z,.z,.z,.z,.z,.z,.z,.z,.z,.z,.z,.z,.z,.z,.z,.z,.z,.z,.z,.z,.z,.z,.z,.z,.z,.z,.z,.z,.z,.z,.z,.z,.z,.z,.z,.z,.z,.z,.z,.z,.z,.z,.z,.z,.z,.z,.z,.z,.z,.z,.z,.z,.z,.z,.z,.z,.z,.z,.z,.z,.z,.z,.z,.z,.z,.z,.z,.z,.z,.z,.z,.z,.z,.z,.z,.z,.z,.z,.z,.z,.z,.z,.z,.z,.z,.z,.z,.z,.z,.z,.z,.z,.z,.z,.z,.z,.z,.z,.z,.z,.z,.z,.z,.z,.z,.z,.z,.z,.z,.z,.z,.z,.z,.z,.z,.z,.z,.z,.z,.z,.z,.z,.z,.z,.z,.z,.z,.z,.z,.z,.z,.z,.z,.z,.z,.z],[some ⟨false,.prt [.v MS (.pair (.int 11) (.pair (.int a1) (.pair (.int a2) (.pair (.int a3) (.pair (.int a4) (.pair (.pair (.int a5t) (.pair (.int a5s) (.pair (.row a5i) (.int a5p)))) (.pair (.pair (.int a6t) (.pair (.int a6s) (.pair (.row a6i) (.int a6p)))) (.pair (.str a7) (.pair (.int a8) (.pair (.bool a9) (.pair (.bool a10) (.pair (.sl a11) (.pair (.sl a12) (.pair (.sl a13) (.pair (.row a14) (.pair (.row a15) (.pair (.sl a16) (.pair (.str a17) (.pair (.str a18) (.pair (.sl a19) (.pair (.sl a20) (.pair (.sl a21) (.sl a22)))))))))))))))))))))))]⟩]))
    (fun i=>(a13.length-i.1.1).toNat) ⟨(0,_),by simp only;omega,(by show layB (IntKind.u64.wrap a1) 4++cntB _=base ++ .empty;rw[ByteArray.append_empty,hbase,w1];rfl)⟩ ?_
   rintro⟨⟨p,t⟩,hp,ht⟩ ih
   try simp only at hp ht
   by_cases hlt:p<a13.length
   ·have e1:rbin .add .i64 p 1=p+1:=addi (by omega) (by omega)
    have hpn:p.toNat<a13.length:=by omega
    have hcf:=cat_fit2 (f:=elHash a13) hpn hB
    have hcg:=cat_fit3 (f:=elHash a13) hpn hB
    rw[←ht]at hcf
    have hnx:t++elHash a13 p.toNat=base++catN (elHash a13) (p+1).toNat:=by
     rw[ht,show(p+1).toNat=p.toNat+1 by omega,catN_succ,baa]
    have hl32:=row_len (r13.2 _ (mem_at hlt hp.1))
    replace hcf:t.size+(rowB (a13.getD p.toNat (.int 0)).row! 32).size≤140737488355328:=hcf
    rw[rowB_size]at hcf
    refine ra tst0_ok 4 true 400 [true] [1,3,6] [3,6] ?_ ?_
    ·simp only[conj,z0,z2,arR,z1,qrR,pmR,nrR,nlR,wlR,laR,lbR,zd,netT_false,netT_true]
     (repeat' with_reducible apply And.intro)<;>first
       |omega
       |((try simp only[bsa,layB_size,rowB_size,netB_size,bigB_size,flagB_size,txz,elz,one0]);omega)
       |exact trivial
       |assumption
    ·refine ih ⟨(_,_),?_,?_⟩ ?_ _ _
     ·show 0≤rbin .add .i64 p 1∧rbin .add .i64 p 1≤a13.length
      rw[e1];omega
     ·simp only[arR,dF_m,dS_m,dI_m,dX_m,e1]
      refine Eq.trans ?_ hnx
      show t++arR.dTxt (arR.dEls (a13.getD p.toNat (.int 0)))=t++rowB (a13.getD p.toNat (.int 0)).row! 32
      rw[els_row hl32]
     ·show((a13.length:Int)-rbin .add .i64 p 1).toNat<((a13.length:Int)-p).toNat
      rw[e1];omega
   ·have hpe:p.toNat=a13.length:=by omega
    rw[hpe]at ht
    clear ih
    rw[←ht]at hfT
    refine rx tst0_ok 999 false 400 [false] ?_ ?_
    ·simp only[conj,z0,z2,arR,z1,qrR,pmR,nrR,nlR,wlR,laR,lbR,zd,netT_false,netT_true]
     (repeat' with_reducible apply And.intro)<;>first
       |omega
       |((try simp only[bsa,layB_size,rowB_size,netB_size,bigB_size,flagB_size,txz,elz,one0]);omega)
       |exact trivial
       |exact hB
       |assumption
    refine Run.ret ti_ok rfl rfl (.a (.str ?_))
    show t++wlR.tx (fun j=>a14.getD j 0) 32=layB a1 4++(cntB a13.length++catN (elHash a13) a13.length)++rowB a14 32
    rw[row_tx,ht,hbase]
    try simp only[baa]
  ·cases hs
 ·cases hs
theorem pay_12:CallOk Try.prog 76 (sPayG (kindIs 12)):=by
 refine .of_run (hc:=(tst0 qrR).hc) Try.func76 rfl (by kernel_rfl) (by kernel_rfl) fun xs v ps hs hp w=>?_
 unfold sPayG at hs
 split at hs
 ·rename_i sh d
  split at hs
  ·rename_i hsh
   obtain rfl:=shEq_eq hsh
   clear hsh
   cases hs
   obtain⟨m,rfl,hok,⟨z11,z12,z13,z16,z19,z20,z21,z22⟩,hr1,hr2⟩:=hp (putOk d) (by simp)
   have hf:(payM m).size≤140737488355328:=(congrArg (fun x=>(payM x).size≤140737488355328) (msOf_D m)).mp (hp (qrR.r.sml (qrR.pay m.D)) (by simp))
   have hk:m.kind=12:=(congrArg Ms.kind (msOf_D m)).symm.trans (hp (kindIs 12 m.D) (by simp))
   clear hp
   rw[show qrR.pay m.D=payM m from payOfE]
   obtain⟨a0,a1,a2,a3,a4,⟨a5t,a5s,a5i,a5p⟩,⟨a6t,a6s,a6i,a6p⟩,a7,a8,a9,a10,a11,a12,a13,a14,a15,a16,a17,a18,a19,a20,a21,a22⟩:=m
   obtain⟨r0,r1,r2,r3,r4,r5,r6,r7,r8,r9,r10,r11,r12,r13,r14,r15,r16,r17,r18,r19,r20,r21,r22⟩:=hok
   simp only at hk z11 z12 z13 z16 z19 z20 z21 z22
   subst hk
   replace hr1:riseP filP a20:=hr1
   replace hr2:riseP intS a21:=hr2
   have hF:=fx a1 a2 a3 a4 a8 a5t a5s a5p a6t a6s a6p a5i a6i a11 a12 a13 a16 a19 a20 a21 a22 r1 r2 r3 r8 r11 r12 r13 r16 r19 r20 r21 r22 r5 r6
   clear r11 r12 r13 r16 r19 r20 r21 r22
   obtain⟨R1,R2,R3,R8,R4,r11,r12,r13,r16,r19,r20,r21,r22,N5,N6⟩:=hF
   have e:payM ⟨12,a1,a2,a3,a4,⟨a5t,a5s,a5i,a5p⟩,⟨a6t,a6s,a6i,a6p⟩,a7,a8,a9,a10,a11,a12,a13,a14,a15,a16,a17,a18,a19,a20,a21,a22⟩=(cntB a16.length++catN (elHead a16) a16.length):=rfl
   rw[e]at hf ⊢
   clear e
   simp only[bsa]at hf
   obtain⟨base,hbase⟩:∃b,b=cntB a16.length:=⟨_,rfl⟩
   have hB:(base++catN (elHead a16) a16.length).size≤140737488355328:=by rw[hbase];simp only[bsa];omega
   clear r0 r7 r9 r10 r14 r15 r17 r18 r20 r21 r22
   refine ra tst0_ok 0 false 400 [false,false,false,false,false,false,false,false,true] [1,3,7] [3,7] ?_ ?_
   ·simp only[conj,z0,z2,arR,z1,qrR,pmR,nrR,nlR,wlR,laR,lbR,zd,netT_false,netT_true]
    (repeat' with_reducible apply And.intro)<;>first
      |omega
      |((try simp only[bsa,layB_size,rowB_size,netB_size,bigB_size,flagB_size,txz,elz,one0]);omega)
      |exact trivial
      |assumption
   refine Run.loop (ι:={q:Int×ByteArray // (0≤q.1∧q.1≤a16.length)∧q.2=base++catN (elHead a16) q.1.toNat})
    (fun i=>([.z,.a (.one (.ptr 0 (.lit 0))),.z,.a (.one (.str i.1.2)),.z,.z,.z,.a (.one (.int .i64 i.1.1)),.z,.z,.z,.z,.z,.z,.z,.z,.z,.z,.z,.z,.z,.z,.z,.z,.z,.z,.z,.z,.z,.z,.z,.z,.z,.z,.z,.z,.z,.z,.z,.z,.z,.z,.z,.z,.z,.z,.z,.z,.z,.z,.z,.z,.z,.z,.z,.z,.z,.z,.z,.z,.z,.z,.z,.z,.z,.z,.z,.z,.z,.z,.z,.z,.z,.z,.z,.z,.z,.z,.z,.z,.z,.z,.z,.z,.z,.z,.z,.z,.z,.z,.z,.z,.z,.z,.z,.z,.z,.z,.z,.z,.z,.z,.z,.z,.z,.z,.z,.z,.z,.z,.z,.z,.z,.z,.z,.z,.z,.z,.z,.z,.z,.z,.z,.z,.z,.z,.z,.z,.z,.z,.z,.z,.z,.z,.z,.z,.z,.z,.z,.z,.z,.z,.z,.z,.z,.z,.z,.z,.z,.z,.z,.z,.z,.z,.z,.z,.z,.z,.z,.z,.z,.z,.z,.z,.z,.z,.z,.z,.z,.z,.z,.z,.z,.z,.z,.z,.z,.z,.z,.z,.z,.z,.z,.z,.z,.z,.z,.z,.z,.z,.z,.z,.z,.z,.z,.z,.z,.z,.z,.z,.z,.z,.z,.z,.z,.z,.z,.z,.z,.z,.z,.z,.z,.z,.z,.z,.z,.z,.z,.z,.z,.z,.z,.z,.z,.z,.z,.z,.z,.z,.z,.z,.z,.z,.z,.z,.z,.z,.z,.z,.z,.z,.z,.z,.z,.z,.z,.z,.z,.z,.z,.z,.z,.z,.z,.z,.z,.z,.z,.z,.z,.z,.z,.z,.z,.z,.z,.z,.z,.z,.z,.z,.z,.z,.z,.z,.z,.z,.z,.z,.z,.z,.z,.z,.z,.z,.z,.z,.z,.z,.z,.z,.z,.z,.z,.z,.z,.z,.z,.z,.z,.z,.z,.z,.z,.z,.z,.z],[some ⟨false,.prt [.v MS (.pair (.int 12) (.pair (.int a1) (.pair (.int a2) (.pair (.int a3) (.pair (.int a4) (.pair (.pair (.int a5t) (.pair (.int a5s) (.pair (.row a5i) (.int a5p)))) (.pair (.pair (.int a6t) (.pair (.int a6s) (.pair (.row a6i) (.int a6p)))) (.pair (.str a7) (.pair (.int a8) (.pair (.bool a9) (.pair (.bool a10) (.pair (.sl a11) (.pair (.sl a12) (.pair (.sl a13) (.pair (.row a14) (.pair (.row a15) (.pair (.sl a16) (.pair (.str a17) (.pair (.str a18) (.pair (.sl a19) (.pair (.sl a20) (.pair (.sl a21) (.sl a22)))))))))))))))))))))))]⟩]))
    (fun i=>(a16.length-i.1.1).toNat) ⟨(0,_),by simp only;omega,(by show cntB _=base ++ .empty;rw[ByteArray.append_empty,hbase];rfl)⟩ ?_
   rintro⟨⟨p,t⟩,hp,ht⟩ ih
   try simp only at hp ht
   by_cases hlt:p<a16.length
   ·have e1:rbin .add .i64 p 1=p+1:=addi (by omega) (by omega)
    have hpn:p.toNat<a16.length:=by omega
    have hcf:=cat_fit2 (f:=elHead a16) hpn hB
    have hcg:=cat_fit3 (f:=elHead a16) hpn hB
    rw[←ht]at hcf
    have hnx:t++elHead a16 p.toNat=base++catN (elHead a16) (p+1).toNat:=by
     rw[ht,show(p+1).toNat=p.toNat+1 by omega,catN_succ,baa]
    replace hcf:t.size+((a16.getD p.toNat (.int 0)).str! ++ layB 0 1).size≤140737488355328:=hcf
    rw[bsa,layB_size]at hcf
    refine ra tst0_ok 3 true 400 [true] [1,3,7] [3,7] ?_ ?_
    ·simp only[conj,z0,z2,arR,z1,qrR,pmR,nrR,nlR,wlR,laR,lbR,zd,netT_false,netT_true]
     (repeat' with_reducible apply And.intro)<;>first
       |omega
       |((try simp only[bsa,layB_size,rowB_size,netB_size,bigB_size,flagB_size,txz,elz,one0]);omega)
       |exact trivial
       |assumption
    ·refine ih ⟨(_,_),?_,?_⟩ ?_ _ _
     ·show 0≤rbin .add .i64 p 1∧rbin .add .i64 p 1≤a16.length
      rw[e1];omega
     ·simp only[arR,dF_m,dS_m,dI_m,dX_m,e1]
      refine Eq.trans ?_ hnx
      rfl
     ·show((a16.length:Int)-rbin .add .i64 p 1).toNat<((a16.length:Int)-p).toNat
      rw[e1];omega
   ·have hpe:p.toNat=a16.length:=by omega
    rw[hpe]at ht
    clear ih
    refine rx tst0_ok 999 false 400 [false] ?_ ?_
    ·simp only[conj,z0,z2,arR,z1,qrR,pmR,nrR,nlR,wlR,laR,lbR,zd,netT_false,netT_true]
     (repeat' with_reducible apply And.intro)<;>first
       |omega
       |((try simp only[bsa,layB_size,rowB_size,netB_size,bigB_size,flagB_size,txz,elz,one0]);omega)
       |exact trivial
       |exact hB
       |assumption
    refine Run.ret ti_ok rfl rfl (.a (.str ?_))
    rw[ht,hbase]
    try simp only[baa]
  ·cases hs
 ·cases hs
theorem pay_16:CallOk Try.prog 76 (sPayG (kindIs 16)):=by
 refine .of_run (hc:=(tst0 qrR).hc) Try.func76 rfl (by kernel_rfl) (by kernel_rfl) fun xs v ps hs hp w=>?_
 unfold sPayG at hs
 split at hs
 ·rename_i sh d
  split at hs
  ·rename_i hsh
   obtain rfl:=shEq_eq hsh
   clear hsh
   cases hs
   obtain⟨m,rfl,hok,⟨z11,z12,z13,z16,z19,z20,z21,z22⟩,hr1,hr2⟩:=hp (putOk d) (by simp)
   have hf:(payM m).size≤140737488355328:=(congrArg (fun x=>(payM x).size≤140737488355328) (msOf_D m)).mp (hp (qrR.r.sml (qrR.pay m.D)) (by simp))
   have hk:m.kind=16:=(congrArg Ms.kind (msOf_D m)).symm.trans (hp (kindIs 16 m.D) (by simp))
   clear hp
   rw[show qrR.pay m.D=payM m from payOfE]
   obtain⟨a0,a1,a2,a3,a4,⟨a5t,a5s,a5i,a5p⟩,⟨a6t,a6s,a6i,a6p⟩,a7,a8,a9,a10,a11,a12,a13,a14,a15,a16,a17,a18,a19,a20,a21,a22⟩:=m
   obtain⟨r0,r1,r2,r3,r4,r5,r6,r7,r8,r9,r10,r11,r12,r13,r14,r15,r16,r17,r18,r19,r20,r21,r22⟩:=hok
   simp only at hk z11 z12 z13 z16 z19 z20 z21 z22
   subst hk
   replace hr1:riseP filP a20:=hr1
   replace hr2:riseP intS a21:=hr2
   have hF:=fx a1 a2 a3 a4 a8 a5t a5s a5p a6t a6s a6p a5i a6i a11 a12 a13 a16 a19 a20 a21 a22 r1 r2 r3 r8 r11 r12 r13 r16 r19 r20 r21 r22 r5 r6
   clear r11 r12 r13 r16 r19 r20 r21 r22
   obtain⟨R1,R2,R3,R8,R4,r11,r12,r13,r16,r19,r20,r21,r22,N5,N6⟩:=hF
   have e:payM ⟨16,a1,a2,a3,a4,⟨a5t,a5s,a5i,a5p⟩,⟨a6t,a6s,a6i,a6p⟩,a7,a8,a9,a10,a11,a12,a13,a14,a15,a16,a17,a18,a19,a20,a21,a22⟩=a17++layB a3 8++(cntB a19.length++catN (elShort a19) a19.length)++(cntB a20.length++catN (elFill a20) a20.length):=rfl
   rw[e]at hf ⊢
   clear e
   simp only[bsa]at hf
   obtain⟨base,hbase⟩:∃b,b=a17++layB a3 8++cntB a19.length:=⟨_,rfl⟩
   have hB:(base++catN (elShort a19) a19.length).size≤140737488355328:=by rw[hbase];simp only[bsa];omega
   obtain⟨base2,hbase2⟩:∃b,b=a17++layB a3 8++cntB a19.length++catN (elShort a19) a19.length++cntB a20.length:=⟨_,rfl⟩
   have hB2:(base2++catN (elFill a20) a20.length).size≤140737488355328:=by rw[hbase2];simp only[bsa];omega
   clear r0 r7 r9 r10 r14 r15 r18 r20 r21 r22
   refine ra tst0_ok 0 false 400 [false,false,false,false,false,false,false,false,false,false,false,false,true] [1,3,8] [3,8] ?_ ?_
   ·simp only[conj,z0,z2,arR,z1,qrR,pmR,nrR,nlR,wlR,laR,lbR,zd,netT_false,netT_true]
    (repeat' with_reducible apply And.intro)<;>first
      |omega
      |((try simp only[bsa,layB_size,rowB_size,netB_size,bigB_size,flagB_size,txz,elz,one0]);omega)
      |exact trivial
      |assumption
   refine Run.loop (ι:={q:Int×ByteArray // (0≤q.1∧q.1≤a19.length)∧q.2=base++catN (elShort a19) q.1.toNat})
    (fun i=>([.z,.a (.one (.ptr 0 (.lit 0))),.z,.a (.one (.str i.1.2)),.z,.z,.z,.z,.a (.one (.int .i64 i.1.1)),.z,.z,.z,.z,.z,.z,.z,.z,.z,.z,.z,.z,.z,.z,.z,.z,.z,.z,.z,.z,.z,.z,.z,.z,.z,.z,.z,.z,.z,.z,.z,.z,.z,.z,.z,.z,.z,.z,.z,.z,.z,.z,.z,.z,.z,.z,.z,.z,.z,.z,.z,.z,.z,.z,.z,.z,.z,.z,.z,.z,.z,.z,.z,.z,.z,.z,.z,.z,.z,.z,.z,.z,.z,.z,.z,.z,.z,.z,.z,.z,.z,.z,.z,.z,.z,.z,.z,.z,.z,.z,.z,.z,.z,.z,.z,.z,.z,.z,.z,.z,.z,.z,.z,.z,.z,.z,.z,.z,.z,.z,.z,.z,.z,.z,.z,.z,.z,.z,.z,.z,.z,.z,.z,.z,.z,.z,.z,.z,.z,.z,.z,.z,.z,.z,.z,.z,.z,.z,.z,.z,.z,.z,.z,.z,.z,.z,.z,.z,.z,.z,.z,.z,.z,.z,.z,.z,.z,.z,.z,.z,.z,.z,.z,.z,.z,.z,.z,.z,.z,.z,.z,.z,.z,.z,.z,.z,.z,.z,.z,.z,.z,.z,.z,.z,.z,.z,.z,.z,.z,.z,.z,.z,.z,.z,.z,.z,.z,.z,.z,.z,.z,.z,.z,.z,.z,.z,.z,.z,.z,.z,.z,.z,.z,.z,.z,.z,.z,.z,.z,.z,.z,.z,.z,.z,.z,.z,.z,.z,.z,.z,.z,.z,.z,.z,.z,.z,.z,.z,.z,.z,.z,.z,.z,.z,.z,.z,.z,.z,.z,.z,.z,.z,.z,.z,.z,.z,.z,.z,.z,.z,.z,.z,.z,.z,.z,.z,.z,.z,.z,.z,.z,.z,.z,.z,.z,.z,.z,.z,.z,.z,.z,.z,.z,.z,.z,.z,.z,.z,.z,.z,.z,.z,.z,.z,.z,.z,.z,.z,.z],[some ⟨false,.prt [.v MS (.pair (.int 16) (.pair (.int a1) (.pair (.int a2) (.pair (.int a3) (.pair (.int a4) (.pair (.pair (.int a5t) (.pair (.int a5s) (.pair (.row a5i) (.int a5p)))) (.pair (.pair (.int a6t) (.pair (.int a6s) (.pair (.row a6i) (.int a6p)))) (.pair (.str a7) (.pair (.int a8) (.pair (.bool a9) (.pair (.bool a10) (.pair (.sl a11) (.pair (.sl a12) (.pair (.sl a13) (.pair (.row a14) (.pair (.row a15) (.pair (.sl a16) (.pair (.str a17) (.pair (.str a18) (.pair (.sl a19) (.pair (.sl a20) (.pair (.sl a21) (.sl a22)))))))))))))))))))))))]⟩]))
    (fun i=>(a19.length-i.1.1).toNat) ⟨(0,_),by simp only;omega,(by show a17++layB a3 8++cntB _=base ++ .empty;rw[ByteArray.append_empty,hbase];rfl)⟩ ?_
   rintro⟨⟨p,t⟩,hp,ht⟩ ih
   try simp only at hp ht
   by_cases hlt:p<a19.length
   ·have e1:rbin .add .i64 p 1=p+1:=addi (by omega) (by omega)
    have hpn:p.toNat<a19.length:=by omega
    have hcf:=cat_fit2 (f:=elShort a19) hpn hB
    have hcg:=cat_fit3 (f:=elShort a19) hpn hB
    rw[←ht]at hcf
    have hnx:t++elShort a19 p.toNat=base++catN (elShort a19) (p+1).toNat:=by
     rw[ht,show(p+1).toNat=p.toNat+1 by omega,catN_succ,baa]
    have hx:=okD_u64 (r19.2 _ (mem_at hlt hp.1))
    replace hcf:t.size+(layB (a19.getD p.toNat (.int 0)).int! 6).size≤140737488355328:=hcf
    rw[layB_size]at hcf
    refine ra tst0_ok 4 true 400 [true] [1,3,8] [3,8] ?_ ?_
    ·simp only[conj,z0,z2,arR,z1,qrR,pmR,nrR,nlR,wlR,laR,lbR,zd,netT_false,netT_true]
     (repeat' with_reducible apply And.intro)<;>first
       |omega
       |((try simp only[bsa,layB_size,rowB_size,netB_size,bigB_size,flagB_size,txz,elz,one0]);omega)
       |exact trivial
       |assumption
    ·refine ih ⟨(_,_),?_,?_⟩ ?_ _ _
     ·show 0≤rbin .add .i64 p 1∧rbin .add .i64 p 1≤a19.length
      rw[e1];omega
     ·simp only[arR,dF_m,dS_m,dI_m,dX_m,e1]
      refine Eq.trans ?_ hnx
      rfl
     ·show((a19.length:Int)-rbin .add .i64 p 1).toNat<((a19.length:Int)-p).toNat
      rw[e1];omega
   ·have hpe:p.toNat=a19.length:=by omega
    rw[hpe]at ht
    clear ih
    rw[hbase]at ht
    have hF:t.size+(cntB a20.length).size≤140737488355328:=by
     rw[ht]
     rw[hbase2]at hB2
     simp only[bsa]at hB2 ⊢
     omega
    refine ra tst0_ok 4 false 400 [false] [1,3,9,10] [3,9,10] ?_ ?_
    ·simp only[conj,z0,z2,arR,z1,qrR,pmR,nrR,nlR,wlR,laR,lbR,zd,netT_false,netT_true]
     (repeat' with_reducible apply And.intro)<;>first
       |omega
       |((try simp only[bsa,layB_size,rowB_size,netB_size,bigB_size,flagB_size,txz,elz,one0]);omega)
       |exact trivial
       |exact hB2
       |assumption
    refine Run.loop (ι:={q:Int×ByteArray×Int // (0≤q.1∧q.1≤a20.length)∧(q.2.1=base2++catN (elFill a20) q.1.toNat∧q.2.2=prevI filP a20 q.1.toNat)})
     (fun i=>([.z,.a (.one (.ptr 0 (.lit 0))),.z,.a (.one (.str i.1.2.1)),.z,.z,.z,.z,.z,.a (.one (.int .i64 i.1.2.2)),.a (.one (.int .i64 i.1.1)),.z,.z,.z,.z,.z,.z,.z,.z,.z,.z,.z,.z,.z,.z,.z,.z,.z,.z,.z,.z,.z,.z,.z,.z,.z,.z,.z,.z,.z,.z,.z,.z,.z,.z,.z,.z,.z,.z,.z,.z,.z,.z,.z,.z,.z,.z,.z,.z,.z,.z,.z,.z,.z,.z,.z,.z,.z,.z,.z,.z,.z,.z,.z,.z,.z,.z,.z,.z,.z,.z,.z,.z,.z,.z,.z,.z,.z,.z,.z,.z,.z,.z,.z,.z,.z,.z,.z,.z,.z,.z,.z,.z,.z,.z,.z,.z,.z,.z,.z,.z,.z,.z,.z,.z,.z,.z,.z,.z,.z,.z,.z,.z,.z,.z,.z,.z,.z,.z,.z,.z,.z,.z,.z,.z,.z,.z,.z,.z,.z,.z,.z,.z,.z,.z,.z,.z,.z,.z,.z,.z,.z,.z,.z,.z,.z,.z,.z,.z,.z,.z,.z,.z,.z,.z,.z,.z,.z,.z,.z,.z,.z,.z,.z,.z,.z,.z,.z,.z,.z,.z,.z,.z,.z,.z,.z,.z,.z,.z,.z,.z,.z,.z,.z,.z,.z,.z,.z,.z,.z,.z,.z,.z,.z,.z,.z,.z,.z,.z,.z,.z,.z,.z,.z,.z,.z,.z,.z,.z,.z,.z,.z,.z,.z,.z,.z,.z,.z,.z,.z,.z,.z,.z,.z,.z,.z,.z,.z,.z,.z,.z,.z,.z,.z,.z,.z,.z,.z,.z,.z,.z,.z,.z,.z,.z,.z,.z,.z,.z,.z,.z,.z,.z,.z,.z,.z,.z,.z,.z,.z,.z,.z,.z,.z,.z,.z,.z,.z,.z,.z,.z,.z,.z,.z,.z,.z,.z,.z,.z,.z,.z,.z,.z,.z,.z,.z,.z,.z,.z,.z,.z,.z,.z,.z,.z,.z,.z,.z],[some ⟨false,.prt [.v MS (.pair (.int 16) (.pair (.int a1) (.pair (.int a2) (.pair (.int a3) (.pair (.int a4) (.pair (.pair (.int a5t) (.pair (.int a5s) (.pair (.row a5i) (.int a5p)))) (.pair (.pair (.int a6t) (.pair (.int a6s) (.pair (.row a6i) (.int a6p)))) (.pair (.str a7) (.pair (.int a8) (.pair (.bool a9) (.pair (.bool a10) (.pair (.sl a11) (.pair (.sl a12) (.pair (.sl a13) (.pair (.row a14) (.pair (.row a15) (.pair (.sl a16) (.pair (.str a17) (.pair (.str a18) (.pair (.sl a19) (.pair (.sl a20) (.pair (.sl a21) (.sl a22)))))))))))))))))))))))]⟩]))
     (fun i=>(a20.length-i.1.1).toNat) ⟨(0,_,-1),by simp only;omega,⟨(by show t++cntB _=base2 ++ .empty;rw[ByteArray.append_empty,hbase2,ht];rfl),rfl⟩⟩ ?_
    rintro⟨⟨p,t,la⟩,hp,⟨ht,hla⟩⟩ ih
    try simp only at hp ht hla
    by_cases hlt:p<a20.length
    ·have e1:rbin .add .i64 p 1=p+1:=addi (by omega) (by omega)
     have hpn:p.toNat<a20.length:=by omega
     have hcf:=cat_fit2 (f:=elFill a20) hpn hB2
     have hcg:=cat_fit3 (f:=elFill a20) hpn hB2
     rw[←ht]at hcf
     have hnx:t++elFill a20 p.toNat=base2++catN (elFill a20) (p+1).toNat:=by
      rw[ht,show(p+1).toNat=p.toNat+1 by omega,catN_succ,baa]
     have hq:=hr1 p.toNat hpn
     have hge:=prev_ge (g:=filP) (l:=a20) (n:=p.toNat) (fun i hi=>hr1 i (by omega))
     rw[←hla]at hge
     have hat:la<filP (a20.getD p.toNat (.int 0))∧filP (a20.getD p.toNat (.int 0))≤65535:=by rw[hla];exact hq
     have hg:=gap_ok2 hge hat.1 hat.2
     replace hcf:t.size+(cntB (filP (a20.getD p.toNat (.int 0))-prevI filP a20 p.toNat-1)++rawB (a20.getD p.toNat (.int 0)).snd!.str!).size≤140737488355328:=hcf
     have hrl:=raw_le (a20.getD p.toNat (.int 0)).snd!.str!
     rw[bsa,←hla]at hcf
     unfold filP at hg hcf
     refine ra tst0_ok 3 true 400 [true] [1,3,9,10] [3,9,10] ?_ ?_
     ·simp only[conj,z0,z2,arR,z1,qrR,pmR,nrR,nlR,wlR,laR,lbR,zd,netT_false,netT_true,hg.1]
      (repeat' with_reducible apply And.intro)<;>first
        |omega
        |((try simp only[bsa,layB_size,rowB_size,netB_size,bigB_size,flagB_size,txz,elz,one0]);omega)
        |exact trivial
        |assumption
     ·refine ih ⟨(_,_,_),?_,?_⟩ ?_ _ _
      ·show 0≤rbin .add .i64 p 1∧rbin .add .i64 p 1≤a20.length
       rw[e1];omega
      ·simp only[arR,dF_m,dS_m,dI_m,dX_m,e1]
       refine⟨Eq.trans ?_ hnx,?_⟩
       ·show t++(cntB (rbin .sub .i64 (rbin .sub .i64 (a20.getD p.toNat (.int 0)).fst!.int! la) 1)++rawB (a20.getD p.toNat (.int 0)).snd!.str!)=t++(cntB (filP (a20.getD p.toNat (.int 0))-prevI filP a20 p.toNat-1)++rawB (a20.getD p.toNat (.int 0)).snd!.str!)
        rw[hg.1,←hla]
        rfl
       ·show filP (a20.getD p.toNat (.int 0))=prevI filP a20 (p+1).toNat
        rw[show(p+1).toNat=p.toNat+1 by omega];rfl
      ·show((a20.length:Int)-rbin .add .i64 p 1).toNat<((a20.length:Int)-p).toNat
       rw[e1];omega
    ·have hpe:p.toNat=a20.length:=by omega
     rw[hpe]at ht
     clear ih
     refine rx tst0_ok 999 false 400 [false] ?_ ?_
     ·simp only[conj,z0,z2,arR,z1,qrR,pmR,nrR,nlR,wlR,laR,lbR,zd,netT_false,netT_true]
      (repeat' with_reducible apply And.intro)<;>first
        |omega
        |((try simp only[bsa,layB_size,rowB_size,netB_size,bigB_size,flagB_size,txz,elz,one0]);omega)
        |exact trivial
        |exact hB2
        |assumption
     refine Run.ret ti_ok rfl rfl (.a (.str ?_))
     rw[ht,hbase2]
     show _=a17++layB a3 8++(cntB a19.length++catN (elShort a19) a19.length)++(cntB a20.length++catN (elFill a20) a20.length)
     simp only[baa]
  ·cases hs
 ·cases hs
end Go.Proofs.Ytlbllaocdilafaa
