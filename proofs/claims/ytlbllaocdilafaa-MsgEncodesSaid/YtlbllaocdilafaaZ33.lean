import Derived.Test.YtlbllaocdilafaaZ32
set_option linter.unusedSimpArgs false
set_option linter.unusedVariables false
set_option maxRecDepth 100000
set_option maxHeartbeats 16000000
namespace Go.Proofs.Ytlbllaocdilafaa
open Go Go.Eng Go.Proofs Go.RowKit
attribute[local irreducible] CallOk HOk Run TIok rbin rcmp run1 updF shfF blitF
theorem pay_1:CallOk Try.prog 76 (sPayG (kindIs 1)):=by
 refine .of_run (hc:=(tst0 qrR).hc) Try.func76 rfl (by kernel_rfl) (by kernel_rfl) fun xs v ps hs hp w=>?_
 unfold sPayG at hs
 split at hs
 ·rename_i sh d
  split at hs
  ·rename_i hsh
   obtain rfl:=shEq_eq hsh
   clear hsh
   cases hs
   obtain⟨m,rfl,hok,⟨z11,z12,z13,z16,z19,z20,z21,z22⟩,hr1,hr2⟩:=hp (putOk d) (by simp)
   have hf:(payM m).size≤140737488355328:=(congrArg (fun x=>(payM x).size≤140737488355328) (msOf_D m)).mp (hp (qrR.r.sml (qrR.pay m.D)) (by simp))
   have hk:m.kind=1:=(congrArg Ms.kind (msOf_D m)).symm.trans (hp (kindIs 1 m.D) (by simp))
   clear hp
   rw[show qrR.pay m.D=payM m from payOfE]
   obtain⟨a0,a1,a2,a3,a4,⟨a5t,a5s,a5i,a5p⟩,⟨a6t,a6s,a6i,a6p⟩,a7,a8,a9,a10,a11,a12,a13,a14,a15,a16,a17,a18,a19,a20,a21,a22⟩:=m
   obtain⟨r0,r1,r2,r3,r4,r5,r6,r7,r8,r9,r10,r11,r12,r13,r14,r15,r16,r17,r18,r19,r20,r21,r22⟩:=hok
   simp only at hk z11 z12 z13 z16 z19 z20 z21 z22
   subst hk
   replace hr1:riseP filP a20:=hr1
   replace hr2:riseP intS a21:=hr2
   have hF:=fx a1 a2 a3 a4 a8 a5t a5s a5p a6t a6s a6p a5i a6i a11 a12 a13 a16 a19 a20 a21 a22 r1 r2 r3 r8 r11 r12 r13 r16 r19 r20 r21 r22 r5 r6
   clear r11 r12 r13 r16 r19 r20 r21 r22
   obtain⟨R1,R2,R3,R8,R4,r11,r12,r13,r16,r19,r20,r21,r22,N5,N6⟩:=hF
   have e:payM ⟨1,a1,a2,a3,a4,⟨a5t,a5s,a5i,a5p⟩,⟨a6t,a6s,a6i,a6p⟩,a7,a8,a9,a10,a11,a12,a13,a14,a15,a16,a17,a18,a19,a20,a21,a22⟩=verM ⟨1,a1,a2,a3,a4,⟨a5t,a5s,a5i,a5p⟩,⟨a6t,a6s,a6i,a6p⟩,a7,a8,a9,a10,a11,a12,a13,a14,a15,a16,a17,a18,a19,a20,a21,a22⟩:=rfl
   rw[e]at hf ⊢
   clear e
   rw[verM_size]at hf
   simp only at hf
   have w1:IntKind.u64.wrap a1=a1:=w_id ⟨R1.1,by omega⟩
   have w8:IntKind.u64.wrap a8=a8:=w_id ⟨R8.1,by omega⟩
   have T5:=okD_NT r5
   have T6:=okD_NT r6
   have s7:=raw_le a7
   clear r0 r7 r9 r10 r14 r15 r17 r18 r20 r21 r22
   refine rx tst0_ok 999 false 400 [true] ?_ ?_
   ·simp only[conj,z0,z2,arR,z1,qrR,pmR,nrR,nlR,wlR,laR,lbR,zd,netT_false,netT_true,w1,w8]
    (repeat' with_reducible apply And.intro)<;>first
      |omega
      |((try simp only[bsa,layB_size,rowB_size,netB_size,bigB_size,flagB_size,txz,elz,one0]);omega)
      |exact trivial
      |exact T5
      |exact T6
      |assumption
   refine Run.ret ti_ok rfl rfl (.a (.str ?_))
   show layB (IntKind.u64.wrap a1) 4++layB a2 8++layB (u64of a4) 8++netB _++netB _++layB a3 8++rawB a7++layB (IntKind.u64.wrap a8) 4++flagB a9=_
   rw[w1,w8]
   rfl
  ·cases hs
 ·cases hs
theorem pay_8:CallOk Try.prog 76 (sPayG (kindIs 8)):=by
 refine .of_run (hc:=(tst0 qrR).hc) Try.func76 rfl (by kernel_rfl) (by kernel_rfl) fun xs v ps hs hp w=>?_
 unfold sPayG at hs
 split at hs
 ·rename_i sh d
  split at hs
  ·rename_i hsh
   obtain rfl:=shEq_eq hsh
   clear hsh
   cases hs
   obtain⟨m,rfl,hok,⟨z11,z12,z13,z16,z19,z20,z21,z22⟩,hr1,hr2⟩:=hp (putOk d) (by simp)
   have hf:(payM m).size≤140737488355328:=(congrArg (fun x=>(payM x).size≤140737488355328) (msOf_D m)).mp (hp (qrR.r.sml (qrR.pay m.D)) (by simp))
   have hk:m.kind=8:=(congrArg Ms.kind (msOf_D m)).symm.trans (hp (kindIs 8 m.D) (by simp))
   clear hp
   rw[show qrR.pay m.D=payM m from payOfE]
   obtain⟨a0,a1,a2,a3,a4,⟨a5t,a5s,a5i,a5p⟩,⟨a6t,a6s,a6i,a6p⟩,a7,a8,a9,a10,a11,a12,a13,a14,a15,a16,a17,a18,a19,a20,a21,a22⟩:=m
   obtain⟨r0,r1,r2,r3,r4,r5,r6,r7,r8,r9,r10,r11,r12,r13,r14,r15,r16,r17,r18,r19,r20,r21,r22⟩:=hok
   simp only at hk z11 z12 z13 z16 z19 z20 z21 z22
   subst hk
   replace hr1:riseP filP a20:=hr1
   replace hr2:riseP intS a21:=hr2
   have hF:=fx a1 a2 a3 a4 a8 a5t a5s a5p a6t a6s a6p a5i a6i a11 a12 a13 a16 a19 a20 a21 a22 r1 r2 r3 r8 r11 r12 r13 r16 r19 r20 r21 r22 r5 r6
   clear r11 r12 r13 r16 r19 r20 r21 r22
   obtain⟨R1,R2,R3,R8,R4,r11,r12,r13,r16,r19,r20,r21,r22,N5,N6⟩:=hF
   have e:payM ⟨8,a1,a2,a3,a4,⟨a5t,a5s,a5i,a5p⟩,⟨a6t,a6s,a6i,a6p⟩,a7,a8,a9,a10,a11,a12,a13,a14,a15,a16,a17,a18,a19,a20,a21,a22⟩=(cntB a12.length++catN (elItem a12) a12.length):=rfl
   rw[e]at hf ⊢
   clear e
   simp only[bsa]at hf
   obtain⟨base,hbase⟩:∃b,b=cntB a12.length:=⟨_,rfl⟩
   have hB:(base++catN (elItem a12) a12.length).size≤140737488355328:=by rw[hbase];simp only[bsa];omega
   clear r0 r7 r9 r10 r14 r15 r17 r18 r20 r21 r22
   refine ra tst0_ok 0 false 400 [false,false,false,false,true,true,true] [1,3,5] [3,5] ?_ ?_
   ·simp only[conj,z0,z2,arR,z1,qrR,pmR,nrR,nlR,wlR,laR,lbR,zd,netT_false,netT_true]
    (repeat' with_reducible apply And.intro)<;>first
      |omega
      |((try simp only[bsa,layB_size,rowB_size,netB_size,bigB_size,flagB_size,txz,elz,one0]);omega)
      |exact trivial
      |assumption
   refine Run.loop (ι:={q:Int×ByteArray // (0≤q.1∧q.1≤a12.length)∧q.2=base++catN (elItem a12) q.1.toNat})
    (fun i=>([.z,.a (.one (.ptr 0 (.lit 0))),.z,.a (.one (.str i.1.2)),.z,.a (.one (.int .i64 i.1.1)),.z,.z,.z,.z,.z,.z,.z,.z,.z,.z,.z,.z,.z,.z,.z,.z,.z,.z,.z,.z,.z,.z,.z,.z,.z,.z,.z,.z,.z,.z,.z,.z,.z,.z,.z,.z,.z,.z,.z,.z,.z,.z,.z,.z,.z,.z,.z,.z,.z,.z,.z,.z,.z,.z,.z,.z,.z,.z,.z,.z,.z,.z,.z,.z,.z,.z,.z,.z,.z,.z,.z,.z,.z,.z,.z,.z,.z,.z,.z,.z,.z,.z,.z,.z,.z,.z,.z,.z,.z,.z,.z,.z,.z,.z,.z,.z,.z,.z,.z,.z,.z,.z,.z,.z,.z,.z,.z,.z,.z,.z,.z,.z,.z,.z,.z,.z,.z,.z,.z,.z,.z,.z,.z,.z,.z,.z,.z,.z,.z,.z,.z,.z,.z,.z,.z,.z,.z,.z,.z,.z,.z,.z,.z,.z,.z,.z,.z,.z,.z,.z,.z,.z,.z,.z,.z,.z,.z,.z,.z,.z,.z,.z,.z,.z,.z,.z,.z,.z,.z,.z,.z,.z,.z,.z,.z,.z,.z,.z,.z,.z,.z,.z,.z,.z,.z,.z,.z,.z,.z,.z,.z,.z,.z,.z,.z,.z,.z,.z,.z,.z,.z,.z,.z,.z,.z,.z,.z,.z,.z,.z,.z,.z,.z,.z,.z,.z,.z,.z,.z,.z,.z,.z,.z,.z,.z,.z,.z,.z,.z,.z,.z,.z,.z,.z,.z,.z,.z,.z,.z,.z,.z,.z,.z,.z,.z,.z,.z,.z,.z,.z,.z,.z,.z,.z,.z,.z,.z,.z,.z,.z,.z,.z,.z,.z,.z,.z,.z,.z,.z,.z,.z,.z,.z,.z,.z,.z,.z,.z,.z,.z,.z,.z,.z,.z,.z,.z,.z,.z,.z,.z,.z,.z,.z,.z,.z,.z,.z,.z,.z,.z,.z,.z],[some ⟨false,.prt [.v MS (.pair (.int 8) (.pair (.int a1) (.pair (.int a2) (.pair (.int a3) (.pair (.int a4) (.pair (.pair (.int a5t) (.pair (.int a5s) (.pair (.row a5i) (.int a5p)))) (.pair (.pair (.int a6t) (.pair (.int a6s) (.pair (.row a6i) (.int a6p)))) (.pair (.str a7) (.pair (.int a8) (.pair (.bool a9) (.pair (.bool a10) (.pair (.sl a11) (.pair (.sl a12) (.pair (.sl a13) (.pair (.row a14) (.pair (.row a15) (.pair (.sl a16) (.pair (.str a17) (.pair (.str a18) (.pair (.sl a19) (.pair (.sl a20) (.pair (.sl a21) (.sl a22)))))))))))))))))))))))]⟩]))
    (fun i=>(a12.length-i.1.1).toNat) ⟨(0,_),by simp only;omega,(by show cntB _=base ++ .empty;rw[ByteArray.append_empty,hbase];rfl)⟩ ?_
   rintro⟨⟨p,t⟩,hp,ht⟩ ih
   try simp only at hp ht
   by_cases hlt:p<a12.length
   ·have e1:rbin .add .i64 p 1=p+1:=addi (by omega) (by omega)
    have hpn:p.toNat<a12.length:=by omega
    have hcf:=cat_fit2 (f:=elItem a12) hpn hB
    have hcg:=cat_fit3 (f:=elItem a12) hpn hB
    rw[←ht]at hcf
    have hnx:t++elItem a12 p.toNat=base++catN (elItem a12) (p+1).toNat:=by
     rw[ht,show(p+1).toNat=p.toNat+1 by omega,catN_succ,baa]
    have hx:=okD_item (r12.2 _ (mem_at hlt hp.1))
    have hl32:=item_len (r12.2 _ (mem_at hlt hp.1))
    have wx:IntKind.u64.wrap (a12.getD p.toNat (.int 0)).fst!.int! = (a12.getD p.toNat (.int 0)).fst!.int!:=w_id ⟨hx.1,by omega⟩
    replace hcf:t.size+(layB (a12.getD p.toNat (.int 0)).fst!.int! 4++rowB (a12.getD p.toNat (.int 0)).snd!.row! 32).size≤140737488355328:=hcf
    rw[bsa,layB_size,rowB_size]at hcf
    refine ra tst0_ok 3 true 400 [true] [1,3,5] [3,5] ?_ ?_
    ·simp only[conj,z0,z2,arR,z1,qrR,pmR,nrR,nlR,wlR,laR,lbR,zd,netT_false,netT_true,wx]
     (repeat' with_reducible apply And.intro)<;>first
       |omega
       |((try simp only[bsa,layB_size,rowB_size,netB_size,bigB_size,flagB_size,txz,elz,one0]);omega)
       |exact trivial
       |assumption
    ·refine ih ⟨(_,_),?_,?_⟩ ?_ _ _
     ·show 0≤rbin .add .i64 p 1∧rbin .add .i64 p 1≤a12.length
      rw[e1];omega
     ·simp only[arR,dF_m,dS_m,dI_m,dX_m,e1]
      refine Eq.trans ?_ hnx
      show t++(layB (IntKind.u64.wrap (a12.getD p.toNat (.int 0)).fst!.int!) 4++arR.dTxt (arR.dEls (D.snd! (a12.getD p.toNat (.int 0)))))=t++(layB (a12.getD p.toNat (.int 0)).fst!.int! 4++rowB (a12.getD p.toNat (.int 0)).snd!.row! 32)
      rw[wx,els_row (item_len (r12.2 _ (mem_at hlt hp.1)))]
     ·show((a12.length:Int)-rbin .add .i64 p 1).toNat<((a12.length:Int)-p).toNat
      rw[e1];omega
   ·have hpe:p.toNat=a12.length:=by omega
    rw[hpe]at ht
    clear ih
    refine rx tst0_ok 999 false 400 [false] ?_ ?_
    ·simp only[conj,z0,z2,arR,z1,qrR,pmR,nrR,nlR,wlR,laR,lbR,zd,netT_false,netT_true]
     (repeat' with_reducible apply And.intro)<;>first
       |omega
       |((try simp only[bsa,layB_size,rowB_size,netB_size,bigB_size,flagB_size,txz,elz,one0]);omega)
       |exact trivial
       |exact hB
       |assumption
    refine Run.ret ti_ok rfl rfl (.a (.str ?_))
    rw[ht,hbase]
    try simp only[baa]
  ·cases hs
 ·cases hs
theorem pay_9:CallOk Try.prog 76 (sPayG (kindIs 9)):=by
 refine .of_run (hc:=(tst0 qrR).hc) Try.func76 rfl (by kernel_rfl) (by kernel_rfl) fun xs v ps hs hp w=>?_
 unfold sPayG at hs
 split at hs
 ·rename_i sh d
  split at hs
  ·rename_i hsh
   obtain rfl:=shEq_eq hsh
   clear hsh
   cases hs
   obtain⟨m,rfl,hok,⟨z11,z12,z13,z16,z19,z20,z21,z22⟩,hr1,hr2⟩:=hp (putOk d) (by simp)
   have hf:(payM m).size≤140737488355328:=(congrArg (fun x=>(payM x).size≤140737488355328) (msOf_D m)).mp (hp (qrR.r.sml (qrR.pay m.D)) (by simp))
   have hk:m.kind=9:=(congrArg Ms.kind (msOf_D m)).symm.trans (hp (kindIs 9 m.D) (by simp))
   clear hp
   rw[show qrR.pay m.D=payM m from payOfE]
   obtain⟨a0,a1,a2,a3,a4,⟨a5t,a5s,a5i,a5p⟩,⟨a6t,a6s,a6i,a6p⟩,a7,a8,a9,a10,a11,a12,a13,a14,a15,a16,a17,a18,a19,a20,a21,a22⟩:=m
   obtain⟨r0,r1,r2,r3,r4,r5,r6,r7,r8,r9,r10,r11,r12,r13,r14,r15,r16,r17,r18,r19,r20,r21,r22⟩:=hok
   simp only at hk z11 z12 z13 z16 z19 z20 z21 z22
   subst hk
   replace hr1:riseP filP a20:=hr1
   replace hr2:riseP intS a21:=hr2
   have hF:=fx a1 a2 a3 a4 a8 a5t a5s a5p a6t a6s a6p a5i a6i a11 a12 a13 a16 a19 a20 a21 a22 r1 r2 r3 r8 r11 r12 r13 r16 r19 r20 r21 r22 r5 r6
   clear r11 r12 r13 r16 r19 r20 r21 r22
   obtain⟨R1,R2,R3,R8,R4,r11,r12,r13,r16,r19,r20,r21,r22,N5,N6⟩:=hF
   have e:payM ⟨9,a1,a2,a3,a4,⟨a5t,a5s,a5i,a5p⟩,⟨a6t,a6s,a6i,a6p⟩,a7,a8,a9,a10,a11,a12,a13,a14,a15,a16,a17,a18,a19,a20,a21,a22⟩=(cntB a12.length++catN (elItem a12) a12.length):=rfl
   rw[e]at hf ⊢
   clear e
   simp only[bsa]at hf
   obtain⟨base,hbase⟩:∃b,b=cntB a12.length:=⟨_,rfl⟩
   have hB:(base++catN (elItem a12) a12.length).size≤140737488355328:=by rw[hbase];simp only[bsa];omega
   clear r0 r7 r9 r10 r14 r15 r17 r18 r20 r21 r22
   refine ra tst0_ok 0 false 400 [false,false,false,false,false,true,true] [1,3,5] [3,5] ?_ ?_
   ·simp only[conj,z0,z2,arR,z1,qrR,pmR,nrR,nlR,wlR,laR,lbR,zd,netT_false,netT_true]
    (repeat' with_reducible apply And.intro)<;>first
      |omega
      |((try simp only[bsa,layB_size,rowB_size,netB_size,bigB_size,flagB_size,txz,elz,one0]);omega)
      |exact trivial
      |assumption
   refine Run.loop (ι:={q:Int×ByteArray // (0≤q.1∧q.1≤a12.length)∧q.2=base++catN (elItem a12) q.1.toNat})
    (fun i=>([.z,.a (.one (.ptr 0 (.lit 0))),.z,.a (.one (.str i.1.2)),.z,.a (.one (.int .i64 i.1.1)),.z,.z,.z,.z,.z,.z,.z,.z,.z,.z,.z,.z,.z,.z,.z,.z,.z,.z,.z,.z,.z,.z,.z,.z,.z,.z,.z,.z,.z,.z,.z,.z,.z,.z,.z,.z,.z,.z,.z,.z,.z,.z,.z,.z,.z,.z,.z,.z,.z,.z,.z,.z,.z,.z,.z,.z,.z,.z,.z,.z,.z,.z,.z,.z,.z,.z,.z,.z,.z,.z,.z,.z,.z,.z,.z,.z,.z,.z,.z,.z,.z,.z,.z,.z,.z,.z,.z,.z,.z,.z,.z,.z,.z,.z,.z,.z,.z,.z,.z,.z,.z,.z,.z,.z,.z,.z,.z,.z,.z,.z,.z,.z,.z,.z,.z,.z,.z,.z,.z,.z,.z,.z,.z,.z,.z,.z,.z,.z,.z,.z,.z,.z,.z,.z,.z,.z,.z,.z,.z,.z,.z,.z,.z,.z,.z,.z,.z,.z,.z,.z,.z,.z,.z,.z,.z,.z,.z,.z,.z,.z,.z,.z,.z,.z,.z,.z,.z,.z,.z,.z,.z,.z,.z,.z,.z,.z,.z,.z,.z,.z,.z,.z,.z,.z,.z,.z,.z,.z,.z,.z,.z,.z,.z,.z,.z,.z,.z,.z,.z,.z,.z,.z,.z,.z,.z,.z,.z,.z,.z,.z,.z,.z,.z,.z,.z,.z,.z,.z,.z,.z,.z,.z,.z,.z,.z,.z,.z,.z,.z,.z,.z,.z,.z,.z,.z,.z,.z,.z,.z,.z,.z,.z,.z,.z,.z,.z,.z,.z,.z,.z,.z,.z,.z,.z,.z,.z,.z,.z,.z,.z,.z,.z,.z,.z,.z,.z,.z,.z,.z,.z,.z,.z,.z,.z,.z,.z,.z,.z,.z,.z,.z,.z,.z,.z,.z,.z,.z,.z,.z,.z,.z,.z,.z,.z,.z,.z,.z,.z,.z,.z,.z,.z],[some ⟨false,.prt [.v MS (.pair (.int 9) (.pair (.int a1) (.pair (.int a2) (.pair (.int a3) (.pair (.int a4) (.pair (.pair (.int a5t) (.pair (.int a5s) (.pair (.row a5i) (.int a5p)))) (.pair (.pair (.int a6t) (.pair (.int a6s) (.pair (.row a6i) (.int a6p)))) (.pair (.str a7) (.pair (.int a8) (.pair (.bool a9) (.pair (.bool a10) (.pair (.sl a11) (.pair (.sl a12) (.pair (.sl a13) (.pair (.row a14) (.pair (.row a15) (.pair (.sl a16) (.pair (.str a17) (.pair (.str a18) (.pair (.sl a19) (.pair (.sl a20) (.pair (.sl a21) (.sl a22)))))))))))))))))))))))]⟩]))
    (fun i=>(a12.length-i.1.1).toNat) ⟨(0,_),by simp only;omega,(by show cntB _=base ++ .empty;rw[ByteArray.append_empty,hbase];rfl)⟩ ?_
   rintro⟨⟨p,t⟩,hp,ht⟩ ih
   try simp only at hp ht
   by_cases hlt:p<a12.length
   ·have e1:rbin .add .i64 p 1=p+1:=addi (by omega) (by omega)
    have hpn:p.toNat<a12.length:=by omega
    have hcf:=cat_fit2 (f:=elItem a12) hpn hB
    have hcg:=cat_fit3 (f:=elItem a12) hpn hB
    rw[←ht]at hcf
    have hnx:t++elItem a12 p.toNat=base++catN (elItem a12) (p+1).toNat:=by
     rw[ht,show(p+1).toNat=p.toNat+1 by omega,catN_succ,baa]
    have hx:=okD_item (r12.2 _ (mem_at hlt hp.1))
    have hl32:=item_len (r12.2 _ (mem_at hlt hp.1))
    have wx:IntKind.u64.wrap (a12.getD p.toNat (.int 0)).fst!.int! = (a12.getD p.toNat (.int 0)).fst!.int!:=w_id ⟨hx.1,by omega⟩
    replace hcf:t.size+(layB (a12.getD p.toNat (.int 0)).fst!.int! 4++rowB (a12.getD p.toNat (.int 0)).snd!.row! 32).size≤140737488355328:=hcf
    rw[bsa,layB_size,rowB_size]at hcf
    refine ra tst0_ok 3 true 400 [true] [1,3,5] [3,5] ?_ ?_
    ·simp only[conj,z0,z2,arR,z1,qrR,pmR,nrR,nlR,wlR,laR,lbR,zd,netT_false,netT_true,wx]
     (repeat' with_reducible apply And.intro)<;>first
       |omega
       |((try simp only[bsa,layB_size,rowB_size,netB_size,bigB_size,flagB_size,txz,elz,one0]);omega)
       |exact trivial
       |assumption
    ·refine ih ⟨(_,_),?_,?_⟩ ?_ _ _
     ·show 0≤rbin .add .i64 p 1∧rbin .add .i64 p 1≤a12.length
      rw[e1];omega
     ·simp only[arR,dF_m,dS_m,dI_m,dX_m,e1]
      refine Eq.trans ?_ hnx
      show t++(layB (IntKind.u64.wrap (a12.getD p.toNat (.int 0)).fst!.int!) 4++arR.dTxt (arR.dEls (D.snd! (a12.getD p.toNat (.int 0)))))=t++(layB (a12.getD p.toNat (.int 0)).fst!.int! 4++rowB (a12.getD p.toNat (.int 0)).snd!.row! 32)
      rw[wx,els_row (item_len (r12.2 _ (mem_at hlt hp.1)))]
     ·show((a12.length:Int)-rbin .add .i64 p 1).toNat<((a12.length:Int)-p).toNat
      rw[e1];omega
   ·have hpe:p.toNat=a12.length:=by omega
    rw[hpe]at ht
    clear ih
    refine rx tst0_ok 999 false 400 [false] ?_ ?_
    ·simp only[conj,z0,z2,arR,z1,qrR,pmR,nrR,nlR,wlR,laR,lbR,zd,netT_false,netT_true]
     (repeat' with_reducible apply And.intro)<;>first
       |omega
       |((try simp only[bsa,layB_size,rowB_size,netB_size,bigB_size,flagB_size,txz,elz,one0]);omega)
       |exact trivial
       |exact hB
       |assumption
    refine Run.ret ti_ok rfl rfl (.a (.str ?_))
    rw[ht,hbase]
    try simp only[baa]
  ·cases hs
 ·cases hs
theorem pay_10:CallOk Try.prog 76 (sPayG (kindIs 10)):=by
 refine .of_run (hc:=(tst0 qrR).hc) Try.func76 rfl (by kernel_rfl) (by kernel_rfl) fun xs v ps hs hp w=>?_
 unfold sPayG at hs
 split at hs
 ·rename_i sh d
  split at hs
  ·rename_i hsh
   obtain rfl:=shEq_eq hsh
   clear hsh
   cases hs
   obtain⟨m,rfl,hok,⟨z11,z12,z13,z16,z19,z20,z21,z22⟩,hr1,hr2⟩:=hp (putOk d) (by simp)
   have hf:(payM m).size≤140737488355328:=(congrArg (fun x=>(payM x).size≤140737488355328) (msOf_D m)).mp (hp (qrR.r.sml (qrR.pay m.D)) (by simp))
   have hk:m.kind=10:=(congrArg Ms.kind (msOf_D m)).symm.trans (hp (kindIs 10 m.D) (by simp))
   clear hp
   rw[show qrR.pay m.D=payM m from payOfE]
   obtain⟨a0,a1,a2,a3,a4,⟨a5t,a5s,a5i,a5p⟩,⟨a6t,a6s,a6i,a6p⟩,a7,a8,a9,a10,a11,a12,a13,a14,a15,a16,a17,a18,a19,a20,a21,a22⟩:=m
   obtain⟨r0,r1,r2,r3,r4,r5,r6,r7,r8,r9,r10,r11,r12,r13,r14,r15,r16,r17,r18,r19,r20,r21,r22⟩:=hok
   simp only at hk z11 z12 z13 z16 z19 z20 z21 z22
   subst hk
   replace hr1:riseP filP a20:=hr1
   replace hr2:riseP intS a21:=hr2
   have hF:=fx a1 a2 a3 a4 a8 a5t a5s a5p a6t a6s a6p a5i a6i a11 a12 a13 a16 a19 a20 a21 a22 r1 r2 r3 r8 r11 r12 r13 r16 r19 r20 r21 r22 r5 r6
   clear r11 r12 r13 r16 r19 r20 r21 r22
   obtain⟨R1,R2,R3,R8,R4,r11,r12,r13,r16,r19,r20,r21,r22,N5,N6⟩:=hF
   have e:payM ⟨10,a1,a2,a3,a4,⟨a5t,a5s,a5i,a5p⟩,⟨a6t,a6s,a6i,a6p⟩,a7,a8,a9,a10,a11,a12,a13,a14,a15,a16,a17,a18,a19,a20,a21,a22⟩=(cntB a12.length++catN (elItem a12) a12.length):=rfl
   rw[e]at hf ⊢
   clear e
   simp only[bsa]at hf
   obtain⟨base,hbase⟩:∃b,b=cntB a12.length:=⟨_,rfl⟩
   have hB:(base++catN (elItem a12) a12.length).size≤140737488355328:=by rw[hbase];simp only[bsa];omega
   clear r0 r7 r9 r10 r14 r15 r17 r18 r20 r21 r22
   refine ra tst0_ok 0 false 400 [false,false,false,false,false,false,true] [1,3,5] [3,5] ?_ ?_
   ·simp only[conj,z0,z2,arR,z1,qrR,pmR,nrR,nlR,wlR,laR,lbR,zd,netT_false,netT_true]
    (repeat' with_reducible apply And.intro)<;>first
      |omega
      |((try simp only[bsa,layB_size,rowB_size,netB_size,bigB_size,flagB_size,txz,elz,one0]);omega)
      |exact trivial
      |assumption
   refine Run.loop (ι:={q:Int×ByteArray // (0≤q.1∧q.1≤a12.length)∧q.2=base++catN (elItem a12) q.1.toNat})
    (fun i=>([.z,.a (.one (.ptr 0 (.lit 0))),.z,.a (.one (.str i.1.2)),.z,.a (.one (.int .i64 i.1.1)),.z,.z,.z,.z,.z,.z,.z,.z,.z,.z,.z,.z,.z,.z,.z,.z,.z,.z,.z,.z,.z,.z,.z,.z,.z,.z,.z,.z,.z,.z,.z,.z,.z,.z,.z,.z,.z,.z,.z,.z,.z,.z,.z,.z,.z,.z,.z,.z,.z,.z,.z,.z,.z,.z,.z,.z,.z,.z,.z,.z,.z,.z,.z,.z,.z,.z,.z,.z,.z,.z,.z,.z,.z,.z,.z,.z,.z,.z,.z,.z,.z,.z,.z,.z,.z,.z,.z,.z,.z,.z,.z,.z,.z,.z,.z,.z,.z,.z,.z,.z,.z,.z,.z,.z,.z,.z,.z,.z,.z,.z,.z,.z,.z,.z,.z,.z,.z,.z,.z,.z,.z,.z,.z,.z,.z,.z,.z,.z,.z,.z,.z,.z,.z,.z,.z,.z,.z,.z,.z,.z,.z,.z,.z,.z,.z,.z,.z,.z,.z,.z,.z,.z,.z,.z,.z,.z,.z,.z,.z,.z,.z,.z,.z,.z,.z,.z,.z,.z,.z,.z,.z,.z,.z,.z,.z,.z,.z,.z,.z,.z,.z,.z,.z,.z,.z,.z,.z,.z,.z,.z,.z,.z,.z,.z,.z,.z,.z,.z,.z,.z,.z,.z,.z,.z,.z,.z,.z,.z,.z,.z,.z,.z,.z,.z,.z,.z,.z,.z,.z,.z,.z,.z,.z,.z,.z,.z,.z,.z,.z,.z,.z,.z,.z,.z,.z,.z,.z,.z,.z,.z,.z,.z,.z,.z,.z,.z,.z,.z,.z,.z,.z,.z,.z,.z,.z,.z,.z,.z,.z,.z,.z,.z,.z,.z,.z,.z,.z,.z,.z,.z,.z,.z,.z,.z,.z,.z,.z,.z,.z,.z,.z,.z,.z,.z,.z,.z,.z,.z,.z,.z,.z,.z,.z,.z,.z,.z,.z,.z,.z,.z,.z,.z],[some ⟨false,.prt [.v MS (.pair (.int 10) (.pair (.int a1) (.pair (.int a2) (.pair (.int a3) (.pair (.int a4) (.pair (.pair (.int a5t) (.pair (.int a5s) (.pair (.row a5i) (.int a5p)))) (.pair (.pair (.int a6t) (.pair (.int a6s) (.pair (.row a6i) (.int a6p)))) (.pair (.str a7) (.pair (.int a8) (.pair (.bool a9) (.pair (.bool a10) (.pair (.sl a11) (.pair (.sl a12) (.pair (.sl a13) (.pair (.row a14) (.pair (.row a15) (.pair (.sl a16) (.pair (.str a17) (.pair (.str a18) (.pair (.sl a19) (.pair (.sl a20) (.pair (.sl a21) (.sl a22)))))))))))))))))))))))]⟩]))
    (fun i=>(a12.length-i.1.1).toNat) ⟨(0,_),by simp only;omega,(by show cntB _=base ++ .empty;rw[ByteArray.append_empty,hbase];rfl)⟩ ?_
   rintro⟨⟨p,t⟩,hp,ht⟩ ih
   try simp only at hp ht
   by_cases hlt:p<a12.length
   ·have e1:rbin .add .i64 p 1=p+1:=addi (by omega) (by omega)
    have hpn:p.toNat<a12.length:=by omega
    have hcf:=cat_fit2 (f:=elItem a12) hpn hB
    have hcg:=cat_fit3 (f:=elItem a12) hpn hB
    rw[←ht]at hcf
    have hnx:t++elItem a12 p.toNat=base++catN (elItem a12) (p+1).toNat:=by
     rw[ht,show(p+1).toNat=p.toNat+1 by omega,catN_succ,baa]
    have hx:=okD_item (r12.2 _ (mem_at hlt hp.1))
    have hl32:=item_len (r12.2 _ (mem_at hlt hp.1))
    have wx:IntKind.u64.wrap (a12.getD p.toNat (.int 0)).fst!.int! = (a12.getD p.toNat (.int 0)).fst!.int!:=w_id ⟨hx.1,by omega⟩
    replace hcf:t.size+(layB (a12.getD p.toNat (.int 0)).fst!.int! 4++rowB (a12.getD p.toNat (.int 0)).snd!.row! 32).size≤140737488355328:=hcf
    rw[bsa,layB_size,rowB_size]at hcf
    refine ra tst0_ok 3 true 400 [true] [1,3,5] [3,5] ?_ ?_
    ·simp only[conj,z0,z2,arR,z1,qrR,pmR,nrR,nlR,wlR,laR,lbR,zd,netT_false,netT_true,wx]
     (repeat' with_reducible apply And.intro)<;>first
       |omega
       |((try simp only[bsa,layB_size,rowB_size,netB_size,bigB_size,flagB_size,txz,elz,one0]);omega)
       |exact trivial
       |assumption
    ·refine ih ⟨(_,_),?_,?_⟩ ?_ _ _
     ·show 0≤rbin .add .i64 p 1∧rbin .add .i64 p 1≤a12.length
      rw[e1];omega
     ·simp only[arR,dF_m,dS_m,dI_m,dX_m,e1]
      refine Eq.trans ?_ hnx
      show t++(layB (IntKind.u64.wrap (a12.getD p.toNat (.int 0)).fst!.int!) 4++arR.dTxt (arR.dEls (D.snd! (a12.getD p.toNat (.int 0)))))=t++(layB (a12.getD p.toNat (.int 0)).fst!.int! 4++rowB (a12.getD p.toNat (.int 0)).snd!.row! 32)
      rw[wx,els_row (item_len (r12.2 _ (mem_at hlt hp.1)))]
     ·show((a12.length:Int)-rbin .add .i64 p 1).toNat<((a12.length:Int)-p).toNat
      rw[e1];omega
   ·have hpe:p.toNat=a12.length:=by omega
    rw[hpe]at ht
    clear ih
    refine rx tst0_ok 999 false 400 [false] ?_ ?_
    ·simp only[conj,z0,z2,arR,z1,qrR,pmR,nrR,nlR,wlR,laR,lbR,zd,netT_false,netT_true]
     (repeat' with_reducible apply And.intro)<;>first
       |omega
       |((try simp only[bsa,layB_size,rowB_size,netB_size,bigB_size,flagB_size,txz,elz,one0]);omega)
       |exact trivial
       |exact hB
       |assumption
    refine Run.ret ti_ok rfl rfl (.a (.str ?_))
    rw[ht,hbase]
    try simp only[baa]
  ·cases hs
 ·cases hs
end Go.Proofs.Ytlbllaocdilafaa
