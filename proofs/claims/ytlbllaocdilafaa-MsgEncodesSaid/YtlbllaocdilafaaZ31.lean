import Derived.Test.YtlbllaocdilafaaZ29
import Derived.Test.YtlbllaocdilafaaZ30
set_option linter.unusedSimpArgs false
set_option linter.unusedVariables false
set_option maxRecDepth 100000
set_option maxHeartbeats 16000000
namespace Go.Proofs.Ytlbllaocdilafaa
open Go Go.Eng Go.Proofs Go.RowKit
attribute[local irreducible] CallOk HOk Run TIok rbin rcmp run1 updF shfF blitF
theorem put_11:HOk Try.prog 70 (hPutG (kindIs 11)):=by
 refine .of_run (hc:=(tsm0 pmR).hc) Try.func70 rfl (by kernel_rfl) (by kernel_rfl) fun las lbs v lbs' ps hs hp w=>?_
 unfold hPutG at hs
 split at hs
 ·rename_i sh d s
  split at hs
  ·rename_i hsh
   obtain rfl:=shEq_eq hsh
   clear hsh
   cases hs
   have hpo:putOk d:=hp (putOk d) (by simp)
   obtain⟨m,rfl,hok,⟨z11,z12,z13,z16,z19,z20,z21,z22⟩,hr1,hr2⟩:=hpo
   have hpo:putOk m.D:=hp (putOk m.D) (by simp)
   have hf:=hp (pmR.n.fit2 s (pmR.pay m.D)) (by simp)
   have hk:m.kind=11:=(congrArg Ms.kind (msOf_D m)).symm.trans (hp (kindIs 11 m.D) (by simp))
   have hvr:verM m=pmR.ver m.D:=verOfE.symm
   have hcm:comM m=pmR.com m.D:=comOfE.symm
   clear hp
   rw[payOf]at hf
   rw[payOfE]
   obtain⟨a0,a1,a2,a3,a4,⟨a5t,a5s,a5i,a5p⟩,⟨a6t,a6s,a6i,a6p⟩,a7,a8,a9,a10,a11,a12,a13,a14,a15,a16,a17,a18,a19,a20,a21,a22⟩:=m
   obtain⟨r0,r1,r2,r3,r4,r5,r6,r7,r8,r9,r10,r11,r12,r13,r14,r15,r16,r17,r18,r19,r20,r21,r22⟩:=hok
   simp only at hk z11 z12 z13 z16 z19 z20 z21 z22
   subst hk
   replace hr1:riseP filP a20:=hr1
   replace hr2:riseP intS a21:=hr2
   have hF:=fx a1 a2 a3 a4 a8 a5t a5s a5p a6t a6s a6p a5i a6i a11 a12 a13 a16 a19 a20 a21 a22 r1 r2 r3 r8 r11 r12 r13 r16 r19 r20 r21 r22 r5 r6
   clear r11 r12 r13 r16 r19 r20 r21 r22
   obtain⟨R1,R2,R3,R8,R4,r11,r12,r13,r16,r19,r20,r21,r22,N5,N6⟩:=hF
   have e:payM ⟨11,a1,a2,a3,a4,⟨a5t,a5s,a5i,a5p⟩,⟨a6t,a6s,a6i,a6p⟩,a7,a8,a9,a10,a11,a12,a13,a14,a15,a16,a17,a18,a19,a20,a21,a22⟩=layB a1 4++(cntB a13.length++catN (elHash a13) a13.length)++rowB a14 32:=rfl
   rw[e]at hf ⊢
   clear e
   simp only[bsa]at hf
   have F0:(s).size+(layB a1 4).size≤140737488355328:=by(try simp only[bsa]);omega
   have F1:(s++layB a1 4).size+(cntB a13.length).size≤140737488355328:=by(try simp only[bsa]);omega
   obtain⟨base,hbase⟩:∃b,b=s++layB a1 4++cntB a13.length:=⟨_,rfl⟩
   have hB:base.size+(catN (elHash a13) a13.length).size≤140737488355328:=by rw[hbase];simp only[bsa];omega
   have FT:(base++catN (elHash a13) a13.length).size+(rowB a14 32).size≤140737488355328:=by rw[hbase];simp only[bsa];omega
   clear hf
   have hc:IntKind.u64.wrap (a13.length:Int)=a13.length:=wrap_len (by omega)
   clear r0 r1 r2 r3 r4 r5 r6 r7 r8 r9 r10 r14 r15 r17 r18
   refine ra tsm0_ok 0 false 400 [false,false,false,false,false,false,false,true] [0,3,93,94,95] [95] ?_ ?_
   ·simp only[conj,z0,z2,arR,z1,pmR,nlR,wlR,laR,lbR,zd,hc]
    (repeat' with_reducible apply And.intro)<;>first
      |omega
      |assumption
      |exact F0
      |exact F1
      |rfl
      |trivial
      |((try simp only[bsa,layB_size,rowB_size,netB_size,bigB_size,flagB_size,txz]);omega)
   refine Run.loop (ι:={q:Int×Int×ByteArray // (0≤q.1∧q.1≤a13.length)∧q.2.1=a13.length∧q.2.2=base++catN (elHash a13) q.1.toNat})
    (fun i=>([.a (.one (.ptr 0 (.lit 0))),.z,.z,.a (.one (.ptr 2 (.lit 0))),.z,.z,.z,.z,.z,.z,.z,.z,.z,.z,.z,.z,.z,.z,.z,.z,.z,.z,.z,.z,.z,.z,.z,.z,.z,.z,.z,.z,.z,.z,.z,.z,.z,.z,.z,.z,.z,.z,.z,.z,.z,.z,.z,.z,.z,.z,.z,.z,.z,.z,.z,.z,.z,.z,.z,.z,.z,.z,.z,.z,.z,.z,.z,.z,.z,.z,.z,.z,.z,.z,.z,.z,.z,.z,.z,.z,.z,.z,.z,.z,.z,.z,.z,.z,.z,.z,.z,.z,.z,.a (.one (.dat (.arr .u8 32) a13 none)),.a (.one (.int .i64 i.1.2.1)),.a (.one (.int .i64 i.1.1)),.z,.z,.z,.z,.z,.z,.z,.z,.z,.z,.z,.z,.z,.z,.z,.z,.z,.z,.z,.z,.z,.z,.z,.z,.z,.z,.z,.z,.z,.z,.z,.z,.z,.z,.z,.z,.z,.z,.z,.z,.z,.z,.z,.z,.z,.z,.z,.z,.z,.z,.z,.z,.z,.z,.z,.z,.z,.z,.z,.z,.z,.z,.z,.z,.z,.z,.z,.z,.z,.z,.z,.z,.z,.z,.z,.z,.z,.z,.z,.z,.z,.z,.z,.z,.z,.z,.z,.z,.z,.z,.z,.z,.z,.z,.z,.z,.z,.z,.z,.z,.z,.z,.z,.z,.z],[some ⟨false,.lst [.adr 0 167,.bf i.1.2.2 3 5]⟩,some ⟨true,.dead⟩,some ⟨false,.prt [.v MS (.pair (.int 11) (.pair (.int a1) (.pair (.int a2) (.pair (.int a3) (.pair (.int a4) (.pair (.pair (.int a5t) (.pair (.int a5s) (.pair (.row a5i) (.int a5p)))) (.pair (.pair (.int a6t) (.pair (.int a6s) (.pair (.row a6i) (.int a6p)))) (.pair (.str a7) (.pair (.int a8) (.pair (.bool a9) (.pair (.bool a10) (.pair (.sl a11) (.pair (.sl a12) (.pair (.sl a13) (.pair (.row a14) (.pair (.row a15) (.pair (.sl a16) (.pair (.str a17) (.pair (.str a18) (.pair (.sl a19) (.pair (.sl a20) (.pair (.sl a21) (.sl a22)))))))))))))))))))))))]⟩,some ⟨false,.tail⟩]))
    (fun i=>(a13.length-i.1.1).toNat) ⟨(0,_,_),by simp only;omega,rfl,(by show _=base ++ .empty;rw[ByteArray.append_empty,hbase];show s++layB a1 4++cntB (IntKind.u64.wrap (a13.length:Int))=_;rw[hc])⟩ ?_
   rintro⟨⟨p,len,t⟩,hp,hl,ht⟩ ih
   try simp only at hp hl ht
   by_cases hlt:p<a13.length
   ·have e1:rbin .add .i64 p 1=p+1:=addi (by omega) (by omega)
    have hpn:p.toNat<a13.length:=by omega
    have hcf:=cat_fit (f:=elHash a13) hpn hB
    rw[←ht]at hcf
    have hnx:t++elHash a13 p.toNat=base++catN (elHash a13) (p+1).toNat:=by
     rw[ht,show(p+1).toNat=p.toNat+1 by omega,catN_succ,baa]
    replace hcf:t.size+(rowB (a13.getD p.toNat (.int 0)).row! 32).size≤140737488355328:=hcf
    rw[rowB_size]at hcf
    refine ra tsm0_ok 3 true 400 [true] [0,3,93,94,95] [95] ?_ ?_
    ·simp only[conj,z0,z2,arR,z1,pmR,nlR,wlR,laR,lbR,zd,hl]
     (repeat' with_reducible apply And.intro)<;>first
       |omega
       |assumption
       |rfl
       |trivial
       |((try simp only[bsa,layB_size,rowB_size,netB_size,bigB_size,flagB_size,txz]);omega)
    ·refine ih ⟨(_,_,_),?_,hl,?_⟩ ?_ _ _
     ·show 0≤rbin .add .i64 p 1∧rbin .add .i64 p 1≤a13.length
      rw[e1];omega
     ·simp only[arR,dF_m,dS_m,dI_m,dX_m,e1]
      refine Eq.trans ?_ hnx
      show t++wlR.tx (fun j=>(a13.getD p.toNat (.int 0)).row!.getD j 0) 32=t++rowB (a13.getD p.toNat (.int 0)).row! 32
      rw[row_tx]
     ·show((a13.length:Int)-rbin .add .i64 p 1).toNat<((a13.length:Int)-p).toNat
      rw[e1];omega
   ·have hpe:p.toNat=a13.length:=by omega
    rw[hpe]at ht
    clear ih
    rw[←ht]at FT
    refine rx tsm0_ok 999 false 400 [false] ?_ ?_
    ·simp only[conj,z0,z2,arR,z1,pmR,nlR,wlR,laR,lbR,zd,hl]
     (repeat' with_reducible apply And.intro)<;>first
       |omega
       |assumption
       |exact FT
       |rfl
       |trivial
       |((try simp only[bsa,layB_size,rowB_size,netB_size,bigB_size,flagB_size,txz]);omega)
    refine Run.fin ti_ok rfl rfl (HEnd.pack [0,1,4] rfl rfl (pk_w (by
     show t++wlR.tx (fun j=>a14.getD j 0) 32=s++(layB a1 4++(cntB a13.length++catN (elHash a13) a13.length)++rowB a14 32)
     rw[row_tx,ht,hbase]
     simp only[baa])) rfl)
  ·cases hs
 ·cases hs
theorem put_12:HOk Try.prog 70 (hPutG (kindIs 12)):=by
 refine .of_run (hc:=(tsm0 pmR).hc) Try.func70 rfl (by kernel_rfl) (by kernel_rfl) fun las lbs v lbs' ps hs hp w=>?_
 unfold hPutG at hs
 split at hs
 ·rename_i sh d s
  split at hs
  ·rename_i hsh
   obtain rfl:=shEq_eq hsh
   clear hsh
   cases hs
   have hpo:putOk d:=hp (putOk d) (by simp)
   obtain⟨m,rfl,hok,⟨z11,z12,z13,z16,z19,z20,z21,z22⟩,hr1,hr2⟩:=hpo
   have hpo:putOk m.D:=hp (putOk m.D) (by simp)
   have hf:=hp (pmR.n.fit2 s (pmR.pay m.D)) (by simp)
   have hk:m.kind=12:=(congrArg Ms.kind (msOf_D m)).symm.trans (hp (kindIs 12 m.D) (by simp))
   have hvr:verM m=pmR.ver m.D:=verOfE.symm
   have hcm:comM m=pmR.com m.D:=comOfE.symm
   clear hp
   rw[payOf]at hf
   rw[payOfE]
   obtain⟨a0,a1,a2,a3,a4,⟨a5t,a5s,a5i,a5p⟩,⟨a6t,a6s,a6i,a6p⟩,a7,a8,a9,a10,a11,a12,a13,a14,a15,a16,a17,a18,a19,a20,a21,a22⟩:=m
   obtain⟨r0,r1,r2,r3,r4,r5,r6,r7,r8,r9,r10,r11,r12,r13,r14,r15,r16,r17,r18,r19,r20,r21,r22⟩:=hok
   simp only at hk z11 z12 z13 z16 z19 z20 z21 z22
   subst hk
   replace hr1:riseP filP a20:=hr1
   replace hr2:riseP intS a21:=hr2
   have hF:=fx a1 a2 a3 a4 a8 a5t a5s a5p a6t a6s a6p a5i a6i a11 a12 a13 a16 a19 a20 a21 a22 r1 r2 r3 r8 r11 r12 r13 r16 r19 r20 r21 r22 r5 r6
   clear r11 r12 r13 r16 r19 r20 r21 r22
   obtain⟨R1,R2,R3,R8,R4,r11,r12,r13,r16,r19,r20,r21,r22,N5,N6⟩:=hF
   have e:payM ⟨12,a1,a2,a3,a4,⟨a5t,a5s,a5i,a5p⟩,⟨a6t,a6s,a6i,a6p⟩,a7,a8,a9,a10,a11,a12,a13,a14,a15,a16,a17,a18,a19,a20,a21,a22⟩=(cntB a16.length++catN (elHead a16) a16.length):=rfl
   rw[e]at hf ⊢
   clear e
   simp only[bsa]at hf
   have F0:(s).size+(cntB a16.length).size≤140737488355328:=by(try simp only[bsa]);omega
   obtain⟨base,hbase⟩:∃b,b=s++cntB a16.length:=⟨_,rfl⟩
   have hB:base.size+(catN (elHead a16) a16.length).size≤140737488355328:=by rw[hbase];simp only[bsa];omega
   clear hf
   have hc:IntKind.u64.wrap (a16.length:Int)=a16.length:=wrap_len (by omega)
   clear r0 r1 r2 r3 r4 r5 r6 r7 r8 r9 r10 r14 r15 r17 r18
   refine ra tsm0_ok 0 false 400 [false,false,false,false,false,false,false,false,true] [0,116,117,118] [118] ?_ ?_
   ·simp only[conj,z0,z2,arR,z1,pmR,nlR,wlR,laR,lbR,zd,hc]
    (repeat' with_reducible apply And.intro)<;>first
      |omega
      |assumption
      |exact F0
      |rfl
      |trivial
      |((try simp only[bsa,layB_size,rowB_size,netB_size,bigB_size,flagB_size,txz]);omega)
   refine Run.loop (ι:={q:Int×Int×ByteArray // (0≤q.1∧q.1≤a16.length)∧q.2.1=a16.length∧q.2.2=base++catN (elHead a16) q.1.toNat})
    (fun i=>([.a (.one (.ptr 0 (.lit 0))),.z,.z,.z,.z,.z,.z,.z,.z,.z,.z,.z,.z,.z,.z,.z,.z,.z,.z,.z,.z,.z,.z,.z,.z,.z,.z,.z,.z,.z,.z,.z,.z,.z,.z,.z,.z,.z,.z,.z,.z,.z,.z,.z,.z,.z,.z,.z,.z,.z,.z,.z,.z,.z,.z,.z,.z,.z,.z,.z,.z,.z,.z,.z,.z,.z,.z,.z,.z,.z,.z,.z,.z,.z,.z,.z,.z,.z,.z,.z,.z,.z,.z,.z,.z,.z,.z,.z,.z,.z,.z,.z,.z,.z,.z,.z,.z,.z,.z,.z,.z,.z,.z,.z,.z,.z,.z,.z,.z,.z,.z,.z,.z,.z,.z,.z,.a (.one (.dat (.str) a16 none)),.a (.one (.int .i64 i.1.2.1)),.a (.one (.int .i64 i.1.1)),.z,.z,.z,.z,.z,.z,.z,.z,.z,.z,.z,.z,.z,.z,.z,.z,.z,.z,.z,.z,.z,.z,.z,.z,.z,.z,.z,.z,.z,.z,.z,.z,.z,.z,.z,.z,.z,.z,.z,.z,.z,.z,.z,.z,.z,.z,.z,.z,.z,.z,.z,.z,.z,.z,.z,.z,.z,.z,.z,.z,.z,.z,.z,.z,.z,.z,.z,.z,.z,.z,.z,.z,.z,.z,.z,.z,.z,.z,.z,.z,.z,.z],[some ⟨false,.lst [.adr 0 167,.bf i.1.2.2 2 5]⟩,some ⟨true,.dead⟩,some ⟨false,.tail⟩]))
    (fun i=>(a16.length-i.1.1).toNat) ⟨(0,_,_),by simp only;omega,rfl,(by show _=base ++ .empty;rw[ByteArray.append_empty,hbase];show s++cntB (IntKind.u64.wrap (a16.length:Int))=_;rw[hc])⟩ ?_
   rintro⟨⟨p,len,t⟩,hp,hl,ht⟩ ih
   try simp only at hp hl ht
   by_cases hlt:p<a16.length
   ·have e1:rbin .add .i64 p 1=p+1:=addi (by omega) (by omega)
    have hpn:p.toNat<a16.length:=by omega
    have hcf:=cat_fit (f:=elHead a16) hpn hB
    rw[←ht]at hcf
    have hnx:t++elHead a16 p.toNat=base++catN (elHead a16) (p+1).toNat:=by
     rw[ht,show(p+1).toNat=p.toNat+1 by omega,catN_succ,baa]
    replace hcf:t.size+((a16.getD p.toNat (.int 0)).str! ++ layB 0 1).size≤140737488355328:=hcf
    rw[bsa,layB_size]at hcf
    have hc0:cntB 0=layB 0 1:=rfl
    refine ra tsm0_ok 2 true 400 [true] [0,116,117,118] [118] ?_ ?_
    ·simp only[conj,z0,z2,arR,z1,pmR,nlR,wlR,laR,lbR,zd,hl,hc0]
     (repeat' with_reducible apply And.intro)<;>first
       |omega
       |assumption
       |rfl
       |trivial
       |((try simp only[bsa,layB_size,rowB_size,netB_size,bigB_size,flagB_size,txz]);omega)
    ·refine ih ⟨(_,_,_),?_,hl,?_⟩ ?_ _ _
     ·show 0≤rbin .add .i64 p 1∧rbin .add .i64 p 1≤a16.length
      rw[e1];omega
     ·simp only[arR,dF_m,dS_m,dI_m,dX_m,e1]
      refine Eq.trans ?_ hnx
      show t++(a16.getD p.toNat (.int 0)).str! ++ cntB 0=t++((a16.getD p.toNat (.int 0)).str! ++ layB 0 1)
      rw[hc0,baa]
     ·show((a16.length:Int)-rbin .add .i64 p 1).toNat<((a16.length:Int)-p).toNat
      rw[e1];omega
   ·have hpe:p.toNat=a16.length:=by omega
    rw[hpe]at ht
    clear ih
    refine rx tsm0_ok 999 false 400 [false] ?_ ?_
    ·simp only[conj,z0,z2,arR,z1,pmR,nlR,wlR,laR,lbR,zd,hl]
     (repeat' with_reducible apply And.intro)<;>first
       |omega
       |assumption
       |rfl
       |trivial
       |((try simp only[bsa,layB_size,rowB_size,netB_size,bigB_size,flagB_size,txz]);omega)
    refine Run.fin ti_ok rfl rfl (HEnd.pack [0,1,2] rfl rfl (pk_w (by
     rw[ht,hbase]
     show _=s++((cntB a16.length++catN (elHead a16) a16.length))
     simp only[baa])) rfl)
  ·cases hs
 ·cases hs
theorem put_15:HOk Try.prog 70 (hPutG (kindIs 15)):=by
 refine .of_run (hc:=(tsm0 pmR).hc) Try.func70 rfl (by kernel_rfl) (by kernel_rfl) fun las lbs v lbs' ps hs hp w=>?_
 unfold hPutG at hs
 split at hs
 ·rename_i sh d s
  split at hs
  ·rename_i hsh
   obtain rfl:=shEq_eq hsh
   clear hsh
   cases hs
   have hpo:putOk d:=hp (putOk d) (by simp)
   obtain⟨m,rfl,hok,⟨z11,z12,z13,z16,z19,z20,z21,z22⟩,hr1,hr2⟩:=hpo
   have hpo:putOk m.D:=hp (putOk m.D) (by simp)
   have hf:=hp (pmR.n.fit2 s (pmR.pay m.D)) (by simp)
   have hk:m.kind=15:=(congrArg Ms.kind (msOf_D m)).symm.trans (hp (kindIs 15 m.D) (by simp))
   have hvr:verM m=pmR.ver m.D:=verOfE.symm
   have hcm:comM m=pmR.com m.D:=comOfE.symm
   clear hp
   rw[payOf]at hf
   rw[payOfE]
   obtain⟨a0,a1,a2,a3,a4,⟨a5t,a5s,a5i,a5p⟩,⟨a6t,a6s,a6i,a6p⟩,a7,a8,a9,a10,a11,a12,a13,a14,a15,a16,a17,a18,a19,a20,a21,a22⟩:=m
   obtain⟨r0,r1,r2,r3,r4,r5,r6,r7,r8,r9,r10,r11,r12,r13,r14,r15,r16,r17,r18,r19,r20,r21,r22⟩:=hok
   simp only at hk z11 z12 z13 z16 z19 z20 z21 z22
   subst hk
   replace hr1:riseP filP a20:=hr1
   replace hr2:riseP intS a21:=hr2
   have hF:=fx a1 a2 a3 a4 a8 a5t a5s a5p a6t a6s a6p a5i a6i a11 a12 a13 a16 a19 a20 a21 a22 r1 r2 r3 r8 r11 r12 r13 r16 r19 r20 r21 r22 r5 r6
   clear r11 r12 r13 r16 r19 r20 r21 r22
   obtain⟨R1,R2,R3,R8,R4,r11,r12,r13,r16,r19,r20,r21,r22,N5,N6⟩:=hF
   have e:payM ⟨15,a1,a2,a3,a4,⟨a5t,a5s,a5i,a5p⟩,⟨a6t,a6s,a6i,a6p⟩,a7,a8,a9,a10,a11,a12,a13,a14,a15,a16,a17,a18,a19,a20,a21,a22⟩=flagB a10++layB a3 8:=rfl
   rw[e]at hf ⊢
   clear e
   rw[bsa,flagB_size,layB_size]at hf
   clear r0 r1 r2 r3 r4 r5 r6 r7 r8 r9 r10 r14 r15 r17 r18
   refine rx tsm0_ok 999 false 400 [false,false,false,false,false,false,false,false,false,false,false,true] ?_ ?_
   ·simp only[conj,z0,z2,arR,z1,pmR,nlR,wlR,laR,lbR,zd]
    (repeat' with_reducible apply And.intro)<;>first
      |omega
      |assumption
      |rfl
      |trivial
      |((try simp only[bsa,layB_size,rowB_size,netB_size,bigB_size,flagB_size,txz]);omega)
   refine Run.fin ti_ok rfl rfl (HEnd.pack [0,1,7] rfl rfl (pk_w ?_) rfl)
   show s++flagB a10++layB a3 8=s++(flagB a10++layB a3 8)
   rw[baa]
  ·cases hs
 ·cases hs
theorem put_16:HOk Try.prog 70 (hPutG (kindIs 16)):=by
 refine .of_run (hc:=(tsm0 pmR).hc) Try.func70 rfl (by kernel_rfl) (by kernel_rfl) fun las lbs v lbs' ps hs hp w=>?_
 unfold hPutG at hs
 split at hs
 ·rename_i sh d s
  split at hs
  ·rename_i hsh
   obtain rfl:=shEq_eq hsh
   clear hsh
   cases hs
   have hpo:putOk d:=hp (putOk d) (by simp)
   obtain⟨m,rfl,hok,⟨z11,z12,z13,z16,z19,z20,z21,z22⟩,hr1,hr2⟩:=hpo
   have hpo:putOk m.D:=hp (putOk m.D) (by simp)
   have hf:=hp (pmR.n.fit2 s (pmR.pay m.D)) (by simp)
   have hk:m.kind=16:=(congrArg Ms.kind (msOf_D m)).symm.trans (hp (kindIs 16 m.D) (by simp))
   have hvr:verM m=pmR.ver m.D:=verOfE.symm
   have hcm:comM m=pmR.com m.D:=comOfE.symm
   clear hp
   rw[payOf]at hf
   rw[payOfE]
   obtain⟨a0,a1,a2,a3,a4,⟨a5t,a5s,a5i,a5p⟩,⟨a6t,a6s,a6i,a6p⟩,a7,a8,a9,a10,a11,a12,a13,a14,a15,a16,a17,a18,a19,a20,a21,a22⟩:=m
   obtain⟨r0,r1,r2,r3,r4,r5,r6,r7,r8,r9,r10,r11,r12,r13,r14,r15,r16,r17,r18,r19,r20,r21,r22⟩:=hok
   simp only at hk z11 z12 z13 z16 z19 z20 z21 z22
   subst hk
   replace hr1:riseP filP a20:=hr1
   replace hr2:riseP intS a21:=hr2
   have hF:=fx a1 a2 a3 a4 a8 a5t a5s a5p a6t a6s a6p a5i a6i a11 a12 a13 a16 a19 a20 a21 a22 r1 r2 r3 r8 r11 r12 r13 r16 r19 r20 r21 r22 r5 r6
   clear r11 r12 r13 r16 r19 r20 r21 r22
   obtain⟨R1,R2,R3,R8,R4,r11,r12,r13,r16,r19,r20,r21,r22,N5,N6⟩:=hF
   rw[show payM ⟨16,a1,a2,a3,a4,⟨a5t,a5s,a5i,a5p⟩,⟨a6t,a6s,a6i,a6p⟩,a7,a8,a9,a10,a11,a12,a13,a14,a15,a16,a17,a18,a19,a20,a21,a22⟩=comM ⟨16,a1,a2,a3,a4,⟨a5t,a5s,a5i,a5p⟩,⟨a6t,a6s,a6i,a6p⟩,a7,a8,a9,a10,a11,a12,a13,a14,a15,a16,a17,a18,a19,a20,a21,a22⟩from rfl,hcm]at hf ⊢
   clear r0 r1 r2 r3 r4 r5 r6 r7 r8 r9 r10 r14 r15 r17 r18
   refine rx tsm0_ok 999 false 400 [false,false,false,false,false,false,false,false,false,false,false,false,true] ?_ ?_
   ·simp only[conj,z0,z2,arR,z1,pmR,nlR,wlR,laR,lbR,zd]
    (repeat' with_reducible apply And.intro)<;>first
      |omega
      |assumption
      |exact hpo
      |exact hf
      |rfl
      |trivial
      |((try simp only[bsa,layB_size,rowB_size,netB_size,bigB_size,flagB_size,txz]);omega)
   refine Run.fin ti_ok rfl rfl (HEnd.pack [0,1,3] rfl rfl (pk_w ?_) rfl)
   rfl
  ·cases hs
 ·cases hs
theorem put_17:HOk Try.prog 70 (hPutG (kindIs 17)):=by
 refine .of_run (hc:=(tsm0 pmR).hc) Try.func70 rfl (by kernel_rfl) (by kernel_rfl) fun las lbs v lbs' ps hs hp w=>?_
 unfold hPutG at hs
 split at hs
 ·rename_i sh d s
  split at hs
  ·rename_i hsh
   obtain rfl:=shEq_eq hsh
   clear hsh
   cases hs
   have hpo:putOk d:=hp (putOk d) (by simp)
   obtain⟨m,rfl,hok,⟨z11,z12,z13,z16,z19,z20,z21,z22⟩,hr1,hr2⟩:=hpo
   have hpo:putOk m.D:=hp (putOk m.D) (by simp)
   have hf:=hp (pmR.n.fit2 s (pmR.pay m.D)) (by simp)
   have hk:m.kind=17:=(congrArg Ms.kind (msOf_D m)).symm.trans (hp (kindIs 17 m.D) (by simp))
   have hvr:verM m=pmR.ver m.D:=verOfE.symm
   have hcm:comM m=pmR.com m.D:=comOfE.symm
   clear hp
   rw[payOf]at hf
   rw[payOfE]
   obtain⟨a0,a1,a2,a3,a4,⟨a5t,a5s,a5i,a5p⟩,⟨a6t,a6s,a6i,a6p⟩,a7,a8,a9,a10,a11,a12,a13,a14,a15,a16,a17,a18,a19,a20,a21,a22⟩:=m
   obtain⟨r0,r1,r2,r3,r4,r5,r6,r7,r8,r9,r10,r11,r12,r13,r14,r15,r16,r17,r18,r19,r20,r21,r22⟩:=hok
   simp only at hk z11 z12 z13 z16 z19 z20 z21 z22
   subst hk
   replace hr1:riseP filP a20:=hr1
   replace hr2:riseP intS a21:=hr2
   have hF:=fx a1 a2 a3 a4 a8 a5t a5s a5p a6t a6s a6p a5i a6i a11 a12 a13 a16 a19 a20 a21 a22 r1 r2 r3 r8 r11 r12 r13 r16 r19 r20 r21 r22 r5 r6
   clear r11 r12 r13 r16 r19 r20 r21 r22
   obtain⟨R1,R2,R3,R8,R4,r11,r12,r13,r16,r19,r20,r21,r22,N5,N6⟩:=hF
   have e:payM ⟨17,a1,a2,a3,a4,⟨a5t,a5s,a5i,a5p⟩,⟨a6t,a6s,a6i,a6p⟩,a7,a8,a9,a10,a11,a12,a13,a14,a15,a16,a17,a18,a19,a20,a21,a22⟩=rowB a15 32++(cntB a21.length++catN (gapB intS a21) a21.length):=rfl
   rw[e]at hf ⊢
   clear e
   simp only[bsa]at hf
   have F0:(s).size+(rowB a15 32).size≤140737488355328:=by(try simp only[bsa]);omega
   have F1:(s++rowB a15 32).size+(cntB a21.length).size≤140737488355328:=by(try simp only[bsa]);omega
   obtain⟨base,hbase⟩:∃b,b=s++rowB a15 32++cntB a21.length:=⟨_,rfl⟩
   have hB:base.size+(catN (gapB intS a21) a21.length).size≤140737488355328:=by rw[hbase];simp only[bsa];omega
   clear hf
   have hc:IntKind.u64.wrap (a21.length:Int)=a21.length:=wrap_len (by omega)
   clear r0 r1 r2 r3 r4 r5 r6 r7 r8 r9 r10 r14 r15 r17 r18
   refine ra tsm0_ok 0 false 400 [false,false,false,false,false,false,false,false,false,false,false,false,false,true] [0,12,163,164,165] [12,165] ?_ ?_
   ·simp only[conj,z0,z2,arR,z1,pmR,nlR,wlR,laR,lbR,zd,hc]
    (repeat' with_reducible apply And.intro)<;>first
      |omega
      |assumption
      |exact F0
      |exact F1
      |rfl
      |trivial
      |((try simp only[bsa,layB_size,rowB_size,netB_size,bigB_size,flagB_size,txz]);omega)
   refine Run.loop (ι:={q:Int×Int×ByteArray×Int // (0≤q.1∧q.1≤a21.length)∧q.2.1=a21.length∧(q.2.2.1=base++catN (gapB intS a21) q.1.toNat∧q.2.2.2=prevI intS a21 q.1.toNat)})
    (fun i=>([.a (.one (.ptr 0 (.lit 0))),.z,.z,.z,.z,.z,.z,.z,.z,.z,.z,.z,.a (.one (.int .i64 i.1.2.2.2)),.z,.z,.z,.z,.z,.z,.z,.z,.z,.z,.z,.z,.z,.z,.z,.z,.z,.z,.z,.z,.z,.z,.z,.z,.z,.z,.z,.z,.z,.z,.z,.z,.z,.z,.z,.z,.z,.z,.z,.z,.z,.z,.z,.z,.z,.z,.z,.z,.z,.z,.z,.z,.z,.z,.z,.z,.z,.z,.z,.z,.z,.z,.z,.z,.z,.z,.z,.z,.z,.z,.z,.z,.z,.z,.z,.z,.z,.z,.z,.z,.z,.z,.z,.z,.z,.z,.z,.z,.z,.z,.z,.z,.z,.z,.z,.z,.z,.z,.z,.z,.z,.z,.z,.z,.z,.z,.z,.z,.z,.z,.z,.z,.z,.z,.z,.z,.z,.z,.z,.z,.z,.z,.z,.z,.z,.z,.z,.z,.z,.z,.z,.z,.z,.z,.z,.z,.z,.z,.z,.z,.z,.z,.z,.z,.z,.z,.z,.z,.z,.z,.a (.one (.dat (.int .i64) a21 none)),.a (.one (.int .i64 i.1.2.1)),.a (.one (.int .i64 i.1.1)),.z,.z,.z,.z,.z,.z,.z,.z,.z,.z,.z,.z,.z,.z,.z,.z,.z,.z,.z,.z,.z,.z,.z,.z,.z,.z,.z,.z,.z,.z,.z,.z,.z,.z,.z],[some ⟨false,.lst [.adr 0 167,.bf i.1.2.2.1 2 5]⟩,some ⟨true,.dead⟩,some ⟨false,.tail⟩]))
    (fun i=>(a21.length-i.1.1).toNat) ⟨(0,_,_,-1),by simp only;omega,rfl,⟨(by show _=base ++ .empty;rw[ByteArray.append_empty,hbase];show s++wlR.tx (fun j=>a15.getD j 0) 32++cntB (IntKind.u64.wrap (a21.length:Int))=_;rw[hc,row_tx]),rfl⟩⟩ ?_
   rintro⟨⟨p,len,t,la⟩,hp,hl,⟨ht,hla⟩⟩ ih
   try simp only at hp hl ht hla
   by_cases hlt:p<a21.length
   ·have e1:rbin .add .i64 p 1=p+1:=addi (by omega) (by omega)
    have hpn:p.toNat<a21.length:=by omega
    have hcf:=cat_fit (f:=gapB intS a21) hpn hB
    rw[←ht]at hcf
    have hnx:t++gapB intS a21 p.toNat=base++catN (gapB intS a21) (p+1).toNat:=by
     rw[ht,show(p+1).toNat=p.toNat+1 by omega,catN_succ,baa]
    have hq:=hr2 p.toNat hpn
    have hge:=prev_ge (g:=intS) (l:=a21) (n:=p.toNat) (fun i hi=>hr2 i (by omega))
    rw[←hla]at hge
    have hat:la<intS (a21.getD p.toNat (.int 0))∧intS (a21.getD p.toNat (.int 0))≤65535:=by rw[hla];exact hq
    have hg:=gap_ok hge hat.1 hat.2
    unfold gapB at hcf
    rw[←hla]at hcf
    unfold intS at hg hcf
    refine ra tsm0_ok 2 true 400 [true] [0,12,163,164,165] [12,165] ?_ ?_
    ·simp only[conj,z0,z2,arR,z1,pmR,nlR,wlR,laR,lbR,zd,hl,hg.1]
     (repeat' with_reducible apply And.intro)<;>first
       |omega
       |assumption
       |rfl
       |trivial
       |((try simp only[bsa,layB_size,rowB_size,netB_size,bigB_size,flagB_size,txz]);omega)
    ·refine ih ⟨(_,_,_,_),?_,hl,?_⟩ ?_ _ _
     ·show 0≤rbin .add .i64 p 1∧rbin .add .i64 p 1≤a21.length
      rw[e1];omega
     ·simp only[arR,dF_m,dS_m,dI_m,dX_m,e1]
      refine⟨Eq.trans ?_ hnx,?_⟩
      ·show t++cntB (IntKind.u64.wrap (rbin .sub .i64 (rbin .sub .i64 (a21.getD p.toNat (.int 0)).int! la) 1))=t++cntB (intS (a21.getD p.toNat (.int 0))-prevI intS a21 p.toNat-1)
       rw[hg.1,←hla]
       rfl
      ·show intS (a21.getD p.toNat (.int 0))=prevI intS a21 (p+1).toNat
       rw[show(p+1).toNat=p.toNat+1 by omega];rfl
     ·show((a21.length:Int)-rbin .add .i64 p 1).toNat<((a21.length:Int)-p).toNat
      rw[e1];omega
   ·have hpe:p.toNat=a21.length:=by omega
    rw[hpe]at ht
    clear ih
    refine rx tsm0_ok 999 false 400 [false] ?_ ?_
    ·simp only[conj,z0,z2,arR,z1,pmR,nlR,wlR,laR,lbR,zd,hl]
     (repeat' with_reducible apply And.intro)<;>first
       |omega
       |assumption
       |rfl
       |trivial
       |((try simp only[bsa,layB_size,rowB_size,netB_size,bigB_size,flagB_size,txz]);omega)
    refine Run.fin ti_ok rfl rfl (HEnd.pack [0,1,2] rfl rfl (pk_w (by
     rw[ht,hbase]
     show _=s++(rowB a15 32++(cntB a21.length++catN (gapB intS a21) a21.length))
     simp only[baa])) rfl)
  ·cases hs
 ·cases hs
theorem put_18:HOk Try.prog 70 (hPutG (kindIs 18)):=by
 refine .of_run (hc:=(tsm0 pmR).hc) Try.func70 rfl (by kernel_rfl) (by kernel_rfl) fun las lbs v lbs' ps hs hp w=>?_
 unfold hPutG at hs
 split at hs
 ·rename_i sh d s
  split at hs
  ·rename_i hsh
   obtain rfl:=shEq_eq hsh
   clear hsh
   cases hs
   have hpo:putOk d:=hp (putOk d) (by simp)
   obtain⟨m,rfl,hok,⟨z11,z12,z13,z16,z19,z20,z21,z22⟩,hr1,hr2⟩:=hpo
   have hpo:putOk m.D:=hp (putOk m.D) (by simp)
   have hf:=hp (pmR.n.fit2 s (pmR.pay m.D)) (by simp)
   have hk:m.kind=18:=(congrArg Ms.kind (msOf_D m)).symm.trans (hp (kindIs 18 m.D) (by simp))
   have hvr:verM m=pmR.ver m.D:=verOfE.symm
   have hcm:comM m=pmR.com m.D:=comOfE.symm
   clear hp
   rw[payOf]at hf
   rw[payOfE]
   obtain⟨a0,a1,a2,a3,a4,⟨a5t,a5s,a5i,a5p⟩,⟨a6t,a6s,a6i,a6p⟩,a7,a8,a9,a10,a11,a12,a13,a14,a15,a16,a17,a18,a19,a20,a21,a22⟩:=m
   obtain⟨r0,r1,r2,r3,r4,r5,r6,r7,r8,r9,r10,r11,r12,r13,r14,r15,r16,r17,r18,r19,r20,r21,r22⟩:=hok
   simp only at hk z11 z12 z13 z16 z19 z20 z21 z22
   subst hk
   replace hr1:riseP filP a20:=hr1
   replace hr2:riseP intS a21:=hr2
   have hF:=fx a1 a2 a3 a4 a8 a5t a5s a5p a6t a6s a6p a5i a6i a11 a12 a13 a16 a19 a20 a21 a22 r1 r2 r3 r8 r11 r12 r13 r16 r19 r20 r21 r22 r5 r6
   clear r11 r12 r13 r16 r19 r20 r21 r22
   obtain⟨R1,R2,R3,R8,R4,r11,r12,r13,r16,r19,r20,r21,r22,N5,N6⟩:=hF
   have e:payM ⟨18,a1,a2,a3,a4,⟨a5t,a5s,a5i,a5p⟩,⟨a6t,a6s,a6i,a6p⟩,a7,a8,a9,a10,a11,a12,a13,a14,a15,a16,a17,a18,a19,a20,a21,a22⟩=rowB a15 32++(cntB a22.length++catN (elRaw a22) a22.length):=rfl
   rw[e]at hf ⊢
   clear e
   simp only[bsa]at hf
   have F0:(s).size+(rowB a15 32).size≤140737488355328:=by(try simp only[bsa]);omega
   have F1:(s++rowB a15 32).size+(cntB a22.length).size≤140737488355328:=by(try simp only[bsa]);omega
   obtain⟨base,hbase⟩:∃b,b=s++rowB a15 32++cntB a22.length:=⟨_,rfl⟩
   have hB:base.size+(catN (elRaw a22) a22.length).size≤140737488355328:=by rw[hbase];simp only[bsa];omega
   clear hf
   have hc:IntKind.u64.wrap (a22.length:Int)=a22.length:=wrap_len (by omega)
   clear r0 r1 r2 r3 r4 r5 r6 r7 r8 r9 r10 r14 r15 r17 r18
   refine ra tsm0_ok 0 false 400 [false,false,false,false,false,false,false,false,false,false,false,false,false,false,true] [0,191,192,193] [193] ?_ ?_
   ·simp only[conj,z0,z2,arR,z1,pmR,nlR,wlR,laR,lbR,zd,hc]
    (repeat' with_reducible apply And.intro)<;>first
      |omega
      |assumption
      |exact F0
      |exact F1
      |rfl
      |trivial
      |((try simp only[bsa,layB_size,rowB_size,netB_size,bigB_size,flagB_size,txz]);omega)
   refine Run.loop (ι:={q:Int×Int×ByteArray // (0≤q.1∧q.1≤a22.length)∧q.2.1=a22.length∧q.2.2=base++catN (elRaw a22) q.1.toNat})
    (fun i=>([.a (.one (.ptr 0 (.lit 0))),.z,.z,.z,.z,.z,.z,.z,.z,.z,.z,.z,.z,.z,.z,.z,.z,.z,.z,.z,.z,.z,.z,.z,.z,.z,.z,.z,.z,.z,.z,.z,.z,.z,.z,.z,.z,.z,.z,.z,.z,.z,.z,.z,.z,.z,.z,.z,.z,.z,.z,.z,.z,.z,.z,.z,.z,.z,.z,.z,.z,.z,.z,.z,.z,.z,.z,.z,.z,.z,.z,.z,.z,.z,.z,.z,.z,.z,.z,.z,.z,.z,.z,.z,.z,.z,.z,.z,.z,.z,.z,.z,.z,.z,.z,.z,.z,.z,.z,.z,.z,.z,.z,.z,.z,.z,.z,.z,.z,.z,.z,.z,.z,.z,.z,.z,.z,.z,.z,.z,.z,.z,.z,.z,.z,.z,.z,.z,.z,.z,.z,.z,.z,.z,.z,.z,.z,.z,.z,.z,.z,.z,.z,.z,.z,.z,.z,.z,.z,.z,.z,.z,.z,.z,.z,.z,.z,.z,.z,.z,.z,.z,.z,.z,.z,.z,.z,.z,.z,.z,.z,.z,.z,.z,.z,.z,.z,.z,.z,.z,.z,.z,.z,.z,.z,.z,.z,.z,.z,.z,.z,.a (.one (.dat (.str) a22 none)),.a (.one (.int .i64 i.1.2.1)),.a (.one (.int .i64 i.1.1)),.z,.z,.z,.z,.z,.z,.z],[some ⟨false,.lst [.adr 0 167,.bf i.1.2.2 2 5]⟩,some ⟨true,.dead⟩,some ⟨false,.tail⟩]))
    (fun i=>(a22.length-i.1.1).toNat) ⟨(0,_,_),by simp only;omega,rfl,(by show _=base ++ .empty;rw[ByteArray.append_empty,hbase];show s++wlR.tx (fun j=>a15.getD j 0) 32++cntB (IntKind.u64.wrap (a22.length:Int))=_;rw[hc,row_tx])⟩ ?_
   rintro⟨⟨p,len,t⟩,hp,hl,ht⟩ ih
   try simp only at hp hl ht
   by_cases hlt:p<a22.length
   ·have e1:rbin .add .i64 p 1=p+1:=addi (by omega) (by omega)
    have hpn:p.toNat<a22.length:=by omega
    have hcf:=cat_fit (f:=elRaw a22) hpn hB
    rw[←ht]at hcf
    have hnx:t++elRaw a22 p.toNat=base++catN (elRaw a22) (p+1).toNat:=by
     rw[ht,show(p+1).toNat=p.toNat+1 by omega,catN_succ,baa]
    replace hcf:t.size+(rawB (a22.getD p.toNat (.int 0)).str!).size≤140737488355328:=hcf
    refine ra tsm0_ok 2 true 400 [true] [0,191,192,193] [193] ?_ ?_
    ·simp only[conj,z0,z2,arR,z1,pmR,nlR,wlR,laR,lbR,zd,hl]
     (repeat' with_reducible apply And.intro)<;>first
       |omega
       |assumption
       |rfl
       |trivial
       |((try simp only[bsa,layB_size,rowB_size,netB_size,bigB_size,flagB_size,txz]);omega)
    ·refine ih ⟨(_,_,_),?_,hl,?_⟩ ?_ _ _
     ·show 0≤rbin .add .i64 p 1∧rbin .add .i64 p 1≤a22.length
      rw[e1];omega
     ·simp only[arR,dF_m,dS_m,dI_m,dX_m,e1]
      refine Eq.trans ?_ hnx
      show t++rawB (a22.getD p.toNat (.int 0)).str! = t++rawB (a22.getD p.toNat (.int 0)).str!
      rfl
     ·show((a22.length:Int)-rbin .add .i64 p 1).toNat<((a22.length:Int)-p).toNat
      rw[e1];omega
   ·have hpe:p.toNat=a22.length:=by omega
    rw[hpe]at ht
    clear ih
    refine rx tsm0_ok 999 false 400 [false] ?_ ?_
    ·simp only[conj,z0,z2,arR,z1,pmR,nlR,wlR,laR,lbR,zd,hl]
     (repeat' with_reducible apply And.intro)<;>first
       |omega
       |assumption
       |rfl
       |trivial
       |((try simp only[bsa,layB_size,rowB_size,netB_size,bigB_size,flagB_size,txz]);omega)
    refine Run.fin ti_ok rfl rfl (HEnd.pack [0,1,2] rfl rfl (pk_w (by
     rw[ht,hbase]
     show _=s++(rowB a15 32++(cntB a22.length++catN (elRaw a22) a22.length))
     simp only[baa])) rfl)
  ·cases hs
 ·cases hs
noncomputable def hPut (lf:PM):HSpec:=fun l bs=>match l,bs with
 | [.one (.ptr 0 (.lit 0)),.agg (.prt [.v sh d])],[⟨false,.lst [.adr 0 167,.bf s 1 5]⟩,⟨false,.tail⟩]=>if shEq sh MS then some (.tup [],[⟨false,.lst [.adr 0 167,.bf (lf.n.cat s (lf.pay d)) 2 5]⟩,⟨true,.dead⟩,⟨false,.tail⟩],[lf.putOk d,lf.n.fit2 s (lf.pay d),lf.fat d])else none
 |_,_=>none
theorem put_ok:HOk Try.prog 70 (hPut pmR):=by
 refine HOk.split fun l bs v bs' ps hs hp=>?_
 unfold hPut at hs
 split at hs
 ·rename_i sh d s
  split at hs
  ·rename_i hsh
   cases hs
   have h1:putOk d:=hp (pmR.putOk d) (by simp)
   have h2:pmR.n.fit2 s (pmR.pay d):=hp (pmR.n.fit2 s (pmR.pay d)) (by simp)
   have h3:(1≤(msOf d).kind∧(msOf d).kind≤18)∧¬((msOf d).kind=2∨(msOf d).kind=3∨(msOf d).kind=4):=hp (pmR.fat d) (by simp)
   have go:∀k,HOk Try.prog 70 (hPutG (kindIs k))→(msOf d).kind=k→∃s' ps',HOk Try.prog 70 s'∧s' [.one (.ptr 0 (.lit 0)),.agg (.prt [.v sh d])] [⟨false,.lst [.adr 0 167,.bf s 1 5]⟩,⟨false,.tail⟩]=some (.tup [],[⟨false,.lst [.adr 0 167,.bf (pmR.n.cat s (pmR.pay d)) 2 5]⟩,⟨true,.dead⟩,⟨false,.tail⟩],ps')∧∀p∈ps',p:=fun k h hk=>
    ⟨hPutG (kindIs k),[putOk d,pmR.n.fit2 s (pmR.pay d),kindIs k d],h,by simp only[hPutG];rw[if_pos hsh],by
     intro p hp
     simp only[List.mem_cons,List.mem_nil_iff,or_false]at hp
     rcases hp with rfl|rfl|rfl
     ·exact h1
     ·exact h2
     ·exact hk⟩
   generalize hk:(msOf d).kind=k at h3
   have hkk:k=1∨k=5∨k=6∨k=7∨k=8∨k=9∨k=10∨k=11∨k=12∨k=13∨k=14∨k=15∨k=16∨k=17∨k=18:=by omega
   rcases hkk with rfl|rfl|rfl|rfl|rfl|rfl|rfl|rfl|rfl|rfl|rfl|rfl|rfl|rfl|rfl
   ·exact go 1 put_1 hk
   ·exact go 5 put_5 hk
   ·exact go 6 put_6 hk
   ·exact go 7 put_7 hk
   ·exact go 8 put_8 hk
   ·exact go 9 put_9 hk
   ·exact go 10 put_10 hk
   ·exact go 11 put_11 hk
   ·exact go 12 put_12 hk
   ·exact go 13 put_13 hk
   ·exact go 14 put_14 hk
   ·exact go 15 put_15 hk
   ·exact go 16 put_16 hk
   ·exact go 17 put_17 hk
   ·exact go 18 put_18 hk
  ·cases hs
 ·cases hs
end Go.Proofs.Ytlbllaocdilafaa
