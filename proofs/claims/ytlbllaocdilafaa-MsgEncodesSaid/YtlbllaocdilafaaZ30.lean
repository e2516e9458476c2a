import Derived.Test.YtlbllaocdilafaaZ29
set_option linter.unusedSimpArgs false
set_option linter.unusedVariables false
set_option maxRecDepth 100000
set_option maxHeartbeats 16000000
namespace Go.Proofs.Ytlbllaocdilafaa
open Go Go.Eng Go.Proofs Go.RowKit
attribute[local irreducible] CallOk HOk Run TIok rbin rcmp run1 updF shfF blitF
theorem put_8:HOk Try.prog 70 (hPutG (kindIs 8)):=by
 refine .of_run (hc:=(tsm0 pmR).hc) Try.func70 rfl (by kernel_rfl) (by kernel_rfl) fun las lbs v lbs' ps hs hp w=>?_
 unfold hPutG at hs
 split at hs
 ·rename_i sh d s
  split at hs
  ·rename_i hsh
   obtain rfl:=shEq_eq hsh
   clear hsh
   cases hs
   have hpo:putOk d:=hp (putOk d) (by simp)
   obtain⟨m,rfl,hok,⟨z11,z12,z13,z16,z19,z20,z21,z22⟩,hr1,hr2⟩:=hpo
   have hpo:putOk m.D:=hp (putOk m.D) (by simp)
   have hf:=hp (pmR.n.fit2 s (pmR.pay m.D)) (by simp)
   have hk:m.kind=8:=(congrArg Ms.kind (msOf_D m)).symm.trans (hp (kindIs 8 m.D) (by simp))
   have hvr:verM m=pmR.ver m.D:=verOfE.symm
   have hcm:comM m=pmR.com m.D:=comOfE.symm
   clear hp
   rw[payOf]at hf
   rw[payOfE]
   obtain⟨a0,a1,a2,a3,a4,⟨a5t,a5s,a5i,a5p⟩,⟨a6t,a6s,a6i,a6p⟩,a7,a8,a9,a10,a11,a12,a13,a14,a15,a16,a17,a18,a19,a20,a21,a22⟩:=m
   obtain⟨r0,r1,r2,r3,r4,r5,r6,r7,r8,r9,r10,r11,r12,r13,r14,r15,r16,r17,r18,r19,r20,r21,r22⟩:=hok
   simp only at hk z11 z12 z13 z16 z19 z20 z21 z22
   subst hk
   replace hr1:riseP filP a20:=hr1
   replace hr2:riseP intS a21:=hr2
   have hF:=fx a1 a2 a3 a4 a8 a5t a5s a5p a6t a6s a6p a5i a6i a11 a12 a13 a16 a19 a20 a21 a22 r1 r2 r3 r8 r11 r12 r13 r16 r19 r20 r21 r22 r5 r6
   clear r11 r12 r13 r16 r19 r20 r21 r22
   obtain⟨R1,R2,R3,R8,R4,r11,r12,r13,r16,r19,r20,r21,r22,N5,N6⟩:=hF
   have e:payM ⟨8,a1,a2,a3,a4,⟨a5t,a5s,a5i,a5p⟩,⟨a6t,a6s,a6i,a6p⟩,a7,a8,a9,a10,a11,a12,a13,a14,a15,a16,a17,a18,a19,a20,a21,a22⟩=(cntB a12.length++catN (elItem a12) a12.length):=rfl
   rw[e]at hf ⊢
   clear e
   simp only[bsa]at hf
   have F0:(s).size+(cntB a12.length).size≤140737488355328:=by(try simp only[bsa]);omega
   obtain⟨base,hbase⟩:∃b,b=s++cntB a12.length:=⟨_,rfl⟩
   have hB:base.size+(catN (elItem a12) a12.length).size≤140737488355328:=by rw[hbase];simp only[bsa];omega
   clear hf
   have hc:IntKind.u64.wrap (a12.length:Int)=a12.length:=wrap_len (by omega)
   clear r0 r1 r2 r3 r4 r5 r6 r7 r8 r9 r10 r14 r15 r17 r18
   refine ra tsm0_ok 0 false 400 [false,false,false,false,true,true,true] [0,65,66,67] [67] ?_ ?_
   ·simp only[conj,z0,z2,arR,z1,pmR,nlR,wlR,laR,lbR,zd,hc]
    (repeat' with_reducible apply And.intro)<;>first
      |omega
      |assumption
      |exact F0
      |rfl
      |trivial
      |((try simp only[bsa,layB_size,rowB_size,netB_size,bigB_size,flagB_size,txz]);omega)
   refine Run.loop (ι:={q:Int×Int×ByteArray // (0≤q.1∧q.1≤a12.length)∧q.2.1=a12.length∧q.2.2=base++catN (elItem a12) q.1.toNat})
    (fun i=>([.a (.one (.ptr 0 (.lit 0))),.z,.z,.z,.z,.z,.z,.z,.z,.z,.z,.z,.z,.z,.z,.z,.z,.z,.z,.z,.z,.z,.z,.z,.z,.z,.z,.z,.z,.z,.z,.z,.z,.z,.z,.z,.z,.z,.z,.z,.z,.z,.z,.z,.z,.z,.z,.z,.z,.z,.z,.z,.z,.z,.z,.z,.z,.z,.z,.z,.z,.z,.z,.z,.z,.a (.one (.dat (.two (.int .u32) (.arr .u8 32)) a12 none)),.a (.one (.int .i64 i.1.2.1)),.a (.one (.int .i64 i.1.1)),.z,.z,.z,.z,.z,.z,.z,.z,.z,.z,.z,.z,.z,.z,.z,.z,.z,.z,.z,.z,.z,.z,.z,.z,.z,.z,.z,.z,.z,.z,.z,.z,.z,.z,.z,.z,.z,.z,.z,.z,.z,.z,.z,.z,.z,.z,.z,.z,.z,.z,.z,.z,.z,.z,.z,.z,.z,.z,.z,.z,.z,.z,.z,.z,.z,.z,.z,.z,.z,.z,.z,.z,.z,.z,.z,.z,.z,.z,.z,.z,.z,.z,.z,.z,.z,.z,.z,.z,.z,.z,.z,.z,.z,.z,.z,.z,.z,.z,.z,.z,.z,.z,.z,.z,.z,.z,.z,.z,.z,.z,.z,.z,.z,.z,.z,.z,.z,.z,.z,.z,.z,.z,.z,.z,.z,.z,.z,.z,.z,.z,.z,.z,.z],[some ⟨false,.lst [.adr 0 167,.bf i.1.2.2 2 5]⟩,some ⟨true,.dead⟩,some ⟨false,.tail⟩]))
    (fun i=>(a12.length-i.1.1).toNat) ⟨(0,_,_),by simp only;omega,rfl,(by show _=base ++ .empty;rw[ByteArray.append_empty,hbase];show s++cntB (IntKind.u64.wrap (a12.length:Int))=_;rw[hc])⟩ ?_
   rintro⟨⟨p,len,t⟩,hp,hl,ht⟩ ih
   try simp only at hp hl ht
   by_cases hlt:p<a12.length
   ·have e1:rbin .add .i64 p 1=p+1:=addi (by omega) (by omega)
    have hpn:p.toNat<a12.length:=by omega
    have hcf:=cat_fit (f:=elItem a12) hpn hB
    rw[←ht]at hcf
    have hnx:t++elItem a12 p.toNat=base++catN (elItem a12) (p+1).toNat:=by
     rw[ht,show(p+1).toNat=p.toNat+1 by omega,catN_succ,baa]
    have hx:=okD_item (r12.2 _ (mem_at hlt hp.1))
    replace hcf:t.size+(layB (a12.getD p.toNat (.int 0)).fst!.int! 4++rowB (a12.getD p.toNat (.int 0)).snd!.row! 32).size≤140737488355328:=hcf
    rw[bsa,layB_size,rowB_size]at hcf
    refine ra tsm0_ok 2 true 400 [true] [0,65,66,67] [67] ?_ ?_
    ·simp only[conj,z0,z2,arR,z1,pmR,nlR,wlR,laR,lbR,zd,hl]
     (repeat' with_reducible apply And.intro)<;>first
       |omega
       |assumption
       |rfl
       |trivial
       |((try simp only[bsa,layB_size,rowB_size,netB_size,bigB_size,flagB_size,txz]);omega)
    ·refine ih ⟨(_,_,_),?_,hl,?_⟩ ?_ _ _
     ·show 0≤rbin .add .i64 p 1∧rbin .add .i64 p 1≤a12.length
      rw[e1];omega
     ·simp only[arR,dF_m,dS_m,dI_m,dX_m,e1]
      refine Eq.trans ?_ hnx
      show t++layB (a12.getD p.toNat (.int 0)).fst!.int! 4++wlR.tx (fun j=>(a12.getD p.toNat (.int 0)).snd!.row!.getD j 0) 32=t++(layB (a12.getD p.toNat (.int 0)).fst!.int! 4++rowB (a12.getD p.toNat (.int 0)).snd!.row! 32)
      rw[row_tx,baa]
     ·show((a12.length:Int)-rbin .add .i64 p 1).toNat<((a12.length:Int)-p).toNat
      rw[e1];omega
   ·have hpe:p.toNat=a12.length:=by omega
    rw[hpe]at ht
    clear ih
    refine rx tsm0_ok 999 false 400 [false] ?_ ?_
    ·simp only[conj,z0,z2,arR,z1,pmR,nlR,wlR,laR,lbR,zd,hl]
     (repeat' with_reducible apply And.intro)<;>first
       |omega
       |assumption
       |rfl
       |trivial
       |((try simp only[bsa,layB_size,rowB_size,netB_size,bigB_size,flagB_size,txz]);omega)
    refine Run.fin ti_ok rfl rfl (HEnd.pack [0,1,2] rfl rfl (pk_w (by
     rw[ht,hbase]
     show _=s++((cntB a12.length++catN (elItem a12) a12.length))
     simp only[baa])) rfl)
  ·cases hs
 ·cases hs
theorem put_9:HOk Try.prog 70 (hPutG (kindIs 9)):=by
 refine .of_run (hc:=(tsm0 pmR).hc) Try.func70 rfl (by kernel_rfl) (by kernel_rfl) fun las lbs v lbs' ps hs hp w=>?_
 unfold hPutG at hs
 split at hs
 ·rename_i sh d s
  split at hs
  ·rename_i hsh
   obtain rfl:=shEq_eq hsh
   clear hsh
   cases hs
   have hpo:putOk d:=hp (putOk d) (by simp)
   obtain⟨m,rfl,hok,⟨z11,z12,z13,z16,z19,z20,z21,z22⟩,hr1,hr2⟩:=hpo
   have hpo:putOk m.D:=hp (putOk m.D) (by simp)
   have hf:=hp (pmR.n.fit2 s (pmR.pay m.D)) (by simp)
   have hk:m.kind=9:=(congrArg Ms.kind (msOf_D m)).symm.trans (hp (kindIs 9 m.D) (by simp))
   have hvr:verM m=pmR.ver m.D:=verOfE.symm
   have hcm:comM m=pmR.com m.D:=comOfE.symm
   clear hp
   rw[payOf]at hf
   rw[payOfE]
   obtain⟨a0,a1,a2,a3,a4,⟨a5t,a5s,a5i,a5p⟩,⟨a6t,a6s,a6i,a6p⟩,a7,a8,a9,a10,a11,a12,a13,a14,a15,a16,a17,a18,a19,a20,a21,a22⟩:=m
   obtain⟨r0,r1,r2,r3,r4,r5,r6,r7,r8,r9,r10,r11,r12,r13,r14,r15,r16,r17,r18,r19,r20,r21,r22⟩:=hok
   simp only at hk z11 z12 z13 z16 z19 z20 z21 z22
   subst hk
   replace hr1:riseP filP a20:=hr1
   replace hr2:riseP intS a21:=hr2
   have hF:=fx a1 a2 a3 a4 a8 a5t a5s a5p a6t a6s a6p a5i a6i a11 a12 a13 a16 a19 a20 a21 a22 r1 r2 r3 r8 r11 r12 r13 r16 r19 r20 r21 r22 r5 r6
   clear r11 r12 r13 r16 r19 r20 r21 r22
   obtain⟨R1,R2,R3,R8,R4,r11,r12,r13,r16,r19,r20,r21,r22,N5,N6⟩:=hF
   have e:payM ⟨9,a1,a2,a3,a4,⟨a5t,a5s,a5i,a5p⟩,⟨a6t,a6s,a6i,a6p⟩,a7,a8,a9,a10,a11,a12,a13,a14,a15,a16,a17,a18,a19,a20,a21,a22⟩=(cntB a12.length++catN (elItem a12) a12.length):=rfl
   rw[e]at hf ⊢
   clear e
   simp only[bsa]at hf
   have F0:(s).size+(cntB a12.length).size≤140737488355328:=by(try simp only[bsa]);omega
   obtain⟨base,hbase⟩:∃b,b=s++cntB a12.length:=⟨_,rfl⟩
   have hB:base.size+(catN (elItem a12) a12.length).size≤140737488355328:=by rw[hbase];simp only[bsa];omega
   clear hf
   have hc:IntKind.u64.wrap (a12.length:Int)=a12.length:=wrap_len (by omega)
   clear r0 r1 r2 r3 r4 r5 r6 r7 r8 r9 r10 r14 r15 r17 r18
   refine ra tsm0_ok 0 false 400 [false,false,false,false,false,true,true] [0,65,66,67] [67] ?_ ?_
   ·simp only[conj,z0,z2,arR,z1,pmR,nlR,wlR,laR,lbR,zd,hc]
    (repeat' with_reducible apply And.intro)<;>first
      |omega
      |assumption
      |exact F0
      |rfl
      |trivial
      |((try simp only[bsa,layB_size,rowB_size,netB_size,bigB_size,flagB_size,txz]);omega)
   refine Run.loop (ι:={q:Int×Int×ByteArray // (0≤q.1∧q.1≤a12.length)∧q.2.1=a12.length∧q.2.2=base++catN (elItem a12) q.1.toNat})
    (fun i=>([.a (.one (.ptr 0 (.lit 0))),.z,.z,.z,.z,.z,.z,.z,.z,.z,.z,.z,.z,.z,.z,.z,.z,.z,.z,.z,.z,.z,.z,.z,.z,.z,.z,.z,.z,.z,.z,.z,.z,.z,.z,.z,.z,.z,.z,.z,.z,.z,.z,.z,.z,.z,.z,.z,.z,.z,.z,.z,.z,.z,.z,.z,.z,.z,.z,.z,.z,.z,.z,.z,.z,.a (.one (.dat (.two (.int .u32) (.arr .u8 32)) a12 none)),.a (.one (.int .i64 i.1.2.1)),.a (.one (.int .i64 i.1.1)),.z,.z,.z,.z,.z,.z,.z,.z,.z,.z,.z,.z,.z,.z,.z,.z,.z,.z,.z,.z,.z,.z,.z,.z,.z,.z,.z,.z,.z,.z,.z,.z,.z,.z,.z,.z,.z,.z,.z,.z,.z,.z,.z,.z,.z,.z,.z,.z,.z,.z,.z,.z,.z,.z,.z,.z,.z,.z,.z,.z,.z,.z,.z,.z,.z,.z,.z,.z,.z,.z,.z,.z,.z,.z,.z,.z,.z,.z,.z,.z,.z,.z,.z,.z,.z,.z,.z,.z,.z,.z,.z,.z,.z,.z,.z,.z,.z,.z,.z,.z,.z,.z,.z,.z,.z,.z,.z,.z,.z,.z,.z,.z,.z,.z,.z,.z,.z,.z,.z,.z,.z,.z,.z,.z,.z,.z,.z,.z,.z,.z,.z,.z,.z],[some ⟨false,.lst [.adr 0 167,.bf i.1.2.2 2 5]⟩,some ⟨true,.dead⟩,some ⟨false,.tail⟩]))
    (fun i=>(a12.length-i.1.1).toNat) ⟨(0,_,_),by simp only;omega,rfl,(by show _=base ++ .empty;rw[ByteArray.append_empty,hbase];show s++cntB (IntKind.u64.wrap (a12.length:Int))=_;rw[hc])⟩ ?_
   rintro⟨⟨p,len,t⟩,hp,hl,ht⟩ ih
   try simp only at hp hl ht
   by_cases hlt:p<a12.length
   ·have e1:rbin .add .i64 p 1=p+1:=addi (by omega) (by omega)
    have hpn:p.toNat<a12.length:=by omega
    have hcf:=cat_fit (f:=elItem a12) hpn hB
    rw[←ht]at hcf
    have hnx:t++elItem a12 p.toNat=base++catN (elItem a12) (p+1).toNat:=by
     rw[ht,show(p+1).toNat=p.toNat+1 by omega,catN_succ,baa]
    have hx:=okD_item (r12.2 _ (mem_at hlt hp.1))
    replace hcf:t.size+(layB (a12.getD p.toNat (.int 0)).fst!.int! 4++rowB (a12.getD p.toNat (.int 0)).snd!.row! 32).size≤140737488355328:=hcf
    rw[bsa,layB_size,rowB_size]at hcf
    refine ra tsm0_ok 2 true 400 [true] [0,65,66,67] [67] ?_ ?_
    ·simp only[conj,z0,z2,arR,z1,pmR,nlR,wlR,laR,lbR,zd,hl]
     (repeat' with_reducible apply And.intro)<;>first
       |omega
       |assumption
       |rfl
       |trivial
       |((try simp only[bsa,layB_size,rowB_size,netB_size,bigB_size,flagB_size,txz]);omega)
    ·refine ih ⟨(_,_,_),?_,hl,?_⟩ ?_ _ _
     ·show 0≤rbin .add .i64 p 1∧rbin .add .i64 p 1≤a12.length
      rw[e1];omega
     ·simp only[arR,dF_m,dS_m,dI_m,dX_m,e1]
      refine Eq.trans ?_ hnx
      show t++layB (a12.getD p.toNat (.int 0)).fst!.int! 4++wlR.tx (fun j=>(a12.getD p.toNat (.int 0)).snd!.row!.getD j 0) 32=t++(layB (a12.getD p.toNat (.int 0)).fst!.int! 4++rowB (a12.getD p.toNat (.int 0)).snd!.row! 32)
      rw[row_tx,baa]
     ·show((a12.length:Int)-rbin .add .i64 p 1).toNat<((a12.length:Int)-p).toNat
      rw[e1];omega
   ·have hpe:p.toNat=a12.length:=by omega
    rw[hpe]at ht
    clear ih
    refine rx tsm0_ok 999 false 400 [false] ?_ ?_
    ·simp only[conj,z0,z2,arR,z1,pmR,nlR,wlR,laR,lbR,zd,hl]
     (repeat' with_reducible apply And.intro)<;>first
       |omega
       |assumption
       |rfl
       |trivial
       |((try simp only[bsa,layB_size,rowB_size,netB_size,bigB_size,flagB_size,txz]);omega)
    refine Run.fin ti_ok rfl rfl (HEnd.pack [0,1,2] rfl rfl (pk_w (by
     rw[ht,hbase]
     show _=s++((cntB a12.length++catN (elItem a12) a12.length))
     simp only[baa])) rfl)
  ·cases hs
 ·cases hs
theorem put_10:HOk Try.prog 70 (hPutG (kindIs 10)):=by
 refine .of_run (hc:=(tsm0 pmR).hc) Try.func70 rfl (by kernel_rfl) (by kernel_rfl) fun las lbs v lbs' ps hs hp w=>?_
 unfold hPutG at hs
 split at hs
 ·rename_i sh d s
  split at hs
  ·rename_i hsh
   obtain rfl:=shEq_eq hsh
   clear hsh
   cases hs
   have hpo:putOk d:=hp (putOk d) (by simp)
   obtain⟨m,rfl,hok,⟨z11,z12,z13,z16,z19,z20,z21,z22⟩,hr1,hr2⟩:=hpo
   have hpo:putOk m.D:=hp (putOk m.D) (by simp)
   have hf:=hp (pmR.n.fit2 s (pmR.pay m.D)) (by simp)
   have hk:m.kind=10:=(congrArg Ms.kind (msOf_D m)).symm.trans (hp (kindIs 10 m.D) (by simp))
   have hvr:verM m=pmR.ver m.D:=verOfE.symm
   have hcm:comM m=pmR.com m.D:=comOfE.symm
   clear hp
   rw[payOf]at hf
   rw[payOfE]
   obtain⟨a0,a1,a2,a3,a4,⟨a5t,a5s,a5i,a5p⟩,⟨a6t,a6s,a6i,a6p⟩,a7,a8,a9,a10,a11,a12,a13,a14,a15,a16,a17,a18,a19,a20,a21,a22⟩:=m
   obtain⟨r0,r1,r2,r3,r4,r5,r6,r7,r8,r9,r10,r11,r12,r13,r14,r15,r16,r17,r18,r19,r20,r21,r22⟩:=hok
   simp only at hk z11 z12 z13 z16 z19 z20 z21 z22
   subst hk
   replace hr1:riseP filP a20:=hr1
   replace hr2:riseP intS a21:=hr2
   have hF:=fx a1 a2 a3 a4 a8 a5t a5s a5p a6t a6s a6p a5i a6i a11 a12 a13 a16 a19 a20 a21 a22 r1 r2 r3 r8 r11 r12 r13 r16 r19 r20 r21 r22 r5 r6
   clear r11 r12 r13 r16 r19 r20 r21 r22
   obtain⟨R1,R2,R3,R8,R4,r11,r12,r13,r16,r19,r20,r21,r22,N5,N6⟩:=hF
   have e:payM ⟨10,a1,a2,a3,a4,⟨a5t,a5s,a5i,a5p⟩,⟨a6t,a6s,a6i,a6p⟩,a7,a8,a9,a10,a11,a12,a13,a14,a15,a16,a17,a18,a19,a20,a21,a22⟩=(cntB a12.length++catN (elItem a12) a12.length):=rfl
   rw[e]at hf ⊢
   clear e
   simp only[bsa]at hf
   have F0:(s).size+(cntB a12.length).size≤140737488355328:=by(try simp only[bsa]);omega
   obtain⟨base,hbase⟩:∃b,b=s++cntB a12.length:=⟨_,rfl⟩
   have hB:base.size+(catN (elItem a12) a12.length).size≤140737488355328:=by rw[hbase];simp only[bsa];omega
   clear hf
   have hc:IntKind.u64.wrap (a12.length:Int)=a12.length:=wrap_len (by omega)
   clear r0 r1 r2 r3 r4 r5 r6 r7 r8 r9 r10 r14 r15 r17 r18
   refine ra tsm0_ok 0 false 400 [false,false,false,false,false,false,true] [0,65,66,67] [67] ?_ ?_
   ·simp only[conj,z0,z2,arR,z1,pmR,nlR,wlR,laR,lbR,zd,hc]
    (repeat' with_reducible apply And.intro)<;>first
      |omega
      |assumption
      |exact F0
      |rfl
      |trivial
      |((try simp only[bsa,layB_size,rowB_size,netB_size,bigB_size,flagB_size,txz]);omega)
   refine Run.loop (ι:={q:Int×Int×ByteArray // (0≤q.1∧q.1≤a12.length)∧q.2.1=a12.length∧q.2.2=base++catN (elItem a12) q.1.toNat})
    (fun i=>([.a (.one (.ptr 0 (.lit 0))),.z,.z,.z,.z,.z,.z,.z,.z,.z,.z,.z,.z,.z,.z,.z,.z,.z,.z,.z,.z,.z,.z,.z,.z,.z,.z,.z,.z,.z,.z,.z,.z,.z,.z,.z,.z,.z,.z,.z,.z,.z,.z,.z,.z,.z,.z,.z,.z,.z,.z,.z,.z,.z,.z,.z,.z,.z,.z,.z,.z,.z,.z,.z,.z,.a (.one (.dat (.two (.int .u32) (.arr .u8 32)) a12 none)),.a (.one (.int .i64 i.1.2.1)),.a (.one (.int .i64 i.1.1)),.z,.z,.z,.z,.z,.z,.z,.z,.z,.z,.z,.z,.z,.z,.z,.z,.z,.z,.z,.z,.z,.z,.z,.z,.z,.z,.z,.z,.z,.z,.z,.z,.z,.z,.z,.z,.z,.z,.z,.z,.z,.z,.z,.z,.z,.z,.z,.z,.z,.z,.z,.z,.z,.z,.z,.z,.z,.z,.z,.z,.z,.z,.z,.z,.z,.z,.z,.z,.z,.z,.z,.z,.z,.z,.z,.z,.z,.z,.z,.z,.z,.z,.z,.z,.z,.z,.z,.z,.z,.z,.z,.z,.z,.z,.z,.z,.z,.z,.z,.z,.z,.z,.z,.z,.z,.z,.z,.z,.z,.z,.z,.z,.z,.z,.z,.z,.z,.z,.z,.z,.z,.z,.z,.z,.z,.z,.z,.z,.z,.z,.z,.z,.z],[some ⟨false,.lst [.adr 0 167,.bf i.1.2.2 2 5]⟩,some ⟨true,.dead⟩,some ⟨false,.tail⟩]))
    (fun i=>(a12.length-i.1.1).toNat) ⟨(0,_,_),by simp only;omega,rfl,(by show _=base ++ .empty;rw[ByteArray.append_empty,hbase];show s++cntB (IntKind.u64.wrap (a12.length:Int))=_;rw[hc])⟩ ?_
   rintro⟨⟨p,len,t⟩,hp,hl,ht⟩ ih
   try simp only at hp hl ht
   by_cases hlt:p<a12.length
   ·have e1:rbin .add .i64 p 1=p+1:=addi (by omega) (by omega)
    have hpn:p.toNat<a12.length:=by omega
    have hcf:=cat_fit (f:=elItem a12) hpn hB
    rw[←ht]at hcf
    have hnx:t++elItem a12 p.toNat=base++catN (elItem a12) (p+1).toNat:=by
     rw[ht,show(p+1).toNat=p.toNat+1 by omega,catN_succ,baa]
    have hx:=okD_item (r12.2 _ (mem_at hlt hp.1))
    replace hcf:t.size+(layB (a12.getD p.toNat (.int 0)).fst!.int! 4++rowB (a12.getD p.toNat (.int 0)).snd!.row! 32).size≤140737488355328:=hcf
    rw[bsa,layB_size,rowB_size]at hcf
    refine ra tsm0_ok 2 true 400 [true] [0,65,66,67] [67] ?_ ?_
    ·simp only[conj,z0,z2,arR,z1,pmR,nlR,wlR,laR,lbR,zd,hl]
     (repeat' with_reducible apply And.intro)<;>first
       |omega
       |assumption
       |rfl
       |trivial
       |((try simp only[bsa,layB_size,rowB_size,netB_size,bigB_size,flagB_size,txz]);omega)
    ·refine ih ⟨(_,_,_),?_,hl,?_⟩ ?_ _ _
     ·show 0≤rbin .add .i64 p 1∧rbin .add .i64 p 1≤a12.length
      rw[e1];omega
     ·simp only[arR,dF_m,dS_m,dI_m,dX_m,e1]
      refine Eq.trans ?_ hnx
      show t++layB (a12.getD p.toNat (.int 0)).fst!.int! 4++wlR.tx (fun j=>(a12.getD p.toNat (.int 0)).snd!.row!.getD j 0) 32=t++(layB (a12.getD p.toNat (.int 0)).fst!.int! 4++rowB (a12.getD p.toNat (.int 0)).snd!.row! 32)
      rw[row_tx,baa]
     ·show((a12.length:Int)-rbin .add .i64 p 1).toNat<((a12.length:Int)-p).toNat
      rw[e1];omega
   ·have hpe:p.toNat=a12.length:=by omega
    rw[hpe]at ht
    clear ih
    refine rx tsm0_ok 999 false 400 [false] ?_ ?_
    ·simp only[conj,z0,z2,arR,z1,pmR,nlR,wlR,laR,lbR,zd,hl]
     (repeat' with_reducible apply And.intro)<;>first
       |omega
       |assumption
       |rfl
       |trivial
       |((try simp only[bsa,layB_size,rowB_size,netB_size,bigB_size,flagB_size,txz]);omega)
    refine Run.fin ti_ok rfl rfl (HEnd.pack [0,1,2] rfl rfl (pk_w (by
     rw[ht,hbase]
     show _=s++((cntB a12.length++catN (elItem a12) a12.length))
     simp only[baa])) rfl)
  ·cases hs
 ·cases hs
theorem put_13:HOk Try.prog 70 (hPutG (kindIs 13)):=by
 refine .of_run (hc:=(tsm0 pmR).hc) Try.func70 rfl (by kernel_rfl) (by kernel_rfl) fun las lbs v lbs' ps hs hp w=>?_
 unfold hPutG at hs
 split at hs
 ·rename_i sh d s
  split at hs
  ·rename_i hsh
   obtain rfl:=shEq_eq hsh
   clear hsh
   cases hs
   have hpo:putOk d:=hp (putOk d) (by simp)
   obtain⟨m,rfl,hok,⟨z11,z12,z13,z16,z19,z20,z21,z22⟩,hr1,hr2⟩:=hpo
   have hpo:putOk m.D:=hp (putOk m.D) (by simp)
   have hf:=hp (pmR.n.fit2 s (pmR.pay m.D)) (by simp)
   have hk:m.kind=13:=(congrArg Ms.kind (msOf_D m)).symm.trans (hp (kindIs 13 m.D) (by simp))
   have hvr:verM m=pmR.ver m.D:=verOfE.symm
   have hcm:comM m=pmR.com m.D:=comOfE.symm
   clear hp
   rw[payOf]at hf
   rw[payOfE]
   obtain⟨a0,a1,a2,a3,a4,⟨a5t,a5s,a5i,a5p⟩,⟨a6t,a6s,a6i,a6p⟩,a7,a8,a9,a10,a11,a12,a13,a14,a15,a16,a17,a18,a19,a20,a21,a22⟩:=m
   obtain⟨r0,r1,r2,r3,r4,r5,r6,r7,r8,r9,r10,r11,r12,r13,r14,r15,r16,r17,r18,r19,r20,r21,r22⟩:=hok
   simp only at hk z11 z12 z13 z16 z19 z20 z21 z22
   subst hk
   replace hr1:riseP filP a20:=hr1
   replace hr2:riseP intS a21:=hr2
   have hF:=fx a1 a2 a3 a4 a8 a5t a5s a5p a6t a6s a6p a5i a6i a11 a12 a13 a16 a19 a20 a21 a22 r1 r2 r3 r8 r11 r12 r13 r16 r19 r20 r21 r22 r5 r6
   clear r11 r12 r13 r16 r19 r20 r21 r22
   obtain⟨R1,R2,R3,R8,R4,r11,r12,r13,r16,r19,r20,r21,r22,N5,N6⟩:=hF
   have e:payM ⟨13,a1,a2,a3,a4,⟨a5t,a5s,a5i,a5p⟩,⟨a6t,a6s,a6i,a6p⟩,a7,a8,a9,a10,a11,a12,a13,a14,a15,a16,a17,a18,a19,a20,a21,a22⟩=a18:=rfl
   rw[e]at hf ⊢
   clear e
   clear r0 r1 r2 r3 r4 r5 r6 r7 r8 r9 r10 r14 r15 r17 r18
   refine rx tsm0_ok 999 false 400 [false,false,false,false,false,false,false,false,false,true,true] ?_ ?_
   ·simp only[conj,z0,z2,arR,z1,pmR,nlR,wlR,laR,lbR,zd]
    (repeat' with_reducible apply And.intro)<;>first
      |omega
      |assumption
      |exact hf
      |rfl
      |trivial
      |((try simp only[bsa,layB_size,rowB_size,netB_size,bigB_size,flagB_size,txz]);omega)
   refine Run.fin ti_ok rfl rfl (HEnd.pack [0,1,3] rfl rfl (pk_w ?_) rfl)
   rfl
  ·cases hs
 ·cases hs
theorem put_14:HOk Try.prog 70 (hPutG (kindIs 14)):=by
 refine .of_run (hc:=(tsm0 pmR).hc) Try.func70 rfl (by kernel_rfl) (by kernel_rfl) fun las lbs v lbs' ps hs hp w=>?_
 unfold hPutG at hs
 split at hs
 ·rename_i sh d s
  split at hs
  ·rename_i hsh
   obtain rfl:=shEq_eq hsh
   clear hsh
   cases hs
   have hpo:putOk d:=hp (putOk d) (by simp)
   obtain⟨m,rfl,hok,⟨z11,z12,z13,z16,z19,z20,z21,z22⟩,hr1,hr2⟩:=hpo
   have hpo:putOk m.D:=hp (putOk m.D) (by simp)
   have hf:=hp (pmR.n.fit2 s (pmR.pay m.D)) (by simp)
   have hk:m.kind=14:=(congrArg Ms.kind (msOf_D m)).symm.trans (hp (kindIs 14 m.D) (by simp))
   have hvr:verM m=pmR.ver m.D:=verOfE.symm
   have hcm:comM m=pmR.com m.D:=comOfE.symm
   clear hp
   rw[payOf]at hf
   rw[payOfE]
   obtain⟨a0,a1,a2,a3,a4,⟨a5t,a5s,a5i,a5p⟩,⟨a6t,a6s,a6i,a6p⟩,a7,a8,a9,a10,a11,a12,a13,a14,a15,a16,a17,a18,a19,a20,a21,a22⟩:=m
   obtain⟨r0,r1,r2,r3,r4,r5,r6,r7,r8,r9,r10,r11,r12,r13,r14,r15,r16,r17,r18,r19,r20,r21,r22⟩:=hok
   simp only at hk z11 z12 z13 z16 z19 z20 z21 z22
   subst hk
   replace hr1:riseP filP a20:=hr1
   replace hr2:riseP intS a21:=hr2
   have hF:=fx a1 a2 a3 a4 a8 a5t a5s a5p a6t a6s a6p a5i a6i a11 a12 a13 a16 a19 a20 a21 a22 r1 r2 r3 r8 r11 r12 r13 r16 r19 r20 r21 r22 r5 r6
   clear r11 r12 r13 r16 r19 r20 r21 r22
   obtain⟨R1,R2,R3,R8,R4,r11,r12,r13,r16,r19,r20,r21,r22,N5,N6⟩:=hF
   have e:payM ⟨14,a1,a2,a3,a4,⟨a5t,a5s,a5i,a5p⟩,⟨a6t,a6s,a6i,a6p⟩,a7,a8,a9,a10,a11,a12,a13,a14,a15,a16,a17,a18,a19,a20,a21,a22⟩=a18:=rfl
   rw[e]at hf ⊢
   clear e
   clear r0 r1 r2 r3 r4 r5 r6 r7 r8 r9 r10 r14 r15 r17 r18
   refine rx tsm0_ok 999 false 400 [false,false,false,false,false,false,false,false,false,false,true] ?_ ?_
   ·simp only[conj,z0,z2,arR,z1,pmR,nlR,wlR,laR,lbR,zd]
    (repeat' with_reducible apply And.intro)<;>first
      |omega
      |assumption
      |exact hf
      |rfl
      |trivial
      |((try simp only[bsa,layB_size,rowB_size,netB_size,bigB_size,flagB_size,txz]);omega)
   refine Run.fin ti_ok rfl rfl (HEnd.pack [0,1,3] rfl rfl (pk_w ?_) rfl)
   rfl
  ·cases hs
 ·cases hs
end Go.Proofs.Ytlbllaocdilafaa
