import Derived.Test.YtlbllaocdilafaaZ41
set_option linter.unusedSimpArgs false
set_option linter.unusedVariables false
set_option maxRecDepth 100000
set_option maxHeartbeats 16000000
namespace Go.Proofs.Ytlbllaocdilafaa
open Go Go.Eng Go.Proofs Go.RowKit
attribute[local irreducible] CallOk HOk Run TIok rbin rcmp run1 updF shfF blitF
theorem tk_9 (d:D):HOk Try.prog 78 (hTk9 tlR d):=by
 refine .of_run (hc:=(tve0 tlR).hc) Try.func78 rfl (by kernel_rfl) (by kernel_rfl) fun las lbs v lbs' ps hs hp w=>?_
 unfold hTk9 at hs
 split at hs
 ·rename_i a v0 v1 v2 v3 v4 s5 v5 s6 v6 v7 v8 v9 v10 s14 v14 s15 v15 v17 v18 s p e
  split at hs
  rotate_left
  ·cases hs
  rename_i hsh
  simp only[bat]at hsh
  obtain⟨h5,h6,h14,h15⟩:=hsh
  obtain rfl:=shEq_eq h5
  obtain rfl:=shEq_eq h6
  obtain rfl:=shEq_eq h14
  obtain rfl:=shEq_eq h15
  clear h5 h6 h14 h15
  cases hs
  obtain⟨rfl,rfl,m,rfl,hk,hok,⟨z11,z12,z13,z16,z19,z20,z21,z22⟩,hmany,hwr,hA,hsz,h16⟩:tld 9 d s p e:=hp (tlR.tld 9 d s p e) mcs
  obtain rfl:v0=9:=hp (v0=9) (mcm _ mcs)
  clear hp
  rw[aEof]
  obtain⟨a0,a1,a2,a3,a4,⟨a5t,a5s,a5i,a5p⟩,⟨a6t,a6s,a6i,a6p⟩,a7,a8,a9,a10,a11,a12,a13,a14,a15,a16,a17,a18,a19,a20,a21,a22⟩:=m
  obtain⟨r0,r1,r2,r3,r4,r5,r6,r7,r8,r9,r10,r11,r12,r13,r14,r15,r16,r17,r18,r19,r20,r21,r22⟩:=hok
  simp only at hk z11 z12 z13 z16 z19 z20 z21 z22
  subst hk
  have hF:=fx a1 a2 a3 a4 a8 a5t a5s a5p a6t a6s a6p a5i a6i a11 a12 a13 a16 a19 a20 a21 a22 r1 r2 r3 r8 r11 r12 r13 r16 r19 r20 r21 r22 r5 r6
  clear r11 r12 r13 r16 r19 r20 r21 r22
  obtain⟨R1,R2,R3,R8,R4,r11,r12,r13,r16,r19,r20,r21,r22,N5,N6⟩:=hF
  have R4i:-9223372036854775808≤a4∧a4<9223372036854775808:=rgi64 r4
  have e:payM ⟨9,a1,a2,a3,a4,⟨a5t,a5s,a5i,a5p⟩,⟨a6t,a6s,a6i,a6p⟩,a7,a8,a9,a10,a11,a12,a13,a14,a15,a16,a17,a18,a19,a20,a21,a22⟩=cntB a12.length++catN (elItem a12) a12.length:=rfl
  rw[e]at hA hsz
  have hAt:=hA
  have hle:¬((a12.length:Int)>500):=fun hh=>hmany (by unfold manyP;rw[nm_9_items _ rfl];exact Or.inr (Or.inr (Or.inr (Or.inr (Or.inl hh)))))
  obtain⟨hc1,hc2,hc3,hAL⟩:=AtB.cnt (n:=(a12.length:Int)) (m:=500) hAt (by omega) (by omega) (by decide)
  have hq0:tlR.r.cv (tlR.r.cN s (0))=(a12.length:Int)-0:=by
   rw[show tlR.r.cN s (0)=(a12.length:Int)from hc3,show tlR.r.cv (a12.length:Int)=(a12.length:Int)from cv_small (by omega) (by omega)];omega
  have hq1:(0:Int)=0:=rfl
  have hq2:tlR.r.add (0) (tlR.r.cntL (tlR.r.cN s (0)))=(0)+cntL a12.length+((catN (elItem a12) 0).size:Nat):=by
   rw[show tlR.r.cN s (0)=(a12.length:Int)from hc3]
   show(0)+cntL a12.length=(0)+cntL a12.length+((0:Nat):Int)
   omega
  clear r0 r1 r2 r3 r4 r5 r6 r7 r8 r9 r10 r14 r15 r17 r18 R1 R2 R3 R4 R4i R8 N5 N6 hmany hwr
  refine ra tve0_ok 0 false 400 [false,false,false,false,false,true,true] [0,1,7] [] ?_ ?_
  ·simp only[conj,z0,z2,arR,z1,zd]
   (repeat' with_reducible apply And.intro)<;>first
     |omega
     |exact hc1
     |exact hc2
     |rfl
     |exact trivial
  refine Run.roomAtP 1 12 (.two (.int .u32) (.arr .u8 32)) rfl rfl (Nat.le_of_ble_eq_true rfl) ?_
  refine Run.loop (ι:={q:Int×Int×Int×Int×List D // (0≤q.1∧q.1≤a12.length)∧q.2.1=a12.length-q.1∧q.2.2.1=lastA (0+cntL a12.length) (elItem a12) (fun _=>4) (0) q.1.toNat∧q.2.2.2.1=0+cntL a12.length+(catN (elItem a12) q.1.toNat).size∧q.2.2.2.2=a12.take q.1.toNat})
   (fun i=>([.a (.one (.ptr 0 (.lit 0))),.a (.one (.ptr 1 (.lit 0))),.z,.z,.z,.z,.z,.a (.one (.int .i64 i.1.2.1)),.z,.z,.z,.z,.z,.z,.z,.z,.z,.z,.z,.z,.z,.z,.z,.z,.z,.z,.z,.z,.z,.z,.z,.z,.z,.z,.z,.z,.z,.z,.z,.z,.z,.z,.z,.z,.z,.z,.z,.z,.z,.z,.z,.z,.z,.z,.z,.z,.z,.z,.z,.z,.z,.z,.z,.z,.z,.z,.z,.z,.z,.z,.z,.z,.z,.z,.z,.z,.z,.z,.z,.z,.z,.z,.z,.z,.z,.z,.z,.z,.z,.z,.z,.z,.z,.z,.z,.z,.z,.z,.z,.z,.z,.z,.z,.z,.z,.z,.z,.z,.z,.z,.z,.z,.z,.z,.z,.z,.z,.z,.z,.z,.z,.z,.z,.z,.z,.z,.z,.z,.z,.z,.z,.z,.z,.z,.z,.z,.z,.z,.z,.z,.z,.z,.z,.z,.z,.z,.z,.z,.z,.z,.z,.z,.z,.z,.z,.z,.z,.z,.z,.z,.z,.z,.z,.z,.z,.z,.z,.z,.z,.z,.z,.z,.z,.z,.z,.z,.z,.z,.z,.z,.z,.z,.z,.z,.z,.z,.z,.z,.z,.z,.z,.z,.z,.z,.z,.z,.z,.z,.z,.z,.z,.z,.z,.z,.z,.z,.z,.z,.z,.z,.z,.z,.z],[some ⟨false,.lst [.ptr 2 (.lit 0),.int .i64 i.1.2.2.1]⟩,some ⟨false,.prt [.c (.int .i64 9),.c (.int .u32 v1),.c (.int .u64 v2),.c (.int .u64 v3),.c (.int .i64 v4),.v NS v5,.v NS v6,.c (.str v7),.c (.int .u32 v8),.c (.bool v9),.c (.bool v10),.c .nsl,.c (.dat (.two (.int .u32) (.arr .u8 32)) i.1.2.2.2.2 (some 3)),.c .nsl,.v (.arr .u8 32) v14,.v (.arr .u8 32) v15,.c .nsl,.c (.str v17),.c (.str v18),.c .nsl,.c .nsl,.c .nsl,.c .nsl]⟩,some ⟨false,.lst [.str s,.int .i64 i.1.2.2.2.1,.int .i64 0]⟩,some ⟨false,.tail⟩]))
   (fun i=>(a12.length-i.1.1).toNat) ⟨(0,_,_,_,[]),by simp only;omega,hq0,hq1,hq2,rfl⟩ ?_
  rintro⟨⟨i,rem,a,p,xs⟩,hp,hrem,ha,hps,hxs⟩ ih
  try simp only at hp hrem ha hps hxs
  by_cases hlt:i<a12.length
  ·have e1:rbin .sub .i64 rem 1=a12.length-(i+1):=by rw[hrem,subi (by omega) (by omega)];omega
   have hpn:i.toNat<a12.length:=by omega
   have hAi:=catN_at hAL i.toNat hpn
   rw[←hps]at hAi
   have hxl:xs.length=i.toNat:=by rw[hxs,List.length_take];omega
   have hML:maxLen=9223372036854775807:=by decide
   have hsn:=take_snoc (l:=a12) hp.1 hlt
   rw[←hxs]at hsn
   have hin:(i+1).toNat=i.toNat+1:=by omega
   have hpN:p+(elItem a12 i.toNat).size=0+cntL a12.length+(catN (elItem a12) (i+1).toNat).size:=by
    rw[hin,catN_succ,bsa,hps];omega
   have hxd:=r12.2 _ (mem_at hlt hp.1)
   have hAi:AtB s p (layB (a12.getD i.toNat (.int 0)).fst!.int! 4++rowB (a12.getD i.toNat (.int 0)).snd!.row! 32):=hAi
   have hpN:p+(layB (a12.getD i.toNat (.int 0)).fst!.int! 4++rowB (a12.getD i.toNat (.int 0)).snd!.row! 32).size=0+cntL a12.length+(catN (elItem a12) (i+1).toNat).size:=hpN
   rw[bsa,layB_size,rowB_size]at hpN
   generalize a12.getD i.toNat (.int 0)=x at hxd hAi hsn
   obtain⟨x1,x2,rfl,hx1,hx2⟩:=okD_two hxd
   obtain⟨xn,rfl⟩:=okD_int hx1
   obtain⟨xl,rfl,hxl32⟩:=okD_arr hx2
   have hAi:AtB s p (layB xn 4++rowB xl 32):=hAi
   have E1:=hAi.left.u32 (rg32 hx1)
   have hAj:=hAi.nx (n:=4) (lay_sizeI xn 4)
   have E2:(List.range 32).map (hashOf (cutB s (p+4) 32))=xl:=hAj.row hxl32 hx2.2
   have h4:tlR.r.room s p 4 0:=⟨rfl,hAi.left.room (lay_sizeI xn 4)⟩
   have h32:tlR.r.room s (tlR.r.add p 4) 32 0:=⟨rfl,hAj.room (row_sizeI xl 32)⟩
   have he0:tlR.r.e0 0:=rfl
   have hgt:rem>0:=by omega
   refine ra tve0_ok 2 true 400 [true,true] [0,1,7] [7] ?_ ?_
   ·simp only[conj,z0,z2,arR,z1,zd,hxl]
    (repeat' with_reducible apply And.intro)<;>first
      |omega
      |exact h4
      |exact h32
      |exact he0
      |rfl
      |exact trivial
   ·refine ih ⟨(_,_,_,_,_),(⟨by omega,by omega⟩:0≤i+1∧i+1≤a12.length),e1,?_,?_,?_⟩ ?_ _ _
    ·rw[hin]
     show p+4=_
     unfold lastA
     simp only
     omega
    ·show p+4+32=0+cntL a12.length+((catN (elItem a12) (i+1).toNat).size:Int)
     omega
    ·show xs++[D.pair (.int ((leV (cutB s p 4).data.toList:Nat):Int)) (.row ((List.range 32).map (hashOf (cutB s (p+4) 32))))]=a12.take (i+1).toNat
     rw[hsn,E1,E2]
    ·show((a12.length:Int)-(i+1)).toNat<((a12.length:Int)-i).toNat
     omega
  ·have hie:i.toNat=a12.length:=by omega
   rw[hie]at ha hps hxs
   rw[List.take_of_length_le (Nat.le_refl _)]at hxs
   clear ih
   refine rx tve0_ok 999 false 400 [false] ?_ ?_
   ·simp only[conj,z0,z2,arR,z1,zd]
    (repeat' with_reducible apply And.intro)<;>first
      |omega
      |rfl
      |exact trivial
   refine Run.fin ti_ok rfl rfl (HEnd.pack [0,1,2] rfl rfl (pk3 ?_ ?_ ?_) rfl)
   ·exact ha
   ·rw[hxs];rfl
   ·show p=s.size
    rw[hsz,bsa,hps]
    have:=cntB_size (a12.length:Int)
    omega
 ·cases hs
theorem tk_10 (d:D):HOk Try.prog 78 (hTk10 tlR d):=by
 refine .of_run (hc:=(tve0 tlR).hc) Try.func78 rfl (by kernel_rfl) (by kernel_rfl) fun las lbs v lbs' ps hs hp w=>?_
 unfold hTk10 at hs
 split at hs
 ·rename_i a v0 v1 v2 v3 v4 s5 v5 s6 v6 v7 v8 v9 v10 s14 v14 s15 v15 v17 v18 s p e
  split at hs
  rotate_left
  ·cases hs
  rename_i hsh
  simp only[bat]at hsh
  obtain⟨h5,h6,h14,h15⟩:=hsh
  obtain rfl:=shEq_eq h5
  obtain rfl:=shEq_eq h6
  obtain rfl:=shEq_eq h14
  obtain rfl:=shEq_eq h15
  clear h5 h6 h14 h15
  cases hs
  obtain⟨rfl,rfl,m,rfl,hk,hok,⟨z11,z12,z13,z16,z19,z20,z21,z22⟩,hmany,hwr,hA,hsz,h16⟩:tld 10 d s p e:=hp (tlR.tld 10 d s p e) mcs
  obtain rfl:v0=10:=hp (v0=10) (mcm _ mcs)
  clear hp
  rw[aEof]
  obtain⟨a0,a1,a2,a3,a4,⟨a5t,a5s,a5i,a5p⟩,⟨a6t,a6s,a6i,a6p⟩,a7,a8,a9,a10,a11,a12,a13,a14,a15,a16,a17,a18,a19,a20,a21,a22⟩:=m
  obtain⟨r0,r1,r2,r3,r4,r5,r6,r7,r8,r9,r10,r11,r12,r13,r14,r15,r16,r17,r18,r19,r20,r21,r22⟩:=hok
  simp only at hk z11 z12 z13 z16 z19 z20 z21 z22
  subst hk
  have hF:=fx a1 a2 a3 a4 a8 a5t a5s a5p a6t a6s a6p a5i a6i a11 a12 a13 a16 a19 a20 a21 a22 r1 r2 r3 r8 r11 r12 r13 r16 r19 r20 r21 r22 r5 r6
  clear r11 r12 r13 r16 r19 r20 r21 r22
  obtain⟨R1,R2,R3,R8,R4,r11,r12,r13,r16,r19,r20,r21,r22,N5,N6⟩:=hF
  have R4i:-9223372036854775808≤a4∧a4<9223372036854775808:=rgi64 r4
  have e:payM ⟨10,a1,a2,a3,a4,⟨a5t,a5s,a5i,a5p⟩,⟨a6t,a6s,a6i,a6p⟩,a7,a8,a9,a10,a11,a12,a13,a14,a15,a16,a17,a18,a19,a20,a21,a22⟩=cntB a12.length++catN (elItem a12) a12.length:=rfl
  rw[e]at hA hsz
  have hAt:=hA
  have hle:¬((a12.length:Int)>500):=fun hh=>hmany (by unfold manyP;rw[nm_10_items _ rfl];exact Or.inr (Or.inr (Or.inr (Or.inr (Or.inl hh)))))
  obtain⟨hc1,hc2,hc3,hAL⟩:=AtB.cnt (n:=(a12.length:Int)) (m:=500) hAt (by omega) (by omega) (by decide)
  have hq0:tlR.r.cv (tlR.r.cN s (0))=(a12.length:Int)-0:=by
   rw[show tlR.r.cN s (0)=(a12.length:Int)from hc3,show tlR.r.cv (a12.length:Int)=(a12.length:Int)from cv_small (by omega) (by omega)];omega
  have hq1:(0:Int)=0:=rfl
  have hq2:tlR.r.add (0) (tlR.r.cntL (tlR.r.cN s (0)))=(0)+cntL a12.length+((catN (elItem a12) 0).size:Nat):=by
   rw[show tlR.r.cN s (0)=(a12.length:Int)from hc3]
   show(0)+cntL a12.length=(0)+cntL a12.length+((0:Nat):Int)
   omega
  clear r0 r1 r2 r3 r4 r5 r6 r7 r8 r9 r10 r14 r15 r17 r18 R1 R2 R3 R4 R4i R8 N5 N6 hmany hwr
  refine ra tve0_ok 0 false 400 [false,false,false,false,false,false,true] [0,1,7] [] ?_ ?_
  ·simp only[conj,z0,z2,arR,z1,zd]
   (repeat' with_reducible apply And.intro)<;>first
     |omega
     |exact hc1
     |exact hc2
     |rfl
     |exact trivial
  refine Run.roomAtP 1 12 (.two (.int .u32) (.arr .u8 32)) rfl rfl (Nat.le_of_ble_eq_true rfl) ?_
  refine Run.loop (ι:={q:Int×Int×Int×Int×List D // (0≤q.1∧q.1≤a12.length)∧q.2.1=a12.length-q.1∧q.2.2.1=lastA (0+cntL a12.length) (elItem a12) (fun _=>4) (0) q.1.toNat∧q.2.2.2.1=0+cntL a12.length+(catN (elItem a12) q.1.toNat).size∧q.2.2.2.2=a12.take q.1.toNat})
   (fun i=>([.a (.one (.ptr 0 (.lit 0))),.a (.one (.ptr 1 (.lit 0))),.z,.z,.z,.z,.z,.a (.one (.int .i64 i.1.2.1)),.z,.z,.z,.z,.z,.z,.z,.z,.z,.z,.z,.z,.z,.z,.z,.z,.z,.z,.z,.z,.z,.z,.z,.z,.z,.z,.z,.z,.z,.z,.z,.z,.z,.z,.z,.z,.z,.z,.z,.z,.z,.z,.z,.z,.z,.z,.z,.z,.z,.z,.z,.z,.z,.z,.z,.z,.z,.z,.z,.z,.z,.z,.z,.z,.z,.z,.z,.z,.z,.z,.z,.z,.z,.z,.z,.z,.z,.z,.z,.z,.z,.z,.z,.z,.z,.z,.z,.z,.z,.z,.z,.z,.z,.z,.z,.z,.z,.z,.z,.z,.z,.z,.z,.z,.z,.z,.z,.z,.z,.z,.z,.z,.z,.z,.z,.z,.z,.z,.z,.z,.z,.z,.z,.z,.z,.z,.z,.z,.z,.z,.z,.z,.z,.z,.z,.z,.z,.z,.z,.z,.z,.z,.z,.z,.z,.z,.z,.z,.z,.z,.z,.z,.z,.z,.z,.z,.z,.z,.z,.z,.z,.z,.z,.z,.z,.z,.z,.z,.z,.z,.z,.z,.z,.z,.z,.z,.z,.z,.z,.z,.z,.z,.z,.z,.z,.z,.z,.z,.z,.z,.z,.z,.z,.z,.z,.z,.z,.z,.z,.z,.z,.z,.z,.z,.z],[some ⟨false,.lst [.ptr 2 (.lit 0),.int .i64 i.1.2.2.1]⟩,some ⟨false,.prt [.c (.int .i64 10),.c (.int .u32 v1),.c (.int .u64 v2),.c (.int .u64 v3),.c (.int .i64 v4),.v NS v5,.v NS v6,.c (.str v7),.c (.int .u32 v8),.c (.bool v9),.c (.bool v10),.c .nsl,.c (.dat (.two (.int .u32) (.arr .u8 32)) i.1.2.2.2.2 (some 3)),.c .nsl,.v (.arr .u8 32) v14,.v (.arr .u8 32) v15,.c .nsl,.c (.str v17),.c (.str v18),.c .nsl,.c .nsl,.c .nsl,.c .nsl]⟩,some ⟨false,.lst [.str s,.int .i64 i.1.2.2.2.1,.int .i64 0]⟩,some ⟨false,.tail⟩]))
   (fun i=>(a12.length-i.1.1).toNat) ⟨(0,_,_,_,[]),by simp only;omega,hq0,hq1,hq2,rfl⟩ ?_
  rintro⟨⟨i,rem,a,p,xs⟩,hp,hrem,ha,hps,hxs⟩ ih
  try simp only at hp hrem ha hps hxs
  by_cases hlt:i<a12.length
  ·have e1:rbin .sub .i64 rem 1=a12.length-(i+1):=by rw[hrem,subi (by omega) (by omega)];omega
   have hpn:i.toNat<a12.length:=by omega
   have hAi:=catN_at hAL i.toNat hpn
   rw[←hps]at hAi
   have hxl:xs.length=i.toNat:=by rw[hxs,List.length_take];omega
   have hML:maxLen=9223372036854775807:=by decide
   have hsn:=take_snoc (l:=a12) hp.1 hlt
   rw[←hxs]at hsn
   have hin:(i+1).toNat=i.toNat+1:=by omega
   have hpN:p+(elItem a12 i.toNat).size=0+cntL a12.length+(catN (elItem a12) (i+1).toNat).size:=by
    rw[hin,catN_succ,bsa,hps];omega
   have hxd:=r12.2 _ (mem_at hlt hp.1)
   have hAi:AtB s p (layB (a12.getD i.toNat (.int 0)).fst!.int! 4++rowB (a12.getD i.toNat (.int 0)).snd!.row! 32):=hAi
   have hpN:p+(layB (a12.getD i.toNat (.int 0)).fst!.int! 4++rowB (a12.getD i.toNat (.int 0)).snd!.row! 32).size=0+cntL a12.length+(catN (elItem a12) (i+1).toNat).size:=hpN
   rw[bsa,layB_size,rowB_size]at hpN
   generalize a12.getD i.toNat (.int 0)=x at hxd hAi hsn
   obtain⟨x1,x2,rfl,hx1,hx2⟩:=okD_two hxd
   obtain⟨xn,rfl⟩:=okD_int hx1
   obtain⟨xl,rfl,hxl32⟩:=okD_arr hx2
   have hAi:AtB s p (layB xn 4++rowB xl 32):=hAi
   have E1:=hAi.left.u32 (rg32 hx1)
   have hAj:=hAi.nx (n:=4) (lay_sizeI xn 4)
   have E2:(List.range 32).map (hashOf (cutB s (p+4) 32))=xl:=hAj.row hxl32 hx2.2
   have h4:tlR.r.room s p 4 0:=⟨rfl,hAi.left.room (lay_sizeI xn 4)⟩
   have h32:tlR.r.room s (tlR.r.add p 4) 32 0:=⟨rfl,hAj.room (row_sizeI xl 32)⟩
   have he0:tlR.r.e0 0:=rfl
   have hgt:rem>0:=by omega
   refine ra tve0_ok 2 true 400 [true,true] [0,1,7] [7] ?_ ?_
   ·simp only[conj,z0,z2,arR,z1,zd,hxl]
    (repeat' with_reducible apply And.intro)<;>first
      |omega
      |exact h4
      |exact h32
      |exact he0
      |rfl
      |exact trivial
   ·refine ih ⟨(_,_,_,_,_),(⟨by omega,by omega⟩:0≤i+1∧i+1≤a12.length),e1,?_,?_,?_⟩ ?_ _ _
    ·rw[hin]
     show p+4=_
     unfold lastA
     simp only
     omega
    ·show p+4+32=0+cntL a12.length+((catN (elItem a12) (i+1).toNat).size:Int)
     omega
    ·show xs++[D.pair (.int ((leV (cutB s p 4).data.toList:Nat):Int)) (.row ((List.range 32).map (hashOf (cutB s (p+4) 32))))]=a12.take (i+1).toNat
     rw[hsn,E1,E2]
    ·show((a12.length:Int)-(i+1)).toNat<((a12.length:Int)-i).toNat
     omega
  ·have hie:i.toNat=a12.length:=by omega
   rw[hie]at ha hps hxs
   rw[List.take_of_length_le (Nat.le_refl _)]at hxs
   clear ih
   refine rx tve0_ok 999 false 400 [false] ?_ ?_
   ·simp only[conj,z0,z2,arR,z1,zd]
    (repeat' with_reducible apply And.intro)<;>first
      |omega
      |rfl
      |exact trivial
   refine Run.fin ti_ok rfl rfl (HEnd.pack [0,1,2] rfl rfl (pk3 ?_ ?_ ?_) rfl)
   ·exact ha
   ·rw[hxs];rfl
   ·show p=s.size
    rw[hsz,bsa,hps]
    have:=cntB_size (a12.length:Int)
    omega
 ·cases hs
theorem tk_11 (d:D):HOk Try.prog 78 (hTk11 tlR d):=by
 refine .of_run (hc:=(tve0 tlR).hc) Try.func78 rfl (by kernel_rfl) (by kernel_rfl) fun las lbs v lbs' ps hs hp w=>?_
 unfold hTk11 at hs
 split at hs
 ·rename_i a v0 v1 v2 v3 v4 s5 v5 s6 v6 v7 v8 v9 v10 s14 v14 s15 v15 v17 v18 s p e
  split at hs
  rotate_left
  ·cases hs
  rename_i hsh
  simp only[bat]at hsh
  obtain⟨h5,h6,h14,h15⟩:=hsh
  obtain rfl:=shEq_eq h5
  obtain rfl:=shEq_eq h6
  obtain rfl:=shEq_eq h14
  obtain rfl:=shEq_eq h15
  clear h5 h6 h14 h15
  cases hs
  obtain⟨rfl,rfl,m,rfl,hk,hok,⟨z11,z12,z13,z16,z19,z20,z21,z22⟩,hmany,hwr,hA,hsz,h16⟩:tld 11 d s p e:=hp (tlR.tld 11 d s p e) mcs
  obtain rfl:v0=11:=hp (v0=11) (mcm _ mcs)
  clear hp
  rw[aEof]
  obtain⟨a0,a1,a2,a3,a4,⟨a5t,a5s,a5i,a5p⟩,⟨a6t,a6s,a6i,a6p⟩,a7,a8,a9,a10,a11,a12,a13,a14,a15,a16,a17,a18,a19,a20,a21,a22⟩:=m
  obtain⟨r0,r1,r2,r3,r4,r5,r6,r7,r8,r9,r10,r11,r12,r13,r14,r15,r16,r17,r18,r19,r20,r21,r22⟩:=hok
  simp only at hk z11 z12 z13 z16 z19 z20 z21 z22
  subst hk
  have hF:=fx a1 a2 a3 a4 a8 a5t a5s a5p a6t a6s a6p a5i a6i a11 a12 a13 a16 a19 a20 a21 a22 r1 r2 r3 r8 r11 r12 r13 r16 r19 r20 r21 r22 r5 r6
  clear r11 r12 r13 r16 r19 r20 r21 r22
  obtain⟨R1,R2,R3,R8,R4,r11,r12,r13,r16,r19,r20,r21,r22,N5,N6⟩:=hF
  have R4i:-9223372036854775808≤a4∧a4<9223372036854775808:=rgi64 r4
  have e:payM ⟨11,a1,a2,a3,a4,⟨a5t,a5s,a5i,a5p⟩,⟨a6t,a6s,a6i,a6p⟩,a7,a8,a9,a10,a11,a12,a13,a14,a15,a16,a17,a18,a19,a20,a21,a22⟩=layB a1 4++(cntB a13.length++catN (elHash a13) a13.length)++rowB a14 32:=rfl
  rw[e]at hA hsz
  rw[baa]at hA
  have E1:((leV (cutB s 0 4).data.toList:Nat):Int)=a1:=hA.left.u32 R1
  have h4a:tlR.r.room s 0 4 0:=⟨rfl,hA.left.room (lay_sizeI a1 4)⟩
  have hAt:=hA.nx (n:=4) (lay_sizeI a1 4)
  rw[baa]at hAt
  have hle:¬((a13.length:Int)>64):=fun hh=>hmany (by unfold manyP;rw[nm_11_hashes _ rfl];exact Or.inr (Or.inr (Or.inr (Or.inr (Or.inr (Or.inl hh))))))
  obtain⟨hc1,hc2,hc3,hAL⟩:=AtB.cnt (n:=(a13.length:Int)) (m:=64) hAt (by omega) (by omega) (by decide)
  have hq0:tlR.r.cv (tlR.r.cN s (0+4))=(a13.length:Int)-0:=by
   rw[show tlR.r.cN s (0+4)=(a13.length:Int)from hc3,show tlR.r.cv (a13.length:Int)=(a13.length:Int)from cv_small (by omega) (by omega)];omega
  have hq1:(0+4:Int)=0+4:=rfl
  have hq2:tlR.r.add (0+4) (tlR.r.cntL (tlR.r.cN s (0+4)))=(0+4)+cntL a13.length+((catN (elHash a13) 0).size:Nat):=by
   rw[show tlR.r.cN s (0+4)=(a13.length:Int)from hc3]
   show(0+4)+cntL a13.length=(0+4)+cntL a13.length+((0:Nat):Int)
   omega
  have hAs:AtB s (0+4+cntL a13.length+(catN (elHash a13) a13.length).size) (rowB a14 32):=hAL.right
  replace hAL:=hAL.left
  have hl14:=r14
  clear r0 r1 r2 r3 r4 r5 r6 r7 r8 r9 r10 r14 r15 r17 r18 R1 R2 R3 R4 R4i R8 N5 N6 hmany hwr
  refine ra tve0_ok 0 false 400 [false,false,false,false,false,false,false,true] [0,1,9] [] ?_ ?_
  ·simp only[conj,z0,z2,arR,z1,zd]
   (repeat' with_reducible apply And.intro)<;>first
     |omega
     |exact hc1
     |exact hc2
     |exact h4a
     |rfl
     |exact trivial
  refine Run.fam3 (ι:={x:Int×Int // x=(a1,(a13.length:Int)-0)}) (fun i=>([.a (.one (.ptr 0 (.lit 0))),.a (.one (.ptr 1 (.lit 0))),.z,.z,.z,.z,.z,.z,.z,.a (.one (.int .i64 i.1.2)),.z,.z,.z,.z,.z,.z,.z,.z,.z,.z,.z,.z,.z,.z,.z,.z,.z,.z,.z,.z,.z,.z,.z,.z,.z,.z,.z,.z,.z,.z,.z,.z,.z,.z,.z,.z,.z,.z,.z,.z,.z,.z,.z,.z,.z,.z,.z,.z,.z,.z,.z,.z,.z,.z,.z,.z,.z,.z,.z,.z,.z,.z,.z,.z,.z,.z,.z,.z,.z,.z,.z,.z,.z,.z,.z,.z,.z,.z,.z,.z,.z,.z,.z,.z,.z,.z,.z,.z,.z,.z,.z,.z,.z,.z,.z,.z,.z,.z,.z,.z,.z,.z,.z,.z,.z,.z,.z,.z,.z,.z,.z,.z,.z,.z,.z,.z,.z,.z,.z,.z,.z,.z,.z,.z,.z,.z,.z,.z,.z,.z,.z,.z,.z,.z,.z,.z,.z,.z,.z,.z,.z,.z,.z,.z,.z,.z,.z,.z,.z,.z,.z,.z,.z,.z,.z,.z,.z,.z,.z,.z,.z,.z,.z,.z,.z,.z,.z,.z,.z,.z,.z,.z,.z,.z,.z,.z,.z,.z,.z,.z,.z,.z,.z,.z,.z,.z,.z,.z,.z,.z,.z,.z,.z,.z,.z,.z,.z,.z,.z,.z,.z,.z,.z],[some ⟨false,.lst [.ptr 2 (.lit 0),.int .i64 (0+4)]⟩,some ⟨false,.prt [.c (.int .i64 11),.c (.int .u32 i.1.1),.c (.int .u64 v2),.c (.int .u64 v3),.c (.int .i64 v4),.v NS v5,.v NS v6,.c (.str v7),.c (.int .u32 v8),.c (.bool v9),.c (.bool v10),.c .nsl,.c .nsl,.c .nsl,.v (.arr .u8 32) v14,.v (.arr .u8 32) v15,.c .nsl,.c (.str v17),.c (.str v18),.c .nsl,.c .nsl,.c .nsl,.c .nsl]⟩,some ⟨false,.lst [.str s,.int .i64 (tlR.r.add (0+4) (tlR.r.cntL (tlR.r.cN s (0+4)))),.int .i64 0]⟩])) ⟨(((leV (cutB s 0 4).data.toList:Nat):Int),tlR.r.cv (tlR.r.cN s (0+4))),by rw[E1,hq0]⟩ ?_
  rintro⟨⟨_,_⟩,hh⟩
  cases hh
  refine Run.roomAtP 1 13 (.arr .u8 32) rfl rfl (Nat.le_of_ble_eq_true rfl) ?_
  refine Run.loop (ι:={q:Int×Int×Int×Int×List D // (0≤q.1∧q.1≤a13.length)∧q.2.1=a13.length-q.1∧q.2.2.1=lastA (0+4+cntL a13.length) (elHash a13) (fun _=>0) (0+4) q.1.toNat∧q.2.2.2.1=0+4+cntL a13.length+(catN (elHash a13) q.1.toNat).size∧q.2.2.2.2=a13.take q.1.toNat})
   (fun i=>([.a (.one (.ptr 0 (.lit 0))),.a (.one (.ptr 1 (.lit 0))),.z,.z,.z,.z,.z,.z,.z,.a (.one (.int .i64 i.1.2.1)),.z,.z,.z,.z,.z,.z,.z,.z,.z,.z,.z,.z,.z,.z,.z,.z,.z,.z,.z,.z,.z,.z,.z,.z,.z,.z,.z,.z,.z,.z,.z,.z,.z,.z,.z,.z,.z,.z,.z,.z,.z,.z,.z,.z,.z,.z,.z,.z,.z,.z,.z,.z,.z,.z,.z,.z,.z,.z,.z,.z,.z,.z,.z,.z,.z,.z,.z,.z,.z,.z,.z,.z,.z,.z,.z,.z,.z,.z,.z,.z,.z,.z,.z,.z,.z,.z,.z,.z,.z,.z,.z,.z,.z,.z,.z,.z,.z,.z,.z,.z,.z,.z,.z,.z,.z,.z,.z,.z,.z,.z,.z,.z,.z,.z,.z,.z,.z,.z,.z,.z,.z,.z,.z,.z,.z,.z,.z,.z,.z,.z,.z,.z,.z,.z,.z,.z,.z,.z,.z,.z,.z,.z,.z,.z,.z,.z,.z,.z,.z,.z,.z,.z,.z,.z,.z,.z,.z,.z,.z,.z,.z,.z,.z,.z,.z,.z,.z,.z,.z,.z,.z,.z,.z,.z,.z,.z,.z,.z,.z,.z,.z,.z,.z,.z,.z,.z,.z,.z,.z,.z,.z,.z,.z,.z,.z,.z,.z,.z,.z,.z,.z,.z,.z],[some ⟨false,.lst [.ptr 2 (.lit 0),.int .i64 i.1.2.2.1]⟩,some ⟨false,.prt [.c (.int .i64 11),.c (.int .u32 a1),.c (.int .u64 v2),.c (.int .u64 v3),.c (.int .i64 v4),.v NS v5,.v NS v6,.c (.str v7),.c (.int .u32 v8),.c (.bool v9),.c (.bool v10),.c .nsl,.c .nsl,.c (.dat (.arr .u8 32) i.1.2.2.2.2 (some 3)),.v (.arr .u8 32) v14,.v (.arr .u8 32) v15,.c .nsl,.c (.str v17),.c (.str v18),.c .nsl,.c .nsl,.c .nsl,.c .nsl]⟩,some ⟨false,.lst [.str s,.int .i64 i.1.2.2.2.1,.int .i64 0]⟩,some ⟨false,.tail⟩]))
   (fun i=>(a13.length-i.1.1).toNat) ⟨(0,_,_,_,[]),by simp only;omega,(rfl:(a13.length:Int)-0=a13.length-0),hq1,hq2,rfl⟩ ?_
  rintro⟨⟨i,rem,a,p,xs⟩,hp,hrem,ha,hps,hxs⟩ ih
  try simp only at hp hrem ha hps hxs
  by_cases hlt:i<a13.length
  ·have e1:rbin .sub .i64 rem 1=a13.length-(i+1):=by rw[hrem,subi (by omega) (by omega)];omega
   have hpn:i.toNat<a13.length:=by omega
   have hAi:=catN_at hAL i.toNat hpn
   rw[←hps]at hAi
   have hxl:xs.length=i.toNat:=by rw[hxs,List.length_take];omega
   have hML:maxLen=9223372036854775807:=by decide
   have hsn:=take_snoc (l:=a13) hp.1 hlt
   rw[←hxs]at hsn
   have hin:(i+1).toNat=i.toNat+1:=by omega
   have hpN:p+(elHash a13 i.toNat).size=0+4+cntL a13.length+(catN (elHash a13) (i+1).toNat).size:=by
    rw[hin,catN_succ,bsa,hps];omega
   have hxd:=r13.2 _ (mem_at hlt hp.1)
   have hAi:AtB s p (rowB (a13.getD i.toNat (.int 0)).row! 32):=hAi
   have hpN:p+(rowB (a13.getD i.toNat (.int 0)).row! 32).size=0+4+cntL a13.length+(catN (elHash a13) (i+1).toNat).size:=hpN
   rw[rowB_size]at hpN
   generalize a13.getD i.toNat (.int 0)=x at hxd hAi hsn
   obtain⟨xl,rfl,hxl32⟩:=okD_arr hxd
   have E2:(List.range 32).map (hashOf (cutB s p 32))=xl:=AtB.row hAi hxl32 hxd.2
   have h32:tlR.r.room s p 32 0:=⟨rfl,hAi.room (row_sizeI _ 32)⟩
   have he0:tlR.r.e0 0:=rfl
   have hgt:rem>0:=by omega
   refine ra tve0_ok 3 true 400 [true,true] [0,1,9] [9] ?_ ?_
   ·simp only[conj,z0,z2,arR,z1,zd,hxl]
    (repeat' with_reducible apply And.intro)<;>first
      |omega
      |exact h32
      |exact he0
      |rfl
      |exact trivial
   ·refine ih ⟨(_,_,_,_,_),(⟨by omega,by omega⟩:0≤i+1∧i+1≤a13.length),e1,?_,?_,?_⟩ ?_ _ _
    ·rw[hin]
     show p=_
     unfold lastA
     simp only
     omega
    ·show p+32=0+4+cntL a13.length+((catN (elHash a13) (i+1).toNat).size:Int)
     omega
    ·show xs++[D.row ((List.range 32).map (hashOf (cutB s p 32)))]=a13.take (i+1).toNat
     rw[hsn,E2]
    ·show((a13.length:Int)-(i+1)).toNat<((a13.length:Int)-i).toNat
     omega
  ·have hie:i.toNat=a13.length:=by omega
   rw[hie]at ha hps hxs
   rw[List.take_of_length_le (Nat.le_refl _)]at hxs
   clear ih
   have hAs:AtB s p (rowB a14 32):=by rw[hps];exact hAs
   have h32:tlR.r.room s p 32 0:=⟨rfl,hAs.room (row_sizeI a14 32)⟩
   have ES:(List.range 32).map (hashOf (cutB s p 32))=a14:=hAs.row hl14.1 hl14.2
   refine rx tve0_ok 999 false 400 [false] ?_ ?_
   ·simp only[conj,z0,z2,arR,z1,zd]
    (repeat' with_reducible apply And.intro)<;>first
      |omega
      |exact h32
      |rfl
      |exact trivial
   refine Run.fin ti_ok rfl rfl (HEnd.pack [0,1,2] rfl rfl (pk3 ?_ ?_ ?_) rfl)
   ·show p=((layB a1 4++(cntB a13.length++catN (elHash a13) a13.length)++rowB a14 32).size:Int)-32
    rw[hps,bsa,bsa,bsa,rowB_size,layB_size]
    have:=cntB_size (a13.length:Int)
    omega
   ·show [_,_,_,_,_,_,_,_,_,_,_,_,_,_,Pt.v (.arr .u8 32) (.row ((List.range 32).map (hashOf (cutB s p 32)))),_,_,_,_,_,_,_,_]=_
    rw[hxs,ES]
    rfl
   ·show p+32=s.size
    rw[hsz,bsa,bsa,bsa,rowB_size,layB_size,hps]
    have:=cntB_size (a13.length:Int)
    omega
 ·cases hs
theorem hds_12 (d:D):HOk Try.prog 114 (hTk12 tlR d):=by
 refine .of_run (hc:=(tve0 tlR).hc) Try.func114 rfl (by kernel_rfl) (by kernel_rfl) fun las lbs v lbs' ps hs hp w=>?_
 unfold hTk12 at hs
 split at hs
 ·rename_i a v0 v1 v2 v3 v4 s5 v5 s6 v6 v7 v8 v9 v10 s14 v14 s15 v15 v17 v18 s p e
  split at hs
  rotate_left
  ·cases hs
  rename_i hsh
  simp only[bat]at hsh
  obtain⟨h5,h6,h14,h15⟩:=hsh
  obtain rfl:=shEq_eq h5
  obtain rfl:=shEq_eq h6
  obtain rfl:=shEq_eq h14
  obtain rfl:=shEq_eq h15
  clear h5 h6 h14 h15
  cases hs
  obtain⟨rfl,rfl,m,rfl,hk,hok,⟨z11,z12,z13,z16,z19,z20,z21,z22⟩,hmany,hwr,hA,hsz,h16⟩:tld 12 d s p e:=hp (tlR.tld 12 d s p e) mcs
  obtain rfl:v0=12:=hp (v0=12) (mcm _ mcs)
  clear hp
  rw[aEof]
  obtain⟨a0,a1,a2,a3,a4,⟨a5t,a5s,a5i,a5p⟩,⟨a6t,a6s,a6i,a6p⟩,a7,a8,a9,a10,a11,a12,a13,a14,a15,a16,a17,a18,a19,a20,a21,a22⟩:=m
  obtain⟨r0,r1,r2,r3,r4,r5,r6,r7,r8,r9,r10,r11,r12,r13,r14,r15,r16,r17,r18,r19,r20,r21,r22⟩:=hok
  simp only at hk z11 z12 z13 z16 z19 z20 z21 z22
  subst hk
  have hF:=fx a1 a2 a3 a4 a8 a5t a5s a5p a6t a6s a6p a5i a6i a11 a12 a13 a16 a19 a20 a21 a22 r1 r2 r3 r8 r11 r12 r13 r16 r19 r20 r21 r22 r5 r6
  clear r11 r12 r13 r16 r19 r20 r21 r22
  obtain⟨R1,R2,R3,R8,R4,r11,r12,r13,r16,r19,r20,r21,r22,N5,N6⟩:=hF
  have R4i:-9223372036854775808≤a4∧a4<9223372036854775808:=rgi64 r4
  have e:payM ⟨12,a1,a2,a3,a4,⟨a5t,a5s,a5i,a5p⟩,⟨a6t,a6s,a6i,a6p⟩,a7,a8,a9,a10,a11,a12,a13,a14,a15,a16,a17,a18,a19,a20,a21,a22⟩=cntB a16.length++catN (elHead a16) a16.length:=rfl
  rw[e]at hA hsz
  have hw1:∀d∈a16,strS d=80:=fun d hd=>Decidable.byContradiction fun hh=>hwr (Or.inl ⟨d,hd,hh⟩)
  have hAt:=hA
  have hle:¬((a16.length:Int)>100):=fun hh=>hmany (by unfold manyP;rw[nm_12_heads _ rfl];exact Or.inr (Or.inr (Or.inr (Or.inr (Or.inr (Or.inr (Or.inl hh)))))))
  obtain⟨hc1,hc2,hc3,hAL⟩:=AtB.cnt (n:=(a16.length:Int)) (m:=100) hAt (by omega) (by omega) (by decide)
  have hq0:tlR.r.cv (tlR.r.cN s (0))=(a16.length:Int)-0:=by
   rw[show tlR.r.cN s (0)=(a16.length:Int)from hc3,show tlR.r.cv (a16.length:Int)=(a16.length:Int)from cv_small (by omega) (by omega)];omega
  have hq1:(0:Int)=0:=rfl
  have hq2:tlR.r.add (0) (tlR.r.cntL (tlR.r.cN s (0)))=(0)+cntL a16.length+((catN (elHead a16) 0).size:Nat):=by
   rw[show tlR.r.cN s (0)=(a16.length:Int)from hc3]
   show(0)+cntL a16.length=(0)+cntL a16.length+((0:Nat):Int)
   omega
  clear r0 r1 r2 r3 r4 r5 r6 r7 r8 r9 r10 r14 r15 r17 r18 R1 R2 R3 R4 R4i R8 N5 N6 hmany hwr
  refine ra tve0_ok 0 false 400 [] [0,1,4] [] ?_ ?_
  ·simp only[conj,z0,z2,arR,z1,zd]
   (repeat' with_reducible apply And.intro)<;>first
     |omega
     |exact hc1
     |exact hc2
     |rfl
     |exact trivial
  refine Run.roomAtP 1 16 (.str) rfl rfl (Nat.le_of_ble_eq_true rfl) ?_
  refine Run.loop (ι:={q:Int×Int×Int×Int×List D // (0≤q.1∧q.1≤a16.length)∧q.2.1=a16.length-q.1∧q.2.2.1=lastA (0+cntL a16.length) (elHead a16) (fun _=>80) (0) q.1.toNat∧q.2.2.2.1=0+cntL a16.length+(catN (elHead a16) q.1.toNat).size∧q.2.2.2.2=a16.take q.1.toNat})
   (fun i=>([.a (.one (.ptr 0 (.lit 0))),.a (.one (.ptr 1 (.lit 0))),.z,.z,.a (.one (.int .i64 i.1.2.1)),.z,.z,.z,.z,.z,.z,.z,.z,.z,.z,.z,.z,.z,.z,.z,.z,.z,.z,.z,.z,.z,.z,.z,.z,.z,.z,.z,.z,.z],[some ⟨false,.lst [.ptr 2 (.lit 0),.int .i64 i.1.2.2.1]⟩,some ⟨false,.prt [.c (.int .i64 12),.c (.int .u32 v1),.c (.int .u64 v2),.c (.int .u64 v3),.c (.int .i64 v4),.v NS v5,.v NS v6,.c (.str v7),.c (.int .u32 v8),.c (.bool v9),.c (.bool v10),.c .nsl,.c .nsl,.c .nsl,.v (.arr .u8 32) v14,.v (.arr .u8 32) v15,.c (.dat (.str) i.1.2.2.2.2 (some 3)),.c (.str v17),.c (.str v18),.c .nsl,.c .nsl,.c .nsl,.c .nsl]⟩,some ⟨false,.lst [.str s,.int .i64 i.1.2.2.2.1,.int .i64 0]⟩,some ⟨false,.tail⟩]))
   (fun i=>(a16.length-i.1.1).toNat) ⟨(0,_,_,_,[]),by simp only;omega,hq0,hq1,hq2,rfl⟩ ?_
  rintro⟨⟨i,rem,a,p,xs⟩,hp,hrem,ha,hps,hxs⟩ ih
  try simp only at hp hrem ha hps hxs
  by_cases hlt:i<a16.length
  ·have e1:rbin .sub .i64 rem 1=a16.length-(i+1):=by rw[hrem,subi (by omega) (by omega)];omega
   have hpn:i.toNat<a16.length:=by omega
   have hAi:=catN_at hAL i.toNat hpn
   rw[←hps]at hAi
   have hxl:xs.length=i.toNat:=by rw[hxs,List.length_take];omega
   have hML:maxLen=9223372036854775807:=by decide
   have hsn:=take_snoc (l:=a16) hp.1 hlt
   rw[←hxs]at hsn
   have hin:(i+1).toNat=i.toNat+1:=by omega
   have hpN:p+(elHead a16 i.toNat).size=0+cntL a16.length+(catN (elHead a16) (i+1).toNat).size:=by
    rw[hin,catN_succ,bsa,hps];omega
   have hxd:=r16.2 _ (mem_at hlt hp.1)
   have hx80:(a16.getD i.toNat (.int 0)).str!.size=80:=by
    have:=hw1 _ (mem_at hlt hp.1)
    unfold strS at this
    omega
   have hAi:AtB s p ((a16.getD i.toNat (.int 0)).str! ++ layB 0 1):=hAi
   have hpN:p+((a16.getD i.toNat (.int 0)).str! ++ layB 0 1).size=0+cntL a16.length+(catN (elHead a16) (i+1).toNat).size:=hpN
   rw[bsa,layB_size,hx80]at hpN
   generalize a16.getD i.toNat (.int 0)=x at hxd hAi hsn hx80
   obtain⟨xb,rfl⟩:=okD_str hxd
   have hx80:xb.size=80:=hx80
   have hAi:AtB s p (xb++layB 0 1):=hAi
   have E1:cutB s p 80=xb:=by
    have:=hAi.left.text
    rw[hx80]at this
    exact this
   have h80:tlR.r.room s p 80 0:=⟨rfl,hAi.left.room (by rw[hx80];rfl)⟩
   have hAj:AtB s (p+80) (cntB 0):=hAi.nx (n:=80) (by rw[hx80];rfl)
   have hcn:cntN s (p+80)=0:=(cnt_told ⟨by decide,by decide⟩ hAj).1
   have hd1:tlR.r.cAt s (tlR.r.add p 80) 0:=⟨rfl,0,⟨by decide,by decide⟩,hAj⟩
   have hd2:tlR.r.le (tlR.r.cN s (tlR.r.add p 80)) 18446744073709551615:=by
    have:cntN s (p+80)≤18446744073709551615:=by rw[hcn];decide
    exact this
   have hd3:tlR.r.cv (tlR.r.cN s (tlR.r.add p 80))=0:=by
    rw[show tlR.r.cN s (tlR.r.add p 80)=0 from hcn];rfl
   have hd4:¬ ¬tlR.r.cv (tlR.r.cN s (tlR.r.add p 80))=0:=fun h=>h hd3
   have he0:tlR.r.e0 0:=rfl
   have hgt:rem>0:=by omega
   refine ra tve0_ok 1 true 400 [true,true,false] [0,1,4] [4] ?_ ?_
   ·simp only[conj,z0,z2,arR,z1,zd,hxl]
    (repeat' with_reducible apply And.intro)<;>first
      |omega
      |exact h80
      |exact hd1
      |exact hd2
      |exact hd4
      |exact he0
      |rfl
      |exact trivial
   ·refine ih ⟨(_,_,_,_,_),(⟨by omega,by omega⟩:0≤i+1∧i+1≤a16.length),e1,?_,?_,?_⟩ ?_ _ _
    ·rw[hin]
     show p+80=_
     unfold lastA
     simp only
     omega
    ·show p+80+cntL (cntN s (p+80))=0+cntL a16.length+((catN (elHead a16) (i+1).toNat).size:Int)
     rw[hcn]
     have:cntL 0=1:=rfl
     omega
    ·show xs++[D.str (cutB s p 80)]=a16.take (i+1).toNat
     rw[hsn,E1]
    ·show((a16.length:Int)-(i+1)).toNat<((a16.length:Int)-i).toNat
     omega
  ·have hie:i.toNat=a16.length:=by omega
   rw[hie]at ha hps hxs
   rw[List.take_of_length_le (Nat.le_refl _)]at hxs
   clear ih
   refine rx tve0_ok 999 false 400 [false] ?_ ?_
   ·simp only[conj,z0,z2,arR,z1,zd]
    (repeat' with_reducible apply And.intro)<;>first
      |omega
      |rfl
      |exact trivial
   refine Run.fin ti_ok rfl rfl (HEnd.pack [0,1,2] rfl rfl (pk3 ?_ ?_ ?_) rfl)
   ·exact ha
   ·rw[hxs];rfl
   ·show p=s.size
    rw[hsz,bsa,hps]
    have:=cntB_size (a16.length:Int)
    omega
 ·cases hs
end Go.Proofs.Ytlbllaocdilafaa
