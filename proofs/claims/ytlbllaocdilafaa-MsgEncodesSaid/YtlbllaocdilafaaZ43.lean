import Derived.Test.YtlbllaocdilafaaZ41
set_option linter.unusedSimpArgs false
set_option linter.unusedVariables false
set_option maxRecDepth 100000
set_option maxHeartbeats 16000000
namespace Go.Proofs.Ytlbllaocdilafaa
open Go Go.Eng Go.Proofs Go.RowKit
attribute[local irreducible] CallOk HOk Run TIok rbin rcmp run1 updF shfF blitF
theorem tk_17 (d:D):HOk Try.prog 78 (hTk17 tlR d):=by
 refine .of_run (hc:=(tve0 tlR).hc) Try.func78 rfl (by kernel_rfl) (by kernel_rfl) fun las lbs v lbs' ps hs hp w=>?_
 unfold hTk17 at hs
 split at hs
 ·rename_i a v0 v1 v2 v3 v4 s5 v5 s6 v6 v7 v8 v9 v10 s14 v14 s15 v15 v17 v18 s p e
  split at hs
  rotate_left
  ·cases hs
  rename_i hsh
  simp only[bat]at hsh
  obtain⟨h5,h6,h14,h15⟩:=hsh
  obtain rfl:=shEq_eq h5
  obtain rfl:=shEq_eq h6
  obtain rfl:=shEq_eq h14
  obtain rfl:=shEq_eq h15
  clear h5 h6 h14 h15
  cases hs
  obtain⟨rfl,rfl,m,rfl,hk,hok,⟨z11,z12,z13,z16,z19,z20,z21,z22⟩,hmany,hwr,hA,hsz,h16⟩:tld 17 d s p e:=hp (tlR.tld 17 d s p e) mcs
  obtain rfl:v0=17:=hp (v0=17) (mcm _ mcs)
  clear hp
  rw[aEof]
  obtain⟨a0,a1,a2,a3,a4,⟨a5t,a5s,a5i,a5p⟩,⟨a6t,a6s,a6i,a6p⟩,a7,a8,a9,a10,a11,a12,a13,a14,a15,a16,a17,a18,a19,a20,a21,a22⟩:=m
  obtain⟨r0,r1,r2,r3,r4,r5,r6,r7,r8,r9,r10,r11,r12,r13,r14,r15,r16,r17,r18,r19,r20,r21,r22⟩:=hok
  simp only at hk z11 z12 z13 z16 z19 z20 z21 z22
  subst hk
  have hF:=fx a1 a2 a3 a4 a8 a5t a5s a5p a6t a6s a6p a5i a6i a11 a12 a13 a16 a19 a20 a21 a22 r1 r2 r3 r8 r11 r12 r13 r16 r19 r20 r21 r22 r5 r6
  clear r11 r12 r13 r16 r19 r20 r21 r22
  obtain⟨R1,R2,R3,R8,R4,r11,r12,r13,r16,r19,r20,r21,r22,N5,N6⟩:=hF
  have R4i:-9223372036854775808≤a4∧a4<9223372036854775808:=rgi64 r4
  have e:payM ⟨17,a1,a2,a3,a4,⟨a5t,a5s,a5i,a5p⟩,⟨a6t,a6s,a6i,a6p⟩,a7,a8,a9,a10,a11,a12,a13,a14,a15,a16,a17,a18,a19,a20,a21,a22⟩=rowB a15 32++(cntB a21.length++catN (gapB intS a21) a21.length):=rfl
  rw[e]at hA hsz
  have hl15:=r15.1
  have EH:(List.range 32).map (hashOf (cutB s 0 32))=a15:=hA.left.row r15.1 r15.2
  have h32a:tlR.r.room s 0 32 0:=⟨rfl,hA.left.room (row_sizeI a15 32)⟩
  have hAt:=hA.nx (n:=32) (row_sizeI a15 32)
  have hle:¬((a21.length:Int)>500):=fun hh=>hmany (by unfold manyP;rw[nm_17_places _ rfl];exact Or.inr (Or.inr (Or.inr (Or.inr (Or.inr (Or.inr (Or.inr (Or.inr (Or.inr (Or.inl hh))))))))))
  obtain⟨hc1,hc2,hc3,hAL⟩:=AtB.cnt (n:=(a21.length:Int)) (m:=500) hAt (by omega) (by omega) (by decide)
  have hq0:tlR.r.cv (tlR.r.cN s (0+32))=(a21.length:Int)-0:=by
   rw[show tlR.r.cN s (0+32)=(a21.length:Int)from hc3,show tlR.r.cv (a21.length:Int)=(a21.length:Int)from cv_small (by omega) (by omega)];omega
  have hq1:(0+32:Int)=0+32:=rfl
  have hq2:tlR.r.add (0+32) (tlR.r.cntL (tlR.r.cN s (0+32)))=(0+32)+cntL a21.length+((catN (gapB intS a21) 0).size:Nat):=by
   rw[show tlR.r.cN s (0+32)=(a21.length:Int)from hc3]
   show(0+32)+cntL a21.length=(0+32)+cntL a21.length+((0:Nat):Int)
   omega
  have hr2:riseP intS a21:=Classical.byContradiction fun hh=>hwr (Or.inr (Or.inr (Or.inr (Or.inr (Or.inl hh)))))
  clear r0 r1 r2 r3 r4 r5 r6 r7 r8 r9 r10 r14 r15 r17 r18 R1 R2 R3 R4 R4i R8 N5 N6 hmany hwr
  refine ra tve0_ok 0 false 400 [false,false,false,false,false,false,false,false,false,false,false,false,false,true] [0,1,10,11] [10] ?_ ?_
  ·simp only[conj,z0,z2,arR,z1,zd]
   (repeat' with_reducible apply And.intro)<;>first
     |omega
     |exact hc1
     |exact hc2
     |exact h32a
     |rfl
     |exact trivial
  refine Run.fam3 (ι:={x:List Int×Int // x=(a15,(a21.length:Int)-0)}) (fun i=>([.a (.one (.ptr 0 (.lit 0))),.a (.one (.ptr 1 (.lit 0))),.z,.z,.z,.z,.z,.z,.z,.z,.a (.one (.int .i64 (-1))),.a (.one (.int .i64 i.1.2)),.z,.z,.z,.z,.z,.z,.z,.z,.z,.z,.z,.z,.z,.z,.z,.z,.z,.z,.z,.z,.z,.z,.z,.z,.z,.z,.z,.z,.z,.z,.z,.z,.z,.z,.z,.z,.z,.z,.z,.z,.z,.z,.z,.z,.z,.z,.z,.z,.z,.z,.z,.z,.z,.z,.z,.z,.z,.z,.z,.z,.z,.z,.z,.z,.z,.z,.z,.z,.z,.z,.z,.z,.z,.z,.z,.z,.z,.z,.z,.z,.z,.z,.z,.z,.z,.z,.z,.z,.z,.z,.z,.z,.z,.z,.z,.z,.z,.z,.z,.z,.z,.z,.z,.z,.z,.z,.z,.z,.z,.z,.z,.z,.z,.z,.z,.z,.z,.z,.z,.z,.z,.z,.z,.z,.z,.z,.z,.z,.z,.z,.z,.z,.z,.z,.z,.z,.z,.z,.z,.z,.z,.z,.z,.z,.z,.z,.z,.z,.z,.z,.z,.z,.z,.z,.z,.z,.z,.z,.z,.z,.z,.z,.z,.z,.z,.z,.z,.z,.z,.z,.z,.z,.z,.z,.z,.z,.z,.z,.z,.z,.z,.z,.z,.z,.z,.z,.z,.z,.z,.z,.z,.z,.z,.z,.z,.z,.z,.z,.z,.z,.z],[some ⟨false,.lst [.ptr 2 (.lit 0),.int .i64 (0+32)]⟩,some ⟨false,.prt [.c (.int .i64 17),.c (.int .u32 v1),.c (.int .u64 v2),.c (.int .u64 v3),.c (.int .i64 v4),.v NS v5,.v NS v6,.c (.str v7),.c (.int .u32 v8),.c (.bool v9),.c (.bool v10),.c .nsl,.c .nsl,.c .nsl,.v (.arr .u8 32) v14,.v (.arr .u8 32) (.row i.1.1),.c .nsl,.c (.str v17),.c (.str v18),.c .nsl,.c .nsl,.c .nsl,.c .nsl]⟩,some ⟨false,.lst [.str s,.int .i64 (tlR.r.add (0+32) (tlR.r.cntL (tlR.r.cN s (0+32)))),.int .i64 0]⟩])) ⟨((List.range 32).map (hashOf (cutB s 0 32)),tlR.r.cv (tlR.r.cN s (0+32))),by rw[EH,hq0]⟩ ?_
  rintro⟨⟨_,_⟩,hh⟩
  cases hh
  refine Run.roomAtP 1 21 (.int .i64) rfl rfl (Nat.le_of_ble_eq_true rfl) ?_
  refine Run.loop (ι:={q:Int×Int×Int×Int×List D×Int // (0≤q.1∧q.1≤a21.length)∧q.2.1=a21.length-q.1∧q.2.2.1=lastA (0+32+cntL a21.length) (gapB intS a21) (fun _=>0) (0+32) q.1.toNat∧q.2.2.2.1=0+32+cntL a21.length+(catN (gapB intS a21) q.1.toNat).size∧q.2.2.2.2.1=a21.take q.1.toNat∧q.2.2.2.2.2=prevI intS a21 q.1.toNat})
   (fun i=>([.a (.one (.ptr 0 (.lit 0))),.a (.one (.ptr 1 (.lit 0))),.z,.z,.z,.z,.z,.z,.z,.z,.a (.one (.int .i64 i.1.2.2.2.2.2)),.a (.one (.int .i64 i.1.2.1)),.z,.z,.z,.z,.z,.z,.z,.z,.z,.z,.z,.z,.z,.z,.z,.z,.z,.z,.z,.z,.z,.z,.z,.z,.z,.z,.z,.z,.z,.z,.z,.z,.z,.z,.z,.z,.z,.z,.z,.z,.z,.z,.z,.z,.z,.z,.z,.z,.z,.z,.z,.z,.z,.z,.z,.z,.z,.z,.z,.z,.z,.z,.z,.z,.z,.z,.z,.z,.z,.z,.z,.z,.z,.z,.z,.z,.z,.z,.z,.z,.z,.z,.z,.z,.z,.z,.z,.z,.z,.z,.z,.z,.z,.z,.z,.z,.z,.z,.z,.z,.z,.z,.z,.z,.z,.z,.z,.z,.z,.z,.z,.z,.z,.z,.z,.z,.z,.z,.z,.z,.z,.z,.z,.z,.z,.z,.z,.z,.z,.z,.z,.z,.z,.z,.z,.z,.z,.z,.z,.z,.z,.z,.z,.z,.z,.z,.z,.z,.z,.z,.z,.z,.z,.z,.z,.z,.z,.z,.z,.z,.z,.z,.z,.z,.z,.z,.z,.z,.z,.z,.z,.z,.z,.z,.z,.z,.z,.z,.z,.z,.z,.z,.z,.z,.z,.z,.z,.z,.z,.z,.z,.z,.z,.z,.z,.z,.z,.z,.z,.z,.z],[some ⟨false,.lst [.ptr 2 (.lit 0),.int .i64 i.1.2.2.1]⟩,some ⟨false,.prt [.c (.int .i64 17),.c (.int .u32 v1),.c (.int .u64 v2),.c (.int .u64 v3),.c (.int .i64 v4),.v NS v5,.v NS v6,.c (.str v7),.c (.int .u32 v8),.c (.bool v9),.c (.bool v10),.c .nsl,.c .nsl,.c .nsl,.v (.arr .u8 32) v14,.v (.arr .u8 32) (.row a15),.c .nsl,.c (.str v17),.c (.str v18),.c .nsl,.c .nsl,.c (.dat (.int .i64) i.1.2.2.2.2.1 (some 3)),.c .nsl]⟩,some ⟨false,.lst [.str s,.int .i64 i.1.2.2.2.1,.int .i64 0]⟩,some ⟨false,.tail⟩]))
   (fun i=>(a21.length-i.1.1).toNat) ⟨(0,_,_,_,[],-1),by simp only;omega,(rfl:(a21.length:Int)-0=a21.length-0),hq1,hq2,rfl,rfl⟩ ?_
  rintro⟨⟨i,rem,a,p,xs,la⟩,hp,hrem,ha,hps,hxs,hla⟩ ih
  try simp only at hp hrem ha hps hxs hla
  by_cases hlt:i<a21.length
  ·have e1:rbin .sub .i64 rem 1=a21.length-(i+1):=by rw[hrem,subi (by omega) (by omega)];omega
   have hpn:i.toNat<a21.length:=by omega
   have hAi:=catN_at hAL i.toNat hpn
   rw[←hps]at hAi
   have hxl:xs.length=i.toNat:=by rw[hxs,List.length_take];omega
   have hML:maxLen=9223372036854775807:=by decide
   have hsn:=take_snoc (l:=a21) hp.1 hlt
   rw[←hxs]at hsn
   have hin:(i+1).toNat=i.toNat+1:=by omega
   have hpN:p+(gapB intS a21 i.toNat).size=0+32+cntL a21.length+(catN (gapB intS a21) (i+1).toNat).size:=by
    rw[hin,catN_succ,bsa,hps];omega
   have hri:=hr2 i.toNat hpn
   have hge:=prev_ge (g:=intS) (l:=a21) (n:=i.toNat) (fun k hk=>hr2 k (by omega))
   have hAi:AtB s p (cntB (intS (a21.getD i.toNat (.int 0))-prevI intS a21 i.toNat-1)):=hAi
   have hpN:p+(cntB (intS (a21.getD i.toNat (.int 0))-prevI intS a21 i.toNat-1)).size=0+32+cntL a21.length+(catN (gapB intS a21) (i+1).toNat).size:=hpN
   have hri:prevI intS a21 i.toNat<intS (a21.getD i.toNat (.int 0))∧intS (a21.getD i.toNat (.int 0))≤65535:=hri
   rw[←hla]at hAi hpN hri hge
   have hnl:intS (a21.getD i.toNat (.int 0))=prevI intS a21 (i+1).toNat:=by rw[hin];rfl
   have hxd:=r21.2 _ (mem_at hlt hp.1)
   generalize a21.getD i.toNat (.int 0)=x at hxd hAi hsn hri hpN hnl
   obtain⟨xn,rfl⟩:=okD_int hxd
   have hnl:xn=prevI intS a21 (i+1).toNat:=hnl
   have hAi:AtB s p (cntB (xn-la-1)):=hAi
   have hri:la<xn∧xn≤65535:=hri
   have hpN:p+(cntB (xn-la-1)).size=0+32+cntL a21.length+(catN (gapB intS a21) (i+1).toNat).size:=hpN
   have hbs:=cntB_size (xn-la-1)
   have hcn:=(cnt_told ⟨by omega,by omega⟩ hAi).1
   have hd1:tlR.r.cAt s p 0:=⟨rfl,_,⟨by omega,by omega⟩,hAi⟩
   have hd2:tlR.r.plOk la (tlR.r.cN s p):=by
    rw[show tlR.r.cN s p=xn-la-1 from hcn]
    exact⟨by omega,by omega,by omega⟩
   have hpl:tlR.r.plc la (tlR.r.cN s p)=xn:=by
    rw[show tlR.r.cN s p=xn-la-1 from hcn]
    show la+1+(xn-la-1)=xn
    omega
   have he0:tlR.r.e0 0:=rfl
   have hgt:rem>0:=by omega
   refine ra tve0_ok 2 true 400 [true,true] [0,1,10,11] [10,11] ?_ ?_
   ·simp only[conj,z0,z2,arR,z1,zd,hxl]
    (repeat' with_reducible apply And.intro)<;>first
      |omega
      |exact hd1
      |exact hd2
      |exact he0
      |rfl
      |exact trivial
   ·refine ih ⟨(_,_,_,_,_,_),(⟨by omega,by omega⟩:0≤i+1∧i+1≤a21.length),e1,?_,?_,?_,?_⟩ ?_ _ _
    ·rw[hin]
     show p=_
     unfold lastA
     simp only
     omega
    ·show p+cntL (cntN s p)=0+32+cntL a21.length+((catN (gapB intS a21) (i+1).toNat).size:Int)
     rw[hcn];omega
    ·show xs++[D.int (tlR.r.plc la (tlR.r.cN s p))]=a21.take (i+1).toNat
     rw[hsn,hpl]
    ·show tlR.r.plc la (tlR.r.cN s p)=prevI intS a21 (i+1).toNat
     rw[hpl];exact hnl
    ·show((a21.length:Int)-(i+1)).toNat<((a21.length:Int)-i).toNat
     omega
  ·have hie:i.toNat=a21.length:=by omega
   rw[hie]at ha hps hxs
   rw[List.take_of_length_le (Nat.le_refl _)]at hxs
   clear ih
   refine rx tve0_ok 999 false 400 [false] ?_ ?_
   ·simp only[conj,z0,z2,arR,z1,zd]
    (repeat' with_reducible apply And.intro)<;>first
      |omega
      |rfl
      |exact trivial
   refine Run.fin ti_ok rfl rfl (HEnd.pack [0,1,2] rfl rfl (pk3 ?_ ?_ ?_) rfl)
   ·exact ha
   ·rw[hxs];rfl
   ·show p=s.size
    rw[hsz,bsa,bsa,rowB_size,hps]
    have:=cntB_size (a21.length:Int)
    omega
 ·cases hs
theorem ver_1 (d:D):HOk Try.prog 107 (hTk1 tlR d):=by
 refine .of_run (hc:=(tve0 tlR).hc) Try.func107 rfl (by kernel_rfl) (by kernel_rfl) fun las lbs v lbs' ps hs hp w=>?_
 unfold hTk1 at hs
 split at hs
 ·rename_i a v0 v1 v2 v3 v4 s5 v5 s6 v6 v7 v8 v9 v10 s14 v14 s15 v15 v17 v18 s p e
  split at hs
  rotate_left
  ·cases hs
  rename_i hsh
  simp only[bat]at hsh
  obtain⟨h5,h6,h14,h15⟩:=hsh
  obtain rfl:=shEq_eq h5
  obtain rfl:=shEq_eq h6
  obtain rfl:=shEq_eq h14
  obtain rfl:=shEq_eq h15
  clear h5 h6 h14 h15
  cases hs
  obtain⟨rfl,rfl,m,rfl,hk,hok,⟨z11,z12,z13,z16,z19,z20,z21,z22⟩,hmany,hwr,hA,hsz,h16⟩:tld 1 d s p e:=hp (tlR.tld 1 d s p e) mcs
  obtain rfl:v0=1:=hp (v0=1) (mcm _ mcs)
  clear hp
  rw[aEof]
  obtain⟨a0,a1,a2,a3,a4,⟨a5t,a5s,a5i,a5p⟩,⟨a6t,a6s,a6i,a6p⟩,a7,a8,a9,a10,a11,a12,a13,a14,a15,a16,a17,a18,a19,a20,a21,a22⟩:=m
  obtain⟨r0,r1,r2,r3,r4,r5,r6,r7,r8,r9,r10,r11,r12,r13,r14,r15,r16,r17,r18,r19,r20,r21,r22⟩:=hok
  simp only at hk z11 z12 z13 z16 z19 z20 z21 z22
  subst hk
  have hF:=fx a1 a2 a3 a4 a8 a5t a5s a5p a6t a6s a6p a5i a6i a11 a12 a13 a16 a19 a20 a21 a22 r1 r2 r3 r8 r11 r12 r13 r16 r19 r20 r21 r22 r5 r6
  clear r11 r12 r13 r16 r19 r20 r21 r22
  obtain⟨R1,R2,R3,R8,R4,r11,r12,r13,r16,r19,r20,r21,r22,N5,N6⟩:=hF
  have R4i:-9223372036854775808≤a4∧a4<9223372036854775808:=rgi64 r4
  have hle:¬((a7.size:Int)>64):=fun hh=>hmany (by unfold manyP;rw[nm_1_agent _ rfl];exact Or.inr (Or.inr (Or.inl hh)))
  have hs0:=verM_size ⟨1,a1,a2,a3,a4,⟨a5t,a5s,a5i,a5p⟩,⟨a6t,a6s,a6i,a6p⟩,a7,a8,a9,a10,a11,a12,a13,a14,a15,a16,a17,a18,a19,a20,a21,a22⟩
  rw[show payM ⟨1,a1,a2,a3,a4,⟨a5t,a5s,a5i,a5p⟩,⟨a6t,a6s,a6i,a6p⟩,a7,a8,a9,a10,a11,a12,a13,a14,a15,a16,a17,a18,a19,a20,a21,a22⟩=verM ⟨1,a1,a2,a3,a4,⟨a5t,a5s,a5i,a5p⟩,⟨a6t,a6s,a6i,a6p⟩,a7,a8,a9,a10,a11,a12,a13,a14,a15,a16,a17,a18,a19,a20,a21,a22⟩from rfl]at hA hsz
  rw[hs0]at hsz
  simp only at hsz
  have hr7:=rawB_size a7
  have hA:AtB s 0 (layB a1 4++layB a2 8++layB (u64of a4) 8++netB (.pair (.int a5t) (.pair (.int a5s) (.pair (.row a5i) (.int a5p))))++netB (.pair (.int a6t) (.pair (.int a6s) (.pair (.row a6i) (.int a6p))))++layB a3 8++(cntB a7.size++a7)++layB a8 4++flagB a9):=hA
  simp only[baa]at hA
  have E1:=hA.left.u32 R1
  have g1:tlR.r.room s 0 4 0:=⟨rfl,hA.left.room (lay_sizeI a1 4)⟩
  have hA1:=hA.nx (n:=4) (lay_sizeI a1 4)
  have E2:=hA1.left.u64 R2
  have g2:tlR.r.room s (tlR.r.add 0 4) 8 0:=⟨rfl,hA1.left.room (lay_sizeI a2 8)⟩
  have hA2:=hA1.nx (n:=8) (lay_sizeI a2 8)
  have E3:=hA2.left.u64 (u64of_rng a4)
  have g3:tlR.r.room s (tlR.r.add (tlR.r.add 0 4) 8) 8 0:=⟨rfl,hA2.left.room (lay_sizeI (u64of a4) 8)⟩
  have hA3:=hA2.nx (n:=8) (lay_sizeI (u64of a4) 8)
  have E5:=net_told5 r5 hA3.left
  have g5:tlR.r.room s (tlR.r.add (tlR.r.add (tlR.r.add 0 4) 8) 8) 26 0:=⟨rfl,hA3.left.room (net_sizeI _)⟩
  have hA4:=hA3.nx (n:=26) (net_sizeI _)
  rw[p26]at hA4
  have E6:=net_told5 r6 hA4.left
  have g6:tlR.r.room s (tlR.r.add (tlR.r.add (tlR.r.add (tlR.r.add (tlR.r.add (tlR.r.add 0 4) 8) 8) 8) 16) 2) 26 0:=⟨rfl,hA4.left.room (net_sizeI _)⟩
  have hA5:=hA4.nx (n:=26) (net_sizeI _)
  rw[p26]at hA5
  have E4:=hA5.left.u64 R3
  have g4:tlR.r.room s (0+4+8+8+8+16+2+8+16+2) 8 0:=⟨rfl,hA5.left.room (lay_sizeI a3 8)⟩
  have hA6:=hA5.nx (n:=8) (lay_sizeI a3 8)
  obtain⟨hc1,hc2,hc3,hA7⟩:=AtB.cnt (n:=(a7.size:Int)) (m:=64) hA6 (by omega) (by omega) (by decide)
  have g7:tlR.r.room s (tlR.r.add (0+4+8+8+8+16+2+8+16+2+8) (tlR.r.cntL (tlR.r.cN s (0+4+8+8+8+16+2+8+16+2+8)))) (tlR.r.cN s (0+4+8+8+8+16+2+8+16+2+8)) 0:=by
   rw[show tlR.r.cN s (0+4+8+8+8+16+2+8+16+2+8)=(a7.size:Int)from hc3]
   exact⟨rfl,hA7.left.room rfl⟩
  have E7:cutB s (0+4+8+8+8+16+2+8+16+2+8+cntL (cntN s (0+4+8+8+8+16+2+8+16+2+8))) (cntN s (0+4+8+8+8+16+2+8+16+2+8))=a7:=by rw[hc3];exact hA7.left.text
  have hA8:AtB s (0+4+8+8+8+16+2+8+16+2+8+cntL (cntN s (0+4+8+8+8+16+2+8+16+2+8))+cntN s (0+4+8+8+8+16+2+8+16+2+8)) (layB a8 4++flagB a9):=by rw[hc3];exact hA7.nx rfl
  have E8:=hA8.left.u32 R8
  have g8:tlR.r.room s (0+4+8+8+8+16+2+8+16+2+8+cntL (cntN s (0+4+8+8+8+16+2+8+16+2+8))+cntN s (0+4+8+8+8+16+2+8+16+2+8)) 4 0:=⟨rfl,hA8.left.room (lay_sizeI a8 4)⟩
  have hA9:=hA8.nx (n:=4) (lay_sizeI a8 4)
  obtain⟨hb,E9⟩:=hA9.flag
  have g9:tlR.r.room s (0+4+8+8+8+16+2+8+16+2+8+cntL (cntN s (0+4+8+8+8+16+2+8+16+2+8))+cntN s (0+4+8+8+8+16+2+8+16+2+8)+4) 1 0:=⟨rfl,hA9.room (flag_size1 a9)⟩
  have ET:IntKind.i64.wrap ((leV (cutB s (0+4+8) 8).data.toList:Nat):Int)=a4:=by rw[E3];exact u64_i64 R4i
  clear r0 r1 r2 r3 r4 r5 r6 r7 r8 r9 r10 r11 r12 r13 r14 r15 r16 r17 r18 r19 r20 r21 r22 hmany hwr
  refine rx tve0_ok 999 false 400 [] ?_ ?_
  ·simp only[conj,z0,z2,arR,z1,zd]
   (repeat' with_reducible apply And.intro)<;>first
     |omega
     |exact g1
     |exact g2
     |exact g3
     |exact g4
     |exact g5
     |exact g6
     |exact g7
     |exact g8
     |exact g9
     |exact hc1
     |exact hc2
     |exact hb
     |rfl
     |exact trivial
  refine Run.fin ti_ok rfl rfl (HEnd.pack [0,1,2] rfl rfl (pk3 ?_ ?_ ?_) rfl)
  ·show 0+4+8+8+8+16+2+8+16+2+8+cntL (cntN s (0+4+8+8+8+16+2+8+16+2+8))+cntN s (0+4+8+8+8+16+2+8+16+2+8)+4=((verM ⟨1,a1,a2,a3,a4,⟨a5t,a5s,a5i,a5p⟩,⟨a6t,a6s,a6i,a6p⟩,a7,a8,a9,a10,a11,a12,a13,a14,a15,a16,a17,a18,a19,a20,a21,a22⟩).size:Int)-1
   rw[hs0,hc3]
   simp only
   omega
  ·show [_,Pt.c (.int .u32 ((leV (cutB s 0 4).data.toList:Nat):Int)),Pt.c (.int .u64 ((leV (cutB s (0+4) 8).data.toList:Nat):Int)),Pt.c (.int .u64 ((leV (cutB s (0+4+8+8+8+16+2+8+16+2) 8).data.toList:Nat):Int)),Pt.c (.int .i64 (IntKind.i64.wrap ((leV (cutB s (0+4+8) 8).data.toList:Nat):Int))),Pt.v NS (netDec s (0+4+8+8)),Pt.v NS (netDec s (0+4+8+8+8+16+2)),Pt.c (.str (cutB s (0+4+8+8+8+16+2+8+16+2+8+cntL (cntN s (0+4+8+8+8+16+2+8+16+2+8))) (cntN s (0+4+8+8+8+16+2+8+16+2+8)))),Pt.c (.int .u32 ((leV (cutB s (0+4+8+8+8+16+2+8+16+2+8+cntL (cntN s (0+4+8+8+8+16+2+8+16+2+8))+cntN s (0+4+8+8+8+16+2+8+16+2+8)) 4).data.toList:Nat):Int)),Pt.c (.bool (rcmp .eql ((leV (cutB s (0+4+8+8+8+16+2+8+16+2+8+cntL (cntN s (0+4+8+8+8+16+2+8+16+2+8))+cntN s (0+4+8+8+8+16+2+8+16+2+8)+4) 1).data.toList:Nat):Int) 1)),_,_,_,_,_,_,_,_,_,_,_,_,_]=_
   rw[E1,E2,E4,ET,E5,E6,E7,E8,E9]
   rfl
  ·show 0+4+8+8+8+16+2+8+16+2+8+cntL (cntN s (0+4+8+8+8+16+2+8+16+2+8))+cntN s (0+4+8+8+8+16+2+8+16+2+8)+4+1=s.size
   rw[hsz,hc3]
   omega
 ·cases hs
end Go.Proofs.Ytlbllaocdilafaa
