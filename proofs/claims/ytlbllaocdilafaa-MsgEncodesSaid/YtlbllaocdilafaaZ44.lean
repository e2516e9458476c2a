import Derived.Test.YtlbllaocdilafaaZ41
import Derived.Test.YtlbllaocdilafaaZ42
import Derived.Test.YtlbllaocdilafaaZ43
set_option linter.unusedSimpArgs false
set_option linter.unusedVariables false
set_option maxRecDepth 100000
set_option maxHeartbeats 16000000
namespace Go.Proofs.Ytlbllaocdilafaa
open Go Go.Eng Go.Proofs Go.RowKit
attribute[local irreducible] CallOk HOk Run TIok rbin rcmp run1 updF shfF blitF
noncomputable def tvl0 (lf:TLd):Tbl:=tbL [] [(79,nH (hPrtT lf.r)),(111,nH (hM4T lf.r)),(108,nH (hM8T lf.r)),(115,nH (hMbT lf.r)),(113,nH (hMhT lf.r)),(117,nH (hMoT lf.r)),(109,nH (hMcT lf.r)),(120,nH (hMtT lf.r)),(119,nH (hMpT lf.r)),(112,nH (hMnT lf.r)),(110,nH (hFinT lf.r)),(116,nH (hLeft lf.r.toLA)),(77,hNewR lf.r.toLA),(139,nH (hU8T lf.r))]
theorem tvl0_ok:TblOk Try.prog (tvl0 tlR):=tbL_ok nofun (mc ⟨prtT_ok.nH,mc ⟨m4T_ok.nH,mc ⟨m8T_ok.nH,mc ⟨mbT_ok.nH,mc ⟨mhT_ok.nH,mc ⟨moT_ok.nH,mc ⟨mcT_ok.nH,mc ⟨mtT_ok.nH,mc ⟨mpT_ok.nH,mc ⟨mnT_ok.nH,mc ⟨finT_ok.nH,mc ⟨left_ok.nH,mc ⟨newR_ok,mc ⟨u8T_ok.nH,nofun⟩⟩⟩⟩⟩⟩⟩⟩⟩⟩⟩⟩⟩⟩)
theorem com_16 (d:D):HOk Try.prog 118 (hTk16 tlR d):=by
 refine .of_run (hc:=(tvl0 tlR).hc) Try.func118 rfl (by kernel_rfl) (by kernel_rfl) fun las lbs v lbs' ps hs hp w=>?_
 unfold hTk16 at hs
 split at hs
 ·rename_i a v0 v1 v2 v3 v4 s5 v5 s6 v6 v7 v8 v9 v10 s14 v14 s15 v15 v17 v18 s p e
  split at hs
  rotate_left
  ·cases hs
  rename_i hsh
  simp only[bat]at hsh
  obtain⟨h5,h6,h14,h15⟩:=hsh
  obtain rfl:=shEq_eq h5
  obtain rfl:=shEq_eq h6
  obtain rfl:=shEq_eq h14
  obtain rfl:=shEq_eq h15
  clear h5 h6 h14 h15
  cases hs
  obtain⟨rfl,rfl,m,rfl,hk,hok,⟨z11,z12,z13,z16,z19,z20,z21,z22⟩,hmany,hwr,hA,hsz,h16⟩:tld 16 d s p e:=hp (tlR.tld 16 d s p e) mcs
  obtain rfl:v0=16:=hp (v0=16) (mcm _ mcs)
  clear hp
  rw[aEof]
  obtain⟨a0,a1,a2,a3,a4,⟨a5t,a5s,a5i,a5p⟩,⟨a6t,a6s,a6i,a6p⟩,a7,a8,a9,a10,a11,a12,a13,a14,a15,a16,a17,a18,a19,a20,a21,a22⟩:=m
  obtain⟨r0,r1,r2,r3,r4,r5,r6,r7,r8,r9,r10,r11,r12,r13,r14,r15,r16,r17,r18,r19,r20,r21,r22⟩:=hok
  simp only at hk z11 z12 z13 z16 z19 z20 z21 z22
  subst hk
  have hF:=fx a1 a2 a3 a4 a8 a5t a5s a5p a6t a6s a6p a5i a6i a11 a12 a13 a16 a19 a20 a21 a22 r1 r2 r3 r8 r11 r12 r13 r16 r19 r20 r21 r22 r5 r6
  clear r11 r12 r13 r16 r19 r20 r21 r22
  obtain⟨R1,R2,R3,R8,R4,r11,r12,r13,r16,r19,r20,r21,r22,N5,N6⟩:=hF
  have R4i:-9223372036854775808≤a4∧a4<9223372036854775808:=rgi64 r4
  have e:payM ⟨16,a1,a2,a3,a4,⟨a5t,a5s,a5i,a5p⟩,⟨a6t,a6s,a6i,a6p⟩,a7,a8,a9,a10,a11,a12,a13,a14,a15,a16,a17,a18,a19,a20,a21,a22⟩=a17++layB a3 8++(cntB a19.length++catN (elShort a19) a19.length)++(cntB a20.length++catN (elFill a20) a20.length):=rfl
  rw[e]at hA hsz
  clear e
  have hr1:riseP filP a20:=Classical.byContradiction fun hh=>hwr (Or.inr (Or.inr (Or.inr (Or.inl hh))))
  have hw3:∀d∈a19,¬intS d>281474976710655:=fun d hd hh=>hwr (Or.inr (Or.inl ⟨d,hd,hh⟩))
  have h80:a17.size=80:=Decidable.byContradiction fun hh=>hwr (Or.inr (Or.inr (Or.inl ⟨rfl,(by omega:(a17.size:Int)≠80)⟩)))
  have hrw:∀d∈a20,¬filS d>4096:=fun d hd hh=>hmany (by unfold manyP;rw[nm_16_filled _ rfl];exact Or.inl ⟨d,hd,hh⟩)
  have hle2:¬((a20.length:Int)>500):=fun hh=>hmany (by unfold manyP;rw[nm_16_filled _ rfl];exact Or.inr (Or.inr (Or.inr (Or.inr (Or.inr (Or.inr (Or.inr (Or.inr (Or.inl hh)))))))))
  simp only[bsa,layB_size,h80]at hsz
  simp only[baa]at hA
  have E0:cutB s 0 80=a17:=by
   have:=hA.left.text
   rw[h80]at this
   exact this
  have g0:tlR.r.room s 0 80 0:=⟨rfl,hA.left.room (by rw[h80];rfl)⟩
  have hA1:=hA.nx (n:=80) (by rw[h80];rfl)
  have E1:=hA1.left.u64 R3
  have g1:tlR.r.room s (tlR.r.add 0 80) 8 0:=⟨rfl,hA1.left.room (lay_sizeI a3 8)⟩
  have hAt:=hA1.nx (n:=8) (lay_sizeI a3 8)
  have hle:¬((a19.length:Int)>500):=fun hh=>hmany (by unfold manyP;rw[nm_16_shorts _ rfl];exact Or.inr (Or.inr (Or.inr (Or.inr (Or.inr (Or.inr (Or.inr (Or.inl hh))))))))
  obtain⟨hc1,hc2,hc3,hAL⟩:=AtB.cnt (n:=(a19.length:Int)) (m:=500) hAt (by omega) (by omega) (by decide)
  have hq0:tlR.r.cv (tlR.r.cN s (0+80+8))=(a19.length:Int)-0:=by
   rw[show tlR.r.cN s (0+80+8)=(a19.length:Int)from hc3,show tlR.r.cv (a19.length:Int)=(a19.length:Int)from cv_small (by omega) (by omega)];omega
  have hq1:(0+80+8:Int)=0+80+8:=rfl
  have hq2:tlR.r.add (0+80+8) (tlR.r.cntL (tlR.r.cN s (0+80+8)))=(0+80+8)+cntL a19.length+((catN (elShort a19) 0).size:Nat):=by
   rw[show tlR.r.cN s (0+80+8)=(a19.length:Int)from hc3]
   show(0+80+8)+cntL a19.length=(0+80+8)+cntL a19.length+((0:Nat):Int)
   omega
  have hAr:AtB s (0+80+8+cntL a19.length+(catN (elShort a19) a19.length).size) (cntB a20.length++catN (elFill a20) a20.length):=hAL.right
  replace hAL:=hAL.left
  clear r0 r1 r2 r3 r4 r5 r6 r7 r8 r9 r10 r14 r15 r17 r18 R1 R2 R3 R4 R4i R8 N5 N6 hmany hwr
  refine ra tvl0_ok 0 false 400 [] [0,1,4] [] ?_ ?_
  ·simp only[conj,z0,z2,arR,z1,zd]
   (repeat' with_reducible apply And.intro)<;>first
     |omega
     |exact hc1
     |exact hc2
     |exact g0
     |exact g1
     |rfl
     |exact trivial
  refine Run.fam3 (ι:={x:ByteArray×Int×Int // x=(a17,a3,(a19.length:Int)-0)}) (fun i=>([.a (.one (.ptr 0 (.lit 0))),.a (.one (.ptr 1 (.lit 0))),.z,.z,.a (.one (.int .i64 i.1.2.2)),.z,.z,.z,.z,.z,.z,.z,.z,.z,.z,.z,.z,.z,.z,.z,.z,.z,.z,.z,.z,.z,.z,.z,.z,.z,.z,.z,.z,.z,.z,.z,.z,.z,.z,.z,.z,.z,.z,.z,.z,.z,.z,.z,.z,.z,.z,.z,.z,.z,.z,.z,.z,.z,.z,.z,.z,.z,.z,.z,.z,.z,.z,.z,.z],[some ⟨false,.lst [.ptr 2 (.lit 0),.int .i64 (0+80+8)]⟩,some ⟨false,.prt [.c (.int .i64 16),.c (.int .u32 v1),.c (.int .u64 v2),.c (.int .u64 i.1.2.1),.c (.int .i64 v4),.v NS v5,.v NS v6,.c (.str v7),.c (.int .u32 v8),.c (.bool v9),.c (.bool v10),.c .nsl,.c .nsl,.c .nsl,.v (.arr .u8 32) v14,.v (.arr .u8 32) v15,.c .nsl,.c (.str i.1.1),.c (.str v18),.c .nsl,.c .nsl,.c .nsl,.c .nsl]⟩,some ⟨false,.lst [.str s,.int .i64 (tlR.r.add (0+80+8) (tlR.r.cntL (tlR.r.cN s (0+80+8)))),.int .i64 0]⟩])) ⟨(cutB s 0 80,((leV (cutB s (0+80) 8).data.toList:Nat):Int),tlR.r.cv (tlR.r.cN s (0+80+8))),by rw[E0,E1,hq0]⟩ ?_
  rintro⟨⟨_,_,_⟩,hh⟩
  cases hh
  refine Run.roomAtP 1 19 (.int .u64) rfl rfl (Nat.le_of_ble_eq_true rfl) ?_
  refine Run.loop (ι:={q:Int×Int×Int×Int×List D // (0≤q.1∧q.1≤a19.length)∧q.2.1=a19.length-q.1∧q.2.2.1=lastA (0+80+8+cntL a19.length) (elShort a19) (fun _=>0) (0+80+8) q.1.toNat∧q.2.2.2.1=0+80+8+cntL a19.length+(catN (elShort a19) q.1.toNat).size∧q.2.2.2.2=a19.take q.1.toNat})
   (fun i=>([.a (.one (.ptr 0 (.lit 0))),.a (.one (.ptr 1 (.lit 0))),.z,.z,.a (.one (.int .i64 i.1.2.1)),.z,.z,.z,.z,.z,.z,.z,.z,.z,.z,.z,.z,.z,.z,.z,.z,.z,.z,.z,.z,.z,.z,.z,.z,.z,.z,.z,.z,.z,.z,.z,.z,.z,.z,.z,.z,.z,.z,.z,.z,.z,.z,.z,.z,.z,.z,.z,.z,.z,.z,.z,.z,.z,.z,.z,.z,.z,.z,.z,.z,.z,.z,.z,.z],[some ⟨false,.lst [.ptr 2 (.lit 0),.int .i64 i.1.2.2.1]⟩,some ⟨false,.prt [.c (.int .i64 16),.c (.int .u32 v1),.c (.int .u64 v2),.c (.int .u64 a3),.c (.int .i64 v4),.v NS v5,.v NS v6,.c (.str v7),.c (.int .u32 v8),.c (.bool v9),.c (.bool v10),.c .nsl,.c .nsl,.c .nsl,.v (.arr .u8 32) v14,.v (.arr .u8 32) v15,.c .nsl,.c (.str a17),.c (.str v18),.c (.dat (.int .u64) i.1.2.2.2.2 (some 3)),.c .nsl,.c .nsl,.c .nsl]⟩,some ⟨false,.lst [.str s,.int .i64 i.1.2.2.2.1,.int .i64 0]⟩,some ⟨false,.tail⟩]))
   (fun i=>(a19.length-i.1.1).toNat) ⟨(0,_,_,_,[]),by simp only;omega,(rfl:(a19.length:Int)-0=a19.length-0),hq1,hq2,rfl⟩ ?_
  rintro⟨⟨i,rem,a,p,xs⟩,hp,hrem,ha,hps,hxs⟩ ih
  try simp only at hp hrem ha hps hxs
  by_cases hlt:i<a19.length
  ·have e1:rbin .sub .i64 rem 1=a19.length-(i+1):=by rw[hrem,subi (by omega) (by omega)];omega
   have hpn:i.toNat<a19.length:=by omega
   have hAi:=catN_at hAL i.toNat hpn
   rw[←hps]at hAi
   have hxl:xs.length=i.toNat:=by rw[hxs,List.length_take];omega
   have hML:maxLen=9223372036854775807:=by decide
   have hsn:=take_snoc (l:=a19) hp.1 hlt
   rw[←hxs]at hsn
   have hin:(i+1).toNat=i.toNat+1:=by omega
   have hpN:p+(elShort a19 i.toNat).size=0+80+8+cntL a19.length+(catN (elShort a19) (i+1).toNat).size:=by
    rw[hin,catN_succ,bsa,hps];omega
   have hxd:=r19.2 _ (mem_at hlt hp.1)
   have hxm:=hw3 _ (mem_at hlt hp.1)
   have hAi:AtB s p (layB (a19.getD i.toNat (.int 0)).int! 6):=hAi
   have hpN:p+(layB (a19.getD i.toNat (.int 0)).int! 6).size=0+80+8+cntL a19.length+(catN (elShort a19) (i+1).toNat).size:=hpN
   rw[layB_size]at hpN
   generalize a19.getD i.toNat (.int 0)=x at hxd hAi hsn hxm
   obtain⟨xn,rfl⟩:=okD_int hxd
   have hx0:=rg64 hxd
   have hxm:¬xn>281474976710655:=hxm
   have hAi:AtB s p (layB xn 6):=hAi
   obtain⟨E2,hr8⟩:=short_back hAi hx0.1 (by omega)
   have h6:tlR.r.room s p 6 0:=⟨rfl,hAi.room (lay_sizeI xn 6)⟩
   have h8:tlR.r.room (cutB s p 6++⟨#[0,0]⟩) 0 8 0:=⟨rfl,hr8⟩
   have hcs:(((cutB s p 6).size+(⟨#[0,0]⟩:ByteArray).size:Nat):Int)≤9223372036854775807:=by
    have:=cut_size h6.2
    have z:(⟨#[0,0]⟩:ByteArray).size=2:=rfl
    rw[z]
    omega
   have he0:tlR.r.e0 0:=rfl
   have hgt:rem>0:=by omega
   refine ra tvl0_ok 2 true 400 [true,true] [0,1,4] [4] ?_ ?_
   ·simp only[conj,z0,z2,arR,z1,zd,hxl]
    (repeat' with_reducible apply And.intro)<;>first
      |omega
      |exact h6
      |exact h8
      |exact hcs
      |exact he0
      |rfl
      |exact trivial
   ·refine ih ⟨(_,_,_,_,_),(⟨by omega,by omega⟩:0≤i+1∧i+1≤a19.length),e1,?_,?_,?_⟩ ?_ _ _
    ·rw[hin]
     show p=_
     unfold lastA
     simp only
     omega
    ·show p+6=0+80+8+cntL a19.length+((catN (elShort a19) (i+1).toNat).size:Int)
     omega
    ·show xs++[D.int ((leV (cutB (cutB s p 6++⟨#[0,0]⟩) 0 8).data.toList:Nat):Int)]=a19.take (i+1).toNat
     rw[hsn,E2]
    ·show((a19.length:Int)-(i+1)).toNat<((a19.length:Int)-i).toNat
     omega
  ·have hie:i.toNat=a19.length:=by omega
   rw[hie]at ha hps hxs
   rw[List.take_of_length_le (Nat.le_refl _)]at hxs
   clear ih
   obtain⟨pos2,hpos2⟩:∃z:Int,z=p:=⟨_,rfl⟩
   have hpos2':pos2=0+80+8+cntL a19.length+((catN (elShort a19) a19.length).size:Int):=by rw[hpos2,hps]
   have hArp:AtB s p (cntB a20.length++catN (elFill a20) a20.length):=by rw[hps];exact hAr
   obtain⟨k1,k2,k3,hALp⟩:=AtB.cnt (n:=(a20.length:Int)) (m:=500) hArp (by omega) (by omega) (by decide)
   have hAL:AtB s (pos2+cntL a20.length) (catN (elFill a20) a20.length):=by rw[hpos2];exact hALp
   have hq0b:tlR.r.cv (tlR.r.cN s p)=(a20.length:Int)-0:=by
    rw[show tlR.r.cN s p=(a20.length:Int)from k3,show tlR.r.cv (a20.length:Int)=(a20.length:Int)from cv_small (by omega) (by omega)];omega
   have hq2b:tlR.r.add p (tlR.r.cntL (tlR.r.cN s p))=pos2+cntL a20.length+((catN (elFill a20) 0).size:Nat):=by
    rw[show tlR.r.cN s p=(a20.length:Int)from k3,hpos2]
    show p+cntL a20.length=p+cntL a20.length+((0:Nat):Int)
    omega
   have he0:tlR.r.e0 0:=rfl
   refine ra tvl0_ok 2 false 400 [false] [0,1,6,7] [6] ?_ ?_
   ·simp only[conj,z0,z2,arR,z1,zd]
    (repeat' with_reducible apply And.intro)<;>first
      |omega
      |exact k1
      |exact k2
      |exact he0
      |rfl
      |exact trivial
   refine Run.fam3 (ι:={x:Int×List D // x=((a20.length:Int)-0,a19)}) (fun i=>([.a (.one (.ptr 0 (.lit 0))),.a (.one (.ptr 1 (.lit 0))),.z,.z,.z,.z,.a (.one (.int .i64 (-1))),.a (.one (.int .i64 i.1.1)),.z,.z,.z,.z,.z,.z,.z,.z,.z,.z,.z,.z,.z,.z,.z,.z,.z,.z,.z,.z,.z,.z,.z,.z,.z,.z,.z,.z,.z,.z,.z,.z,.z,.z,.z,.z,.z,.z,.z,.z,.z,.z,.z,.z,.z,.z,.z,.z,.z,.z,.z,.z,.z,.z,.z,.z,.z,.z,.z,.z,.z],[some ⟨false,.lst [.ptr 2 (.lit 0),.int .i64 p]⟩,some ⟨false,.prt [.c (.int .i64 16),.c (.int .u32 v1),.c (.int .u64 v2),.c (.int .u64 a3),.c (.int .i64 v4),.v NS v5,.v NS v6,.c (.str v7),.c (.int .u32 v8),.c (.bool v9),.c (.bool v10),.c .nsl,.c .nsl,.c .nsl,.v (.arr .u8 32) v14,.v (.arr .u8 32) v15,.c .nsl,.c (.str a17),.c (.str v18),.c (.dat (.int .u64) i.1.2 (some 3)),.c .nsl,.c .nsl,.c .nsl]⟩,some ⟨false,.lst [.str s,.int .i64 (tlR.r.add p (tlR.r.cntL (tlR.r.cN s p))),.int .i64 0]⟩,some ⟨false,.tail⟩])) ⟨(tlR.r.cv (tlR.r.cN s p),xs),by rw[hq0b,hxs]⟩ ?_
   rintro⟨⟨_,_⟩,hh⟩
   cases hh
   refine Run.roomAtP 1 20 (.two (.int .i64) .str) rfl rfl (Nat.le_of_ble_eq_true rfl) ?_
   refine Run.loop (ι:={q:Int×Int×Int×Int×List D×Int // (0≤q.1∧q.1≤a20.length)∧q.2.1=a20.length-q.1∧q.2.2.1=lastA (pos2+cntL a20.length) (elFill a20) (fun i=>(gapB filP a20 i).size+cntL (a20.getD i (.int 0)).snd!.str!.size) (pos2) q.1.toNat∧q.2.2.2.1=pos2+cntL a20.length+(catN (elFill a20) q.1.toNat).size∧q.2.2.2.2.1=a20.take q.1.toNat∧q.2.2.2.2.2=prevI filP a20 q.1.toNat})
    (fun i=>([.a (.one (.ptr 0 (.lit 0))),.a (.one (.ptr 1 (.lit 0))),.z,.z,.z,.z,.a (.one (.int .i64 i.1.2.2.2.2.2)),.a (.one (.int .i64 i.1.2.1)),.z,.z,.z,.z,.z,.z,.z,.z,.z,.z,.z,.z,.z,.z,.z,.z,.z,.z,.z,.z,.z,.z,.z,.z,.z,.z,.z,.z,.z,.z,.z,.z,.z,.z,.z,.z,.z,.z,.z,.z,.z,.z,.z,.z,.z,.z,.z,.z,.z,.z,.z,.z,.z,.z,.z,.z,.z,.z,.z,.z,.z],[some ⟨false,.lst [.ptr 2 (.lit 0),.int .i64 i.1.2.2.1]⟩,some ⟨false,.prt [.c (.int .i64 16),.c (.int .u32 v1),.c (.int .u64 v2),.c (.int .u64 a3),.c (.int .i64 v4),.v NS v5,.v NS v6,.c (.str v7),.c (.int .u32 v8),.c (.bool v9),.c (.bool v10),.c .nsl,.c .nsl,.c .nsl,.v (.arr .u8 32) v14,.v (.arr .u8 32) v15,.c .nsl,.c (.str a17),.c (.str v18),.c (.dat (.int .u64) a19 (some 3)),.c (.dat (.two (.int .i64) .str) i.1.2.2.2.2.1 (some 4)),.c .nsl,.c .nsl]⟩,some ⟨false,.lst [.str s,.int .i64 i.1.2.2.2.1,.int .i64 0]⟩,some ⟨false,.tail⟩,some ⟨false,.tail⟩]))
    (fun i=>(a20.length-i.1.1).toNat) ⟨(0,_,_,_,[],-1),by simp only;omega,(rfl:(a20.length:Int)-0=a20.length-0),hpos2.symm,hq2b,rfl,rfl⟩ ?_
   rintro⟨⟨i,rem,a,p,xs,la⟩,hp,hrem,ha,hps,hxs,hla⟩ ih
   try simp only at hp hrem ha hps hxs hla
   by_cases hlt:i<a20.length
   ·have e1:rbin .sub .i64 rem 1=a20.length-(i+1):=by rw[hrem,subi (by omega) (by omega)];omega
    have hpn:i.toNat<a20.length:=by omega
    have hAi:=catN_at hAL i.toNat hpn
    rw[←hps]at hAi
    have hxl:xs.length=i.toNat:=by rw[hxs,List.length_take];omega
    have hML:maxLen=9223372036854775807:=by decide
    have hsn:=take_snoc (l:=a20) hp.1 hlt
    rw[←hxs]at hsn
    have hin:(i+1).toNat=i.toNat+1:=by omega
    have hpN:p+(elFill a20 i.toNat).size=pos2+cntL a20.length+(catN (elFill a20) (i+1).toNat).size:=by
     rw[hin,catN_succ,bsa,hps];omega
    have hri:=hr1 i.toNat hpn
    have hge:=prev_ge (g:=filP) (l:=a20) (n:=i.toNat) (fun k hk=>hr1 k (by omega))
    have hri:prevI filP a20 i.toNat<filP (a20.getD i.toNat (.int 0))∧filP (a20.getD i.toNat (.int 0))≤65535:=hri
    have hAi:AtB s p (cntB (filP (a20.getD i.toNat (.int 0))-prevI filP a20 i.toNat-1)++(cntB (a20.getD i.toNat (.int 0)).snd!.str!.size++(a20.getD i.toNat (.int 0)).snd!.str!)):=hAi
    have hpN:p+(cntB (filP (a20.getD i.toNat (.int 0))-prevI filP a20 i.toNat-1)++(cntB (a20.getD i.toNat (.int 0)).snd!.str!.size++(a20.getD i.toNat (.int 0)).snd!.str!)).size=pos2+cntL a20.length+(catN (elFill a20) (i+1).toNat).size:=hpN
    have hgap:gapB filP a20 i.toNat=cntB (filP (a20.getD i.toNat (.int 0))-prevI filP a20 i.toNat-1):=rfl
    rw[←hla]at hAi hpN hri hge hgap
    have hnl:filP (a20.getD i.toNat (.int 0))=prevI filP a20 (i+1).toNat:=by rw[hin];rfl
    have hxm:(a20.getD i.toNat (.int 0)).snd!.str!.size≤4096:=by
     have:=hrw _ (mem_at hlt hp.1)
     unfold filS at this
     omega
    have hxd:=r20.2 _ (mem_at hlt hp.1)
    generalize hxe:a20.getD i.toNat (.int 0)=x at hxd hAi hsn hri hpN hnl hxm hgap
    obtain⟨y1,y2,rfl,hy1,hy2⟩:=okD_two hxd
    obtain⟨xn,rfl⟩:=okD_int hy1
    obtain⟨xb,rfl⟩:=okD_str hy2
    have hxm:xb.size≤4096:=hxm
    have hnl:xn=prevI filP a20 (i+1).toNat:=hnl
    have hgap:gapB filP a20 i.toNat=cntB (xn-la-1):=hgap
    have hAi:AtB s p (cntB (xn-la-1)++(cntB xb.size++xb)):=hAi
    have hri:la<xn∧xn≤65535:=hri
    have hpN:p+(cntB (xn-la-1)++(cntB xb.size++xb)).size=pos2+cntL a20.length+(catN (elFill a20) (i+1).toNat).size:=hpN
    have hbs:=cntB_size (xn-la-1)
    have hbs2:=cntB_size (xb.size:Int)
    rw[bsa,bsa]at hpN
    have hcn:=(cnt_told ⟨by omega,by omega⟩ hAi.left).1
    have hd1:tlR.r.cAt s p 0:=⟨rfl,_,⟨by omega,by omega⟩,hAi.left⟩
    have hd2:tlR.r.plOk la (tlR.r.cN s p):=by
     rw[show tlR.r.cN s p=xn-la-1 from hcn]
     exact⟨by omega,by omega,by omega⟩
    have hpl:tlR.r.plc la (tlR.r.cN s p)=xn:=by
     rw[show tlR.r.cN s p=xn-la-1 from hcn]
     show la+1+(xn-la-1)=xn
     omega
    have hAj:AtB s (p+cntL (cntN s p)) (cntB xb.size++xb):=by rw[hcn];exact hAi.nx hbs
    generalize hp2:p+cntL (cntN s p)=p2 at hAj
    obtain⟨hd3,hd4,hd5,hAx⟩:=AtB.cnt (n:=(xb.size:Int)) (m:=4096) hAj (by omega) (by omega) (by decide)
    have hp2':tlR.r.add p (tlR.r.cntL (tlR.r.cN s p))=p2:=hp2
    have hd3:tlR.r.cAt s (tlR.r.add p (tlR.r.cntL (tlR.r.cN s p))) 0:=by rw[hp2'];exact hd3
    have hd4:tlR.r.le (tlR.r.cN s (tlR.r.add p (tlR.r.cntL (tlR.r.cN s p)))) 4096:=by rw[hp2'];exact hd4
    have hd6:tlR.r.room s (tlR.r.add (tlR.r.add p (tlR.r.cntL (tlR.r.cN s p))) (tlR.r.cntL (tlR.r.cN s (tlR.r.add p (tlR.r.cntL (tlR.r.cN s p)))))) (tlR.r.cN s (tlR.r.add p (tlR.r.cntL (tlR.r.cN s p)))) 0:=by
     rw[hp2',show tlR.r.cN s p2=(xb.size:Int)from hd5]
     exact⟨rfl,hAx.room rfl⟩
    have E1:cutB s (p2+cntL (cntN s p2)) (cntN s p2)=xb:=by rw[hd5];exact hAx.text
    have he0:tlR.r.e0 0:=rfl
    have hgt:rem>0:=by omega
    refine ra tvl0_ok 1 true 400 [true,true] [0,1,6,7] [6,7] ?_ ?_
    ·simp only[conj,z0,z2,arR,z1,zd,hxl]
     (repeat' with_reducible apply And.intro)<;>first
       |omega
       |exact hd1
       |exact hd2
       |exact hd3
       |exact hd4
       |exact hd6
       |exact he0
       |rfl
       |exact trivial
    ·refine ih ⟨(_,_,_,_,_,_),(⟨by omega,by omega⟩:0≤i+1∧i+1≤a20.length),e1,?_,?_,?_,?_⟩ ?_ _ _
     ·rw[hin]
      show p+cntL (cntN s p)+cntL (cntN s (p+cntL (cntN s p)))=_
      rw[hp2,hd5]
      unfold lastA
      simp only[hxe,hgap,D.snd!,D.str!]
      rw[hcn]at hp2
      omega
     ·show p+cntL (cntN s p)+cntL (cntN s (p+cntL (cntN s p)))+cntN s (p+cntL (cntN s p))=pos2+cntL a20.length+((catN (elFill a20) (i+1).toNat).size:Int)
      rw[hp2,hd5]
      rw[hcn]at hp2
      omega
     ·show xs++[D.pair (.int (tlR.r.plc la (tlR.r.cN s p))) (.str (cutB s (p+cntL (cntN s p)+cntL (cntN s (p+cntL (cntN s p)))) (cntN s (p+cntL (cntN s p)))))]=a20.take (i+1).toNat
      rw[hp2,hsn,hpl,E1]
     ·show tlR.r.plc la (tlR.r.cN s p)=prevI filP a20 (i+1).toNat
      rw[hpl];exact hnl
     ·show((a20.length:Int)-(i+1)).toNat<((a20.length:Int)-i).toNat
      omega
   ·have hie:i.toNat=a20.length:=by omega
    rw[hie]at ha hps hxs
    rw[List.take_of_length_le (Nat.le_refl _)]at hxs
    clear ih
    refine rx tvl0_ok 999 false 400 [false] ?_ ?_
    ·simp only[conj,z0,z2,arR,z1,zd]
     (repeat' with_reducible apply And.intro)<;>first
       |omega
       |rfl
       |exact trivial
    refine Run.fin ti_ok rfl rfl (HEnd.pack [0,1,2] rfl rfl (pk3 ?_ ?_ ?_) rfl)
    ·rw[ha,hpos2']
     rfl
    ·rw[hxs];rfl
    ·show p=s.size
     have h1:=cntB_size (a19.length:Int)
     have h2:=cntB_size (a20.length:Int)
     omega
 ·cases hs
end Go.Proofs.Ytlbllaocdilafaa
namespace Go.Eng
open Go
def tldD (k:Int) (d:D) (s:ByteArray):Prop:=∃m:Ms,d=m.D∧m.kind=k∧tldM s m
structure TDd extends TLd where
 em:EM
 nd:D→D
 cmdNo:Int→Prop
 tldD:Int→D→ByteArray→Prop
noncomputable def tdR:TDd where
 toTLd:=tlR
 em:=emR
 nd d:=(namedM (msOf d)).D
 cmdNo k:=1≤k∧k≤18
 tldD:=tldD
theorem tld_of {k:Int}{d:D}{s:ByteArray}(h:tldD k d s):tld k d s 0 0:=⟨rfl,rfl,h⟩
theorem okD_NS16 {a b d:Int}{c:List Int}(h:okD NS (.pair (.int a) (.pair (.int b) (.pair (.row c) (.int d))))):c.length=16:=h.2.2.1.1
end Go.Eng
namespace Go.Proofs.Ytlbllaocdilafaa
open Go Go.Eng Go.Proofs Go.RowKit
attribute[local irreducible] CallOk HOk Run TIok rbin rcmp run1 updF shfF blitF
noncomputable def tvq1 (d:D) (lf:TLd):Tbl:=tbL [] [(107,nH (hTk1 lf d))]
theorem tvq1_ok (d:D):TblOk Try.prog (tvq1 d tlR):=tbL_ok nofun (mc ⟨(ver_1 d).nH,nofun⟩)
theorem tk_1 (d:D):HOk Try.prog 78 (hTk1 tlR d):=by
 refine .of_run (hc:=(tvq1 d tlR).hc) Try.func78 rfl (by kernel_rfl) (by kernel_rfl) fun las lbs v lbs' ps hs hp w=>?_
 unfold hTk1 at hs
 split at hs
 ·rename_i a v0 v1 v2 v3 v4 s5 v5 s6 v6 v7 v8 v9 v10 s14 v14 s15 v15 v17 v18 s p e
  split at hs
  rotate_left
  ·cases hs
  rename_i hsh
  simp only[bat]at hsh
  obtain⟨h5,h6,h14,h15⟩:=hsh
  obtain rfl:=shEq_eq h5
  obtain rfl:=shEq_eq h6
  obtain rfl:=shEq_eq h14
  obtain rfl:=shEq_eq h15
  clear h5 h6 h14 h15
  cases hs
  have ht:tlR.tld 1 d s p e:=hp (tlR.tld 1 d s p e) mcs
  obtain rfl:v0=1:=hp (v0=1) (mcm _ mcs)
  clear hp
  refine rx (tvq1_ok d) 999 false 400 [true] ?_ ?_
  ·simp only[conj,z0,z2,arR,z1]
   (repeat' with_reducible apply And.intro)<;>first|omega|exact ht|rfl|exact trivial
  exact Run.fin ti_ok rfl rfl (HEnd.pack [0,1,2] rfl rfl rfl rfl)
 ·cases hs
noncomputable def tvq12 (d:D) (lf:TLd):Tbl:=tbL [] [(114,nH (hTk12 lf d))]
theorem tvq12_ok (d:D):TblOk Try.prog (tvq12 d tlR):=tbL_ok nofun (mc ⟨(hds_12 d).nH,nofun⟩)
theorem tk_12 (d:D):HOk Try.prog 78 (hTk12 tlR d):=by
 refine .of_run (hc:=(tvq12 d tlR).hc) Try.func78 rfl (by kernel_rfl) (by kernel_rfl) fun las lbs v lbs' ps hs hp w=>?_
 unfold hTk12 at hs
 split at hs
 ·rename_i a v0 v1 v2 v3 v4 s5 v5 s6 v6 v7 v8 v9 v10 s14 v14 s15 v15 v17 v18 s p e
  split at hs
  rotate_left
  ·cases hs
  rename_i hsh
  simp only[bat]at hsh
  obtain⟨h5,h6,h14,h15⟩:=hsh
  obtain rfl:=shEq_eq h5
  obtain rfl:=shEq_eq h6
  obtain rfl:=shEq_eq h14
  obtain rfl:=shEq_eq h15
  clear h5 h6 h14 h15
  cases hs
  have ht:tlR.tld 12 d s p e:=hp (tlR.tld 12 d s p e) mcs
  obtain rfl:v0=12:=hp (v0=12) (mcm _ mcs)
  clear hp
  refine rx (tvq12_ok d) 999 false 400 [false,false,false,false,false,false,false,false,true] ?_ ?_
  ·simp only[conj,z0,z2,arR,z1]
   (repeat' with_reducible apply And.intro)<;>first|omega|exact ht|rfl|exact trivial
  exact Run.fin ti_ok rfl rfl (HEnd.pack [0,1,2] rfl rfl rfl rfl)
 ·cases hs
noncomputable def tvq16 (d:D) (lf:TLd):Tbl:=tbL [] [(118,nH (hTk16 lf d))]
theorem tvq16_ok (d:D):TblOk Try.prog (tvq16 d tlR):=tbL_ok nofun (mc ⟨(com_16 d).nH,nofun⟩)
theorem tk_16 (d:D):HOk Try.prog 78 (hTk16 tlR d):=by
 refine .of_run (hc:=(tvq16 d tlR).hc) Try.func78 rfl (by kernel_rfl) (by kernel_rfl) fun las lbs v lbs' ps hs hp w=>?_
 unfold hTk16 at hs
 split at hs
 ·rename_i a v0 v1 v2 v3 v4 s5 v5 s6 v6 v7 v8 v9 v10 s14 v14 s15 v15 v17 v18 s p e
  split at hs
  rotate_left
  ·cases hs
  rename_i hsh
  simp only[bat]at hsh
  obtain⟨h5,h6,h14,h15⟩:=hsh
  obtain rfl:=shEq_eq h5
  obtain rfl:=shEq_eq h6
  obtain rfl:=shEq_eq h14
  obtain rfl:=shEq_eq h15
  clear h5 h6 h14 h15
  cases hs
  have ht:tlR.tld 16 d s p e:=hp (tlR.tld 16 d s p e) mcs
  obtain rfl:v0=16:=hp (v0=16) (mcm _ mcs)
  clear hp
  refine rx (tvq16_ok d) 999 false 400 [false,false,false,false,false,false,false,false,false,false,false,false,true] ?_ ?_
  ·simp only[conj,z0,z2,arR,z1]
   (repeat' with_reducible apply And.intro)<;>first|omega|exact ht|rfl|exact trivial
  exact Run.fin ti_ok rfl rfl (HEnd.pack [0,1,2] rfl rfl rfl rfl)
 ·cases hs
noncomputable def hTk0 (lf:TLd):HSpec:=fun l bs=>match l,bs with
 | [.one (.ptr 0 (.lit 0)),.one (.ptr 1 (.lit 0))],[⟨false,.lst [.ptr 2 (.lit 0),.int .i64 a]⟩,⟨false,.prt [.c (.int .i64 v0),.c (.int .u32 v1),.c (.int .u64 v2),.c (.int .u64 v3),.c (.int .i64 v4),.v s5 v5,.v s6 v6,.c (.str v7),.c (.int .u32 v8),.c (.bool v9),.c (.bool v10),.c .nsl,.c .nsl,.c .nsl,.v s14 v14,.v s15 v15,.c .nsl,.c (.str v17),.c (.str v18),.c .nsl,.c .nsl,.c .nsl,.c .nsl]⟩,⟨false,.lst [.str s,.int .i64 p,.int .i64 e]⟩]=>if shEq s5 NS&&(shEq s6 NS&&(shEq s14 (.arr .u8 32)&&shEq s15 (.arr .u8 32)))then some (.tup [],[⟨false,.lst [.ptr 2 (.lit 0),.int .i64 a]⟩,⟨false,.prt [.c (.int .i64 v0),.c (.int .u32 v1),.c (.int .u64 v2),.c (.int .u64 v3),.c (.int .i64 v4),.v s5 v5,.v s6 v6,.c (.str v7),.c (.int .u32 v8),.c (.bool v9),.c (.bool v10),.c .nsl,.c .nsl,.c .nsl,.v s14 v14,.v s15 v15,.c .nsl,.c (.str v17),.c (.str v18),.c .nsl,.c .nsl,.c .nsl,.c .nsl]⟩,⟨false,.lst [.str s,.int .i64 p,.int .i64 e]⟩],[v0=2∨v0=3∨v0=4])else none
 |_,_=>none
theorem tk_0:HOk Try.prog 78 (hTk0 tlR):=by
 refine .of_run (hc:=(tve0 tlR).hc) Try.func78 rfl (by kernel_rfl) (by kernel_rfl) fun las lbs v lbs' ps hs hp w=>?_
 unfold hTk0 at hs
 split at hs
 ·rename_i a v0 v1 v2 v3 v4 s5 v5 s6 v6 v7 v8 v9 v10 s14 v14 s15 v15 v17 v18 s p e
  split at hs
  rotate_left
  ·cases hs
  rename_i hsh
  simp only[bat]at hsh
  obtain⟨h5,h6,h14,h15⟩:=hsh
  obtain rfl:=shEq_eq h5
  obtain rfl:=shEq_eq h6
  obtain rfl:=shEq_eq h14
  obtain rfl:=shEq_eq h15
  clear h5 h6 h14 h15
  cases hs
  have hv:v0=2∨v0=3∨v0=4:=hp (v0=2∨v0=3∨v0=4) mcs
  clear hp
  refine rx tve0_ok 999 false 400 [false,false,false,false,false,false,false,false,false,false,false,false,false,false,false] ?_ ?_
  ·simp only[conj,z0,z2,arR,z1]
   (repeat' with_reducible apply And.intro)<;>first|omega|exact trivial
  exact Run.fin ti_ok rfl rfl (HEnd.pack [0,1,2] rfl rfl rfl rfl)
 ·cases hs
noncomputable def sDecG (d:D) (K:Int):ESpec:=fun l=>match l with
 | [.one (.int .i64 k),.one (.str s)]=>some (.tup [.agg (.prt [.v MS (tdR.nd d)]),.one (.int .i64 0),.one (.int .i64 0)],[tldD k d s,k=K])
 |_=>none
end Go.Proofs.Ytlbllaocdilafaa
