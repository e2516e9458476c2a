import Derived.Test.YtlbllaocdilafaaZ40
set_option linter.unusedSimpArgs false
set_option linter.unusedVariables false
set_option maxRecDepth 100000
set_option maxHeartbeats 16000000
namespace Go.Eng
open Go
theorem AtB.cnt {s:ByteArray}{p n m:Int}{b:ByteArray}(h:AtB s p (cntB n++b)) (h0:0≤n) (hm:n≤m) (h1:m≤140737488355328):tlR.r.cAt s p 0∧tlR.r.le (tlR.r.cN s p) m∧cntN s p=n∧AtB s (p+cntL n) b:=by
 have hn:0≤n∧n<18446744073709551616:=⟨h0,by omega⟩
 have hc:=(cnt_told hn h.left).1
 refine⟨⟨rfl,n,hn,h.left⟩,?_,hc,h.nx (cntB_size n)⟩
 have h5:cntN s p≤m:=by rw[hc];exact hm
 exact h5
theorem zz8 {n:Int}(h0:0≤n) (h1:n<281474976710656):layB n 6++⟨#[0,0]⟩=layB n 8:=by
 rw[layB_succ n 7,layB_succ n 6]
 have e1:n.toNat / 256 ^ 6 % 256=0:=by
  have:(256:Nat) ^ 6=281474976710656:=by decide
  rw[this];omega
 have e2:n.toNat / 256 ^ 7 % 256=0:=by
  have:(256:Nat) ^ 7=72057594037927936:=by decide
  rw[this];omega
 rw[e1,e2,baa]
 rfl
theorem cut_all (b:ByteArray) (n:Int) (h:(b.size:Int)=n):cutB b 0 n=b:=by
 unfold cutB
 rw[show(0+n).toNat=b.size by omega]
 apply ByteArray.ext
 rw[ByteArray.data_extract]
 show b.data.extract 0 b.data.size=b.data
 exact Array.extract_size
theorem short_back {s:ByteArray}{p n:Int}(h:AtB s p (layB n 6)) (h0:0≤n) (h1:n<281474976710656):((leV (cutB (cutB s p 6++⟨#[0,0]⟩) 0 8).data.toList:Nat):Int)=n∧roomP (cutB s p 6++⟨#[0,0]⟩) 0 8:=by
 have e:=h.2
 rw[layB_size]at e
 have e:cutB s p 6=layB n 6:=e
 have h256:(256:Nat) ^ 8=18446744073709551616:=by decide
 have hl:n.toNat<256 ^ 8:=by omega
 rw[e,zz8 h0 h1,cut_all _ 8 (by rw[layB_size];rfl),leV_lay h0 hl]
 exact⟨rfl,by decide,by decide,by rw[layB_size];decide,by rw[layB_size];decide⟩
theorem p26 (p:Int):p+26=p+8+16+2:=by omega
theorem net_told5 {s:ByteArray}{p a b d:Int}{c:List Int}(hd:okD NS (.pair (.int a) (.pair (.int b) (.pair (.row c) (.int d))))) (h:AtB s p (netB (.pair (.int a) (.pair (.int b) (.pair (.row c) (.int d)))))):netDec s p=.pair (.int 0) (.pair (.int b) (.pair (.row c) (.int d))):=by
 obtain⟨t,s',ip,pt,e,-,hn⟩:=net_told hd h
 cases e
 exact hn
end Go.Eng
namespace Go.Proofs.Ytlbllaocdilafaa
open Go Go.Eng Go.Proofs Go.RowKit
attribute[local irreducible] CallOk HOk Run TIok rbin rcmp run1 updF shfF blitF
theorem tk_7 (d:D):HOk Try.prog 78 (hTk7 tlR d):=by
 refine .of_run (hc:=(tve0 tlR).hc) Try.func78 rfl (by kernel_rfl) (by kernel_rfl) fun las lbs v lbs' ps hs hp w=>?_
 unfold hTk7 at hs
 split at hs
 ·rename_i a v0 v1 v2 v3 v4 s5 v5 s6 v6 v7 v8 v9 v10 s14 v14 s15 v15 v17 v18 s p e
  split at hs
  rotate_left
  ·cases hs
  rename_i hsh
  simp only[bat]at hsh
  obtain⟨h5,h6,h14,h15⟩:=hsh
  obtain rfl:=shEq_eq h5
  obtain rfl:=shEq_eq h6
  obtain rfl:=shEq_eq h14
  obtain rfl:=shEq_eq h15
  clear h5 h6 h14 h15
  cases hs
  obtain⟨rfl,rfl,m,rfl,hk,hok,⟨z11,z12,z13,z16,z19,z20,z21,z22⟩,hmany,hwr,hA,hsz,h16⟩:tld 7 d s p e:=hp (tlR.tld 7 d s p e) mcs
  obtain rfl:v0=7:=hp (v0=7) (mcm _ mcs)
  clear hp
  rw[aEof]
  obtain⟨a0,a1,a2,a3,a4,⟨a5t,a5s,a5i,a5p⟩,⟨a6t,a6s,a6i,a6p⟩,a7,a8,a9,a10,a11,a12,a13,a14,a15,a16,a17,a18,a19,a20,a21,a22⟩:=m
  obtain⟨r0,r1,r2,r3,r4,r5,r6,r7,r8,r9,r10,r11,r12,r13,r14,r15,r16,r17,r18,r19,r20,r21,r22⟩:=hok
  simp only at hk z11 z12 z13 z16 z19 z20 z21 z22
  subst hk
  have hF:=fx a1 a2 a3 a4 a8 a5t a5s a5p a6t a6s a6p a5i a6i a11 a12 a13 a16 a19 a20 a21 a22 r1 r2 r3 r8 r11 r12 r13 r16 r19 r20 r21 r22 r5 r6
  clear r11 r12 r13 r16 r19 r20 r21 r22
  obtain⟨R1,R2,R3,R8,R4,r11,r12,r13,r16,r19,r20,r21,r22,N5,N6⟩:=hF
  have R4i:-9223372036854775808≤a4∧a4<9223372036854775808:=rgi64 r4
  have e:payM ⟨7,a1,a2,a3,a4,⟨a5t,a5s,a5i,a5p⟩,⟨a6t,a6s,a6i,a6p⟩,a7,a8,a9,a10,a11,a12,a13,a14,a15,a16,a17,a18,a19,a20,a21,a22⟩=cntB a11.length++catN (elNet a11) a11.length:=rfl
  rw[e]at hA hsz
  have hAt:=hA
  have hle:¬((a11.length:Int)>100):=fun hh=>hmany (by unfold manyP;rw[nm_7_addrs _ rfl];exact Or.inr (Or.inr (Or.inr (Or.inl hh))))
  obtain⟨hc1,hc2,hc3,hAL⟩:=AtB.cnt (n:=(a11.length:Int)) (m:=100) hAt (by omega) (by omega) (by decide)
  have hq0:tlR.r.cv (tlR.r.cN s (0))=(a11.length:Int)-0:=by
   rw[show tlR.r.cN s (0)=(a11.length:Int)from hc3,show tlR.r.cv (a11.length:Int)=(a11.length:Int)from cv_small (by omega) (by omega)];omega
  have hq1:(0:Int)=0:=rfl
  have hq2:tlR.r.add (0) (tlR.r.cntL (tlR.r.cN s (0)))=(0)+cntL a11.length+((catN (elNet a11) 0).size:Nat):=by
   rw[show tlR.r.cN s (0)=(a11.length:Int)from hc3]
   show(0)+cntL a11.length=(0)+cntL a11.length+((0:Nat):Int)
   omega
  clear r0 r1 r2 r3 r4 r5 r6 r7 r8 r9 r10 r14 r15 r17 r18 R1 R2 R3 R4 R4i R8 N5 N6 hmany hwr
  refine ra tve0_ok 0 false 400 [false,false,false,true] [0,1,4] [] ?_ ?_
  ·simp only[conj,z0,z2,arR,z1,zd]
   (repeat' with_reducible apply And.intro)<;>first
     |omega
     |exact hc1
     |exact hc2
     |rfl
     |exact trivial
  refine Run.roomAtP 1 11 (.two (.int .u32) (.two (.int .u64) (.two (.arr .u8 16) (.int .u16)))) rfl rfl (Nat.le_of_ble_eq_true rfl) ?_
  refine Run.loop (ι:={q:Int×Int×Int×Int×List D // (0≤q.1∧q.1≤a11.length)∧q.2.1=a11.length-q.1∧q.2.2.1=lastA (0+cntL a11.length) (elNet a11) (fun _=>28) (0) q.1.toNat∧q.2.2.2.1=0+cntL a11.length+(catN (elNet a11) q.1.toNat).size∧q.2.2.2.2=a11.take q.1.toNat})
   (fun i=>([.a (.one (.ptr 0 (.lit 0))),.a (.one (.ptr 1 (.lit 0))),.z,.z,.a (.one (.int .i64 i.1.2.1)),.z,.z,.z,.z,.z,.z,.z,.z,.z,.z,.z,.z,.z,.z,.z,.z,.z,.z,.z,.z,.z,.z,.z,.z,.z,.z,.z,.z,.z,.z,.z,.z,.z,.z,.z,.z,.z,.z,.z,.z,.z,.z,.z,.z,.z,.z,.z,.z,.z,.z,.z,.z,.z,.z,.z,.z,.z,.z,.z,.z,.z,.z,.z,.z,.z,.z,.z,.z,.z,.z,.z,.z,.z,.z,.z,.z,.z,.z,.z,.z,.z,.z,.z,.z,.z,.z,.z,.z,.z,.z,.z,.z,.z,.z,.z,.z,.z,.z,.z,.z,.z,.z,.z,.z,.z,.z,.z,.z,.z,.z,.z,.z,.z,.z,.z,.z,.z,.z,.z,.z,.z,.z,.z,.z,.z,.z,.z,.z,.z,.z,.z,.z,.z,.z,.z,.z,.z,.z,.z,.z,.z,.z,.z,.z,.z,.z,.z,.z,.z,.z,.z,.z,.z,.z,.z,.z,.z,.z,.z,.z,.z,.z,.z,.z,.z,.z,.z,.z,.z,.z,.z,.z,.z,.z,.z,.z,.z,.z,.z,.z,.z,.z,.z,.z,.z,.z,.z,.z,.z,.z,.z,.z,.z,.z,.z,.z,.z,.z,.z,.z,.z,.z,.z,.z,.z,.z,.z,.z],[some ⟨false,.lst [.ptr 2 (.lit 0),.int .i64 i.1.2.2.1]⟩,some ⟨false,.prt [.c (.int .i64 7),.c (.int .u32 v1),.c (.int .u64 v2),.c (.int .u64 v3),.c (.int .i64 v4),.v NS v5,.v NS v6,.c (.str v7),.c (.int .u32 v8),.c (.bool v9),.c (.bool v10),.c (.dat (.two (.int .u32) (.two (.int .u64) (.two (.arr .u8 16) (.int .u16)))) i.1.2.2.2.2 (some 3)),.c .nsl,.c .nsl,.v (.arr .u8 32) v14,.v (.arr .u8 32) v15,.c .nsl,.c (.str v17),.c (.str v18),.c .nsl,.c .nsl,.c .nsl,.c .nsl]⟩,some ⟨false,.lst [.str s,.int .i64 i.1.2.2.2.1,.int .i64 0]⟩,some ⟨false,.tail⟩]))
   (fun i=>(a11.length-i.1.1).toNat) ⟨(0,_,_,_,[]),by simp only;omega,hq0,hq1,hq2,rfl⟩ ?_
  rintro⟨⟨i,rem,a,p,xs⟩,hp,hrem,ha,hps,hxs⟩ ih
  try simp only at hp hrem ha hps hxs
  by_cases hlt:i<a11.length
  ·have e1:rbin .sub .i64 rem 1=a11.length-(i+1):=by rw[hrem,subi (by omega) (by omega)];omega
   have hpn:i.toNat<a11.length:=by omega
   have hAi:=catN_at hAL i.toNat hpn
   rw[←hps]at hAi
   have hxl:xs.length=i.toNat:=by rw[hxs,List.length_take];omega
   have hML:maxLen=9223372036854775807:=by decide
   have hsn:=take_snoc (l:=a11) hp.1 hlt
   rw[←hxs]at hsn
   have hin:(i+1).toNat=i.toNat+1:=by omega
   have hpN:p+(elNet a11 i.toNat).size=0+cntL a11.length+(catN (elNet a11) (i+1).toNat).size:=by
    rw[hin,catN_succ,bsa,hps];omega
   have hxd:=r11.2 _ (mem_at hlt hp.1)
   have hAi:AtB s p (layB (a11.getD i.toNat (.int 0)).fst!.int! 4++netB (a11.getD i.toNat (.int 0))):=hAi
   have hpN:p+(layB (a11.getD i.toNat (.int 0)).fst!.int! 4++netB (a11.getD i.toNat (.int 0))).size=0+cntL a11.length+(catN (elNet a11) (i+1).toNat).size:=hpN
   rw[bsa,layB_size,netB_size]at hpN
   generalize a11.getD i.toNat (.int 0)=x at hxd hAi hsn
   have hx3:=(okD_NS hxd).2
   have E1:=hAi.left.u32 hx3
   have hAj:=hAi.nx (n:=4) (lay_sizeI x.fst!.int! 4)
   have h4:tlR.r.room s p 4 0:=⟨rfl,hAi.left.room (lay_sizeI x.fst!.int! 4)⟩
   have h26:tlR.r.room s (tlR.r.add p 4) 26 0:=⟨rfl,hAj.room (net_sizeI x)⟩
   obtain⟨xt,xs',xi,xp,rfl,hxi,E2⟩:=net_told hxd hAj
   have he0:tlR.r.e0 0:=rfl
   have hgt:rem>0:=by omega
   have hrow:=row_mk hxi
   refine ra tve0_ok 2 true 400 [true,true] [0,1,4] [4] ?_ ?_
   ·simp only[conj,z0,z2,arR,z1,zd,hxl]
    (repeat' with_reducible apply And.intro)<;>first
      |omega
      |exact h4
      |exact h26
      |exact he0
      |rfl
      |exact trivial
   ·refine ih ⟨(_,_,_,_,_),(⟨by omega,by omega⟩:0≤i+1∧i+1≤a11.length),e1,?_,?_,?_⟩ ?_ _ _
    ·rw[hin]
     show p+4+8+16=_
     unfold lastA
     simp only
     omega
    ·show p+4+8+16+2=0+cntL a11.length+((catN (elNet a11) (i+1).toNat).size:Int)
     omega
    ·show xs++[D.pair (.int ((leV (cutB s p 4).data.toList:Nat):Int)) (nrmD (.two (.int .u64) (.two (.arr .u8 16) (.int .u16))) (dS arR (netDec s (p+4))))]=a11.take (i+1).toNat
     rw[hsn,E1,E2]
     show xs++[D.pair (.int xt) (.pair (.int xs') (.pair (.row ((List.range 16).map fun j=>xi.getD j 0)) (.int xp)))]=_
     rw[hrow]
    ·show((a11.length:Int)-(i+1)).toNat<((a11.length:Int)-i).toNat
     omega
  ·have hie:i.toNat=a11.length:=by omega
   rw[hie]at ha hps hxs
   rw[List.take_of_length_le (Nat.le_refl _)]at hxs
   clear ih
   refine rx tve0_ok 999 false 400 [false] ?_ ?_
   ·simp only[conj,z0,z2,arR,z1,zd]
    (repeat' with_reducible apply And.intro)<;>first
      |omega
      |rfl
      |exact trivial
   refine Run.fin ti_ok rfl rfl (HEnd.pack [0,1,2] rfl rfl (pk3 ?_ ?_ ?_) rfl)
   ·exact ha
   ·rw[hxs];rfl
   ·show p=s.size
    rw[hsz,bsa,hps]
    have:=cntB_size (a11.length:Int)
    omega
 ·cases hs
theorem tk_18 (d:D):HOk Try.prog 78 (hTk18 tlR d):=by
 refine .of_run (hc:=(tve0 tlR).hc) Try.func78 rfl (by kernel_rfl) (by kernel_rfl) fun las lbs v lbs' ps hs hp w=>?_
 unfold hTk18 at hs
 split at hs
 ·rename_i a v0 v1 v2 v3 v4 s5 v5 s6 v6 v7 v8 v9 v10 s14 v14 s15 v15 v17 v18 s p e
  split at hs
  rotate_left
  ·cases hs
  rename_i hsh
  simp only[bat]at hsh
  obtain⟨h5,h6,h14,h15⟩:=hsh
  obtain rfl:=shEq_eq h5
  obtain rfl:=shEq_eq h6
  obtain rfl:=shEq_eq h14
  obtain rfl:=shEq_eq h15
  clear h5 h6 h14 h15
  cases hs
  obtain⟨rfl,rfl,m,rfl,hk,hok,⟨z11,z12,z13,z16,z19,z20,z21,z22⟩,hmany,hwr,hA,hsz,h16⟩:tld 18 d s p e:=hp (tlR.tld 18 d s p e) mcs
  obtain rfl:v0=18:=hp (v0=18) (mcm _ mcs)
  clear hp
  rw[aEof]
  obtain⟨a0,a1,a2,a3,a4,⟨a5t,a5s,a5i,a5p⟩,⟨a6t,a6s,a6i,a6p⟩,a7,a8,a9,a10,a11,a12,a13,a14,a15,a16,a17,a18,a19,a20,a21,a22⟩:=m
  obtain⟨r0,r1,r2,r3,r4,r5,r6,r7,r8,r9,r10,r11,r12,r13,r14,r15,r16,r17,r18,r19,r20,r21,r22⟩:=hok
  simp only at hk z11 z12 z13 z16 z19 z20 z21 z22
  subst hk
  have hF:=fx a1 a2 a3 a4 a8 a5t a5s a5p a6t a6s a6p a5i a6i a11 a12 a13 a16 a19 a20 a21 a22 r1 r2 r3 r8 r11 r12 r13 r16 r19 r20 r21 r22 r5 r6
  clear r11 r12 r13 r16 r19 r20 r21 r22
  obtain⟨R1,R2,R3,R8,R4,r11,r12,r13,r16,r19,r20,r21,r22,N5,N6⟩:=hF
  have R4i:-9223372036854775808≤a4∧a4<9223372036854775808:=rgi64 r4
  have e:payM ⟨18,a1,a2,a3,a4,⟨a5t,a5s,a5i,a5p⟩,⟨a6t,a6s,a6i,a6p⟩,a7,a8,a9,a10,a11,a12,a13,a14,a15,a16,a17,a18,a19,a20,a21,a22⟩=rowB a15 32++(cntB a22.length++catN (elRaw a22) a22.length):=rfl
  rw[e]at hA hsz
  have hl15:=r15.1
  have EH:(List.range 32).map (hashOf (cutB s 0 32))=a15:=hA.left.row r15.1 r15.2
  have h32a:tlR.r.room s 0 32 0:=⟨rfl,hA.left.room (row_sizeI a15 32)⟩
  have hAt:=hA.nx (n:=32) (row_sizeI a15 32)
  have hle:¬((a22.length:Int)>500):=fun hh=>hmany (by unfold manyP;rw[nm_18_raws _ rfl];exact Or.inr (Or.inr (Or.inr (Or.inr (Or.inr (Or.inr (Or.inr (Or.inr (Or.inr (Or.inr (hh)))))))))))
  obtain⟨hc1,hc2,hc3,hAL⟩:=AtB.cnt (n:=(a22.length:Int)) (m:=500) hAt (by omega) (by omega) (by decide)
  have hq0:tlR.r.cv (tlR.r.cN s (0+32))=(a22.length:Int)-0:=by
   rw[show tlR.r.cN s (0+32)=(a22.length:Int)from hc3,show tlR.r.cv (a22.length:Int)=(a22.length:Int)from cv_small (by omega) (by omega)];omega
  have hq1:(0+32:Int)=0+32:=rfl
  have hq2:tlR.r.add (0+32) (tlR.r.cntL (tlR.r.cN s (0+32)))=(0+32)+cntL a22.length+((catN (elRaw a22) 0).size:Nat):=by
   rw[show tlR.r.cN s (0+32)=(a22.length:Int)from hc3]
   show(0+32)+cntL a22.length=(0+32)+cntL a22.length+((0:Nat):Int)
   omega
  have hrw:∀d∈a22,¬strS d>4096:=fun d hd hh=>hmany (by unfold manyP;rw[nm_18_raws _ rfl];exact Or.inr (Or.inl ⟨d,hd,hh⟩))
  clear r0 r1 r2 r3 r4 r5 r6 r7 r8 r9 r10 r14 r15 r17 r18 R1 R2 R3 R4 R4i R8 N5 N6 hmany hwr
  refine ra tve0_ok 0 false 400 [false,false,false,false,false,false,false,false,false,false,false,false,false,false,true] [0,1,12] [] ?_ ?_
  ·simp only[conj,z0,z2,arR,z1,zd]
   (repeat' with_reducible apply And.intro)<;>first
     |omega
     |exact hc1
     |exact hc2
     |exact h32a
     |rfl
     |exact trivial
  refine Run.fam3 (ι:={x:List Int×Int // x=(a15,(a22.length:Int)-0)}) (fun i=>([.a (.one (.ptr 0 (.lit 0))),.a (.one (.ptr 1 (.lit 0))),.z,.z,.z,.z,.z,.z,.z,.z,.z,.z,.a (.one (.int .i64 i.1.2)),.z,.z,.z,.z,.z,.z,.z,.z,.z,.z,.z,.z,.z,.z,.z,.z,.z,.z,.z,.z,.z,.z,.z,.z,.z,.z,.z,.z,.z,.z,.z,.z,.z,.z,.z,.z,.z,.z,.z,.z,.z,.z,.z,.z,.z,.z,.z,.z,.z,.z,.z,.z,.z,.z,.z,.z,.z,.z,.z,.z,.z,.z,.z,.z,.z,.z,.z,.z,.z,.z,.z,.z,.z,.z,.z,.z,.z,.z,.z,.z,.z,.z,.z,.z,.z,.z,.z,.z,.z,.z,.z,.z,.z,.z,.z,.z,.z,.z,.z,.z,.z,.z,.z,.z,.z,.z,.z,.z,.z,.z,.z,.z,.z,.z,.z,.z,.z,.z,.z,.z,.z,.z,.z,.z,.z,.z,.z,.z,.z,.z,.z,.z,.z,.z,.z,.z,.z,.z,.z,.z,.z,.z,.z,.z,.z,.z,.z,.z,.z,.z,.z,.z,.z,.z,.z,.z,.z,.z,.z,.z,.z,.z,.z,.z,.z,.z,.z,.z,.z,.z,.z,.z,.z,.z,.z,.z,.z,.z,.z,.z,.z,.z,.z,.z,.z,.z,.z,.z,.z,.z,.z,.z,.z,.z,.z,.z,.z,.z,.z,.z],[some ⟨false,.lst [.ptr 2 (.lit 0),.int .i64 (0+32)]⟩,some ⟨false,.prt [.c (.int .i64 18),.c (.int .u32 v1),.c (.int .u64 v2),.c (.int .u64 v3),.c (.int .i64 v4),.v NS v5,.v NS v6,.c (.str v7),.c (.int .u32 v8),.c (.bool v9),.c (.bool v10),.c .nsl,.c .nsl,.c .nsl,.v (.arr .u8 32) v14,.v (.arr .u8 32) (.row i.1.1),.c .nsl,.c (.str v17),.c (.str v18),.c .nsl,.c .nsl,.c .nsl,.c .nsl]⟩,some ⟨false,.lst [.str s,.int .i64 (tlR.r.add (0+32) (tlR.r.cntL (tlR.r.cN s (0+32)))),.int .i64 0]⟩])) ⟨((List.range 32).map (hashOf (cutB s 0 32)),tlR.r.cv (tlR.r.cN s (0+32))),by rw[EH,hq0]⟩ ?_
  rintro⟨⟨_,_⟩,hh⟩
  cases hh
  refine Run.roomAtP 1 22 (.str) rfl rfl (Nat.le_of_ble_eq_true rfl) ?_
  refine Run.loop (ι:={q:Int×Int×Int×Int×List D // (0≤q.1∧q.1≤a22.length)∧q.2.1=a22.length-q.1∧q.2.2.1=lastA (0+32+cntL a22.length) (elRaw a22) (fun i=>cntL (a22.getD i (.int 0)).str!.size) (0+32) q.1.toNat∧q.2.2.2.1=0+32+cntL a22.length+(catN (elRaw a22) q.1.toNat).size∧q.2.2.2.2=a22.take q.1.toNat})
   (fun i=>([.a (.one (.ptr 0 (.lit 0))),.a (.one (.ptr 1 (.lit 0))),.z,.z,.z,.z,.z,.z,.z,.z,.z,.z,.a (.one (.int .i64 i.1.2.1)),.z,.z,.z,.z,.z,.z,.z,.z,.z,.z,.z,.z,.z,.z,.z,.z,.z,.z,.z,.z,.z,.z,.z,.z,.z,.z,.z,.z,.z,.z,.z,.z,.z,.z,.z,.z,.z,.z,.z,.z,.z,.z,.z,.z,.z,.z,.z,.z,.z,.z,.z,.z,.z,.z,.z,.z,.z,.z,.z,.z,.z,.z,.z,.z,.z,.z,.z,.z,.z,.z,.z,.z,.z,.z,.z,.z,.z,.z,.z,.z,.z,.z,.z,.z,.z,.z,.z,.z,.z,.z,.z,.z,.z,.z,.z,.z,.z,.z,.z,.z,.z,.z,.z,.z,.z,.z,.z,.z,.z,.z,.z,.z,.z,.z,.z,.z,.z,.z,.z,.z,.z,.z,.z,.z,.z,.z,.z,.z,.z,.z,.z,.z,.z,.z,.z,.z,.z,.z,.z,.z,.z,.z,.z,.z,.z,.z,.z,.z,.z,.z,.z,.z,.z,.z,.z,.z,.z,.z,.z,.z,.z,.z,.z,.z,.z,.z,.z,.z,.z,.z,.z,.z,.z,.z,.z,.z,.z,.z,.z,.z,.z,.z,.z,.z,.z,.z,.z,.z,.z,.z,.z,.z,.z,.z,.z,.z,.z,.z,.z,.z],[some ⟨false,.lst [.ptr 2 (.lit 0),.int .i64 i.1.2.2.1]⟩,some ⟨false,.prt [.c (.int .i64 18),.c (.int .u32 v1),.c (.int .u64 v2),.c (.int .u64 v3),.c (.int .i64 v4),.v NS v5,.v NS v6,.c (.str v7),.c (.int .u32 v8),.c (.bool v9),.c (.bool v10),.c .nsl,.c .nsl,.c .nsl,.v (.arr .u8 32) v14,.v (.arr .u8 32) (.row a15),.c .nsl,.c (.str v17),.c (.str v18),.c .nsl,.c .nsl,.c .nsl,.c (.dat (.str) i.1.2.2.2.2 (some 3))]⟩,some ⟨false,.lst [.str s,.int .i64 i.1.2.2.2.1,.int .i64 0]⟩,some ⟨false,.tail⟩]))
   (fun i=>(a22.length-i.1.1).toNat) ⟨(0,_,_,_,[]),by simp only;omega,(rfl:(a22.length:Int)-0=a22.length-0),hq1,hq2,rfl⟩ ?_
  rintro⟨⟨i,rem,a,p,xs⟩,hp,hrem,ha,hps,hxs⟩ ih
  try simp only at hp hrem ha hps hxs
  by_cases hlt:i<a22.length
  ·have e1:rbin .sub .i64 rem 1=a22.length-(i+1):=by rw[hrem,subi (by omega) (by omega)];omega
   have hpn:i.toNat<a22.length:=by omega
   have hAi:=catN_at hAL i.toNat hpn
   rw[←hps]at hAi
   have hxl:xs.length=i.toNat:=by rw[hxs,List.length_take];omega
   have hML:maxLen=9223372036854775807:=by decide
   have hsn:=take_snoc (l:=a22) hp.1 hlt
   rw[←hxs]at hsn
   have hin:(i+1).toNat=i.toNat+1:=by omega
   have hpN:p+(elRaw a22 i.toNat).size=0+32+cntL a22.length+(catN (elRaw a22) (i+1).toNat).size:=by
    rw[hin,catN_succ,bsa,hps];omega
   have hAi:AtB s p (cntB (a22.getD i.toNat (.int 0)).str!.size++(a22.getD i.toNat (.int 0)).str!):=hAi
   have hpN:p+(cntB (a22.getD i.toNat (.int 0)).str!.size++(a22.getD i.toNat (.int 0)).str!).size=0+32+cntL a22.length+(catN (elRaw a22) (i+1).toNat).size:=hpN
   have hxm:(a22.getD i.toNat (.int 0)).str!.size≤4096:=by
    have:=hrw _ (mem_at hlt hp.1)
    unfold strS at this
    omega
   have hxd:=r22.2 _ (mem_at hlt hp.1)
   generalize hxe:a22.getD i.toNat (.int 0)=x at hxd hAi hsn hxm hpN
   obtain⟨xb,rfl⟩:=okD_str hxd
   have hAi:AtB s p (cntB xb.size++xb):=hAi
   have hxm:xb.size≤4096:=hxm
   have hpN:p+(cntB xb.size++xb).size=0+32+cntL a22.length+(catN (elRaw a22) (i+1).toNat).size:=hpN
   obtain⟨hd1,hd2,hd3,hAx⟩:=AtB.cnt (n:=(xb.size:Int)) (m:=4096) hAi (by omega) (by omega) (by decide)
   have hbs:=cntB_size (xb.size:Int)
   rw[bsa]at hpN
   have hd4:tlR.r.room s (tlR.r.add p (tlR.r.cntL (tlR.r.cN s p))) (tlR.r.cN s p) 0:=by
    rw[show tlR.r.cN s p=(xb.size:Int)from hd3]
    exact⟨rfl,hAx.room rfl⟩
   have E1:cutB s (p+cntL (cntN s p)) (cntN s p)=xb:=by rw[hd3];exact hAx.text
   have he0:tlR.r.e0 0:=rfl
   have hgt:rem>0:=by omega
   refine ra tve0_ok 2 true 400 [true,true] [0,1,12] [12] ?_ ?_
   ·simp only[conj,z0,z2,arR,z1,zd,hxl]
    (repeat' with_reducible apply And.intro)<;>first
      |omega
      |exact hd1
      |exact hd2
      |exact hd4
      |exact he0
      |rfl
      |exact trivial
   ·refine ih ⟨(_,_,_,_,_),(⟨by omega,by omega⟩:0≤i+1∧i+1≤a22.length),e1,?_,?_,?_⟩ ?_ _ _
    ·rw[hin]
     show p+cntL (cntN s p)=_
     rw[hd3]
     unfold lastA
     simp only[hxe,D.str!]
     omega
    ·show p+cntL (cntN s p)+cntN s p=0+32+cntL a22.length+((catN (elRaw a22) (i+1).toNat).size:Int)
     rw[hd3]
     omega
    ·show xs++[D.str (cutB s (p+cntL (cntN s p)) (cntN s p))]=a22.take (i+1).toNat
     rw[hsn,E1]
    ·show((a22.length:Int)-(i+1)).toNat<((a22.length:Int)-i).toNat
     omega
  ·have hie:i.toNat=a22.length:=by omega
   rw[hie]at ha hps hxs
   rw[List.take_of_length_le (Nat.le_refl _)]at hxs
   clear ih
   refine rx tve0_ok 999 false 400 [false] ?_ ?_
   ·simp only[conj,z0,z2,arR,z1,zd]
    (repeat' with_reducible apply And.intro)<;>first
      |omega
      |rfl
      |exact trivial
   refine Run.fin ti_ok rfl rfl (HEnd.pack [0,1,2] rfl rfl (pk3 ?_ ?_ ?_) rfl)
   ·exact ha
   ·rw[hxs];rfl
   ·show p=s.size
    rw[hsz,bsa,bsa,rowB_size,hps]
    have:=cntB_size (a22.length:Int)
    omega
 ·cases hs
theorem tk_8 (d:D):HOk Try.prog 78 (hTk8 tlR d):=by
 refine .of_run (hc:=(tve0 tlR).hc) Try.func78 rfl (by kernel_rfl) (by kernel_rfl) fun las lbs v lbs' ps hs hp w=>?_
 unfold hTk8 at hs
 split at hs
 ·rename_i a v0 v1 v2 v3 v4 s5 v5 s6 v6 v7 v8 v9 v10 s14 v14 s15 v15 v17 v18 s p e
  split at hs
  rotate_left
  ·cases hs
  rename_i hsh
  simp only[bat]at hsh
  obtain⟨h5,h6,h14,h15⟩:=hsh
  obtain rfl:=shEq_eq h5
  obtain rfl:=shEq_eq h6
  obtain rfl:=shEq_eq h14
  obtain rfl:=shEq_eq h15
  clear h5 h6 h14 h15
  cases hs
  obtain⟨rfl,rfl,m,rfl,hk,hok,⟨z11,z12,z13,z16,z19,z20,z21,z22⟩,hmany,hwr,hA,hsz,h16⟩:tld 8 d s p e:=hp (tlR.tld 8 d s p e) mcs
  obtain rfl:v0=8:=hp (v0=8) (mcm _ mcs)
  clear hp
  rw[aEof]
  obtain⟨a0,a1,a2,a3,a4,⟨a5t,a5s,a5i,a5p⟩,⟨a6t,a6s,a6i,a6p⟩,a7,a8,a9,a10,a11,a12,a13,a14,a15,a16,a17,a18,a19,a20,a21,a22⟩:=m
  obtain⟨r0,r1,r2,r3,r4,r5,r6,r7,r8,r9,r10,r11,r12,r13,r14,r15,r16,r17,r18,r19,r20,r21,r22⟩:=hok
  simp only at hk z11 z12 z13 z16 z19 z20 z21 z22
  subst hk
  have hF:=fx a1 a2 a3 a4 a8 a5t a5s a5p a6t a6s a6p a5i a6i a11 a12 a13 a16 a19 a20 a21 a22 r1 r2 r3 r8 r11 r12 r13 r16 r19 r20 r21 r22 r5 r6
  clear r11 r12 r13 r16 r19 r20 r21 r22
  obtain⟨R1,R2,R3,R8,R4,r11,r12,r13,r16,r19,r20,r21,r22,N5,N6⟩:=hF
  have R4i:-9223372036854775808≤a4∧a4<9223372036854775808:=rgi64 r4
  have e:payM ⟨8,a1,a2,a3,a4,⟨a5t,a5s,a5i,a5p⟩,⟨a6t,a6s,a6i,a6p⟩,a7,a8,a9,a10,a11,a12,a13,a14,a15,a16,a17,a18,a19,a20,a21,a22⟩=cntB a12.length++catN (elItem a12) a12.length:=rfl
  rw[e]at hA hsz
  have hAt:=hA
  have hle:¬((a12.length:Int)>500):=fun hh=>hmany (by unfold manyP;rw[nm_8_items _ rfl];exact Or.inr (Or.inr (Or.inr (Or.inr (Or.inl hh)))))
  obtain⟨hc1,hc2,hc3,hAL⟩:=AtB.cnt (n:=(a12.length:Int)) (m:=500) hAt (by omega) (by omega) (by decide)
  have hq0:tlR.r.cv (tlR.r.cN s (0))=(a12.length:Int)-0:=by
   rw[show tlR.r.cN s (0)=(a12.length:Int)from hc3,show tlR.r.cv (a12.length:Int)=(a12.length:Int)from cv_small (by omega) (by omega)];omega
  have hq1:(0:Int)=0:=rfl
  have hq2:tlR.r.add (0) (tlR.r.cntL (tlR.r.cN s (0)))=(0)+cntL a12.length+((catN (elItem a12) 0).size:Nat):=by
   rw[show tlR.r.cN s (0)=(a12.length:Int)from hc3]
   show(0)+cntL a12.length=(0)+cntL a12.length+((0:Nat):Int)
   omega
  clear r0 r1 r2 r3 r4 r5 r6 r7 r8 r9 r10 r14 r15 r17 r18 R1 R2 R3 R4 R4i R8 N5 N6 hmany hwr
  refine ra tve0_ok 0 false 400 [false,false,false,false,true,true,true] [0,1,7] [] ?_ ?_
  ·simp only[conj,z0,z2,arR,z1,zd]
   (repeat' with_reducible apply And.intro)<;>first
     |omega
     |exact hc1
     |exact hc2
     |rfl
     |exact trivial
  refine Run.roomAtP 1 12 (.two (.int .u32) (.arr .u8 32)) rfl rfl (Nat.le_of_ble_eq_true rfl) ?_
  refine Run.loop (ι:={q:Int×Int×Int×Int×List D // (0≤q.1∧q.1≤a12.length)∧q.2.1=a12.length-q.1∧q.2.2.1=lastA (0+cntL a12.length) (elItem a12) (fun _=>4) (0) q.1.toNat∧q.2.2.2.1=0+cntL a12.length+(catN (elItem a12) q.1.toNat).size∧q.2.2.2.2=a12.take q.1.toNat})
   (fun i=>([.a (.one (.ptr 0 (.lit 0))),.a (.one (.ptr 1 (.lit 0))),.z,.z,.z,.z,.z,.a (.one (.int .i64 i.1.2.1)),.z,.z,.z,.z,.z,.z,.z,.z,.z,.z,.z,.z,.z,.z,.z,.z,.z,.z,.z,.z,.z,.z,.z,.z,.z,.z,.z,.z,.z,.z,.z,.z,.z,.z,.z,.z,.z,.z,.z,.z,.z,.z,.z,.z,.z,.z,.z,.z,.z,.z,.z,.z,.z,.z,.z,.z,.z,.z,.z,.z,.z,.z,.z,.z,.z,.z,.z,.z,.z,.z,.z,.z,.z,.z,.z,.z,.z,.z,.z,.z,.z,.z,.z,.z,.z,.z,.z,.z,.z,.z,.z,.z,.z,.z,.z,.z,.z,.z,.z,.z,.z,.z,.z,.z,.z,.z,.z,.z,.z,.z,.z,.z,.z,.z,.z,.z,.z,.z,.z,.z,.z,.z,.z,.z,.z,.z,.z,.z,.z,.z,.z,.z,.z,.z,.z,.z,.z,.z,.z,.z,.z,.z,.z,.z,.z,.z,.z,.z,.z,.z,.z,.z,.z,.z,.z,.z,.z,.z,.z,.z,.z,.z,.z,.z,.z,.z,.z,.z,.z,.z,.z,.z,.z,.z,.z,.z,.z,.z,.z,.z,.z,.z,.z,.z,.z,.z,.z,.z,.z,.z,.z,.z,.z,.z,.z,.z,.z,.z,.z,.z,.z,.z,.z,.z,.z],[some ⟨false,.lst [.ptr 2 (.lit 0),.int .i64 i.1.2.2.1]⟩,some ⟨false,.prt [.c (.int .i64 8),.c (.int .u32 v1),.c (.int .u64 v2),.c (.int .u64 v3),.c (.int .i64 v4),.v NS v5,.v NS v6,.c (.str v7),.c (.int .u32 v8),.c (.bool v9),.c (.bool v10),.c .nsl,.c (.dat (.two (.int .u32) (.arr .u8 32)) i.1.2.2.2.2 (some 3)),.c .nsl,.v (.arr .u8 32) v14,.v (.arr .u8 32) v15,.c .nsl,.c (.str v17),.c (.str v18),.c .nsl,.c .nsl,.c .nsl,.c .nsl]⟩,some ⟨false,.lst [.str s,.int .i64 i.1.2.2.2.1,.int .i64 0]⟩,some ⟨false,.tail⟩]))
   (fun i=>(a12.length-i.1.1).toNat) ⟨(0,_,_,_,[]),by simp only;omega,hq0,hq1,hq2,rfl⟩ ?_
  rintro⟨⟨i,rem,a,p,xs⟩,hp,hrem,ha,hps,hxs⟩ ih
  try simp only at hp hrem ha hps hxs
  by_cases hlt:i<a12.length
  ·have e1:rbin .sub .i64 rem 1=a12.length-(i+1):=by rw[hrem,subi (by omega) (by omega)];omega
   have hpn:i.toNat<a12.length:=by omega
   have hAi:=catN_at hAL i.toNat hpn
   rw[←hps]at hAi
   have hxl:xs.length=i.toNat:=by rw[hxs,List.length_take];omega
   have hML:maxLen=9223372036854775807:=by decide
   have hsn:=take_snoc (l:=a12) hp.1 hlt
   rw[←hxs]at hsn
   have hin:(i+1).toNat=i.toNat+1:=by omega
   have hpN:p+(elItem a12 i.toNat).size=0+cntL a12.length+(catN (elItem a12) (i+1).toNat).size:=by
    rw[hin,catN_succ,bsa,hps];omega
   have hxd:=r12.2 _ (mem_at hlt hp.1)
   have hAi:AtB s p (layB (a12.getD i.toNat (.int 0)).fst!.int! 4++rowB (a12.getD i.toNat (.int 0)).snd!.row! 32):=hAi
   have hpN:p+(layB (a12.getD i.toNat (.int 0)).fst!.int! 4++rowB (a12.getD i.toNat (.int 0)).snd!.row! 32).size=0+cntL a12.length+(catN (elItem a12) (i+1).toNat).size:=hpN
   rw[bsa,layB_size,rowB_size]at hpN
   generalize a12.getD i.toNat (.int 0)=x at hxd hAi hsn
   obtain⟨x1,x2,rfl,hx1,hx2⟩:=okD_two hxd
   obtain⟨xn,rfl⟩:=okD_int hx1
   obtain⟨xl,rfl,hxl32⟩:=okD_arr hx2
   have hAi:AtB s p (layB xn 4++rowB xl 32):=hAi
   have E1:=hAi.left.u32 (rg32 hx1)
   have hAj:=hAi.nx (n:=4) (lay_sizeI xn 4)
   have E2:(List.range 32).map (hashOf (cutB s (p+4) 32))=xl:=hAj.row hxl32 hx2.2
   have h4:tlR.r.room s p 4 0:=⟨rfl,hAi.left.room (lay_sizeI xn 4)⟩
   have h32:tlR.r.room s (tlR.r.add p 4) 32 0:=⟨rfl,hAj.room (row_sizeI xl 32)⟩
   have he0:tlR.r.e0 0:=rfl
   have hgt:rem>0:=by omega
   refine ra tve0_ok 2 true 400 [true,true] [0,1,7] [7] ?_ ?_
   ·simp only[conj,z0,z2,arR,z1,zd,hxl]
    (repeat' with_reducible apply And.intro)<;>first
      |omega
      |exact h4
      |exact h32
      |exact he0
      |rfl
      |exact trivial
   ·refine ih ⟨(_,_,_,_,_),(⟨by omega,by omega⟩:0≤i+1∧i+1≤a12.length),e1,?_,?_,?_⟩ ?_ _ _
    ·rw[hin]
     show p+4=_
     unfold lastA
     simp only
     omega
    ·show p+4+32=0+cntL a12.length+((catN (elItem a12) (i+1).toNat).size:Int)
     omega
    ·show xs++[D.pair (.int ((leV (cutB s p 4).data.toList:Nat):Int)) (.row ((List.range 32).map (hashOf (cutB s (p+4) 32))))]=a12.take (i+1).toNat
     rw[hsn,E1,E2]
    ·show((a12.length:Int)-(i+1)).toNat<((a12.length:Int)-i).toNat
     omega
  ·have hie:i.toNat=a12.length:=by omega
   rw[hie]at ha hps hxs
   rw[List.take_of_length_le (Nat.le_refl _)]at hxs
   clear ih
   refine rx tve0_ok 999 false 400 [false] ?_ ?_
   ·simp only[conj,z0,z2,arR,z1,zd]
    (repeat' with_reducible apply And.intro)<;>first
      |omega
      |rfl
      |exact trivial
   refine Run.fin ti_ok rfl rfl (HEnd.pack [0,1,2] rfl rfl (pk3 ?_ ?_ ?_) rfl)
   ·exact ha
   ·rw[hxs];rfl
   ·show p=s.size
    rw[hsz,bsa,hps]
    have:=cntB_size (a12.length:Int)
    omega
 ·cases hs
end Go.Proofs.Ytlbllaocdilafaa
