import Derived.Test.YtlbllaocdilafaaZ21
import Derived.Test.YtlbllaocdilafaaZ18
import Derived.Test.YtlbllaocdilafaaZ19
import Derived.Test.YtlbllaocdilafaaZ20
import Derived.Test.YtlbllaocdilafaaZ16
set_option linter.unusedSimpArgs false
set_option linter.unusedVariables false
set_option maxRecDepth 100000
set_option maxHeartbeats 40000000
namespace Go.Proofs.Ytlbllaocdilafaa
open Go Go.Eng Go.Proofs Go.RowKit
attribute[local irreducible] CallOk HOk Run TIok rbin rcmp run1 updF shfF blitF
def rM (a b:D):Prop:=eqD (.int .i64) a.fst! b.fst! = true∧eqD (.int .u32) a.snd!.fst! b.snd!.fst! = true∧eqD (.int .u64) a.snd!.snd!.fst! b.snd!.snd!.fst! = true∧eqD (.int .u64) a.snd!.snd!.snd!.fst! b.snd!.snd!.snd!.fst! = true∧eqD (.int .i64) a.snd!.snd!.snd!.snd!.fst! b.snd!.snd!.snd!.snd!.fst! = true∧eqD (.two (.int .u32) (.two (.int .u64) (.two (.arr .u8 16) (.int .u16)))) a.snd!.snd!.snd!.snd!.snd!.fst! b.snd!.snd!.snd!.snd!.snd!.fst! = true∧eqD (.two (.int .u32) (.two (.int .u64) (.two (.arr .u8 16) (.int .u16)))) a.snd!.snd!.snd!.snd!.snd!.snd!.fst! b.snd!.snd!.snd!.snd!.snd!.snd!.fst! = true∧eqD (.str) a.snd!.snd!.snd!.snd!.snd!.snd!.snd!.fst! b.snd!.snd!.snd!.snd!.snd!.snd!.snd!.fst! = true∧eqD (.int .u32) a.snd!.snd!.snd!.snd!.snd!.snd!.snd!.snd!.fst! b.snd!.snd!.snd!.snd!.snd!.snd!.snd!.snd!.fst! = true∧eqD (.bool) a.snd!.snd!.snd!.snd!.snd!.snd!.snd!.snd!.snd!.fst! b.snd!.snd!.snd!.snd!.snd!.snd!.snd!.snd!.snd!.fst! = true∧eqD (.bool) a.snd!.snd!.snd!.snd!.snd!.snd!.snd!.snd!.snd!.snd!.fst! b.snd!.snd!.snd!.snd!.snd!.snd!.snd!.snd!.snd!.snd!.fst! = true∧eqD (.arr .u8 32) a.snd!.snd!.snd!.snd!.snd!.snd!.snd!.snd!.snd!.snd!.snd!.snd!.snd!.snd!.fst! b.snd!.snd!.snd!.snd!.snd!.snd!.snd!.snd!.snd!.snd!.snd!.snd!.snd!.snd!.fst! = true∧eqD (.arr .u8 32) a.snd!.snd!.snd!.snd!.snd!.snd!.snd!.snd!.snd!.snd!.snd!.snd!.snd!.snd!.snd!.fst! b.snd!.snd!.snd!.snd!.snd!.snd!.snd!.snd!.snd!.snd!.snd!.snd!.snd!.snd!.snd!.fst! = true∧eqD (.str) a.snd!.snd!.snd!.snd!.snd!.snd!.snd!.snd!.snd!.snd!.snd!.snd!.snd!.snd!.snd!.snd!.snd!.fst! b.snd!.snd!.snd!.snd!.snd!.snd!.snd!.snd!.snd!.snd!.snd!.snd!.snd!.snd!.snd!.snd!.snd!.fst! = true∧eqD (.str) a.snd!.snd!.snd!.snd!.snd!.snd!.snd!.snd!.snd!.snd!.snd!.snd!.snd!.snd!.snd!.snd!.snd!.snd!.fst! b.snd!.snd!.snd!.snd!.snd!.snd!.snd!.snd!.snd!.snd!.snd!.snd!.snd!.snd!.snd!.snd!.snd!.snd!.fst! = true∧(a.snd!.snd!.snd!.snd!.snd!.snd!.snd!.snd!.snd!.snd!.snd!.fst!).sl!.length=(b.snd!.snd!.snd!.snd!.snd!.snd!.snd!.snd!.snd!.snd!.snd!.fst!).sl!.length∧(a.snd!.snd!.snd!.snd!.snd!.snd!.snd!.snd!.snd!.snd!.snd!.snd!.fst!).sl!.length=(b.snd!.snd!.snd!.snd!.snd!.snd!.snd!.snd!.snd!.snd!.snd!.snd!.fst!).sl!.length∧(a.snd!.snd!.snd!.snd!.snd!.snd!.snd!.snd!.snd!.snd!.snd!.snd!.snd!.fst!).sl!.length=(b.snd!.snd!.snd!.snd!.snd!.snd!.snd!.snd!.snd!.snd!.snd!.snd!.snd!.fst!).sl!.length∧(a.snd!.snd!.snd!.snd!.snd!.snd!.snd!.snd!.snd!.snd!.snd!.snd!.snd!.snd!.snd!.snd!.fst!).sl!.length=(b.snd!.snd!.snd!.snd!.snd!.snd!.snd!.snd!.snd!.snd!.snd!.snd!.snd!.snd!.snd!.snd!.fst!).sl!.length∧(a.snd!.snd!.snd!.snd!.snd!.snd!.snd!.snd!.snd!.snd!.snd!.snd!.snd!.snd!.snd!.snd!.snd!.snd!.snd!.fst!).sl!.length=(b.snd!.snd!.snd!.snd!.snd!.snd!.snd!.snd!.snd!.snd!.snd!.snd!.snd!.snd!.snd!.snd!.snd!.snd!.snd!.fst!).sl!.length∧(a.snd!.snd!.snd!.snd!.snd!.snd!.snd!.snd!.snd!.snd!.snd!.snd!.snd!.snd!.snd!.snd!.snd!.snd!.snd!.snd!.fst!).sl!.length=(b.snd!.snd!.snd!.snd!.snd!.snd!.snd!.snd!.snd!.snd!.snd!.snd!.snd!.snd!.snd!.snd!.snd!.snd!.snd!.snd!.fst!).sl!.length∧(a.snd!.snd!.snd!.snd!.snd!.snd!.snd!.snd!.snd!.snd!.snd!.snd!.snd!.snd!.snd!.snd!.snd!.snd!.snd!.snd!.snd!.fst!).sl!.length=(b.snd!.snd!.snd!.snd!.snd!.snd!.snd!.snd!.snd!.snd!.snd!.snd!.snd!.snd!.snd!.snd!.snd!.snd!.snd!.snd!.snd!.fst!).sl!.length∧(a.snd!.snd!.snd!.snd!.snd!.snd!.snd!.snd!.snd!.snd!.snd!.snd!.snd!.snd!.snd!.snd!.snd!.snd!.snd!.snd!.snd!.snd!).sl!.length=(b.snd!.snd!.snd!.snd!.snd!.snd!.snd!.snd!.snd!.snd!.snd!.snd!.snd!.snd!.snd!.snd!.snd!.snd!.snd!.snd!.snd!.snd!).sl!.length
theorem rsame_rM:CallOk Try.prog 35 (sSameG rM):=by
 refine .of_run (hc:=(tr0 lqmR).hc) Try.func35 rfl (by kernel_rfl) (by kernel_rfl) fun xs v ps hs hp w=>?_
 unfold sSameG at hs
 split at hs
 ·rename_i s1 a s2 b
  split at hs
  ·rename_i hsh
   rw[bat]at hsh
   obtain rfl:=shEq_eq hsh.1
   obtain rfl:=shEq_eq hsh.2
   clear hsh
   cases hs
   obtain⟨⟨a0,a1,a2,a3,a4,⟨a5t,a5s,a5i,a5p⟩,⟨a6t,a6s,a6i,a6p⟩,a7,a8,a9,a10,a11,a12,a13,a14,a15,a16,a17,a18,a19,a20,a21,a22⟩,rfl,ha⟩:mOk a:=hp (mOk a) (by simp)
   obtain⟨⟨b0,b1,b2,b3,b4,⟨b5t,b5s,b5i,b5p⟩,⟨b6t,b6s,b6i,b6p⟩,b7,b8,b9,b10,b11,b12,b13,b14,b15,b16,b17,b18,b19,b20,b21,b22⟩,rfl,hb⟩:mOk b:=hp (mOk b) (by simp)
   have hg:=hp (rM _ _) (mcm _ (mcm _ mcs))
   clear hp
   obtain⟨h0,h1,h2,h3,h4,h5,h6,h7,h8,h9,h10,h14,h15,h17,h18,n11,n12,n13,n16,n19,n20,n21,n22⟩:=hg
   replace h0:eqD (.int .i64) (.int a0) (.int b0)=true:=h0
   replace h1:eqD (.int .u32) (.int a1) (.int b1)=true:=h1
   replace h2:eqD (.int .u64) (.int a2) (.int b2)=true:=h2
   replace h3:eqD (.int .u64) (.int a3) (.int b3)=true:=h3
   replace h4:eqD (.int .i64) (.int a4) (.int b4)=true:=h4
   replace h5:eqD (.two (.int .u32) (.two (.int .u64) (.two (.arr .u8 16) (.int .u16)))) (.pair (.int a5t) (.pair (.int a5s) (.pair (.row a5i) (.int a5p)))) (.pair (.int b5t) (.pair (.int b5s) (.pair (.row b5i) (.int b5p))))=true:=h5
   replace h6:eqD (.two (.int .u32) (.two (.int .u64) (.two (.arr .u8 16) (.int .u16)))) (.pair (.int a6t) (.pair (.int a6s) (.pair (.row a6i) (.int a6p)))) (.pair (.int b6t) (.pair (.int b6s) (.pair (.row b6i) (.int b6p))))=true:=h6
   replace h7:eqD (.str) (.str a7) (.str b7)=true:=h7
   replace h8:eqD (.int .u32) (.int a8) (.int b8)=true:=h8
   replace h9:eqD (.bool) (.bool a9) (.bool b9)=true:=h9
   replace h10:eqD (.bool) (.bool a10) (.bool b10)=true:=h10
   replace h14:eqD (.arr .u8 32) (.row a14) (.row b14)=true:=h14
   replace h15:eqD (.arr .u8 32) (.row a15) (.row b15)=true:=h15
   replace h17:eqD (.str) (.str a17) (.str b17)=true:=h17
   replace h18:eqD (.str) (.str a18) (.str b18)=true:=h18
   replace n11:a11.length=b11.length:=n11
   replace n12:a12.length=b12.length:=n12
   replace n13:a13.length=b13.length:=n13
   replace n16:a16.length=b16.length:=n16
   replace n19:a19.length=b19.length:=n19
   replace n20:a20.length=b20.length:=n20
   replace n21:a21.length=b21.length:=n21
   replace n22:a22.length=b22.length:=n22
   have e0:a0=b0:=odt h0
   have e1:a1=b1:=odt h1
   have e2:a2=b2:=odt h2
   have e3:a3=b3:=odt h3
   have e4:a4=b4:=odt h4
   have e5:=ey5 h5
   have e6:=ey6 h6
   have e7:=ey7 h7
   have e8:a8=b8:=odt h8
   have e9:=ey9 h9
   have e10:=ey10 h10
   have e14:=ey14 h14
   have e15:=ey15 h15
   have e17:=ey17 h17
   have e18:=ey18 h18
   refine ra tr0_ok 999 false 400 [false,false,false,false,false,false,false,false,false,false,false,false,false,false,false] [2,3] [] ?_ ?_
   ·simp only[conj,z0,z2,arR,z1,zd,ze,Bool.and_true,id_eq]
    exact⟨e18,e17,e15,e14,e10,e9,fun h=>h e8,e7,e6,e5,fun h=>h e4,fun h=>h e3,fun h=>h e2,fun h=>h e1,fun h=>h e0⟩
   clear e0 e1 e2 e3 e4 e5 e6 e7 e8 e9 e10 e14 e15 e17 e18
   refine Run.fam3 (ι:=Unit) (fun _=>([.z,.z,.a (.one (.ptr 0 (.lit 0))),.a (.one (.ptr 1 (.lit 0))),.z,.z,.z,.z,.z,.z,.z,.z,.z,.z,.z,.z,.z,.z,.z,.z,.z,.z,.z,.z,.z,.z,.z,.z,.z,.z,.z,.z,.z,.z,.z,.z,.z,.z,.z,.z,.z,.z,.z,.z,.z,.z,.z,.z,.z,.z,.z,.z,.z,.z,.z,.z,.z,.z,.z,.z,.z,.z,.z,.z,.z,.z,.z,.z,.z,.z,.z,.z,.z,.z,.z,.z,.z,.z,.z,.z,.z,.z,.z,.z,.z,.z,.z,.z,.z,.z,.z,.z,.z,.z,.z,.z,.z,.z,.z,.z,.z,.z,.z,.z,.z,.z,.z,.z,.z,.z,.z,.z,.z,.z,.z,.z,.z,.z,.z,.z,.z,.z,.z,.z,.z,.z,.z,.z,.z,.z,.z,.z,.z,.z,.z,.z,.z,.z,.z,.z,.z,.z,.z,.z,.z,.z,.z,.z,.z,.z,.z,.z,.z,.z,.z,.z,.z,.z,.z,.z,.z,.z,.z,.z,.z,.z,.z,.z,.z,.z,.z,.z,.z,.z,.z,.z,.z,.z,.z,.z,.z,.z,.z,.z,.z,.z,.z,.z,.z,.z,.z,.z,.z,.z,.z,.z,.z,.z,.z,.z,.z,.z,.z,.z,.z,.z,.z,.z,.z,.z,.z,.z,.z,.z,.z,.z,.z,.z,.z,.z,.z,.z,.z,.z,.z,.z,.z,.z,.z,.z,.z,.z,.z,.z,.z,.z,.z,.z,.z,.z,.z,.z,.z,.z,.z,.z,.z,.z,.z,.z,.z,.z,.z,.z,.z,.z,.z,.z,.z,.z,.z,.z,.z,.z,.z,.z,.z,.z,.z,.z,.z,.z,.z,.z,.z,.z,.z,.z,.z,.z,.z,.z,.z,.z,.z,.z,.z,.z,.z,.z,.z,.z,.z,.z,.z,.z,.z,.z,.z,.z,.z,.z,.z,.z,.z,.z,.z,.z,.z,.z,.z,.z,.z,.z,.z,.z,.z,.z,.z,.z,.z,.z,.z,.z,.z,.z,.z,.z,.z,.z],[some ⟨false,.prt [.v MS (MD a0 a1 a2 a3 a4 a5t a5s a5i a5p a6t a6s a6i a6p a7 a8 a9 a10 a11 a12 a13 a14 a15 a16 a17 a18 a19 a20 a21 a22)]⟩,some ⟨false,.prt [.v MS (MD b0 b1 b2 b3 b4 b5t b5s b5i b5p b6t b6s b6i b6p b7 b8 b9 b10 b11 b12 b13 b14 b15 b16 b17 b18 b19 b20 b21 b22)]⟩])) () ?_
   intro _
   refine ra tr0_ok 0 false 400 [false,false,false,false,false,false,false,false] [2,3,5] [] ?_ ?_
   ·simp only[conj,z0,z2,arR,z1,zd,ze,Bool.and_true,id_eq]
    ((repeat' with_reducible apply And.intro)<;>omega)
   refine rl_0 w n11 ha.addrs n12 ha.items n13 ha.hashes n16 ha.heads n19 ha.shorts n20 ha.filled n21 ha.places n22 ha.raws ?_
   show(eqD (.int .i64) (.int a0) (.int b0)&&(eqD (.int .u32) (.int a1) (.int b1)&&(eqD (.int .u64) (.int a2) (.int b2)&&(eqD (.int .u64) (.int a3) (.int b3)&&(eqD (.int .i64) (.int a4) (.int b4)&&(eqD (.two (.int .u32) (.two (.int .u64) (.two (.arr .u8 16) (.int .u16)))) (.pair (.int a5t) (.pair (.int a5s) (.pair (.row a5i) (.int a5p)))) (.pair (.int b5t) (.pair (.int b5s) (.pair (.row b5i) (.int b5p))))&&(eqD (.two (.int .u32) (.two (.int .u64) (.two (.arr .u8 16) (.int .u16)))) (.pair (.int a6t) (.pair (.int a6s) (.pair (.row a6i) (.int a6p)))) (.pair (.int b6t) (.pair (.int b6s) (.pair (.row b6i) (.int b6p))))&&(eqD (.str) (.str a7) (.str b7)&&(eqD (.int .u32) (.int a8) (.int b8)&&(eqD (.bool) (.bool a9) (.bool b9)&&(eqD (.bool) (.bool a10) (.bool b10)&&(eqD (.sl (.two (.int .u32) (.two (.int .u64) (.two (.arr .u8 16) (.int .u16))))) (.sl a11) (.sl b11)&&(eqD (.sl (.two (.int .u32) (.arr .u8 32))) (.sl a12) (.sl b12)&&(eqD (.sl (.arr .u8 32)) (.sl a13) (.sl b13)&&(eqD (.arr .u8 32) (.row a14) (.row b14)&&(eqD (.arr .u8 32) (.row a15) (.row b15)&&(eqD (.sl .str) (.sl a16) (.sl b16)&&(eqD (.str) (.str a17) (.str b17)&&(eqD (.str) (.str a18) (.str b18)&&(eqD (.sl (.int .u64)) (.sl a19) (.sl b19)&&(eqD (.sl (.two (.int .i64) .str)) (.sl a20) (.sl b20)&&(eqD (.sl (.int .i64)) (.sl a21) (.sl b21)&&(eqD (.sl .str) (.sl a22) (.sl b22))))))))))))))))))))))))=(eqD (.sl (.two (.int .u32) (.two (.int .u64) (.two (.arr .u8 16) (.int .u16))))) (.sl a11) (.sl b11)&&(eqD (.sl (.two (.int .u32) (.arr .u8 32))) (.sl a12) (.sl b12)&&(eqD (.sl (.arr .u8 32)) (.sl a13) (.sl b13)&&(eqD (.sl .str) (.sl a16) (.sl b16)&&(eqD (.sl (.int .u64)) (.sl a19) (.sl b19)&&(eqD (.sl (.two (.int .i64) .str)) (.sl a20) (.sl b20)&&(eqD (.sl (.int .i64)) (.sl a21) (.sl b21)&&(eqD (.sl .str) (.sl a22) (.sl b22)&&true))))))))
   rw[h0,h1,h2,h3,h4,h5,h6,h7,h8,h9,h10,h14,h15,h17,h18]
   simp only[Bool.true_and,Bool.and_true]
  ·cases hs
 ·cases hs
theorem rsame_ok:CallOk Try.prog 35 (sSame lqmR):=by
 refine CallOk.split fun l v ps hs hp=>?_
 unfold sSame at hs
 split at hs
 ·rename_i s1 a s2 b
  split at hs
  ·rename_i hsh
   cases hs
   have ha:mOk a:=hp (lqmR.mOk a) (by simp)
   have hb:mOk b:=hp (lqmR.mOk b) (by simp)
   have go:∀G:D→D→Prop,G a b→(CallOk Try.prog 35 (sSameG G))→∃s' ps',CallOk Try.prog 35 s'∧s' [.agg (.prt [.v s1 a]),.agg (.prt [.v s2 b])]=some (.a (.one (.bool (lqmR.eqD MS a b))),ps')∧∀p∈ps',p:=fun G hG h=>
    ⟨sSameG G,[mOk a,mOk b,G a b],h,by simp only[sSameG];rw[if_pos hsh];rfl,by simp[ha,hb,hG]⟩
   by_cases c0:eqD (.int .i64) a.fst! b.fst! = true∧eqD (.int .u32) a.snd!.fst! b.snd!.fst! = true∧eqD (.int .u64) a.snd!.snd!.fst! b.snd!.snd!.fst! = true∧eqD (.int .u64) a.snd!.snd!.snd!.fst! b.snd!.snd!.snd!.fst! = true∧eqD (.int .i64) a.snd!.snd!.snd!.snd!.fst! b.snd!.snd!.snd!.snd!.fst! = true∧eqD (.two (.int .u32) (.two (.int .u64) (.two (.arr .u8 16) (.int .u16)))) a.snd!.snd!.snd!.snd!.snd!.fst! b.snd!.snd!.snd!.snd!.snd!.fst! = true∧eqD (.two (.int .u32) (.two (.int .u64) (.two (.arr .u8 16) (.int .u16)))) a.snd!.snd!.snd!.snd!.snd!.snd!.fst! b.snd!.snd!.snd!.snd!.snd!.snd!.fst! = true∧eqD (.str) a.snd!.snd!.snd!.snd!.snd!.snd!.snd!.fst! b.snd!.snd!.snd!.snd!.snd!.snd!.snd!.fst! = true
   rotate_left
   ·exact go rS0 c0 rsame_rS0
   obtain⟨x0,x1,x2,x3,x4,x5,x6,x7⟩:=c0
   by_cases c1:eqD (.int .u32) a.snd!.snd!.snd!.snd!.snd!.snd!.snd!.snd!.fst! b.snd!.snd!.snd!.snd!.snd!.snd!.snd!.snd!.fst! = true∧eqD (.bool) a.snd!.snd!.snd!.snd!.snd!.snd!.snd!.snd!.snd!.fst! b.snd!.snd!.snd!.snd!.snd!.snd!.snd!.snd!.snd!.fst! = true∧eqD (.bool) a.snd!.snd!.snd!.snd!.snd!.snd!.snd!.snd!.snd!.snd!.fst! b.snd!.snd!.snd!.snd!.snd!.snd!.snd!.snd!.snd!.snd!.fst! = true∧eqD (.arr .u8 32) a.snd!.snd!.snd!.snd!.snd!.snd!.snd!.snd!.snd!.snd!.snd!.snd!.snd!.snd!.fst! b.snd!.snd!.snd!.snd!.snd!.snd!.snd!.snd!.snd!.snd!.snd!.snd!.snd!.snd!.fst! = true
   rotate_left
   ·exact go rS1 ⟨x0,x1,x2,x3,x4,x5,x6,x7,c1⟩ rsame_rS1
   obtain⟨x8,x9,x10,x14⟩:=c1
   by_cases c2:eqD (.arr .u8 32) a.snd!.snd!.snd!.snd!.snd!.snd!.snd!.snd!.snd!.snd!.snd!.snd!.snd!.snd!.snd!.fst! b.snd!.snd!.snd!.snd!.snd!.snd!.snd!.snd!.snd!.snd!.snd!.snd!.snd!.snd!.snd!.fst! = true∧eqD (.str) a.snd!.snd!.snd!.snd!.snd!.snd!.snd!.snd!.snd!.snd!.snd!.snd!.snd!.snd!.snd!.snd!.snd!.fst! b.snd!.snd!.snd!.snd!.snd!.snd!.snd!.snd!.snd!.snd!.snd!.snd!.snd!.snd!.snd!.snd!.snd!.fst! = true∧eqD (.str) a.snd!.snd!.snd!.snd!.snd!.snd!.snd!.snd!.snd!.snd!.snd!.snd!.snd!.snd!.snd!.snd!.snd!.snd!.fst! b.snd!.snd!.snd!.snd!.snd!.snd!.snd!.snd!.snd!.snd!.snd!.snd!.snd!.snd!.snd!.snd!.snd!.snd!.fst! = true
   rotate_left
   ·exact go rS2 ⟨x0,x1,x2,x3,x4,x5,x6,x7,x8,x9,x10,x14,c2⟩ rsame_rS2
   obtain⟨x15,x17,x18⟩:=c2
   by_cases d0:(a.snd!.snd!.snd!.snd!.snd!.snd!.snd!.snd!.snd!.snd!.snd!.fst!).sl!.length=(b.snd!.snd!.snd!.snd!.snd!.snd!.snd!.snd!.snd!.snd!.snd!.fst!).sl!.length∧(a.snd!.snd!.snd!.snd!.snd!.snd!.snd!.snd!.snd!.snd!.snd!.snd!.fst!).sl!.length=(b.snd!.snd!.snd!.snd!.snd!.snd!.snd!.snd!.snd!.snd!.snd!.snd!.fst!).sl!.length∧(a.snd!.snd!.snd!.snd!.snd!.snd!.snd!.snd!.snd!.snd!.snd!.snd!.snd!.fst!).sl!.length=(b.snd!.snd!.snd!.snd!.snd!.snd!.snd!.snd!.snd!.snd!.snd!.snd!.snd!.fst!).sl!.length∧(a.snd!.snd!.snd!.snd!.snd!.snd!.snd!.snd!.snd!.snd!.snd!.snd!.snd!.snd!.snd!.snd!.fst!).sl!.length=(b.snd!.snd!.snd!.snd!.snd!.snd!.snd!.snd!.snd!.snd!.snd!.snd!.snd!.snd!.snd!.snd!.fst!).sl!.length∧(a.snd!.snd!.snd!.snd!.snd!.snd!.snd!.snd!.snd!.snd!.snd!.snd!.snd!.snd!.snd!.snd!.snd!.snd!.snd!.fst!).sl!.length=(b.snd!.snd!.snd!.snd!.snd!.snd!.snd!.snd!.snd!.snd!.snd!.snd!.snd!.snd!.snd!.snd!.snd!.snd!.snd!.fst!).sl!.length∧(a.snd!.snd!.snd!.snd!.snd!.snd!.snd!.snd!.snd!.snd!.snd!.snd!.snd!.snd!.snd!.snd!.snd!.snd!.snd!.snd!.fst!).sl!.length=(b.snd!.snd!.snd!.snd!.snd!.snd!.snd!.snd!.snd!.snd!.snd!.snd!.snd!.snd!.snd!.snd!.snd!.snd!.snd!.snd!.fst!).sl!.length∧(a.snd!.snd!.snd!.snd!.snd!.snd!.snd!.snd!.snd!.snd!.snd!.snd!.snd!.snd!.snd!.snd!.snd!.snd!.snd!.snd!.snd!.fst!).sl!.length=(b.snd!.snd!.snd!.snd!.snd!.snd!.snd!.snd!.snd!.snd!.snd!.snd!.snd!.snd!.snd!.snd!.snd!.snd!.snd!.snd!.snd!.fst!).sl!.length∧(a.snd!.snd!.snd!.snd!.snd!.snd!.snd!.snd!.snd!.snd!.snd!.snd!.snd!.snd!.snd!.snd!.snd!.snd!.snd!.snd!.snd!.snd!).sl!.length=(b.snd!.snd!.snd!.snd!.snd!.snd!.snd!.snd!.snd!.snd!.snd!.snd!.snd!.snd!.snd!.snd!.snd!.snd!.snd!.snd!.snd!.snd!).sl!.length
   rotate_left
   ·exact go rL ⟨x0,x1,x2,x3,x4,x5,x6,x7,x8,x9,x10,x14,x15,x17,x18,d0⟩ rsame_rL
   obtain⟨y11,y12,y13,y16,y19,y20,y21,y22⟩:=d0
   exact go rM ⟨x0,x1,x2,x3,x4,x5,x6,x7,x8,x9,x10,x14,x15,x17,x18,y11,y12,y13,y16,y19,y20,y21,y22⟩ rsame_rM
  ·cases hs
 ·cases hs
end Go.Proofs.Ytlbllaocdilafaa
namespace Go.Eng
open Go
theorem row_mk {l:List Int}{m:Nat}(h:l.length=m):((List.range m).map fun j=>l.getD j 0)=l:=by
 apply List.ext_getElem
 ·simp[h]
 ·intro i h1 h2
  simp only[List.getElem_map,List.getElem_range]
  rw[List.getD_eq_getElem?_getD,geg h2];rfl
def NS:Sh:=.two (.int .u32) (.two (.int .u64) (.two (.arr .u8 16) (.int .u16)))
def nFit (d:D):Prop:=∃n:Nt,d=n.D∧n.ip.length=16
structure LN3 extends LQm where
 nFit:D→Prop
def ln3:LN3 where
 toLQm:=lqmR
 nFit:=nFit
end Go.Eng
namespace Go.Proofs.Ytlbllaocdilafaa
open Go Go.Eng Go.Proofs Go.RowKit
attribute[local irreducible] CallOk HOk Run TIok rbin rcmp run1 updF shfF blitF
def tk0 (lf:LN3):Tbl:=tbL [] []
theorem tk0_ok:TblOk Try.prog (tk0 ln3):=tbL_ok nofun nofun
def sNet (lf:LN3):ESpec:=fun l=>match l with
 | [.agg (.prt [.v s d])]=>if shEq s NS then some (.a (.agg (.prt [.v NS d])),[lf.nFit d])else none
 |_=>none
theorem net_ok:CallOk Try.prog 65 (sNet ln3):=by
 refine .of_run (hc:=(tk0 ln3).hc) Try.func65 rfl (by kernel_rfl) (by kernel_rfl) fun xs v ps hs hp w=>?_
 unfold sNet at hs
 split at hs
 ·rename_i s d
  split at hs
  ·rename_i hsh
   obtain rfl:=shEq_eq hsh
   clear hsh
   cases hs
   obtain⟨⟨t,s,ip,p⟩,rfl,h16⟩:nFit d:=hp (ln3.nFit d) (by simp)
   clear hp
   refine rx tk0_ok 999 false 400 [] ?_ ?_
   ·trivial
   ·refine Run.ret ti_ok rfl rfl (.a (ALe.prt ?_))
    show G.prt [.v NS (.pair (.int t) (.pair (.int s) (.pair (.row ((List.range 16).map fun j=>ip.getD j 0)) (.int p))))]=_
    rw[row_mk h16]
    rfl
  ·cases hs
 ·cases hs
end Go.Proofs.Ytlbllaocdilafaa
namespace Go.Eng
open Go
theorem fit_net {x:D}(h:nrmD NS x=x):nFit x:=by
 refine⟨⟨x.fst!.int!,x.snd!.fst!.int!,(List.range 16).map fun j=>x.snd!.snd!.fst!.row!.getD j 0,x.snd!.snd!.snd!.int!⟩,?_,by simp⟩
 exact h.symm
def mFit (d:D):Prop:=∃m:Ms,d=m.D∧m.ok∧(∀x∈m.addrs,nrmD (.two (.int .u32) (.two (.int .u64) (.two (.arr .u8 16) (.int .u16)))) x=x)∧m.addrs.length*40≤140737488351232∧(∀x∈m.items,nrmD (.two (.int .u32) (.arr .u8 32)) x=x)∧m.items.length*36≤140737488351232∧(∀x∈m.hashes,nrmD (.arr .u8 32) x=x)∧m.hashes.length*32≤140737488351232∧(∀x∈m.heads,nrmD (.str) x=x)∧m.heads.length*16≤140737488351232∧(∀x∈m.shorts,nrmD (.int .u64) x=x)∧m.shorts.length*8≤140737488351232∧(∀x∈m.filled,nrmD (.two (.int .i64) .str) x=x)∧m.filled.length*24≤140737488351232∧(∀x∈m.places,nrmD (.int .i64) x=x)∧m.places.length*8≤140737488351232∧(∀x∈m.raws,nrmD (.str) x=x)∧m.raws.length*16≤140737488351232
theorem mFit.mOk {d:D}(h:mFit d):mOk d:=by
 obtain⟨m,h1,h2,-⟩:=h
 exact⟨m,h1,h2⟩
end Go.Eng
namespace Go.Proofs.Ytlbllaocdilafaa
open Go Go.Eng Go.Proofs Go.RowKit
attribute[local irreducible] CallOk HOk Run TIok rbin rcmp run1 updF shfF blitF
end Go.Proofs.Ytlbllaocdilafaa
