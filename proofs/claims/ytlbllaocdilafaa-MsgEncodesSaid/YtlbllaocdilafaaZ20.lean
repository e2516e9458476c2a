import Derived.Test.YtlbllaocdilafaaZ18
set_option linter.unusedSimpArgs false
set_option linter.unusedVariables false
set_option maxRecDepth 100000
set_option maxHeartbeats 40000000
namespace Go.Proofs.Ytlbllaocdilafaa
open Go Go.Eng Go.Proofs Go.RowKit
attribute[local irreducible] CallOk HOk Run TIok rbin rcmp run1 updF shfF blitF
def rS0 (a b:D):Prop:=¬(eqD (.int .i64) a.fst! b.fst! = true∧eqD (.int .u32) a.snd!.fst! b.snd!.fst! = true∧eqD (.int .u64) a.snd!.snd!.fst! b.snd!.snd!.fst! = true∧eqD (.int .u64) a.snd!.snd!.snd!.fst! b.snd!.snd!.snd!.fst! = true∧eqD (.int .i64) a.snd!.snd!.snd!.snd!.fst! b.snd!.snd!.snd!.snd!.fst! = true∧eqD (.two (.int .u32) (.two (.int .u64) (.two (.arr .u8 16) (.int .u16)))) a.snd!.snd!.snd!.snd!.snd!.fst! b.snd!.snd!.snd!.snd!.snd!.fst! = true∧eqD (.two (.int .u32) (.two (.int .u64) (.two (.arr .u8 16) (.int .u16)))) a.snd!.snd!.snd!.snd!.snd!.snd!.fst! b.snd!.snd!.snd!.snd!.snd!.snd!.fst! = true∧eqD (.str) a.snd!.snd!.snd!.snd!.snd!.snd!.snd!.fst! b.snd!.snd!.snd!.snd!.snd!.snd!.snd!.fst! = true)
theorem rsame_rS0:CallOk Try.prog 35 (sSameG rS0):=by
 refine .of_run (hc:=(tr0 lqmR).hc) Try.func35 rfl (by kernel_rfl) (by kernel_rfl) fun xs v ps hs hp w=>?_
 unfold sSameG at hs
 split at hs
 ·rename_i s1 a s2 b
  split at hs
  ·rename_i hsh
   rw[bat]at hsh
   obtain rfl:=shEq_eq hsh.1
   obtain rfl:=shEq_eq hsh.2
   clear hsh
   cases hs
   obtain⟨⟨a0,a1,a2,a3,a4,⟨a5t,a5s,a5i,a5p⟩,⟨a6t,a6s,a6i,a6p⟩,a7,a8,a9,a10,a11,a12,a13,a14,a15,a16,a17,a18,a19,a20,a21,a22⟩,rfl,ha⟩:mOk a:=hp (mOk a) (by simp)
   obtain⟨⟨b0,b1,b2,b3,b4,⟨b5t,b5s,b5i,b5p⟩,⟨b6t,b6s,b6i,b6p⟩,b7,b8,b9,b10,b11,b12,b13,b14,b15,b16,b17,b18,b19,b20,b21,b22⟩,rfl,hb⟩:mOk b:=hp (mOk b) (by simp)
   have hg:=hp (rS0 _ _) (mcm _ (mcm _ mcs))
   clear hp
   have hn:=hg
   replace hn:¬(eqD (.int .i64) (.int a0) (.int b0)=true∧eqD (.int .u32) (.int a1) (.int b1)=true∧eqD (.int .u64) (.int a2) (.int b2)=true∧eqD (.int .u64) (.int a3) (.int b3)=true∧eqD (.int .i64) (.int a4) (.int b4)=true∧eqD (.two (.int .u32) (.two (.int .u64) (.two (.arr .u8 16) (.int .u16)))) (.pair (.int a5t) (.pair (.int a5s) (.pair (.row a5i) (.int a5p)))) (.pair (.int b5t) (.pair (.int b5s) (.pair (.row b5i) (.int b5p))))=true∧eqD (.two (.int .u32) (.two (.int .u64) (.two (.arr .u8 16) (.int .u16)))) (.pair (.int a6t) (.pair (.int a6s) (.pair (.row a6i) (.int a6p)))) (.pair (.int b6t) (.pair (.int b6s) (.pair (.row b6i) (.int b6p))))=true∧eqD (.str) (.str a7) (.str b7)=true):=hn
   by_cases h0:eqD (.int .i64) (.int a0) (.int b0)=true
   rotate_left
   ·have e0:¬a0=b0:=fun h=>h0 (decide_eq_true h)
    refine rx tr0_ok 999 false 400 [true] ?_ ?_
    ·simp only[conj,z0,z2,arR,z1,zd,ze,Bool.and_true,id_eq]
     exact e0
    ·exact Run.ret ti_ok rfl rfl (.a (.lbool (eqM_no0 h0).symm))
   have e0:a0=b0:=odt h0
   by_cases h1:eqD (.int .u32) (.int a1) (.int b1)=true
   rotate_left
   ·have e1:¬a1=b1:=fun h=>h1 (decide_eq_true h)
    refine rx tr0_ok 999 false 400 [false,true] ?_ ?_
    ·simp only[conj,z0,z2,arR,z1,zd,ze,Bool.and_true,id_eq]
     exact⟨e1,fun h=>h e0⟩
    ·exact Run.ret ti_ok rfl rfl (.a (.lbool (eqM_no1 h1).symm))
   have e1:a1=b1:=odt h1
   by_cases h2:eqD (.int .u64) (.int a2) (.int b2)=true
   rotate_left
   ·have e2:¬a2=b2:=fun h=>h2 (decide_eq_true h)
    refine rx tr0_ok 999 false 400 [false,false,true] ?_ ?_
    ·simp only[conj,z0,z2,arR,z1,zd,ze,Bool.and_true,id_eq]
     exact⟨e2,fun h=>h e1,fun h=>h e0⟩
    ·exact Run.ret ti_ok rfl rfl (.a (.lbool (eqM_no2 h2).symm))
   have e2:a2=b2:=odt h2
   by_cases h3:eqD (.int .u64) (.int a3) (.int b3)=true
   rotate_left
   ·have e3:¬a3=b3:=fun h=>h3 (decide_eq_true h)
    refine rx tr0_ok 999 false 400 [false,false,false,true] ?_ ?_
    ·simp only[conj,z0,z2,arR,z1,zd,ze,Bool.and_true,id_eq]
     exact⟨e3,fun h=>h e2,fun h=>h e1,fun h=>h e0⟩
    ·exact Run.ret ti_ok rfl rfl (.a (.lbool (eqM_no3 h3).symm))
   have e3:a3=b3:=odt h3
   by_cases h4:eqD (.int .i64) (.int a4) (.int b4)=true
   rotate_left
   ·have e4:¬a4=b4:=fun h=>h4 (decide_eq_true h)
    refine rx tr0_ok 999 false 400 [false,false,false,false,true] ?_ ?_
    ·simp only[conj,z0,z2,arR,z1,zd,ze,Bool.and_true,id_eq]
     exact⟨e4,fun h=>h e3,fun h=>h e2,fun h=>h e1,fun h=>h e0⟩
    ·exact Run.ret ti_ok rfl rfl (.a (.lbool (eqM_no4 h4).symm))
   have e4:a4=b4:=odt h4
   by_cases h5:eqD (.two (.int .u32) (.two (.int .u64) (.two (.arr .u8 16) (.int .u16)))) (.pair (.int a5t) (.pair (.int a5s) (.pair (.row a5i) (.int a5p)))) (.pair (.int b5t) (.pair (.int b5s) (.pair (.row b5i) (.int b5p))))=true
   rotate_left
   ·have e5:=en5 h5
    refine rx tr0_ok 999 false 400 [false,false,false,false,false,true] ?_ ?_
    ·simp only[conj,z0,z2,arR,z1,zd,ze,Bool.and_true,id_eq]
     exact⟨e5,fun h=>h e4,fun h=>h e3,fun h=>h e2,fun h=>h e1,fun h=>h e0⟩
    ·exact Run.ret ti_ok rfl rfl (.a (.lbool (eqM_no5 h5).symm))
   have e5:=ey5 h5
   by_cases h6:eqD (.two (.int .u32) (.two (.int .u64) (.two (.arr .u8 16) (.int .u16)))) (.pair (.int a6t) (.pair (.int a6s) (.pair (.row a6i) (.int a6p)))) (.pair (.int b6t) (.pair (.int b6s) (.pair (.row b6i) (.int b6p))))=true
   rotate_left
   ·have e6:=en6 h6
    refine rx tr0_ok 999 false 400 [false,false,false,false,false,false,true] ?_ ?_
    ·simp only[conj,z0,z2,arR,z1,zd,ze,Bool.and_true,id_eq]
     exact⟨e6,e5,fun h=>h e4,fun h=>h e3,fun h=>h e2,fun h=>h e1,fun h=>h e0⟩
    ·exact Run.ret ti_ok rfl rfl (.a (.lbool (eqM_no6 h6).symm))
   have e6:=ey6 h6
   by_cases h7:eqD (.str) (.str a7) (.str b7)=true
   rotate_left
   ·have e7:=en7 h7
    refine rx tr0_ok 999 false 400 [false,false,false,false,false,false,false,true] ?_ ?_
    ·simp only[conj,z0,z2,arR,z1,zd,ze,Bool.and_true,id_eq]
     exact⟨e7,e6,e5,fun h=>h e4,fun h=>h e3,fun h=>h e2,fun h=>h e1,fun h=>h e0⟩
    ·exact Run.ret ti_ok rfl rfl (.a (.lbool (eqM_no7 h7).symm))
   have e7:=ey7 h7
   exact absurd ⟨h0,h1,h2,h3,h4,h5,h6,h7⟩ hn
  ·cases hs
 ·cases hs
def rS1 (a b:D):Prop:=eqD (.int .i64) a.fst! b.fst! = true∧eqD (.int .u32) a.snd!.fst! b.snd!.fst! = true∧eqD (.int .u64) a.snd!.snd!.fst! b.snd!.snd!.fst! = true∧eqD (.int .u64) a.snd!.snd!.snd!.fst! b.snd!.snd!.snd!.fst! = true∧eqD (.int .i64) a.snd!.snd!.snd!.snd!.fst! b.snd!.snd!.snd!.snd!.fst! = true∧eqD (.two (.int .u32) (.two (.int .u64) (.two (.arr .u8 16) (.int .u16)))) a.snd!.snd!.snd!.snd!.snd!.fst! b.snd!.snd!.snd!.snd!.snd!.fst! = true∧eqD (.two (.int .u32) (.two (.int .u64) (.two (.arr .u8 16) (.int .u16)))) a.snd!.snd!.snd!.snd!.snd!.snd!.fst! b.snd!.snd!.snd!.snd!.snd!.snd!.fst! = true∧eqD (.str) a.snd!.snd!.snd!.snd!.snd!.snd!.snd!.fst! b.snd!.snd!.snd!.snd!.snd!.snd!.snd!.fst! = true∧¬(eqD (.int .u32) a.snd!.snd!.snd!.snd!.snd!.snd!.snd!.snd!.fst! b.snd!.snd!.snd!.snd!.snd!.snd!.snd!.snd!.fst! = true∧eqD (.bool) a.snd!.snd!.snd!.snd!.snd!.snd!.snd!.snd!.snd!.fst! b.snd!.snd!.snd!.snd!.snd!.snd!.snd!.snd!.snd!.fst! = true∧eqD (.bool) a.snd!.snd!.snd!.snd!.snd!.snd!.snd!.snd!.snd!.snd!.fst! b.snd!.snd!.snd!.snd!.snd!.snd!.snd!.snd!.snd!.snd!.fst! = true∧eqD (.arr .u8 32) a.snd!.snd!.snd!.snd!.snd!.snd!.snd!.snd!.snd!.snd!.snd!.snd!.snd!.snd!.fst! b.snd!.snd!.snd!.snd!.snd!.snd!.snd!.snd!.snd!.snd!.snd!.snd!.snd!.snd!.fst! = true)
theorem rsame_rS1:CallOk Try.prog 35 (sSameG rS1):=by
 refine .of_run (hc:=(tr0 lqmR).hc) Try.func35 rfl (by kernel_rfl) (by kernel_rfl) fun xs v ps hs hp w=>?_
 unfold sSameG at hs
 split at hs
 ·rename_i s1 a s2 b
  split at hs
  ·rename_i hsh
   rw[bat]at hsh
   obtain rfl:=shEq_eq hsh.1
   obtain rfl:=shEq_eq hsh.2
   clear hsh
   cases hs
   obtain⟨⟨a0,a1,a2,a3,a4,⟨a5t,a5s,a5i,a5p⟩,⟨a6t,a6s,a6i,a6p⟩,a7,a8,a9,a10,a11,a12,a13,a14,a15,a16,a17,a18,a19,a20,a21,a22⟩,rfl,ha⟩:mOk a:=hp (mOk a) (by simp)
   obtain⟨⟨b0,b1,b2,b3,b4,⟨b5t,b5s,b5i,b5p⟩,⟨b6t,b6s,b6i,b6p⟩,b7,b8,b9,b10,b11,b12,b13,b14,b15,b16,b17,b18,b19,b20,b21,b22⟩,rfl,hb⟩:mOk b:=hp (mOk b) (by simp)
   have hg:=hp (rS1 _ _) (mcm _ (mcm _ mcs))
   clear hp
   obtain⟨h0,h1,h2,h3,h4,h5,h6,h7,hn⟩:=hg
   replace h0:eqD (.int .i64) (.int a0) (.int b0)=true:=h0
   replace h1:eqD (.int .u32) (.int a1) (.int b1)=true:=h1
   replace h2:eqD (.int .u64) (.int a2) (.int b2)=true:=h2
   replace h3:eqD (.int .u64) (.int a3) (.int b3)=true:=h3
   replace h4:eqD (.int .i64) (.int a4) (.int b4)=true:=h4
   replace h5:eqD (.two (.int .u32) (.two (.int .u64) (.two (.arr .u8 16) (.int .u16)))) (.pair (.int a5t) (.pair (.int a5s) (.pair (.row a5i) (.int a5p)))) (.pair (.int b5t) (.pair (.int b5s) (.pair (.row b5i) (.int b5p))))=true:=h5
   replace h6:eqD (.two (.int .u32) (.two (.int .u64) (.two (.arr .u8 16) (.int .u16)))) (.pair (.int a6t) (.pair (.int a6s) (.pair (.row a6i) (.int a6p)))) (.pair (.int b6t) (.pair (.int b6s) (.pair (.row b6i) (.int b6p))))=true:=h6
   replace h7:eqD (.str) (.str a7) (.str b7)=true:=h7
   replace hn:¬(eqD (.int .u32) (.int a8) (.int b8)=true∧eqD (.bool) (.bool a9) (.bool b9)=true∧eqD (.bool) (.bool a10) (.bool b10)=true∧eqD (.arr .u8 32) (.row a14) (.row b14)=true):=hn
   have e0:a0=b0:=odt h0
   have e1:a1=b1:=odt h1
   have e2:a2=b2:=odt h2
   have e3:a3=b3:=odt h3
   have e4:a4=b4:=odt h4
   have e5:=ey5 h5
   have e6:=ey6 h6
   have e7:=ey7 h7
   by_cases h8:eqD (.int .u32) (.int a8) (.int b8)=true
   rotate_left
   ·have e8:¬a8=b8:=fun h=>h8 (decide_eq_true h)
    refine rx tr0_ok 999 false 400 [false,false,false,false,false,false,false,false,true] ?_ ?_
    ·simp only[conj,z0,z2,arR,z1,zd,ze,Bool.and_true,id_eq]
     exact⟨e8,e7,e6,e5,fun h=>h e4,fun h=>h e3,fun h=>h e2,fun h=>h e1,fun h=>h e0⟩
    ·exact Run.ret ti_ok rfl rfl (.a (.lbool (eqM_no8 h8).symm))
   have e8:a8=b8:=odt h8
   by_cases h9:eqD (.bool) (.bool a9) (.bool b9)=true
   rotate_left
   ·have e9:=en9 h9
    refine rx tr0_ok 999 false 400 [false,false,false,false,false,false,false,false,false,true] ?_ ?_
    ·simp only[conj,z0,z2,arR,z1,zd,ze,Bool.and_true,id_eq]
     exact⟨e9,fun h=>h e8,e7,e6,e5,fun h=>h e4,fun h=>h e3,fun h=>h e2,fun h=>h e1,fun h=>h e0⟩
    ·exact Run.ret ti_ok rfl rfl (.a (.lbool (eqM_no9 h9).symm))
   have e9:=ey9 h9
   by_cases h10:eqD (.bool) (.bool a10) (.bool b10)=true
   rotate_left
   ·have e10:=en10 h10
    refine rx tr0_ok 999 false 400 [false,false,false,false,false,false,false,false,false,false,true] ?_ ?_
    ·simp only[conj,z0,z2,arR,z1,zd,ze,Bool.and_true,id_eq]
     exact⟨e10,e9,fun h=>h e8,e7,e6,e5,fun h=>h e4,fun h=>h e3,fun h=>h e2,fun h=>h e1,fun h=>h e0⟩
    ·exact Run.ret ti_ok rfl rfl (.a (.lbool (eqM_no10 h10).symm))
   have e10:=ey10 h10
   by_cases h14:eqD (.arr .u8 32) (.row a14) (.row b14)=true
   rotate_left
   ·have e14:=en14 h14
    refine rx tr0_ok 999 false 400 [false,false,false,false,false,false,false,false,false,false,false,true] ?_ ?_
    ·simp only[conj,z0,z2,arR,z1,zd,ze,Bool.and_true,id_eq]
     exact⟨e14,e10,e9,fun h=>h e8,e7,e6,e5,fun h=>h e4,fun h=>h e3,fun h=>h e2,fun h=>h e1,fun h=>h e0⟩
    ·exact Run.ret ti_ok rfl rfl (.a (.lbool (eqM_no14 h14).symm))
   have e14:=ey14 h14
   exact absurd ⟨h8,h9,h10,h14⟩ hn
  ·cases hs
 ·cases hs
def rS2 (a b:D):Prop:=eqD (.int .i64) a.fst! b.fst! = true∧eqD (.int .u32) a.snd!.fst! b.snd!.fst! = true∧eqD (.int .u64) a.snd!.snd!.fst! b.snd!.snd!.fst! = true∧eqD (.int .u64) a.snd!.snd!.snd!.fst! b.snd!.snd!.snd!.fst! = true∧eqD (.int .i64) a.snd!.snd!.snd!.snd!.fst! b.snd!.snd!.snd!.snd!.fst! = true∧eqD (.two (.int .u32) (.two (.int .u64) (.two (.arr .u8 16) (.int .u16)))) a.snd!.snd!.snd!.snd!.snd!.fst! b.snd!.snd!.snd!.snd!.snd!.fst! = true∧eqD (.two (.int .u32) (.two (.int .u64) (.two (.arr .u8 16) (.int .u16)))) a.snd!.snd!.snd!.snd!.snd!.snd!.fst! b.snd!.snd!.snd!.snd!.snd!.snd!.fst! = true∧eqD (.str) a.snd!.snd!.snd!.snd!.snd!.snd!.snd!.fst! b.snd!.snd!.snd!.snd!.snd!.snd!.snd!.fst! = true∧eqD (.int .u32) a.snd!.snd!.snd!.snd!.snd!.snd!.snd!.snd!.fst! b.snd!.snd!.snd!.snd!.snd!.snd!.snd!.snd!.fst! = true∧eqD (.bool) a.snd!.snd!.snd!.snd!.snd!.snd!.snd!.snd!.snd!.fst! b.snd!.snd!.snd!.snd!.snd!.snd!.snd!.snd!.snd!.fst! = true∧eqD (.bool) a.snd!.snd!.snd!.snd!.snd!.snd!.snd!.snd!.snd!.snd!.fst! b.snd!.snd!.snd!.snd!.snd!.snd!.snd!.snd!.snd!.snd!.fst! = true∧eqD (.arr .u8 32) a.snd!.snd!.snd!.snd!.snd!.snd!.snd!.snd!.snd!.snd!.snd!.snd!.snd!.snd!.fst! b.snd!.snd!.snd!.snd!.snd!.snd!.snd!.snd!.snd!.snd!.snd!.snd!.snd!.snd!.fst! = true∧¬(eqD (.arr .u8 32) a.snd!.snd!.snd!.snd!.snd!.snd!.snd!.snd!.snd!.snd!.snd!.snd!.snd!.snd!.snd!.fst! b.snd!.snd!.snd!.snd!.snd!.snd!.snd!.snd!.snd!.snd!.snd!.snd!.snd!.snd!.snd!.fst! = true∧eqD (.str) a.snd!.snd!.snd!.snd!.snd!.snd!.snd!.snd!.snd!.snd!.snd!.snd!.snd!.snd!.snd!.snd!.snd!.fst! b.snd!.snd!.snd!.snd!.snd!.snd!.snd!.snd!.snd!.snd!.snd!.snd!.snd!.snd!.snd!.snd!.snd!.fst! = true∧eqD (.str) a.snd!.snd!.snd!.snd!.snd!.snd!.snd!.snd!.snd!.snd!.snd!.snd!.snd!.snd!.snd!.snd!.snd!.snd!.fst! b.snd!.snd!.snd!.snd!.snd!.snd!.snd!.snd!.snd!.snd!.snd!.snd!.snd!.snd!.snd!.snd!.snd!.snd!.fst! = true)
theorem rsame_rS2:CallOk Try.prog 35 (sSameG rS2):=by
 refine .of_run (hc:=(tr0 lqmR).hc) Try.func35 rfl (by kernel_rfl) (by kernel_rfl) fun xs v ps hs hp w=>?_
 unfold sSameG at hs
 split at hs
 ·rename_i s1 a s2 b
  split at hs
  ·rename_i hsh
   rw[bat]at hsh
   obtain rfl:=shEq_eq hsh.1
   obtain rfl:=shEq_eq hsh.2
   clear hsh
   cases hs
   obtain⟨⟨a0,a1,a2,a3,a4,⟨a5t,a5s,a5i,a5p⟩,⟨a6t,a6s,a6i,a6p⟩,a7,a8,a9,a10,a11,a12,a13,a14,a15,a16,a17,a18,a19,a20,a21,a22⟩,rfl,ha⟩:mOk a:=hp (mOk a) (by simp)
   obtain⟨⟨b0,b1,b2,b3,b4,⟨b5t,b5s,b5i,b5p⟩,⟨b6t,b6s,b6i,b6p⟩,b7,b8,b9,b10,b11,b12,b13,b14,b15,b16,b17,b18,b19,b20,b21,b22⟩,rfl,hb⟩:mOk b:=hp (mOk b) (by simp)
   have hg:=hp (rS2 _ _) (mcm _ (mcm _ mcs))
   clear hp
   obtain⟨h0,h1,h2,h3,h4,h5,h6,h7,h8,h9,h10,h14,hn⟩:=hg
   replace h0:eqD (.int .i64) (.int a0) (.int b0)=true:=h0
   replace h1:eqD (.int .u32) (.int a1) (.int b1)=true:=h1
   replace h2:eqD (.int .u64) (.int a2) (.int b2)=true:=h2
   replace h3:eqD (.int .u64) (.int a3) (.int b3)=true:=h3
   replace h4:eqD (.int .i64) (.int a4) (.int b4)=true:=h4
   replace h5:eqD (.two (.int .u32) (.two (.int .u64) (.two (.arr .u8 16) (.int .u16)))) (.pair (.int a5t) (.pair (.int a5s) (.pair (.row a5i) (.int a5p)))) (.pair (.int b5t) (.pair (.int b5s) (.pair (.row b5i) (.int b5p))))=true:=h5
   replace h6:eqD (.two (.int .u32) (.two (.int .u64) (.two (.arr .u8 16) (.int .u16)))) (.pair (.int a6t) (.pair (.int a6s) (.pair (.row a6i) (.int a6p)))) (.pair (.int b6t) (.pair (.int b6s) (.pair (.row b6i) (.int b6p))))=true:=h6
   replace h7:eqD (.str) (.str a7) (.str b7)=true:=h7
   replace h8:eqD (.int .u32) (.int a8) (.int b8)=true:=h8
   replace h9:eqD (.bool) (.bool a9) (.bool b9)=true:=h9
   replace h10:eqD (.bool) (.bool a10) (.bool b10)=true:=h10
   replace h14:eqD (.arr .u8 32) (.row a14) (.row b14)=true:=h14
   replace hn:¬(eqD (.arr .u8 32) (.row a15) (.row b15)=true∧eqD (.str) (.str a17) (.str b17)=true∧eqD (.str) (.str a18) (.str b18)=true):=hn
   have e0:a0=b0:=odt h0
   have e1:a1=b1:=odt h1
   have e2:a2=b2:=odt h2
   have e3:a3=b3:=odt h3
   have e4:a4=b4:=odt h4
   have e5:=ey5 h5
   have e6:=ey6 h6
   have e7:=ey7 h7
   have e8:a8=b8:=odt h8
   have e9:=ey9 h9
   have e10:=ey10 h10
   have e14:=ey14 h14
   by_cases h15:eqD (.arr .u8 32) (.row a15) (.row b15)=true
   rotate_left
   ·have e15:=en15 h15
    refine rx tr0_ok 999 false 400 [false,false,false,false,false,false,false,false,false,false,false,false,true] ?_ ?_
    ·simp only[conj,z0,z2,arR,z1,zd,ze,Bool.and_true,id_eq]
     exact⟨e15,e14,e10,e9,fun h=>h e8,e7,e6,e5,fun h=>h e4,fun h=>h e3,fun h=>h e2,fun h=>h e1,fun h=>h e0⟩
    ·exact Run.ret ti_ok rfl rfl (.a (.lbool (eqM_no15 h15).symm))
   have e15:=ey15 h15
   by_cases h17:eqD (.str) (.str a17) (.str b17)=true
   rotate_left
   ·have e17:=en17 h17
    refine rx tr0_ok 999 false 400 [false,false,false,false,false,false,false,false,false,false,false,false,false,true] ?_ ?_
    ·simp only[conj,z0,z2,arR,z1,zd,ze,Bool.and_true,id_eq]
     exact⟨e17,e15,e14,e10,e9,fun h=>h e8,e7,e6,e5,fun h=>h e4,fun h=>h e3,fun h=>h e2,fun h=>h e1,fun h=>h e0⟩
    ·exact Run.ret ti_ok rfl rfl (.a (.lbool (eqM_no17 h17).symm))
   have e17:=ey17 h17
   by_cases h18:eqD (.str) (.str a18) (.str b18)=true
   rotate_left
   ·have e18:=en18 h18
    refine rx tr0_ok 999 false 400 [false,false,false,false,false,false,false,false,false,false,false,false,false,false,true] ?_ ?_
    ·simp only[conj,z0,z2,arR,z1,zd,ze,Bool.and_true,id_eq]
     exact⟨e18,e17,e15,e14,e10,e9,fun h=>h e8,e7,e6,e5,fun h=>h e4,fun h=>h e3,fun h=>h e2,fun h=>h e1,fun h=>h e0⟩
    ·exact Run.ret ti_ok rfl rfl (.a (.lbool (eqM_no18 h18).symm))
   have e18:=ey18 h18
   exact absurd ⟨h15,h17,h18⟩ hn
  ·cases hs
 ·cases hs
end Go.Proofs.Ytlbllaocdilafaa
namespace Go.Eng
open Go
theorem eqL_len_of {s:Sh}{xs ys:List D}(h:eqL s xs ys=true):xs.length=ys.length:=by
 unfold eqL at h
 rw[bat]at h
 simpa using h.1
end Go.Eng
namespace Go.Proofs.Ytlbllaocdilafaa
open Go Go.Eng Go.Proofs Go.RowKit
attribute[local irreducible] CallOk HOk Run TIok rbin rcmp run1 updF shfF blitF
def rL (a b:D):Prop:=eqD (.int .i64) a.fst! b.fst! = true∧eqD (.int .u32) a.snd!.fst! b.snd!.fst! = true∧eqD (.int .u64) a.snd!.snd!.fst! b.snd!.snd!.fst! = true∧eqD (.int .u64) a.snd!.snd!.snd!.fst! b.snd!.snd!.snd!.fst! = true∧eqD (.int .i64) a.snd!.snd!.snd!.snd!.fst! b.snd!.snd!.snd!.snd!.fst! = true∧eqD (.two (.int .u32) (.two (.int .u64) (.two (.arr .u8 16) (.int .u16)))) a.snd!.snd!.snd!.snd!.snd!.fst! b.snd!.snd!.snd!.snd!.snd!.fst! = true∧eqD (.two (.int .u32) (.two (.int .u64) (.two (.arr .u8 16) (.int .u16)))) a.snd!.snd!.snd!.snd!.snd!.snd!.fst! b.snd!.snd!.snd!.snd!.snd!.snd!.fst! = true∧eqD (.str) a.snd!.snd!.snd!.snd!.snd!.snd!.snd!.fst! b.snd!.snd!.snd!.snd!.snd!.snd!.snd!.fst! = true∧eqD (.int .u32) a.snd!.snd!.snd!.snd!.snd!.snd!.snd!.snd!.fst! b.snd!.snd!.snd!.snd!.snd!.snd!.snd!.snd!.fst! = true∧eqD (.bool) a.snd!.snd!.snd!.snd!.snd!.snd!.snd!.snd!.snd!.fst! b.snd!.snd!.snd!.snd!.snd!.snd!.snd!.snd!.snd!.fst! = true∧eqD (.bool) a.snd!.snd!.snd!.snd!.snd!.snd!.snd!.snd!.snd!.snd!.fst! b.snd!.snd!.snd!.snd!.snd!.snd!.snd!.snd!.snd!.snd!.fst! = true∧eqD (.arr .u8 32) a.snd!.snd!.snd!.snd!.snd!.snd!.snd!.snd!.snd!.snd!.snd!.snd!.snd!.snd!.fst! b.snd!.snd!.snd!.snd!.snd!.snd!.snd!.snd!.snd!.snd!.snd!.snd!.snd!.snd!.fst! = true∧eqD (.arr .u8 32) a.snd!.snd!.snd!.snd!.snd!.snd!.snd!.snd!.snd!.snd!.snd!.snd!.snd!.snd!.snd!.fst! b.snd!.snd!.snd!.snd!.snd!.snd!.snd!.snd!.snd!.snd!.snd!.snd!.snd!.snd!.snd!.fst! = true∧eqD (.str) a.snd!.snd!.snd!.snd!.snd!.snd!.snd!.snd!.snd!.snd!.snd!.snd!.snd!.snd!.snd!.snd!.snd!.fst! b.snd!.snd!.snd!.snd!.snd!.snd!.snd!.snd!.snd!.snd!.snd!.snd!.snd!.snd!.snd!.snd!.snd!.fst! = true∧eqD (.str) a.snd!.snd!.snd!.snd!.snd!.snd!.snd!.snd!.snd!.snd!.snd!.snd!.snd!.snd!.snd!.snd!.snd!.snd!.fst! b.snd!.snd!.snd!.snd!.snd!.snd!.snd!.snd!.snd!.snd!.snd!.snd!.snd!.snd!.snd!.snd!.snd!.snd!.fst! = true∧¬((a.snd!.snd!.snd!.snd!.snd!.snd!.snd!.snd!.snd!.snd!.snd!.fst!).sl!.length=(b.snd!.snd!.snd!.snd!.snd!.snd!.snd!.snd!.snd!.snd!.snd!.fst!).sl!.length∧(a.snd!.snd!.snd!.snd!.snd!.snd!.snd!.snd!.snd!.snd!.snd!.snd!.fst!).sl!.length=(b.snd!.snd!.snd!.snd!.snd!.snd!.snd!.snd!.snd!.snd!.snd!.snd!.fst!).sl!.length∧(a.snd!.snd!.snd!.snd!.snd!.snd!.snd!.snd!.snd!.snd!.snd!.snd!.snd!.fst!).sl!.length=(b.snd!.snd!.snd!.snd!.snd!.snd!.snd!.snd!.snd!.snd!.snd!.snd!.snd!.fst!).sl!.length∧(a.snd!.snd!.snd!.snd!.snd!.snd!.snd!.snd!.snd!.snd!.snd!.snd!.snd!.snd!.snd!.snd!.fst!).sl!.length=(b.snd!.snd!.snd!.snd!.snd!.snd!.snd!.snd!.snd!.snd!.snd!.snd!.snd!.snd!.snd!.snd!.fst!).sl!.length∧(a.snd!.snd!.snd!.snd!.snd!.snd!.snd!.snd!.snd!.snd!.snd!.snd!.snd!.snd!.snd!.snd!.snd!.snd!.snd!.fst!).sl!.length=(b.snd!.snd!.snd!.snd!.snd!.snd!.snd!.snd!.snd!.snd!.snd!.snd!.snd!.snd!.snd!.snd!.snd!.snd!.snd!.fst!).sl!.length∧(a.snd!.snd!.snd!.snd!.snd!.snd!.snd!.snd!.snd!.snd!.snd!.snd!.snd!.snd!.snd!.snd!.snd!.snd!.snd!.snd!.fst!).sl!.length=(b.snd!.snd!.snd!.snd!.snd!.snd!.snd!.snd!.snd!.snd!.snd!.snd!.snd!.snd!.snd!.snd!.snd!.snd!.snd!.snd!.fst!).sl!.length∧(a.snd!.snd!.snd!.snd!.snd!.snd!.snd!.snd!.snd!.snd!.snd!.snd!.snd!.snd!.snd!.snd!.snd!.snd!.snd!.snd!.snd!.fst!).sl!.length=(b.snd!.snd!.snd!.snd!.snd!.snd!.snd!.snd!.snd!.snd!.snd!.snd!.snd!.snd!.snd!.snd!.snd!.snd!.snd!.snd!.snd!.fst!).sl!.length∧(a.snd!.snd!.snd!.snd!.snd!.snd!.snd!.snd!.snd!.snd!.snd!.snd!.snd!.snd!.snd!.snd!.snd!.snd!.snd!.snd!.snd!.snd!).sl!.length=(b.snd!.snd!.snd!.snd!.snd!.snd!.snd!.snd!.snd!.snd!.snd!.snd!.snd!.snd!.snd!.snd!.snd!.snd!.snd!.snd!.snd!.snd!).sl!.length)
theorem rsame_rL:CallOk Try.prog 35 (sSameG rL):=by
 refine .of_run (hc:=(tr0 lqmR).hc) Try.func35 rfl (by kernel_rfl) (by kernel_rfl) fun xs v ps hs hp w=>?_
 unfold sSameG at hs
 split at hs
 ·rename_i s1 a s2 b
  split at hs
  ·rename_i hsh
   rw[bat]at hsh
   obtain rfl:=shEq_eq hsh.1
   obtain rfl:=shEq_eq hsh.2
   clear hsh
   cases hs
   obtain⟨⟨a0,a1,a2,a3,a4,⟨a5t,a5s,a5i,a5p⟩,⟨a6t,a6s,a6i,a6p⟩,a7,a8,a9,a10,a11,a12,a13,a14,a15,a16,a17,a18,a19,a20,a21,a22⟩,rfl,ha⟩:mOk a:=hp (mOk a) (by simp)
   obtain⟨⟨b0,b1,b2,b3,b4,⟨b5t,b5s,b5i,b5p⟩,⟨b6t,b6s,b6i,b6p⟩,b7,b8,b9,b10,b11,b12,b13,b14,b15,b16,b17,b18,b19,b20,b21,b22⟩,rfl,hb⟩:mOk b:=hp (mOk b) (by simp)
   have hg:=hp (rL _ _) (mcm _ (mcm _ mcs))
   clear hp
   obtain⟨h0,h1,h2,h3,h4,h5,h6,h7,h8,h9,h10,h14,h15,h17,h18,hn⟩:=hg
   replace h0:eqD (.int .i64) (.int a0) (.int b0)=true:=h0
   replace h1:eqD (.int .u32) (.int a1) (.int b1)=true:=h1
   replace h2:eqD (.int .u64) (.int a2) (.int b2)=true:=h2
   replace h3:eqD (.int .u64) (.int a3) (.int b3)=true:=h3
   replace h4:eqD (.int .i64) (.int a4) (.int b4)=true:=h4
   replace h5:eqD (.two (.int .u32) (.two (.int .u64) (.two (.arr .u8 16) (.int .u16)))) (.pair (.int a5t) (.pair (.int a5s) (.pair (.row a5i) (.int a5p)))) (.pair (.int b5t) (.pair (.int b5s) (.pair (.row b5i) (.int b5p))))=true:=h5
   replace h6:eqD (.two (.int .u32) (.two (.int .u64) (.two (.arr .u8 16) (.int .u16)))) (.pair (.int a6t) (.pair (.int a6s) (.pair (.row a6i) (.int a6p)))) (.pair (.int b6t) (.pair (.int b6s) (.pair (.row b6i) (.int b6p))))=true:=h6
   replace h7:eqD (.str) (.str a7) (.str b7)=true:=h7
   replace h8:eqD (.int .u32) (.int a8) (.int b8)=true:=h8
   replace h9:eqD (.bool) (.bool a9) (.bool b9)=true:=h9
   replace h10:eqD (.bool) (.bool a10) (.bool b10)=true:=h10
   replace h14:eqD (.arr .u8 32) (.row a14) (.row b14)=true:=h14
   replace h15:eqD (.arr .u8 32) (.row a15) (.row b15)=true:=h15
   replace h17:eqD (.str) (.str a17) (.str b17)=true:=h17
   replace h18:eqD (.str) (.str a18) (.str b18)=true:=h18
   replace hn:¬(a11.length=b11.length∧a12.length=b12.length∧a13.length=b13.length∧a16.length=b16.length∧a19.length=b19.length∧a20.length=b20.length∧a21.length=b21.length∧a22.length=b22.length):=hn
   have e0:a0=b0:=odt h0
   have e1:a1=b1:=odt h1
   have e2:a2=b2:=odt h2
   have e3:a3=b3:=odt h3
   have e4:a4=b4:=odt h4
   have e5:=ey5 h5
   have e6:=ey6 h6
   have e7:=ey7 h7
   have e8:a8=b8:=odt h8
   have e9:=ey9 h9
   have e10:=ey10 h10
   have e14:=ey14 h14
   have e15:=ey15 h15
   have e17:=ey17 h17
   have e18:=ey18 h18
   refine ra tr0_ok 999 false 400 [false,false,false,false,false,false,false,false,false,false,false,false,false,false,false] [2,3] [] ?_ ?_
   ·simp only[conj,z0,z2,arR,z1,zd,ze,Bool.and_true,id_eq]
    exact⟨e18,e17,e15,e14,e10,e9,fun h=>h e8,e7,e6,e5,fun h=>h e4,fun h=>h e3,fun h=>h e2,fun h=>h e1,fun h=>h e0⟩
   clear e0 e1 e2 e3 e4 e5 e6 e7 e8 e9 e10 e14 e15 e17 e18
   refine Run.fam3 (ι:=Unit) (fun _=>([.z,.z,.a (.one (.ptr 0 (.lit 0))),.a (.one (.ptr 1 (.lit 0))),.z,.z,.z,.z,.z,.z,.z,.z,.z,.z,.z,.z,.z,.z,.z,.z,.z,.z,.z,.z,.z,.z,.z,.z,.z,.z,.z,.z,.z,.z,.z,.z,.z,.z,.z,.z,.z,.z,.z,.z,.z,.z,.z,.z,.z,.z,.z,.z,.z,.z,.z,.z,.z,.z,.z,.z,.z,.z,.z,.z,.z,.z,.z,.z,.z,.z,.z,.z,.z,.z,.z,.z,.z,.z,.z,.z,.z,.z,.z,.z,.z,.z,.z,.z,.z,.z,.z,.z,.z,.z,.z,.z,.z,.z,.z,.z,.z,.z,.z,.z,.z,.z,.z,.z,.z,.z,.z,.z,.z,.z,.z,.z,.z,.z,.z,.z,.z,.z,.z,.z,.z,.z,.z,.z,.z,.z,.z,.z,.z,.z,.z,.z,.z,.z,.z,.z,.z,.z,.z,.z,.z,.z,.z,.z,.z,.z,.z,.z,.z,.z,.z,.z,.z,.z,.z,.z,.z,.z,.z,.z,.z,.z,.z,.z,.z,.z,.z,.z,.z,.z,.z,.z,.z,.z,.z,.z,.z,.z,.z,.z,.z,.z,.z,.z,.z,.z,.z,.z,.z,.z,.z,.z,.z,.z,.z,.z,.z,.z,.z,.z,.z,.z,.z,.z,.z,.z,.z,.z,.z,.z,.z,.z,.z,.z,.z,.z,.z,.z,.z,.z,.z,.z,.z,.z,.z,.z,.z,.z,.z,.z,.z,.z,.z,.z,.z,.z,.z,.z,.z,.z,.z,.z,.z,.z,.z,.z,.z,.z,.z,.z,.z,.z,.z,.z,.z,.z,.z,.z,.z,.z,.z,.z,.z,.z,.z,.z,.z,.z,.z,.z,.z,.z,.z,.z,.z,.z,.z,.z,.z,.z,.z,.z,.z,.z,.z,.z,.z,.z,.z,.z,.z,.z,.z,.z,.z,.z,.z,.z,.z,.z,.z,.z,.z,.z,.z,.z,.z,.z,.z,.z,.z,.z,.z,.z,.z,.z,.z,.z,.z,.z,.z,.z,.z,.z,.z,.z],[some ⟨false,.prt [.v MS (MD a0 a1 a2 a3 a4 a5t a5s a5i a5p a6t a6s a6i a6p a7 a8 a9 a10 a11 a12 a13 a14 a15 a16 a17 a18 a19 a20 a21 a22)]⟩,some ⟨false,.prt [.v MS (MD b0 b1 b2 b3 b4 b5t b5s b5i b5p b6t b6s b6i b6p b7 b8 b9 b10 b11 b12 b13 b14 b15 b16 b17 b18 b19 b20 b21 b22)]⟩])) () ?_
   intro _
   by_cases n11:a11.length=b11.length
   rotate_left
   ·refine rx tr0_ok 999 false 400 [true] ?_ ?_
    ·simp only[conj,z0,z2,arR,z1,zd,ze,Bool.and_true,id_eq]
     ((repeat' with_reducible apply And.intro)<;>omega)
    ·refine Run.ret ti_ok rfl rfl (.a (.lbool (eqM_no11 (fun h=>n11 ?_)).symm))
     exact eqL_len_of (eqD_sl.trans h)
   by_cases n12:a12.length=b12.length
   rotate_left
   ·refine rx tr0_ok 999 false 400 [false,true] ?_ ?_
    ·simp only[conj,z0,z2,arR,z1,zd,ze,Bool.and_true,id_eq]
     ((repeat' with_reducible apply And.intro)<;>omega)
    ·refine Run.ret ti_ok rfl rfl (.a (.lbool (eqM_no12 (fun h=>n12 ?_)).symm))
     exact eqL_len_of (eqD_sl.trans h)
   by_cases n13:a13.length=b13.length
   rotate_left
   ·refine rx tr0_ok 999 false 400 [false,false,true] ?_ ?_
    ·simp only[conj,z0,z2,arR,z1,zd,ze,Bool.and_true,id_eq]
     ((repeat' with_reducible apply And.intro)<;>omega)
    ·refine Run.ret ti_ok rfl rfl (.a (.lbool (eqM_no13 (fun h=>n13 ?_)).symm))
     exact eqL_len_of (eqD_sl.trans h)
   by_cases n16:a16.length=b16.length
   rotate_left
   ·refine rx tr0_ok 999 false 400 [false,false,false,true] ?_ ?_
    ·simp only[conj,z0,z2,arR,z1,zd,ze,Bool.and_true,id_eq]
     ((repeat' with_reducible apply And.intro)<;>omega)
    ·refine Run.ret ti_ok rfl rfl (.a (.lbool (eqM_no16 (fun h=>n16 ?_)).symm))
     exact eqL_len_of (eqD_sl.trans h)
   by_cases n19:a19.length=b19.length
   rotate_left
   ·refine rx tr0_ok 999 false 400 [false,false,false,false,true] ?_ ?_
    ·simp only[conj,z0,z2,arR,z1,zd,ze,Bool.and_true,id_eq]
     ((repeat' with_reducible apply And.intro)<;>omega)
    ·refine Run.ret ti_ok rfl rfl (.a (.lbool (eqM_no19 (fun h=>n19 ?_)).symm))
     exact eqL_len_of (eqD_sl.trans h)
   by_cases n20:a20.length=b20.length
   rotate_left
   ·refine rx tr0_ok 999 false 400 [false,false,false,false,false,true] ?_ ?_
    ·simp only[conj,z0,z2,arR,z1,zd,ze,Bool.and_true,id_eq]
     ((repeat' with_reducible apply And.intro)<;>omega)
    ·refine Run.ret ti_ok rfl rfl (.a (.lbool (eqM_no20 (fun h=>n20 ?_)).symm))
     exact eqL_len_of (eqD_sl.trans h)
   by_cases n21:a21.length=b21.length
   rotate_left
   ·refine rx tr0_ok 999 false 400 [false,false,false,false,false,false,true] ?_ ?_
    ·simp only[conj,z0,z2,arR,z1,zd,ze,Bool.and_true,id_eq]
     ((repeat' with_reducible apply And.intro)<;>omega)
    ·refine Run.ret ti_ok rfl rfl (.a (.lbool (eqM_no21 (fun h=>n21 ?_)).symm))
     exact eqL_len_of (eqD_sl.trans h)
   by_cases n22:a22.length=b22.length
   rotate_left
   ·refine rx tr0_ok 999 false 400 [false,false,false,false,false,false,false,true] ?_ ?_
    ·simp only[conj,z0,z2,arR,z1,zd,ze,Bool.and_true,id_eq]
     ((repeat' with_reducible apply And.intro)<;>omega)
    ·refine Run.ret ti_ok rfl rfl (.a (.lbool (eqM_no22 (fun h=>n22 ?_)).symm))
     exact eqL_len_of (eqD_sl.trans h)
   exact absurd ⟨n11,n12,n13,n16,n19,n20,n21,n22⟩ hn
  ·cases hs
 ·cases hs
end Go.Proofs.Ytlbllaocdilafaa
