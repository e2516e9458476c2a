import Derived.Test.YtlbllaocdilafaaZ16
set_option linter.unusedSimpArgs false
set_option linter.unusedVariables false
set_option maxRecDepth 100000
set_option maxHeartbeats 40000000
namespace Go.Proofs.Ytlbllaocdilafaa
open Go Go.Eng Go.Proofs Go.RowKit
attribute[local irreducible] CallOk HOk Run TIok rbin rcmp run1 updF shfF blitF
def teq (lf:LQm):List (Nat×ESpec):=[(58,sEqNet lf.toLE1),(59,sEqItem lf.toLE1),(60,sEqHash lf.toLE1),(61,sEqStr lf.toLE1),(62,sEqU64 lf.toLE1),(63,sEqFilled lf.toLE1),(64,sEqInt lf.toLE1)]
def tm0 (lf:LQm):Tbl:=tbL (teq lf) []
theorem tm0_ok:TblOk Try.prog (tm0 lqmR):=tbL_ok (mc ⟨eqNet_ok,mc ⟨eqItem_ok,mc ⟨eqHash_ok,mc ⟨eqStr_ok,mc ⟨eqU64_ok,mc ⟨eqFilled_ok,mc ⟨eqInt_ok,nofun⟩⟩⟩⟩⟩⟩⟩) nofun
def sSame (lf:LQm):ESpec:=fun l=>match l with
 | [.agg (.prt [.v s1 a]),.agg (.prt [.v s2 b])]=>if shEq s1 MS&&shEq s2 MS then some (.a (.one (.bool (lf.eqD MS a b))),[lf.mOk a,lf.mOk b])else none
 |_=>none
def sSameG (G:D→D→Prop):ESpec:=fun l=>match l with
 | [.agg (.prt [.v s1 a]),.agg (.prt [.v s2 b])]=>if shEq s1 MS&&shEq s2 MS then some (.a (.one (.bool (eqD MS a b))),[mOk a,mOk b,G a b])else none
 |_=>none
def gS0 (a b:D):Prop:=¬(eqD (.int .i64) a.fst! b.fst! = true∧eqD (.int .u32) a.snd!.fst! b.snd!.fst! = true∧eqD (.int .u64) a.snd!.snd!.fst! b.snd!.snd!.fst! = true∧eqD (.int .u64) a.snd!.snd!.snd!.fst! b.snd!.snd!.snd!.fst! = true∧eqD (.int .i64) a.snd!.snd!.snd!.snd!.fst! b.snd!.snd!.snd!.snd!.fst! = true∧eqD (.two (.int .u32) (.two (.int .u64) (.two (.arr .u8 16) (.int .u16)))) a.snd!.snd!.snd!.snd!.snd!.fst! b.snd!.snd!.snd!.snd!.snd!.fst! = true∧eqD (.two (.int .u32) (.two (.int .u64) (.two (.arr .u8 16) (.int .u16)))) a.snd!.snd!.snd!.snd!.snd!.snd!.fst! b.snd!.snd!.snd!.snd!.snd!.snd!.fst! = true∧eqD (.str) a.snd!.snd!.snd!.snd!.snd!.snd!.snd!.fst! b.snd!.snd!.snd!.snd!.snd!.snd!.snd!.fst! = true)
theorem same_gS0:CallOk Try.prog 34 (sSameG gS0):=by
 refine .of_run (hc:=(tm0 lqmR).hc) Try.func34 rfl (by kernel_rfl) (by kernel_rfl) fun xs v ps hs hp w=>?_
 unfold sSameG at hs
 split at hs
 ·rename_i s1 a s2 b
  split at hs
  ·rename_i hsh
   rw[bat]at hsh
   obtain rfl:=shEq_eq hsh.1
   obtain rfl:=shEq_eq hsh.2
   clear hsh
   cases hs
   obtain⟨⟨a0,a1,a2,a3,a4,⟨a5t,a5s,a5i,a5p⟩,⟨a6t,a6s,a6i,a6p⟩,a7,a8,a9,a10,a11,a12,a13,a14,a15,a16,a17,a18,a19,a20,a21,a22⟩,rfl,ha⟩:mOk a:=hp (mOk a) (by simp)
   obtain⟨⟨b0,b1,b2,b3,b4,⟨b5t,b5s,b5i,b5p⟩,⟨b6t,b6s,b6i,b6p⟩,b7,b8,b9,b10,b11,b12,b13,b14,b15,b16,b17,b18,b19,b20,b21,b22⟩,rfl,hb⟩:mOk b:=hp (mOk b) (by simp)
   have hg:=hp (gS0 _ _) (mcm _ (mcm _ mcs))
   clear hp
   have hn:=hg
   replace hn:¬(eqD (.int .i64) (.int a0) (.int b0)=true∧eqD (.int .u32) (.int a1) (.int b1)=true∧eqD (.int .u64) (.int a2) (.int b2)=true∧eqD (.int .u64) (.int a3) (.int b3)=true∧eqD (.int .i64) (.int a4) (.int b4)=true∧eqD (.two (.int .u32) (.two (.int .u64) (.two (.arr .u8 16) (.int .u16)))) (.pair (.int a5t) (.pair (.int a5s) (.pair (.row a5i) (.int a5p)))) (.pair (.int b5t) (.pair (.int b5s) (.pair (.row b5i) (.int b5p))))=true∧eqD (.two (.int .u32) (.two (.int .u64) (.two (.arr .u8 16) (.int .u16)))) (.pair (.int a6t) (.pair (.int a6s) (.pair (.row a6i) (.int a6p)))) (.pair (.int b6t) (.pair (.int b6s) (.pair (.row b6i) (.int b6p))))=true∧eqD (.str) (.str a7) (.str b7)=true):=hn
   by_cases h0:eqD (.int .i64) (.int a0) (.int b0)=true
   rotate_left
   ·have e0:¬a0=b0:=fun h=>h0 (decide_eq_true h)
    refine rx tm0_ok 999 false 400 [true] ?_ ?_
    ·simp only[conj,z0,z2,arR,z1,zd,ze,Bool.and_true,id_eq]
     exact e0
    ·exact Run.ret ti_ok rfl rfl (.a (.lbool (eqM_no0 h0).symm))
   have e0:a0=b0:=odt h0
   by_cases h1:eqD (.int .u32) (.int a1) (.int b1)=true
   rotate_left
   ·have e1:¬a1=b1:=fun h=>h1 (decide_eq_true h)
    refine rx tm0_ok 999 false 400 [false,true] ?_ ?_
    ·simp only[conj,z0,z2,arR,z1,zd,ze,Bool.and_true,id_eq]
     exact⟨e1,fun h=>h e0⟩
    ·exact Run.ret ti_ok rfl rfl (.a (.lbool (eqM_no1 h1).symm))
   have e1:a1=b1:=odt h1
   by_cases h2:eqD (.int .u64) (.int a2) (.int b2)=true
   rotate_left
   ·have e2:¬a2=b2:=fun h=>h2 (decide_eq_true h)
    refine rx tm0_ok 999 false 400 [false,false,true] ?_ ?_
    ·simp only[conj,z0,z2,arR,z1,zd,ze,Bool.and_true,id_eq]
     exact⟨e2,fun h=>h e1,fun h=>h e0⟩
    ·exact Run.ret ti_ok rfl rfl (.a (.lbool (eqM_no2 h2).symm))
   have e2:a2=b2:=odt h2
   by_cases h3:eqD (.int .u64) (.int a3) (.int b3)=true
   rotate_left
   ·have e3:¬a3=b3:=fun h=>h3 (decide_eq_true h)
    refine rx tm0_ok 999 false 400 [false,false,false,true] ?_ ?_
    ·simp only[conj,z0,z2,arR,z1,zd,ze,Bool.and_true,id_eq]
     exact⟨e3,fun h=>h e2,fun h=>h e1,fun h=>h e0⟩
    ·exact Run.ret ti_ok rfl rfl (.a (.lbool (eqM_no3 h3).symm))
   have e3:a3=b3:=odt h3
   by_cases h4:eqD (.int .i64) (.int a4) (.int b4)=true
   rotate_left
   ·have e4:¬a4=b4:=fun h=>h4 (decide_eq_true h)
    refine rx tm0_ok 999 false 400 [false,false,false,false,true] ?_ ?_
    ·simp only[conj,z0,z2,arR,z1,zd,ze,Bool.and_true,id_eq]
     exact⟨e4,fun h=>h e3,fun h=>h e2,fun h=>h e1,fun h=>h e0⟩
    ·exact Run.ret ti_ok rfl rfl (.a (.lbool (eqM_no4 h4).symm))
   have e4:a4=b4:=odt h4
   by_cases h5:eqD (.two (.int .u32) (.two (.int .u64) (.two (.arr .u8 16) (.int .u16)))) (.pair (.int a5t) (.pair (.int a5s) (.pair (.row a5i) (.int a5p)))) (.pair (.int b5t) (.pair (.int b5s) (.pair (.row b5i) (.int b5p))))=true
   rotate_left
   ·have e5:=en5 h5
    refine rx tm0_ok 999 false 400 [false,false,false,false,false,true] ?_ ?_
    ·simp only[conj,z0,z2,arR,z1,zd,ze,Bool.and_true,id_eq]
     exact⟨e5,fun h=>h e4,fun h=>h e3,fun h=>h e2,fun h=>h e1,fun h=>h e0⟩
    ·exact Run.ret ti_ok rfl rfl (.a (.lbool (eqM_no5 h5).symm))
   have e5:=ey5 h5
   by_cases h6:eqD (.two (.int .u32) (.two (.int .u64) (.two (.arr .u8 16) (.int .u16)))) (.pair (.int a6t) (.pair (.int a6s) (.pair (.row a6i) (.int a6p)))) (.pair (.int b6t) (.pair (.int b6s) (.pair (.row b6i) (.int b6p))))=true
   rotate_left
   ·have e6:=en6 h6
    refine rx tm0_ok 999 false 400 [false,false,false,false,false,false,true] ?_ ?_
    ·simp only[conj,z0,z2,arR,z1,zd,ze,Bool.and_true,id_eq]
     exact⟨e6,e5,fun h=>h e4,fun h=>h e3,fun h=>h e2,fun h=>h e1,fun h=>h e0⟩
    ·exact Run.ret ti_ok rfl rfl (.a (.lbool (eqM_no6 h6).symm))
   have e6:=ey6 h6
   by_cases h7:eqD (.str) (.str a7) (.str b7)=true
   rotate_left
   ·have e7:=en7 h7
    refine rx tm0_ok 999 false 400 [false,false,false,false,false,false,false,true] ?_ ?_
    ·simp only[conj,z0,z2,arR,z1,zd,ze,Bool.and_true,id_eq]
     exact⟨e7,e6,e5,fun h=>h e4,fun h=>h e3,fun h=>h e2,fun h=>h e1,fun h=>h e0⟩
    ·exact Run.ret ti_ok rfl rfl (.a (.lbool (eqM_no7 h7).symm))
   have e7:=ey7 h7
   exact absurd ⟨h0,h1,h2,h3,h4,h5,h6,h7⟩ hn
  ·cases hs
 ·cases hs
def gS1 (a b:D):Prop:=eqD (.int .i64) a.fst! b.fst! = true∧eqD (.int .u32) a.snd!.fst! b.snd!.fst! = true∧eqD (.int .u64) a.snd!.snd!.fst! b.snd!.snd!.fst! = true∧eqD (.int .u64) a.snd!.snd!.snd!.fst! b.snd!.snd!.snd!.fst! = true∧eqD (.int .i64) a.snd!.snd!.snd!.snd!.fst! b.snd!.snd!.snd!.snd!.fst! = true∧eqD (.two (.int .u32) (.two (.int .u64) (.two (.arr .u8 16) (.int .u16)))) a.snd!.snd!.snd!.snd!.snd!.fst! b.snd!.snd!.snd!.snd!.snd!.fst! = true∧eqD (.two (.int .u32) (.two (.int .u64) (.two (.arr .u8 16) (.int .u16)))) a.snd!.snd!.snd!.snd!.snd!.snd!.fst! b.snd!.snd!.snd!.snd!.snd!.snd!.fst! = true∧eqD (.str) a.snd!.snd!.snd!.snd!.snd!.snd!.snd!.fst! b.snd!.snd!.snd!.snd!.snd!.snd!.snd!.fst! = true∧¬(eqD (.int .u32) a.snd!.snd!.snd!.snd!.snd!.snd!.snd!.snd!.fst! b.snd!.snd!.snd!.snd!.snd!.snd!.snd!.snd!.fst! = true∧eqD (.bool) a.snd!.snd!.snd!.snd!.snd!.snd!.snd!.snd!.snd!.fst! b.snd!.snd!.snd!.snd!.snd!.snd!.snd!.snd!.snd!.fst! = true∧eqD (.bool) a.snd!.snd!.snd!.snd!.snd!.snd!.snd!.snd!.snd!.snd!.fst! b.snd!.snd!.snd!.snd!.snd!.snd!.snd!.snd!.snd!.snd!.fst! = true∧eqD (.arr .u8 32) a.snd!.snd!.snd!.snd!.snd!.snd!.snd!.snd!.snd!.snd!.snd!.snd!.snd!.snd!.fst! b.snd!.snd!.snd!.snd!.snd!.snd!.snd!.snd!.snd!.snd!.snd!.snd!.snd!.snd!.fst! = true)
theorem same_gS1:CallOk Try.prog 34 (sSameG gS1):=by
 refine .of_run (hc:=(tm0 lqmR).hc) Try.func34 rfl (by kernel_rfl) (by kernel_rfl) fun xs v ps hs hp w=>?_
 unfold sSameG at hs
 split at hs
 ·rename_i s1 a s2 b
  split at hs
  ·rename_i hsh
   rw[bat]at hsh
   obtain rfl:=shEq_eq hsh.1
   obtain rfl:=shEq_eq hsh.2
   clear hsh
   cases hs
   obtain⟨⟨a0,a1,a2,a3,a4,⟨a5t,a5s,a5i,a5p⟩,⟨a6t,a6s,a6i,a6p⟩,a7,a8,a9,a10,a11,a12,a13,a14,a15,a16,a17,a18,a19,a20,a21,a22⟩,rfl,ha⟩:mOk a:=hp (mOk a) (by simp)
   obtain⟨⟨b0,b1,b2,b3,b4,⟨b5t,b5s,b5i,b5p⟩,⟨b6t,b6s,b6i,b6p⟩,b7,b8,b9,b10,b11,b12,b13,b14,b15,b16,b17,b18,b19,b20,b21,b22⟩,rfl,hb⟩:mOk b:=hp (mOk b) (by simp)
   have hg:=hp (gS1 _ _) (mcm _ (mcm _ mcs))
   clear hp
   obtain⟨h0,h1,h2,h3,h4,h5,h6,h7,hn⟩:=hg
   replace h0:eqD (.int .i64) (.int a0) (.int b0)=true:=h0
   replace h1:eqD (.int .u32) (.int a1) (.int b1)=true:=h1
   replace h2:eqD (.int .u64) (.int a2) (.int b2)=true:=h2
   replace h3:eqD (.int .u64) (.int a3) (.int b3)=true:=h3
   replace h4:eqD (.int .i64) (.int a4) (.int b4)=true:=h4
   replace h5:eqD (.two (.int .u32) (.two (.int .u64) (.two (.arr .u8 16) (.int .u16)))) (.pair (.int a5t) (.pair (.int a5s) (.pair (.row a5i) (.int a5p)))) (.pair (.int b5t) (.pair (.int b5s) (.pair (.row b5i) (.int b5p))))=true:=h5
   replace h6:eqD (.two (.int .u32) (.two (.int .u64) (.two (.arr .u8 16) (.int .u16)))) (.pair (.int a6t) (.pair (.int a6s) (.pair (.row a6i) (.int a6p)))) (.pair (.int b6t) (.pair (.int b6s) (.pair (.row b6i) (.int b6p))))=true:=h6
   replace h7:eqD (.str) (.str a7) (.str b7)=true:=h7
   replace hn:¬(eqD (.int .u32) (.int a8) (.int b8)=true∧eqD (.bool) (.bool a9) (.bool b9)=true∧eqD (.bool) (.bool a10) (.bool b10)=true∧eqD (.arr .u8 32) (.row a14) (.row b14)=true):=hn
   have e0:a0=b0:=odt h0
   have e1:a1=b1:=odt h1
   have e2:a2=b2:=odt h2
   have e3:a3=b3:=odt h3
   have e4:a4=b4:=odt h4
   have e5:=ey5 h5
   have e6:=ey6 h6
   have e7:=ey7 h7
   by_cases h8:eqD (.int .u32) (.int a8) (.int b8)=true
   rotate_left
   ·have e8:¬a8=b8:=fun h=>h8 (decide_eq_true h)
    refine rx tm0_ok 999 false 400 [false,false,false,false,false,false,false,false,true] ?_ ?_
    ·simp only[conj,z0,z2,arR,z1,zd,ze,Bool.and_true,id_eq]
     exact⟨e8,e7,e6,e5,fun h=>h e4,fun h=>h e3,fun h=>h e2,fun h=>h e1,fun h=>h e0⟩
    ·exact Run.ret ti_ok rfl rfl (.a (.lbool (eqM_no8 h8).symm))
   have e8:a8=b8:=odt h8
   by_cases h9:eqD (.bool) (.bool a9) (.bool b9)=true
   rotate_left
   ·have e9:=en9 h9
    refine rx tm0_ok 999 false 400 [false,false,false,false,false,false,false,false,false,true] ?_ ?_
    ·simp only[conj,z0,z2,arR,z1,zd,ze,Bool.and_true,id_eq]
     exact⟨e9,fun h=>h e8,e7,e6,e5,fun h=>h e4,fun h=>h e3,fun h=>h e2,fun h=>h e1,fun h=>h e0⟩
    ·exact Run.ret ti_ok rfl rfl (.a (.lbool (eqM_no9 h9).symm))
   have e9:=ey9 h9
   by_cases h10:eqD (.bool) (.bool a10) (.bool b10)=true
   rotate_left
   ·have e10:=en10 h10
    refine rx tm0_ok 999 false 400 [false,false,false,false,false,false,false,false,false,false,true] ?_ ?_
    ·simp only[conj,z0,z2,arR,z1,zd,ze,Bool.and_true,id_eq]
     exact⟨e10,e9,fun h=>h e8,e7,e6,e5,fun h=>h e4,fun h=>h e3,fun h=>h e2,fun h=>h e1,fun h=>h e0⟩
    ·exact Run.ret ti_ok rfl rfl (.a (.lbool (eqM_no10 h10).symm))
   have e10:=ey10 h10
   by_cases h14:eqD (.arr .u8 32) (.row a14) (.row b14)=true
   rotate_left
   ·have e14:=en14 h14
    refine rx tm0_ok 999 false 400 [false,false,false,false,false,false,false,false,false,false,false,true] ?_ ?_
    ·simp only[conj,z0,z2,arR,z1,zd,ze,Bool.and_true,id_eq]
     exact⟨e14,e10,e9,fun h=>h e8,e7,e6,e5,fun h=>h e4,fun h=>h e3,fun h=>h e2,fun h=>h e1,fun h=>h e0⟩
    ·exact Run.ret ti_ok rfl rfl (.a (.lbool (eqM_no14 h14).symm))
   have e14:=ey14 h14
   exact absurd ⟨h8,h9,h10,h14⟩ hn
  ·cases hs
 ·cases hs
def gS2 (a b:D):Prop:=eqD (.int .i64) a.fst! b.fst! = true∧eqD (.int .u32) a.snd!.fst! b.snd!.fst! = true∧eqD (.int .u64) a.snd!.snd!.fst! b.snd!.snd!.fst! = true∧eqD (.int .u64) a.snd!.snd!.snd!.fst! b.snd!.snd!.snd!.fst! = true∧eqD (.int .i64) a.snd!.snd!.snd!.snd!.fst! b.snd!.snd!.snd!.snd!.fst! = true∧eqD (.two (.int .u32) (.two (.int .u64) (.two (.arr .u8 16) (.int .u16)))) a.snd!.snd!.snd!.snd!.snd!.fst! b.snd!.snd!.snd!.snd!.snd!.fst! = true∧eqD (.two (.int .u32) (.two (.int .u64) (.two (.arr .u8 16) (.int .u16)))) a.snd!.snd!.snd!.snd!.snd!.snd!.fst! b.snd!.snd!.snd!.snd!.snd!.snd!.fst! = true∧eqD (.str) a.snd!.snd!.snd!.snd!.snd!.snd!.snd!.fst! b.snd!.snd!.snd!.snd!.snd!.snd!.snd!.fst! = true∧eqD (.int .u32) a.snd!.snd!.snd!.snd!.snd!.snd!.snd!.snd!.fst! b.snd!.snd!.snd!.snd!.snd!.snd!.snd!.snd!.fst! = true∧eqD (.bool) a.snd!.snd!.snd!.snd!.snd!.snd!.snd!.snd!.snd!.fst! b.snd!.snd!.snd!.snd!.snd!.snd!.snd!.snd!.snd!.fst! = true∧eqD (.bool) a.snd!.snd!.snd!.snd!.snd!.snd!.snd!.snd!.snd!.snd!.fst! b.snd!.snd!.snd!.snd!.snd!.snd!.snd!.snd!.snd!.snd!.fst! = true∧eqD (.arr .u8 32) a.snd!.snd!.snd!.snd!.snd!.snd!.snd!.snd!.snd!.snd!.snd!.snd!.snd!.snd!.fst! b.snd!.snd!.snd!.snd!.snd!.snd!.snd!.snd!.snd!.snd!.snd!.snd!.snd!.snd!.fst! = true∧¬(eqD (.arr .u8 32) a.snd!.snd!.snd!.snd!.snd!.snd!.snd!.snd!.snd!.snd!.snd!.snd!.snd!.snd!.snd!.fst! b.snd!.snd!.snd!.snd!.snd!.snd!.snd!.snd!.snd!.snd!.snd!.snd!.snd!.snd!.snd!.fst! = true∧eqD (.str) a.snd!.snd!.snd!.snd!.snd!.snd!.snd!.snd!.snd!.snd!.snd!.snd!.snd!.snd!.snd!.snd!.snd!.fst! b.snd!.snd!.snd!.snd!.snd!.snd!.snd!.snd!.snd!.snd!.snd!.snd!.snd!.snd!.snd!.snd!.snd!.fst! = true∧eqD (.str) a.snd!.snd!.snd!.snd!.snd!.snd!.snd!.snd!.snd!.snd!.snd!.snd!.snd!.snd!.snd!.snd!.snd!.snd!.fst! b.snd!.snd!.snd!.snd!.snd!.snd!.snd!.snd!.snd!.snd!.snd!.snd!.snd!.snd!.snd!.snd!.snd!.snd!.fst! = true)
theorem same_gS2:CallOk Try.prog 34 (sSameG gS2):=by
 refine .of_run (hc:=(tm0 lqmR).hc) Try.func34 rfl (by kernel_rfl) (by kernel_rfl) fun xs v ps hs hp w=>?_
 unfold sSameG at hs
 split at hs
 ·rename_i s1 a s2 b
  split at hs
  ·rename_i hsh
   rw[bat]at hsh
   obtain rfl:=shEq_eq hsh.1
   obtain rfl:=shEq_eq hsh.2
   clear hsh
   cases hs
   obtain⟨⟨a0,a1,a2,a3,a4,⟨a5t,a5s,a5i,a5p⟩,⟨a6t,a6s,a6i,a6p⟩,a7,a8,a9,a10,a11,a12,a13,a14,a15,a16,a17,a18,a19,a20,a21,a22⟩,rfl,ha⟩:mOk a:=hp (mOk a) (by simp)
   obtain⟨⟨b0,b1,b2,b3,b4,⟨b5t,b5s,b5i,b5p⟩,⟨b6t,b6s,b6i,b6p⟩,b7,b8,b9,b10,b11,b12,b13,b14,b15,b16,b17,b18,b19,b20,b21,b22⟩,rfl,hb⟩:mOk b:=hp (mOk b) (by simp)
   have hg:=hp (gS2 _ _) (mcm _ (mcm _ mcs))
   clear hp
   obtain⟨h0,h1,h2,h3,h4,h5,h6,h7,h8,h9,h10,h14,hn⟩:=hg
   replace h0:eqD (.int .i64) (.int a0) (.int b0)=true:=h0
   replace h1:eqD (.int .u32) (.int a1) (.int b1)=true:=h1
   replace h2:eqD (.int .u64) (.int a2) (.int b2)=true:=h2
   replace h3:eqD (.int .u64) (.int a3) (.int b3)=true:=h3
   replace h4:eqD (.int .i64) (.int a4) (.int b4)=true:=h4
   replace h5:eqD (.two (.int .u32) (.two (.int .u64) (.two (.arr .u8 16) (.int .u16)))) (.pair (.int a5t) (.pair (.int a5s) (.pair (.row a5i) (.int a5p)))) (.pair (.int b5t) (.pair (.int b5s) (.pair (.row b5i) (.int b5p))))=true:=h5
   replace h6:eqD (.two (.int .u32) (.two (.int .u64) (.two (.arr .u8 16) (.int .u16)))) (.pair (.int a6t) (.pair (.int a6s) (.pair (.row a6i) (.int a6p)))) (.pair (.int b6t) (.pair (.int b6s) (.pair (.row b6i) (.int b6p))))=true:=h6
   replace h7:eqD (.str) (.str a7) (.str b7)=true:=h7
   replace h8:eqD (.int .u32) (.int a8) (.int b8)=true:=h8
   replace h9:eqD (.bool) (.bool a9) (.bool b9)=true:=h9
   replace h10:eqD (.bool) (.bool a10) (.bool b10)=true:=h10
   replace h14:eqD (.arr .u8 32) (.row a14) (.row b14)=true:=h14
   replace hn:¬(eqD (.arr .u8 32) (.row a15) (.row b15)=true∧eqD (.str) (.str a17) (.str b17)=true∧eqD (.str) (.str a18) (.str b18)=true):=hn
   have e0:a0=b0:=odt h0
   have e1:a1=b1:=odt h1
   have e2:a2=b2:=odt h2
   have e3:a3=b3:=odt h3
   have e4:a4=b4:=odt h4
   have e5:=ey5 h5
   have e6:=ey6 h6
   have e7:=ey7 h7
   have e8:a8=b8:=odt h8
   have e9:=ey9 h9
   have e10:=ey10 h10
   have e14:=ey14 h14
   by_cases h15:eqD (.arr .u8 32) (.row a15) (.row b15)=true
   rotate_left
   ·have e15:=en15 h15
    refine rx tm0_ok 999 false 400 [false,false,false,false,false,false,false,false,false,false,false,false,true] ?_ ?_
    ·simp only[conj,z0,z2,arR,z1,zd,ze,Bool.and_true,id_eq]
     exact⟨e15,e14,e10,e9,fun h=>h e8,e7,e6,e5,fun h=>h e4,fun h=>h e3,fun h=>h e2,fun h=>h e1,fun h=>h e0⟩
    ·exact Run.ret ti_ok rfl rfl (.a (.lbool (eqM_no15 h15).symm))
   have e15:=ey15 h15
   by_cases h17:eqD (.str) (.str a17) (.str b17)=true
   rotate_left
   ·have e17:=en17 h17
    refine rx tm0_ok 999 false 400 [false,false,false,false,false,false,false,false,false,false,false,false,false,true] ?_ ?_
    ·simp only[conj,z0,z2,arR,z1,zd,ze,Bool.and_true,id_eq]
     exact⟨e17,e15,e14,e10,e9,fun h=>h e8,e7,e6,e5,fun h=>h e4,fun h=>h e3,fun h=>h e2,fun h=>h e1,fun h=>h e0⟩
    ·exact Run.ret ti_ok rfl rfl (.a (.lbool (eqM_no17 h17).symm))
   have e17:=ey17 h17
   by_cases h18:eqD (.str) (.str a18) (.str b18)=true
   rotate_left
   ·have e18:=en18 h18
    refine rx tm0_ok 999 false 400 [false,false,false,false,false,false,false,false,false,false,false,false,false,false,true] ?_ ?_
    ·simp only[conj,z0,z2,arR,z1,zd,ze,Bool.and_true,id_eq]
     exact⟨e18,e17,e15,e14,e10,e9,fun h=>h e8,e7,e6,e5,fun h=>h e4,fun h=>h e3,fun h=>h e2,fun h=>h e1,fun h=>h e0⟩
    ·exact Run.ret ti_ok rfl rfl (.a (.lbool (eqM_no18 h18).symm))
   have e18:=ey18 h18
   exact absurd ⟨h15,h17,h18⟩ hn
  ·cases hs
 ·cases hs
def gT0 (a b:D):Prop:=eqD (.int .i64) a.fst! b.fst! = true∧eqD (.int .u32) a.snd!.fst! b.snd!.fst! = true∧eqD (.int .u64) a.snd!.snd!.fst! b.snd!.snd!.fst! = true∧eqD (.int .u64) a.snd!.snd!.snd!.fst! b.snd!.snd!.snd!.fst! = true∧eqD (.int .i64) a.snd!.snd!.snd!.snd!.fst! b.snd!.snd!.snd!.snd!.fst! = true∧eqD (.two (.int .u32) (.two (.int .u64) (.two (.arr .u8 16) (.int .u16)))) a.snd!.snd!.snd!.snd!.snd!.fst! b.snd!.snd!.snd!.snd!.snd!.fst! = true∧eqD (.two (.int .u32) (.two (.int .u64) (.two (.arr .u8 16) (.int .u16)))) a.snd!.snd!.snd!.snd!.snd!.snd!.fst! b.snd!.snd!.snd!.snd!.snd!.snd!.fst! = true∧eqD (.str) a.snd!.snd!.snd!.snd!.snd!.snd!.snd!.fst! b.snd!.snd!.snd!.snd!.snd!.snd!.snd!.fst! = true∧eqD (.int .u32) a.snd!.snd!.snd!.snd!.snd!.snd!.snd!.snd!.fst! b.snd!.snd!.snd!.snd!.snd!.snd!.snd!.snd!.fst! = true∧eqD (.bool) a.snd!.snd!.snd!.snd!.snd!.snd!.snd!.snd!.snd!.fst! b.snd!.snd!.snd!.snd!.snd!.snd!.snd!.snd!.snd!.fst! = true∧eqD (.bool) a.snd!.snd!.snd!.snd!.snd!.snd!.snd!.snd!.snd!.snd!.fst! b.snd!.snd!.snd!.snd!.snd!.snd!.snd!.snd!.snd!.snd!.fst! = true∧eqD (.arr .u8 32) a.snd!.snd!.snd!.snd!.snd!.snd!.snd!.snd!.snd!.snd!.snd!.snd!.snd!.snd!.fst! b.snd!.snd!.snd!.snd!.snd!.snd!.snd!.snd!.snd!.snd!.snd!.snd!.snd!.snd!.fst! = true∧eqD (.arr .u8 32) a.snd!.snd!.snd!.snd!.snd!.snd!.snd!.snd!.snd!.snd!.snd!.snd!.snd!.snd!.snd!.fst! b.snd!.snd!.snd!.snd!.snd!.snd!.snd!.snd!.snd!.snd!.snd!.snd!.snd!.snd!.snd!.fst! = true∧eqD (.str) a.snd!.snd!.snd!.snd!.snd!.snd!.snd!.snd!.snd!.snd!.snd!.snd!.snd!.snd!.snd!.snd!.snd!.fst! b.snd!.snd!.snd!.snd!.snd!.snd!.snd!.snd!.snd!.snd!.snd!.snd!.snd!.snd!.snd!.snd!.snd!.fst! = true∧eqD (.str) a.snd!.snd!.snd!.snd!.snd!.snd!.snd!.snd!.snd!.snd!.snd!.snd!.snd!.snd!.snd!.snd!.snd!.snd!.fst! b.snd!.snd!.snd!.snd!.snd!.snd!.snd!.snd!.snd!.snd!.snd!.snd!.snd!.snd!.snd!.snd!.snd!.snd!.fst! = true∧¬(eqD (.sl (.two (.int .u32) (.two (.int .u64) (.two (.arr .u8 16) (.int .u16))))) a.snd!.snd!.snd!.snd!.snd!.snd!.snd!.snd!.snd!.snd!.snd!.fst! b.snd!.snd!.snd!.snd!.snd!.snd!.snd!.snd!.snd!.snd!.snd!.fst! = true∧eqD (.sl (.two (.int .u32) (.arr .u8 32))) a.snd!.snd!.snd!.snd!.snd!.snd!.snd!.snd!.snd!.snd!.snd!.snd!.fst! b.snd!.snd!.snd!.snd!.snd!.snd!.snd!.snd!.snd!.snd!.snd!.snd!.fst! = true∧eqD (.sl (.arr .u8 32)) a.snd!.snd!.snd!.snd!.snd!.snd!.snd!.snd!.snd!.snd!.snd!.snd!.snd!.fst! b.snd!.snd!.snd!.snd!.snd!.snd!.snd!.snd!.snd!.snd!.snd!.snd!.snd!.fst! = true∧eqD (.sl .str) a.snd!.snd!.snd!.snd!.snd!.snd!.snd!.snd!.snd!.snd!.snd!.snd!.snd!.snd!.snd!.snd!.fst! b.snd!.snd!.snd!.snd!.snd!.snd!.snd!.snd!.snd!.snd!.snd!.snd!.snd!.snd!.snd!.snd!.fst! = true)
theorem same_gT0:CallOk Try.prog 34 (sSameG gT0):=by
 refine .of_run (hc:=(tm0 lqmR).hc) Try.func34 rfl (by kernel_rfl) (by kernel_rfl) fun xs v ps hs hp w=>?_
 unfold sSameG at hs
 split at hs
 ·rename_i s1 a s2 b
  split at hs
  ·rename_i hsh
   rw[bat]at hsh
   obtain rfl:=shEq_eq hsh.1
   obtain rfl:=shEq_eq hsh.2
   clear hsh
   cases hs
   obtain⟨⟨a0,a1,a2,a3,a4,⟨a5t,a5s,a5i,a5p⟩,⟨a6t,a6s,a6i,a6p⟩,a7,a8,a9,a10,a11,a12,a13,a14,a15,a16,a17,a18,a19,a20,a21,a22⟩,rfl,ha⟩:mOk a:=hp (mOk a) (by simp)
   obtain⟨⟨b0,b1,b2,b3,b4,⟨b5t,b5s,b5i,b5p⟩,⟨b6t,b6s,b6i,b6p⟩,b7,b8,b9,b10,b11,b12,b13,b14,b15,b16,b17,b18,b19,b20,b21,b22⟩,rfl,hb⟩:mOk b:=hp (mOk b) (by simp)
   have hg:=hp (gT0 _ _) (mcm _ (mcm _ mcs))
   clear hp
   obtain⟨h0,h1,h2,h3,h4,h5,h6,h7,h8,h9,h10,h14,h15,h17,h18,hn⟩:=hg
   replace h0:eqD (.int .i64) (.int a0) (.int b0)=true:=h0
   replace h1:eqD (.int .u32) (.int a1) (.int b1)=true:=h1
   replace h2:eqD (.int .u64) (.int a2) (.int b2)=true:=h2
   replace h3:eqD (.int .u64) (.int a3) (.int b3)=true:=h3
   replace h4:eqD (.int .i64) (.int a4) (.int b4)=true:=h4
   replace h5:eqD (.two (.int .u32) (.two (.int .u64) (.two (.arr .u8 16) (.int .u16)))) (.pair (.int a5t) (.pair (.int a5s) (.pair (.row a5i) (.int a5p)))) (.pair (.int b5t) (.pair (.int b5s) (.pair (.row b5i) (.int b5p))))=true:=h5
   replace h6:eqD (.two (.int .u32) (.two (.int .u64) (.two (.arr .u8 16) (.int .u16)))) (.pair (.int a6t) (.pair (.int a6s) (.pair (.row a6i) (.int a6p)))) (.pair (.int b6t) (.pair (.int b6s) (.pair (.row b6i) (.int b6p))))=true:=h6
   replace h7:eqD (.str) (.str a7) (.str b7)=true:=h7
   replace h8:eqD (.int .u32) (.int a8) (.int b8)=true:=h8
   replace h9:eqD (.bool) (.bool a9) (.bool b9)=true:=h9
   replace h10:eqD (.bool) (.bool a10) (.bool b10)=true:=h10
   replace h14:eqD (.arr .u8 32) (.row a14) (.row b14)=true:=h14
   replace h15:eqD (.arr .u8 32) (.row a15) (.row b15)=true:=h15
   replace h17:eqD (.str) (.str a17) (.str b17)=true:=h17
   replace h18:eqD (.str) (.str a18) (.str b18)=true:=h18
   replace hn:¬(eqD (.sl (.two (.int .u32) (.two (.int .u64) (.two (.arr .u8 16) (.int .u16))))) (.sl a11) (.sl b11)=true∧eqD (.sl (.two (.int .u32) (.arr .u8 32))) (.sl a12) (.sl b12)=true∧eqD (.sl (.arr .u8 32)) (.sl a13) (.sl b13)=true∧eqD (.sl .str) (.sl a16) (.sl b16)=true):=hn
   have e0:a0=b0:=odt h0
   have e1:a1=b1:=odt h1
   have e2:a2=b2:=odt h2
   have e3:a3=b3:=odt h3
   have e4:a4=b4:=odt h4
   have e5:=ey5 h5
   have e6:=ey6 h6
   have e7:=ey7 h7
   have e8:a8=b8:=odt h8
   have e9:=ey9 h9
   have e10:=ey10 h10
   have e14:=ey14 h14
   have e15:=ey15 h15
   have e17:=ey17 h17
   have e18:=ey18 h18
   refine ra tm0_ok 999 false 400 [false,false,false,false,false,false,false,false,false,false,false,false,false,false,false] [2,3] [] ?_ ?_
   ·simp only[conj,z0,z2,arR,z1,zd,ze,Bool.and_true,id_eq]
    exact⟨e18,e17,e15,e14,e10,e9,fun h=>h e8,e7,e6,e5,fun h=>h e4,fun h=>h e3,fun h=>h e2,fun h=>h e1,fun h=>h e0⟩
   clear e0 e1 e2 e3 e4 e5 e6 e7 e8 e9 e10 e14 e15 e17 e18
   refine Run.fam3 (ι:=Unit) (fun _=>([.z,.z,.a (.one (.ptr 0 (.lit 0))),.a (.one (.ptr 1 (.lit 0))),.z,.z,.z,.z,.z,.z,.z,.z,.z,.z,.z,.z,.z,.z,.z,.z,.z,.z,.z,.z,.z,.z,.z,.z,.z,.z,.z,.z,.z,.z,.z,.z,.z,.z,.z,.z,.z,.z,.z,.z,.z,.z,.z,.z,.z,.z,.z,.z,.z,.z,.z,.z,.z,.z,.z,.z,.z,.z,.z,.z,.z,.z,.z,.z,.z,.z,.z,.z,.z,.z,.z,.z,.z,.z,.z,.z,.z,.z,.z,.z,.z,.z,.z,.z,.z,.z,.z,.z,.z,.z,.z,.z,.z,.z,.z,.z,.z,.z,.z,.z,.z,.z,.z,.z,.z,.z,.z,.z,.z,.z,.z,.z,.z,.z,.z,.z,.z,.z,.z,.z,.z,.z,.z,.z,.z,.z,.z,.z,.z,.z,.z,.z,.z,.z,.z,.z,.z,.z,.z,.z,.z,.z,.z,.z,.z,.z,.z,.z,.z,.z,.z,.z,.z,.z,.z,.z,.z,.z],[some ⟨false,.prt [.v MS (MD a0 a1 a2 a3 a4 a5t a5s a5i a5p a6t a6s a6i a6p a7 a8 a9 a10 a11 a12 a13 a14 a15 a16 a17 a18 a19 a20 a21 a22)]⟩,some ⟨false,.prt [.v MS (MD b0 b1 b2 b3 b4 b5t b5s b5i b5p b6t b6s b6i b6p b7 b8 b9 b10 b11 b12 b13 b14 b15 b16 b17 b18 b19 b20 b21 b22)]⟩])) () ?_
   intro _
   by_cases h11:eqD (.sl (.two (.int .u32) (.two (.int .u64) (.two (.arr .u8 16) (.int .u16))))) (.sl a11) (.sl b11)=true
   rotate_left
   ·refine rx tm0_ok 999 false 400 [false] ?_ ?_
    ·simp only[conj,z0,z2,arR,z1,zd,ze,Bool.and_true,id_eq]
     exact⟨eqD_sl.trans (Bool.eq_false_iff.2 h11),ha.addrs,hb.addrs⟩
    ·exact Run.ret ti_ok rfl rfl (.a (.lbool (eqM_no11 h11).symm))
   by_cases h12:eqD (.sl (.two (.int .u32) (.arr .u8 32))) (.sl a12) (.sl b12)=true
   rotate_left
   ·refine rx tm0_ok 999 false 400 [true,false] ?_ ?_
    ·simp only[conj,z0,z2,arR,z1,zd,ze,Bool.and_true,id_eq]
     exact⟨eqD_sl.trans (Bool.eq_false_iff.2 h12),ha.items,hb.items,eqD_sl.trans h11,ha.addrs,hb.addrs⟩
    ·exact Run.ret ti_ok rfl rfl (.a (.lbool (eqM_no12 h12).symm))
   by_cases h13:eqD (.sl (.arr .u8 32)) (.sl a13) (.sl b13)=true
   rotate_left
   ·refine rx tm0_ok 999 false 400 [true,true,false] ?_ ?_
    ·simp only[conj,z0,z2,arR,z1,zd,ze,Bool.and_true,id_eq]
     exact⟨eqD_sl.trans (Bool.eq_false_iff.2 h13),ha.hashes,hb.hashes,eqD_sl.trans h12,ha.items,hb.items,eqD_sl.trans h11,ha.addrs,hb.addrs⟩
    ·exact Run.ret ti_ok rfl rfl (.a (.lbool (eqM_no13 h13).symm))
   by_cases h16:eqD (.sl .str) (.sl a16) (.sl b16)=true
   rotate_left
   ·refine rx tm0_ok 999 false 400 [true,true,true,false] ?_ ?_
    ·simp only[conj,z0,z2,arR,z1,zd,ze,Bool.and_true,id_eq]
     exact⟨eqD_sl.trans (Bool.eq_false_iff.2 h16),ha.heads,hb.heads,eqD_sl.trans h13,ha.hashes,hb.hashes,eqD_sl.trans h12,ha.items,hb.items,eqD_sl.trans h11,ha.addrs,hb.addrs⟩
    ·exact Run.ret ti_ok rfl rfl (.a (.lbool (eqM_no16 h16).symm))
   exact absurd ⟨h11,h12,h13,h16⟩ hn
  ·cases hs
 ·cases hs
def gT1 (a b:D):Prop:=eqD (.int .i64) a.fst! b.fst! = true∧eqD (.int .u32) a.snd!.fst! b.snd!.fst! = true∧eqD (.int .u64) a.snd!.snd!.fst! b.snd!.snd!.fst! = true∧eqD (.int .u64) a.snd!.snd!.snd!.fst! b.snd!.snd!.snd!.fst! = true∧eqD (.int .i64) a.snd!.snd!.snd!.snd!.fst! b.snd!.snd!.snd!.snd!.fst! = true∧eqD (.two (.int .u32) (.two (.int .u64) (.two (.arr .u8 16) (.int .u16)))) a.snd!.snd!.snd!.snd!.snd!.fst! b.snd!.snd!.snd!.snd!.snd!.fst! = true∧eqD (.two (.int .u32) (.two (.int .u64) (.two (.arr .u8 16) (.int .u16)))) a.snd!.snd!.snd!.snd!.snd!.snd!.fst! b.snd!.snd!.snd!.snd!.snd!.snd!.fst! = true∧eqD (.str) a.snd!.snd!.snd!.snd!.snd!.snd!.snd!.fst! b.snd!.snd!.snd!.snd!.snd!.snd!.snd!.fst! = true∧eqD (.int .u32) a.snd!.snd!.snd!.snd!.snd!.snd!.snd!.snd!.fst! b.snd!.snd!.snd!.snd!.snd!.snd!.snd!.snd!.fst! = true∧eqD (.bool) a.snd!.snd!.snd!.snd!.snd!.snd!.snd!.snd!.snd!.fst! b.snd!.snd!.snd!.snd!.snd!.snd!.snd!.snd!.snd!.fst! = true∧eqD (.bool) a.snd!.snd!.snd!.snd!.snd!.snd!.snd!.snd!.snd!.snd!.fst! b.snd!.snd!.snd!.snd!.snd!.snd!.snd!.snd!.snd!.snd!.fst! = true∧eqD (.arr .u8 32) a.snd!.snd!.snd!.snd!.snd!.snd!.snd!.snd!.snd!.snd!.snd!.snd!.snd!.snd!.fst! b.snd!.snd!.snd!.snd!.snd!.snd!.snd!.snd!.snd!.snd!.snd!.snd!.snd!.snd!.fst! = true∧eqD (.arr .u8 32) a.snd!.snd!.snd!.snd!.snd!.snd!.snd!.snd!.snd!.snd!.snd!.snd!.snd!.snd!.snd!.fst! b.snd!.snd!.snd!.snd!.snd!.snd!.snd!.snd!.snd!.snd!.snd!.snd!.snd!.snd!.snd!.fst! = true∧eqD (.str) a.snd!.snd!.snd!.snd!.snd!.snd!.snd!.snd!.snd!.snd!.snd!.snd!.snd!.snd!.snd!.snd!.snd!.fst! b.snd!.snd!.snd!.snd!.snd!.snd!.snd!.snd!.snd!.snd!.snd!.snd!.snd!.snd!.snd!.snd!.snd!.fst! = true∧eqD (.str) a.snd!.snd!.snd!.snd!.snd!.snd!.snd!.snd!.snd!.snd!.snd!.snd!.snd!.snd!.snd!.snd!.snd!.snd!.fst! b.snd!.snd!.snd!.snd!.snd!.snd!.snd!.snd!.snd!.snd!.snd!.snd!.snd!.snd!.snd!.snd!.snd!.snd!.fst! = true∧eqD (.sl (.two (.int .u32) (.two (.int .u64) (.two (.arr .u8 16) (.int .u16))))) a.snd!.snd!.snd!.snd!.snd!.snd!.snd!.snd!.snd!.snd!.snd!.fst! b.snd!.snd!.snd!.snd!.snd!.snd!.snd!.snd!.snd!.snd!.snd!.fst! = true∧eqD (.sl (.two (.int .u32) (.arr .u8 32))) a.snd!.snd!.snd!.snd!.snd!.snd!.snd!.snd!.snd!.snd!.snd!.snd!.fst! b.snd!.snd!.snd!.snd!.snd!.snd!.snd!.snd!.snd!.snd!.snd!.snd!.fst! = true∧eqD (.sl (.arr .u8 32)) a.snd!.snd!.snd!.snd!.snd!.snd!.snd!.snd!.snd!.snd!.snd!.snd!.snd!.fst! b.snd!.snd!.snd!.snd!.snd!.snd!.snd!.snd!.snd!.snd!.snd!.snd!.snd!.fst! = true∧eqD (.sl .str) a.snd!.snd!.snd!.snd!.snd!.snd!.snd!.snd!.snd!.snd!.snd!.snd!.snd!.snd!.snd!.snd!.fst! b.snd!.snd!.snd!.snd!.snd!.snd!.snd!.snd!.snd!.snd!.snd!.snd!.snd!.snd!.snd!.snd!.fst! = true
theorem same_gT1:CallOk Try.prog 34 (sSameG gT1):=by
 refine .of_run (hc:=(tm0 lqmR).hc) Try.func34 rfl (by kernel_rfl) (by kernel_rfl) fun xs v ps hs hp w=>?_
 unfold sSameG at hs
 split at hs
 ·rename_i s1 a s2 b
  split at hs
  ·rename_i hsh
   rw[bat]at hsh
   obtain rfl:=shEq_eq hsh.1
   obtain rfl:=shEq_eq hsh.2
   clear hsh
   cases hs
   obtain⟨⟨a0,a1,a2,a3,a4,⟨a5t,a5s,a5i,a5p⟩,⟨a6t,a6s,a6i,a6p⟩,a7,a8,a9,a10,a11,a12,a13,a14,a15,a16,a17,a18,a19,a20,a21,a22⟩,rfl,ha⟩:mOk a:=hp (mOk a) (by simp)
   obtain⟨⟨b0,b1,b2,b3,b4,⟨b5t,b5s,b5i,b5p⟩,⟨b6t,b6s,b6i,b6p⟩,b7,b8,b9,b10,b11,b12,b13,b14,b15,b16,b17,b18,b19,b20,b21,b22⟩,rfl,hb⟩:mOk b:=hp (mOk b) (by simp)
   have hg:=hp (gT1 _ _) (mcm _ (mcm _ mcs))
   clear hp
   obtain⟨h0,h1,h2,h3,h4,h5,h6,h7,h8,h9,h10,h14,h15,h17,h18,h11,h12,h13,h16⟩:=hg
   replace h0:eqD (.int .i64) (.int a0) (.int b0)=true:=h0
   replace h1:eqD (.int .u32) (.int a1) (.int b1)=true:=h1
   replace h2:eqD (.int .u64) (.int a2) (.int b2)=true:=h2
   replace h3:eqD (.int .u64) (.int a3) (.int b3)=true:=h3
   replace h4:eqD (.int .i64) (.int a4) (.int b4)=true:=h4
   replace h5:eqD (.two (.int .u32) (.two (.int .u64) (.two (.arr .u8 16) (.int .u16)))) (.pair (.int a5t) (.pair (.int a5s) (.pair (.row a5i) (.int a5p)))) (.pair (.int b5t) (.pair (.int b5s) (.pair (.row b5i) (.int b5p))))=true:=h5
   replace h6:eqD (.two (.int .u32) (.two (.int .u64) (.two (.arr .u8 16) (.int .u16)))) (.pair (.int a6t) (.pair (.int a6s) (.pair (.row a6i) (.int a6p)))) (.pair (.int b6t) (.pair (.int b6s) (.pair (.row b6i) (.int b6p))))=true:=h6
   replace h7:eqD (.str) (.str a7) (.str b7)=true:=h7
   replace h8:eqD (.int .u32) (.int a8) (.int b8)=true:=h8
   replace h9:eqD (.bool) (.bool a9) (.bool b9)=true:=h9
   replace h10:eqD (.bool) (.bool a10) (.bool b10)=true:=h10
   replace h14:eqD (.arr .u8 32) (.row a14) (.row b14)=true:=h14
   replace h15:eqD (.arr .u8 32) (.row a15) (.row b15)=true:=h15
   replace h17:eqD (.str) (.str a17) (.str b17)=true:=h17
   replace h18:eqD (.str) (.str a18) (.str b18)=true:=h18
   replace h11:eqD (.sl (.two (.int .u32) (.two (.int .u64) (.two (.arr .u8 16) (.int .u16))))) (.sl a11) (.sl b11)=true:=h11
   replace h12:eqD (.sl (.two (.int .u32) (.arr .u8 32))) (.sl a12) (.sl b12)=true:=h12
   replace h13:eqD (.sl (.arr .u8 32)) (.sl a13) (.sl b13)=true:=h13
   replace h16:eqD (.sl .str) (.sl a16) (.sl b16)=true:=h16
   have e0:a0=b0:=odt h0
   have e1:a1=b1:=odt h1
   have e2:a2=b2:=odt h2
   have e3:a3=b3:=odt h3
   have e4:a4=b4:=odt h4
   have e5:=ey5 h5
   have e6:=ey6 h6
   have e7:=ey7 h7
   have e8:a8=b8:=odt h8
   have e9:=ey9 h9
   have e10:=ey10 h10
   have e14:=ey14 h14
   have e15:=ey15 h15
   have e17:=ey17 h17
   have e18:=ey18 h18
   refine ra tm0_ok 999 false 400 [false,false,false,false,false,false,false,false,false,false,false,false,false,false,false] [2,3] [] ?_ ?_
   ·simp only[conj,z0,z2,arR,z1,zd,ze,Bool.and_true,id_eq]
    exact⟨e18,e17,e15,e14,e10,e9,fun h=>h e8,e7,e6,e5,fun h=>h e4,fun h=>h e3,fun h=>h e2,fun h=>h e1,fun h=>h e0⟩
   clear e0 e1 e2 e3 e4 e5 e6 e7 e8 e9 e10 e14 e15 e17 e18
   refine Run.fam3 (ι:=Unit) (fun _=>([.z,.z,.a (.one (.ptr 0 (.lit 0))),.a (.one (.ptr 1 (.lit 0))),.z,.z,.z,.z,.z,.z,.z,.z,.z,.z,.z,.z,.z,.z,.z,.z,.z,.z,.z,.z,.z,.z,.z,.z,.z,.z,.z,.z,.z,.z,.z,.z,.z,.z,.z,.z,.z,.z,.z,.z,.z,.z,.z,.z,.z,.z,.z,.z,.z,.z,.z,.z,.z,.z,.z,.z,.z,.z,.z,.z,.z,.z,.z,.z,.z,.z,.z,.z,.z,.z,.z,.z,.z,.z,.z,.z,.z,.z,.z,.z,.z,.z,.z,.z,.z,.z,.z,.z,.z,.z,.z,.z,.z,.z,.z,.z,.z,.z,.z,.z,.z,.z,.z,.z,.z,.z,.z,.z,.z,.z,.z,.z,.z,.z,.z,.z,.z,.z,.z,.z,.z,.z,.z,.z,.z,.z,.z,.z,.z,.z,.z,.z,.z,.z,.z,.z,.z,.z,.z,.z,.z,.z,.z,.z,.z,.z,.z,.z,.z,.z,.z,.z,.z,.z,.z,.z,.z,.z],[some ⟨false,.prt [.v MS (MD a0 a1 a2 a3 a4 a5t a5s a5i a5p a6t a6s a6i a6p a7 a8 a9 a10 a11 a12 a13 a14 a15 a16 a17 a18 a19 a20 a21 a22)]⟩,some ⟨false,.prt [.v MS (MD b0 b1 b2 b3 b4 b5t b5s b5i b5p b6t b6s b6i b6p b7 b8 b9 b10 b11 b12 b13 b14 b15 b16 b17 b18 b19 b20 b21 b22)]⟩])) () ?_
   intro _
   by_cases h19:eqD (.sl (.int .u64)) (.sl a19) (.sl b19)=true
   rotate_left
   ·refine rx tm0_ok 999 false 400 [true,true,true,true,false] ?_ ?_
    ·simp only[conj,z0,z2,arR,z1,zd,ze,Bool.and_true,id_eq]
     exact⟨eqD_sl.trans (Bool.eq_false_iff.2 h19),ha.shorts,hb.shorts,eqD_sl.trans h16,ha.heads,hb.heads,eqD_sl.trans h13,ha.hashes,hb.hashes,eqD_sl.trans h12,ha.items,hb.items,eqD_sl.trans h11,ha.addrs,hb.addrs⟩
    ·exact Run.ret ti_ok rfl rfl (.a (.lbool (eqM_no19 h19).symm))
   by_cases h20:eqD (.sl (.two (.int .i64) .str)) (.sl a20) (.sl b20)=true
   rotate_left
   ·refine rx tm0_ok 999 false 400 [true,true,true,true,true,false] ?_ ?_
    ·simp only[conj,z0,z2,arR,z1,zd,ze,Bool.and_true,id_eq]
     exact⟨eqD_sl.trans (Bool.eq_false_iff.2 h20),ha.filled,hb.filled,eqD_sl.trans h19,ha.shorts,hb.shorts,eqD_sl.trans h16,ha.heads,hb.heads,eqD_sl.trans h13,ha.hashes,hb.hashes,eqD_sl.trans h12,ha.items,hb.items,eqD_sl.trans h11,ha.addrs,hb.addrs⟩
    ·exact Run.ret ti_ok rfl rfl (.a (.lbool (eqM_no20 h20).symm))
   by_cases h21:eqD (.sl (.int .i64)) (.sl a21) (.sl b21)=true
   rotate_left
   ·refine rx tm0_ok 999 false 400 [true,true,true,true,true,true,false] ?_ ?_
    ·simp only[conj,z0,z2,arR,z1,zd,ze,Bool.and_true,id_eq]
     exact⟨eqD_sl.trans (Bool.eq_false_iff.2 h21),ha.places,hb.places,eqD_sl.trans h20,ha.filled,hb.filled,eqD_sl.trans h19,ha.shorts,hb.shorts,eqD_sl.trans h16,ha.heads,hb.heads,eqD_sl.trans h13,ha.hashes,hb.hashes,eqD_sl.trans h12,ha.items,hb.items,eqD_sl.trans h11,ha.addrs,hb.addrs⟩
    ·exact Run.ret ti_ok rfl rfl (.a (.lbool (eqM_no21 h21).symm))
   refine rx tm0_ok 999 false 400 [true,true,true,true,true,true,true] ?_ ?_
   ·simp only[conj,z0,z2,arR,z1,zd,ze,Bool.and_true,id_eq]
    exact⟨ha.raws,hb.raws,eqD_sl.trans h21,ha.places,hb.places,eqD_sl.trans h20,ha.filled,hb.filled,eqD_sl.trans h19,ha.shorts,hb.shorts,eqD_sl.trans h16,ha.heads,hb.heads,eqD_sl.trans h13,ha.hashes,hb.hashes,eqD_sl.trans h12,ha.items,hb.items,eqD_sl.trans h11,ha.addrs,hb.addrs⟩
   ·refine Run.ret ti_ok rfl rfl (.a (.bool ?_))
    show eqL .str a22 b22=eqD MS (MD a0 a1 a2 a3 a4 a5t a5s a5i a5p a6t a6s a6i a6p a7 a8 a9 a10 a11 a12 a13 a14 a15 a16 a17 a18 a19 a20 a21 a22) (MD b0 b1 b2 b3 b4 b5t b5s b5i b5p b6t b6s b6i b6p b7 b8 b9 b10 b11 b12 b13 b14 b15 b16 b17 b18 b19 b20 b21 b22)
    rw[eqD_sl,Bool.eq_iff_iff,eqM_iff]
    exact⟨fun e=>⟨h0,h1,h2,h3,h4,h5,h6,h7,h8,h9,h10,h11,h12,h13,h14,h15,h16,h17,h18,h19,h20,h21,e⟩,fun e=>e.2.2.2.2.2.2.2.2.2.2.2.2.2.2.2.2.2.2.2.2.2.2⟩
  ·cases hs
 ·cases hs
end Go.Proofs.Ytlbllaocdilafaa
