import Derived.Test.YtlbllaocdilafaaZ19
import Derived.Test.YtlbllaocdilafaaZ22
import Derived.Test.YtlbllaocdilafaaZ23
set_option linter.unusedSimpArgs false
set_option linter.unusedVariables false
set_option maxRecDepth 100000
set_option maxHeartbeats 8000000
namespace Go.Eng
open Go
structure LN9 extends LN8 where
 mf:LMf
def ln9:LN9 where
 toLN8:=ln8
 mf:=lmf
end Go.Eng
namespace Go.Proofs.Ytlbllaocdilafaa
open Go Go.Eng Go.Proofs Go.RowKit
attribute[local irreducible] CallOk HOk Run TIok rbin rcmp run1 updF shfF blitF
end Go.Proofs.Ytlbllaocdilafaa
namespace Go.Eng
open Go
def msOf (d:D):Ms:=⟨d.fst!.int!,d.snd!.fst!.int!,d.snd!.snd!.fst!.int!,d.snd!.snd!.snd!.fst!.int!,d.snd!.snd!.snd!.snd!.fst!.int!,⟨d.snd!.snd!.snd!.snd!.snd!.fst!.fst!.int!,d.snd!.snd!.snd!.snd!.snd!.fst!.snd!.fst!.int!,d.snd!.snd!.snd!.snd!.snd!.fst!.snd!.snd!.fst!.row!,d.snd!.snd!.snd!.snd!.snd!.fst!.snd!.snd!.snd!.int!⟩,⟨d.snd!.snd!.snd!.snd!.snd!.snd!.fst!.fst!.int!,d.snd!.snd!.snd!.snd!.snd!.snd!.fst!.snd!.fst!.int!,d.snd!.snd!.snd!.snd!.snd!.snd!.fst!.snd!.snd!.fst!.row!,d.snd!.snd!.snd!.snd!.snd!.snd!.fst!.snd!.snd!.snd!.int!⟩,d.snd!.snd!.snd!.snd!.snd!.snd!.snd!.fst!.str!,d.snd!.snd!.snd!.snd!.snd!.snd!.snd!.snd!.fst!.int!,d.snd!.snd!.snd!.snd!.snd!.snd!.snd!.snd!.snd!.fst!.bool!,d.snd!.snd!.snd!.snd!.snd!.snd!.snd!.snd!.snd!.snd!.fst!.bool!,d.snd!.snd!.snd!.snd!.snd!.snd!.snd!.snd!.snd!.snd!.snd!.fst!.sl!,d.snd!.snd!.snd!.snd!.snd!.snd!.snd!.snd!.snd!.snd!.snd!.snd!.fst!.sl!,d.snd!.snd!.snd!.snd!.snd!.snd!.snd!.snd!.snd!.snd!.snd!.snd!.snd!.fst!.sl!,d.snd!.snd!.snd!.snd!.snd!.snd!.snd!.snd!.snd!.snd!.snd!.snd!.snd!.snd!.fst!.row!,d.snd!.snd!.snd!.snd!.snd!.snd!.snd!.snd!.snd!.snd!.snd!.snd!.snd!.snd!.snd!.fst!.row!,d.snd!.snd!.snd!.snd!.snd!.snd!.snd!.snd!.snd!.snd!.snd!.snd!.snd!.snd!.snd!.snd!.fst!.sl!,d.snd!.snd!.snd!.snd!.snd!.snd!.snd!.snd!.snd!.snd!.snd!.snd!.snd!.snd!.snd!.snd!.snd!.fst!.str!,d.snd!.snd!.snd!.snd!.snd!.snd!.snd!.snd!.snd!.snd!.snd!.snd!.snd!.snd!.snd!.snd!.snd!.snd!.fst!.str!,d.snd!.snd!.snd!.snd!.snd!.snd!.snd!.snd!.snd!.snd!.snd!.snd!.snd!.snd!.snd!.snd!.snd!.snd!.snd!.fst!.sl!,d.snd!.snd!.snd!.snd!.snd!.snd!.snd!.snd!.snd!.snd!.snd!.snd!.snd!.snd!.snd!.snd!.snd!.snd!.snd!.snd!.fst!.sl!,d.snd!.snd!.snd!.snd!.snd!.snd!.snd!.snd!.snd!.snd!.snd!.snd!.snd!.snd!.snd!.snd!.snd!.snd!.snd!.snd!.snd!.fst!.sl!,d.snd!.snd!.snd!.snd!.snd!.snd!.snd!.snd!.snd!.snd!.snd!.snd!.snd!.snd!.snd!.snd!.snd!.snd!.snd!.snd!.snd!.snd!.sl!⟩
theorem msOf_D (m:Ms):msOf m.D=m:=by
 obtain⟨a0,a1,a2,a3,a4,⟨a5t,a5s,a5i,a5p⟩,⟨a6t,a6s,a6i,a6p⟩,a7,a8,a9,a10,a11,a12,a13,a14,a15,a16,a17,a18,a19,a20,a21,a22⟩:=m
 rfl
def strS (d:D):Int:=d.str!.size
def filS (d:D):Int:=d.snd!.str!.size
def sumI (f:D→Int) (l:List D):Int:=(l.map f).sum
theorem sumI_take (f:D→Int) (l:List D){p:Int}(h0:0≤p) (h1:p<l.length):sumI f (l.take (p+1).toNat)=sumI f (l.take p.toNat)+f (l.getD p.toNat (.int 0)):=by
 have h:p.toNat<l.length:=by omega
 unfold sumI
 rw[show(p+1).toNat=p.toNat+1 by omega,List.take_succ_eq_append_getElem h,List.map_append,List.sum_append,List.getD_eq_getElem?_getD,geg h]
 simp
def costI (m:Ms):Int:=64+m.agent.size+m.head.size+m.raw.size+40*(m.addrs.length+m.items.length+m.hashes.length+m.heads.length+m.shorts.length+m.filled.length+m.places.length+m.raws.length)
def costV (m:Ms):Int:=IntKind.i64.wrap (costI m+sumI strS m.heads+sumI filS m.filled+sumI strS m.raws)
theorem w64 (n:Int):IntKind.i64.wrap n=(n+9223372036854775808) % 18446744073709551616-9223372036854775808:=by
 unfold IntKind.wrap;simp[IntKind.bits,IntKind.signed];omega
theorem addw (x y:Int):rbin .add .i64 x y=IntKind.i64.wrap (x+y):=rfl
theorem mulw (x y:Int):rbin .mul .i64 x y=IntKind.i64.wrap (x*y):=rfl
theorem ww_l (x y:Int):IntKind.i64.wrap (IntKind.i64.wrap x+y)=IntKind.i64.wrap (x+y):=by simp only[w64];omega
theorem ww_r (x y:Int):IntKind.i64.wrap (x+IntKind.i64.wrap y)=IntKind.i64.wrap (x+y):=by simp only[w64];omega
theorem ww_m (x:Int):IntKind.i64.wrap (40*IntKind.i64.wrap x)=IntKind.i64.wrap (40*x):=by simp only[w64];omega
theorem cost_start (ag hd rw a b c d e f g h:Int):rbin .add .i64 (rbin .add .i64 (rbin .add .i64 (rbin .add .i64 64 ag) hd) rw) (rbin .mul .i64 40 (rbin .add .i64 (rbin .add .i64 (rbin .add .i64 (rbin .add .i64 (rbin .add .i64 (rbin .add .i64 (rbin .add .i64 a b) c) d) e) f) g) h))=IntKind.i64.wrap (64+ag+hd+rw+40*(a+b+c+d+e+f+g+h)+0):=by
 simp only[addw,mulw,ww_l,ww_r,ww_m,Int.add_zero]
theorem cost_step (n T s:Int) (h:n=IntKind.i64.wrap T):rbin .add .i64 n s=IntKind.i64.wrap (T+s):=by rw[h,addw,ww_l]
structure ME1 extends LN9 where
 cost:D→Int
def me1:ME1 where
 toLN9:=ln9
 cost d:=costV (msOf d)
end Go.Eng
namespace Go.Proofs.Ytlbllaocdilafaa
open Go Go.Eng Go.Proofs Go.RowKit
attribute[local irreducible] CallOk HOk Run TIok rbin rcmp run1 updF shfF blitF
def ts0 (lf:ME1):Tbl:=tbL [] []
theorem ts0_ok:TblOk Try.prog (ts0 me1):=tbL_ok nofun nofun
def sCost (lf:ME1):ESpec:=fun l=>match l with
 | [.agg (.prt [.v s d])]=>if shEq s MS then some (.a (.one (.int .i64 (lf.cost d))),[lf.mf.mFit d])else none
 |_=>none
theorem cost_ok:CallOk Try.prog 39 (sCost me1):=by
 refine .of_run (hc:=(ts0 me1).hc) Try.func39 rfl (by kernel_rfl) (by kernel_rfl) fun xs v ps hs hp w=>?_
 unfold sCost at hs
 split at hs
 ·rename_i s d
  split at hs
  ·rename_i hsh
   obtain rfl:=shEq_eq hsh
   clear hsh
   cases hs
   obtain⟨m,rfl,hmo,hf⟩:mFit d:=hp (me1.mf.mFit d) (by simp)
   clear hp
   rw[show me1.cost m.D=costV m from congrArg costV (msOf_D m)]
   obtain⟨a0,a1,a2,a3,a4,⟨a5t,a5s,a5i,a5p⟩,⟨a6t,a6s,a6i,a6p⟩,a7,a8,a9,a10,a11,a12,a13,a14,a15,a16,a17,a18,a19,a20,a21,a22⟩:=m
   simp only at hf
   obtain⟨C0,hC0⟩:∃c:Int,c=costI ⟨a0,a1,a2,a3,a4,⟨a5t,a5s,a5i,a5p⟩,⟨a6t,a6s,a6i,a6p⟩,a7,a8,a9,a10,a11,a12,a13,a14,a15,a16,a17,a18,a19,a20,a21,a22⟩:=⟨_,rfl⟩
   refine ra ts0_ok 0 false 400 [] [1,3,57,58,59] [3,59] ?_ ?_
   ·simp only[conj,z0,z2,arR,z1,zd]<;>(repeat' with_reducible apply And.intro)<;>first|omega|assumption|rfl|trivial
   refine Run.loop (ι:={q:Int×Int×Int // (0≤q.1∧q.1≤a16.length)∧q.2.2=a16.length∧q.2.1=IntKind.i64.wrap (C0+sumI strS (a16.take q.1.toNat))})
    (fun i=>([.z,.a (.one (.ptr 0 (.lit 0))),.z,.a (.one (.int .i64 i.1.2.1)),.z,.z,.z,.z,.z,.z,.z,.z,.z,.z,.z,.z,.z,.z,.z,.z,.z,.z,.z,.z,.z,.z,.z,.z,.z,.z,.z,.z,.z,.z,.z,.z,.z,.z,.z,.z,.z,.z,.z,.z,.z,.z,.z,.z,.z,.z,.z,.z,.z,.z,.z,.z,.z,.a (.one (.dat (.str) a16 none)),.a (.one (.int .i64 i.1.2.2)),.a (.one (.int .i64 i.1.1)),.z,.z,.z,.z,.z,.z,.z,.z,.z,.z,.z,.z,.z,.z,.z,.z,.z,.z,.z,.z,.z,.z,.z,.z,.z,.z,.z,.z,.z,.z,.z,.z,.z,.z],[some ⟨false,.prt [.v MS (MD a0 a1 a2 a3 a4 a5t a5s a5i a5p a6t a6s a6i a6p a7 a8 a9 a10 a11 a12 a13 a14 a15 a16 a17 a18 a19 a20 a21 a22)]⟩]))
    (fun i=>(a16.length-i.1.1).toNat) ⟨(0,_,_),by simp only;omega,rfl,(by rw[hC0];exact cost_start _ _ _ _ _ _ _ _ _ _ _)⟩ ?_
   rintro⟨⟨p,n,len⟩,hp,hl,hn⟩ ih
   try simp only at hp hl hn
   by_cases hlt:p<a16.length
   ·have e1:rbin .add .i64 p 1=p+1:=addi (by omega) (by omega)
    have hs1:=sumI_take strS a16 hp.1 hlt
    refine ra ts0_ok 2 true 400 [true] [1,3,57,58,59] [3,59] ?_ ?_
    ·simp only[conj,z0,z2,arR,z1,hl,zd]<;>(repeat' with_reducible apply And.intro)<;>first|omega|assumption|rfl|trivial
    ·refine ih ⟨(_,_,_),?_,hl,?_⟩ ?_ _ _
     ·show 0≤rbin .add .i64 p 1∧rbin .add .i64 p 1≤a16.length
      rw[e1];omega
     ·show rbin .add .i64 n (strS (a16.getD p.toNat (.int 0)))=IntKind.i64.wrap (C0+sumI strS (a16.take (rbin .add .i64 p 1).toNat))
      rw[e1,hs1,cost_step n _ _ hn,Int.add_assoc]
     ·show((a16.length:Int)-rbin .add .i64 p 1).toNat<((a16.length:Int)-p).toNat
      rw[e1];omega
   ·have hpe:a16.take p.toNat=a16:=List.take_of_length_le (by omega)
    rw[hpe]at hn
    clear ih
    refine ra ts0_ok 2 false 400 [false] [1,3,69,70,71] [3,71] ?_ ?_
    ·simp only[conj,z0,z2,arR,z1,hl,zd]<;>(repeat' with_reducible apply And.intro)<;>first|omega|assumption|rfl|trivial
    refine Run.loop (ι:={q:Int×Int×Int // (0≤q.1∧q.1≤a22.length)∧q.2.2=a22.length∧q.2.1=IntKind.i64.wrap (C0+sumI strS a16+sumI strS (a22.take q.1.toNat))})
     (fun i=>([.z,.a (.one (.ptr 0 (.lit 0))),.z,.a (.one (.int .i64 i.1.2.1)),.z,.z,.z,.z,.z,.z,.z,.z,.z,.z,.z,.z,.z,.z,.z,.z,.z,.z,.z,.z,.z,.z,.z,.z,.z,.z,.z,.z,.z,.z,.z,.z,.z,.z,.z,.z,.z,.z,.z,.z,.z,.z,.z,.z,.z,.z,.z,.z,.z,.z,.z,.z,.z,.z,.z,.z,.z,.z,.z,.z,.z,.z,.z,.z,.z,.a (.one (.dat (.str) a22 none)),.a (.one (.int .i64 i.1.2.2)),.a (.one (.int .i64 i.1.1)),.z,.z,.z,.z,.z,.z,.z,.z,.z,.z,.z,.z,.z,.z,.z,.z,.z,.z,.z,.z,.z,.z],[some ⟨false,.prt [.v MS (MD a0 a1 a2 a3 a4 a5t a5s a5i a5p a6t a6s a6i a6p a7 a8 a9 a10 a11 a12 a13 a14 a15 a16 a17 a18 a19 a20 a21 a22)]⟩]))
     (fun i=>(a22.length-i.1.1).toNat) ⟨(0,n,_),by simp only;omega,rfl,(by rw[show sumI strS (a22.take (Int.toNat 0))=0 from rfl,Int.add_zero];exact hn)⟩ ?_
    rintro⟨⟨p,n,len⟩,hp,hl,hn⟩ ih
    try simp only at hp hl hn
    by_cases hlt:p<a22.length
    ·have e1:rbin .add .i64 p 1=p+1:=addi (by omega) (by omega)
     have hs1:=sumI_take strS a22 hp.1 hlt
     refine ra ts0_ok 2 true 400 [true] [1,3,69,70,71] [3,71] ?_ ?_
     ·simp only[conj,z0,z2,arR,z1,hl,zd]<;>(repeat' with_reducible apply And.intro)<;>first|omega|assumption|rfl|trivial
     ·refine ih ⟨(_,_,_),?_,hl,?_⟩ ?_ _ _
      ·show 0≤rbin .add .i64 p 1∧rbin .add .i64 p 1≤a22.length
       rw[e1];omega
      ·show rbin .add .i64 n (strS (a22.getD p.toNat (.int 0)))=IntKind.i64.wrap (C0+sumI strS a16+sumI strS (a22.take (rbin .add .i64 p 1).toNat))
       rw[e1,hs1,cost_step n _ _ hn,Int.add_assoc]
      ·show((a22.length:Int)-rbin .add .i64 p 1).toNat<((a22.length:Int)-p).toNat
       rw[e1];omega
    ·have hpe:a22.take p.toNat=a22:=List.take_of_length_le (by omega)
     rw[hpe]at hn
     clear ih
     refine ra ts0_ok 2 false 400 [false] [3,81,82,83] [3,83] ?_ ?_
     ·simp only[conj,z0,z2,arR,z1,hl,zd]<;>(repeat' with_reducible apply And.intro)<;>first|omega|assumption|rfl|trivial
     refine Run.loop (ι:={q:Int×Int×Int // (0≤q.1∧q.1≤a20.length)∧q.2.2=a20.length∧q.2.1=IntKind.i64.wrap (C0+sumI strS a16+sumI strS a22+sumI filS (a20.take q.1.toNat))})
      (fun i=>([.z,.z,.z,.a (.one (.int .i64 i.1.2.1)),.z,.z,.z,.z,.z,.z,.z,.z,.z,.z,.z,.z,.z,.z,.z,.z,.z,.z,.z,.z,.z,.z,.z,.z,.z,.z,.z,.z,.z,.z,.z,.z,.z,.z,.z,.z,.z,.z,.z,.z,.z,.z,.z,.z,.z,.z,.z,.z,.z,.z,.z,.z,.z,.z,.z,.z,.z,.z,.z,.z,.z,.z,.z,.z,.z,.z,.z,.z,.z,.z,.z,.z,.z,.z,.z,.z,.z,.a (.one (.dat (.two (.int .i64) .str) a20 none)),.a (.one (.int .i64 i.1.2.2)),.a (.one (.int .i64 i.1.1)),.z,.z,.z,.z,.z,.z,.z,.z,.z,.z],[]))
      (fun i=>(a20.length-i.1.1).toNat) ⟨(0,n,_),by simp only;omega,rfl,(by rw[show sumI filS (a20.take (Int.toNat 0))=0 from rfl,Int.add_zero];exact hn)⟩ ?_
     rintro⟨⟨p,n,len⟩,hp,hl,hn⟩ ih
     try simp only at hp hl hn
     by_cases hlt:p<a20.length
     ·have e1:rbin .add .i64 p 1=p+1:=addi (by omega) (by omega)
      have hs1:=sumI_take filS a20 hp.1 hlt
      refine ra ts0_ok 2 true 400 [true] [3,81,82,83] [3,83] ?_ ?_
      ·simp only[conj,z0,z2,arR,z1,hl,zd]<;>(repeat' with_reducible apply And.intro)<;>first|omega|assumption|rfl|trivial
      ·refine ih ⟨(_,_,_),?_,hl,?_⟩ ?_ _ _
       ·show 0≤rbin .add .i64 p 1∧rbin .add .i64 p 1≤a20.length
        rw[e1];omega
       ·simp only[arR,zd,Int.ofNat_eq_natCast]
        show rbin .add .i64 n (filS (a20.getD p.toNat (.int 0)))=IntKind.i64.wrap (C0+sumI strS a16+sumI strS a22+sumI filS (a20.take (rbin .add .i64 p 1).toNat))
        rw[e1,hs1,cost_step n _ _ hn,Int.add_assoc]
       ·show((a20.length:Int)-rbin .add .i64 p 1).toNat<((a20.length:Int)-p).toNat
        rw[e1];omega
     ·have hpe:a20.take p.toNat=a20:=List.take_of_length_le (by omega)
      rw[hpe]at hn
      clear ih
      refine rx ts0_ok 999 false 400 [false] ?_ ?_
      ·simp only[conj,z0,z2,arR,z1,hl,zd]<;>(repeat' with_reducible apply And.intro)<;>first|omega|assumption|rfl|trivial
      ·refine Run.ret ti_ok rfl rfl (.a (.int ?_))
       rw[hn]
       show IntKind.i64.wrap _=costV ⟨_,_,_,_,_,_,_,_,_,_,_,_,_,_,_,_,_,_,_,_,_,_,_⟩
       unfold costV
       apply congrArg
       show _=costI ⟨_,_,_,_,_,_,_,_,_,_,_,_,_,_,_,_,_,_,_,_,_,_,_⟩+sumI strS a16+sumI filS a20+sumI strS a22
       rw[←hC0]<;>omega
  ·cases hs
 ·cases hs
theorem rcost_ok:CallOk Try.prog 40 (sCost me1):=by
 refine .of_run (hc:=(ts0 me1).hc) Try.func40 rfl (by kernel_rfl) (by kernel_rfl) fun xs v ps hs hp w=>?_
 unfold sCost at hs
 split at hs
 ·rename_i s d
  split at hs
  ·rename_i hsh
   obtain rfl:=shEq_eq hsh
   clear hsh
   cases hs
   obtain⟨m,rfl,hmo,hf⟩:mFit d:=hp (me1.mf.mFit d) (by simp)
   clear hp
   rw[show me1.cost m.D=costV m from congrArg costV (msOf_D m)]
   obtain⟨a0,a1,a2,a3,a4,⟨a5t,a5s,a5i,a5p⟩,⟨a6t,a6s,a6i,a6p⟩,a7,a8,a9,a10,a11,a12,a13,a14,a15,a16,a17,a18,a19,a20,a21,a22⟩:=m
   simp only at hf
   obtain⟨C0,hC0⟩:∃c:Int,c=costI ⟨a0,a1,a2,a3,a4,⟨a5t,a5s,a5i,a5p⟩,⟨a6t,a6s,a6i,a6p⟩,a7,a8,a9,a10,a11,a12,a13,a14,a15,a16,a17,a18,a19,a20,a21,a22⟩:=⟨_,rfl⟩
   refine ra ts0_ok 0 false 400 [] [1,3,4] [3,4] ?_ ?_
   ·simp only[conj,z0,z2,arR,z1,zd]<;>(repeat' with_reducible apply And.intro)<;>first|omega|assumption|rfl|trivial
   refine Run.loop (ι:={q:Int×Int×Int // (0≤q.1∧q.1≤a16.length)∧q.2.2=a16.length∧q.2.1=IntKind.i64.wrap (C0+sumI strS (a16.take q.1.toNat))})
    (fun i=>([.z,.a (.one (.ptr 0 (.lit 0))),.z,.a (.one (.int .i64 i.1.2.1)),.a (.one (.int .i64 i.1.1)),.z,.z,.z,.z,.z,.z,.z,.z,.z,.z,.z,.z,.z,.z,.z,.z,.z,.z,.z,.z,.z,.z,.z,.z,.z,.z,.z,.z,.z,.z,.z,.z,.z,.z,.z,.z,.z,.z,.z,.z,.z,.z,.z,.z,.z,.z,.z,.z,.z,.z,.z,.z,.z,.z,.z,.z,.z,.z,.z,.z,.z,.z,.z,.z,.z,.z,.z,.z,.z,.z,.z,.z,.z,.z,.z,.z,.z,.z,.z,.z,.z,.z,.z,.z,.z,.z,.z,.z,.z,.z,.z,.z,.z,.z,.z],[some ⟨false,.prt [.v MS (MD a0 a1 a2 a3 a4 a5t a5s a5i a5p a6t a6s a6i a6p a7 a8 a9 a10 a11 a12 a13 a14 a15 a16 a17 a18 a19 a20 a21 a22)]⟩]))
    (fun i=>(a16.length-i.1.1).toNat) ⟨(0,_,(a16.length:Int)),by simp only;omega,rfl,(by rw[hC0];exact cost_start _ _ _ _ _ _ _ _ _ _ _)⟩ ?_
   rintro⟨⟨p,n,len⟩,hp,hl,hn⟩ ih
   try simp only at hp hl hn
   by_cases hlt:p<a16.length
   ·have e1:rbin .add .i64 p 1=p+1:=addi (by omega) (by omega)
    have hs1:=sumI_take strS a16 hp.1 hlt
    refine ra ts0_ok 2 true 400 [true] [1,3,4] [3,4] ?_ ?_
    ·simp only[conj,z0,z2,arR,z1,zd]<;>(repeat' with_reducible apply And.intro)<;>first|omega|assumption|rfl|trivial
    ·refine ih ⟨(_,_,len),?_,hl,?_⟩ ?_ _ _
     ·show 0≤rbin .add .i64 p 1∧rbin .add .i64 p 1≤a16.length
      rw[e1];omega
     ·show rbin .add .i64 n (strS (a16.getD p.toNat (.int 0)))=IntKind.i64.wrap (C0+sumI strS (a16.take (rbin .add .i64 p 1).toNat))
      rw[e1,hs1,cost_step n _ _ hn,Int.add_assoc]
     ·show((a16.length:Int)-rbin .add .i64 p 1).toNat<((a16.length:Int)-p).toNat
      rw[e1];omega
   ·have hpe:a16.take p.toNat=a16:=List.take_of_length_le (by omega)
    rw[hpe]at hn
    clear ih
    refine ra ts0_ok 2 false 400 [false] [1,3,5] [3,5] ?_ ?_
    ·simp only[conj,z0,z2,arR,z1,zd]<;>(repeat' with_reducible apply And.intro)<;>first|omega|assumption|rfl|trivial
    refine Run.loop (ι:={q:Int×Int×Int // (0≤q.1∧q.1≤a20.length)∧q.2.2=a20.length∧q.2.1=IntKind.i64.wrap (C0+sumI strS a16+sumI filS (a20.take q.1.toNat))})
     (fun i=>([.z,.a (.one (.ptr 0 (.lit 0))),.z,.a (.one (.int .i64 i.1.2.1)),.z,.a (.one (.int .i64 i.1.1)),.z,.z,.z,.z,.z,.z,.z,.z,.z,.z,.z,.z,.z,.z,.z,.z,.z,.z,.z,.z,.z,.z,.z,.z,.z,.z,.z,.z,.z,.z,.z,.z,.z,.z,.z,.z,.z,.z,.z,.z,.z,.z,.z,.z,.z,.z,.z,.z,.z,.z,.z,.z,.z,.z,.z,.z,.z,.z,.z,.z,.z,.z,.z,.z,.z,.z,.z,.z,.z,.z,.z,.z,.z,.z,.z,.z,.z,.z,.z,.z,.z,.z,.z,.z,.z,.z,.z,.z,.z,.z,.z,.z,.z,.z],[some ⟨false,.prt [.v MS (MD a0 a1 a2 a3 a4 a5t a5s a5i a5p a6t a6s a6i a6p a7 a8 a9 a10 a11 a12 a13 a14 a15 a16 a17 a18 a19 a20 a21 a22)]⟩]))
     (fun i=>(a20.length-i.1.1).toNat) ⟨(0,n,(a20.length:Int)),by simp only;omega,rfl,(by rw[show sumI filS (a20.take (Int.toNat 0))=0 from rfl,Int.add_zero];exact hn)⟩ ?_
    rintro⟨⟨p,n,len⟩,hp,hl,hn⟩ ih
    try simp only at hp hl hn
    by_cases hlt:p<a20.length
    ·have e1:rbin .add .i64 p 1=p+1:=addi (by omega) (by omega)
     have hs1:=sumI_take filS a20 hp.1 hlt
     refine ra ts0_ok 2 true 400 [true] [1,3,5] [3,5] ?_ ?_
     ·simp only[conj,z0,z2,arR,z1,zd]<;>(repeat' with_reducible apply And.intro)<;>first|omega|assumption|rfl|trivial
     ·refine ih ⟨(_,_,len),?_,hl,?_⟩ ?_ _ _
      ·show 0≤rbin .add .i64 p 1∧rbin .add .i64 p 1≤a20.length
       rw[e1];omega
      ·simp only[arR,zd,Int.ofNat_eq_natCast]
       show rbin .add .i64 n (filS (a20.getD p.toNat (.int 0)))=IntKind.i64.wrap (C0+sumI strS a16+sumI filS (a20.take (rbin .add .i64 p 1).toNat))
       rw[e1,hs1,cost_step n _ _ hn,Int.add_assoc]
      ·show((a20.length:Int)-rbin .add .i64 p 1).toNat<((a20.length:Int)-p).toNat
       rw[e1];omega
    ·have hpe:a20.take p.toNat=a20:=List.take_of_length_le (by omega)
     rw[hpe]at hn
     clear ih
     refine ra ts0_ok 2 false 400 [false] [1,3,6] [3,6] ?_ ?_
     ·simp only[conj,z0,z2,arR,z1,zd]<;>(repeat' with_reducible apply And.intro)<;>first|omega|assumption|rfl|trivial
     refine Run.loop (ι:={q:Int×Int×Int // (0≤q.1∧q.1≤a22.length)∧q.2.2=a22.length∧q.2.1=IntKind.i64.wrap (C0+sumI strS a16+sumI filS a20+sumI strS (a22.take q.1.toNat))})
      (fun i=>([.z,.a (.one (.ptr 0 (.lit 0))),.z,.a (.one (.int .i64 i.1.2.1)),.z,.z,.a (.one (.int .i64 i.1.1)),.z,.z,.z,.z,.z,.z,.z,.z,.z,.z,.z,.z,.z,.z,.z,.z,.z,.z,.z,.z,.z,.z,.z,.z,.z,.z,.z,.z,.z,.z,.z,.z,.z,.z,.z,.z,.z,.z,.z,.z,.z,.z,.z,.z,.z,.z,.z,.z,.z,.z,.z,.z,.z,.z,.z,.z,.z,.z,.z,.z,.z,.z,.z,.z,.z,.z,.z,.z,.z,.z,.z,.z,.z,.z,.z,.z,.z,.z,.z,.z,.z,.z,.z,.z,.z,.z,.z,.z,.z,.z,.z,.z,.z],[some ⟨false,.prt [.v MS (MD a0 a1 a2 a3 a4 a5t a5s a5i a5p a6t a6s a6i a6p a7 a8 a9 a10 a11 a12 a13 a14 a15 a16 a17 a18 a19 a20 a21 a22)]⟩]))
      (fun i=>(a22.length-i.1.1).toNat) ⟨(0,n,(a22.length:Int)),by simp only;omega,rfl,(by rw[show sumI strS (a22.take (Int.toNat 0))=0 from rfl,Int.add_zero];exact hn)⟩ ?_
     rintro⟨⟨p,n,len⟩,hp,hl,hn⟩ ih
     try simp only at hp hl hn
     by_cases hlt:p<a22.length
     ·have e1:rbin .add .i64 p 1=p+1:=addi (by omega) (by omega)
      have hs1:=sumI_take strS a22 hp.1 hlt
      refine ra ts0_ok 2 true 400 [true] [1,3,6] [3,6] ?_ ?_
      ·simp only[conj,z0,z2,arR,z1,zd]<;>(repeat' with_reducible apply And.intro)<;>first|omega|assumption|rfl|trivial
      ·refine ih ⟨(_,_,len),?_,hl,?_⟩ ?_ _ _
       ·show 0≤rbin .add .i64 p 1∧rbin .add .i64 p 1≤a22.length
        rw[e1];omega
       ·show rbin .add .i64 n (strS (a22.getD p.toNat (.int 0)))=IntKind.i64.wrap (C0+sumI strS a16+sumI filS a20+sumI strS (a22.take (rbin .add .i64 p 1).toNat))
        rw[e1,hs1,cost_step n _ _ hn,Int.add_assoc]
       ·show((a22.length:Int)-rbin .add .i64 p 1).toNat<((a22.length:Int)-p).toNat
        rw[e1];omega
     ·have hpe:a22.take p.toNat=a22:=List.take_of_length_le (by omega)
      rw[hpe]at hn
      clear ih
      refine rx ts0_ok 999 false 400 [false] ?_ ?_
      ·simp only[conj,z0,z2,arR,z1,hl,zd]<;>(repeat' with_reducible apply And.intro)<;>first|omega|assumption|rfl|trivial
      ·refine Run.ret ti_ok rfl rfl (.a (.int ?_))
       rw[hn]
       show IntKind.i64.wrap _=costV ⟨_,_,_,_,_,_,_,_,_,_,_,_,_,_,_,_,_,_,_,_,_,_,_⟩
       unfold costV
       apply congrArg
       show _=costI ⟨_,_,_,_,_,_,_,_,_,_,_,_,_,_,_,_,_,_,_,_,_,_,_⟩+sumI strS a16+sumI filS a20+sumI strS a22
       rw[←hC0]<;>omega
  ·cases hs
 ·cases hs
end Go.Proofs.Ytlbllaocdilafaa
