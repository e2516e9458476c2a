import Derived.Test.YtlbllaocdilafaaZ25
import Derived.Test.YtlbllaocdilafaaZ35
set_option linter.unusedSimpArgs false
set_option linter.unusedVariables false
set_option maxRecDepth 100000
set_option maxHeartbeats 16000000
namespace Go.Proofs.Ytlbllaocdilafaa
open Go Go.Eng Go.Proofs Go.RowKit
attribute[local irreducible] CallOk HOk Run TIok rbin rcmp run1 updF shfF blitF
theorem rnamed_ok:CallOk Try.prog 74 (sNamed me3):=by
 refine .of_run (hc:=(ts2 me3).hc) Try.func74 rfl (by kernel_rfl) (by kernel_rfl) fun xs v ps hs hp w=>?_
 unfold sNamed at hs
 split at hs
 ·rename_i s d
  split at hs
  ·rename_i hsh
   obtain rfl:=shEq_eq hsh
   clear hsh
   cases hs
   obtain⟨m,rfl,hmo,hf⟩:mFit d:=hp (me3.mf.mFit d) (by simp)
   obtain⟨-,-,h14,h15,-⟩:=hmo
   clear hp hf
   rw[show me3.named m.D=(namedM m).D from congrArg (fun x=>(namedM x).D) (msOf_D m)]
   obtain⟨a0,a1,a2,a3,a4,⟨a5t,a5s,a5i,a5p⟩,⟨a6t,a6s,a6i,a6p⟩,a7,a8,a9,a10,a11,a12,a13,a14,a15,a16,a17,a18,a19,a20,a21,a22⟩:=m
   replace h14:a14.length=32:=h14
   replace h15:a15.length=32:=h15
   by_cases h1:a0=1
   ·subst h1
    refine rx ts2_ok 999 false 400 [true] ?_ ?_
    ·simp only[conj,z0,z2,arR,z1,zd]<;>(repeat' with_reducible apply And.intro)<;>first|omega|assumption|rfl|trivial
    ·exact Run.ret ti_ok rfl rfl (.a (ALe.prt rfl))
   by_cases h5:a0=5
   ·subst h5
    clear h1
    refine rx ts2_ok 999 false 400 [false,true,true] ?_ ?_
    ·simp only[conj,z0,z2,arR,z1,zd]<;>(repeat' with_reducible apply And.intro)<;>first|omega|assumption|rfl|trivial
    ·exact Run.ret ti_ok rfl rfl (.a (ALe.prt rfl))
   by_cases h6:a0=6
   ·subst h6
    clear h1 h5
    refine rx ts2_ok 999 false 400 [false,false,true] ?_ ?_
    ·simp only[conj,z0,z2,arR,z1,zd]<;>(repeat' with_reducible apply And.intro)<;>first|omega|assumption|rfl|trivial
    ·exact Run.ret ti_ok rfl rfl (.a (ALe.prt rfl))
   by_cases h7:a0=7
   ·subst h7
    clear h1 h5 h6
    refine rx ts2_ok 999 false 400 [false,false,false,true] ?_ ?_
    ·simp only[conj,z0,z2,arR,z1,zd]<;>(repeat' with_reducible apply And.intro)<;>first|omega|assumption|rfl|trivial
    ·exact Run.ret ti_ok rfl rfl (.a (ALe.prt rfl))
   by_cases h8:a0=8
   ·subst h8
    clear h1 h5 h6 h7
    refine rx ts2_ok 999 false 400 [false,false,false,false,true,true,true] ?_ ?_
    ·simp only[conj,z0,z2,arR,z1,zd]<;>(repeat' with_reducible apply And.intro)<;>first|omega|assumption|rfl|trivial
    ·exact Run.ret ti_ok rfl rfl (.a (ALe.prt rfl))
   by_cases h9:a0=9
   ·subst h9
    clear h1 h5 h6 h7 h8
    refine rx ts2_ok 999 false 400 [false,false,false,false,false,true,true] ?_ ?_
    ·simp only[conj,z0,z2,arR,z1,zd]<;>(repeat' with_reducible apply And.intro)<;>first|omega|assumption|rfl|trivial
    ·exact Run.ret ti_ok rfl rfl (.a (ALe.prt rfl))
   by_cases h10:a0=10
   ·subst h10
    clear h1 h5 h6 h7 h8 h9
    refine rx ts2_ok 999 false 400 [false,false,false,false,false,false,true] ?_ ?_
    ·simp only[conj,z0,z2,arR,z1,zd]<;>(repeat' with_reducible apply And.intro)<;>first|omega|assumption|rfl|trivial
    ·exact Run.ret ti_ok rfl rfl (.a (ALe.prt rfl))
   by_cases h11:a0=11
   ·subst h11
    clear h1 h5 h6 h7 h8 h9 h10
    rw[show namedM ⟨11,a1,a2,a3,a4,⟨a5t,a5s,a5i,a5p⟩,⟨a6t,a6s,a6i,a6p⟩,a7,a8,a9,a10,a11,a12,a13,a14,a15,a16,a17,a18,a19,a20,a21,a22⟩={bareM 11 with ver:=a1,hashes:=a13,stop:=(List.range 32).map fun j=>a14.getD j 0}from by rw[row_mk h14];rfl]
    refine rx ts2_ok 999 false 400 [false,false,false,false,false,false,false,true] ?_ ?_
    ·simp only[conj,z0,z2,arR,z1,zd]<;>(repeat' with_reducible apply And.intro)<;>first|omega|assumption|rfl|trivial
    ·exact Run.ret ti_ok rfl rfl (.a (ALe.prt rfl))
   by_cases h12:a0=12
   ·subst h12
    clear h1 h5 h6 h7 h8 h9 h10 h11
    refine rx ts2_ok 999 false 400 [false,false,false,false,false,false,false,false,true] ?_ ?_
    ·simp only[conj,z0,z2,arR,z1,zd]<;>(repeat' with_reducible apply And.intro)<;>first|omega|assumption|rfl|trivial
    ·exact Run.ret ti_ok rfl rfl (.a (ALe.prt rfl))
   by_cases h13:a0=13
   ·subst h13
    clear h1 h5 h6 h7 h8 h9 h10 h11 h12
    refine rx ts2_ok 999 false 400 [false,false,false,false,false,false,false,false,false,true,true] ?_ ?_
    ·simp only[conj,z0,z2,arR,z1,zd]<;>(repeat' with_reducible apply And.intro)<;>first|omega|assumption|rfl|trivial
    ·exact Run.ret ti_ok rfl rfl (.a (ALe.prt rfl))
   by_cases h14:a0=14
   ·subst h14
    clear h1 h5 h6 h7 h8 h9 h10 h11 h12 h13
    refine rx ts2_ok 999 false 400 [false,false,false,false,false,false,false,false,false,false,true] ?_ ?_
    ·simp only[conj,z0,z2,arR,z1,zd]<;>(repeat' with_reducible apply And.intro)<;>first|omega|assumption|rfl|trivial
    ·exact Run.ret ti_ok rfl rfl (.a (ALe.prt rfl))
   by_cases h15:a0=15
   ·subst h15
    clear h1 h5 h6 h7 h8 h9 h10 h11 h12 h13 h14
    refine rx ts2_ok 999 false 400 [false,false,false,false,false,false,false,false,false,false,false,true] ?_ ?_
    ·simp only[conj,z0,z2,arR,z1,zd]<;>(repeat' with_reducible apply And.intro)<;>first|omega|assumption|rfl|trivial
    ·exact Run.ret ti_ok rfl rfl (.a (ALe.prt rfl))
   by_cases h16:a0=16
   ·subst h16
    clear h1 h5 h6 h7 h8 h9 h10 h11 h12 h13 h14 h15
    refine rx ts2_ok 999 false 400 [false,false,false,false,false,false,false,false,false,false,false,false,true] ?_ ?_
    ·simp only[conj,z0,z2,arR,z1,zd]<;>(repeat' with_reducible apply And.intro)<;>first|omega|assumption|rfl|trivial
    ·exact Run.ret ti_ok rfl rfl (.a (ALe.prt rfl))
   by_cases h17:a0=17
   ·subst h17
    clear h1 h5 h6 h7 h8 h9 h10 h11 h12 h13 h14 h15 h16
    rw[show namedM ⟨17,a1,a2,a3,a4,⟨a5t,a5s,a5i,a5p⟩,⟨a6t,a6s,a6i,a6p⟩,a7,a8,a9,a10,a11,a12,a13,a14,a15,a16,a17,a18,a19,a20,a21,a22⟩={bareM 17 with places:=a21,hash:=(List.range 32).map fun j=>a15.getD j 0}from by rw[row_mk h15];rfl]
    refine rx ts2_ok 999 false 400 [false,false,false,false,false,false,false,false,false,false,false,false,false,true] ?_ ?_
    ·simp only[conj,z0,z2,arR,z1,zd]<;>(repeat' with_reducible apply And.intro)<;>first|omega|assumption|rfl|trivial
    ·exact Run.ret ti_ok rfl rfl (.a (ALe.prt rfl))
   by_cases h18:a0=18
   ·subst h18
    clear h1 h5 h6 h7 h8 h9 h10 h11 h12 h13 h14 h15 h16 h17
    rw[show namedM ⟨18,a1,a2,a3,a4,⟨a5t,a5s,a5i,a5p⟩,⟨a6t,a6s,a6i,a6p⟩,a7,a8,a9,a10,a11,a12,a13,a14,a15,a16,a17,a18,a19,a20,a21,a22⟩={bareM 18 with raws:=a22,hash:=(List.range 32).map fun j=>a15.getD j 0}from by rw[row_mk h15];rfl]
    refine rx ts2_ok 999 false 400 [false,false,false,false,false,false,false,false,false,false,false,false,false,false,true] ?_ ?_
    ·simp only[conj,z0,z2,arR,z1,zd]<;>(repeat' with_reducible apply And.intro)<;>first|omega|assumption|rfl|trivial
    ·exact Run.ret ti_ok rfl rfl (.a (ALe.prt rfl))
   have e:namedM ⟨a0,a1,a2,a3,a4,⟨a5t,a5s,a5i,a5p⟩,⟨a6t,a6s,a6i,a6p⟩,a7,a8,a9,a10,a11,a12,a13,a14,a15,a16,a17,a18,a19,a20,a21,a22⟩=bareM a0:=by
    unfold namedM
    simp only[h1,h5,h6,h7,h8,h9,h10,h11,h12,h13,h14,h15,h16,h17,h18,or_self,if_false]
   rw[e]
   refine rx ts2_ok 999 false 400 [false,false,false,false,false,false,false,false,false,false,false,false,false,false,false] ?_ ?_
   ·simp only[conj,z0,z2,arR,z1,zd]<;>(repeat' with_reducible apply And.intro)<;>first|omega|assumption|rfl|trivial
   ·exact Run.ret ti_ok rfl rfl (.a (ALe.prt rfl))
  ·cases hs
 ·cases hs
def ts5 (lf:ME5):Tbl:=tbL [(74,sNamed lf.toME4.toME3),(35,sSame lf.toME4.toME3.toME2.toME1.toLN9.toLN8.toLN7.toLN6.toLN5.toLN4.toLN1.toLQm)] []
theorem ts5_ok:TblOk Try.prog (ts5 me5):=tbL_ok (mc ⟨rnamed_ok,mc ⟨rsame_ok,nofun⟩⟩) nofun
theorem odd_ok:CallOk Try.prog 75 (sWrong me5):=by
 refine .of_run (hc:=(ts5 me5).hc) Try.func75 rfl (by kernel_rfl) (by kernel_rfl) fun xs v ps hs hp w=>?_
 unfold sWrong at hs
 split at hs
 ·rename_i s d
  split at hs
  ·rename_i hsh
   obtain rfl:=shEq_eq hsh
   clear hsh
   cases hs
   have hmf:mFit d:=hp (me5.mf.mFit d) (by simp)
   obtain⟨m,rfl,hmo,hf⟩:=hmf
   have hmf:mFit m.D:=hp (me5.mf.mFit m.D) (by simp)
   clear hp
   rw[show me5.wrong m.D=wrongV m from congrArg wrongV (msOf_D m)]
   have hnm:me5.named m.D=(namedM m).D:=congrArg (fun x=>(namedM x).D) (msOf_D m)
   have hmo1:mOk m.D:=⟨m,rfl,hmo⟩
   have hmo2:mOk (me5.named m.D):=⟨namedM m,hnm,named_ok2 hmo⟩
   have hyes:wrongP m→wrongV m=true:=wrong_yes
   have hno:¬wrongP m→wrongV m=false:=wrong_no
   generalize hmv:wrongV m=mv at hyes hno ⊢
   unfold wrongP at hyes hno
   rw[←hnm]at hyes hno
   obtain⟨a0,a1,a2,a3,a4,⟨a5t,a5s,a5i,a5p⟩,⟨a6t,a6s,a6i,a6p⟩,a7,a8,a9,a10,a11,a12,a13,a14,a15,a16,a17,a18,a19,a20,a21,a22⟩:=m
   simp only at hf hyes hno
   refine ra ts5_ok 0 false 400 [] [1,3] [3] ?_ ?_
   ·simp only[conj,z0,z2,arR,z1,zd]<;>(repeat' with_reducible apply And.intro)<;>first|omega|assumption|rfl|trivial
   refine Run.loop (ι:={q:Int×Int // (0≤q.1∧q.1≤a16.length)∧q.2=a16.length∧∀i,i<q.1.toNat→¬strS (a16.getD i (.int 0))≠80})
    (fun i=>([.z,.a (.one (.ptr 0 (.lit 0))),.z,.a (.one (.int .i64 i.1.1)),.z,.z,.z,.z,.z,.z,.z,.z,.z,.z,.z,.z,.z,.z,.z,.z,.z,.z,.z,.z,.z,.z,.z,.z,.z,.z,.z,.z,.z,.z,.z,.z,.z,.z,.z,.z,.z,.z,.z,.z,.z,.z,.z,.z,.z,.z,.z,.z,.z,.z,.z,.z,.z,.z,.z,.z,.z,.z,.z,.z,.z,.z,.z,.z,.z,.z,.z,.z,.z,.z,.z,.z,.z,.z,.z,.z,.z,.z,.z,.z,.z,.z,.z,.z,.z,.z,.z,.z,.z,.z,.z,.z,.z,.z,.z,.z,.z,.z,.z,.z,.z,.z],[some ⟨false,.prt [.v MS (MD a0 a1 a2 a3 a4 a5t a5s a5i a5p a6t a6s a6i a6p a7 a8 a9 a10 a11 a12 a13 a14 a15 a16 a17 a18 a19 a20 a21 a22)]⟩]))
    (fun i=>(a16.length-i.1.1).toNat) ⟨(0,(a16.length:Int)),by simp only;omega,rfl,fun i hi=>by simp at hi⟩ ?_
   rintro⟨⟨p,len⟩,hp,hl,hq⟩ ih
   try simp only at hp hl hq
   by_cases hlt:p<a16.length
   ·have e1:rbin .add .i64 p 1=p+1:=addi (by omega) (by omega)
    by_cases hb:strS (a16.getD p.toNat (.int 0))≠80
    ·have h0:=some_at (P:=fun d=>strS d≠80) hp.1 hlt hb
     unfold strS at hb
     refine rx ts5_ok 999 false 400 [true,true] ?_ ?_
     ·simp only[conj,z0,z2,arR,z1,zd]<;>(repeat' with_reducible apply And.intro)<;>first|omega|assumption|rfl|trivial
     ·exact Run.ret ti_ok rfl rfl (.a (.lbool (hyes (.inl h0)).symm))
    ·have hq':=upto (Q:=fun i=>¬strS (a16.getD i (.int 0))≠80) hp.1 hq hb
     unfold strS at hb
     refine ra ts5_ok 2 true 400 [true,false] [1,3] [3] ?_ ?_
     ·simp only[conj,z0,z2,arR,z1,zd]<;>(repeat' with_reducible apply And.intro)<;>first|omega|assumption|rfl|trivial
     ·refine ih ⟨(_,len),?_,hl,?_⟩ ?_ _ _
      ·show 0≤rbin .add .i64 p 1∧rbin .add .i64 p 1≤a16.length
       rw[e1];omega
      ·show ∀i,i<(rbin .add .i64 p 1).toNat→_
       rw[e1];exact hq'
      ·show((a16.length:Int)-rbin .add .i64 p 1).toNat<((a16.length:Int)-p).toNat
       rw[e1];omega
   ·have h0:=none_at (P:=fun d=>strS d≠80) hlt hq
    by_cases h16:a0=16
    ·by_cases h80:(a17.size:Int)≠80
     ·refine rx ts5_ok 999 false 400 [false,true,true] ?_ ?_
      ·simp only[conj,z0,z2,arR,z1,zd]<;>(repeat' with_reducible apply And.intro)<;>first|omega|assumption|rfl|trivial
      ·exact Run.ret ti_ok rfl rfl (.a (.lbool (hyes (.inr (.inr (.inl ⟨h16,h80⟩)))).symm))
     ·refine ra ts5_ok 2 false 400 [false,true,false] [1,4] [4] ?_ ?_
      ·simp only[conj,z0,z2,arR,z1,zd]<;>(repeat' with_reducible apply And.intro)<;>first|omega|assumption|rfl|trivial
      refine Run.loop (ι:={q:Int×Int // (0≤q.1∧q.1≤a19.length)∧q.2=a19.length∧∀i,i<q.1.toNat→¬intS (a19.getD i (.int 0))>281474976710655})
       (fun i=>([.z,.a (.one (.ptr 0 (.lit 0))),.z,.z,.a (.one (.int .i64 i.1.1)),.z,.z,.z,.z,.z,.z,.z,.z,.z,.z,.z,.z,.z,.z,.z,.z,.z,.z,.z,.z,.z,.z,.z,.z,.z,.z,.z,.z,.z,.z,.z,.z,.z,.z,.z,.z,.z,.z,.z,.z,.z,.z,.z,.z,.z,.z,.z,.z,.z,.z,.z,.z,.z,.z,.z,.z,.z,.z,.z,.z,.z,.z,.z,.z,.z,.z,.z,.z,.z,.z,.z,.z,.z,.z,.z,.z,.z,.z,.z,.z,.z,.z,.z,.z,.z,.z,.z,.z,.z,.z,.z,.z,.z,.z,.z,.z,.z,.z,.z,.z,.z],[some ⟨false,.prt [.v MS (MD a0 a1 a2 a3 a4 a5t a5s a5i a5p a6t a6s a6i a6p a7 a8 a9 a10 a11 a12 a13 a14 a15 a16 a17 a18 a19 a20 a21 a22)]⟩]))
       (fun i=>(a19.length-i.1.1).toNat) ⟨(0,(a19.length:Int)),by simp only;omega,rfl,fun i hi=>by simp at hi⟩ ?_
      rintro⟨⟨p,len⟩,hp,hl,hq⟩ ih
      try simp only at hp hl hq
      by_cases hlt:p<a19.length
      ·have e1:rbin .add .i64 p 1=p+1:=addi (by omega) (by omega)
       by_cases hb:intS (a19.getD p.toNat (.int 0))>281474976710655
       ·have h1:=some_at (P:=fun d=>intS d>281474976710655) hp.1 hlt hb
        unfold intS at hb
        refine rx ts5_ok 999 false 400 [true,true] ?_ ?_
        ·simp only[conj,z0,z2,arR,z1,zd]<;>(repeat' with_reducible apply And.intro)<;>first|omega|assumption|rfl|trivial
        ·exact Run.ret ti_ok rfl rfl (.a (.lbool (hyes (.inr (.inl h1))).symm))
       ·have hq':=upto (Q:=fun i=>¬intS (a19.getD i (.int 0))>281474976710655) hp.1 hq hb
        unfold intS at hb
        refine ra ts5_ok 2 true 400 [true,false] [1,4] [4] ?_ ?_
        ·simp only[conj,z0,z2,arR,z1,zd]<;>(repeat' with_reducible apply And.intro)<;>first|omega|assumption|rfl|trivial
        ·refine ih ⟨(_,len),?_,hl,?_⟩ ?_ _ _
         ·show 0≤rbin .add .i64 p 1∧rbin .add .i64 p 1≤a19.length
          rw[e1];omega
         ·show ∀i,i<(rbin .add .i64 p 1).toNat→_
          rw[e1];exact hq'
         ·show((a19.length:Int)-rbin .add .i64 p 1).toNat<((a19.length:Int)-p).toNat
          rw[e1];omega
      ·have h1:=none_at (P:=fun d=>intS d>281474976710655) hlt hq
       refine ra ts5_ok 2 false 400 [false] [1,5,6] [5,6] ?_ ?_
       ·simp only[conj,z0,z2,arR,z1,zd]<;>(repeat' with_reducible apply And.intro)<;>first|omega|assumption|rfl|trivial
       refine Run.loop (ι:={q:Int×Int // (0≤q.1∧q.1≤a20.length)∧q.2=prevI filP a20 q.1.toNat∧∀i,i<q.1.toNat→okAt filP a20 i})
        (fun i=>([.z,.a (.one (.ptr 0 (.lit 0))),.z,.z,.z,.a (.one (.int .i64 i.1.2)),.a (.one (.int .i64 i.1.1)),.z,.z,.z,.z,.z,.z,.z,.z,.z,.z,.z,.z,.z,.z,.z,.z,.z,.z,.z,.z,.z,.z,.z,.z,.z,.z,.z,.z,.z,.z,.z,.z,.z,.z,.z,.z,.z,.z,.z,.z,.z,.z,.z,.z,.z,.z,.z,.z,.z,.z,.z,.z,.z,.z,.z,.z,.z,.z,.z,.z,.z,.z,.z,.z,.z,.z,.z,.z,.z,.z,.z,.z,.z,.z,.z,.z,.z,.z,.z,.z,.z,.z,.z,.z,.z,.z,.z,.z,.z,.z,.z,.z,.z,.z,.z,.z,.z,.z,.z],[some ⟨false,.prt [.v MS (MD a0 a1 a2 a3 a4 a5t a5s a5i a5p a6t a6s a6i a6p a7 a8 a9 a10 a11 a12 a13 a14 a15 a16 a17 a18 a19 a20 a21 a22)]⟩]))
        (fun i=>(a20.length-i.1.1).toNat) ⟨(0,-1),by simp only;omega,rfl,fun i hi=>by simp at hi⟩ ?_
       rintro⟨⟨p,la⟩,hp,hl,hq⟩ ih
       try simp only at hp hl hq
       by_cases hlt:p<a20.length
       ·have e1:rbin .add .i64 p 1=p+1:=addi (by omega) (by omega)
        have hat:okAt filP a20 p.toNat↔la<(a20.getD p.toNat (.int 0)).fst!.int!∧(a20.getD p.toNat (.int 0)).fst!.int!≤65535:=by rw[hl];exact Iff.rfl
        have hnx:(a20.getD p.toNat (.int 0)).fst!.int! = prevI filP a20 (p+1).toNat:=by rw[show(p+1).toNat=p.toNat+1 by omega];rfl
        have hbad:¬okAt filP a20 p.toNat→¬riseP filP a20:=fun h hr=>h (hr p.toNat (by omega))
        generalize hx:(a20.getD p.toNat (.int 0)).fst!.int! = x at hat hnx
        by_cases h1:x≤la
        ·have r1:=hbad (fun h=>by have:=hat.1 h;omega)
         refine rx ts5_ok 999 false 400 [true,true,true] ?_ ?_
         ·simp only[conj,z0,z2,arR,z1,hx,zd]<;>(repeat' with_reducible apply And.intro)<;>first|omega|assumption|rfl|trivial
         ·exact Run.ret ti_ok rfl rfl (.a (.lbool (hyes (.inr (.inr (.inr (.inl r1))))).symm))
        by_cases h2:x>65535
        ·have r1:=hbad (fun h=>by have:=hat.1 h;omega)
         refine rx ts5_ok 999 false 400 [true,false,true,true] ?_ ?_
         ·simp only[conj,z0,z2,arR,z1,hx,zd]<;>(repeat' with_reducible apply And.intro)<;>first|omega|assumption|rfl|trivial
         ·exact Run.ret ti_ok rfl rfl (.a (.lbool (hyes (.inr (.inr (.inr (.inl r1))))).symm))
        have hq':=upto hp.1 hq (hat.2 (by omega))
        refine ra ts5_ok 2 true 400 [true,false,false] [1,5,6] [5,6] ?_ ?_
        ·simp only[conj,z0,z2,arR,z1,hx,zd]<;>(repeat' with_reducible apply And.intro)<;>first|omega|assumption|rfl|trivial
        ·refine ih ⟨(_,_),?_,?_,?_⟩ ?_ _ _
         ·show 0≤rbin .add .i64 p 1∧rbin .add .i64 p 1≤a20.length
          rw[e1];omega
         ·show(a20.getD p.toNat (.int 0)).fst!.int! = prevI filP a20 (rbin .add .i64 p 1).toNat
          rw[e1,←hnx,←hx]
         ·show ∀i,i<(rbin .add .i64 p 1).toNat→_
          rw[e1];exact hq'
         ·show((a20.length:Int)-rbin .add .i64 p 1).toNat<((a20.length:Int)-p).toNat
          rw[e1];omega
       ·have r1:riseP filP a20:=fun i hi=>hq i (by omega)
        refine ra ts5_ok 2 false 400 [false] [1,5,7] [5,7] ?_ ?_
        ·simp only[conj,z0,z2,arR,z1,zd]<;>(repeat' with_reducible apply And.intro)<;>first|omega|assumption|rfl|trivial
        refine Run.loop (ι:={q:Int×Int // (0≤q.1∧q.1≤a21.length)∧q.2=prevI intS a21 q.1.toNat∧∀i,i<q.1.toNat→okAt intS a21 i})
         (fun i=>([.z,.a (.one (.ptr 0 (.lit 0))),.z,.z,.z,.a (.one (.int .i64 i.1.2)),.z,.a (.one (.int .i64 i.1.1)),.z,.z,.z,.z,.z,.z,.z,.z,.z,.z,.z,.z,.z,.z,.z,.z,.z,.z,.z,.z,.z,.z,.z,.z,.z,.z,.z,.z,.z,.z,.z,.z,.z,.z,.z,.z,.z,.z,.z,.z,.z,.z,.z,.z,.z,.z,.z,.z,.z,.z,.z,.z,.z,.z,.z,.z,.z,.z,.z,.z,.z,.z,.z,.z,.z,.z,.z,.z,.z,.z,.z,.z,.z,.z,.z,.z,.z,.z,.z,.z,.z,.z,.z,.z,.z,.z,.z,.z,.z,.z,.z,.z,.z,.z,.z,.z,.z,.z],[some ⟨false,.prt [.v MS (MD a0 a1 a2 a3 a4 a5t a5s a5i a5p a6t a6s a6i a6p a7 a8 a9 a10 a11 a12 a13 a14 a15 a16 a17 a18 a19 a20 a21 a22)]⟩]))
         (fun i=>(a21.length-i.1.1).toNat) ⟨(0,-1),by simp only;omega,rfl,fun i hi=>by simp at hi⟩ ?_
        rintro⟨⟨p,la⟩,hp,hl,hq⟩ ih
        try simp only at hp hl hq
        by_cases hlt:p<a21.length
        ·have e1:rbin .add .i64 p 1=p+1:=addi (by omega) (by omega)
         have hat:okAt intS a21 p.toNat↔la<(a21.getD p.toNat (.int 0)).int!∧(a21.getD p.toNat (.int 0)).int!≤65535:=by rw[hl];exact Iff.rfl
         have hnx:(a21.getD p.toNat (.int 0)).int! = prevI intS a21 (p+1).toNat:=by rw[show(p+1).toNat=p.toNat+1 by omega];rfl
         have hbad:¬okAt intS a21 p.toNat→¬riseP intS a21:=fun h hr=>h (hr p.toNat (by omega))
         generalize hx:(a21.getD p.toNat (.int 0)).int! = x at hat hnx
         by_cases h1:x≤la
         ·have r2:=hbad (fun h=>by have:=hat.1 h;omega)
          refine rx ts5_ok 999 false 400 [true,true,true] ?_ ?_
          ·simp only[conj,z0,z2,arR,z1,hx,zd]<;>(repeat' with_reducible apply And.intro)<;>first|omega|assumption|rfl|trivial
          ·exact Run.ret ti_ok rfl rfl (.a (.lbool (hyes (.inr (.inr (.inr (.inr (.inl r2)))))).symm))
         by_cases h2:x>65535
         ·have r2:=hbad (fun h=>by have:=hat.1 h;omega)
          refine rx ts5_ok 999 false 400 [true,false,true,true] ?_ ?_
          ·simp only[conj,z0,z2,arR,z1,hx,zd]<;>(repeat' with_reducible apply And.intro)<;>first|omega|assumption|rfl|trivial
          ·exact Run.ret ti_ok rfl rfl (.a (.lbool (hyes (.inr (.inr (.inr (.inr (.inl r2)))))).symm))
         have hq':=upto hp.1 hq (hat.2 (by omega))
         refine ra ts5_ok 2 true 400 [true,false,false] [1,5,7] [5,7] ?_ ?_
         ·simp only[conj,z0,z2,arR,z1,hx,zd]<;>(repeat' with_reducible apply And.intro)<;>first|omega|assumption|rfl|trivial
         ·refine ih ⟨(_,_),?_,?_,?_⟩ ?_ _ _
          ·show 0≤rbin .add .i64 p 1∧rbin .add .i64 p 1≤a21.length
           rw[e1];omega
          ·show(a21.getD p.toNat (.int 0)).int! = prevI intS a21 (rbin .add .i64 p 1).toNat
           rw[e1,←hnx,←hx]
          ·show ∀i,i<(rbin .add .i64 p 1).toNat→_
           rw[e1];exact hq'
          ·show((a21.length:Int)-rbin .add .i64 p 1).toNat<((a21.length:Int)-p).toNat
           rw[e1];omega
        ·have r2:riseP intS a21:=fun i hi=>hq i (by omega)
         refine rx ts5_ok 999 false 400 [false] ?_ ?_
         ·simp only[conj,z0,z2,arR,z1,zd]<;>(repeat' with_reducible apply And.intro)<;>first|omega|assumption|rfl|trivial|exact hmo1|exact hmo2|exact hmf
         ·refine Run.ret ti_ok rfl rfl (.a (.bool ?_))
          show(!(eqD MS (Ms.D ⟨a0,a1,a2,a3,a4,⟨a5t,a5s,a5i,a5p⟩,⟨a6t,a6s,a6i,a6p⟩,a7,a8,a9,a10,a11,a12,a13,a14,a15,a16,a17,a18,a19,a20,a21,a22⟩) (me5.named (Ms.D ⟨a0,a1,a2,a3,a4,⟨a5t,a5s,a5i,a5p⟩,⟨a6t,a6s,a6i,a6p⟩,a7,a8,a9,a10,a11,a12,a13,a14,a15,a16,a17,a18,a19,a20,a21,a22⟩))))=mv
          cases he:eqD MS (Ms.D ⟨a0,a1,a2,a3,a4,⟨a5t,a5s,a5i,a5p⟩,⟨a6t,a6s,a6i,a6p⟩,a7,a8,a9,a10,a11,a12,a13,a14,a15,a16,a17,a18,a19,a20,a21,a22⟩) (me5.named (Ms.D ⟨a0,a1,a2,a3,a4,⟨a5t,a5s,a5i,a5p⟩,⟨a6t,a6s,a6i,a6p⟩,a7,a8,a9,a10,a11,a12,a13,a14,a15,a16,a17,a18,a19,a20,a21,a22⟩))with
          |false=>exact(hyes (.inr (.inr (.inr (.inr (.inr he)))))).symm
          |true=>
           refine(hno ?_).symm
           rintro(hh|hh|hh|hh|hh|hh)
           ·exact h0 hh
           ·exact h1 hh
           ·exact absurd hh (fun h=>h80 h.2)
           ·exact hh r1
           ·exact hh r2
           ·rw[he]at hh;cases hh
    ·refine ra ts5_ok 2 false 400 [false,false] [1,4] [4] ?_ ?_
     ·simp only[conj,z0,z2,arR,z1,zd]<;>(repeat' with_reducible apply And.intro)<;>first|omega|assumption|rfl|trivial
     refine Run.loop (ι:={q:Int×Int // (0≤q.1∧q.1≤a19.length)∧q.2=a19.length∧∀i,i<q.1.toNat→¬intS (a19.getD i (.int 0))>281474976710655})
      (fun i=>([.z,.a (.one (.ptr 0 (.lit 0))),.z,.z,.a (.one (.int .i64 i.1.1)),.z,.z,.z,.z,.z,.z,.z,.z,.z,.z,.z,.z,.z,.z,.z,.z,.z,.z,.z,.z,.z,.z,.z,.z,.z,.z,.z,.z,.z,.z,.z,.z,.z,.z,.z,.z,.z,.z,.z,.z,.z,.z,.z,.z,.z,.z,.z,.z,.z,.z,.z,.z,.z,.z,.z,.z,.z,.z,.z,.z,.z,.z,.z,.z,.z,.z,.z,.z,.z,.z,.z,.z,.z,.z,.z,.z,.z,.z,.z,.z,.z,.z,.z,.z,.z,.z,.z,.z,.z,.z,.z,.z,.z,.z,.z,.z,.z,.z,.z,.z,.z],[some ⟨false,.prt [.v MS (MD a0 a1 a2 a3 a4 a5t a5s a5i a5p a6t a6s a6i a6p a7 a8 a9 a10 a11 a12 a13 a14 a15 a16 a17 a18 a19 a20 a21 a22)]⟩]))
      (fun i=>(a19.length-i.1.1).toNat) ⟨(0,(a19.length:Int)),by simp only;omega,rfl,fun i hi=>by simp at hi⟩ ?_
     rintro⟨⟨p,len⟩,hp,hl,hq⟩ ih
     try simp only at hp hl hq
     by_cases hlt:p<a19.length
     ·have e1:rbin .add .i64 p 1=p+1:=addi (by omega) (by omega)
      by_cases hb:intS (a19.getD p.toNat (.int 0))>281474976710655
      ·have h1:=some_at (P:=fun d=>intS d>281474976710655) hp.1 hlt hb
       unfold intS at hb
       refine rx ts5_ok 999 false 400 [true,true] ?_ ?_
       ·simp only[conj,z0,z2,arR,z1,zd]<;>(repeat' with_reducible apply And.intro)<;>first|omega|assumption|rfl|trivial
       ·exact Run.ret ti_ok rfl rfl (.a (.lbool (hyes (.inr (.inl h1))).symm))
      ·have hq':=upto (Q:=fun i=>¬intS (a19.getD i (.int 0))>281474976710655) hp.1 hq hb
       unfold intS at hb
       refine ra ts5_ok 2 true 400 [true,false] [1,4] [4] ?_ ?_
       ·simp only[conj,z0,z2,arR,z1,zd]<;>(repeat' with_reducible apply And.intro)<;>first|omega|assumption|rfl|trivial
       ·refine ih ⟨(_,len),?_,hl,?_⟩ ?_ _ _
        ·show 0≤rbin .add .i64 p 1∧rbin .add .i64 p 1≤a19.length
         rw[e1];omega
        ·show ∀i,i<(rbin .add .i64 p 1).toNat→_
         rw[e1];exact hq'
        ·show((a19.length:Int)-rbin .add .i64 p 1).toNat<((a19.length:Int)-p).toNat
         rw[e1];omega
     ·have h1:=none_at (P:=fun d=>intS d>281474976710655) hlt hq
      refine ra ts5_ok 2 false 400 [false] [1,5,6] [5,6] ?_ ?_
      ·simp only[conj,z0,z2,arR,z1,zd]<;>(repeat' with_reducible apply And.intro)<;>first|omega|assumption|rfl|trivial
      refine Run.loop (ι:={q:Int×Int // (0≤q.1∧q.1≤a20.length)∧q.2=prevI filP a20 q.1.toNat∧∀i,i<q.1.toNat→okAt filP a20 i})
       (fun i=>([.z,.a (.one (.ptr 0 (.lit 0))),.z,.z,.z,.a (.one (.int .i64 i.1.2)),.a (.one (.int .i64 i.1.1)),.z,.z,.z,.z,.z,.z,.z,.z,.z,.z,.z,.z,.z,.z,.z,.z,.z,.z,.z,.z,.z,.z,.z,.z,.z,.z,.z,.z,.z,.z,.z,.z,.z,.z,.z,.z,.z,.z,.z,.z,.z,.z,.z,.z,.z,.z,.z,.z,.z,.z,.z,.z,.z,.z,.z,.z,.z,.z,.z,.z,.z,.z,.z,.z,.z,.z,.z,.z,.z,.z,.z,.z,.z,.z,.z,.z,.z,.z,.z,.z,.z,.z,.z,.z,.z,.z,.z,.z,.z,.z,.z,.z,.z,.z,.z,.z,.z,.z,.z],[some ⟨false,.prt [.v MS (MD a0 a1 a2 a3 a4 a5t a5s a5i a5p a6t a6s a6i a6p a7 a8 a9 a10 a11 a12 a13 a14 a15 a16 a17 a18 a19 a20 a21 a22)]⟩]))
       (fun i=>(a20.length-i.1.1).toNat) ⟨(0,-1),by simp only;omega,rfl,fun i hi=>by simp at hi⟩ ?_
      rintro⟨⟨p,la⟩,hp,hl,hq⟩ ih
      try simp only at hp hl hq
      by_cases hlt:p<a20.length
      ·have e1:rbin .add .i64 p 1=p+1:=addi (by omega) (by omega)
       have hat:okAt filP a20 p.toNat↔la<(a20.getD p.toNat (.int 0)).fst!.int!∧(a20.getD p.toNat (.int 0)).fst!.int!≤65535:=by rw[hl];exact Iff.rfl
       have hnx:(a20.getD p.toNat (.int 0)).fst!.int! = prevI filP a20 (p+1).toNat:=by rw[show(p+1).toNat=p.toNat+1 by omega];rfl
       have hbad:¬okAt filP a20 p.toNat→¬riseP filP a20:=fun h hr=>h (hr p.toNat (by omega))
       generalize hx:(a20.getD p.toNat (.int 0)).fst!.int! = x at hat hnx
       by_cases h1:x≤la
       ·have r1:=hbad (fun h=>by have:=hat.1 h;omega)
        refine rx ts5_ok 999 false 400 [true,true,true] ?_ ?_
        ·simp only[conj,z0,z2,arR,z1,hx,zd]<;>(repeat' with_reducible apply And.intro)<;>first|omega|assumption|rfl|trivial
        ·exact Run.ret ti_ok rfl rfl (.a (.lbool (hyes (.inr (.inr (.inr (.inl r1))))).symm))
       by_cases h2:x>65535
       ·have r1:=hbad (fun h=>by have:=hat.1 h;omega)
        refine rx ts5_ok 999 false 400 [true,false,true,true] ?_ ?_
        ·simp only[conj,z0,z2,arR,z1,hx,zd]<;>(repeat' with_reducible apply And.intro)<;>first|omega|assumption|rfl|trivial
        ·exact Run.ret ti_ok rfl rfl (.a (.lbool (hyes (.inr (.inr (.inr (.inl r1))))).symm))
       have hq':=upto hp.1 hq (hat.2 (by omega))
       refine ra ts5_ok 2 true 400 [true,false,false] [1,5,6] [5,6] ?_ ?_
       ·simp only[conj,z0,z2,arR,z1,hx,zd]<;>(repeat' with_reducible apply And.intro)<;>first|omega|assumption|rfl|trivial
       ·refine ih ⟨(_,_),?_,?_,?_⟩ ?_ _ _
        ·show 0≤rbin .add .i64 p 1∧rbin .add .i64 p 1≤a20.length
         rw[e1];omega
        ·show(a20.getD p.toNat (.int 0)).fst!.int! = prevI filP a20 (rbin .add .i64 p 1).toNat
         rw[e1,←hnx,←hx]
        ·show ∀i,i<(rbin .add .i64 p 1).toNat→_
         rw[e1];exact hq'
        ·show((a20.length:Int)-rbin .add .i64 p 1).toNat<((a20.length:Int)-p).toNat
         rw[e1];omega
      ·have r1:riseP filP a20:=fun i hi=>hq i (by omega)
       refine ra ts5_ok 2 false 400 [false] [1,5,7] [5,7] ?_ ?_
       ·simp only[conj,z0,z2,arR,z1,zd]<;>(repeat' with_reducible apply And.intro)<;>first|omega|assumption|rfl|trivial
       refine Run.loop (ι:={q:Int×Int // (0≤q.1∧q.1≤a21.length)∧q.2=prevI intS a21 q.1.toNat∧∀i,i<q.1.toNat→okAt intS a21 i})
        (fun i=>([.z,.a (.one (.ptr 0 (.lit 0))),.z,.z,.z,.a (.one (.int .i64 i.1.2)),.z,.a (.one (.int .i64 i.1.1)),.z,.z,.z,.z,.z,.z,.z,.z,.z,.z,.z,.z,.z,.z,.z,.z,.z,.z,.z,.z,.z,.z,.z,.z,.z,.z,.z,.z,.z,.z,.z,.z,.z,.z,.z,.z,.z,.z,.z,.z,.z,.z,.z,.z,.z,.z,.z,.z,.z,.z,.z,.z,.z,.z,.z,.z,.z,.z,.z,.z,.z,.z,.z,.z,.z,.z,.z,.z,.z,.z,.z,.z,.z,.z,.z,.z,.z,.z,.z,.z,.z,.z,.z,.z,.z,.z,.z,.z,.z,.z,.z,.z,.z,.z,.z,.z,.z,.z],[some ⟨false,.prt [.v MS (MD a0 a1 a2 a3 a4 a5t a5s a5i a5p a6t a6s a6i a6p a7 a8 a9 a10 a11 a12 a13 a14 a15 a16 a17 a18 a19 a20 a21 a22)]⟩]))
        (fun i=>(a21.length-i.1.1).toNat) ⟨(0,-1),by simp only;omega,rfl,fun i hi=>by simp at hi⟩ ?_
       rintro⟨⟨p,la⟩,hp,hl,hq⟩ ih
       try simp only at hp hl hq
       by_cases hlt:p<a21.length
       ·have e1:rbin .add .i64 p 1=p+1:=addi (by omega) (by omega)
        have hat:okAt intS a21 p.toNat↔la<(a21.getD p.toNat (.int 0)).int!∧(a21.getD p.toNat (.int 0)).int!≤65535:=by rw[hl];exact Iff.rfl
        have hnx:(a21.getD p.toNat (.int 0)).int! = prevI intS a21 (p+1).toNat:=by rw[show(p+1).toNat=p.toNat+1 by omega];rfl
        have hbad:¬okAt intS a21 p.toNat→¬riseP intS a21:=fun h hr=>h (hr p.toNat (by omega))
        generalize hx:(a21.getD p.toNat (.int 0)).int! = x at hat hnx
        by_cases h1:x≤la
        ·have r2:=hbad (fun h=>by have:=hat.1 h;omega)
         refine rx ts5_ok 999 false 400 [true,true,true] ?_ ?_
         ·simp only[conj,z0,z2,arR,z1,hx,zd]<;>(repeat' with_reducible apply And.intro)<;>first|omega|assumption|rfl|trivial
         ·exact Run.ret ti_ok rfl rfl (.a (.lbool (hyes (.inr (.inr (.inr (.inr (.inl r2)))))).symm))
        by_cases h2:x>65535
        ·have r2:=hbad (fun h=>by have:=hat.1 h;omega)
         refine rx ts5_ok 999 false 400 [true,false,true,true] ?_ ?_
         ·simp only[conj,z0,z2,arR,z1,hx,zd]<;>(repeat' with_reducible apply And.intro)<;>first|omega|assumption|rfl|trivial
         ·exact Run.ret ti_ok rfl rfl (.a (.lbool (hyes (.inr (.inr (.inr (.inr (.inl r2)))))).symm))
        have hq':=upto hp.1 hq (hat.2 (by omega))
        refine ra ts5_ok 2 true 400 [true,false,false] [1,5,7] [5,7] ?_ ?_
        ·simp only[conj,z0,z2,arR,z1,hx,zd]<;>(repeat' with_reducible apply And.intro)<;>first|omega|assumption|rfl|trivial
        ·refine ih ⟨(_,_),?_,?_,?_⟩ ?_ _ _
         ·show 0≤rbin .add .i64 p 1∧rbin .add .i64 p 1≤a21.length
          rw[e1];omega
         ·show(a21.getD p.toNat (.int 0)).int! = prevI intS a21 (rbin .add .i64 p 1).toNat
          rw[e1,←hnx,←hx]
         ·show ∀i,i<(rbin .add .i64 p 1).toNat→_
          rw[e1];exact hq'
         ·show((a21.length:Int)-rbin .add .i64 p 1).toNat<((a21.length:Int)-p).toNat
          rw[e1];omega
       ·have r2:riseP intS a21:=fun i hi=>hq i (by omega)
        refine rx ts5_ok 999 false 400 [false] ?_ ?_
        ·simp only[conj,z0,z2,arR,z1,zd]<;>(repeat' with_reducible apply And.intro)<;>first|omega|assumption|rfl|trivial|exact hmo1|exact hmo2|exact hmf
        ·refine Run.ret ti_ok rfl rfl (.a (.bool ?_))
         show(!(eqD MS (Ms.D ⟨a0,a1,a2,a3,a4,⟨a5t,a5s,a5i,a5p⟩,⟨a6t,a6s,a6i,a6p⟩,a7,a8,a9,a10,a11,a12,a13,a14,a15,a16,a17,a18,a19,a20,a21,a22⟩) (me5.named (Ms.D ⟨a0,a1,a2,a3,a4,⟨a5t,a5s,a5i,a5p⟩,⟨a6t,a6s,a6i,a6p⟩,a7,a8,a9,a10,a11,a12,a13,a14,a15,a16,a17,a18,a19,a20,a21,a22⟩))))=mv
         cases he:eqD MS (Ms.D ⟨a0,a1,a2,a3,a4,⟨a5t,a5s,a5i,a5p⟩,⟨a6t,a6s,a6i,a6p⟩,a7,a8,a9,a10,a11,a12,a13,a14,a15,a16,a17,a18,a19,a20,a21,a22⟩) (me5.named (Ms.D ⟨a0,a1,a2,a3,a4,⟨a5t,a5s,a5i,a5p⟩,⟨a6t,a6s,a6i,a6p⟩,a7,a8,a9,a10,a11,a12,a13,a14,a15,a16,a17,a18,a19,a20,a21,a22⟩))with
         |false=>exact(hyes (.inr (.inr (.inr (.inr (.inr he)))))).symm
         |true=>
          refine(hno ?_).symm
          rintro(hh|hh|hh|hh|hh|hh)
          ·exact h0 hh
          ·exact h1 hh
          ·exact absurd hh (fun h=>h16 h.1)
          ·exact hh r1
          ·exact hh r2
          ·rw[he]at hh;cases hh
  ·cases hs
 ·cases hs
end Go.Proofs.Ytlbllaocdilafaa
