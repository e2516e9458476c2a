import Derived.Test.YtlbllaocdilafaaZ24
set_option linter.unusedSimpArgs false
set_option linter.unusedVariables false
set_option maxRecDepth 100000
set_option maxHeartbeats 16000000
namespace Go.Eng
open Go
def manyP (m:Ms):Prop:=(∃d∈m.filled,filS d>4096)∨(∃d∈m.raws,strS d>4096)∨(m.agent.size:Int)>64∨(m.addrs.length:Int)>100∨(m.items.length:Int)>500∨(m.hashes.length:Int)>64∨(m.heads.length:Int)>100∨(m.shorts.length:Int)>500∨(m.filled.length:Int)>500∨(m.places.length:Int)>500∨(m.raws.length:Int)>500
open Classical in
noncomputable def manyV (m:Ms):Bool:=decide (manyP m)
open Classical in
theorem many_yes {m:Ms}(h:manyP m):manyV m=true:=by unfold manyV;exact decide_eq_true h
open Classical in
theorem many_no {m:Ms}(h:¬manyP m):manyV m=false:=by unfold manyV;exact decide_eq_false h
theorem some_at {P:D→Prop}{l:List D}{p:Int}(h0:0≤p) (h1:p<l.length) (h:P (l.getD p.toNat (.int 0))):∃d∈l,P d:=by
 have hk:p.toNat<l.length:=by omega
 rw[List.getD_eq_getElem?_getD,geg hk]at h
 exact⟨_,List.getElem_mem hk,h⟩
theorem none_at {P:D→Prop}{l:List D}{p:Int}(h1:¬p<l.length) (h:∀i,i<p.toNat→¬P (l.getD i (.int 0))):¬ ∃d∈l,P d:=by
 rintro⟨d,hd,hp⟩
 obtain⟨i,hi,rfl⟩:=List.mem_iff_getElem.1 hd
 have:=h i (by omega)
 rw[List.getD_eq_getElem?_getD,geg hi]at this
 exact this hp
theorem upto {Q:Nat→Prop}{p:Int}(h0:0≤p) (h:∀i,i<p.toNat→Q i) (hb:Q p.toNat):∀i,i<(p+1).toNat→Q i:=by
 intro i hi
 rcases Nat.lt_or_ge i p.toNat with g|g
 ·exact h i g
 ·obtain rfl:i=p.toNat:=by omega
  exact hb
structure ME2 extends ME1 where
 many:D→Bool
noncomputable def me2:ME2 where
 toME1:=me1
 many d:=manyV (msOf d)
end Go.Eng
namespace Go.Proofs.Ytlbllaocdilafaa
open Go Go.Eng Go.Proofs Go.RowKit
attribute[local irreducible] CallOk HOk Run TIok rbin rcmp run1 updF shfF blitF
def ts1 (lf:ME2):Tbl:=tbL [] []
theorem ts1_ok:TblOk Try.prog (ts1 me2):=tbL_ok nofun nofun
def sMany (lf:ME2):ESpec:=fun l=>match l with
 | [.agg (.prt [.v s d])]=>if shEq s MS then some (.a (.one (.bool (lf.many d))),[lf.mf.mFit d])else none
 |_=>none
theorem many_ok:CallOk Try.prog 66 (sMany me2):=by
 refine .of_run (hc:=(ts1 me2).hc) Try.func66 rfl (by kernel_rfl) (by kernel_rfl) fun xs v ps hs hp w=>?_
 unfold sMany at hs
 split at hs
 ·rename_i s d
  split at hs
  ·rename_i hsh
   obtain rfl:=shEq_eq hsh
   clear hsh
   cases hs
   obtain⟨m,rfl,hmo,hf⟩:mFit d:=hp (me2.mf.mFit d) (by simp)
   clear hp
   rw[show me2.many m.D=manyV m from congrArg manyV (msOf_D m)]
   have hyes:manyP m→manyV m=true:=many_yes
   have hno:¬manyP m→manyV m=false:=many_no
   generalize hmv:manyV m=mv at hyes hno ⊢
   obtain⟨a0,a1,a2,a3,a4,⟨a5t,a5s,a5i,a5p⟩,⟨a6t,a6s,a6i,a6p⟩,a7,a8,a9,a10,a11,a12,a13,a14,a15,a16,a17,a18,a19,a20,a21,a22⟩:=m
   simp only[manyP]at hf hyes hno
   refine ra ts1_ok 0 false 400 [] [1,8,9,10] [10] ?_ ?_
   ·simp only[conj,z0,z2,arR,z1,zd]<;>(repeat' with_reducible apply And.intro)<;>first|omega|assumption|rfl|trivial
   refine Run.loop (ι:={q:Int×Int // (0≤q.1∧q.1≤a20.length)∧q.2=a20.length∧∀i,i<q.1.toNat→¬filS (a20.getD i (.int 0))>4096})
    (fun i=>([.z,.a (.one (.ptr 0 (.lit 0))),.z,.z,.z,.z,.z,.z,.a (.one (.dat (.two (.int .i64) .str) a20 none)),.a (.one (.int .i64 i.1.2)),.a (.one (.int .i64 i.1.1)),.z,.z,.z,.z,.z,.z,.z,.z,.z,.z,.z,.z,.z,.z,.z,.z,.z,.z,.z,.z,.z,.z,.z,.z,.z,.z,.z,.z,.z,.z,.z,.z,.z,.z,.z,.z,.z,.z,.z,.z,.z,.z,.z,.z,.z,.z,.z,.z,.z,.z,.z,.z,.z,.z,.z,.z,.z,.z,.z,.z,.z,.z,.z,.z,.z,.z,.z,.z,.z,.z,.z],[some ⟨false,.prt [.v MS (MD a0 a1 a2 a3 a4 a5t a5s a5i a5p a6t a6s a6i a6p a7 a8 a9 a10 a11 a12 a13 a14 a15 a16 a17 a18 a19 a20 a21 a22)]⟩]))
    (fun i=>(a20.length-i.1.1).toNat) ⟨(0,_),by simp only;omega,rfl,fun i hi=>by simp at hi⟩ ?_
   rintro⟨⟨p,len⟩,hp,hl,hq⟩ ih
   try simp only at hp hl hq
   by_cases hlt:p<a20.length
   ·have e1:rbin .add .i64 p 1=p+1:=addi (by omega) (by omega)
    by_cases hb:filS (a20.getD p.toNat (.int 0))>4096
    ·have h0:=some_at (P:=fun d=>filS d>4096) hp.1 hlt hb
     unfold filS at hb
     refine rx ts1_ok 999 false 400 [true,true] ?_ ?_
     ·simp only[conj,z0,z2,arR,z1,hl,zd]<;>(repeat' with_reducible apply And.intro)<;>first|omega|assumption|rfl|trivial
     ·exact Run.ret ti_ok rfl rfl (.a (.lbool (hyes (.inl h0)).symm))
    ·have hq':=upto (Q:=fun i=>¬filS (a20.getD i (.int 0))>4096) hp.1 hq hb
     unfold filS at hb
     refine ra ts1_ok 2 true 400 [true,false] [1,8,9,10] [10] ?_ ?_
     ·simp only[conj,z0,z2,arR,z1,hl,zd]<;>(repeat' with_reducible apply And.intro)<;>first|omega|assumption|rfl|trivial
     ·refine ih ⟨(_,_),?_,hl,?_⟩ ?_ _ _
      ·show 0≤rbin .add .i64 p 1∧rbin .add .i64 p 1≤a20.length
       rw[e1];omega
      ·show ∀i,i<(rbin .add .i64 p 1).toNat→_
       rw[e1];exact hq'
      ·show((a20.length:Int)-rbin .add .i64 p 1).toNat<((a20.length:Int)-p).toNat
       rw[e1];omega
   ·have h0:=none_at (P:=fun d=>filS d>4096) hlt hq
    refine ra ts1_ok 2 false 400 [false] [1,20,21,22] [22] ?_ ?_
    ·simp only[conj,z0,z2,arR,z1,hl,zd]<;>(repeat' with_reducible apply And.intro)<;>first|omega|assumption|rfl|trivial
    refine Run.loop (ι:={q:Int×Int // (0≤q.1∧q.1≤a22.length)∧q.2=a22.length∧∀i,i<q.1.toNat→¬strS (a22.getD i (.int 0))>4096})
     (fun i=>([.z,.a (.one (.ptr 0 (.lit 0))),.z,.z,.z,.z,.z,.z,.z,.z,.z,.z,.z,.z,.z,.z,.z,.z,.z,.z,.a (.one (.dat .str a22 none)),.a (.one (.int .i64 i.1.2)),.a (.one (.int .i64 i.1.1)),.z,.z,.z,.z,.z,.z,.z,.z,.z,.z,.z,.z,.z,.z,.z,.z,.z,.z,.z,.z,.z,.z,.z,.z,.z,.z,.z,.z,.z,.z,.z,.z,.z,.z,.z,.z,.z,.z,.z,.z,.z,.z,.z,.z,.z,.z,.z,.z,.z,.z,.z,.z,.z,.z,.z,.z,.z,.z,.z],[some ⟨false,.prt [.v MS (MD a0 a1 a2 a3 a4 a5t a5s a5i a5p a6t a6s a6i a6p a7 a8 a9 a10 a11 a12 a13 a14 a15 a16 a17 a18 a19 a20 a21 a22)]⟩]))
     (fun i=>(a22.length-i.1.1).toNat) ⟨(0,_),by simp only;omega,rfl,fun i hi=>by simp at hi⟩ ?_
    rintro⟨⟨p,len⟩,hp,hl,hq⟩ ih
    try simp only at hp hl hq
    by_cases hlt:p<a22.length
    ·have e1:rbin .add .i64 p 1=p+1:=addi (by omega) (by omega)
     by_cases hb:strS (a22.getD p.toNat (.int 0))>4096
     ·have h1:=some_at (P:=fun d=>strS d>4096) hp.1 hlt hb
      unfold strS at hb
      refine rx ts1_ok 999 false 400 [true,true] ?_ ?_
      ·simp only[conj,z0,z2,arR,z1,hl,zd]<;>(repeat' with_reducible apply And.intro)<;>first|omega|assumption|rfl|trivial
      ·exact Run.ret ti_ok rfl rfl (.a (.lbool (hyes (.inr (.inl h1))).symm))
     ·have hq':=upto (Q:=fun i=>¬strS (a22.getD i (.int 0))>4096) hp.1 hq hb
      unfold strS at hb
      refine ra ts1_ok 2 true 400 [true,false] [1,20,21,22] [22] ?_ ?_
      ·simp only[conj,z0,z2,arR,z1,hl,zd]<;>(repeat' with_reducible apply And.intro)<;>first|omega|assumption|rfl|trivial
      ·refine ih ⟨(_,_),?_,hl,?_⟩ ?_ _ _
       ·show 0≤rbin .add .i64 p 1∧rbin .add .i64 p 1≤a22.length
        rw[e1];omega
       ·show ∀i,i<(rbin .add .i64 p 1).toNat→_
        rw[e1];exact hq'
       ·show((a22.length:Int)-rbin .add .i64 p 1).toNat<((a22.length:Int)-p).toNat
        rw[e1];omega
    ·have h1:=none_at (P:=fun d=>strS d>4096) hlt hq
     by_cases h2:(a7.size:Int)>64
     ·refine rx ts1_ok 999 false 400 [false,true] ?_ ?_
      ·simp only[conj,z0,z2,arR,z1,hl,zd]<;>(repeat' with_reducible apply And.intro)<;>first|omega|assumption|rfl|trivial
      ·exact Run.ret ti_ok rfl rfl (.a (.lbool (hyes (.inr (.inr (.inl h2)))).symm))
     ·by_cases h3:(a11.length:Int)>100
      ·refine rx ts1_ok 999 false 400 [false,false,true] ?_ ?_
       ·simp only[conj,z0,z2,arR,z1,hl,zd]<;>(repeat' with_reducible apply And.intro)<;>first|omega|assumption|rfl|trivial
       ·exact Run.ret ti_ok rfl rfl (.a (.lbool (hyes (.inr (.inr (.inr (.inl h3))))).symm))
      ·by_cases h4:(a12.length:Int)>500
       ·refine rx ts1_ok 999 false 400 [false,false,false,true] ?_ ?_
        ·simp only[conj,z0,z2,arR,z1,hl,zd]<;>(repeat' with_reducible apply And.intro)<;>first|omega|assumption|rfl|trivial
        ·exact Run.ret ti_ok rfl rfl (.a (.lbool (hyes (.inr (.inr (.inr (.inr (.inl h4)))))).symm))
       ·by_cases h5:(a13.length:Int)>64
        ·refine rx ts1_ok 999 false 400 [false,false,false,false,true] ?_ ?_
         ·simp only[conj,z0,z2,arR,z1,hl,zd]<;>(repeat' with_reducible apply And.intro)<;>first|omega|assumption|rfl|trivial
         ·exact Run.ret ti_ok rfl rfl (.a (.lbool (hyes (.inr (.inr (.inr (.inr (.inr (.inl h5))))))).symm))
        ·by_cases h6:(a16.length:Int)>100
         ·refine rx ts1_ok 999 false 400 [false,false,false,false,false,true] ?_ ?_
          ·simp only[conj,z0,z2,arR,z1,hl,zd]<;>(repeat' with_reducible apply And.intro)<;>first|omega|assumption|rfl|trivial
          ·exact Run.ret ti_ok rfl rfl (.a (.lbool (hyes (.inr (.inr (.inr (.inr (.inr (.inr (.inl h6)))))))).symm))
         ·by_cases h7:(a19.length:Int)>500
          ·refine rx ts1_ok 999 false 400 [false,false,false,false,false,false,true] ?_ ?_
           ·simp only[conj,z0,z2,arR,z1,hl,zd]<;>(repeat' with_reducible apply And.intro)<;>first|omega|assumption|rfl|trivial
           ·exact Run.ret ti_ok rfl rfl (.a (.lbool (hyes (.inr (.inr (.inr (.inr (.inr (.inr (.inr (.inl h7))))))))).symm))
          ·by_cases h8:(a20.length:Int)>500
           ·refine rx ts1_ok 999 false 400 [false,false,false,false,false,false,false,true] ?_ ?_
            ·simp only[conj,z0,z2,arR,z1,hl,zd]<;>(repeat' with_reducible apply And.intro)<;>first|omega|assumption|rfl|trivial
            ·exact Run.ret ti_ok rfl rfl (.a (.lbool (hyes (.inr (.inr (.inr (.inr (.inr (.inr (.inr (.inr (.inl h8)))))))))).symm))
           ·by_cases h9:(a21.length:Int)>500
            ·refine rx ts1_ok 999 false 400 [false,false,false,false,false,false,false,false,true] ?_ ?_
             ·simp only[conj,z0,z2,arR,z1,hl,zd]<;>(repeat' with_reducible apply And.intro)<;>first|omega|assumption|rfl|trivial
             ·exact Run.ret ti_ok rfl rfl (.a (.lbool (hyes (.inr (.inr (.inr (.inr (.inr (.inr (.inr (.inr (.inr (.inl h9))))))))))).symm))
            ·refine rx ts1_ok 999 false 400 [false,false,false,false,false,false,false,false,false] ?_ ?_
             ·simp only[conj,z0,z2,arR,z1,hl,zd]<;>(repeat' with_reducible apply And.intro)<;>first|omega|assumption|rfl|trivial
             ·refine Run.ret ti_ok rfl rfl (.a (.bool ?_))
              show rcmp .gtr (a22.length:Int) 500=mv
              rw[rcmp_gtr]
              by_cases h10:(a22.length:Int)>500
              ·rw[hyes (.inr (.inr (.inr (.inr (.inr (.inr (.inr (.inr (.inr (.inr (h10)))))))))))];simp only[h10,decide_true]
              ·rw[hno (by rintro(hh|hh|hh|hh|hh|hh|hh|hh|hh|hh|hh)<;>first|exact absurd hh h0|exact absurd hh h1|omega)];simp only[h10,decide_false]
  ·cases hs
 ·cases hs
theorem rmany_ok:CallOk Try.prog 73 (sMany me2):=by
 refine .of_run (hc:=(ts1 me2).hc) Try.func73 rfl (by kernel_rfl) (by kernel_rfl) fun xs v ps hs hp w=>?_
 unfold sMany at hs
 split at hs
 ·rename_i s d
  split at hs
  ·rename_i hsh
   obtain rfl:=shEq_eq hsh
   clear hsh
   cases hs
   obtain⟨m,rfl,hmo,hf⟩:mFit d:=hp (me2.mf.mFit d) (by simp)
   clear hp
   rw[show me2.many m.D=manyV m from congrArg manyV (msOf_D m)]
   have hyes:manyP m→manyV m=true:=many_yes
   have hno:¬manyP m→manyV m=false:=many_no
   generalize hmv:manyV m=mv at hyes hno ⊢
   obtain⟨a0,a1,a2,a3,a4,⟨a5t,a5s,a5i,a5p⟩,⟨a6t,a6s,a6i,a6p⟩,a7,a8,a9,a10,a11,a12,a13,a14,a15,a16,a17,a18,a19,a20,a21,a22⟩:=m
   simp only[manyP]at hf hyes hno
   by_cases h3:(a11.length:Int)>100
   ·refine rx ts1_ok 999 false 400 [true] ?_ ?_
    ·simp only[conj,z0,z2,arR,z1,zd]<;>(repeat' with_reducible apply And.intro)<;>first|omega|assumption|rfl|trivial
    ·exact Run.ret ti_ok rfl rfl (.a (.lbool (hyes (.inr (.inr (.inr (.inl h3))))).symm))
   ·by_cases h4:(a12.length:Int)>500
    ·refine rx ts1_ok 999 false 400 [false,true] ?_ ?_
     ·simp only[conj,z0,z2,arR,z1,zd]<;>(repeat' with_reducible apply And.intro)<;>first|omega|assumption|rfl|trivial
     ·exact Run.ret ti_ok rfl rfl (.a (.lbool (hyes (.inr (.inr (.inr (.inr (.inl h4)))))).symm))
    ·by_cases h5:(a13.length:Int)>64
     ·refine rx ts1_ok 999 false 400 [false,false,true] ?_ ?_
      ·simp only[conj,z0,z2,arR,z1,zd]<;>(repeat' with_reducible apply And.intro)<;>first|omega|assumption|rfl|trivial
      ·exact Run.ret ti_ok rfl rfl (.a (.lbool (hyes (.inr (.inr (.inr (.inr (.inr (.inl h5))))))).symm))
     ·by_cases h6:(a16.length:Int)>100
      ·refine rx ts1_ok 999 false 400 [false,false,false,true] ?_ ?_
       ·simp only[conj,z0,z2,arR,z1,zd]<;>(repeat' with_reducible apply And.intro)<;>first|omega|assumption|rfl|trivial
       ·exact Run.ret ti_ok rfl rfl (.a (.lbool (hyes (.inr (.inr (.inr (.inr (.inr (.inr (.inl h6)))))))).symm))
      ·by_cases h7:(a19.length:Int)>500
       ·refine rx ts1_ok 999 false 400 [false,false,false,false,true] ?_ ?_
        ·simp only[conj,z0,z2,arR,z1,zd]<;>(repeat' with_reducible apply And.intro)<;>first|omega|assumption|rfl|trivial
        ·exact Run.ret ti_ok rfl rfl (.a (.lbool (hyes (.inr (.inr (.inr (.inr (.inr (.inr (.inr (.inl h7))))))))).symm))
       ·by_cases h8:(a20.length:Int)>500
        ·refine rx ts1_ok 999 false 400 [false,false,false,false,false,true] ?_ ?_
         ·simp only[conj,z0,z2,arR,z1,zd]<;>(repeat' with_reducible apply And.intro)<;>first|omega|assumption|rfl|trivial
         ·exact Run.ret ti_ok rfl rfl (.a (.lbool (hyes (.inr (.inr (.inr (.inr (.inr (.inr (.inr (.inr (.inl h8)))))))))).symm))
        ·by_cases h9:(a21.length:Int)>500
         ·refine rx ts1_ok 999 false 400 [false,false,false,false,false,false,true] ?_ ?_
          ·simp only[conj,z0,z2,arR,z1,zd]<;>(repeat' with_reducible apply And.intro)<;>first|omega|assumption|rfl|trivial
          ·exact Run.ret ti_ok rfl rfl (.a (.lbool (hyes (.inr (.inr (.inr (.inr (.inr (.inr (.inr (.inr (.inr (.inl h9))))))))))).symm))
         ·by_cases h10:(a22.length:Int)>500
          ·refine rx ts1_ok 999 false 400 [false,false,false,false,false,false,false,true] ?_ ?_
           ·simp only[conj,z0,z2,arR,z1,zd]<;>(repeat' with_reducible apply And.intro)<;>first|omega|assumption|rfl|trivial
           ·exact Run.ret ti_ok rfl rfl (.a (.lbool (hyes (.inr (.inr (.inr (.inr (.inr (.inr (.inr (.inr (.inr (.inr (h10)))))))))))).symm))
          ·by_cases h2:(a7.size:Int)>64
           ·refine rx ts1_ok 999 false 400 [false,false,false,false,false,false,false,false,true] ?_ ?_
            ·simp only[conj,z0,z2,arR,z1,zd]<;>(repeat' with_reducible apply And.intro)<;>first|omega|assumption|rfl|trivial
            ·exact Run.ret ti_ok rfl rfl (.a (.lbool (hyes (.inr (.inr (.inl h2)))).symm))
           ·refine ra ts1_ok 0 false 400 [false,false,false,false,false,false,false,false,false] [1,3] [3] ?_ ?_
            ·simp only[conj,z0,z2,arR,z1,zd]<;>(repeat' with_reducible apply And.intro)<;>first|omega|assumption|rfl|trivial
            refine Run.loop (ι:={q:Int×Int // (0≤q.1∧q.1≤a20.length)∧q.2=a20.length∧∀i,i<q.1.toNat→¬filS (a20.getD i (.int 0))>4096})
             (fun i=>([.z,.a (.one (.ptr 0 (.lit 0))),.z,.a (.one (.int .i64 i.1.1)),.z,.z,.z,.z,.z,.z,.z,.z,.z,.z,.z,.z,.z,.z,.z,.z,.z,.z,.z,.z,.z,.z,.z,.z,.z,.z,.z,.z,.z,.z,.z,.z,.z,.z,.z,.z,.z,.z,.z,.z,.z,.z,.z,.z,.z,.z,.z,.z,.z,.z,.z,.z,.z,.z,.z,.z,.z,.z,.z,.z,.z,.z,.z,.z,.z,.z,.z,.z,.z,.z,.z,.z,.z,.z,.z,.z,.z,.z,.z,.z,.z,.z],[some ⟨false,.prt [.v MS (MD a0 a1 a2 a3 a4 a5t a5s a5i a5p a6t a6s a6i a6p a7 a8 a9 a10 a11 a12 a13 a14 a15 a16 a17 a18 a19 a20 a21 a22)]⟩]))
             (fun i=>(a20.length-i.1.1).toNat) ⟨(0,(a20.length:Int)),by simp only;omega,rfl,fun i hi=>by simp at hi⟩ ?_
            rintro⟨⟨p,len⟩,hp,hl,hq⟩ ih
            try simp only at hp hl hq
            by_cases hlt:p<a20.length
            ·have e1:rbin .add .i64 p 1=p+1:=addi (by omega) (by omega)
             by_cases hb:filS (a20.getD p.toNat (.int 0))>4096
             ·have h0:=some_at (P:=fun d=>filS d>4096) hp.1 hlt hb
              unfold filS at hb
              refine rx ts1_ok 999 false 400 [true,true] ?_ ?_
              ·simp only[conj,z0,z2,arR,z1,zd]<;>(repeat' with_reducible apply And.intro)<;>first|omega|assumption|rfl|trivial
              ·exact Run.ret ti_ok rfl rfl (.a (.lbool (hyes (.inl h0)).symm))
             ·have hq':=upto (Q:=fun i=>¬filS (a20.getD i (.int 0))>4096) hp.1 hq hb
              unfold filS at hb
              refine ra ts1_ok 2 true 400 [true,false] [1,3] [3] ?_ ?_
              ·simp only[conj,z0,z2,arR,z1,zd]<;>(repeat' with_reducible apply And.intro)<;>first|omega|assumption|rfl|trivial
              ·refine ih ⟨(_,len),?_,hl,?_⟩ ?_ _ _
               ·show 0≤rbin .add .i64 p 1∧rbin .add .i64 p 1≤a20.length
                rw[e1];omega
               ·show ∀i,i<(rbin .add .i64 p 1).toNat→_
                rw[e1];exact hq'
               ·show((a20.length:Int)-rbin .add .i64 p 1).toNat<((a20.length:Int)-p).toNat
                rw[e1];omega
            ·have h0:=none_at (P:=fun d=>filS d>4096) hlt hq
             refine ra ts1_ok 2 false 400 [false] [1,4] [4] ?_ ?_
             ·simp only[conj,z0,z2,arR,z1,zd]<;>(repeat' with_reducible apply And.intro)<;>first|omega|assumption|rfl|trivial
             refine Run.loop (ι:={q:Int×Int // (0≤q.1∧q.1≤a22.length)∧q.2=a22.length∧∀i,i<q.1.toNat→¬strS (a22.getD i (.int 0))>4096})
              (fun i=>([.z,.a (.one (.ptr 0 (.lit 0))),.z,.z,.a (.one (.int .i64 i.1.1)),.z,.z,.z,.z,.z,.z,.z,.z,.z,.z,.z,.z,.z,.z,.z,.z,.z,.z,.z,.z,.z,.z,.z,.z,.z,.z,.z,.z,.z,.z,.z,.z,.z,.z,.z,.z,.z,.z,.z,.z,.z,.z,.z,.z,.z,.z,.z,.z,.z,.z,.z,.z,.z,.z,.z,.z,.z,.z,.z,.z,.z,.z,.z,.z,.z,.z,.z,.z,.z,.z,.z,.z,.z,.z,.z,.z,.z,.z,.z,.z,.z],[some ⟨false,.prt [.v MS (MD a0 a1 a2 a3 a4 a5t a5s a5i a5p a6t a6s a6i a6p a7 a8 a9 a10 a11 a12 a13 a14 a15 a16 a17 a18 a19 a20 a21 a22)]⟩]))
              (fun i=>(a22.length-i.1.1).toNat) ⟨(0,(a22.length:Int)),by simp only;omega,rfl,fun i hi=>by simp at hi⟩ ?_
             rintro⟨⟨p,len⟩,hp,hl,hq⟩ ih
             try simp only at hp hl hq
             by_cases hlt:p<a22.length
             ·have e1:rbin .add .i64 p 1=p+1:=addi (by omega) (by omega)
              by_cases hb:strS (a22.getD p.toNat (.int 0))>4096
              ·have h1:=some_at (P:=fun d=>strS d>4096) hp.1 hlt hb
               unfold strS at hb
               refine rx ts1_ok 999 false 400 [true,true] ?_ ?_
               ·simp only[conj,z0,z2,arR,z1,zd]<;>(repeat' with_reducible apply And.intro)<;>first|omega|assumption|rfl|trivial
               ·exact Run.ret ti_ok rfl rfl (.a (.lbool (hyes (.inr (.inl h1))).symm))
              ·have hq':=upto (Q:=fun i=>¬strS (a22.getD i (.int 0))>4096) hp.1 hq hb
               unfold strS at hb
               refine ra ts1_ok 2 true 400 [true,false] [1,4] [4] ?_ ?_
               ·simp only[conj,z0,z2,arR,z1,zd]<;>(repeat' with_reducible apply And.intro)<;>first|omega|assumption|rfl|trivial
               ·refine ih ⟨(_,len),?_,hl,?_⟩ ?_ _ _
                ·show 0≤rbin .add .i64 p 1∧rbin .add .i64 p 1≤a22.length
                 rw[e1];omega
                ·show ∀i,i<(rbin .add .i64 p 1).toNat→_
                 rw[e1];exact hq'
                ·show((a22.length:Int)-rbin .add .i64 p 1).toNat<((a22.length:Int)-p).toNat
                 rw[e1];omega
             ·have h1:=none_at (P:=fun d=>strS d>4096) hlt hq
              refine rx ts1_ok 999 false 400 [false] ?_ ?_
              ·simp only[conj,z0,z2,arR,z1,zd]<;>(repeat' with_reducible apply And.intro)<;>first|omega|assumption|rfl|trivial
              ·refine Run.ret ti_ok rfl rfl (.a (.lbool (hno ?_).symm))
               rintro(hh|hh|hh|hh|hh|hh|hh|hh|hh|hh|hh)<;>first|exact absurd hh h0|exact absurd hh h1|omega
  ·cases hs
 ·cases hs
end Go.Proofs.Ytlbllaocdilafaa
namespace Go.Eng
open Go
def bareM (k:Int):Ms:=⟨k,0,0,0,0,⟨0,0,List.replicate 16 0,0⟩,⟨0,0,List.replicate 16 0,0⟩,.empty,0,false,false,[],[],[],List.replicate 32 0,List.replicate 32 0,[],.empty,.empty,[],[],[],[]⟩
def namedM (m:Ms):Ms:=
 if m.kind=1 then {bareM m.kind with ver:=m.ver,srv:=m.srv,tim:=m.tim,non:=m.non,to:=⟨0,m.to.s,m.to.ip,m.to.p⟩,frm:=⟨0,m.frm.s,m.frm.ip,m.frm.p⟩,agent:=m.agent,hgt:=m.hgt,rel:=m.rel}
 else if m.kind=5∨m.kind=6 then {bareM m.kind with non:=m.non}
 else if m.kind=7 then {bareM m.kind with addrs:=m.addrs}
 else if m.kind=8∨m.kind=9∨m.kind=10 then {bareM m.kind with items:=m.items}
 else if m.kind=11 then {bareM m.kind with ver:=m.ver,hashes:=m.hashes,stop:=m.stop}
 else if m.kind=12 then {bareM m.kind with heads:=m.heads}
 else if m.kind=13∨m.kind=14 then {bareM m.kind with raw:=m.raw}
 else if m.kind=15 then {bareM m.kind with high:=m.high,non:=m.non}
 else if m.kind=16 then {bareM m.kind with head:=m.head,non:=m.non,shorts:=m.shorts,filled:=m.filled}
 else if m.kind=17 then {bareM m.kind with hash:=m.hash,places:=m.places}
 else if m.kind=18 then {bareM m.kind with hash:=m.hash,raws:=m.raws}
 else bareM m.kind
structure ME3 extends ME2 where
 named:D→D
noncomputable def me3:ME3 where
 toME2:=me2
 named d:=(namedM (msOf d)).D
end Go.Eng
namespace Go.Proofs.Ytlbllaocdilafaa
open Go Go.Eng Go.Proofs Go.RowKit
attribute[local irreducible] CallOk HOk Run TIok rbin rcmp run1 updF shfF blitF
def ts2 (lf:ME3):Tbl:=tbL [] []
theorem ts2_ok:TblOk Try.prog (ts2 me3):=tbL_ok nofun nofun
def sNamed (lf:ME3):ESpec:=fun l=>match l with
 | [.agg (.prt [.v s d])]=>if shEq s MS then some (.a (.agg (.prt [.v MS (lf.named d)])),[lf.mf.mFit d])else none
 |_=>none
theorem named_ok:CallOk Try.prog 67 (sNamed me3):=by
 refine .of_run (hc:=(ts2 me3).hc) Try.func67 rfl (by kernel_rfl) (by kernel_rfl) fun xs v ps hs hp w=>?_
 unfold sNamed at hs
 split at hs
 ·rename_i s d
  split at hs
  ·rename_i hsh
   obtain rfl:=shEq_eq hsh
   clear hsh
   cases hs
   obtain⟨m,rfl,hmo,hf⟩:mFit d:=hp (me3.mf.mFit d) (by simp)
   obtain⟨-,-,h14,h15,-⟩:=hmo
   clear hp hf
   rw[show me3.named m.D=(namedM m).D from congrArg (fun x=>(namedM x).D) (msOf_D m)]
   obtain⟨a0,a1,a2,a3,a4,⟨a5t,a5s,a5i,a5p⟩,⟨a6t,a6s,a6i,a6p⟩,a7,a8,a9,a10,a11,a12,a13,a14,a15,a16,a17,a18,a19,a20,a21,a22⟩:=m
   replace h14:a14.length=32:=h14
   replace h15:a15.length=32:=h15
   by_cases h1:a0=1
   ·subst h1
    refine rx ts2_ok 999 false 400 [true] ?_ ?_
    ·simp only[conj,z0,z2,arR,z1,zd]<;>(repeat' with_reducible apply And.intro)<;>first|omega|assumption|rfl|trivial
    ·exact Run.ret ti_ok rfl rfl (.a (ALe.prt rfl))
   by_cases h5:a0=5
   ·subst h5
    clear h1
    refine rx ts2_ok 999 false 400 [false,true,true] ?_ ?_
    ·simp only[conj,z0,z2,arR,z1,zd]<;>(repeat' with_reducible apply And.intro)<;>first|omega|assumption|rfl|trivial
    ·exact Run.ret ti_ok rfl rfl (.a (ALe.prt rfl))
   by_cases h6:a0=6
   ·subst h6
    clear h1 h5
    refine rx ts2_ok 999 false 400 [false,false,true] ?_ ?_
    ·simp only[conj,z0,z2,arR,z1,zd]<;>(repeat' with_reducible apply And.intro)<;>first|omega|assumption|rfl|trivial
    ·exact Run.ret ti_ok rfl rfl (.a (ALe.prt rfl))
   by_cases h7:a0=7
   ·subst h7
    clear h1 h5 h6
    refine rx ts2_ok 999 false 400 [false,false,false,true] ?_ ?_
    ·simp only[conj,z0,z2,arR,z1,zd]<;>(repeat' with_reducible apply And.intro)<;>first|omega|assumption|rfl|trivial
    ·exact Run.ret ti_ok rfl rfl (.a (ALe.prt rfl))
   by_cases h8:a0=8
   ·subst h8
    clear h1 h5 h6 h7
    refine rx ts2_ok 999 false 400 [false,false,false,false,true,true,true] ?_ ?_
    ·simp only[conj,z0,z2,arR,z1,zd]<;>(repeat' with_reducible apply And.intro)<;>first|omega|assumption|rfl|trivial
    ·exact Run.ret ti_ok rfl rfl (.a (ALe.prt rfl))
   by_cases h9:a0=9
   ·subst h9
    clear h1 h5 h6 h7 h8
    refine rx ts2_ok 999 false 400 [false,false,false,false,false,true,true] ?_ ?_
    ·simp only[conj,z0,z2,arR,z1,zd]<;>(repeat' with_reducible apply And.intro)<;>first|omega|assumption|rfl|trivial
    ·exact Run.ret ti_ok rfl rfl (.a (ALe.prt rfl))
   by_cases h10:a0=10
   ·subst h10
    clear h1 h5 h6 h7 h8 h9
    refine rx ts2_ok 999 false 400 [false,false,false,false,false,false,true] ?_ ?_
    ·simp only[conj,z0,z2,arR,z1,zd]<;>(repeat' with_reducible apply And.intro)<;>first|omega|assumption|rfl|trivial
    ·exact Run.ret ti_ok rfl rfl (.a (ALe.prt rfl))
   by_cases h11:a0=11
   ·subst h11
    clear h1 h5 h6 h7 h8 h9 h10
    rw[show namedM ⟨11,a1,a2,a3,a4,⟨a5t,a5s,a5i,a5p⟩,⟨a6t,a6s,a6i,a6p⟩,a7,a8,a9,a10,a11,a12,a13,a14,a15,a16,a17,a18,a19,a20,a21,a22⟩={bareM 11 with ver:=a1,hashes:=a13,stop:=(List.range 32).map fun j=>a14.getD j 0}from by rw[row_mk h14];rfl]
    refine rx ts2_ok 999 false 400 [false,false,false,false,false,false,false,true] ?_ ?_
    ·simp only[conj,z0,z2,arR,z1,zd]<;>(repeat' with_reducible apply And.intro)<;>first|omega|assumption|rfl|trivial
    ·exact Run.ret ti_ok rfl rfl (.a (ALe.prt rfl))
   by_cases h12:a0=12
   ·subst h12
    clear h1 h5 h6 h7 h8 h9 h10 h11
    refine rx ts2_ok 999 false 400 [false,false,false,false,false,false,false,false,true] ?_ ?_
    ·simp only[conj,z0,z2,arR,z1,zd]<;>(repeat' with_reducible apply And.intro)<;>first|omega|assumption|rfl|trivial
    ·exact Run.ret ti_ok rfl rfl (.a (ALe.prt rfl))
   by_cases h13:a0=13
   ·subst h13
    clear h1 h5 h6 h7 h8 h9 h10 h11 h12
    refine rx ts2_ok 999 false 400 [false,false,false,false,false,false,false,false,false,true,true] ?_ ?_
    ·simp only[conj,z0,z2,arR,z1,zd]<;>(repeat' with_reducible apply And.intro)<;>first|omega|assumption|rfl|trivial
    ·exact Run.ret ti_ok rfl rfl (.a (ALe.prt rfl))
   by_cases h14:a0=14
   ·subst h14
    clear h1 h5 h6 h7 h8 h9 h10 h11 h12 h13
    refine rx ts2_ok 999 false 400 [false,false,false,false,false,false,false,false,false,false,true] ?_ ?_
    ·simp only[conj,z0,z2,arR,z1,zd]<;>(repeat' with_reducible apply And.intro)<;>first|omega|assumption|rfl|trivial
    ·exact Run.ret ti_ok rfl rfl (.a (ALe.prt rfl))
   by_cases h15:a0=15
   ·subst h15
    clear h1 h5 h6 h7 h8 h9 h10 h11 h12 h13 h14
    refine rx ts2_ok 999 false 400 [false,false,false,false,false,false,false,false,false,false,false,true] ?_ ?_
    ·simp only[conj,z0,z2,arR,z1,zd]<;>(repeat' with_reducible apply And.intro)<;>first|omega|assumption|rfl|trivial
    ·exact Run.ret ti_ok rfl rfl (.a (ALe.prt rfl))
   by_cases h16:a0=16
   ·subst h16
    clear h1 h5 h6 h7 h8 h9 h10 h11 h12 h13 h14 h15
    refine rx ts2_ok 999 false 400 [false,false,false,false,false,false,false,false,false,false,false,false,true] ?_ ?_
    ·simp only[conj,z0,z2,arR,z1,zd]<;>(repeat' with_reducible apply And.intro)<;>first|omega|assumption|rfl|trivial
    ·exact Run.ret ti_ok rfl rfl (.a (ALe.prt rfl))
   by_cases h17:a0=17
   ·subst h17
    clear h1 h5 h6 h7 h8 h9 h10 h11 h12 h13 h14 h15 h16
    rw[show namedM ⟨17,a1,a2,a3,a4,⟨a5t,a5s,a5i,a5p⟩,⟨a6t,a6s,a6i,a6p⟩,a7,a8,a9,a10,a11,a12,a13,a14,a15,a16,a17,a18,a19,a20,a21,a22⟩={bareM 17 with places:=a21,hash:=(List.range 32).map fun j=>a15.getD j 0}from by rw[row_mk h15];rfl]
    refine rx ts2_ok 999 false 400 [false,false,false,false,false,false,false,false,false,false,false,false,false,true] ?_ ?_
    ·simp only[conj,z0,z2,arR,z1,zd]<;>(repeat' with_reducible apply And.intro)<;>first|omega|assumption|rfl|trivial
    ·exact Run.ret ti_ok rfl rfl (.a (ALe.prt rfl))
   by_cases h18:a0=18
   ·subst h18
    clear h1 h5 h6 h7 h8 h9 h10 h11 h12 h13 h14 h15 h16 h17
    rw[show namedM ⟨18,a1,a2,a3,a4,⟨a5t,a5s,a5i,a5p⟩,⟨a6t,a6s,a6i,a6p⟩,a7,a8,a9,a10,a11,a12,a13,a14,a15,a16,a17,a18,a19,a20,a21,a22⟩={bareM 18 with raws:=a22,hash:=(List.range 32).map fun j=>a15.getD j 0}from by rw[row_mk h15];rfl]
    refine rx ts2_ok 999 false 400 [false,false,false,false,false,false,false,false,false,false,false,false,false,false,true] ?_ ?_
    ·simp only[conj,z0,z2,arR,z1,zd]<;>(repeat' with_reducible apply And.intro)<;>first|omega|assumption|rfl|trivial
    ·exact Run.ret ti_ok rfl rfl (.a (ALe.prt rfl))
   have e:namedM ⟨a0,a1,a2,a3,a4,⟨a5t,a5s,a5i,a5p⟩,⟨a6t,a6s,a6i,a6p⟩,a7,a8,a9,a10,a11,a12,a13,a14,a15,a16,a17,a18,a19,a20,a21,a22⟩=bareM a0:=by
    unfold namedM
    simp only[h1,h5,h6,h7,h8,h9,h10,h11,h12,h13,h14,h15,h16,h17,h18,or_self,if_false]
   rw[e]
   refine rx ts2_ok 999 false 400 [false,false,false,false,false,false,false,false,false,false,false,false,false,false,false] ?_ ?_
   ·simp only[conj,z0,z2,arR,z1,zd]<;>(repeat' with_reducible apply And.intro)<;>first|omega|assumption|rfl|trivial
   ·exact Run.ret ti_ok rfl rfl (.a (ALe.prt rfl))
  ·cases hs
 ·cases hs
end Go.Proofs.Ytlbllaocdilafaa
