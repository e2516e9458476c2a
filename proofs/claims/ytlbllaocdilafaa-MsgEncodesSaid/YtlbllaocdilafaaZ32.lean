import Derived.Test.YtlbllaocdilafaaZ26
import Derived.Test.YtlbllaocdilafaaZ31
set_option linter.unusedSimpArgs false
set_option linter.unusedVariables false
set_option maxRecDepth 100000
set_option maxHeartbeats 16000000
namespace Go.Eng
open Go
theorem layB_succ (n:Int) (k:Nat):layB n (k+1)=layB n k++⟨#[UInt8.ofNat (n.toNat / 256 ^ k % 256)]⟩:=by
 unfold layB
 rw[List.range_succ,List.map_append]
 apply ByteArray.ext
 rw[ByteArray.data_append]
 simp
def rev2 (s:ByteArray):ByteArray:=ByteArray.empty++s.extract 1 2++s.extract 0 1
theorem rev2_lay {n:Int}(h0:0≤n) (h1:n<65536):rev2 (layB n 2)=bigB n:=by
 obtain⟨k,rfl⟩:=Int.eq_ofNat_of_zero_le h0
 have e:((k:Int) / 256+(k:Int) % 256*256).toNat=k / 256+k % 256*256:=by omega
 unfold rev2 bigB layB
 rw[e]
 apply ByteArray.ext
 simp only[ByteArray.data_append,ByteArray.data_extract,List.range,List.range.loop,List.map,Int.toNat_natCast,Nat.pow_zero,Nat.pow_one,Nat.div_one]
 have hq:k / 256<256:=by omega
 have hr:k % 256<256:=by omega
 generalize k / 256=q at hq ⊢
 generalize k % 256=r at hr ⊢
 have a1:(q+r*256) % 256=q % 256:=by omega
 have a2:(q+r*256) / 256 % 256=r:=by omega
 rw[a1,a2]
 simp
theorem quo256 {m:Int}(h:0≤m∧m<18446744073709551616):rbin .quo .u64 m 256=m / 256:=by
 show IntKind.u64.wrap (Int.tdiv m 256)=_
 rw[Int.tdiv_eq_ediv_of_nonneg h.1]
 show m / 256 % 18446744073709551616=_
 omega
theorem rem256 {m:Int}(h:0≤m):rbin .rem .u64 m 256=m % 256:=by
 show Int.tmod m 256=_
 exact Int.tmod_eq_emod_of_nonneg h
theorem q0:rbin .sub .i64 2 1=1:=rfl
theorem q1:rbin .sub .i64 1 1=0:=rfl
theorem q2:rbin .sub .i64 0 1 = -1:=rfl
theorem q3:rbin .add .i64 1 1=2:=rfl
theorem q4:rbin .add .i64 0 1=1:=rfl
def netT (d:D) (b:Bool):ByteArray:=if b then layB d.fst!.int! 4++netB d else netB d
structure NR extends NL where
 netT:D→Bool→ByteArray
 rev2:ByteArray→ByteArray
 two:ByteArray→Prop
 nnT:D→Prop
 sml:ByteArray→Prop
 nn:Int→Prop
def nrR:NR where
 toNL:=nlR
 netT:=netT
 rev2:=rev2
 two s:=s.size=2
 nnT d:=∃n:Nt,d=n.D∧(0≤n.t∧n.t<4294967296)∧(0≤n.s∧n.s<18446744073709551616)∧0≤n.p∧n.p<65536
 sml s:=s.size≤140737488355328
 nn n:=0≤n∧n<9223372036854775808
end Go.Eng
namespace Go.Proofs.Ytlbllaocdilafaa
open Go Go.Eng Go.Proofs Go.RowKit
attribute[local irreducible] CallOk HOk Run TIok rbin rcmp run1 updF shfF blitF
def tsr0 (lf:NR):Tbl:=tbL [] []
theorem tsr0_ok:TblOk Try.prog (tsr0 nrR):=tbL_ok (nofun) (nofun)
def sLow (lf:NR):ESpec:=fun l=>match l with
 | [.one (.int .u64 n),.one (.int .i64 k)]=>some (.a (.one (.str (lf.lay n k))),[lf.layOk n k])
 |_=>none
theorem low_ok:CallOk Try.prog 102 (sLow nrR):=by
 refine .of_run (hc:=(tsr0 nrR).hc) Try.func102 rfl (by kernel_rfl) (by kernel_rfl) fun xs v ps hs hp w=>?_
 unfold sLow at hs
 split at hs
 ·rename_i n k
  cases hs
  obtain⟨h1,h2,h3,h4⟩:0≤n∧n<18446744073709551616∧0≤k∧k≤1073741824:=hp (nrR.layOk n k) (by simp)
  clear hp
  refine ra tsr0_ok 0 false 400 [] [0,1,5,6] [0,5,6] ?_ ?_
  ·simp only[conj,z0,z2,arR,z1]<;>((repeat' with_reducible apply And.intro)<;>first|omega|assumption|rfl|trivial)
  refine Run.loop (ι:={q:Int×ByteArray×Int // (0≤q.2.2∧q.2.2≤k)∧q.1=((n.toNat / 256 ^ q.2.2.toNat:Nat):Int)∧q.2.1=layB n q.2.2.toNat})
   (fun i=>([.a (.one (.int .u64 i.1.1)),.a (.one (.int .i64 k)),.z,.z,.z,.a (.one (.str i.1.2.1)),.a (.one (.int .i64 i.1.2.2)),.z,.z,.z,.z,.z,.z,.z,.z,.z,.z,.z,.z,.z,.z,.z],[]))
   (fun i=>(k-i.1.2.2).toNat) ⟨(n,.empty,0),by simp only;omega,by show n=((n.toNat / 256 ^ 0:Nat):Int);rw[Nat.pow_zero,Nat.div_one];omega,rfl⟩ ?_
  rintro⟨⟨m,s,i⟩,hi,hm,hs⟩ ih
  try simp only at hi hm hs
  by_cases hlt:i<k
  ·have e1:rbin .add .i64 i 1=i+1:=addi (by omega) (by omega)
   have hsz:s.size=i.toNat:=by rw[hs,layB_size]
   have hm0:0≤m∧m<18446744073709551616:=by
    have h:=Nat.div_le_self n.toNat (256 ^ i.toNat)
    rw[hm]
    generalize n.toNat / 256 ^ i.toNat=z at h ⊢
    omega
   have e2:=quo256 hm0
   have e3:=rem256 hm0.1
   have hnx:layB n (i+1).toNat=s++⟨#[UInt8.ofNat (n.toNat / 256 ^ i.toNat % 256)]⟩:=by
    rw[show(i+1).toNat=i.toNat+1 by omega,layB_succ,hs]
   have hdv:m / 256=((n.toNat / 256 ^ (i+1).toNat:Nat):Int):=by
    rw[show(i+1).toNat=i.toNat+1 by omega,Nat.pow_succ,←Nat.div_div_eq_div_mul,hm]
    omega
   refine ra tsr0_ok 2 true 400 [true] [0,1,5,6] [0,5,6] ?_ ?_
   ·simp only[conj,z0,z2,arR,z1,hsz]
    (repeat' with_reducible apply And.intro)<;>first|omega|(show((i.toNat+1:Nat):Int)≤9223372036854775807;omega)
   ·refine ih ⟨(_,_,_),?_,?_,?_⟩ ?_ _ _
    ·show 0≤rbin .add .i64 i 1∧rbin .add .i64 i 1≤k
     rw[e1];omega
    ·show rbin .quo .u64 m 256=_
     rw[e2,hdv]
     show _=((n.toNat / 256 ^ (rbin .add .i64 i 1).toNat:Nat):Int)
     rw[e1]
    ·show s++⟨#[UInt8.ofNat (IntKind.u8.wrap (rbin .rem .u64 m 256)).toNat]⟩=layB n (rbin .add .i64 i 1).toNat
     rw[e1,e3,hnx]
     have:(IntKind.u8.wrap (m % 256)).toNat=n.toNat / 256 ^ i.toNat % 256:=by
      show(m % 256 % 256).toNat=_
      rw[hm]
      generalize n.toNat / 256 ^ i.toNat=z
      omega
     rw[this]
    ·show(k-rbin .add .i64 i 1).toNat<(k-i).toNat
     rw[e1];omega
  ·refine rx tsr0_ok 999 false 400 [false] ?_ ?_
   ·simp only[conj,z0,z2,arR,z1]<;>((repeat' with_reducible apply And.intro)<;>first|omega|assumption|rfl|trivial)
   ·refine Run.ret ti_ok rfl rfl (.a (.str ?_))
    rw[hs,show i=k by omega];rfl
 ·cases hs
def sTurn2 (lf:NR):ESpec:=fun l=>match l with
 | [.one (.str s)]=>some (.a (.one (.str (lf.rev2 s))),[lf.two s])
 |_=>none
theorem turn2_ok:CallOk Try.prog 137 (sTurn2 nrR):=by
 refine .of_run (hc:=(tsr0 nrR).hc) Try.func137 rfl (by kernel_rfl) (by kernel_rfl) fun xs v ps hs hp w=>?_
 unfold sTurn2 at hs
 split at hs
 ·rename_i s
  cases hs
  have h2:s.size=2:=hp (nrR.two s) (by simp)
  clear hp
  refine ra tsr0_ok 0 false 400 [] [0,3,4] [3,4] ?_ ?_
  ·simp only[conj,z0,z2,arR,z1]<;>((repeat' with_reducible apply And.intro)<;>first|omega|assumption|rfl|trivial)
  refine Run.fam3 (ι:={z:Int // z=1}) (fun i=>([.a (.one (.str s)),.z,.z,.a (.one (.str .empty)),.a (.one (.int .i64 i.1)),.z,.z,.z,.z,.z,.z,.z,.z,.z,.z,.z,.z,.z,.z,.z],[])) ⟨_,by show rbin .sub .i64 (s.size:Int) 1=1;rw[h2];exact q0⟩ ?_
  rintro⟨z,hz⟩
  subst hz
  refine rx tsr0_ok 999 true 400 [true,true,false] ?_ ?_
  ·have z1:(s.extract 1 2).size=1:=by rw[ByteArray.size_extract];omega
   have z2:(s.extract 0 1).size=1:=by rw[ByteArray.size_extract];omega
   have z3:(ByteArray.empty++s.extract 1 2).size=1:=by rw[bsa,z1];rfl
   simp only[conj,z0,z2,arR,z1,q1,q2,q3,q4,show Int.toNat 1=1 from rfl,show Int.toNat 2=2 from rfl,show Int.toNat 0=0 from rfl,z1,z2,z3,h2]
   (repeat' with_reducible apply And.intro)<;>first|omega|decide|trivial|(rw[bsa,z1];decide)
  ·refine Run.ret ti_ok rfl rfl (.a (.str ?_))
   show ByteArray.empty++s.extract 1 (rbin .add .i64 1 1).toNat++s.extract (rbin .sub .i64 1 1).toNat (rbin .add .i64 (rbin .sub .i64 1 1) 1).toNat=rev2 s
   rw[q1,q3,q4]
   rfl
 ·cases hs
def tsr1 (lf:NR):Tbl:=tbL [(102,nP (sLow lf)),(137,sTurn2 lf)] []
theorem tsr1_ok:TblOk Try.prog (tsr1 nrR):=tbL_ok (mc ⟨low_ok.nP,mc ⟨turn2_ok,nofun⟩⟩) (nofun)
theorem rcnt_ok:CallOk Try.prog 138 (sCnt nrR.toWL):=by
 refine .of_run (hc:=(tsr1 nrR).hc) Try.func138 rfl (by kernel_rfl) (by kernel_rfl) fun xs v ps hs hp w=>?_
 unfold sCnt at hs
 split at hs
 ·rename_i n
  cases hs
  obtain⟨g1,g2⟩:0≤n∧n<18446744073709551616:=hp (nrR.u64 n) (by simp)
  clear hp
  have hlay:∀k:Int,0≤k→k≤8→laR.layOk n k:=fun k h0 h8=>⟨g1,g2,h0,by omega⟩
  have k1:(⟨#[253]⟩:ByteArray)=layB 253 1:=rfl
  have k2:(⟨#[254]⟩:ByteArray)=layB 254 1:=rfl
  have k3:(⟨#[255]⟩:ByteArray)=layB 255 1:=rfl
  have hsz:∀a b:Int,0≤b→b≤8→∀c:ByteArray,c.size=1→(((c.size+(layB a b.toNat).size:Nat):Int)≤9223372036854775807):=by
   intro a b h0 h8 c hc
   rw[hc,layB_size];omega
  by_cases h1:n<253
  ·rw[show nrR.cnt n=layB n 1 from if_pos h1]
   refine rx tsr1_ok 999 false 400 [true] ?_ ?_
   ·simp only[conj,z0,z2,arR,z1]
    (repeat' with_reducible apply And.intro)<;>first|exact hlay _ (by decide) (by decide)|omega|trivial
   ·exact Run.ret ti_ok rfl rfl (.a (.str rfl))
  by_cases h2:n<65536
  ·rw[show nrR.cnt n=layB 253 1++layB n 2 from(if_neg h1).trans (if_pos h2)]
   refine rx tsr1_ok 999 false 400 [false,true] ?_ ?_
   ·simp only[conj,z0,z2,arR,z1]
    (repeat' with_reducible apply And.intro)<;>first|exact hlay _ (by decide) (by decide)|exact hsz _ _ (by decide) (by decide) _ rfl|omega|trivial
   ·exact Run.ret ti_ok rfl rfl (.a (.str rfl))
  by_cases h3:n<4294967296
  ·rw[show nrR.cnt n=layB 254 1++layB n 4 from(if_neg h1).trans ((if_neg h2).trans (if_pos h3))]
   refine rx tsr1_ok 999 false 400 [false,false,true] ?_ ?_
   ·simp only[conj,z0,z2,arR,z1]
    (repeat' with_reducible apply And.intro)<;>first|exact hlay _ (by decide) (by decide)|exact hsz _ _ (by decide) (by decide) _ rfl|omega|trivial
   ·exact Run.ret ti_ok rfl rfl (.a (.str rfl))
  ·rw[show nrR.cnt n=layB 255 1++layB n 8 from(if_neg h1).trans ((if_neg h2).trans (if_neg h3))]
   refine rx tsr1_ok 999 false 400 [false,false,false] ?_ ?_
   ·simp only[conj,z0,z2,arR,z1]
    (repeat' with_reducible apply And.intro)<;>first|exact hlay _ (by decide) (by decide)|exact hsz _ _ (by decide) (by decide) _ rfl|omega|trivial
   ·exact Run.ret ti_ok rfl rfl (.a (.str rfl))
 ·cases hs
def tsr2 (lf:NR):Tbl:=tbL [(138,nP (sCnt lf.toWL))] []
theorem tsr2_ok:TblOk Try.prog (tsr2 nrR):=tbL_ok (mc ⟨rcnt_ok.nP,nofun⟩) (nofun)
def sCount9 (lf:NR):ESpec:=fun l=>match l with
 | [.one (.int .i64 n)]=>some (.a (.one (.str (lf.cnt n))),[lf.nn n])
 |_=>none
theorem count9_ok:CallOk Try.prog 106 (sCount9 nrR):=by
 refine .of_run (hc:=(tsr2 nrR).hc) Try.func106 rfl (by kernel_rfl) (by kernel_rfl) fun xs v ps hs hp w=>?_
 unfold sCount9 at hs
 split at hs
 ·rename_i n
  cases hs
  obtain⟨g1,g2⟩:0≤n∧n<9223372036854775808:=hp (nrR.nn n) (by simp)
  clear hp
  have hc:IntKind.u64.wrap n=n:=by show n % 18446744073709551616=n;omega
  have h1:nrR.u64 (IntKind.u64.wrap n):=by rw[hc];exact⟨g1,by omega⟩
  refine rx tsr2_ok 999 false 400 [] ?_ ?_
  ·exact⟨h1,trivial⟩
  ·refine Run.ret ti_ok rfl rfl (.a (.str ?_))
   show cntB (IntKind.u64.wrap n)=cntB n
   rw[hc]
 ·cases hs
def tsr3 (lf:NR):Tbl:=tbL [(106,nP (sCount9 lf))] []
theorem tsr3_ok:TblOk Try.prog (tsr3 nrR):=tbL_ok (mc ⟨count9_ok.nP,nofun⟩) (nofun)
def sRaw9 (lf:NR):ESpec:=fun l=>match l with
 | [.one (.str u)]=>some (.a (.one (.str (lf.raw u))),[lf.sml u])
 |_=>none
theorem raw9_ok:CallOk Try.prog 104 (sRaw9 nrR):=by
 refine .of_run (hc:=(tsr3 nrR).hc) Try.func104 rfl (by kernel_rfl) (by kernel_rfl) fun xs v ps hs hp w=>?_
 unfold sRaw9 at hs
 split at hs
 ·rename_i u
  cases hs
  have g1:u.size≤140737488355328:=hp (nrR.sml u) (by simp)
  clear hp
  have h1:nrR.nn ((u.size:Nat):Int):=⟨by omega,by omega⟩
  have h2:(((cntB ((u.size:Nat):Int)).size+u.size:Nat):Int)≤9223372036854775807:=by
   have e1:=cntB_size ((u.size:Nat):Int)
   have e2:=cntL_le ((u.size:Nat):Int)
   omega
  refine rx tsr3_ok 999 false 400 [] ?_ ?_
  ·exact⟨h2,h1,trivial⟩
  ·exact Run.ret ti_ok rfl rfl (.a (.str rfl))
 ·cases hs
def sFlag9 (lf:NR):ESpec:=fun l=>match l with
 | [.one (.bool b)]=>some (.a (.one (.str (lf.flag b))),[])
 |_=>none
theorem flag9_ok:CallOk Try.prog 105 (sFlag9 nrR):=by
 refine .of_run (hc:=(tsr3 nrR).hc) Try.func105 rfl (by kernel_rfl) (by kernel_rfl) fun xs v ps hs hp w=>?_
 unfold sFlag9 at hs
 split at hs
 ·rename_i b
  cases hs
  clear hp
  cases b with
  |true=>
   refine rx tsr3_ok 999 false 400 [true] ?_ ?_
   ·simp only[conj,z0,z2,arR,z1]
   ·exact Run.ret ti_ok rfl rfl (.a (.str rfl))
  |false=>
   refine rx tsr3_ok 999 false 400 [false] ?_ ?_
   ·simp only[conj,z0,z2,arR,z1]
   ·exact Run.ret ti_ok rfl rfl (.a (.str rfl))
 ·cases hs
def sNet9 (lf:NR):ESpec:=fun l=>match l with
 | [.agg (.prt [.v sh d]),.one (.bool b)]=>if shEq sh NS then some (.a (.one (.str (lf.netT d b))),[lf.nnT d])else none
 |_=>none
theorem net9_ok:CallOk Try.prog 103 (sNet9 nrR):=by
 refine .of_run (hc:=(tsr1 nrR).hc) Try.func103 rfl (by kernel_rfl) (by kernel_rfl) fun xs v ps hs hp w=>?_
 unfold sNet9 at hs
 split at hs
 ·rename_i sh d b
  split at hs
  ·rename_i hsh
   obtain rfl:=shEq_eq hsh
   clear hsh
   cases hs
   obtain⟨⟨nt,ns,ni,np⟩,rfl,⟨g1,g2⟩,⟨g3,g4⟩,g5,g6⟩:=hp (nrR.nnT d) (by simp)
   simp only at g1 g2 g3 g4 g5 g6
   clear hp
   have c1:IntKind.u64.wrap nt=nt:=by show nt % 18446744073709551616=nt;omega
   have c2:IntKind.u64.wrap np=np:=by show np % 18446744073709551616=np;omega
   have L1:laR.layOk nt 4:=⟨g1,by omega,by decide,by decide⟩
   have L2:laR.layOk ns 8:=⟨g3,g4,by decide,by decide⟩
   have L3:laR.layOk np 2:=⟨g5,by omega,by decide,by decide⟩
   have L4:nrR.two (layB np 2):=layB_size np 2
   have e5:(rev2 (layB np 2)).size=2:=by rw[rev2_lay g5 g6];exact bigB_size np
   cases b with
   |true=>
    refine rx tsr1_ok 999 false 400 [true] ?_ ?_
    ·simp only[conj,z0,z2,arR,z1,c1,c2]
     (repeat' with_reducible apply And.intro)<;>first
       |exact L1
       |exact L2
       |exact L3
       |exact L4
       |(simp only[nrR,nlR,wlR,laR,bsa,layB_size,txz];first|decide|(rw[show Int.toNat 2=2 from rfl,e5];decide))
    ·refine Run.ret ti_ok rfl rfl (.a (.str ?_))
     show layB (IntKind.u64.wrap nt) 4++layB ns 8++rowB ni 16++rev2 (layB (IntKind.u64.wrap np) 2)=layB nt 4++(layB ns 8++rowB ni 16++bigB np)
     rw[c1,c2,rev2_lay g5 g6]
     simp only[baa]
   |false=>
    refine rx tsr1_ok 999 false 400 [false] ?_ ?_
    ·simp only[conj,z0,z2,arR,z1,c1,c2]
     (repeat' with_reducible apply And.intro)<;>first
       |exact L1
       |exact L2
       |exact L3
       |exact L4
       |(simp only[nrR,nlR,wlR,laR,bsa,layB_size,txz];first|decide|(rw[show Int.toNat 2=2 from rfl,e5];decide))
    ·refine Run.ret ti_ok rfl rfl (.a (.str ?_))
     show ByteArray.empty++layB ns 8++rowB ni 16++rev2 (layB (IntKind.u64.wrap np) 2)=layB ns 8++rowB ni 16++bigB np
     rw[c2,rev2_lay g5 g6,ByteArray.empty_append]
  ·cases hs
 ·cases hs
end Go.Proofs.Ytlbllaocdilafaa
namespace Go.Eng
open Go
structure QR extends PM where
 r:NR
noncomputable def qrR:QR where
 toPM:=pmR
 r:=nrR
theorem okD_NT {d:D}(h:okD NS d):nrR.nnT d:=by
 obtain⟨x1,y1,rfl,h1,g1⟩:=okD_two h
 obtain⟨x2,y2,rfl,h2,g2⟩:=okD_two g1
 obtain⟨x3,y3,rfl,h3,g3⟩:=okD_two g2
 obtain⟨n1,rfl⟩:=okD_int h1
 obtain⟨n2,rfl⟩:=okD_int h2
 obtain⟨n3,rfl⟩:=okD_int g3
 obtain⟨l,rfl,-⟩:=okD_arr h3
 exact⟨⟨n1,n2,l,n3⟩,rfl,rg32 h1,rg64 h2,rg16 g3⟩
theorem netT_false (d:D):netT d false=netB d:=rfl
theorem netT_true (d:D):netT d true=layB d.fst!.int! 4++netB d:=rfl
theorem raw_le (u:ByteArray):u.size≤(rawB u).size:=by
 unfold rawB
 rw[bsa]
 omega
theorem w_id {n:Int}(h:0≤n∧n<18446744073709551616):IntKind.u64.wrap n=n:=by
 show n % 18446744073709551616=n
 omega
theorem gap_ok2 {x la:Int}(h1:-1≤la) (h2:la<x) (h3:x≤65535):rbin .sub .i64 (rbin .sub .i64 x la) 1=x-la-1∧0≤x-la-1∧x-la-1<9223372036854775808:=by
 rw[subi (x:=x) (by omega) (by omega),subi (by omega) (by omega)]
 exact⟨rfl,by omega,by omega⟩
theorem cat_fit2 {base:ByteArray}{f:Nat→ByteArray}{n p:Nat}(hp:p<n) (h:(base++catN f n).size≤140737488355328):(base++catN f p).size+(f p).size≤140737488355328:=by
 rw[bsa]at h
 exact cat_fit hp h
theorem cat_fit3 {base:ByteArray}{f:Nat→ByteArray}{n p:Nat}(hp:p<n) (h:(base++catN f n).size≤140737488355328):(f p).size≤140737488355328:=by
 have:=cat_fit2 hp h
 omega
theorem elz (l:List Int):({data:=(List.map (fun d:D=>UInt8.ofNat d.int!.toNat) (List.map D.int l)).toArray}:ByteArray).size=l.length:=by
 show(List.map _ (List.map D.int l)).toArray.size=l.length
 simp
theorem one0:({data:={toList:=[0] } }:ByteArray).size=1:=rfl
theorem row_len {k:IntKind}{m:Nat}{d:D}(h:okD (.arr k m) d):d.row!.length=m:=by
 obtain⟨l,rfl,e⟩:=okD_arr h
 exact e
theorem item_len {d:D}(h:okD (.two (.int .u32) (.arr .u8 32)) d):d.snd!.row!.length=32:=by
 obtain⟨x1,y1,rfl,h1,g1⟩:=okD_two h
 exact row_len g1
theorem els_row {d:D}{n:Nat}(h:d.row!.length=n):arR.dTxt (arR.dEls d)=rowB d.row! n:=by
 show(⟨((d.row!.map D.int).map fun d=>UInt8.ofNat d.int!.toNat).toArray⟩:ByteArray)=⟨((List.range n).map fun j=>UInt8.ofNat (d.row!.getD j 0).toNat).toArray⟩
 congr 2
 apply List.ext_getElem
 ·simp[h]
 ·intro i h1 h2
  have hi:i<d.row!.length:=by simpa using h1
  simp only[List.getElem_map,List.getElem_range]
  rw[List.getD_eq_getElem?_getD,geg hi]
  rfl
end Go.Eng
namespace Go.Proofs.Ytlbllaocdilafaa
open Go Go.Eng Go.Proofs Go.RowKit
attribute[local irreducible] CallOk HOk Run TIok rbin rcmp run1 updF shfF blitF
noncomputable def tst0 (lf:QR):Tbl:=tbL [(102,nP (sLow lf.r)),(103,nP (sNet9 lf.r)),(104,sRaw9 lf.r),(105,nP (sFlag9 lf.r)),(106,nP (sCount9 lf.r))] []
theorem tst0_ok:TblOk Try.prog (tst0 qrR):=tbL_ok (mc ⟨low_ok.nP,mc ⟨net9_ok.nP,mc ⟨raw9_ok,mc ⟨flag9_ok.nP,mc ⟨count9_ok.nP,nofun⟩⟩⟩⟩⟩) nofun
noncomputable def sPayG (G:D→Prop):ESpec:=fun l=>match l with
 | [.agg (.prt [.v sh d])]=>if shEq sh MS then some (.a (.one (.str (qrR.pay d))),[putOk d,qrR.r.sml (qrR.pay d),G d])else none
 |_=>none
theorem pay_5:CallOk Try.prog 76 (sPayG (kindIs 5)):=by
 refine .of_run (hc:=(tst0 qrR).hc) Try.func76 rfl (by kernel_rfl) (by kernel_rfl) fun xs v ps hs hp w=>?_
 unfold sPayG at hs
 split at hs
 ·rename_i sh d
  split at hs
  ·rename_i hsh
   obtain rfl:=shEq_eq hsh
   clear hsh
   cases hs
   obtain⟨m,rfl,hok,⟨z11,z12,z13,z16,z19,z20,z21,z22⟩,hr1,hr2⟩:=hp (putOk d) (by simp)
   have hf:(payM m).size≤140737488355328:=(congrArg (fun x=>(payM x).size≤140737488355328) (msOf_D m)).mp (hp (qrR.r.sml (qrR.pay m.D)) (by simp))
   have hk:m.kind=5:=(congrArg Ms.kind (msOf_D m)).symm.trans (hp (kindIs 5 m.D) (by simp))
   clear hp
   rw[show qrR.pay m.D=payM m from payOfE]
   obtain⟨a0,a1,a2,a3,a4,⟨a5t,a5s,a5i,a5p⟩,⟨a6t,a6s,a6i,a6p⟩,a7,a8,a9,a10,a11,a12,a13,a14,a15,a16,a17,a18,a19,a20,a21,a22⟩:=m
   obtain⟨r0,r1,r2,r3,r4,r5,r6,r7,r8,r9,r10,r11,r12,r13,r14,r15,r16,r17,r18,r19,r20,r21,r22⟩:=hok
   simp only at hk z11 z12 z13 z16 z19 z20 z21 z22
   subst hk
   replace hr1:riseP filP a20:=hr1
   replace hr2:riseP intS a21:=hr2
   have hF:=fx a1 a2 a3 a4 a8 a5t a5s a5p a6t a6s a6p a5i a6i a11 a12 a13 a16 a19 a20 a21 a22 r1 r2 r3 r8 r11 r12 r13 r16 r19 r20 r21 r22 r5 r6
   clear r11 r12 r13 r16 r19 r20 r21 r22
   obtain⟨R1,R2,R3,R8,R4,r11,r12,r13,r16,r19,r20,r21,r22,N5,N6⟩:=hF
   have e:payM ⟨5,a1,a2,a3,a4,⟨a5t,a5s,a5i,a5p⟩,⟨a6t,a6s,a6i,a6p⟩,a7,a8,a9,a10,a11,a12,a13,a14,a15,a16,a17,a18,a19,a20,a21,a22⟩=layB a3 8:=rfl
   rw[e]at hf ⊢
   clear e
   clear r0 r7 r9 r10 r14 r15 r17 r18 r20 r21 r22
   refine rx tst0_ok 999 false 400 [false,true,true] ?_ ?_
   ·simp only[conj,z0,z2,arR,z1,qrR,pmR,nrR,nlR,wlR,laR,lbR,zd,netT_false,netT_true]
    (repeat' with_reducible apply And.intro)<;>first
      |omega
      |((try simp only[bsa,layB_size,rowB_size,netB_size,bigB_size,flagB_size,txz,elz,one0]);omega)
      |exact trivial
      |assumption
   refine Run.ret ti_ok rfl rfl (.a (.str ?_))
   rfl
  ·cases hs
 ·cases hs
theorem pay_6:CallOk Try.prog 76 (sPayG (kindIs 6)):=by
 refine .of_run (hc:=(tst0 qrR).hc) Try.func76 rfl (by kernel_rfl) (by kernel_rfl) fun xs v ps hs hp w=>?_
 unfold sPayG at hs
 split at hs
 ·rename_i sh d
  split at hs
  ·rename_i hsh
   obtain rfl:=shEq_eq hsh
   clear hsh
   cases hs
   obtain⟨m,rfl,hok,⟨z11,z12,z13,z16,z19,z20,z21,z22⟩,hr1,hr2⟩:=hp (putOk d) (by simp)
   have hf:(payM m).size≤140737488355328:=(congrArg (fun x=>(payM x).size≤140737488355328) (msOf_D m)).mp (hp (qrR.r.sml (qrR.pay m.D)) (by simp))
   have hk:m.kind=6:=(congrArg Ms.kind (msOf_D m)).symm.trans (hp (kindIs 6 m.D) (by simp))
   clear hp
   rw[show qrR.pay m.D=payM m from payOfE]
   obtain⟨a0,a1,a2,a3,a4,⟨a5t,a5s,a5i,a5p⟩,⟨a6t,a6s,a6i,a6p⟩,a7,a8,a9,a10,a11,a12,a13,a14,a15,a16,a17,a18,a19,a20,a21,a22⟩:=m
   obtain⟨r0,r1,r2,r3,r4,r5,r6,r7,r8,r9,r10,r11,r12,r13,r14,r15,r16,r17,r18,r19,r20,r21,r22⟩:=hok
   simp only at hk z11 z12 z13 z16 z19 z20 z21 z22
   subst hk
   replace hr1:riseP filP a20:=hr1
   replace hr2:riseP intS a21:=hr2
   have hF:=fx a1 a2 a3 a4 a8 a5t a5s a5p a6t a6s a6p a5i a6i a11 a12 a13 a16 a19 a20 a21 a22 r1 r2 r3 r8 r11 r12 r13 r16 r19 r20 r21 r22 r5 r6
   clear r11 r12 r13 r16 r19 r20 r21 r22
   obtain⟨R1,R2,R3,R8,R4,r11,r12,r13,r16,r19,r20,r21,r22,N5,N6⟩:=hF
   have e:payM ⟨6,a1,a2,a3,a4,⟨a5t,a5s,a5i,a5p⟩,⟨a6t,a6s,a6i,a6p⟩,a7,a8,a9,a10,a11,a12,a13,a14,a15,a16,a17,a18,a19,a20,a21,a22⟩=layB a3 8:=rfl
   rw[e]at hf ⊢
   clear e
   clear r0 r7 r9 r10 r14 r15 r17 r18 r20 r21 r22
   refine rx tst0_ok 999 false 400 [false,false,true] ?_ ?_
   ·simp only[conj,z0,z2,arR,z1,qrR,pmR,nrR,nlR,wlR,laR,lbR,zd,netT_false,netT_true]
    (repeat' with_reducible apply And.intro)<;>first
      |omega
      |((try simp only[bsa,layB_size,rowB_size,netB_size,bigB_size,flagB_size,txz,elz,one0]);omega)
      |exact trivial
      |assumption
   refine Run.ret ti_ok rfl rfl (.a (.str ?_))
   rfl
  ·cases hs
 ·cases hs
theorem pay_7:CallOk Try.prog 76 (sPayG (kindIs 7)):=by
 refine .of_run (hc:=(tst0 qrR).hc) Try.func76 rfl (by kernel_rfl) (by kernel_rfl) fun xs v ps hs hp w=>?_
 unfold sPayG at hs
 split at hs
 ·rename_i sh d
  split at hs
  ·rename_i hsh
   obtain rfl:=shEq_eq hsh
   clear hsh
   cases hs
   obtain⟨m,rfl,hok,⟨z11,z12,z13,z16,z19,z20,z21,z22⟩,hr1,hr2⟩:=hp (putOk d) (by simp)
   have hf:(payM m).size≤140737488355328:=(congrArg (fun x=>(payM x).size≤140737488355328) (msOf_D m)).mp (hp (qrR.r.sml (qrR.pay m.D)) (by simp))
   have hk:m.kind=7:=(congrArg Ms.kind (msOf_D m)).symm.trans (hp (kindIs 7 m.D) (by simp))
   clear hp
   rw[show qrR.pay m.D=payM m from payOfE]
   obtain⟨a0,a1,a2,a3,a4,⟨a5t,a5s,a5i,a5p⟩,⟨a6t,a6s,a6i,a6p⟩,a7,a8,a9,a10,a11,a12,a13,a14,a15,a16,a17,a18,a19,a20,a21,a22⟩:=m
   obtain⟨r0,r1,r2,r3,r4,r5,r6,r7,r8,r9,r10,r11,r12,r13,r14,r15,r16,r17,r18,r19,r20,r21,r22⟩:=hok
   simp only at hk z11 z12 z13 z16 z19 z20 z21 z22
   subst hk
   replace hr1:riseP filP a20:=hr1
   replace hr2:riseP intS a21:=hr2
   have hF:=fx a1 a2 a3 a4 a8 a5t a5s a5p a6t a6s a6p a5i a6i a11 a12 a13 a16 a19 a20 a21 a22 r1 r2 r3 r8 r11 r12 r13 r16 r19 r20 r21 r22 r5 r6
   clear r11 r12 r13 r16 r19 r20 r21 r22
   obtain⟨R1,R2,R3,R8,R4,r11,r12,r13,r16,r19,r20,r21,r22,N5,N6⟩:=hF
   have e:payM ⟨7,a1,a2,a3,a4,⟨a5t,a5s,a5i,a5p⟩,⟨a6t,a6s,a6i,a6p⟩,a7,a8,a9,a10,a11,a12,a13,a14,a15,a16,a17,a18,a19,a20,a21,a22⟩=(cntB a11.length++catN (elNet a11) a11.length):=rfl
   rw[e]at hf ⊢
   clear e
   simp only[bsa]at hf
   obtain⟨base,hbase⟩:∃b,b=cntB a11.length:=⟨_,rfl⟩
   have hB:(base++catN (elNet a11) a11.length).size≤140737488355328:=by rw[hbase];simp only[bsa];omega
   clear r0 r7 r9 r10 r14 r15 r17 r18 r20 r21 r22
   refine ra tst0_ok 0 false 400 [false,false,false,true] [1,3,4] [3,4] ?_ ?_
   ·simp only[conj,z0,z2,arR,z1,qrR,pmR,nrR,nlR,wlR,laR,lbR,zd,netT_false,netT_true]
    (repeat' with_reducible apply And.intro)<;>first
      |omega
      |((try simp only[bsa,layB_size,rowB_size,netB_size,bigB_size,flagB_size,txz,elz,one0]);omega)
      |exact trivial
      |assumption
   refine Run.loop (ι:={q:Int×ByteArray // (0≤q.1∧q.1≤a11.length)∧q.2=base++catN (elNet a11) q.1.toNat})
    (fun i=>([.z,.a (.one (.ptr 0 (.lit 0))),.z,.a (.one (.str i.1.2)),.a (.one (.int .i64 i.1.1)),.z,.z,.z,.z,.z,.z,.z,.z,.z,.z,.z,.z,.z,.z,.z,.z,.z,.z,.z,.z,.z,.z,.z,.z,.z,.z,.z,.z,.z,.z,.z,.z,.z,.z,.z,.z,.z,.z,.z,.z,.z,.z,.z,.z,.z,.z,.z,.z,.z,.z,.z,.z,.z,.z,.z,.z,.z,.z,.z,.z,.z,.z,.z,.z,.z,.z,.z,.z,.z,.z,.z,.z,.z,.z,.z,.z,.z,.z,.z,.z,.z,.z,.z,.z,.z,.z,.z,.z,.z,.z,.z,.z,.z,.z,.z,.z,.z,.z,.z,.z,.z,.z,.z,.z,.z,.z,.z,.z,.z,.z,.z,.z,.z,.z,.z,.z,.z,.z,.z,.z,.z,.z,.z,.z,.z,.z,.z,.z,.z,.z,.z,.z,.z,.z,.z,.z,.z,.z,.z,.z,.z,.z,.z,.z,.z,.z,.z,.z,.z,.z,.z,.z,.z,.z,.z,.z,.z,.z,.z,.z,.z,.z,.z,.z,.z,.z,.z,.z,.z,.z,.z,.z,.z,.z,.z,.z,.z,.z,.z,.z,.z,.z,.z,.z,.z,.z,.z,.z,.z,.z,.z,.z,.z,.z,.z,.z,.z,.z,.z,.z,.z,.z,.z,.z,.z,.z,.z,.z,.z,.z,.z,.z,.z,.z,.z,.z,.z,.z,.z,.z,.z,.z,.z,.z,.z,.z,.z,.z,.z,.z,.z,.z,.z,.z,.z,.z,.z,.z,.z,.z,.z,.z,.z,.z,.z,.z,.z,.z,.z,.z,.z,.z,.z,.z,.z,.z,.z,.z,.z,.z,.z,.z,.z,.z,.z,.z,.z,.z,.z,.z,.z,.z,.z,.z,.z,.z,.z,.z,.z,.z,.z,.z,.z,.z,.z,.z,.z,.z,.z,.z,.z,.z,.z,.z,.z,.z,.z,.z,.z,.z,.z,.z,.z],[some ⟨false,.prt [.v MS (.pair (.int 7) (.pair (.int a1) (.pair (.int a2) (.pair (.int a3) (.pair (.int a4) (.pair (.pair (.int a5t) (.pair (.int a5s) (.pair (.row a5i) (.int a5p)))) (.pair (.pair (.int a6t) (.pair (.int a6s) (.pair (.row a6i) (.int a6p)))) (.pair (.str a7) (.pair (.int a8) (.pair (.bool a9) (.pair (.bool a10) (.pair (.sl a11) (.pair (.sl a12) (.pair (.sl a13) (.pair (.row a14) (.pair (.row a15) (.pair (.sl a16) (.pair (.str a17) (.pair (.str a18) (.pair (.sl a19) (.pair (.sl a20) (.pair (.sl a21) (.sl a22)))))))))))))))))))))))]⟩]))
    (fun i=>(a11.length-i.1.1).toNat) ⟨(0,_),by simp only;omega,(by show cntB _=base ++ .empty;rw[ByteArray.append_empty,hbase];rfl)⟩ ?_
   rintro⟨⟨p,t⟩,hp,ht⟩ ih
   try simp only at hp ht
   by_cases hlt:p<a11.length
   ·have e1:rbin .add .i64 p 1=p+1:=addi (by omega) (by omega)
    have hpn:p.toNat<a11.length:=by omega
    have hcf:=cat_fit2 (f:=elNet a11) hpn hB
    have hcg:=cat_fit3 (f:=elNet a11) hpn hB
    rw[←ht]at hcf
    have hnx:t++elNet a11 p.toNat=base++catN (elNet a11) (p+1).toNat:=by
     rw[ht,show(p+1).toNat=p.toNat+1 by omega,catN_succ,baa]
    have hx:=okD_NT (r11.2 _ (mem_at hlt hp.1))
    replace hcf:t.size+(layB (a11.getD p.toNat (.int 0)).fst!.int! 4++netB (a11.getD p.toNat (.int 0))).size≤140737488355328:=hcf
    refine ra tst0_ok 3 true 400 [true] [1,3,4] [3,4] ?_ ?_
    ·simp only[conj,z0,z2,arR,z1,qrR,pmR,nrR,nlR,wlR,laR,lbR,zd,netT_false,netT_true]
     (repeat' with_reducible apply And.intro)<;>first
       |omega
       |((try simp only[bsa,layB_size,rowB_size,netB_size,bigB_size,flagB_size,txz,elz,one0]);omega)
       |exact trivial
       |assumption
    ·refine ih ⟨(_,_),?_,?_⟩ ?_ _ _
     ·show 0≤rbin .add .i64 p 1∧rbin .add .i64 p 1≤a11.length
      rw[e1];omega
     ·simp only[arR,dF_m,dS_m,dI_m,dX_m,e1]
      refine Eq.trans ?_ hnx
      exact rfl
     ·show((a11.length:Int)-rbin .add .i64 p 1).toNat<((a11.length:Int)-p).toNat
      rw[e1];omega
   ·have hpe:p.toNat=a11.length:=by omega
    rw[hpe]at ht
    clear ih
    refine rx tst0_ok 999 false 400 [false] ?_ ?_
    ·simp only[conj,z0,z2,arR,z1,qrR,pmR,nrR,nlR,wlR,laR,lbR,zd,netT_false,netT_true]
     (repeat' with_reducible apply And.intro)<;>first
       |omega
       |((try simp only[bsa,layB_size,rowB_size,netB_size,bigB_size,flagB_size,txz,elz,one0]);omega)
       |exact trivial
       |exact hB
       |assumption
    refine Run.ret ti_ok rfl rfl (.a (.str ?_))
    rw[ht,hbase]
    try simp only[baa]
  ·cases hs
 ·cases hs
theorem pay_13:CallOk Try.prog 76 (sPayG (kindIs 13)):=by
 refine .of_run (hc:=(tst0 qrR).hc) Try.func76 rfl (by kernel_rfl) (by kernel_rfl) fun xs v ps hs hp w=>?_
 unfold sPayG at hs
 split at hs
 ·rename_i sh d
  split at hs
  ·rename_i hsh
   obtain rfl:=shEq_eq hsh
   clear hsh
   cases hs
   obtain⟨m,rfl,hok,⟨z11,z12,z13,z16,z19,z20,z21,z22⟩,hr1,hr2⟩:=hp (putOk d) (by simp)
   have hf:(payM m).size≤140737488355328:=(congrArg (fun x=>(payM x).size≤140737488355328) (msOf_D m)).mp (hp (qrR.r.sml (qrR.pay m.D)) (by simp))
   have hk:m.kind=13:=(congrArg Ms.kind (msOf_D m)).symm.trans (hp (kindIs 13 m.D) (by simp))
   clear hp
   rw[show qrR.pay m.D=payM m from payOfE]
   obtain⟨a0,a1,a2,a3,a4,⟨a5t,a5s,a5i,a5p⟩,⟨a6t,a6s,a6i,a6p⟩,a7,a8,a9,a10,a11,a12,a13,a14,a15,a16,a17,a18,a19,a20,a21,a22⟩:=m
   obtain⟨r0,r1,r2,r3,r4,r5,r6,r7,r8,r9,r10,r11,r12,r13,r14,r15,r16,r17,r18,r19,r20,r21,r22⟩:=hok
   simp only at hk z11 z12 z13 z16 z19 z20 z21 z22
   subst hk
   replace hr1:riseP filP a20:=hr1
   replace hr2:riseP intS a21:=hr2
   have hF:=fx a1 a2 a3 a4 a8 a5t a5s a5p a6t a6s a6p a5i a6i a11 a12 a13 a16 a19 a20 a21 a22 r1 r2 r3 r8 r11 r12 r13 r16 r19 r20 r21 r22 r5 r6
   clear r11 r12 r13 r16 r19 r20 r21 r22
   obtain⟨R1,R2,R3,R8,R4,r11,r12,r13,r16,r19,r20,r21,r22,N5,N6⟩:=hF
   have e:payM ⟨13,a1,a2,a3,a4,⟨a5t,a5s,a5i,a5p⟩,⟨a6t,a6s,a6i,a6p⟩,a7,a8,a9,a10,a11,a12,a13,a14,a15,a16,a17,a18,a19,a20,a21,a22⟩=a18:=rfl
   rw[e]at hf ⊢
   clear e
   clear r0 r7 r9 r10 r14 r15 r17 r18 r20 r21 r22
   refine rx tst0_ok 999 false 400 [false,false,false,false,false,false,false,false,false,true,true] ?_ ?_
   ·simp only[conj,z0,z2,arR,z1,qrR,pmR,nrR,nlR,wlR,laR,lbR,zd,netT_false,netT_true]
    (repeat' with_reducible apply And.intro)<;>first
      |omega
      |((try simp only[bsa,layB_size,rowB_size,netB_size,bigB_size,flagB_size,txz,elz,one0]);omega)
      |exact trivial
      |assumption
   refine Run.ret ti_ok rfl rfl (.a (.str ?_))
   rfl
  ·cases hs
 ·cases hs
theorem pay_14:CallOk Try.prog 76 (sPayG (kindIs 14)):=by
 refine .of_run (hc:=(tst0 qrR).hc) Try.func76 rfl (by kernel_rfl) (by kernel_rfl) fun xs v ps hs hp w=>?_
 unfold sPayG at hs
 split at hs
 ·rename_i sh d
  split at hs
  ·rename_i hsh
   obtain rfl:=shEq_eq hsh
   clear hsh
   cases hs
   obtain⟨m,rfl,hok,⟨z11,z12,z13,z16,z19,z20,z21,z22⟩,hr1,hr2⟩:=hp (putOk d) (by simp)
   have hf:(payM m).size≤140737488355328:=(congrArg (fun x=>(payM x).size≤140737488355328) (msOf_D m)).mp (hp (qrR.r.sml (qrR.pay m.D)) (by simp))
   have hk:m.kind=14:=(congrArg Ms.kind (msOf_D m)).symm.trans (hp (kindIs 14 m.D) (by simp))
   clear hp
   rw[show qrR.pay m.D=payM m from payOfE]
   obtain⟨a0,a1,a2,a3,a4,⟨a5t,a5s,a5i,a5p⟩,⟨a6t,a6s,a6i,a6p⟩,a7,a8,a9,a10,a11,a12,a13,a14,a15,a16,a17,a18,a19,a20,a21,a22⟩:=m
   obtain⟨r0,r1,r2,r3,r4,r5,r6,r7,r8,r9,r10,r11,r12,r13,r14,r15,r16,r17,r18,r19,r20,r21,r22⟩:=hok
   simp only at hk z11 z12 z13 z16 z19 z20 z21 z22
   subst hk
   replace hr1:riseP filP a20:=hr1
   replace hr2:riseP intS a21:=hr2
   have hF:=fx a1 a2 a3 a4 a8 a5t a5s a5p a6t a6s a6p a5i a6i a11 a12 a13 a16 a19 a20 a21 a22 r1 r2 r3 r8 r11 r12 r13 r16 r19 r20 r21 r22 r5 r6
   clear r11 r12 r13 r16 r19 r20 r21 r22
   obtain⟨R1,R2,R3,R8,R4,r11,r12,r13,r16,r19,r20,r21,r22,N5,N6⟩:=hF
   have e:payM ⟨14,a1,a2,a3,a4,⟨a5t,a5s,a5i,a5p⟩,⟨a6t,a6s,a6i,a6p⟩,a7,a8,a9,a10,a11,a12,a13,a14,a15,a16,a17,a18,a19,a20,a21,a22⟩=a18:=rfl
   rw[e]at hf ⊢
   clear e
   clear r0 r7 r9 r10 r14 r15 r17 r18 r20 r21 r22
   refine rx tst0_ok 999 false 400 [false,false,false,false,false,false,false,false,false,false,true] ?_ ?_
   ·simp only[conj,z0,z2,arR,z1,qrR,pmR,nrR,nlR,wlR,laR,lbR,zd,netT_false,netT_true]
    (repeat' with_reducible apply And.intro)<;>first
      |omega
      |((try simp only[bsa,layB_size,rowB_size,netB_size,bigB_size,flagB_size,txz,elz,one0]);omega)
      |exact trivial
      |assumption
   refine Run.ret ti_ok rfl rfl (.a (.str ?_))
   rfl
  ·cases hs
 ·cases hs
theorem pay_15:CallOk Try.prog 76 (sPayG (kindIs 15)):=by
 refine .of_run (hc:=(tst0 qrR).hc) Try.func76 rfl (by kernel_rfl) (by kernel_rfl) fun xs v ps hs hp w=>?_
 unfold sPayG at hs
 split at hs
 ·rename_i sh d
  split at hs
  ·rename_i hsh
   obtain rfl:=shEq_eq hsh
   clear hsh
   cases hs
   obtain⟨m,rfl,hok,⟨z11,z12,z13,z16,z19,z20,z21,z22⟩,hr1,hr2⟩:=hp (putOk d) (by simp)
   have hf:(payM m).size≤140737488355328:=(congrArg (fun x=>(payM x).size≤140737488355328) (msOf_D m)).mp (hp (qrR.r.sml (qrR.pay m.D)) (by simp))
   have hk:m.kind=15:=(congrArg Ms.kind (msOf_D m)).symm.trans (hp (kindIs 15 m.D) (by simp))
   clear hp
   rw[show qrR.pay m.D=payM m from payOfE]
   obtain⟨a0,a1,a2,a3,a4,⟨a5t,a5s,a5i,a5p⟩,⟨a6t,a6s,a6i,a6p⟩,a7,a8,a9,a10,a11,a12,a13,a14,a15,a16,a17,a18,a19,a20,a21,a22⟩:=m
   obtain⟨r0,r1,r2,r3,r4,r5,r6,r7,r8,r9,r10,r11,r12,r13,r14,r15,r16,r17,r18,r19,r20,r21,r22⟩:=hok
   simp only at hk z11 z12 z13 z16 z19 z20 z21 z22
   subst hk
   replace hr1:riseP filP a20:=hr1
   replace hr2:riseP intS a21:=hr2
   have hF:=fx a1 a2 a3 a4 a8 a5t a5s a5p a6t a6s a6p a5i a6i a11 a12 a13 a16 a19 a20 a21 a22 r1 r2 r3 r8 r11 r12 r13 r16 r19 r20 r21 r22 r5 r6
   clear r11 r12 r13 r16 r19 r20 r21 r22
   obtain⟨R1,R2,R3,R8,R4,r11,r12,r13,r16,r19,r20,r21,r22,N5,N6⟩:=hF
   have e:payM ⟨15,a1,a2,a3,a4,⟨a5t,a5s,a5i,a5p⟩,⟨a6t,a6s,a6i,a6p⟩,a7,a8,a9,a10,a11,a12,a13,a14,a15,a16,a17,a18,a19,a20,a21,a22⟩=flagB a10++layB a3 8:=rfl
   rw[e]at hf ⊢
   clear e
   clear r0 r7 r9 r10 r14 r15 r17 r18 r20 r21 r22
   refine rx tst0_ok 999 false 400 [false,false,false,false,false,false,false,false,false,false,false,true] ?_ ?_
   ·simp only[conj,z0,z2,arR,z1,qrR,pmR,nrR,nlR,wlR,laR,lbR,zd,netT_false,netT_true]
    (repeat' with_reducible apply And.intro)<;>first
      |omega
      |((try simp only[bsa,layB_size,rowB_size,netB_size,bigB_size,flagB_size,txz,elz,one0]);omega)
      |exact trivial
      |assumption
   refine Run.ret ti_ok rfl rfl (.a (.str ?_))
   rfl
  ·cases hs
 ·cases hs
end Go.Proofs.Ytlbllaocdilafaa
