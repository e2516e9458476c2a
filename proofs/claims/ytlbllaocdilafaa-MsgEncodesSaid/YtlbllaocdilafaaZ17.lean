import Derived.Test.YtlbllaocdilafaaZ16
import Derived.Test.YtlbllaocdilafaaZ13
set_option linter.unusedSimpArgs false
set_option linter.unusedVariables false
set_option maxRecDepth 100000
set_option maxHeartbeats 4000000
namespace Go.Eng
open Go
theorem eqD_refl:∀(s:Sh) (d:D),eqD s d d=true:=by
 intro s
 induction s with
 |two a b iha ihb=>intro d;show(eqD a d.fst! d.fst! && eqD b d.snd! d.snd!)=true;rw[iha,ihb];rfl
 |sl s ih=>
  intro d
  show((d.sl!.length == d.sl!.length)&&(List.range d.sl!.length).all fun i=>eqD s (d.sl!.getD i (.int 0)) (d.sl!.getD i (.int 0)))=true
  rw[bat,List.all_eq_true]
  exact⟨by simp,fun i _=>ih _⟩
 |_=>intro d;simp[eqD]
theorem kindD_ok (k n:Int):mOk (kindD k n):=⟨_,rfl,⟨rfl,rfl,rfl,rfl,Nat.zero_le _,Nat.zero_le _,Nat.zero_le _,Nat.zero_le _,Nat.zero_le _,Nat.zero_le _,Nat.zero_le _,Nat.zero_le _⟩⟩
end Go.Eng
namespace Go.Proofs.Ytlbllaocdilafaa
open Go Go.Eng Go.Proofs Go.RowKit
attribute[local irreducible] CallOk HOk Run TIok rbin rcmp run1 updF shfF blitF
def sRise0 (lf:LN4):ESpec:=fun l=>match l with
 | [.one .nsl]=>some (.a (.one (.bool true)),[])
 | [.one (.dat s xs none)]=>if shEq s (.int .i64)&&xs.isEmpty then some (.a (.one (.bool true)),[])else none
 |_=>none
theorem rise0_ok:CallOk Try.prog 88 (sRise0 ln4):=by
 refine .of_run (hc:=(tl0 ln4).hc) Try.func88 rfl (by kernel_rfl) (by kernel_rfl) fun xs v ps hs hp w=>?_
 unfold sRise0 at hs
 split at hs
 ·cases hs
  refine rx tl0_ok 999 true 400 [false] ?_ ?_
  ·simp only[conj,z0,z2,arR,z1]<;>((repeat' with_reducible apply And.intro)<;>first|omega|assumption|rfl|trivial)
  ·exact Run.ret ti_ok rfl rfl (.a (.lbool rfl))
 ·rename_i s xs
  split at hs
  ·rename_i hc
   rw[bat,List.isEmpty_iff]at hc
   obtain rfl:=shEq_eq hc.1
   obtain rfl:=hc.2
   cases hs
   refine rx tl0_ok 999 true 400 [false] ?_ ?_
   ·simp only[conj,z0,z2,arR,z1]
    ((repeat' with_reducible apply And.intro)<;>first|omega|assumption|rfl|trivial)
   ·exact Run.ret ti_ok rfl rfl (.a (.lbool rfl))
  ·cases hs
 ·cases hs
def sPlaces0 (lf:LN4):ESpec:=fun l=>match l with
 | [.one (.dat s xs none)]=>if shEq s (.two (.int .i64) .str)&&xs.isEmpty then some (.a (.one (.dat (.int .i64) [] none)),[])else none
 |_=>none
theorem places0_ok:CallOk Try.prog 89 (sPlaces0 ln4):=by
 refine .of_run (hc:=(tl0 ln4).hc) Try.func89 rfl (by kernel_rfl) (by kernel_rfl) fun xs v ps hs hp w=>?_
 unfold sPlaces0 at hs
 split at hs
 ·rename_i s xs
  split at hs
  ·rename_i hc
   rw[bat,List.isEmpty_iff]at hc
   obtain rfl:=shEq_eq hc.1
   obtain rfl:=hc.2
   cases hs
   refine rx tl0_ok 999 true 400 [false] ?_ ?_
   ·simp only[conj,z0,z2,arR,z1]
    ((repeat' with_reducible apply And.intro)<;>first|omega|assumption|rfl|trivial)
   ·exact Run.ret ti_ok rfl rfl (.a .nsl)
  ·cases hs
 ·cases hs
end Go.Proofs.Ytlbllaocdilafaa
namespace Go.Eng
open Go
def nonD (d:D):Int:=d.snd!.snd!.snd!.fst!.int!
structure LN5 extends LN4 where
 non:D→Int
def ln5:LN5 where
 toLN4:=ln4
 non:=nonD
end Go.Eng
namespace Go.Proofs.Ytlbllaocdilafaa
open Go Go.Eng Go.Proofs Go.RowKit
attribute[local irreducible] CallOk HOk Run TIok rbin rcmp run1 updF shfF blitF
def tn0 (lf:LN5):Tbl:=tbL [] [(91,nH (hWU64 lf.toLN4.toLN1.toLQm.toLE1.toLA))]
theorem tn0_ok:TblOk Try.prog (tn0 ln5):=tbL_ok nofun (mc ⟨wu64_ok.nH,nofun⟩)
def hPut5 (lf:LN5):HSpec:=fun l bs=>match l,bs with
 | [.one (.ptr 0 (.lit 0)),.agg (.prt [.v sh d])],[⟨false,.lst [.adr 0 167,.bf s 1 5]⟩,⟨false,.tail⟩]=>if shEq sh MS then some (.tup [],[⟨false,.lst [.adr 0 167,.bf (lf.cat s (lf.lay (lf.non d) 8)) 2 5]⟩,⟨true,.dead⟩,⟨false,.tail⟩],[lf.ping d,lf.layOk (lf.non d) 8,lf.fits s (lf.lay (lf.non d) 8)])else none
 |_,_=>none
theorem put5_ok:HOk Try.prog 70 (hPut5 ln5):=by
 refine .of_run (hc:=(tn0 ln5).hc) Try.func70 rfl (by kernel_rfl) (by kernel_rfl) fun las lbs v lbs' ps hs hp w=>?_
 unfold hPut5 at hs
 split at hs
 ·rename_i sh d s
  split at hs
  ·rename_i hsh
   obtain rfl:=shEq_eq hsh
   clear hsh
   cases hs
   obtain⟨k,n,hk,rfl⟩:isPing d:=hp (ln5.ping d) (by simp)
   have h1:ln5.layOk n 8:=hp (ln5.layOk (ln5.non (kindD k n)) 8) (by simp)
   have h2:ln5.fits s (ln5.lay n 8):=hp (ln5.fits s (ln5.lay (ln5.non (kindD k n)) 8)) (by simp)
   clear hp
   by_cases h5:k=5
   ·refine rx tn0_ok 999 false 400 [false,true,true] ?_ ?_
    ·simp only[conj,z0,z2,arR,z1,dF_m,dS_m,dI_m]
     trace_state
     ((repeat' with_reducible apply And.intro)<;>first|omega|assumption|rfl|trivial)
    exact Run.fin ti_ok rfl rfl (HEnd.pack [0,1,3] rfl rfl rfl rfl)
   ·refine rx tn0_ok 999 false 400 [false,false,true,true] ?_ ?_
    ·simp only[conj,z0,z2,arR,z1,dF_m,dS_m,dI_m]
     ((repeat' with_reducible apply And.intro)<;>first|omega|assumption|rfl|trivial)
    exact Run.fin ti_ok rfl rfl (HEnd.pack [0,1,3] rfl rfl rfl rfl)
  ·cases hs
 ·cases hs
end Go.Proofs.Ytlbllaocdilafaa
