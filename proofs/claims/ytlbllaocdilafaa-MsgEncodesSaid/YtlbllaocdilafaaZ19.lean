import Derived.Test.YtlbllaocdilafaaZ18
import Derived.Test.YtlbllaocdilafaaZ17
import Derived.Test.YtlbllaocdilafaaZ16
set_option linter.unusedSimpArgs false
set_option linter.unusedVariables false
set_option maxRecDepth 100000
set_option maxHeartbeats 40000000
namespace Go.Eng
open Go
theorem CallOk.split {P:Program}{f:FuncId}{s:ESpec}(h:∀l v ps,s l=some (v,ps)→(∀p∈ps,p)→∃s' ps',CallOk P f s'∧s' l=some (v,ps')∧∀p∈ps',p):CallOk P f s:=by
 intro args v ps hs hp
 obtain⟨s',ps',h1,h2,h3⟩:=h args v ps hs hp
 exact h1 args v ps' h2 h3
end Go.Eng
namespace Go.Proofs.Ytlbllaocdilafaa
open Go Go.Eng Go.Proofs Go.RowKit
attribute[local irreducible] CallOk HOk Run TIok rbin rcmp run1 updF shfF blitF
theorem same_ok:CallOk Try.prog 34 (sSame lqmR):=by
 refine CallOk.split fun l v ps hs hp=>?_
 unfold sSame at hs
 split at hs
 ·rename_i s1 a s2 b
  split at hs
  ·rename_i hsh
   cases hs
   have ha:mOk a:=hp (lqmR.mOk a) (by simp)
   have hb:mOk b:=hp (lqmR.mOk b) (by simp)
   have go:∀G:D→D→Prop,G a b→(CallOk Try.prog 34 (sSameG G))→∃s' ps',CallOk Try.prog 34 s'∧s' [.agg (.prt [.v s1 a]),.agg (.prt [.v s2 b])]=some (.a (.one (.bool (lqmR.eqD MS a b))),ps')∧∀p∈ps',p:=fun G hG h=>
    ⟨sSameG G,[mOk a,mOk b,G a b],h,by simp only[sSameG];rw[if_pos hsh];rfl,by simp[ha,hb,hG]⟩
   by_cases c0:eqD (.int .i64) a.fst! b.fst! = true∧eqD (.int .u32) a.snd!.fst! b.snd!.fst! = true∧eqD (.int .u64) a.snd!.snd!.fst! b.snd!.snd!.fst! = true∧eqD (.int .u64) a.snd!.snd!.snd!.fst! b.snd!.snd!.snd!.fst! = true∧eqD (.int .i64) a.snd!.snd!.snd!.snd!.fst! b.snd!.snd!.snd!.snd!.fst! = true∧eqD (.two (.int .u32) (.two (.int .u64) (.two (.arr .u8 16) (.int .u16)))) a.snd!.snd!.snd!.snd!.snd!.fst! b.snd!.snd!.snd!.snd!.snd!.fst! = true∧eqD (.two (.int .u32) (.two (.int .u64) (.two (.arr .u8 16) (.int .u16)))) a.snd!.snd!.snd!.snd!.snd!.snd!.fst! b.snd!.snd!.snd!.snd!.snd!.snd!.fst! = true∧eqD (.str) a.snd!.snd!.snd!.snd!.snd!.snd!.snd!.fst! b.snd!.snd!.snd!.snd!.snd!.snd!.snd!.fst! = true
   rotate_left
   ·exact go gS0 c0 same_gS0
   obtain⟨x0,x1,x2,x3,x4,x5,x6,x7⟩:=c0
   by_cases c1:eqD (.int .u32) a.snd!.snd!.snd!.snd!.snd!.snd!.snd!.snd!.fst! b.snd!.snd!.snd!.snd!.snd!.snd!.snd!.snd!.fst! = true∧eqD (.bool) a.snd!.snd!.snd!.snd!.snd!.snd!.snd!.snd!.snd!.fst! b.snd!.snd!.snd!.snd!.snd!.snd!.snd!.snd!.snd!.fst! = true∧eqD (.bool) a.snd!.snd!.snd!.snd!.snd!.snd!.snd!.snd!.snd!.snd!.fst! b.snd!.snd!.snd!.snd!.snd!.snd!.snd!.snd!.snd!.snd!.fst! = true∧eqD (.arr .u8 32) a.snd!.snd!.snd!.snd!.snd!.snd!.snd!.snd!.snd!.snd!.snd!.snd!.snd!.snd!.fst! b.snd!.snd!.snd!.snd!.snd!.snd!.snd!.snd!.snd!.snd!.snd!.snd!.snd!.snd!.fst! = true
   rotate_left
   ·exact go gS1 ⟨x0,x1,x2,x3,x4,x5,x6,x7,c1⟩ same_gS1
   obtain⟨x8,x9,x10,x14⟩:=c1
   by_cases c2:eqD (.arr .u8 32) a.snd!.snd!.snd!.snd!.snd!.snd!.snd!.snd!.snd!.snd!.snd!.snd!.snd!.snd!.snd!.fst! b.snd!.snd!.snd!.snd!.snd!.snd!.snd!.snd!.snd!.snd!.snd!.snd!.snd!.snd!.snd!.fst! = true∧eqD (.str) a.snd!.snd!.snd!.snd!.snd!.snd!.snd!.snd!.snd!.snd!.snd!.snd!.snd!.snd!.snd!.snd!.snd!.fst! b.snd!.snd!.snd!.snd!.snd!.snd!.snd!.snd!.snd!.snd!.snd!.snd!.snd!.snd!.snd!.snd!.snd!.fst! = true∧eqD (.str) a.snd!.snd!.snd!.snd!.snd!.snd!.snd!.snd!.snd!.snd!.snd!.snd!.snd!.snd!.snd!.snd!.snd!.snd!.fst! b.snd!.snd!.snd!.snd!.snd!.snd!.snd!.snd!.snd!.snd!.snd!.snd!.snd!.snd!.snd!.snd!.snd!.snd!.fst! = true
   rotate_left
   ·exact go gS2 ⟨x0,x1,x2,x3,x4,x5,x6,x7,x8,x9,x10,x14,c2⟩ same_gS2
   obtain⟨x15,x17,x18⟩:=c2
   by_cases d0:eqD (.sl (.two (.int .u32) (.two (.int .u64) (.two (.arr .u8 16) (.int .u16))))) a.snd!.snd!.snd!.snd!.snd!.snd!.snd!.snd!.snd!.snd!.snd!.fst! b.snd!.snd!.snd!.snd!.snd!.snd!.snd!.snd!.snd!.snd!.snd!.fst! = true∧eqD (.sl (.two (.int .u32) (.arr .u8 32))) a.snd!.snd!.snd!.snd!.snd!.snd!.snd!.snd!.snd!.snd!.snd!.snd!.fst! b.snd!.snd!.snd!.snd!.snd!.snd!.snd!.snd!.snd!.snd!.snd!.snd!.fst! = true∧eqD (.sl (.arr .u8 32)) a.snd!.snd!.snd!.snd!.snd!.snd!.snd!.snd!.snd!.snd!.snd!.snd!.snd!.fst! b.snd!.snd!.snd!.snd!.snd!.snd!.snd!.snd!.snd!.snd!.snd!.snd!.snd!.fst! = true∧eqD (.sl .str) a.snd!.snd!.snd!.snd!.snd!.snd!.snd!.snd!.snd!.snd!.snd!.snd!.snd!.snd!.snd!.snd!.fst! b.snd!.snd!.snd!.snd!.snd!.snd!.snd!.snd!.snd!.snd!.snd!.snd!.snd!.snd!.snd!.snd!.fst! = true
   rotate_left
   ·exact go gT0 ⟨x0,x1,x2,x3,x4,x5,x6,x7,x8,x9,x10,x14,x15,x17,x18,d0⟩ same_gT0
   obtain⟨x11,x12,x13,x16⟩:=d0
   exact go gT1 ⟨x0,x1,x2,x3,x4,x5,x6,x7,x8,x9,x10,x14,x15,x17,x18,x11,x12,x13,x16⟩ same_gT1
  ·cases hs
 ·cases hs
def to0 (lf:LN5):Tbl:=tbL [(88,sRise0 lf.toLN4),(89,sPlaces0 lf.toLN4),(67,sNamed5 lf.toLN4),(34,sSame lf.toLN4.toLN1.toLQm)] []
theorem to0_ok:TblOk Try.prog (to0 ln5):=tbL_ok (mc ⟨rise0_ok,mc ⟨places0_ok,mc ⟨named5_ok,mc ⟨same_ok,nofun⟩⟩⟩⟩) nofun
def sWrong5 (lf:LN5):ESpec:=fun l=>match l with
 | [.agg (.prt [.v s d])]=>if shEq s MS then some (.a (.one (.bool false)),[lf.ping d])else none
 |_=>none
theorem wrong5_ok:CallOk Try.prog 68 (sWrong5 ln5):=by
 refine .of_run (hc:=(to0 ln5).hc) Try.func68 rfl (by kernel_rfl) (by kernel_rfl) fun xs v ps hs hp w=>?_
 unfold sWrong5 at hs
 split at hs
 ·rename_i s d
  split at hs
  ·rename_i hsh
   obtain rfl:=shEq_eq hsh
   clear hsh
   cases hs
   have hpg:isPing d:=hp (ln5.ping d) (by simp)
   obtain⟨k,n,hk,rfl⟩:=hpg
   clear hp
   refine rx to0_ok 999 true 400 [false,false,false,false,false] ?_ ?_
   ·simp only[conj,z0,z2,arR,z1,zd]
    refine⟨kindD_ok k n,kindD_ok k n,⟨k,n,hk,rfl⟩,?_⟩
    ((repeat' with_reducible apply And.intro)<;>first|omega|assumption|rfl|trivial)
   ·refine Run.ret ti_ok rfl rfl (.a (.bool ?_))
    show(!(eqD MS (kindD k n) (kindD k n)))=false
    rw[eqD_refl];rfl
  ·cases hs
 ·cases hs
end Go.Proofs.Ytlbllaocdilafaa
namespace Go.Eng
open Go
def cmds:List ByteArray:=[⟨⟨[]⟩⟩,⟨⟨[118,101,114,115,105,111,110]⟩⟩,⟨⟨[118,101,114,97,99,107]⟩⟩,⟨⟨[103,101,116,97,100,100,114]⟩⟩,⟨⟨[115,101,110,100,104,101,97,100,101,114,115]⟩⟩,⟨⟨[112,105,110,103]⟩⟩,⟨⟨[112,111,110,103]⟩⟩,⟨⟨[97,100,100,114]⟩⟩,⟨⟨[105,110,118]⟩⟩,⟨⟨[103,101,116,100,97,116,97]⟩⟩,⟨⟨[110,111,116,102,111,117,110,100]⟩⟩,⟨⟨[103,101,116,104,101,97,100,101,114,115]⟩⟩,⟨⟨[104,101,97,100,101,114,115]⟩⟩,⟨⟨[116,120]⟩⟩,⟨⟨[98,108,111,99,107]⟩⟩,⟨⟨[115,101,110,100,99,109,112,99,116]⟩⟩,⟨⟨[99,109,112,99,116,98,108,111,99,107]⟩⟩,⟨⟨[103,101,116,98,108,111,99,107,116,120,110]⟩⟩,⟨⟨[98,108,111,99,107,116,120,110]⟩⟩]
def cmdOf (k:Int):ByteArray:=if 0≤k∧k<19 then cmds.getD k.toNat .empty else⟨⟨[]⟩⟩
structure LN2 extends LN1 where
 cmd:Int→ByteArray
def ln2:LN2 where
 toLN1:=lnR
 cmd:=cmdOf
end Go.Eng
namespace Go.Proofs.Ytlbllaocdilafaa
open Go Go.Eng Go.Proofs Go.RowKit
attribute[local irreducible] CallOk HOk Run TIok rbin rcmp run1 updF shfF blitF
def sCmd (lf:LN2):ESpec:=fun l=>match l with
 | [.one (.int .i64 k)]=>some (.a (.one (.str (lf.cmd k))),[])
 |_=>none
theorem cmd_ok:CallOk Try.prog 45 (sCmd ln2):=by
 refine .of_run (hc:=(ti0b lnR).hc) Try.func45 rfl (by kernel_rfl) (by kernel_rfl) fun xs v ps hs hp w=>?_
 unfold sCmd at hs
 split at hs
 ·rename_i k
  cases hs
  clear hp
  by_cases h0:k<0
  ·refine rx ti0b_ok 999 false 400 [true] ?_ ?_
   ·simp only[conj,z0,z2,arR,z1]
    ((repeat' with_reducible apply And.intro)<;>first|omega|assumption|rfl|trivial)
   ·refine Run.ret ti_ok rfl rfl (.a (.str ?_))
    exact(if_neg (by omega)).symm
  ·by_cases h1:k<19
   ·refine rx ti0b_ok 999 false 400 [false,false] ?_ ?_
    ·simp only[conj,z0,z2,arR,z1]
     ((repeat' with_reducible apply And.intro)<;>first|omega|assumption|rfl|trivial)
    ·refine Run.ret ti_ok rfl rfl (.a (.str ?_))
     show _=cmdOf k
     have e:cmdOf k=cmds.getD k.toNat .empty:=if_pos (by omega)
     rw[e]
     show cmds.getD (0+k.toNat*1) .empty=_
     rw[Nat.zero_add,Nat.mul_one]
   ·refine rx ti0b_ok 999 false 400 [false,true] ?_ ?_
    ·simp only[conj,z0,z2,arR,z1]
     ((repeat' with_reducible apply And.intro)<;>first|omega|assumption|rfl|trivial)
    ·refine Run.ret ti_ok rfl rfl (.a (.str ?_))
     exact(if_neg (by omega)).symm
 ·cases hs
end Go.Proofs.Ytlbllaocdilafaa
namespace Go.Eng
open Go
def partA (e a p:Int):Int:=if e=0 then p else a
structure LN6 extends LN5 where
 pA:Int→Int→Int→Int
def ln6:LN6 where
 toLN5:=ln5
 pA:=partA
end Go.Eng
namespace Go.Proofs.Ytlbllaocdilafaa
open Go Go.Eng Go.Proofs Go.RowKit
attribute[local irreducible] CallOk HOk Run TIok rbin rcmp run1 updF shfF blitF
def tp9 (lf:LN6):Tbl:=tbL [] [(121,nH (hErr lf.toLN5.toLN4.toLN1.toLQm.toLE1.toLA)),(122,nH (hAt lf.toLN5.toLN4.toLN1.toLQm.toLE1.toLA))]
theorem tp9_ok:TblOk Try.prog (tp9 ln6):=tbL_ok nofun (mc ⟨err_ok.nH,mc ⟨at_ok.nH,nofun⟩⟩)
def hPart (lf:LN6):HSpec:=fun l bs=>match l,bs with
 | [.one (.ptr 0 (.lit 0))],[⟨false,.lst [.ptr 1 (.lit 0),.int .i64 a]⟩,⟨false,.lst [.str s,.int .i64 p,.int .i64 e]⟩]=>some (.tup [],[⟨false,.lst [.ptr 1 (.lit 0),.int .i64 (lf.pA e a p)]⟩,⟨false,.lst [.str s,.int .i64 p,.int .i64 e]⟩],[])
 |_,_=>none
theorem part_ok:HOk Try.prog 79 (hPart ln6):=by
 refine .of_run (hc:=(tp9 ln6).hc) Try.func79 rfl (by kernel_rfl) (by kernel_rfl) fun las lbs v lbs' ps hs hp w=>?_
 unfold hPart at hs
 split at hs
 ·rename_i a s p e
  cases hs
  by_cases he:e=0
  ·have e1:ln6.pA e a p=p:=if_pos he
   rw[e1]
   refine rx tp9_ok 999 false 400 [true] ?_ ?_
   ·simp only[conj,z0,z2,arR,z1]
    ((repeat' with_reducible apply And.intro)<;>first|omega|assumption|rfl|trivial)
   exact Run.fin ti_ok rfl rfl (HEnd.pack [0,1] rfl rfl rfl rfl)
  ·have e1:ln6.pA e a p=a:=if_neg he
   rw[e1]
   refine rx tp9_ok 999 false 400 [false] ?_ ?_
   ·simp only[conj,z0,z2,arR,z1]
    ((repeat' with_reducible apply And.intro)<;>first|omega|assumption|rfl|trivial)
   exact Run.fin ti_ok rfl rfl (HEnd.pack [0,1] rfl rfl rfl rfl)
 ·cases hs
def tp10 (lf:LN6):Tbl:=tbL [] [(139,nH (hU64 lf.toLN5.toLN4.toLN1.toLQm.toLE1.toLA)),(79,nH (hPart lf))]
theorem tp10_ok:TblOk Try.prog (tp10 ln6):=tbL_ok nofun (mc ⟨u64_ok.nH,mc ⟨part_ok.nH,nofun⟩⟩)
def hMU64 (lf:LN6):HSpec:=fun l bs=>match l,bs with
 | [.one (.ptr 0 (.lit 0))],[⟨false,.lst [.ptr 1 (.lit 0),.int .i64 a]⟩,⟨false,.lst [.str s,.int .i64 p,.int .i64 e]⟩]=>some (.a (.one (.int .u64 (lf.get (lf.rT s p e 8)))),[⟨false,.lst [.ptr 1 (.lit 0),.int .i64 (lf.pA e a p)]⟩,⟨false,.lst [.str s,.int .i64 (lf.rA s p e 8),.int .i64 (lf.rE s p e 8)]⟩],[lf.rOk s p])
 |_,_=>none
theorem mu64_ok:HOk Try.prog 108 (hMU64 ln6):=by
 refine .of_run (hc:=(tp10 ln6).hc) Try.func108 rfl (by kernel_rfl) (by kernel_rfl) fun las lbs v lbs' ps hs hp w=>?_
 unfold hMU64 at hs
 split at hs
 ·rename_i a s p e
  cases hs
  have h1:ln6.rOk s p:=hp (ln6.rOk s p) (by simp)
  refine rx tp10_ok 999 false 400 [] ?_ ?_
  ·exact⟨h1,trivial⟩
  exact Run.ret ti_ok rfl rfl (HEnd.pack [0,1] rfl rfl rfl rfl)
 ·cases hs
end Go.Proofs.Ytlbllaocdilafaa
namespace Go.Eng
open Go
theorem lay_size (n:Int) (k:Nat):(layB n k).size=k:=by simp[layB,ByteArray.size]
structure LN7 extends LN6 where
 cmd:Int→ByteArray
def ln7:LN7 where
 toLN6:=ln6
 cmd:=cmdOf
end Go.Eng
namespace Go.Proofs.Ytlbllaocdilafaa
open Go Go.Eng Go.Proofs Go.RowKit
attribute[local irreducible] CallOk HOk Run TIok rbin rcmp run1 updF shfF blitF
def tr7 (lf:LN7):Tbl:=tbL [(45,nP (sCmd ⟨lf.toLN6.toLN5.toLN4.toLN1,lf.cmd⟩)),(67,sNamed5 lf.toLN6.toLN5.toLN4),(66,sMany5 lf.toLN6.toLN5.toLN4),(68,sWrong5 lf.toLN6.toLN5)] [(69,hNewW lf.toLN6.toLN5.toLN4.toLN1.toLQm.toLE1.toLA.toLB),(70,nH (hPut5 lf.toLN6.toLN5)),(71,nH (hWLen lf.toLN6.toLN5.toLN4.toLN1.toLQm.toLE1.toLA)),(72,nH (hWText lf.toLN6.toLN5.toLN4.toLN1.toLQm.toLE1.toLA))]
theorem tr7_ok:TblOk Try.prog (tr7 ln7):=tbL_ok (mc ⟨cmd_ok.nP,mc ⟨named5_ok,mc ⟨many5_ok,mc ⟨wrong5_ok,nofun⟩⟩⟩⟩) (mc ⟨newW_ok,mc ⟨put5_ok.nH,mc ⟨wlen_ok.nH,mc ⟨wtext_ok.nH,nofun⟩⟩⟩⟩)
def sEnc5 (lf:LN7):ESpec:=fun l=>match l with
 | [.agg (.prt [.v s d])]=>if shEq s MS then some (.tup [.one (.str (lf.lay (lf.non d) 8)),.one (.int .i64 0)],[lf.ping d,lf.layOk (lf.non d) 8])else none
 |_=>none
theorem enc5_ok:CallOk Try.prog 37 (sEnc5 ln7):=by
 refine .of_run (hc:=(tr7 ln7).hc) Try.func37 rfl (by kernel_rfl) (by kernel_rfl) fun xs v ps hs hp w=>?_
 unfold sEnc5 at hs
 split at hs
 ·rename_i s d
  split at hs
  ·rename_i hsh
   obtain rfl:=shEq_eq hsh
   clear hsh
   cases hs
   have hpg:isPing d:=hp (ln7.ping d) (by simp)
   obtain⟨k,n,hk,rfl⟩:=hpg
   have h1:ln7.layOk n 8:=hp (ln7.layOk (ln7.non (kindD k n)) 8) (by simp)
   clear hp
   refine rx tr7_ok 999 false 400 [false,false,false,false] ?_ ?_
   ·simp only[conj,z0,z2,arR,z1,zd]
    have z8:(layB n 8).size=8:=lay_size n 8
    have zc:((ByteArray.empty++layB n 8:ByteArray).size:Int)=8:=by rw[bsa,z8];rfl
    have hcmd:((cmdOf k).toList == ByteArray.empty.toList)=false:=by rcases hk with rfl|rfl<;>kernel_rfl
    (repeat' with_reducible apply And.intro)<;>first
      |exact h1
      |exact⟨k,n,hk,rfl⟩
      |exact hcmd
      |trivial
      |(show((ByteArray.empty++layB n 8:ByteArray).size)≤9223372036854775807;rw[bsa,z8];decide)
      |(show((ByteArray.empty++layB n 8:ByteArray).size)≤140737488355328;rw[bsa,z8];decide)
      |(show ByteArray.empty.size+(layB n 8).size≤140737488355328;rw[z8];decide)
      |(show ¬((ByteArray.empty++layB n 8:ByteArray).size:Int)>16384;rw[zc];decide)
   ·refine Run.ret ti_ok rfl rfl (VLe.tup2 (.str ?_) (.lit rfl))
    show ByteArray.empty++layB n 8=layB n 8
    exact ByteArray.empty_append
  ·cases hs
 ·cases hs
def tq0a (lf:LN6):Tbl:=tbL [] [(108,nH (hMU64 lf))]
theorem tq0a_ok:TblOk Try.prog (tq0a ln6):=tbL_ok nofun (mc ⟨mu64_ok.nH,nofun⟩)
def hTake5 (lf:LN6):HSpec:=fun l bs=>match l,bs with
 | [.one (.ptr 0 (.lit 0)),.one (.ptr 1 (.lit 0))],[⟨false,.lst [.ptr 2 (.lit 0),.int .i64 a]⟩,⟨false,.prt [.c (.int .i64 k),.c (.int .u32 v1),.c (.int .u64 v2),.c (.int .u64 n),.c (.int .i64 v4),.v s5 v5,.v s6 v6,.c (.str v7),.c (.int .u32 v8),.c (.bool v9),.c (.bool v10),.c .nsl,.c .nsl,.c .nsl,.v s14 v14,.v s15 v15,.c .nsl,.c (.str v17),.c (.str v18),.c .nsl,.c .nsl,.c .nsl,.c .nsl]⟩,⟨false,.lst [.str s,.int .i64 p,.int .i64 e]⟩]=>some (.tup [],[⟨false,.lst [.ptr 2 (.lit 0),.int .i64 (lf.pA e a p)]⟩,⟨false,.prt [.c (.int .i64 k),.c (.int .u32 v1),.c (.int .u64 v2),.c (.int .u64 (lf.get (lf.rT s p e 8))),.c (.int .i64 v4),.v s5 v5,.v s6 v6,.c (.str v7),.c (.int .u32 v8),.c (.bool v9),.c (.bool v10),.c .nsl,.c .nsl,.c .nsl,.v s14 v14,.v s15 v15,.c .nsl,.c (.str v17),.c (.str v18),.c .nsl,.c .nsl,.c .nsl,.c .nsl]⟩,⟨false,.lst [.str s,.int .i64 (lf.rA s p e 8),.int .i64 (lf.rE s p e 8)]⟩],[lf.rOk s p,lf.n56 k])
 |_,_=>none
theorem take5_ok:HOk Try.prog 78 (hTake5 ln6):=by
 refine .of_run (hc:=(tq0a ln6).hc) Try.func78 rfl (by kernel_rfl) (by kernel_rfl) fun las lbs v lbs' ps hs hp w=>?_
 unfold hTake5 at hs
 split at hs
 ·rename_i a k v1 v2 n v4 s5 v5 s6 v6 v7 v8 v9 v10 s14 v14 s15 v15 v17 v18 s p e
  cases hs
  have h1:ln6.rOk s p:=hp (ln6.rOk s p) (by simp)
  have hk:k=5∨k=6:=hp (ln6.n56 k) (by simp)
  clear hp
  by_cases h5:k=5
  ·refine rx tq0a_ok 999 false 400 [false,true,true] ?_ ?_
   ·simp only[conj,z0,z2,arR,z1,dF_m,dS_m,dI_m]
    ((repeat' with_reducible apply And.intro)<;>first|omega|assumption|rfl|trivial)
   exact Run.fin ti_ok rfl rfl (HEnd.pack [0,1,2] rfl rfl rfl rfl)
  ·refine rx tq0a_ok 999 false 400 [false,false,true,true] ?_ ?_
   ·simp only[conj,z0,z2,arR,z1,dF_m,dS_m,dI_m]
    ((repeat' with_reducible apply And.intro)<;>first|omega|assumption|rfl|trivial)
   exact Run.fin ti_ok rfl rfl (HEnd.pack [0,1,2] rfl rfl rfl rfl)
 ·cases hs
end Go.Proofs.Ytlbllaocdilafaa
namespace Go.Eng
open Go
structure LN8 extends LN7 where
 sz8:ByteArray→Prop
def ln8:LN8 where
 toLN7:=ln7
 sz8 s:=s.size=8
end Go.Eng
namespace Go.Proofs.Ytlbllaocdilafaa
open Go Go.Eng Go.Proofs Go.RowKit
attribute[local irreducible] CallOk HOk Run TIok rbin rcmp run1 updF shfF blitF
def ts8 (lf:LN8):Tbl:=tbL [(45,nP (sCmd ⟨lf.toLN7.toLN6.toLN5.toLN4.toLN1,lf.cmd⟩))] [(77,hNewR lf.toLN7.toLN6.toLN5.toLN4.toLN1.toLQm.toLE1.toLA),(78,nH (hTake5 lf.toLN7.toLN6)),(79,nH (hPart lf.toLN7.toLN6)),(80,nH (hEnd lf.toLN7.toLN6.toLN5.toLN4.toLN1.toLQm.toLE1.toLA))]
theorem ts8_ok:TblOk Try.prog (ts8 ln8):=tbL_ok (mc ⟨cmd_ok.nP,nofun⟩) (mc ⟨newR_ok,mc ⟨take5_ok.nH,mc ⟨part_ok.nH,mc ⟨end_ok.nH,nofun⟩⟩⟩⟩)
def sDec5 (lf:LN8):ESpec:=fun l=>match l with
 | [.one (.int .i64 k),.one (.str s)]=>some (.tup [.agg (.prt [.v MS (kindD k (lf.get (lf.rT s 0 0 8)))]),.one (.int .i64 0),.one (.int .i64 0)],[lf.n56 k,lf.sz8 s])
 |_=>none
theorem dec5_ok:CallOk Try.prog 41 (sDec5 ln8):=by
 refine .of_run (hc:=(ts8 ln8).hc) Try.func41 rfl (by kernel_rfl) (by kernel_rfl) fun xs v ps hs hp w=>?_
 unfold sDec5 at hs
 split at hs
 ·rename_i k s
  cases hs
  have hk:k=5∨k=6:=hp (ln8.n56 k) (by simp)
  have h8:s.size=8:=hp (ln8.sz8 s) (by simp)
  clear hp
  refine rx ts8_ok 999 false 400 [false,false,false] ?_ ?_
  ·simp only[conj,z0,z2,arR,z1,zd]
   have eA:rdAt s 0 0 8=8:=by rw[rdAt,if_pos (by omega)];rfl
   have eE:rdE s 0 0 8=0:=by rw[rdE,if_neg (by simp),if_neg (by omega),if_pos (by omega)]
   have hcmd:((cmdOf k).toList == ByteArray.empty.toList)=false:=by rcases hk with rfl|rfl<;>kernel_rfl
   refine⟨fun h=>h ?_,?_,?_,hk,by omega,hcmd⟩
   ·show(if rdE s 0 0 8≠0 then rdE s 0 0 8 else if rdAt s 0 0 8<s.size then 5 else 0)=0
    rw[eA,eE,if_neg (by simp),if_neg (by omega)]
   ·show 0≤rdAt s 0 0 8∧rdAt s 0 0 8≤s.size∧s.size≤9223372036854775807
    rw[eA];omega
   ·show(0:Int)≤0∧(0:Int)≤s.size∧s.size≤9223372036854775807
    omega
  ·exact Run.ret ti_ok rfl rfl (VLe.tup3 (ALe.prt rfl) (.lit rfl) (.lit rfl))
 ·cases hs
def tt9 (lf:LN8):Tbl:=tbL [(43,nP (sNonced lf.toLN7.toLN6.toLN5.toLN4.toLN1)),(37,sEnc5 lf.toLN7),(41,nP (sDec5 lf))] []
theorem tt9_ok:TblOk Try.prog (tt9 ln8):=tbL_ok (mc ⟨nonced_ok.nP,mc ⟨enc5_ok,mc ⟨dec5_ok.nP,nofun⟩⟩⟩) nofun
def sAwake (lf:LN8):ESpec:=fun l=>match l with
 | []=>some (.a (.one (.bool true)),[])
 |_=>none
theorem awake_ok:CallOk Try.prog 33 (sAwake ln8):=by
 refine .of_run (hc:=(tt9 ln8).hc) Try.func33 rfl (by kernel_rfl) (by kernel_rfl) fun xs v ps hs hp w=>?_
 unfold sAwake at hs
 split at hs
 ·cases hs
  clear hp
  refine rx tt9_ok 999 false 400 [true,true,true,true] ?_ ?_
  ·simp only[conj,z0,z2,arR,z1,zd]
   (repeat' with_reducible apply And.intro)<;>first
     |trivial
     |exact⟨5,7,.inl rfl,rfl⟩
     |exact lay_size 7 8
     |exact(Or.inl rfl:(5:Int)=5∨(5:Int)=6)
     |(show(0:Int)≤7∧(7:Int)<18446744073709551616∧(0:Int)≤8∧(8:Int)≤1073741824;omega)
     |(show((leV (rdT (layB 7 8) 0 0 8).data.toList:Nat):Int)=7;kernel_rfl)
  ·refine Run.ret ti_ok rfl rfl (.a (.bool ?_))
   show rcmp .eql ((layB 7 8).size:Int) 8=true
   rw[lay_size,rcmp_eql];rfl
 ·cases hs
end Go.Proofs.Ytlbllaocdilafaa
