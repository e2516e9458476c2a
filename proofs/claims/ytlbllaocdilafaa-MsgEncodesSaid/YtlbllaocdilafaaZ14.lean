import Derived.Test.YtlbllaocdilafaaZ13
import Derived.Test.YtlbllaocdilafaaZ10
set_option linter.unusedSimpArgs false
set_option linter.unusedVariables false
set_option maxRecDepth 100000
namespace Go.Eng
open Go
def cntL (n:Int):Int:=if n<253 then 1 else if n<65536 then 3 else if n<4294967296 then 5 else 9
def cntB (n:Int):ByteArray:=if n<253 then layB n 1 else if n<65536 then layB 253 1++layB n 2 else if n<4294967296 then layB 254 1++layB n 4 else layB 255 1++layB n 8
def rawB (s:ByteArray):ByteArray:=cntB s.size++s
def flagB (b:Bool):ByteArray:=if b then layB 1 1 else layB 0 1
def bigB (n:Int):ByteArray:=layB (n / 256+n % 256*256) 2
def rowB (l:List Int) (n:Nat):ByteArray:=arR.txt (fun j=>l.getD j 0) n
def netB (d:D):ByteArray:=layB d.snd!.fst!.int! 8++rowB d.snd!.snd!.fst!.row! 16++bigB d.snd!.snd!.snd!.int!
def catN (f:Nat→ByteArray):Nat→ByteArray
 |0=>.empty
 |n+1=>catN f n++f n
theorem layB_size (n:Int) (k:Nat):(layB n k).size=k:=by simp[layB,ByteArray.size]
theorem rowB_size (l:List Int) (n:Nat):(rowB l n).size=n:=by
 show(((List.range n).map _).toArray:Array UInt8).size=n
 simp
theorem cntB_size (n:Int):((cntB n).size:Int)=cntL n:=by
 unfold cntB cntL
 split
 ·rw[layB_size];rfl
 ·split
  ·rw[bsa,layB_size,layB_size];rfl
  ·split<;>(rw[bsa,layB_size,layB_size];rfl)
theorem cntL_le (n:Int):1≤cntL n∧cntL n≤9:=by
 unfold cntL
 (repeat' split)<;>omega
theorem bigB_size (n:Int):(bigB n).size=2:=layB_size _ _
theorem flagB_size (b:Bool):(flagB b).size=1:=by cases b<;>exact layB_size _ _
theorem netB_size (d:D):(netB d).size=26:=by
 unfold netB
 rw[bsa,bsa,layB_size,rowB_size,bigB_size]
theorem rawB_size (s:ByteArray):((rawB s).size:Int)=cntL s.size+s.size:=by
 unfold rawB
 rw[bsa]
 have:=cntB_size s.size
 omega
theorem catN_succ (f:Nat→ByteArray) (n:Nat):catN f (n+1)=catN f n++f n:=rfl
theorem catN_size_le (f:Nat→ByteArray) {m n:Nat}(h:m≤n):(catN f m).size≤(catN f n).size:=by
 induction n with
 |zero=>rw[show m=0 by omega];exact Nat.le_refl _
 |succ n ih=>
  rcases Nat.lt_or_ge n m with g|g
  ·rw[show m=n+1 by omega];exact Nat.le_refl _
  ·have:=ih g
   rw[catN_succ,bsa]
   omega
theorem raw_fit {s u:ByteArray}(h:s.size+(rawB u).size≤140737488355328):IntKind.u64.wrap ((u.size:Nat):Int)=u.size∧(0≤(u.size:Int)∧(u.size:Int)<18446744073709551616)∧s.size+(cntB u.size).size≤140737488355328∧(s++cntB u.size).size+u.size≤140737488355328:=by
 rw[show(rawB u).size=(cntB u.size).size+u.size from bsa]at h
 rw[show(s++cntB u.size).size=s.size+(cntB u.size).size from bsa]
 generalize (cntB u.size).size=a at h ⊢
 generalize u.size=b at h ⊢
 generalize s.size=c at h ⊢
 refine⟨?_,?_,?_,?_⟩
 ·show(b:Int) % 18446744073709551616=_
  omega
 all_goals omega
theorem swap16 {n:Int}(h0:0≤n) (h1:n<65536):rbin .or .u16 (rbin .shl .u16 n 8) (rbin .shr .u16 n 8)=n / 256+n % 256*256:=by
 have e1:rbin .shl .u16 n 8=n % 256*256:=by
  show(n*2 ^ 8) % 65536=_
  omega
 have e2:rbin .shr .u16 n 8=n / 256:=by
  show n.fdiv (2 ^ 8)=_
  rw[Int.fdiv_eq_ediv_of_nonneg _ (by decide)];rfl
 rw[e1,e2]
 show IntKind.u16.wrap ((BitVec.ofInt 16 (n % 256*256) ||| BitVec.ofInt 16 (n / 256)).toNat:Nat)=_
 obtain⟨a,ha⟩:=Int.eq_ofNat_of_zero_le (show 0≤n % 256 by omega)
 obtain⟨b,hb⟩:=Int.eq_ofNat_of_zero_le (show 0≤n / 256 by omega)
 rw[ha,hb]
 have ha2:a<256:=by omega
 have hb2:b<2 ^ 8:=by omega
 have e1:(BitVec.ofInt 16 ((a:Int)*256)).toNat=2 ^ 8*a:=by rw[BitVec.toNat_ofInt];omega
 have e2:(BitVec.ofInt 16 (b:Int)).toNat=b:=by rw[BitVec.toNat_ofInt];omega
 rw[BitVec.toNat_or,e1,e2,←Nat.two_pow_add_eq_or_of_lt hb2]
 show((2 ^ 8*a+b:Nat):Int) % 65536=_
 omega
structure WL extends LA where
 cntL:Int→Int
 cnt:Int→ByteArray
 raw:ByteArray→ByteArray
 flag:Bool→ByteArray
 big:Int→ByteArray
 tx:(Nat→Int)→Nat→ByteArray
 u64:Int→Prop
 u16:Int→Prop
 u8:Int→Prop
 fit2:ByteArray→ByteArray→Prop
def wlR:WL where
 toLA:=laR
 cntL:=cntL
 cnt:=cntB
 raw:=rawB
 flag:=flagB
 big:=bigB
 tx f n:=arR.txt (fun j=>f (0+j)) n
 u64 n:=0≤n∧n<18446744073709551616
 u16 n:=0≤n∧n<65536
 u8 n:=0≤n∧n<256
 fit2 s u:=s.size+u.size≤140737488355328
theorem txz (f:Nat→Int) (n:Nat):({data:=(List.map (fun j=>UInt8.ofNat (f j).toNat) (List.range n)).toArray}:ByteArray).size=n:=by
 show(List.map _ (List.range n)).toArray.size=n
 simp
theorem row_tx (l:List Int) (n:Nat):wlR.tx (fun j=>l.getD j 0) n=rowB l n:=by
 show arR.txt (fun j=>l.getD (0+j) 0) n=arR.txt (fun j=>l.getD j 0) n
 simp only[Nat.zero_add]
end Go.Eng
namespace Go.Proofs.Ytlbllaocdilafaa
open Go Go.Eng Go.Proofs Go.RowKit
attribute[local irreducible] CallOk HOk Run TIok rbin rcmp run1 updF shfF blitF
def tsi0 (lf:WL):Tbl:=tbL [(131,nP (sLay lf.toLA))] [(96,nH (hWBytes lf.toLA))]
theorem tsi0_ok:TblOk Try.prog (tsi0 wlR):=tbL_ok (mc ⟨lay_ok.nP,nofun⟩) (mc ⟨wbytes_ok.nH,nofun⟩)
def sCntL (lf:WL):ESpec:=fun l=>match l with
 | [.one (.int .u64 n)]=>some (.a (.one (.int .i64 (lf.cntL n))),[])
 |_=>none
theorem cntl_ok:CallOk Try.prog 153 (sCntL wlR):=by
 refine .of_run (hc:=(tsi0 wlR).hc) Try.func153 rfl (by kernel_rfl) (by kernel_rfl) fun xs v ps hs hp w=>?_
 unfold sCntL at hs
 split at hs
 ·rename_i n
  cases hs
  clear hp
  by_cases h1:n<253
  ·have e:wlR.cntL n=1:=if_pos h1
   rw[e]
   refine rx tsi0_ok 999 false 400 [true] ?_ ?_
   ·simp only[conj,z0,z2,arR,z1];((repeat' with_reducible apply And.intro)<;>first|omega|assumption|rfl|trivial)
   ·exact Run.ret ti_ok rfl rfl (.a (.lit rfl))
  by_cases h2:n<65536
  ·have e:wlR.cntL n=3:=(if_neg h1).trans (if_pos h2)
   rw[e]
   refine rx tsi0_ok 999 false 400 [false,true] ?_ ?_
   ·simp only[conj,z0,z2,arR,z1];((repeat' with_reducible apply And.intro)<;>first|omega|assumption|rfl|trivial)
   ·exact Run.ret ti_ok rfl rfl (.a (.lit rfl))
  by_cases h3:n<4294967296
  ·have e:wlR.cntL n=5:=(if_neg h1).trans ((if_neg h2).trans (if_pos h3))
   rw[e]
   refine rx tsi0_ok 999 false 400 [false,false,true] ?_ ?_
   ·simp only[conj,z0,z2,arR,z1];((repeat' with_reducible apply And.intro)<;>first|omega|assumption|rfl|trivial)
   ·exact Run.ret ti_ok rfl rfl (.a (.lit rfl))
  ·have e:wlR.cntL n=9:=(if_neg h1).trans ((if_neg h2).trans (if_neg h3))
   rw[e]
   refine rx tsi0_ok 999 false 400 [false,false,false] ?_ ?_
   ·simp only[conj,z0,z2,arR,z1];((repeat' with_reducible apply And.intro)<;>first|omega|assumption|rfl|trivial)
   ·exact Run.ret ti_ok rfl rfl (.a (.lit rfl))
 ·cases hs
def tsi1 (lf:WL):Tbl:=tbL [(131,nP (sLay lf.toLA)),(153,nP (sCntL lf))] []
theorem tsi1_ok:TblOk Try.prog (tsi1 wlR):=tbL_ok (mc ⟨lay_ok.nP,mc ⟨cntl_ok.nP,nofun⟩⟩) (nofun)
def sCnt (lf:WL):ESpec:=fun l=>match l with
 | [.one (.int .u64 n)]=>some (.a (.one (.str (lf.cnt n))),[lf.u64 n])
 |_=>none
theorem cnt_ok:CallOk Try.prog 132 (sCnt wlR):=by
 refine .of_run (hc:=(tsi1 wlR).hc) Try.func132 rfl (by kernel_rfl) (by kernel_rfl) fun xs v ps hs hp w=>?_
 unfold sCnt at hs
 split at hs
 ·rename_i n
  cases hs
  obtain⟨g1,g2⟩:0≤n∧n<18446744073709551616:=hp (wlR.u64 n) (by simp)
  clear hp
  have hlay:∀k:Int,0≤k→k≤8→laR.layOk n k:=fun k h0 h8=>⟨g1,g2,h0,by omega⟩
  have hlc:∀c k:Int,0≤c→c<256→0≤k→k≤8→laR.layOk c k:=fun c k h0 h1 h2 h3=>⟨h0,by omega,h2,by omega⟩
  have hsz:∀a b:Int,0≤b→b≤8→∀c:Int,(((layB c 1).size+(layB a b.toNat).size:Nat):Int)≤9223372036854775807:=by
   intro a b h0 h8 c
   rw[layB_size,layB_size];omega
  by_cases h1:n<253
  ·have e:wlR.cnt n=layB n 1:=if_pos h1
   have e1:wlR.cntL n=1:=if_pos h1
   rw[e]
   refine rx tsi1_ok 999 false 400 [true] ?_ ?_
   ·simp only[conj,z0,z2,arR,z1,e1]
    (repeat' with_reducible apply And.intro)<;>first|exact hlay _ (by decide) (by decide)|rfl|trivial
   ·exact Run.ret ti_ok rfl rfl (.a (.str rfl))
  by_cases h2:n<65536
  ·have e:wlR.cnt n=layB 253 1++layB n 2:=(if_neg h1).trans (if_pos h2)
   have e1:wlR.cntL n=3:=(if_neg h1).trans (if_pos h2)
   rw[e]
   refine rx tsi1_ok 999 false 400 [false,true] ?_ ?_
   ·simp only[conj,z0,z2,arR,z1,e1]
    (repeat' with_reducible apply And.intro)<;>first|exact hlay _ (by decide) (by decide)|exact hlc _ _ (by decide) (by decide) (by decide) (by decide)|exact hsz _ _ (by decide) (by decide) _|decide|trivial
   ·exact Run.ret ti_ok rfl rfl (.a (.str rfl))
  by_cases h3:n<4294967296
  ·have e:wlR.cnt n=layB 254 1++layB n 4:=(if_neg h1).trans ((if_neg h2).trans (if_pos h3))
   have e1:wlR.cntL n=5:=(if_neg h1).trans ((if_neg h2).trans (if_pos h3))
   rw[e]
   refine rx tsi1_ok 999 false 400 [false,false,true] ?_ ?_
   ·simp only[conj,z0,z2,arR,z1,e1]
    (repeat' with_reducible apply And.intro)<;>first|exact hlay _ (by decide) (by decide)|exact hlc _ _ (by decide) (by decide) (by decide) (by decide)|exact hsz _ _ (by decide) (by decide) _|decide|trivial
   ·exact Run.ret ti_ok rfl rfl (.a (.str rfl))
  ·have e:wlR.cnt n=layB 255 1++layB n 8:=(if_neg h1).trans ((if_neg h2).trans (if_neg h3))
   have e1:wlR.cntL n=9:=(if_neg h1).trans ((if_neg h2).trans (if_neg h3))
   rw[e]
   refine rx tsi1_ok 999 false 400 [false,false,false] ?_ ?_
   ·simp only[conj,z0,z2,arR,z1,e1]
    (repeat' with_reducible apply And.intro)<;>first|exact hlay _ (by decide) (by decide)|exact hlc _ _ (by decide) (by decide) (by decide) (by decide)|exact hsz _ _ (by decide) (by decide) _|decide|trivial
   ·exact Run.ret ti_ok rfl rfl (.a (.str rfl))
 ·cases hs
def tsi2 (lf:WL):Tbl:=tbL [(131,nP (sLay lf.toLA)),(132,nP (sCnt lf))] [(96,nH (hWBytes lf.toLA))]
theorem tsi2_ok:TblOk Try.prog (tsi2 wlR):=tbL_ok (mc ⟨lay_ok.nP,mc ⟨cnt_ok.nP,nofun⟩⟩) (mc ⟨wbytes_ok.nH,nofun⟩)
def hWCnt (lf:WL):HSpec:=fun l bs=>match l,bs with
 | [.one (.ptr 0 (.lit 0)),.one (.int .u64 n)],[⟨false,.lst [.adr 0 167,.bf s 1 5]⟩,⟨false,.tail⟩]=>some (.tup [],[⟨false,.lst [.adr 0 167,.bf (lf.cat s (lf.cnt n)) 2 5]⟩,⟨true,.dead⟩,⟨false,.tail⟩],[lf.u64 n,lf.fit2 s (lf.cnt n)])
 |_,_=>none
theorem wcnt_ok:HOk Try.prog 92 (hWCnt wlR):=by
 refine .of_run (hc:=(tsi2 wlR).hc) Try.func92 rfl (by kernel_rfl) (by kernel_rfl) fun las lbs v lbs' ps hs hp w=>?_
 unfold hWCnt at hs
 split at hs
 ·rename_i n s
  cases hs
  have h1:wlR.u64 n:=hp (wlR.u64 n) (by simp)
  have h2:wlR.fits s (wlR.cnt n):=hp (wlR.fit2 s (wlR.cnt n)) (by simp)
  refine rx tsi2_ok 999 false 400 [] ?_ ?_
  ·exact⟨h2,h1,trivial⟩
  exact Run.fin ti_ok rfl rfl (HEnd.pack [0,1,2] rfl rfl rfl rfl)
 ·cases hs
def hWU16 (lf:WL):HSpec:=fun l bs=>match l,bs with
 | [.one (.ptr 0 (.lit 0)),.one (.int .u16 n)],[⟨false,.lst [.adr 0 167,.bf s 1 5]⟩,⟨false,.tail⟩]=>some (.tup [],[⟨false,.lst [.adr 0 167,.bf (lf.cat s (lf.lay n 2)) 2 5]⟩,⟨true,.dead⟩,⟨false,.tail⟩],[lf.u16 n,lf.fit2 s (lf.lay n 2)])
 |_,_=>none
theorem wu16_ok:HOk Try.prog 136 (hWU16 wlR):=by
 refine .of_run (hc:=(tsi2 wlR).hc) Try.func136 rfl (by kernel_rfl) (by kernel_rfl) fun las lbs v lbs' ps hs hp w=>?_
 unfold hWU16 at hs
 split at hs
 ·rename_i n s
  cases hs
  obtain⟨g1,g2⟩:0≤n∧n<65536:=hp (wlR.u16 n) (by simp)
  have hc:IntKind.u64.wrap n=n:=(by show n % 18446744073709551616=n;omega)
  have h1:wlR.layOk (IntKind.u64.wrap n) 2:=by rw[hc];exact⟨g1,by omega,by decide,by decide⟩
  have h2:wlR.fits s (wlR.lay (IntKind.u64.wrap n) 2):=by rw[hc];exact hp (wlR.fit2 s (wlR.lay n 2)) (by simp)
  refine rx tsi2_ok 999 false 400 [] ?_ ?_
  ·exact⟨h2,h1,trivial⟩
  refine Run.fin ti_ok rfl rfl (HEnd.pack [0,1,2] rfl rfl ?_ rfl)
  simp only[arR,hc]
  rfl
 ·cases hs
def hWU8 (lf:WL):HSpec:=fun l bs=>match l,bs with
 | [.one (.ptr 0 (.lit 0)),.one (.int .u8 n)],[⟨false,.lst [.adr 0 167,.bf s 1 5]⟩,⟨false,.tail⟩]=>some (.tup [],[⟨false,.lst [.adr 0 167,.bf (lf.cat s (lf.lay n 1)) 2 5]⟩,⟨true,.dead⟩,⟨false,.tail⟩],[lf.u8 n,lf.fit2 s (lf.lay n 1)])
 |_,_=>none
theorem wu8_ok:HOk Try.prog 135 (hWU8 wlR):=by
 refine .of_run (hc:=(tsi2 wlR).hc) Try.func135 rfl (by kernel_rfl) (by kernel_rfl) fun las lbs v lbs' ps hs hp w=>?_
 unfold hWU8 at hs
 split at hs
 ·rename_i n s
  cases hs
  obtain⟨g1,g2⟩:0≤n∧n<256:=hp (wlR.u8 n) (by simp)
  have hc:IntKind.u64.wrap n=n:=(by show n % 18446744073709551616=n;omega)
  have h1:wlR.layOk (IntKind.u64.wrap n) 1:=by rw[hc];exact⟨g1,by omega,by decide,by decide⟩
  have h2:wlR.fits s (wlR.lay (IntKind.u64.wrap n) 1):=by rw[hc];exact hp (wlR.fit2 s (wlR.lay n 1)) (by simp)
  refine rx tsi2_ok 999 false 400 [] ?_ ?_
  ·exact⟨h2,h1,trivial⟩
  refine Run.fin ti_ok rfl rfl (HEnd.pack [0,1,2] rfl rfl ?_ rfl)
  simp only[arR,hc]
  rfl
 ·cases hs
def tsi3 (lf:WL):Tbl:=tbL [] [(96,nH (hWBytes lf.toLA)),(92,nH (hWCnt lf)),(136,nH (hWU16 lf)),(135,nH (hWU8 lf))]
theorem tsi3_ok:TblOk Try.prog (tsi3 wlR):=tbL_ok (nofun) (mc ⟨wbytes_ok.nH,mc ⟨wcnt_ok.nH,mc ⟨wu16_ok.nH,mc ⟨wu8_ok.nH,nofun⟩⟩⟩⟩)
def hWBig (lf:WL):HSpec:=fun l bs=>match l,bs with
 | [.one (.ptr 0 (.lit 0)),.one (.int .u16 n)],[⟨false,.lst [.adr 0 167,.bf s 1 5]⟩,⟨false,.tail⟩]=>some (.tup [],[⟨false,.lst [.adr 0 167,.bf (lf.cat s (lf.big n)) 2 5]⟩,⟨true,.dead⟩,⟨false,.tail⟩],[lf.u16 n,lf.fit2 s (lf.big n)])
 |_,_=>none
theorem wbig_ok:HOk Try.prog 133 (hWBig wlR):=by
 refine .of_run (hc:=(tsi3 wlR).hc) Try.func133 rfl (by kernel_rfl) (by kernel_rfl) fun las lbs v lbs' ps hs hp w=>?_
 unfold hWBig at hs
 split at hs
 ·rename_i n s
  cases hs
  obtain⟨g1,g2⟩:0≤n∧n<65536:=hp (wlR.u16 n) (by simp)
  have hc:rbin .or .u16 (rbin .shl .u16 n 8) (rbin .shr .u16 n 8)=n / 256+n % 256*256:=swap16 g1 g2
  have h1:wlR.u16 (rbin .or .u16 (rbin .shl .u16 n 8) (rbin .shr .u16 n 8)):=by rw[hc];exact⟨by omega,by omega⟩
  have h2:wlR.fit2 s (wlR.lay (rbin .or .u16 (rbin .shl .u16 n 8) (rbin .shr .u16 n 8)) 2):=by rw[hc];exact hp (wlR.fit2 s (wlR.big n)) (by simp)
  refine rx tsi3_ok 999 false 400 [] ?_ ?_
  ·exact⟨h1,h2,trivial⟩
  refine Run.fin ti_ok rfl rfl (HEnd.pack [0,1,2] rfl rfl ?_ rfl)
  simp only[arR,hc]
  rfl
 ·cases hs
def hWStr (lf:WL):HSpec:=fun l bs=>match l,bs with
 | [.one (.ptr 0 (.lit 0)),.one (.str u)],[⟨false,.lst [.adr 0 167,.bf s 1 5]⟩,⟨false,.tail⟩]=>some (.tup [],[⟨false,.lst [.adr 0 167,.bf (lf.cat s (lf.raw u)) 2 5]⟩,⟨true,.dead⟩,⟨false,.tail⟩],[lf.fit2 s (lf.raw u)])
 |_,_=>none
theorem wstr_ok:HOk Try.prog 99 (hWStr wlR):=by
 refine .of_run (hc:=(tsi3 wlR).hc) Try.func99 rfl (by kernel_rfl) (by kernel_rfl) fun las lbs v lbs' ps hs hp w=>?_
 unfold hWStr at hs
 split at hs
 ·rename_i u s
  cases hs
  obtain⟨hc,g3,g4,g5⟩:=raw_fit (hp (wlR.fit2 s (wlR.raw u)) (by simp))
  have h3:wlR.u64 (IntKind.u64.wrap ((u.size:Nat):Int)):=by rw[hc];exact g3
  have h4:wlR.fit2 s (wlR.cnt (IntKind.u64.wrap ((u.size:Nat):Int))):=by rw[hc];exact g4
  have h5:wlR.fits (wlR.cat s (wlR.cnt (IntKind.u64.wrap ((u.size:Nat):Int)))) u:=by rw[hc];exact g5
  refine rx tsi3_ok 999 false 400 [] ?_ ?_
  ·exact⟨h5,h3,h4,trivial⟩
  refine Run.fin ti_ok rfl rfl (HEnd.pack [0,1,6] rfl rfl ?_ rfl)
  have hb:s++cntB (IntKind.u64.wrap ((u.size:Nat):Int))++u=s++rawB u:=by rw[hc,baa];rfl
  show some ([⟨false,.lst [.adr 0 167,.bf (s++cntB (IntKind.u64.wrap ((u.size:Nat):Int))++u) 2 5]⟩,_,_]:List Blk)=some [⟨false,.lst [.adr 0 167,.bf (s++rawB u) 2 5]⟩,_,_]
  rw[hb]
 ·cases hs
def hWHash (lf:WL):HSpec:=fun l bs=>match l,bs with
 | [.one (.ptr 0 (.lit 0)),.agg (.ints .u8 (.lit 32) f)],[⟨false,.lst [.adr 0 167,.bf s 1 5]⟩,⟨false,.tail⟩]=>some (.tup [],[⟨false,.lst [.adr 0 167,.bf (lf.cat s (lf.tx f 32)) 2 5]⟩,⟨true,.dead⟩,⟨false,.tail⟩],[lf.fit2 s (lf.tx f 32)])
 |_,_=>none
theorem whash_ok:HOk Try.prog 95 (hWHash wlR):=by
 refine .of_run (hc:=(tsi3 wlR).hc) Try.func95 rfl (by kernel_rfl) (by kernel_rfl) fun las lbs v lbs' ps hs hp w=>?_
 unfold hWHash at hs
 split at hs
 ·rename_i f s
  cases hs
  have h2:wlR.fits s (wlR.tx f 32):=hp (wlR.fit2 s (wlR.tx f 32)) (by simp)
  refine rx tsi3_ok 999 false 400 [] ?_ ?_
  ·exact⟨h2,trivial⟩
  exact Run.fin ti_ok rfl rfl (HEnd.pack [0,1,3] rfl rfl rfl rfl)
 ·cases hs
def hWBool (lf:WL):HSpec:=fun l bs=>match l,bs with
 | [.one (.ptr 0 (.lit 0)),.one (.bool b)],[⟨false,.lst [.adr 0 167,.bf s 1 5]⟩,⟨false,.tail⟩]=>some (.tup [],[⟨false,.lst [.adr 0 167,.bf (lf.cat s (lf.flag b)) 2 5]⟩,⟨true,.dead⟩,⟨false,.tail⟩],[lf.fit2 s (lf.flag b)])
 |_,_=>none
theorem wbool_ok:HOk Try.prog 97 (hWBool wlR):=by
 refine .of_run (hc:=(tsi3 wlR).hc) Try.func97 rfl (by kernel_rfl) (by kernel_rfl) fun las lbs v lbs' ps hs hp w=>?_
 unfold hWBool at hs
 split at hs
 ·rename_i b s
  cases hs
  have h2:wlR.fit2 s (wlR.flag b):=hp (wlR.fit2 s (wlR.flag b)) (by simp)
  cases b with
  |true=>
   refine rx tsi3_ok 999 false 400 [true] ?_ ?_
   ·exact⟨(by decide:(0:Int)≤1∧(1:Int)<256),h2,rfl,trivial⟩
   exact Run.ret ti_ok rfl rfl (HEnd.pack [0,1,2] rfl rfl rfl rfl)
  |false=>
   refine rx tsi3_ok 999 false 400 [false] ?_ ?_
   ·exact⟨(by decide:(0:Int)≤0∧(0:Int)<256),h2,rfl,trivial⟩
   exact Run.fin ti_ok rfl rfl (HEnd.pack [0,1,2] rfl rfl rfl rfl)
 ·cases hs
end Go.Proofs.Ytlbllaocdilafaa
namespace Go.Eng
open Go
section
variable {P:Program}{ρ:Ren}
def packHd (s:Sh):List Pt→Option (D×List Pt)
 |.v s' d::l=>if shEq s' s then some (d,l)else none
 |.c x::l=>(encC s x).map fun d=>(d,l)
 | []=>none
def packD:Sh→List Pt→Option (D×List Pt)
 |.two a b,ps=>match packHd (.two a b) ps with
  |some r=>some r
  |none=>match packD a ps with
   |some (x,ps')=>(match packD b ps' with
    |some (y,ps'')=>some (.pair x y,ps'')
    |none=>none)
   |none=>none
 |.int k,ps=>packHd (.int k) ps
 |.bool,ps=>packHd .bool ps
 |.str,ps=>packHd .str ps
 |.arr k m,ps=>packHd (.arr k m) ps
 |.sl s,ps=>packHd (.sl s) ps
def CsLe (xs ys:List C):Prop:=ys.length=xs.length∧∀(j:Nat) y,ys[j]? = some y→∃x,xs[j]? = some x∧∀(ρ:Ren) v,CRel ρ x v→CRel ρ y v
theorem CsLe.refl (xs:List C):CsLe xs xs:=⟨rfl,fun j y h=>⟨y,h,fun _ _ h=>h⟩⟩
theorem CsLe.app {a b c d:List C}(h1:CsLe a b) (h2:CsLe c d):CsLe (a++c) (b++d):=by
 refine⟨by rw[List.length_append,List.length_append,h1.1,h2.1],fun j y hy=>?_⟩
 rw[List.getElem?_append]at hy
 rw[List.getElem?_append,←h1.1]
 split
 ·rename_i hj
  rw[if_pos hj]at hy
  exact h1.2 j y hy
 ·rename_i hj
  rw[if_neg hj]at hy
  exact h2.2 _ y hy
theorem encC_colC {s:Sh}{x:C}{d:D}(h:encC s x=some d):cellsD arR s d=[colC arR s d]:=by
 cases s with
 |arr=>simp[encC]at h
 |two=>simp[encC]at h
 |_=>rfl
theorem packHd_spec {s:Sh}{ps l:List Pt}{d:D}(h:packHd s ps=some (d,l)):∃cs,cellsP arR ps=cs++cellsP arR l∧CsLe cs (cellsD arR s d):=by
 unfold packHd at h
 split at h
 ·split at h
  ·rename_i he
   obtain rfl:=shEq_eq he
   simp only[sie,po]at h
   obtain⟨rfl,rfl⟩:=h
   exact⟨_,rfl,.refl _⟩
  ·cases h
 ·rename_i x l'
  simp only[oms,po]at h
  obtain⟨d',h1,rfl,rfl⟩:=h
  refine⟨[x],rfl,?_⟩
  rw[encC_colC h1]
  refine⟨rfl,fun j y hy=>?_⟩
  cases j with
  |zero=>
   simp at hy
   subst hy
   exact⟨x,rfl,fun ρ v hv=>encC_rel h1 hv⟩
  |succ j=>simp at hy
 ·cases h
theorem packD_spec:∀{s:Sh}{ps l:List Pt}{d:D},packD s ps=some (d,l)→∃cs,cellsP arR ps=cs++cellsP arR l∧CsLe cs (cellsD arR s d):=by
 intro s
 induction s with
 |two a b iha ihb=>
  intro ps l d h
  simp only[packD]at h
  split at h
  ·rename_i r hr
   simp only[sie]at h
   subst h
   exact packHd_spec hr
  ·split at h
   ·rename_i x ps' h1
    split at h
    ·rename_i y ps'' h2
     simp only[sie,po]at h
     obtain⟨rfl,rfl⟩:=h
     obtain⟨c1,e1,f1⟩:=iha h1
     obtain⟨c2,e2,f2⟩:=ihb h2
     exact⟨c1++c2,by rw[e1,e2,List.append_assoc],f1.app f2⟩
    ·cases h
   ·cases h
 |_=>intro ps l d h;simp only[packD]at h;exact packHd_spec h
def G.pack (s:Sh):G→G
 |.prt ps=>match packD s ps with
  |some (d,[])=>.prt [.v s d]
  |_=>.prt ps
 |.lst cs=>match packD s (cs.map .c)with
  |some (d,[])=>.prt [.v s d]
  |_=>.lst cs
 |g=>g
def A.pack (s:Sh):A→A
 |.agg g=>.agg (g.pack s)
 |x=>x
theorem CsLe.grel {xs ys:List C}(h:CsLe xs ys){arr:Array Value}(hg:GRel ρ (.lst xs) arr):GRel ρ (.lst ys) arr:=
 ⟨by rw[hg.1];exact h.1.symm,fun j y hy=>by
  obtain⟨x,e1,e2⟩:=h.2 j y hy
  obtain⟨v,f1,f2⟩:=hg.2 j x e1
  exact⟨v,f1,e2 _ _ f2⟩⟩
theorem pack_grel {s:Sh}{ps:List Pt}{d:D}(h:packD s ps=some (d,[])){arr:Array Value}(hg:GRel ρ (.lst (cellsP arR ps)) arr):GRel ρ (.prt [.v s d]) arr:=by
 obtain⟨cs,e1,e2⟩:=packD_spec h
 rw[e1]at hg
 simp only[cellsP,List.append_nil]at hg
 have h3:=e2.grel hg
 have h4:GRel ρ (.lst (cellsP arR [.v s d])) arr:=by simpa only[cellsP,List.append_nil]using h3
 exact h4
theorem G.pack_rel {s:Sh}{g:G}{arr:Array Value}(h:GRel ρ g arr):GRel ρ (g.pack s) arr:=by
 unfold G.pack
 split
 ·split
  ·rename_i hp;exact pack_grel hp h
  ·exact h
 ·rename_i cs
  split
  ·rename_i hp;exact pack_grel hp (by rw[cellsP_c];exact h)
  ·exact h
 ·exact h
theorem A.pack_rel {s:Sh}{x:A}{v:Value}(h:ARel ρ x v):ARel ρ (x.pack s) v:=by
 cases x with
 |one c=>exact h
 |agg g=>
  obtain⟨arr,e,hg⟩:=h
  exact⟨arr,e,G.pack_rel hg⟩
theorem ALe.prt {s:Sh}{g:G}{d:D}(h:g.pack s=.prt [.v s d]):ALe (.agg g) (.agg (.prt [.v s d])):=by
 intro ρ u hu
 have h1:ARel ρ (.agg (.prt [.v s d])) u:=by
  rw[←h];exact A.pack_rel (x:=.agg g) hu
 exact bareA_rel (ρ:=ρ) (ρ':=Ren.none ρ.z) (x:=.agg (.prt [.v s d])) (fun _ _ _ h=>h) h1 rfl
theorem partC_at {ps:List Pt}{j:Nat}{x y:C}(hj:ps[j]? = some (.c x)):∃o,(cellsP arR ps)[o]? = some x∧cellsP arR (ps.set j (.c y))=(cellsP arR ps).set o y:=by
 induction ps generalizing j with
 |nil=>simp at hj
 |cons p l ih=>
  cases j with
  |zero=>
   simp at hj
   subst hj
   exact⟨0,rfl,rfl⟩
  |succ j=>
   obtain⟨o,h1,h2⟩:=ih (by simpa using hj)
   cases p with
   |c z=>exact⟨o+1,by simpa [cellsP]using h1,by simp[cellsP,h2]⟩
   |v s d=>
    refine⟨(cellsD arR s d).length+o,?_,?_⟩
    ·simp only[cellsP]
     rw[List.getElem?_append_right (by omega),Nat.add_sub_cancel_left];exact h1
    ·simp only[List.set_cons_succ,cellsP,h2]
     rw[List.set_append_right _ _ (by omega),Nat.add_sub_cancel_left]
variable {hc:FuncId→Bool}{W0:World}{m0:Nat}{fn:Func}{R:V→Heap→Prop}
theorem Run.roomAtP {t:List V}{h:Heap}{T:List Item}{o:List Prop}{s:List Bool}(b j:Nat) (sh:Sh){ro:Bool}{ps:List Pt}(hb:h[b]? = some (some ⟨ro,.prt ps⟩)) (hj:ps[j]? = some (.c .nsl)) (hm:m0≤h.length)
 (hr:Run P hc W0 m0 fn R ⟨t,(h.set b (some ⟨ro,.prt (ps.set j (.c (.dat sh [] (some h.length))))⟩))++[some ⟨false,.tail⟩],T,[],[]⟩):Run P hc W0 m0 fn R ⟨t,h,T,o,s⟩:=by
 intro hok hm0 ρ tmps w fr css hT hH
 have h1:=(hH.pad 1).tailVoid (nm:=h.length) (by simp) hm
 have e:(h++List.replicate 1 none).set h.length (some ⟨false,.tail⟩)=h++[some ⟨false,.tail⟩]:=by simp
 rw[e]at h1
 have hlt:b<h.length:=(ges hb).1
 obtain⟨k,hk1,hk2⟩:=partC_at (y:=.dat sh [] (some h.length)) hj
 have h2:=h1.swap (h2:=(h.set b (some ⟨ro,.prt (ps.set j (.c (.dat sh [] (some h.length))))⟩))++[some ⟨false,.tail⟩]) (fun n=>by
  by_cases hn:n<h.length
  ·rw[List.getElem?_append_left hn,List.getElem?_append_left (by simpa using hn),List.getElem?_set]
   by_cases hbn:b=n
   ·subst hbn
    rw[if_pos rfl,if_pos hlt,hb]
    refine .inr ⟨_,_,rfl,rfl,rfl,rfl,by simp,by simp,fun r o' ⟨c,ty,fz,q1,q2,q3⟩=>⟨c,ty,fz,q1,q2,fun i x hx=>?_⟩⟩
    simp only[G.at]at hx q3
    rw[hk2,List.getElem?_set]at hx
    by_cases hji:k=i
    ·subst hji
     obtain⟨v,a1,a2⟩:=q3 k .nsl hk1
     rw[if_pos rfl]at hx
     split at hx
     ·simp only[sie]at hx
      subst hx
      exact⟨v,a1,.inl ⟨a2,rfl⟩⟩
     ·cases hx
    ·rw[if_neg hji]at hx
     exact q3 i x hx
   ·rw[if_neg hbn];exact .inl rfl
  ·rw[List.getElem?_append_right (by omega),List.getElem?_append_right (by simpa using hn)]
   refine .inl ?_
   simp)
 refine .ext (Ext.void (nm:=h.length)) (hr hok (by simp only[List.length_append,List.length_set];omega) (ρ.void h.length) tmps w fr css ⟨hT.1,fun i x hx=>?_⟩ h2)
 obtain⟨u,a1,a2⟩:=hT.2 i x hx
 exact⟨u,a1,a2.ext (Ext.void (ρ:=ρ) (nm:=h.length)).toSub⟩
end
end Go.Eng
