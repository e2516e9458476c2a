import Derived.Test.YtlbllaocdilafaaZ25
import Derived.Test.YtlbllaocdilafaaZ14
set_option linter.unusedSimpArgs false
set_option linter.unusedVariables false
set_option maxRecDepth 100000
set_option maxHeartbeats 8000000
namespace Go.Eng
open Go
def prevI (g:D→Int) (l:List D):Nat→Int
 |0=>-1
 |n+1=>g (l.getD n (.int 0))
def okAt (g:D→Int) (l:List D) (i:Nat):Prop:=prevI g l i<g (l.getD i (.int 0))∧g (l.getD i (.int 0))≤65535
def riseP (g:D→Int) (l:List D):Prop:=∀i,i<l.length→okAt g l i
open Classical in
noncomputable def riseV (g:D→Int) (l:List D):Bool:=decide (riseP g l)
theorem prev_ge {g:D→Int}{l:List D}:∀{n:Nat},(∀i,i<n→okAt g l i)→-1≤prevI g l n
 |0,_=>Int.le_refl (-1)
 |n+1,h=>by
  have h1:=h n (by omega)
  have h2:=prev_ge (n:=n) fun i hi=>h i (by omega)
  have h3:=h1.1
  show -1≤g (l.getD n (.int 0))
  omega
def intS (d:D):Int:=d.int!
def filP (d:D):Int:=d.fst!.int!
open Classical in
theorem rise_no {g:D→Int}{l:List D}{p:Int}(h0:0≤p) (h1:p<l.length) (h:¬okAt g l p.toNat):riseV g l=false:=by
 unfold riseV
 exact decide_eq_false fun hr=>h (hr p.toNat (by omega))
open Classical in
theorem rise_yes {g:D→Int}{l:List D}{p:Int}(h1:¬p<l.length) (h:∀i,i<p.toNat→okAt g l i):riseV g l=true:=by
 unfold riseV
 exact decide_eq_true fun i hi=>h i (by omega)
structure ME4 extends ME3 where
 rise:List D→Bool
 plcs:List D→List D
 fits8:List D→Prop
 fits24:List D→Prop
noncomputable def me4:ME4 where
 toME3:=me3
 rise l:=riseV intS l
 plcs l:=l.map fun d=>.int (filP d)
 fits8 l:=l.length*8≤140737488351232
 fits24 l:=l.length*24≤140737488351232
end Go.Eng
namespace Go.Proofs.Ytlbllaocdilafaa
open Go Go.Eng Go.Proofs Go.RowKit
attribute[local irreducible] CallOk HOk Run TIok rbin rcmp run1 updF shfF blitF
def ts3 (lf:ME4):Tbl:=tbL [] []
theorem ts3_ok:TblOk Try.prog (ts3 me4):=tbL_ok nofun nofun
def sRise (lf:ME4):ESpec:=fun l=>match l with
 | [.one (.dat s xs none)]=>if shEq s (.int .i64)then some (.a (.one (.bool (lf.rise xs))),[lf.fits8 xs])else none
 |_=>none
theorem rise_ok:CallOk Try.prog 88 (sRise me4):=by
 refine .of_run (hc:=(ts3 me4).hc) Try.func88 rfl (by kernel_rfl) (by kernel_rfl) fun xs v ps hs hp w=>?_
 unfold sRise at hs
 split at hs
 ·rename_i s xs
  split at hs
  ·rename_i hsh
   obtain rfl:=shEq_eq hsh
   clear hsh
   cases hs
   have hf:xs.length*8≤140737488351232:=hp (me4.fits8 xs) (by simp)
   clear hp
   rw[show me4.rise xs=riseV intS xs from rfl]
   refine ra ts3_ok 0 false 400 [] [0,5,6,7] [7] ?_ ?_
   ·simp only[conj,z0,z2,arR,z1,zd]<;>(repeat' with_reducible apply And.intro)<;>first|omega|assumption|rfl|trivial
   refine Run.loop (ι:={q:Int×Int // (0≤q.1∧q.1≤xs.length)∧q.2=xs.length∧∀i,i<q.1.toNat→okAt intS xs i})
    (fun i=>([.a (.one (.dat (.int .i64) xs none)),.z,.z,.z,.z,.a (.one (.dat (.int .i64) xs none)),.a (.one (.int .i64 i.1.2)),.a (.one (.int .i64 i.1.1)),.z,.z,.z,.z,.z,.z,.z,.z,.z,.z,.z,.z,.z,.z,.z,.z,.z,.z,.z,.z,.z,.z,.z,.z],[]))
    (fun i=>(xs.length-i.1.1).toNat) ⟨(0,_),by simp only;omega,rfl,fun i hi=>by simp at hi⟩ ?_
   rintro⟨⟨p,len⟩,hp,hl,hq⟩ ih
   try simp only at hp hl hq
   by_cases hlt:p<xs.length
   ·have e1:rbin .add .i64 p 1=p+1:=addi (by omega) (by omega)
    have hge:=prev_ge hq
    have hat:okAt intS xs p.toNat↔prevI intS xs p.toNat<(xs.getD p.toNat (.int 0)).int!∧(xs.getD p.toNat (.int 0)).int!≤65535:=Iff.rfl
    generalize hx:(xs.getD p.toNat (.int 0)).int! = x at hat
    by_cases h1:x<0
    ·have hv:=rise_no hp.1 hlt (fun h=>by have:=hat.1 h;omega)
     rw[hv]
     refine rx ts3_ok 999 false 400 [true,true,true,true] ?_ ?_
     ·simp only[conj,z0,z2,arR,z1,hl,hx,zd]<;>(repeat' with_reducible apply And.intro)<;>first|omega|assumption|rfl|trivial
     ·exact Run.ret ti_ok rfl rfl (.a (.lbool rfl))
    by_cases h2:x>65535
    ·have hv:=rise_no hp.1 hlt (fun h=>by have:=hat.1 h;omega)
     rw[hv]
     refine rx ts3_ok 999 false 400 [true,false,true,true] ?_ ?_
     ·simp only[conj,z0,z2,arR,z1,hl,hx,zd]<;>(repeat' with_reducible apply And.intro)<;>first|omega|assumption|rfl|trivial
     ·exact Run.ret ti_ok rfl rfl (.a (.lbool rfl))
    by_cases h3:p>0
    ·have e2:rbin .sub .i64 p 1=p-1:=subi (by omega) (by omega)
     have hpr:prevI intS xs p.toNat=(xs.getD (p-1).toNat (.int 0)).int!:=by
      rw[show p.toNat=(p-1).toNat+1 by omega];rfl
     rw[hpr]at hat hge
     by_cases h4:x≤(xs.getD (p-1).toNat (.int 0)).int!
     ·have hv:=rise_no hp.1 hlt (fun h=>by have:=hat.1 h;omega)
      rw[hv]
      refine rx ts3_ok 999 false 400 [true,false,false,true,true] ?_ ?_
      ·simp only[conj,z0,z2,arR,z1,hl,hx,e2,zd]<;>(repeat' with_reducible apply And.intro)<;>first|omega|assumption|rfl|trivial
      ·exact Run.ret ti_ok rfl rfl (.a (.lbool rfl))
     ·have hq':=upto hp.1 hq (hat.2 (by omega))
      refine ra ts3_ok 2 true 400 [true,false,false,true,false] [0,5,6,7] [7] ?_ ?_
      ·simp only[conj,z0,z2,arR,z1,hl,hx,e2,zd]<;>(repeat' with_reducible apply And.intro)<;>first|omega|assumption|rfl|trivial
      ·refine ih ⟨(_,_),?_,hl,?_⟩ ?_ _ _
       ·show 0≤rbin .add .i64 p 1∧rbin .add .i64 p 1≤xs.length
        rw[e1];omega
       ·show ∀i,i<(rbin .add .i64 p 1).toNat→_
        rw[e1];exact hq'
       ·show((xs.length:Int)-rbin .add .i64 p 1).toNat<((xs.length:Int)-p).toNat
        rw[e1];omega
    ·have hp0:p.toNat=0:=by omega
     have hpr:prevI intS xs p.toNat = -1:=by rw[hp0];rfl
     have hq':=upto hp.1 hq (hat.2 (by omega))
     refine ra ts3_ok 2 true 400 [true,false,false,false,false] [0,5,6,7] [7] ?_ ?_
     ·simp only[conj,z0,z2,arR,z1,hl,hx,zd]<;>(repeat' with_reducible apply And.intro)<;>first|omega|assumption|rfl|trivial
     ·refine ih ⟨(_,_),?_,hl,?_⟩ ?_ _ _
      ·show 0≤rbin .add .i64 p 1∧rbin .add .i64 p 1≤xs.length
       rw[e1];omega
      ·show ∀i,i<(rbin .add .i64 p 1).toNat→_
       rw[e1];exact hq'
      ·show((xs.length:Int)-rbin .add .i64 p 1).toNat<((xs.length:Int)-p).toNat
       rw[e1];omega
   ·rw[rise_yes hlt hq]
    refine rx ts3_ok 999 false 400 [false] ?_ ?_
    ·simp only[conj,z0,z2,arR,z1,(by assumption:len=_),zd]<;>(repeat' with_reducible apply And.intro)<;>first|omega|assumption|rfl|trivial
    ·exact Run.ret ti_ok rfl rfl (.a (.lbool rfl))
  ·cases hs
 ·cases hs
def sPlaces (lf:ME4):ESpec:=fun l=>match l with
 | [.one (.dat s xs none)]=>if shEq s (.two (.int .i64) .str)then some (.a (.one (.dat (.int .i64) (lf.plcs xs) none)),[lf.fits24 xs])else none
 |_=>none
theorem places_ok:CallOk Try.prog 89 (sPlaces me4):=by
 refine .of_run (hc:=(ts3 me4).hc) Try.func89 rfl (by kernel_rfl) (by kernel_rfl) fun xs v ps hs hp w=>?_
 unfold sPlaces at hs
 split at hs
 ·rename_i s xs
  split at hs
  ·rename_i hsh
   obtain rfl:=shEq_eq hsh
   clear hsh
   cases hs
   have hf:xs.length*24≤140737488351232:=hp (me4.fits24 xs) (by simp)
   clear hp
   rw[show me4.plcs xs=xs.map (fun d=>.int (filP d))from rfl]
   refine ra ts3_ok 0 false 400 [] [3,6,7,8] [] ?_ ?_
   ·simp only[conj,z0,z2,arR,z1,zd]<;>(repeat' with_reducible apply And.intro)<;>first|omega|assumption|rfl|trivial
   refine Run.room 3 (.int .i64) rfl (Nat.zero_le _) ?_
   refine Run.norm (o:=[]) (s:=[]) [8] ?_
   refine Run.loop (ι:={q:Int×Int×List D // (0≤q.1∧q.1≤xs.length)∧q.2.1=xs.length∧q.2.2=(xs.take q.1.toNat).map (fun d=>.int (filP d))})
    (fun i=>([.z,.z,.z,.a (.one (.dat (.int .i64) i.1.2.2 (some 0))),.z,.z,.a (.one (.dat (.two (.int .i64) .str) xs none)),.a (.one (.int .i64 i.1.2.1)),.a (.one (.int .i64 i.1.1)),.z,.z,.z,.z,.z,.z,.z,.z,.z,.z],[some ⟨false,.tail⟩]))
    (fun i=>(xs.length-i.1.1).toNat) ⟨(0,_,[]),by simp only;omega,rfl,rfl⟩ ?_
   rintro⟨⟨p,len,l⟩,hp,hl0,hl⟩ ih
   try simp only at hp hl0 hl
   by_cases hlt:p<xs.length
   ·have e1:rbin .add .i64 p 1=p+1:=addi (by omega) (by omega)
    have hML:maxLen=9223372036854775807:=by decide
    have hll:l.length=p.toNat:=by rw[hl,List.length_map,List.length_take];omega
    have hnx:l++[.int (filP (xs.getD p.toNat (.int 0)))]=(xs.take (p+1).toNat).map (fun d=>.int (filP d)):=by
     have h:p.toNat<xs.length:=by omega
     rw[hl,show(p+1).toNat=p.toNat+1 by omega,List.take_succ_eq_append_getElem h,List.map_append,List.getD_eq_getElem?_getD,geg h];rfl
    refine ra ts3_ok 2 true 400 [true] [3,6,7,8] [3,8] ?_ ?_
    ·simp only[conj,z0,z2,arR,z1,(by assumption:len=_),zd]<;>(repeat' with_reducible apply And.intro)<;>first|omega|assumption|rfl|trivial
    ·refine ih ⟨(_,_,_),?_,hl0,?_⟩ ?_ _ _
     ·show 0≤rbin .add .i64 p 1∧rbin .add .i64 p 1≤xs.length
      rw[e1];omega
     ·simp only[arR,zd]
      show l++[.int (filP (xs.getD p.toNat (.int 0)))]=(xs.take (rbin .add .i64 p 1).toNat).map _
      rw[e1];exact hnx
     ·show((xs.length:Int)-rbin .add .i64 p 1).toNat<((xs.length:Int)-p).toNat
      rw[e1];omega
   ·have hla:l=xs.map (fun d=>.int (filP d)):=by rw[hl,List.take_of_length_le (by omega)]
    refine rx ts3_ok 999 false 400 [false] ?_ ?_
    ·simp only[conj,z0,z2,arR,z1,(by assumption:len=_),zd]<;>(repeat' with_reducible apply And.intro)<;>first|omega|assumption|rfl|trivial
    ·exact Run.ret ti_ok rfl rfl (.a (.dat hla))
  ·cases hs
 ·cases hs
end Go.Proofs.Ytlbllaocdilafaa
namespace Go.Eng
open Go
def wrongP (m:Ms):Prop:=(∃d∈m.heads,strS d≠80)∨(∃d∈m.shorts,intS d>281474976710655)∨(m.kind=16∧(m.head.size:Int)≠80)∨¬riseP filP m.filled∨¬riseP intS m.places∨eqD MS m.D (namedM m).D=false
open Classical in
noncomputable def wrongV (m:Ms):Bool:=decide (wrongP m)
open Classical in
theorem wrong_yes {m:Ms}(h:wrongP m):wrongV m=true:=by unfold wrongV;exact decide_eq_true h
open Classical in
theorem wrong_no {m:Ms}(h:¬wrongP m):wrongV m=false:=by unfold wrongV;exact decide_eq_false h
open Classical in
theorem rise_iff {g:D→Int}{l:List D}:riseV g l=true↔riseP g l:=by unfold riseV;exact decide_eq_true_iff
theorem prev_map {l:List D}:∀i,i<l.length+1→prevI intS (l.map fun d=>.int (filP d)) i=prevI filP l i
 |0,_=>rfl
 |i+1,h=>by
  have h':i<l.length:=by omega
  show intS ((l.map fun d=>.int (filP d)).getD i (.int 0))=filP (l.getD i (.int 0))
  rw[List.getD_eq_getElem?_getD,List.getD_eq_getElem?_getD,List.getElem?_map,geg h']
  rfl
theorem rise_map (l:List D):riseP intS (l.map fun d=>.int (filP d))↔riseP filP l:=by
 have key:∀i,i<l.length→(okAt intS (l.map fun d=>.int (filP d)) i↔okAt filP l i):=by
  intro i hi
  unfold okAt
  rw[prev_map i (by omega),List.getD_eq_getElem?_getD,List.getD_eq_getElem?_getD,List.getElem?_map,geg hi]
  exact Iff.rfl
 constructor
 ·intro h i hi;exact(key i hi).1 (h i (by rw[List.length_map];exact hi))
 ·intro h i hi;rw[List.length_map]at hi;exact(key i hi).2 (h i hi)
theorem Ms.ok.ite {p:Prop} [Decidable p] {a b:Ms}(ha:a.ok) (hb:b.ok):(if p then a else b).ok:=by
 by_cases h:p
 ·rw[if_pos h];exact ha
 ·rw[if_neg h];exact hb
theorem named_ok2 {m:Ms}(h:m.ok):(namedM m).ok:=by
 obtain⟨h1,h2,h3,h4,g1,g2,g3,g4,g5,g6,g7,g8⟩:=h
 unfold namedM
 have z:(0:Nat)≤4611686018427387904:=Nat.zero_le _
 have r16:(List.replicate 16 (0:Int)).length=16:=rfl
 have r32:(List.replicate 32 (0:Int)).length=32:=rfl
 repeat' apply Ms.ok.ite
 all_goals(constructor<;>first|assumption|exact z|exact r16|exact r32)
structure ME5 extends ME4 where
 wrong:D→Bool
noncomputable def me5:ME5 where
 toME4:=me4
 wrong d:=wrongV (msOf d)
end Go.Eng
namespace Go.Proofs.Ytlbllaocdilafaa
open Go Go.Eng Go.Proofs Go.RowKit
attribute[local irreducible] CallOk HOk Run TIok rbin rcmp run1 updF shfF blitF
end Go.Proofs.Ytlbllaocdilafaa
namespace Go.Eng
open Go
def gapB (g:D→Int) (l:List D) (i:Nat):ByteArray:=cntB (g (l.getD i (.int 0))-prevI g l i-1)
def u64of (n:Int):Int:=IntKind.u64.wrap n
def elNet (l:List D) (i:Nat):ByteArray:=layB (l.getD i (.int 0)).fst!.int! 4++netB (l.getD i (.int 0))
def elItem (l:List D) (i:Nat):ByteArray:=layB (l.getD i (.int 0)).fst!.int! 4++rowB (l.getD i (.int 0)).snd!.row! 32
def elHash (l:List D) (i:Nat):ByteArray:=rowB (l.getD i (.int 0)).row! 32
def elHead (l:List D) (i:Nat):ByteArray:=(l.getD i (.int 0)).str! ++ layB 0 1
def elShort (l:List D) (i:Nat):ByteArray:=layB (l.getD i (.int 0)).int! 6
def elFill (l:List D) (i:Nat):ByteArray:=gapB filP l i++rawB (l.getD i (.int 0)).snd!.str!
def elRaw (l:List D) (i:Nat):ByteArray:=rawB (l.getD i (.int 0)).str!
def listB (f:List D→Nat→ByteArray) (l:List D):ByteArray:=cntB l.length++catN (f l) l.length
def verM (m:Ms):ByteArray:=layB m.ver 4++layB m.srv 8++layB (u64of m.tim) 8++netB m.to.D++netB m.frm.D++layB m.non 8++rawB m.agent++layB m.hgt 4++flagB m.rel
def comM (m:Ms):ByteArray:=m.head++layB m.non 8++listB elShort m.shorts++listB elFill m.filled
def payM (m:Ms):ByteArray:=
 if m.kind=1 then verM m
 else if m.kind=5∨m.kind=6 then layB m.non 8
 else if m.kind=7 then listB elNet m.addrs
 else if m.kind=8∨m.kind=9∨m.kind=10 then listB elItem m.items
 else if m.kind=11 then layB m.ver 4++listB elHash m.hashes++rowB m.stop 32
 else if m.kind=12 then listB elHead m.heads
 else if m.kind=13∨m.kind=14 then m.raw
 else if m.kind=15 then flagB m.high++layB m.non 8
 else if m.kind=16 then comM m
 else if m.kind=17 then rowB m.hash 32++listB (gapB intS) m.places
 else if m.kind=18 then rowB m.hash 32++listB elRaw m.raws
 else .empty
theorem cat_fit {base:ByteArray}{f:Nat→ByteArray}{n p:Nat}(hp:p<n) (h:base.size+(catN f n).size≤140737488355328):(base++catN f p).size+(f p).size≤140737488355328:=by
 have:=catN_size_le f (show p+1≤n by omega)
 rw[catN_succ,bsa]at this
 rw[bsa]
 omega
theorem wrap_len {n:Nat}(h:n≤140737488355328):IntKind.u64.wrap (n:Int)=n:=by
 show(n:Int) % 18446744073709551616=n
 omega
structure NL extends WL where
 netB:D→ByteArray
 nOk:D→Prop
def nlR:NL where
 toWL:=wlR
 netB:=netB
 nOk d:=∃n:Nt,d=n.D∧(0≤n.s∧n.s<18446744073709551616)∧0≤n.p∧n.p<65536
theorem pk_w {T:Nat}{x y:ByteArray}(h:x=y):some ([⟨false,.lst [.adr 0 T,.bf x 2 5]⟩,⟨true,.dead⟩,⟨false,.tail⟩]:List Blk)=some [⟨false,.lst [.adr 0 T,.bf y 2 5]⟩,⟨true,.dead⟩,⟨false,.tail⟩]:=by rw[h]
end Go.Eng
namespace Go.Proofs.Ytlbllaocdilafaa
open Go Go.Eng Go.Proofs Go.RowKit
attribute[local irreducible] CallOk HOk Run TIok rbin rcmp run1 updF shfF blitF
def tsj0 (lf:NL):Tbl:=tbL [] [(96,nH (hWBytes lf.toWL.toLA)),(91,nH (hWU64 lf.toWL.toLA)),(93,nH (hWU32 lf.toWL.toLA)),(136,nH (hWU16 lf.toWL)),(92,nH (hWCnt lf.toWL)),(99,nH (hWStr lf.toWL)),(95,nH (hWHash lf.toWL)),(97,nH (hWBool lf.toWL)),(133,nH (hWBig lf.toWL))]
theorem tsj0_ok:TblOk Try.prog (tsj0 nlR):=tbL_ok (nofun) (mc ⟨wbytes_ok.nH,mc ⟨wu64_ok.nH,mc ⟨wu32_ok.nH,mc ⟨wu16_ok.nH,mc ⟨wcnt_ok.nH,mc ⟨wstr_ok.nH,mc ⟨whash_ok.nH,mc ⟨wbool_ok.nH,mc ⟨wbig_ok.nH,nofun⟩⟩⟩⟩⟩⟩⟩⟩⟩)
def hMNet (lf:NL):HSpec:=fun l bs=>match l,bs with
 | [.one (.ptr 0 (.lit 0)),.agg (.prt [.v sh d])],[⟨false,.lst [.adr 0 167,.bf s 1 5]⟩,⟨false,.tail⟩]=>if shEq sh NS then some (.tup [],[⟨false,.lst [.adr 0 167,.bf (lf.cat s (lf.netB d)) 2 5]⟩,⟨true,.dead⟩,⟨false,.tail⟩],[lf.nOk d,lf.fit2 s (lf.netB d)])else none
 |_,_=>none
theorem mnet_ok:HOk Try.prog 94 (hMNet nlR):=by
 refine .of_run (hc:=(tsj0 nlR).hc) Try.func94 rfl (by kernel_rfl) (by kernel_rfl) fun las lbs v lbs' ps hs hp w=>?_
 unfold hMNet at hs
 split at hs
 ·rename_i sh d s
  split at hs
  ·rename_i hsh
   obtain rfl:=shEq_eq hsh
   clear hsh
   cases hs
   obtain⟨⟨nt,ns,ni,np⟩,rfl,⟨g1,g2⟩,g3,g4⟩:∃n:Nt,d=n.D∧(0≤n.s∧n.s<18446744073709551616)∧0≤n.p∧n.p<65536:=hp (nlR.nOk d) (by simp)
   have hf:s.size+(netB (Nt.D ⟨nt,ns,ni,np⟩)).size≤140737488355328:=hp (nlR.fit2 s (nlR.netB _)) (by simp)
   rw[netB_size]at hf
   clear hp
   have e0:netB (Nt.D ⟨nt,ns,ni,np⟩)=layB ns 8++rowB ni 16++bigB np:=rfl
   rw[show nlR.netB (Nt.D ⟨nt,ns,ni,np⟩)=layB ns 8++rowB ni 16++bigB np from rfl]
   refine rx tsj0_ok 999 false 400 [] ?_ ?_
   ·have f1:(s++layB ns 8++rowB ni 16).size+(bigB np).size≤140737488355328:=by simp only[bsa,layB_size,rowB_size,netB_size,bigB_size,flagB_size];omega
    have f2:(s++layB ns 8).size+(rowB ni 16).size≤140737488355328:=by simp only[bsa,layB_size,rowB_size,netB_size,bigB_size,flagB_size];omega
    have f3:s.size+(layB ns 8).size≤140737488355328:=by simp only[bsa,layB_size,rowB_size,netB_size,bigB_size,flagB_size];omega
    exact⟨⟨g3,g4⟩,f1,f2,⟨g1,g2,by decide,by decide⟩,f3,trivial⟩
   exact Run.fin ti_ok rfl rfl (HEnd.pack [0,1,11] rfl rfl (pk_w (by show s++layB ns 8++rowB ni 16++bigB np=s++(layB ns 8++rowB ni 16++bigB np);simp only[baa])) rfl)
  ·cases hs
 ·cases hs
end Go.Proofs.Ytlbllaocdilafaa
