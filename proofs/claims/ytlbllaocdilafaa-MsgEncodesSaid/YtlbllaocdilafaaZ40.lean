import Derived.Test.YtlbllaocdilafaaZ39
set_option linter.unusedSimpArgs false
set_option linter.unusedVariables false
set_option maxRecDepth 100000
set_option maxHeartbeats 16000000
namespace Go.Eng
open Go
def aEM (m:Ms):Int:=
 if m.kind=1 then(payM m).size-1
 else if m.kind=7 then lastA (0+cntL m.addrs.length) (elNet m.addrs) (fun _=>28) 0 m.addrs.length
 else if m.kind=8∨m.kind=9∨m.kind=10 then lastA (0+cntL m.items.length) (elItem m.items) (fun _=>4) 0 m.items.length
 else if m.kind=11 then(payM m).size-32
 else if m.kind=12 then lastA (0+cntL m.heads.length) (elHead m.heads) (fun _=>80) 0 m.heads.length
 else if m.kind=15 then 1
 else if m.kind=16 then lastA (88+cntL m.shorts.length+(catN (elShort m.shorts) m.shorts.length).size+cntL m.filled.length) (elFill m.filled) (fun i=>(gapB filP m.filled i).size+cntL (m.filled.getD i (.int 0)).snd!.str!.size) (88+cntL m.shorts.length+(catN (elShort m.shorts) m.shorts.length).size) m.filled.length
 else if m.kind=17 then lastA (32+cntL m.places.length) (gapB intS m.places) (fun _=>0) 32 m.places.length
 else if m.kind=18 then lastA (32+cntL m.raws.length) (elRaw m.raws) (fun i=>cntL (m.raws.getD i (.int 0)).str!.size) 32 m.raws.length
 else 0
def nField (k:Nat) (d:D):D:=match k with
 |0=>d.fst!
 |1=>d.snd!.fst!
 |2=>d.snd!.snd!.fst!
 |3=>d.snd!.snd!.snd!.fst!
 |4=>d.snd!.snd!.snd!.snd!.fst!
 |5=>(match d.snd!.snd!.snd!.snd!.snd!.fst! with|.pair _ x=>.pair (.int 0) x|x=>x)
 |6=>(match d.snd!.snd!.snd!.snd!.snd!.snd!.fst! with|.pair _ x=>.pair (.int 0) x|x=>x)
 |7=>d.snd!.snd!.snd!.snd!.snd!.snd!.snd!.fst!
 |8=>d.snd!.snd!.snd!.snd!.snd!.snd!.snd!.snd!.fst!
 |9=>d.snd!.snd!.snd!.snd!.snd!.snd!.snd!.snd!.snd!.fst!
 |10=>d.snd!.snd!.snd!.snd!.snd!.snd!.snd!.snd!.snd!.snd!.fst!
 |11=>d.snd!.snd!.snd!.snd!.snd!.snd!.snd!.snd!.snd!.snd!.snd!.fst!
 |12=>d.snd!.snd!.snd!.snd!.snd!.snd!.snd!.snd!.snd!.snd!.snd!.snd!.fst!
 |13=>d.snd!.snd!.snd!.snd!.snd!.snd!.snd!.snd!.snd!.snd!.snd!.snd!.snd!.fst!
 |14=>d.snd!.snd!.snd!.snd!.snd!.snd!.snd!.snd!.snd!.snd!.snd!.snd!.snd!.snd!.fst!
 |15=>d.snd!.snd!.snd!.snd!.snd!.snd!.snd!.snd!.snd!.snd!.snd!.snd!.snd!.snd!.snd!.fst!
 |16=>d.snd!.snd!.snd!.snd!.snd!.snd!.snd!.snd!.snd!.snd!.snd!.snd!.snd!.snd!.snd!.snd!.fst!
 |17=>d.snd!.snd!.snd!.snd!.snd!.snd!.snd!.snd!.snd!.snd!.snd!.snd!.snd!.snd!.snd!.snd!.snd!.fst!
 |18=>d.snd!.snd!.snd!.snd!.snd!.snd!.snd!.snd!.snd!.snd!.snd!.snd!.snd!.snd!.snd!.snd!.snd!.snd!.fst!
 |19=>d.snd!.snd!.snd!.snd!.snd!.snd!.snd!.snd!.snd!.snd!.snd!.snd!.snd!.snd!.snd!.snd!.snd!.snd!.snd!.fst!
 |20=>d.snd!.snd!.snd!.snd!.snd!.snd!.snd!.snd!.snd!.snd!.snd!.snd!.snd!.snd!.snd!.snd!.snd!.snd!.snd!.snd!.fst!
 |21=>d.snd!.snd!.snd!.snd!.snd!.snd!.snd!.snd!.snd!.snd!.snd!.snd!.snd!.snd!.snd!.snd!.snd!.snd!.snd!.snd!.snd!.fst!
 |22=>d.snd!.snd!.snd!.snd!.snd!.snd!.snd!.snd!.snd!.snd!.snd!.snd!.snd!.snd!.snd!.snd!.snd!.snd!.snd!.snd!.snd!.snd!
 |_=>.int 0
structure TLd where
 r:RT
 gI:Nat→D→Int
 gB:Nat→D→Bool
 gX:Nat→D→ByteArray
 gL:Nat→D→List D
 gD:Nat→D→D
 aE:D→Int
 sz:ByteArray→Int
 tld:Int→D→ByteArray→Int→Int→Prop
noncomputable def tlR:TLd where
 r:=rtR
 gI k d:=(nField k d).int!
 gB k d:=(nField k d).bool!
 gX k d:=(nField k d).str!
 gL k d:=(nField k d).sl!
 gD:=nField
 aE d:=aEM (msOf d)
 sz s:=s.size
 tld:=tld
theorem pk3 {A A' P P' e:Int} {ps ps':List Pt}{s:ByteArray}(h1:A=A') (h2:ps=ps') (h3:P=P'):some ([⟨false,.lst [.ptr 2 (.lit 0),.int .i64 A]⟩,⟨false,.prt ps⟩,⟨false,.lst [.str s,.int .i64 P,.int .i64 e]⟩]:List Blk)=some [⟨false,.lst [.ptr 2 (.lit 0),.int .i64 A']⟩,⟨false,.prt ps'⟩,⟨false,.lst [.str s,.int .i64 P',.int .i64 e]⟩]:=by rw[h1,h2,h3]
theorem aEof (m:Ms):tlR.aE m.D=aEM m:=congrArg aEM (msOf_D m)
end Go.Eng
namespace Go.Proofs.Ytlbllaocdilafaa
open Go Go.Eng Go.Proofs Go.RowKit
attribute[local irreducible] CallOk HOk Run TIok rbin rcmp run1 updF shfF blitF
noncomputable def hTk1 (lf:TLd) (d:D):HSpec:=fun l bs=>match l,bs with
 | [.one (.ptr 0 (.lit 0)),.one (.ptr 1 (.lit 0))],[⟨false,.lst [.ptr 2 (.lit 0),.int .i64 a]⟩,⟨false,.prt [.c (.int .i64 v0),.c (.int .u32 v1),.c (.int .u64 v2),.c (.int .u64 v3),.c (.int .i64 v4),.v s5 v5,.v s6 v6,.c (.str v7),.c (.int .u32 v8),.c (.bool v9),.c (.bool v10),.c .nsl,.c .nsl,.c .nsl,.v s14 v14,.v s15 v15,.c .nsl,.c (.str v17),.c (.str v18),.c .nsl,.c .nsl,.c .nsl,.c .nsl]⟩,⟨false,.lst [.str s,.int .i64 p,.int .i64 e]⟩]=>if shEq s5 NS&&(shEq s6 NS&&(shEq s14 (.arr .u8 32)&&shEq s15 (.arr .u8 32)))then some (.tup [],[⟨false,.lst [.ptr 2 (.lit 0),.int .i64 (lf.aE d)]⟩,⟨false,.prt [.c (.int .i64 v0),.c (.int .u32 (lf.gI 1 d)),.c (.int .u64 (lf.gI 2 d)),.c (.int .u64 (lf.gI 3 d)),.c (.int .i64 (lf.gI 4 d)),.v (.two (.int .u32) (.two (.int .u64) (.two (.arr .u8 16) (.int .u16)))) (lf.gD 5 d),.v (.two (.int .u32) (.two (.int .u64) (.two (.arr .u8 16) (.int .u16)))) (lf.gD 6 d),.c (.str (lf.gX 7 d)),.c (.int .u32 (lf.gI 8 d)),.c (.bool (lf.gB 9 d)),.c (.bool v10),.c .nsl,.c .nsl,.c .nsl,.v s14 v14,.v s15 v15,.c .nsl,.c (.str v17),.c (.str v18),.c .nsl,.c .nsl,.c .nsl,.c .nsl]⟩,⟨false,.lst [.str s,.int .i64 (lf.sz s),.int .i64 e]⟩],[lf.tld 1 d s p e,v0=1])else none
 |_,_=>none
noncomputable def hTk5 (lf:TLd) (d:D):HSpec:=fun l bs=>match l,bs with
 | [.one (.ptr 0 (.lit 0)),.one (.ptr 1 (.lit 0))],[⟨false,.lst [.ptr 2 (.lit 0),.int .i64 a]⟩,⟨false,.prt [.c (.int .i64 v0),.c (.int .u32 v1),.c (.int .u64 v2),.c (.int .u64 v3),.c (.int .i64 v4),.v s5 v5,.v s6 v6,.c (.str v7),.c (.int .u32 v8),.c (.bool v9),.c (.bool v10),.c .nsl,.c .nsl,.c .nsl,.v s14 v14,.v s15 v15,.c .nsl,.c (.str v17),.c (.str v18),.c .nsl,.c .nsl,.c .nsl,.c .nsl]⟩,⟨false,.lst [.str s,.int .i64 p,.int .i64 e]⟩]=>if shEq s5 NS&&(shEq s6 NS&&(shEq s14 (.arr .u8 32)&&shEq s15 (.arr .u8 32)))then some (.tup [],[⟨false,.lst [.ptr 2 (.lit 0),.int .i64 (lf.aE d)]⟩,⟨false,.prt [.c (.int .i64 v0),.c (.int .u32 v1),.c (.int .u64 v2),.c (.int .u64 (lf.gI 3 d)),.c (.int .i64 v4),.v s5 v5,.v s6 v6,.c (.str v7),.c (.int .u32 v8),.c (.bool v9),.c (.bool v10),.c .nsl,.c .nsl,.c .nsl,.v s14 v14,.v s15 v15,.c .nsl,.c (.str v17),.c (.str v18),.c .nsl,.c .nsl,.c .nsl,.c .nsl]⟩,⟨false,.lst [.str s,.int .i64 (lf.sz s),.int .i64 e]⟩],[lf.tld 5 d s p e,v0=5])else none
 |_,_=>none
noncomputable def hTk6 (lf:TLd) (d:D):HSpec:=fun l bs=>match l,bs with
 | [.one (.ptr 0 (.lit 0)),.one (.ptr 1 (.lit 0))],[⟨false,.lst [.ptr 2 (.lit 0),.int .i64 a]⟩,⟨false,.prt [.c (.int .i64 v0),.c (.int .u32 v1),.c (.int .u64 v2),.c (.int .u64 v3),.c (.int .i64 v4),.v s5 v5,.v s6 v6,.c (.str v7),.c (.int .u32 v8),.c (.bool v9),.c (.bool v10),.c .nsl,.c .nsl,.c .nsl,.v s14 v14,.v s15 v15,.c .nsl,.c (.str v17),.c (.str v18),.c .nsl,.c .nsl,.c .nsl,.c .nsl]⟩,⟨false,.lst [.str s,.int .i64 p,.int .i64 e]⟩]=>if shEq s5 NS&&(shEq s6 NS&&(shEq s14 (.arr .u8 32)&&shEq s15 (.arr .u8 32)))then some (.tup [],[⟨false,.lst [.ptr 2 (.lit 0),.int .i64 (lf.aE d)]⟩,⟨false,.prt [.c (.int .i64 v0),.c (.int .u32 v1),.c (.int .u64 v2),.c (.int .u64 (lf.gI 3 d)),.c (.int .i64 v4),.v s5 v5,.v s6 v6,.c (.str v7),.c (.int .u32 v8),.c (.bool v9),.c (.bool v10),.c .nsl,.c .nsl,.c .nsl,.v s14 v14,.v s15 v15,.c .nsl,.c (.str v17),.c (.str v18),.c .nsl,.c .nsl,.c .nsl,.c .nsl]⟩,⟨false,.lst [.str s,.int .i64 (lf.sz s),.int .i64 e]⟩],[lf.tld 6 d s p e,v0=6])else none
 |_,_=>none
noncomputable def hTk7 (lf:TLd) (d:D):HSpec:=fun l bs=>match l,bs with
 | [.one (.ptr 0 (.lit 0)),.one (.ptr 1 (.lit 0))],[⟨false,.lst [.ptr 2 (.lit 0),.int .i64 a]⟩,⟨false,.prt [.c (.int .i64 v0),.c (.int .u32 v1),.c (.int .u64 v2),.c (.int .u64 v3),.c (.int .i64 v4),.v s5 v5,.v s6 v6,.c (.str v7),.c (.int .u32 v8),.c (.bool v9),.c (.bool v10),.c .nsl,.c .nsl,.c .nsl,.v s14 v14,.v s15 v15,.c .nsl,.c (.str v17),.c (.str v18),.c .nsl,.c .nsl,.c .nsl,.c .nsl]⟩,⟨false,.lst [.str s,.int .i64 p,.int .i64 e]⟩]=>if shEq s5 NS&&(shEq s6 NS&&(shEq s14 (.arr .u8 32)&&shEq s15 (.arr .u8 32)))then some (.tup [],[⟨false,.lst [.ptr 2 (.lit 0),.int .i64 (lf.aE d)]⟩,⟨false,.prt [.c (.int .i64 v0),.c (.int .u32 v1),.c (.int .u64 v2),.c (.int .u64 v3),.c (.int .i64 v4),.v s5 v5,.v s6 v6,.c (.str v7),.c (.int .u32 v8),.c (.bool v9),.c (.bool v10),.c (.dat (.two (.int .u32) (.two (.int .u64) (.two (.arr .u8 16) (.int .u16)))) (lf.gL 11 d) none),.c .nsl,.c .nsl,.v s14 v14,.v s15 v15,.c .nsl,.c (.str v17),.c (.str v18),.c .nsl,.c .nsl,.c .nsl,.c .nsl]⟩,⟨false,.lst [.str s,.int .i64 (lf.sz s),.int .i64 e]⟩],[lf.tld 7 d s p e,v0=7])else none
 |_,_=>none
noncomputable def hTk8 (lf:TLd) (d:D):HSpec:=fun l bs=>match l,bs with
 | [.one (.ptr 0 (.lit 0)),.one (.ptr 1 (.lit 0))],[⟨false,.lst [.ptr 2 (.lit 0),.int .i64 a]⟩,⟨false,.prt [.c (.int .i64 v0),.c (.int .u32 v1),.c (.int .u64 v2),.c (.int .u64 v3),.c (.int .i64 v4),.v s5 v5,.v s6 v6,.c (.str v7),.c (.int .u32 v8),.c (.bool v9),.c (.bool v10),.c .nsl,.c .nsl,.c .nsl,.v s14 v14,.v s15 v15,.c .nsl,.c (.str v17),.c (.str v18),.c .nsl,.c .nsl,.c .nsl,.c .nsl]⟩,⟨false,.lst [.str s,.int .i64 p,.int .i64 e]⟩]=>if shEq s5 NS&&(shEq s6 NS&&(shEq s14 (.arr .u8 32)&&shEq s15 (.arr .u8 32)))then some (.tup [],[⟨false,.lst [.ptr 2 (.lit 0),.int .i64 (lf.aE d)]⟩,⟨false,.prt [.c (.int .i64 v0),.c (.int .u32 v1),.c (.int .u64 v2),.c (.int .u64 v3),.c (.int .i64 v4),.v s5 v5,.v s6 v6,.c (.str v7),.c (.int .u32 v8),.c (.bool v9),.c (.bool v10),.c .nsl,.c (.dat (.two (.int .u32) (.arr .u8 32)) (lf.gL 12 d) none),.c .nsl,.v s14 v14,.v s15 v15,.c .nsl,.c (.str v17),.c (.str v18),.c .nsl,.c .nsl,.c .nsl,.c .nsl]⟩,⟨false,.lst [.str s,.int .i64 (lf.sz s),.int .i64 e]⟩],[lf.tld 8 d s p e,v0=8])else none
 |_,_=>none
noncomputable def hTk9 (lf:TLd) (d:D):HSpec:=fun l bs=>match l,bs with
 | [.one (.ptr 0 (.lit 0)),.one (.ptr 1 (.lit 0))],[⟨false,.lst [.ptr 2 (.lit 0),.int .i64 a]⟩,⟨false,.prt [.c (.int .i64 v0),.c (.int .u32 v1),.c (.int .u64 v2),.c (.int .u64 v3),.c (.int .i64 v4),.v s5 v5,.v s6 v6,.c (.str v7),.c (.int .u32 v8),.c (.bool v9),.c (.bool v10),.c .nsl,.c .nsl,.c .nsl,.v s14 v14,.v s15 v15,.c .nsl,.c (.str v17),.c (.str v18),.c .nsl,.c .nsl,.c .nsl,.c .nsl]⟩,⟨false,.lst [.str s,.int .i64 p,.int .i64 e]⟩]=>if shEq s5 NS&&(shEq s6 NS&&(shEq s14 (.arr .u8 32)&&shEq s15 (.arr .u8 32)))then some (.tup [],[⟨false,.lst [.ptr 2 (.lit 0),.int .i64 (lf.aE d)]⟩,⟨false,.prt [.c (.int .i64 v0),.c (.int .u32 v1),.c (.int .u64 v2),.c (.int .u64 v3),.c (.int .i64 v4),.v s5 v5,.v s6 v6,.c (.str v7),.c (.int .u32 v8),.c (.bool v9),.c (.bool v10),.c .nsl,.c (.dat (.two (.int .u32) (.arr .u8 32)) (lf.gL 12 d) none),.c .nsl,.v s14 v14,.v s15 v15,.c .nsl,.c (.str v17),.c (.str v18),.c .nsl,.c .nsl,.c .nsl,.c .nsl]⟩,⟨false,.lst [.str s,.int .i64 (lf.sz s),.int .i64 e]⟩],[lf.tld 9 d s p e,v0=9])else none
 |_,_=>none
noncomputable def hTk10 (lf:TLd) (d:D):HSpec:=fun l bs=>match l,bs with
 | [.one (.ptr 0 (.lit 0)),.one (.ptr 1 (.lit 0))],[⟨false,.lst [.ptr 2 (.lit 0),.int .i64 a]⟩,⟨false,.prt [.c (.int .i64 v0),.c (.int .u32 v1),.c (.int .u64 v2),.c (.int .u64 v3),.c (.int .i64 v4),.v s5 v5,.v s6 v6,.c (.str v7),.c (.int .u32 v8),.c (.bool v9),.c (.bool v10),.c .nsl,.c .nsl,.c .nsl,.v s14 v14,.v s15 v15,.c .nsl,.c (.str v17),.c (.str v18),.c .nsl,.c .nsl,.c .nsl,.c .nsl]⟩,⟨false,.lst [.str s,.int .i64 p,.int .i64 e]⟩]=>if shEq s5 NS&&(shEq s6 NS&&(shEq s14 (.arr .u8 32)&&shEq s15 (.arr .u8 32)))then some (.tup [],[⟨false,.lst [.ptr 2 (.lit 0),.int .i64 (lf.aE d)]⟩,⟨false,.prt [.c (.int .i64 v0),.c (.int .u32 v1),.c (.int .u64 v2),.c (.int .u64 v3),.c (.int .i64 v4),.v s5 v5,.v s6 v6,.c (.str v7),.c (.int .u32 v8),.c (.bool v9),.c (.bool v10),.c .nsl,.c (.dat (.two (.int .u32) (.arr .u8 32)) (lf.gL 12 d) none),.c .nsl,.v s14 v14,.v s15 v15,.c .nsl,.c (.str v17),.c (.str v18),.c .nsl,.c .nsl,.c .nsl,.c .nsl]⟩,⟨false,.lst [.str s,.int .i64 (lf.sz s),.int .i64 e]⟩],[lf.tld 10 d s p e,v0=10])else none
 |_,_=>none
noncomputable def hTk11 (lf:TLd) (d:D):HSpec:=fun l bs=>match l,bs with
 | [.one (.ptr 0 (.lit 0)),.one (.ptr 1 (.lit 0))],[⟨false,.lst [.ptr 2 (.lit 0),.int .i64 a]⟩,⟨false,.prt [.c (.int .i64 v0),.c (.int .u32 v1),.c (.int .u64 v2),.c (.int .u64 v3),.c (.int .i64 v4),.v s5 v5,.v s6 v6,.c (.str v7),.c (.int .u32 v8),.c (.bool v9),.c (.bool v10),.c .nsl,.c .nsl,.c .nsl,.v s14 v14,.v s15 v15,.c .nsl,.c (.str v17),.c (.str v18),.c .nsl,.c .nsl,.c .nsl,.c .nsl]⟩,⟨false,.lst [.str s,.int .i64 p,.int .i64 e]⟩]=>if shEq s5 NS&&(shEq s6 NS&&(shEq s14 (.arr .u8 32)&&shEq s15 (.arr .u8 32)))then some (.tup [],[⟨false,.lst [.ptr 2 (.lit 0),.int .i64 (lf.aE d)]⟩,⟨false,.prt [.c (.int .i64 v0),.c (.int .u32 (lf.gI 1 d)),.c (.int .u64 v2),.c (.int .u64 v3),.c (.int .i64 v4),.v s5 v5,.v s6 v6,.c (.str v7),.c (.int .u32 v8),.c (.bool v9),.c (.bool v10),.c .nsl,.c .nsl,.c (.dat (.arr .u8 32) (lf.gL 13 d) none),.v (.arr .u8 32) (lf.gD 14 d),.v s15 v15,.c .nsl,.c (.str v17),.c (.str v18),.c .nsl,.c .nsl,.c .nsl,.c .nsl]⟩,⟨false,.lst [.str s,.int .i64 (lf.sz s),.int .i64 e]⟩],[lf.tld 11 d s p e,v0=11])else none
 |_,_=>none
noncomputable def hTk12 (lf:TLd) (d:D):HSpec:=fun l bs=>match l,bs with
 | [.one (.ptr 0 (.lit 0)),.one (.ptr 1 (.lit 0))],[⟨false,.lst [.ptr 2 (.lit 0),.int .i64 a]⟩,⟨false,.prt [.c (.int .i64 v0),.c (.int .u32 v1),.c (.int .u64 v2),.c (.int .u64 v3),.c (.int .i64 v4),.v s5 v5,.v s6 v6,.c (.str v7),.c (.int .u32 v8),.c (.bool v9),.c (.bool v10),.c .nsl,.c .nsl,.c .nsl,.v s14 v14,.v s15 v15,.c .nsl,.c (.str v17),.c (.str v18),.c .nsl,.c .nsl,.c .nsl,.c .nsl]⟩,⟨false,.lst [.str s,.int .i64 p,.int .i64 e]⟩]=>if shEq s5 NS&&(shEq s6 NS&&(shEq s14 (.arr .u8 32)&&shEq s15 (.arr .u8 32)))then some (.tup [],[⟨false,.lst [.ptr 2 (.lit 0),.int .i64 (lf.aE d)]⟩,⟨false,.prt [.c (.int .i64 v0),.c (.int .u32 v1),.c (.int .u64 v2),.c (.int .u64 v3),.c (.int .i64 v4),.v s5 v5,.v s6 v6,.c (.str v7),.c (.int .u32 v8),.c (.bool v9),.c (.bool v10),.c .nsl,.c .nsl,.c .nsl,.v s14 v14,.v s15 v15,.c (.dat (.str) (lf.gL 16 d) none),.c (.str v17),.c (.str v18),.c .nsl,.c .nsl,.c .nsl,.c .nsl]⟩,⟨false,.lst [.str s,.int .i64 (lf.sz s),.int .i64 e]⟩],[lf.tld 12 d s p e,v0=12])else none
 |_,_=>none
noncomputable def hTk13 (lf:TLd) (d:D):HSpec:=fun l bs=>match l,bs with
 | [.one (.ptr 0 (.lit 0)),.one (.ptr 1 (.lit 0))],[⟨false,.lst [.ptr 2 (.lit 0),.int .i64 a]⟩,⟨false,.prt [.c (.int .i64 v0),.c (.int .u32 v1),.c (.int .u64 v2),.c (.int .u64 v3),.c (.int .i64 v4),.v s5 v5,.v s6 v6,.c (.str v7),.c (.int .u32 v8),.c (.bool v9),.c (.bool v10),.c .nsl,.c .nsl,.c .nsl,.v s14 v14,.v s15 v15,.c .nsl,.c (.str v17),.c (.str v18),.c .nsl,.c .nsl,.c .nsl,.c .nsl]⟩,⟨false,.lst [.str s,.int .i64 p,.int .i64 e]⟩]=>if shEq s5 NS&&(shEq s6 NS&&(shEq s14 (.arr .u8 32)&&shEq s15 (.arr .u8 32)))then some (.tup [],[⟨false,.lst [.ptr 2 (.lit 0),.int .i64 (lf.aE d)]⟩,⟨false,.prt [.c (.int .i64 v0),.c (.int .u32 v1),.c (.int .u64 v2),.c (.int .u64 v3),.c (.int .i64 v4),.v s5 v5,.v s6 v6,.c (.str v7),.c (.int .u32 v8),.c (.bool v9),.c (.bool v10),.c .nsl,.c .nsl,.c .nsl,.v s14 v14,.v s15 v15,.c .nsl,.c (.str v17),.c (.str (lf.gX 18 d)),.c .nsl,.c .nsl,.c .nsl,.c .nsl]⟩,⟨false,.lst [.str s,.int .i64 (lf.sz s),.int .i64 e]⟩],[lf.tld 13 d s p e,v0=13])else none
 |_,_=>none
noncomputable def hTk14 (lf:TLd) (d:D):HSpec:=fun l bs=>match l,bs with
 | [.one (.ptr 0 (.lit 0)),.one (.ptr 1 (.lit 0))],[⟨false,.lst [.ptr 2 (.lit 0),.int .i64 a]⟩,⟨false,.prt [.c (.int .i64 v0),.c (.int .u32 v1),.c (.int .u64 v2),.c (.int .u64 v3),.c (.int .i64 v4),.v s5 v5,.v s6 v6,.c (.str v7),.c (.int .u32 v8),.c (.bool v9),.c (.bool v10),.c .nsl,.c .nsl,.c .nsl,.v s14 v14,.v s15 v15,.c .nsl,.c (.str v17),.c (.str v18),.c .nsl,.c .nsl,.c .nsl,.c .nsl]⟩,⟨false,.lst [.str s,.int .i64 p,.int .i64 e]⟩]=>if shEq s5 NS&&(shEq s6 NS&&(shEq s14 (.arr .u8 32)&&shEq s15 (.arr .u8 32)))then some (.tup [],[⟨false,.lst [.ptr 2 (.lit 0),.int .i64 (lf.aE d)]⟩,⟨false,.prt [.c (.int .i64 v0),.c (.int .u32 v1),.c (.int .u64 v2),.c (.int .u64 v3),.c (.int .i64 v4),.v s5 v5,.v s6 v6,.c (.str v7),.c (.int .u32 v8),.c (.bool v9),.c (.bool v10),.c .nsl,.c .nsl,.c .nsl,.v s14 v14,.v s15 v15,.c .nsl,.c (.str v17),.c (.str (lf.gX 18 d)),.c .nsl,.c .nsl,.c .nsl,.c .nsl]⟩,⟨false,.lst [.str s,.int .i64 (lf.sz s),.int .i64 e]⟩],[lf.tld 14 d s p e,v0=14])else none
 |_,_=>none
noncomputable def hTk15 (lf:TLd) (d:D):HSpec:=fun l bs=>match l,bs with
 | [.one (.ptr 0 (.lit 0)),.one (.ptr 1 (.lit 0))],[⟨false,.lst [.ptr 2 (.lit 0),.int .i64 a]⟩,⟨false,.prt [.c (.int .i64 v0),.c (.int .u32 v1),.c (.int .u64 v2),.c (.int .u64 v3),.c (.int .i64 v4),.v s5 v5,.v s6 v6,.c (.str v7),.c (.int .u32 v8),.c (.bool v9),.c (.bool v10),.c .nsl,.c .nsl,.c .nsl,.v s14 v14,.v s15 v15,.c .nsl,.c (.str v17),.c (.str v18),.c .nsl,.c .nsl,.c .nsl,.c .nsl]⟩,⟨false,.lst [.str s,.int .i64 p,.int .i64 e]⟩]=>if shEq s5 NS&&(shEq s6 NS&&(shEq s14 (.arr .u8 32)&&shEq s15 (.arr .u8 32)))then some (.tup [],[⟨false,.lst [.ptr 2 (.lit 0),.int .i64 (lf.aE d)]⟩,⟨false,.prt [.c (.int .i64 v0),.c (.int .u32 v1),.c (.int .u64 v2),.c (.int .u64 (lf.gI 3 d)),.c (.int .i64 v4),.v s5 v5,.v s6 v6,.c (.str v7),.c (.int .u32 v8),.c (.bool v9),.c (.bool (lf.gB 10 d)),.c .nsl,.c .nsl,.c .nsl,.v s14 v14,.v s15 v15,.c .nsl,.c (.str v17),.c (.str v18),.c .nsl,.c .nsl,.c .nsl,.c .nsl]⟩,⟨false,.lst [.str s,.int .i64 (lf.sz s),.int .i64 e]⟩],[lf.tld 15 d s p e,v0=15])else none
 |_,_=>none
noncomputable def hTk16 (lf:TLd) (d:D):HSpec:=fun l bs=>match l,bs with
 | [.one (.ptr 0 (.lit 0)),.one (.ptr 1 (.lit 0))],[⟨false,.lst [.ptr 2 (.lit 0),.int .i64 a]⟩,⟨false,.prt [.c (.int .i64 v0),.c (.int .u32 v1),.c (.int .u64 v2),.c (.int .u64 v3),.c (.int .i64 v4),.v s5 v5,.v s6 v6,.c (.str v7),.c (.int .u32 v8),.c (.bool v9),.c (.bool v10),.c .nsl,.c .nsl,.c .nsl,.v s14 v14,.v s15 v15,.c .nsl,.c (.str v17),.c (.str v18),.c .nsl,.c .nsl,.c .nsl,.c .nsl]⟩,⟨false,.lst [.str s,.int .i64 p,.int .i64 e]⟩]=>if shEq s5 NS&&(shEq s6 NS&&(shEq s14 (.arr .u8 32)&&shEq s15 (.arr .u8 32)))then some (.tup [],[⟨false,.lst [.ptr 2 (.lit 0),.int .i64 (lf.aE d)]⟩,⟨false,.prt [.c (.int .i64 v0),.c (.int .u32 v1),.c (.int .u64 v2),.c (.int .u64 (lf.gI 3 d)),.c (.int .i64 v4),.v s5 v5,.v s6 v6,.c (.str v7),.c (.int .u32 v8),.c (.bool v9),.c (.bool v10),.c .nsl,.c .nsl,.c .nsl,.v s14 v14,.v s15 v15,.c .nsl,.c (.str (lf.gX 17 d)),.c (.str v18),.c (.dat (.int .u64) (lf.gL 19 d) none),.c (.dat (.two (.int .i64) .str) (lf.gL 20 d) none),.c .nsl,.c .nsl]⟩,⟨false,.lst [.str s,.int .i64 (lf.sz s),.int .i64 e]⟩],[lf.tld 16 d s p e,v0=16])else none
 |_,_=>none
noncomputable def hTk17 (lf:TLd) (d:D):HSpec:=fun l bs=>match l,bs with
 | [.one (.ptr 0 (.lit 0)),.one (.ptr 1 (.lit 0))],[⟨false,.lst [.ptr 2 (.lit 0),.int .i64 a]⟩,⟨false,.prt [.c (.int .i64 v0),.c (.int .u32 v1),.c (.int .u64 v2),.c (.int .u64 v3),.c (.int .i64 v4),.v s5 v5,.v s6 v6,.c (.str v7),.c (.int .u32 v8),.c (.bool v9),.c (.bool v10),.c .nsl,.c .nsl,.c .nsl,.v s14 v14,.v s15 v15,.c .nsl,.c (.str v17),.c (.str v18),.c .nsl,.c .nsl,.c .nsl,.c .nsl]⟩,⟨false,.lst [.str s,.int .i64 p,.int .i64 e]⟩]=>if shEq s5 NS&&(shEq s6 NS&&(shEq s14 (.arr .u8 32)&&shEq s15 (.arr .u8 32)))then some (.tup [],[⟨false,.lst [.ptr 2 (.lit 0),.int .i64 (lf.aE d)]⟩,⟨false,.prt [.c (.int .i64 v0),.c (.int .u32 v1),.c (.int .u64 v2),.c (.int .u64 v3),.c (.int .i64 v4),.v s5 v5,.v s6 v6,.c (.str v7),.c (.int .u32 v8),.c (.bool v9),.c (.bool v10),.c .nsl,.c .nsl,.c .nsl,.v s14 v14,.v (.arr .u8 32) (lf.gD 15 d),.c .nsl,.c (.str v17),.c (.str v18),.c .nsl,.c .nsl,.c (.dat (.int .i64) (lf.gL 21 d) none),.c .nsl]⟩,⟨false,.lst [.str s,.int .i64 (lf.sz s),.int .i64 e]⟩],[lf.tld 17 d s p e,v0=17])else none
 |_,_=>none
noncomputable def hTk18 (lf:TLd) (d:D):HSpec:=fun l bs=>match l,bs with
 | [.one (.ptr 0 (.lit 0)),.one (.ptr 1 (.lit 0))],[⟨false,.lst [.ptr 2 (.lit 0),.int .i64 a]⟩,⟨false,.prt [.c (.int .i64 v0),.c (.int .u32 v1),.c (.int .u64 v2),.c (.int .u64 v3),.c (.int .i64 v4),.v s5 v5,.v s6 v6,.c (.str v7),.c (.int .u32 v8),.c (.bool v9),.c (.bool v10),.c .nsl,.c .nsl,.c .nsl,.v s14 v14,.v s15 v15,.c .nsl,.c (.str v17),.c (.str v18),.c .nsl,.c .nsl,.c .nsl,.c .nsl]⟩,⟨false,.lst [.str s,.int .i64 p,.int .i64 e]⟩]=>if shEq s5 NS&&(shEq s6 NS&&(shEq s14 (.arr .u8 32)&&shEq s15 (.arr .u8 32)))then some (.tup [],[⟨false,.lst [.ptr 2 (.lit 0),.int .i64 (lf.aE d)]⟩,⟨false,.prt [.c (.int .i64 v0),.c (.int .u32 v1),.c (.int .u64 v2),.c (.int .u64 v3),.c (.int .i64 v4),.v s5 v5,.v s6 v6,.c (.str v7),.c (.int .u32 v8),.c (.bool v9),.c (.bool v10),.c .nsl,.c .nsl,.c .nsl,.v s14 v14,.v (.arr .u8 32) (lf.gD 15 d),.c .nsl,.c (.str v17),.c (.str v18),.c .nsl,.c .nsl,.c .nsl,.c (.dat (.str) (lf.gL 22 d) none)]⟩,⟨false,.lst [.str s,.int .i64 (lf.sz s),.int .i64 e]⟩],[lf.tld 18 d s p e,v0=18])else none
 |_,_=>none
noncomputable def tve0 (lf:TLd):Tbl:=tbL [] [(79,nH (hPrtT lf.r)),(111,nH (hM4T lf.r)),(108,nH (hM8T lf.r)),(115,nH (hMbT lf.r)),(113,nH (hMhT lf.r)),(117,nH (hMoT lf.r)),(109,nH (hMcT lf.r)),(120,nH (hMtT lf.r)),(119,nH (hMpT lf.r)),(112,nH (hMnT lf.r)),(110,nH (hFinT lf.r)),(116,nH (hLeft lf.r.toLA))]
theorem tve0_ok:TblOk Try.prog (tve0 tlR):=tbL_ok nofun (mc ⟨prtT_ok.nH,mc ⟨m4T_ok.nH,mc ⟨m8T_ok.nH,mc ⟨mbT_ok.nH,mc ⟨mhT_ok.nH,mc ⟨moT_ok.nH,mc ⟨mcT_ok.nH,mc ⟨mtT_ok.nH,mc ⟨mpT_ok.nH,mc ⟨mnT_ok.nH,mc ⟨finT_ok.nH,mc ⟨left_ok.nH,nofun⟩⟩⟩⟩⟩⟩⟩⟩⟩⟩⟩⟩)
theorem tk_5 (d:D):HOk Try.prog 78 (hTk5 tlR d):=by
 refine .of_run (hc:=(tve0 tlR).hc) Try.func78 rfl (by kernel_rfl) (by kernel_rfl) fun las lbs v lbs' ps hs hp w=>?_
 unfold hTk5 at hs
 split at hs
 ·rename_i a v0 v1 v2 v3 v4 s5 v5 s6 v6 v7 v8 v9 v10 s14 v14 s15 v15 v17 v18 s p e
  split at hs
  rotate_left
  ·cases hs
  rename_i hsh
  simp only[bat]at hsh
  obtain⟨h5,h6,h14,h15⟩:=hsh
  obtain rfl:=shEq_eq h5
  obtain rfl:=shEq_eq h6
  obtain rfl:=shEq_eq h14
  obtain rfl:=shEq_eq h15
  clear h5 h6 h14 h15
  cases hs
  obtain⟨rfl,rfl,m,rfl,hk,hok,⟨z11,z12,z13,z16,z19,z20,z21,z22⟩,hmany,hwr,hA,hsz,h16⟩:tld 5 d s p e:=hp (tlR.tld 5 d s p e) mcs
  obtain rfl:v0=5:=hp (v0=5) (mcm _ mcs)
  clear hp
  rw[aEof]
  obtain⟨a0,a1,a2,a3,a4,⟨a5t,a5s,a5i,a5p⟩,⟨a6t,a6s,a6i,a6p⟩,a7,a8,a9,a10,a11,a12,a13,a14,a15,a16,a17,a18,a19,a20,a21,a22⟩:=m
  obtain⟨r0,r1,r2,r3,r4,r5,r6,r7,r8,r9,r10,r11,r12,r13,r14,r15,r16,r17,r18,r19,r20,r21,r22⟩:=hok
  simp only at hk z11 z12 z13 z16 z19 z20 z21 z22
  subst hk
  have hF:=fx a1 a2 a3 a4 a8 a5t a5s a5p a6t a6s a6p a5i a6i a11 a12 a13 a16 a19 a20 a21 a22 r1 r2 r3 r8 r11 r12 r13 r16 r19 r20 r21 r22 r5 r6
  clear r11 r12 r13 r16 r19 r20 r21 r22
  obtain⟨R1,R2,R3,R8,R4,r11,r12,r13,r16,r19,r20,r21,r22,N5,N6⟩:=hF
  have R4i:-9223372036854775808≤a4∧a4<9223372036854775808:=rgi64 r4
  have e:payM ⟨5,a1,a2,a3,a4,⟨a5t,a5s,a5i,a5p⟩,⟨a6t,a6s,a6i,a6p⟩,a7,a8,a9,a10,a11,a12,a13,a14,a15,a16,a17,a18,a19,a20,a21,a22⟩=layB a3 8:=rfl
  rw[e]at hA hsz
  rw[layB_size]at hsz
  have E:=hA.u64 R3
  have h8:tlR.r.room s 0 8 0:=⟨rfl,hA.room (lay_sizeI a3 8)⟩
  clear hmany hwr
  refine rx tve0_ok 999 false 400 [false,true,true] ?_ ?_
  ·simp only[conj,z0,z2,arR,z1,zd]
   (repeat' with_reducible apply And.intro)<;>first
     |omega
     |exact h8
     |rfl
     |exact trivial
  refine Run.fin ti_ok rfl rfl (HEnd.pack [0,1,2] rfl rfl (pk3 ?_ ?_ ?_) rfl)
  ·rfl
  ·simp only[tlR,rtR,wlR,laR,E]
   rfl
  ·show(0:Int)+8=s.size
   omega
 ·cases hs
theorem tk_6 (d:D):HOk Try.prog 78 (hTk6 tlR d):=by
 refine .of_run (hc:=(tve0 tlR).hc) Try.func78 rfl (by kernel_rfl) (by kernel_rfl) fun las lbs v lbs' ps hs hp w=>?_
 unfold hTk6 at hs
 split at hs
 ·rename_i a v0 v1 v2 v3 v4 s5 v5 s6 v6 v7 v8 v9 v10 s14 v14 s15 v15 v17 v18 s p e
  split at hs
  rotate_left
  ·cases hs
  rename_i hsh
  simp only[bat]at hsh
  obtain⟨h5,h6,h14,h15⟩:=hsh
  obtain rfl:=shEq_eq h5
  obtain rfl:=shEq_eq h6
  obtain rfl:=shEq_eq h14
  obtain rfl:=shEq_eq h15
  clear h5 h6 h14 h15
  cases hs
  obtain⟨rfl,rfl,m,rfl,hk,hok,⟨z11,z12,z13,z16,z19,z20,z21,z22⟩,hmany,hwr,hA,hsz,h16⟩:tld 6 d s p e:=hp (tlR.tld 6 d s p e) mcs
  obtain rfl:v0=6:=hp (v0=6) (mcm _ mcs)
  clear hp
  rw[aEof]
  obtain⟨a0,a1,a2,a3,a4,⟨a5t,a5s,a5i,a5p⟩,⟨a6t,a6s,a6i,a6p⟩,a7,a8,a9,a10,a11,a12,a13,a14,a15,a16,a17,a18,a19,a20,a21,a22⟩:=m
  obtain⟨r0,r1,r2,r3,r4,r5,r6,r7,r8,r9,r10,r11,r12,r13,r14,r15,r16,r17,r18,r19,r20,r21,r22⟩:=hok
  simp only at hk z11 z12 z13 z16 z19 z20 z21 z22
  subst hk
  have hF:=fx a1 a2 a3 a4 a8 a5t a5s a5p a6t a6s a6p a5i a6i a11 a12 a13 a16 a19 a20 a21 a22 r1 r2 r3 r8 r11 r12 r13 r16 r19 r20 r21 r22 r5 r6
  clear r11 r12 r13 r16 r19 r20 r21 r22
  obtain⟨R1,R2,R3,R8,R4,r11,r12,r13,r16,r19,r20,r21,r22,N5,N6⟩:=hF
  have R4i:-9223372036854775808≤a4∧a4<9223372036854775808:=rgi64 r4
  have e:payM ⟨6,a1,a2,a3,a4,⟨a5t,a5s,a5i,a5p⟩,⟨a6t,a6s,a6i,a6p⟩,a7,a8,a9,a10,a11,a12,a13,a14,a15,a16,a17,a18,a19,a20,a21,a22⟩=layB a3 8:=rfl
  rw[e]at hA hsz
  rw[layB_size]at hsz
  have E:=hA.u64 R3
  have h8:tlR.r.room s 0 8 0:=⟨rfl,hA.room (lay_sizeI a3 8)⟩
  clear hmany hwr
  refine rx tve0_ok 999 false 400 [false,false,true] ?_ ?_
  ·simp only[conj,z0,z2,arR,z1,zd]
   (repeat' with_reducible apply And.intro)<;>first
     |omega
     |exact h8
     |rfl
     |exact trivial
  refine Run.fin ti_ok rfl rfl (HEnd.pack [0,1,2] rfl rfl (pk3 ?_ ?_ ?_) rfl)
  ·rfl
  ·simp only[tlR,rtR,wlR,laR,E]
   rfl
  ·show(0:Int)+8=s.size
   omega
 ·cases hs
theorem tk_13 (d:D):HOk Try.prog 78 (hTk13 tlR d):=by
 refine .of_run (hc:=(tve0 tlR).hc) Try.func78 rfl (by kernel_rfl) (by kernel_rfl) fun las lbs v lbs' ps hs hp w=>?_
 unfold hTk13 at hs
 split at hs
 ·rename_i a v0 v1 v2 v3 v4 s5 v5 s6 v6 v7 v8 v9 v10 s14 v14 s15 v15 v17 v18 s p e
  split at hs
  rotate_left
  ·cases hs
  rename_i hsh
  simp only[bat]at hsh
  obtain⟨h5,h6,h14,h15⟩:=hsh
  obtain rfl:=shEq_eq h5
  obtain rfl:=shEq_eq h6
  obtain rfl:=shEq_eq h14
  obtain rfl:=shEq_eq h15
  clear h5 h6 h14 h15
  cases hs
  obtain⟨rfl,rfl,m,rfl,hk,hok,⟨z11,z12,z13,z16,z19,z20,z21,z22⟩,hmany,hwr,hA,hsz,h16⟩:tld 13 d s p e:=hp (tlR.tld 13 d s p e) mcs
  obtain rfl:v0=13:=hp (v0=13) (mcm _ mcs)
  clear hp
  rw[aEof]
  obtain⟨a0,a1,a2,a3,a4,⟨a5t,a5s,a5i,a5p⟩,⟨a6t,a6s,a6i,a6p⟩,a7,a8,a9,a10,a11,a12,a13,a14,a15,a16,a17,a18,a19,a20,a21,a22⟩:=m
  obtain⟨r0,r1,r2,r3,r4,r5,r6,r7,r8,r9,r10,r11,r12,r13,r14,r15,r16,r17,r18,r19,r20,r21,r22⟩:=hok
  simp only at hk z11 z12 z13 z16 z19 z20 z21 z22
  subst hk
  have hF:=fx a1 a2 a3 a4 a8 a5t a5s a5p a6t a6s a6p a5i a6i a11 a12 a13 a16 a19 a20 a21 a22 r1 r2 r3 r8 r11 r12 r13 r16 r19 r20 r21 r22 r5 r6
  clear r11 r12 r13 r16 r19 r20 r21 r22
  obtain⟨R1,R2,R3,R8,R4,r11,r12,r13,r16,r19,r20,r21,r22,N5,N6⟩:=hF
  have R4i:-9223372036854775808≤a4∧a4<9223372036854775808:=rgi64 r4
  have e:payM ⟨13,a1,a2,a3,a4,⟨a5t,a5s,a5i,a5p⟩,⟨a6t,a6s,a6i,a6p⟩,a7,a8,a9,a10,a11,a12,a13,a14,a15,a16,a17,a18,a19,a20,a21,a22⟩=a18:=rfl
  rw[e]at hA hsz
  have hl:laR.left s 0=s.size:=by show(s.size:Int)-0=s.size;omega
  have h0:tlR.r.rOk s 0:=⟨Int.le_refl 0,by omega,by omega⟩
  have hr:tlR.r.room s 0 (laR.left s 0) 0:=by rw[hl];exact⟨rfl,by omega,Int.le_refl 0,by omega,by omega⟩
  have E:cutB s 0 (laR.left s 0)=a18:=by rw[hl,hsz];exact hA.2
  clear hmany hwr
  refine rx tve0_ok 999 false 400 [false,false,false,false,false,false,false,false,false,true,true] ?_ ?_
  ·simp only[conj,z0,z2,arR,z1,zd]
   (repeat' with_reducible apply And.intro)<;>first
     |omega
     |exact hr
     |exact h0
     |rfl
     |exact trivial
  refine Run.fin ti_ok rfl rfl (HEnd.pack [0,1,2] rfl rfl (pk3 ?_ ?_ ?_) rfl)
  ·rfl
  ·show [_,_,_,_,_,_,_,_,_,_,_,_,_,_,_,_,_,_,Pt.c (.str (cutB s 0 (laR.left s 0))),_,_,_,_]=_
   rw[E]
   rfl
  ·show(0:Int)+laR.left s 0=s.size
   omega
 ·cases hs
theorem tk_14 (d:D):HOk Try.prog 78 (hTk14 tlR d):=by
 refine .of_run (hc:=(tve0 tlR).hc) Try.func78 rfl (by kernel_rfl) (by kernel_rfl) fun las lbs v lbs' ps hs hp w=>?_
 unfold hTk14 at hs
 split at hs
 ·rename_i a v0 v1 v2 v3 v4 s5 v5 s6 v6 v7 v8 v9 v10 s14 v14 s15 v15 v17 v18 s p e
  split at hs
  rotate_left
  ·cases hs
  rename_i hsh
  simp only[bat]at hsh
  obtain⟨h5,h6,h14,h15⟩:=hsh
  obtain rfl:=shEq_eq h5
  obtain rfl:=shEq_eq h6
  obtain rfl:=shEq_eq h14
  obtain rfl:=shEq_eq h15
  clear h5 h6 h14 h15
  cases hs
  obtain⟨rfl,rfl,m,rfl,hk,hok,⟨z11,z12,z13,z16,z19,z20,z21,z22⟩,hmany,hwr,hA,hsz,h16⟩:tld 14 d s p e:=hp (tlR.tld 14 d s p e) mcs
  obtain rfl:v0=14:=hp (v0=14) (mcm _ mcs)
  clear hp
  rw[aEof]
  obtain⟨a0,a1,a2,a3,a4,⟨a5t,a5s,a5i,a5p⟩,⟨a6t,a6s,a6i,a6p⟩,a7,a8,a9,a10,a11,a12,a13,a14,a15,a16,a17,a18,a19,a20,a21,a22⟩:=m
  obtain⟨r0,r1,r2,r3,r4,r5,r6,r7,r8,r9,r10,r11,r12,r13,r14,r15,r16,r17,r18,r19,r20,r21,r22⟩:=hok
  simp only at hk z11 z12 z13 z16 z19 z20 z21 z22
  subst hk
  have hF:=fx a1 a2 a3 a4 a8 a5t a5s a5p a6t a6s a6p a5i a6i a11 a12 a13 a16 a19 a20 a21 a22 r1 r2 r3 r8 r11 r12 r13 r16 r19 r20 r21 r22 r5 r6
  clear r11 r12 r13 r16 r19 r20 r21 r22
  obtain⟨R1,R2,R3,R8,R4,r11,r12,r13,r16,r19,r20,r21,r22,N5,N6⟩:=hF
  have R4i:-9223372036854775808≤a4∧a4<9223372036854775808:=rgi64 r4
  have e:payM ⟨14,a1,a2,a3,a4,⟨a5t,a5s,a5i,a5p⟩,⟨a6t,a6s,a6i,a6p⟩,a7,a8,a9,a10,a11,a12,a13,a14,a15,a16,a17,a18,a19,a20,a21,a22⟩=a18:=rfl
  rw[e]at hA hsz
  have hl:laR.left s 0=s.size:=by show(s.size:Int)-0=s.size;omega
  have h0:tlR.r.rOk s 0:=⟨Int.le_refl 0,by omega,by omega⟩
  have hr:tlR.r.room s 0 (laR.left s 0) 0:=by rw[hl];exact⟨rfl,by omega,Int.le_refl 0,by omega,by omega⟩
  have E:cutB s 0 (laR.left s 0)=a18:=by rw[hl,hsz];exact hA.2
  clear hmany hwr
  refine rx tve0_ok 999 false 400 [false,false,false,false,false,false,false,false,false,false,true] ?_ ?_
  ·simp only[conj,z0,z2,arR,z1,zd]
   (repeat' with_reducible apply And.intro)<;>first
     |omega
     |exact hr
     |exact h0
     |rfl
     |exact trivial
  refine Run.fin ti_ok rfl rfl (HEnd.pack [0,1,2] rfl rfl (pk3 ?_ ?_ ?_) rfl)
  ·rfl
  ·show [_,_,_,_,_,_,_,_,_,_,_,_,_,_,_,_,_,_,Pt.c (.str (cutB s 0 (laR.left s 0))),_,_,_,_]=_
   rw[E]
   rfl
  ·show(0:Int)+laR.left s 0=s.size
   omega
 ·cases hs
theorem tk_15 (d:D):HOk Try.prog 78 (hTk15 tlR d):=by
 refine .of_run (hc:=(tve0 tlR).hc) Try.func78 rfl (by kernel_rfl) (by kernel_rfl) fun las lbs v lbs' ps hs hp w=>?_
 unfold hTk15 at hs
 split at hs
 ·rename_i a v0 v1 v2 v3 v4 s5 v5 s6 v6 v7 v8 v9 v10 s14 v14 s15 v15 v17 v18 s p e
  split at hs
  rotate_left
  ·cases hs
  rename_i hsh
  simp only[bat]at hsh
  obtain⟨h5,h6,h14,h15⟩:=hsh
  obtain rfl:=shEq_eq h5
  obtain rfl:=shEq_eq h6
  obtain rfl:=shEq_eq h14
  obtain rfl:=shEq_eq h15
  clear h5 h6 h14 h15
  cases hs
  obtain⟨rfl,rfl,m,rfl,hk,hok,⟨z11,z12,z13,z16,z19,z20,z21,z22⟩,hmany,hwr,hA,hsz,h16⟩:tld 15 d s p e:=hp (tlR.tld 15 d s p e) mcs
  obtain rfl:v0=15:=hp (v0=15) (mcm _ mcs)
  clear hp
  rw[aEof]
  obtain⟨a0,a1,a2,a3,a4,⟨a5t,a5s,a5i,a5p⟩,⟨a6t,a6s,a6i,a6p⟩,a7,a8,a9,a10,a11,a12,a13,a14,a15,a16,a17,a18,a19,a20,a21,a22⟩:=m
  obtain⟨r0,r1,r2,r3,r4,r5,r6,r7,r8,r9,r10,r11,r12,r13,r14,r15,r16,r17,r18,r19,r20,r21,r22⟩:=hok
  simp only at hk z11 z12 z13 z16 z19 z20 z21 z22
  subst hk
  have hF:=fx a1 a2 a3 a4 a8 a5t a5s a5p a6t a6s a6p a5i a6i a11 a12 a13 a16 a19 a20 a21 a22 r1 r2 r3 r8 r11 r12 r13 r16 r19 r20 r21 r22 r5 r6
  clear r11 r12 r13 r16 r19 r20 r21 r22
  obtain⟨R1,R2,R3,R8,R4,r11,r12,r13,r16,r19,r20,r21,r22,N5,N6⟩:=hF
  have R4i:-9223372036854775808≤a4∧a4<9223372036854775808:=rgi64 r4
  have e:payM ⟨15,a1,a2,a3,a4,⟨a5t,a5s,a5i,a5p⟩,⟨a6t,a6s,a6i,a6p⟩,a7,a8,a9,a10,a11,a12,a13,a14,a15,a16,a17,a18,a19,a20,a21,a22⟩=flagB a10++layB a3 8:=rfl
  rw[e]at hA hsz
  rw[bsa,layB_size,flagB_size]at hsz
  obtain⟨hb,E1⟩:=hA.left.flag
  have hA2:=hA.nx (n:=1) (flag_size1 a10)
  have E2:((leV (cutB s (0+1) 8).data.toList:Nat):Int)=a3:=hA2.u64 R3
  have h1:tlR.r.room s 0 1 0:=⟨rfl,hA.left.room (flag_size1 a10)⟩
  have h8:tlR.r.room s (tlR.r.add 0 1) 8 0:=⟨rfl,hA2.room (lay_sizeI a3 8)⟩
  clear hmany hwr
  refine rx tve0_ok 999 false 400 [false,false,false,false,false,false,false,false,false,false,false,true] ?_ ?_
  ·simp only[conj,z0,z2,arR,z1,zd]
   (repeat' with_reducible apply And.intro)<;>first
     |omega
     |exact h8
     |exact h1
     |exact hb
     |rfl
     |exact trivial
  refine Run.fin ti_ok rfl rfl (HEnd.pack [0,1,2] rfl rfl (pk3 ?_ ?_ ?_) rfl)
  ·rfl
  ·show [_,_,_,Pt.c (.int .u64 ((leV (cutB s (0+1) 8).data.toList:Nat):Int)),_,_,_,_,_,_,Pt.c (.bool (rcmp .eql ((leV (cutB s 0 1).data.toList:Nat):Int) 1)),_,_,_,_,_,_,_,_,_,_,_,_]=_
   rw[E1,E2]
   rfl
  ·show(0:Int)+1+8=s.size
   omega
 ·cases hs
end Go.Proofs.Ytlbllaocdilafaa
