import Derived.Test.YtlbllaocdilafaaZ13
import Derived.Test.YtlbllaocdilafaaZ14
set_option linter.unusedSimpArgs false
set_option linter.unusedVariables false
namespace Go.Eng
open Go
def eqD:Sh→D→D→Bool
 |.int _,a,b=>decide (a.int! = b.int!)
 |.bool,a,b=>a.bool! == b.bool!
 |.str,a,b=>a.str!.toList == b.str!.toList
 |.arr _ m,a,b=>(List.range m).map (arR.dRow a) == (List.range m).map (arR.dRow b)
 |.two s t,a,b=>eqD s a.fst! b.fst! && eqD t a.snd! b.snd!
 |.sl s,a,b=>(a.sl!.length == b.sl!.length)&&(List.range a.sl!.length).all fun i=>eqD s (a.sl!.getD i (.int 0)) (b.sl!.getD i (.int 0))
def eqL (s:Sh) (xs ys:List D):Bool:=(xs.length == ys.length)&&(List.range xs.length).all fun i=>eqD s (xs.getD i (.int 0)) (ys.getD i (.int 0))
theorem dF_m (d:D):D.fst!.match_1 (fun _=>D) d (fun a _=>a) D.fst! = d.fst!:=by cases d<;>rfl
theorem dS_m (d:D):D.fst!.match_1 (fun _=>D) d (fun _ a=>a) D.snd! = d.snd!:=by cases d<;>rfl
theorem dI_m (d:D):D.int!.match_1 (fun _=>Int) d (fun a=>a) D.int! = d.int!:=by cases d<;>rfl
theorem dB_m (d:D):D.bool!.match_1 (fun _=>Bool) d (fun a=>a) D.bool! = d.bool!:=by cases d<;>rfl
theorem dX_m (d:D):D.str!.match_1 (fun _=>ByteArray) d (fun a=>a) D.str! = d.str!:=by cases d<;>rfl
theorem dL_m (d:D):D.sl!.match_1 (fun _=>List D) d (fun a=>a) D.sl! = d.sl!:=by cases d<;>rfl
theorem zd:(∀d:D,D.fst!.match_1 (fun _=>D) d (fun a _=>a) D.fst! = d.fst!)∧(∀d:D,D.fst!.match_1 (fun _=>D) d (fun _ a=>a) D.snd! = d.snd!)∧(∀d:D,D.int!.match_1 (fun _=>Int) d (fun a=>a) D.int! = d.int!)∧(∀d:D,D.bool!.match_1 (fun _=>Bool) d (fun a=>a) D.bool! = d.bool!)∧(∀d:D,D.str!.match_1 (fun _=>ByteArray) d (fun a=>a) D.str! = d.str!)∧(∀d:D,D.sl!.match_1 (fun _=>List D) d (fun a=>a) D.sl! = d.sl!):=⟨dF_m,dS_m,dI_m,dB_m,dX_m,dL_m⟩
theorem ze.{u}:(∀{α:Type u}{a:α}{l:List α}{f:α→Bool},(a::l).all f=(f a&&l.all f))∧(∀{α:Type u}{f:α→Bool},([]:List α).all f=true):=⟨@List.all_cons,@List.all_nil⟩
theorem eqL_no {s:Sh}{xs ys:List D}{i:Nat}(hi:i<xs.length) (h:eqD s (xs.getD i (.int 0)) (ys.getD i (.int 0))=false):eqL s xs ys=false:=by
 unfold eqL
 rw[Bool.and_eq_false_iff]
 right
 rw[List.all_eq_false]
 exact⟨i,List.mem_range.2 hi,by rw[h];decide⟩
theorem eqL_len {s:Sh}{xs ys:List D}(h:xs.length≠ys.length):eqL s xs ys=false:=by
 unfold eqL
 rw[Bool.and_eq_false_iff]
 left
 simpa using h
theorem eqL_yes {s:Sh}{xs ys:List D}(h:xs.length=ys.length) (ha:∀i,i<xs.length→eqD s (xs.getD i (.int 0)) (ys.getD i (.int 0))=true):eqL s xs ys=true:=by
 unfold eqL
 rw[bat,List.all_eq_true]
 exact⟨by simpa using h,fun i hi=>ha i (List.mem_range.1 hi)⟩
structure LE1 extends Go.Eng.LA where
 eqL:Sh→List D→List D→Bool
 eqD:Sh→D→D→Bool
 ln:List D→Prop
def leR:LE1 where
 toLA:=Go.Eng.laR
 eqL:=eqL
 eqD:=eqD
 ln xs:=xs.length≤4611686018427387904
end Go.Eng
namespace Go.Proofs.Ytlbllaocdilafaa
open Go Go.Eng Go.Proofs Go.RowKit
attribute[local irreducible] CallOk HOk Run TIok rbin rcmp run1 updF shfF blitF
def te0 (lf:LE1):Tbl:=tbL [] []
theorem te0_ok:TblOk Try.prog (te0 leR):=tbL_ok nofun nofun
def sEqNet (lf:LE1):ESpec:=fun l=>match l with
 | [.one (.dat s1 xs none),.one (.dat s2 ys none)]=>if shEq s1 (.two (.int .u32) (.two (.int .u64) (.two (.arr .u8 16) (.int .u16))))&&shEq s2 (.two (.int .u32) (.two (.int .u64) (.two (.arr .u8 16) (.int .u16))))then some (.a (.one (.bool (lf.eqL (.two (.int .u32) (.two (.int .u64) (.two (.arr .u8 16) (.int .u16)))) xs ys))),[lf.ln xs,lf.ln ys])else none
 |_=>none
theorem eqNet_ok:CallOk Try.prog 58 (sEqNet leR):=by
 refine .of_run (hc:=(te0 leR).hc) Try.func58 rfl (by kernel_rfl) (by kernel_rfl) fun xs v ps hs hp w=>?_
 unfold sEqNet at hs
 split at hs
 ·rename_i s1 xs s2 ys
  split at hs
  ·rename_i hsh
   rw[bat]at hsh
   obtain rfl:=shEq_eq hsh.1
   obtain rfl:=shEq_eq hsh.2
   clear hsh
   cases hs
   have hx:xs.length≤4611686018427387904:=hp (leR.ln xs) (by simp)
   have hy:ys.length≤4611686018427387904:=hp (leR.ln ys) (by simp)
   clear hp
   by_cases hl:xs.length=ys.length
   ·refine ra te0_ok 0 false 400 [false] [0,1,12,13] [13] ?_ ?_
    ·simp only[conj,z0,z2,arR,z1]
     first|omega|skip
    refine Run.loop (ι:={p:Int×Int // (0≤p.1∧p.1≤xs.length)∧(∀i,i<p.1.toNat→eqD (.two (.int .u32) (.two (.int .u64) (.two (.arr .u8 16) (.int .u16)))) (xs.getD i (.int 0)) (ys.getD i (.int 0))=true)∧p.2=xs.length})
     (fun i=>([.a (.one (.dat (.two (.int .u32) (.two (.int .u64) (.two (.arr .u8 16) (.int .u16)))) xs none)),.a (.one (.dat (.two (.int .u32) (.two (.int .u64) (.two (.arr .u8 16) (.int .u16)))) ys none)),.z,.z,.z,.z,.z,.z,.z,.z,.z,.z,.a (.one (.int .i64 i.1.2)),.a (.one (.int .i64 i.1.1)),.z,.z,.z,.z,.z,.z,.z,.z,.z,.z,.z,.z],[]))
     (fun i=>(xs.length-i.1.1).toNat) ⟨(0,xs.length),by simp only;omega,fun i hi=>by simp at hi,rfl⟩ ?_
    rintro⟨⟨k,n⟩,hk,ha,hn⟩ ih
    simp only at hk ha hn
    have e1:rbin .add .i64 k 1=k+1:=addi (by omega) (by omega)
    by_cases hlt:k<xs.length
    ·cases hb:eqD (.two (.int .u32) (.two (.int .u64) (.two (.arr .u8 16) (.int .u16)))) (xs.getD k.toNat (.int 0)) (ys.getD k.toNat (.int 0))with
     |false=>
      refine rx te0_ok 999 false 400 [true,true] ?_ ?_
      ·simp only[conj,z0,z2,arR,z1,hn,zd,ze,Bool.and_true,id_eq]
       refine⟨?_,by((repeat' with_reducible apply And.intro)<;>first|omega|assumption|rfl|trivial)⟩
       first
        |exact of_decide_eq_false hb
        |(show(!(eqD (.two (.int .u32) (.two (.int .u64) (.two (.arr .u8 16) (.int .u16)))) (xs.getD k.toNat (.int 0)) (ys.getD k.toNat (.int 0))))=true
          rw[hb];rfl)
      ·exact Run.ret ti_ok rfl rfl (.a (.lbool (eqL_no (i:=k.toNat) (by omega) hb).symm))
     |true=>
      refine ra te0_ok 2 true 400 [true,false] [0,1,12,13] [13] ?_ ?_
      ·simp only[conj,z0,z2,arR,z1,hn,zd,ze,Bool.and_true,id_eq]
       refine⟨?_,by((repeat' with_reducible apply And.intro)<;>first|omega|assumption|rfl|trivial)⟩
       first
        |exact fun h=>h (odt hb)
        |(show(!(eqD (.two (.int .u32) (.two (.int .u64) (.two (.arr .u8 16) (.int .u16)))) (xs.getD k.toNat (.int 0)) (ys.getD k.toNat (.int 0))))=false
          rw[hb];rfl)
      ·refine ih ⟨(_,_),?_⟩ ?_ _ _
       ·refine⟨?_,?_,hn⟩
        ·show 0≤rbin .add .i64 k 1∧rbin .add .i64 k 1≤xs.length
         rw[e1];omega
        ·show ∀i,i<(rbin .add .i64 k 1).toNat→_
         rw[e1]
         intro i hi
         rcases Nat.lt_or_ge i k.toNat with h|h
         ·exact ha i h
         ·obtain rfl:i=k.toNat:=by omega
          exact hb
       ·show((xs.length:Int)-rbin .add .i64 k 1).toNat<((xs.length:Int)-k).toNat
        rw[e1];omega
    ·refine rx te0_ok 999 false 400 [false] ?_ ?_
     ·simp only[conj,z0,z2,arR,z1,hn]
      omega
     ·exact Run.ret ti_ok rfl rfl (.a (.lbool (eqL_yes hl fun i hi=>ha i (by omega)).symm))
   ·refine rx te0_ok 999 false 400 [true] ?_ ?_
    ·simp only[conj,z0,z2,arR,z1]
     first|omega|skip
    ·exact Run.ret ti_ok rfl rfl (.a (.lbool (eqL_len hl).symm))
  ·cases hs
 ·cases hs
def sEqItem (lf:LE1):ESpec:=fun l=>match l with
 | [.one (.dat s1 xs none),.one (.dat s2 ys none)]=>if shEq s1 (.two (.int .u32) (.arr .u8 32))&&shEq s2 (.two (.int .u32) (.arr .u8 32))then some (.a (.one (.bool (lf.eqL (.two (.int .u32) (.arr .u8 32)) xs ys))),[lf.ln xs,lf.ln ys])else none
 |_=>none
theorem eqItem_ok:CallOk Try.prog 59 (sEqItem leR):=by
 refine .of_run (hc:=(te0 leR).hc) Try.func59 rfl (by kernel_rfl) (by kernel_rfl) fun xs v ps hs hp w=>?_
 unfold sEqItem at hs
 split at hs
 ·rename_i s1 xs s2 ys
  split at hs
  ·rename_i hsh
   rw[bat]at hsh
   obtain rfl:=shEq_eq hsh.1
   obtain rfl:=shEq_eq hsh.2
   clear hsh
   cases hs
   have hx:xs.length≤4611686018427387904:=hp (leR.ln xs) (by simp)
   have hy:ys.length≤4611686018427387904:=hp (leR.ln ys) (by simp)
   clear hp
   by_cases hl:xs.length=ys.length
   ·refine ra te0_ok 0 false 400 [false] [0,1,12,13] [13] ?_ ?_
    ·simp only[conj,z0,z2,arR,z1]
     first|omega|skip
    refine Run.loop (ι:={p:Int×Int // (0≤p.1∧p.1≤xs.length)∧(∀i,i<p.1.toNat→eqD (.two (.int .u32) (.arr .u8 32)) (xs.getD i (.int 0)) (ys.getD i (.int 0))=true)∧p.2=xs.length})
     (fun i=>([.a (.one (.dat (.two (.int .u32) (.arr .u8 32)) xs none)),.a (.one (.dat (.two (.int .u32) (.arr .u8 32)) ys none)),.z,.z,.z,.z,.z,.z,.z,.z,.z,.z,.a (.one (.int .i64 i.1.2)),.a (.one (.int .i64 i.1.1)),.z,.z,.z,.z,.z,.z,.z,.z,.z,.z,.z,.z],[]))
     (fun i=>(xs.length-i.1.1).toNat) ⟨(0,xs.length),by simp only;omega,fun i hi=>by simp at hi,rfl⟩ ?_
    rintro⟨⟨k,n⟩,hk,ha,hn⟩ ih
    simp only at hk ha hn
    have e1:rbin .add .i64 k 1=k+1:=addi (by omega) (by omega)
    by_cases hlt:k<xs.length
    ·cases hb:eqD (.two (.int .u32) (.arr .u8 32)) (xs.getD k.toNat (.int 0)) (ys.getD k.toNat (.int 0))with
     |false=>
      refine rx te0_ok 999 false 400 [true,true] ?_ ?_
      ·simp only[conj,z0,z2,arR,z1,hn,zd,ze,Bool.and_true,id_eq]
       refine⟨?_,by((repeat' with_reducible apply And.intro)<;>first|omega|assumption|rfl|trivial)⟩
       first
        |exact of_decide_eq_false hb
        |(show(!(eqD (.two (.int .u32) (.arr .u8 32)) (xs.getD k.toNat (.int 0)) (ys.getD k.toNat (.int 0))))=true
          rw[hb];rfl)
      ·exact Run.ret ti_ok rfl rfl (.a (.lbool (eqL_no (i:=k.toNat) (by omega) hb).symm))
     |true=>
      refine ra te0_ok 2 true 400 [true,false] [0,1,12,13] [13] ?_ ?_
      ·simp only[conj,z0,z2,arR,z1,hn,zd,ze,Bool.and_true,id_eq]
       refine⟨?_,by((repeat' with_reducible apply And.intro)<;>first|omega|assumption|rfl|trivial)⟩
       first
        |exact fun h=>h (odt hb)
        |(show(!(eqD (.two (.int .u32) (.arr .u8 32)) (xs.getD k.toNat (.int 0)) (ys.getD k.toNat (.int 0))))=false
          rw[hb];rfl)
      ·refine ih ⟨(_,_),?_⟩ ?_ _ _
       ·refine⟨?_,?_,hn⟩
        ·show 0≤rbin .add .i64 k 1∧rbin .add .i64 k 1≤xs.length
         rw[e1];omega
        ·show ∀i,i<(rbin .add .i64 k 1).toNat→_
         rw[e1]
         intro i hi
         rcases Nat.lt_or_ge i k.toNat with h|h
         ·exact ha i h
         ·obtain rfl:i=k.toNat:=by omega
          exact hb
       ·show((xs.length:Int)-rbin .add .i64 k 1).toNat<((xs.length:Int)-k).toNat
        rw[e1];omega
    ·refine rx te0_ok 999 false 400 [false] ?_ ?_
     ·simp only[conj,z0,z2,arR,z1,hn]
      omega
     ·exact Run.ret ti_ok rfl rfl (.a (.lbool (eqL_yes hl fun i hi=>ha i (by omega)).symm))
   ·refine rx te0_ok 999 false 400 [true] ?_ ?_
    ·simp only[conj,z0,z2,arR,z1]
     first|omega|skip
    ·exact Run.ret ti_ok rfl rfl (.a (.lbool (eqL_len hl).symm))
  ·cases hs
 ·cases hs
def sEqHash (lf:LE1):ESpec:=fun l=>match l with
 | [.one (.dat s1 xs none),.one (.dat s2 ys none)]=>if shEq s1 (.arr .u8 32)&&shEq s2 (.arr .u8 32)then some (.a (.one (.bool (lf.eqL (.arr .u8 32) xs ys))),[lf.ln xs,lf.ln ys])else none
 |_=>none
theorem eqHash_ok:CallOk Try.prog 60 (sEqHash leR):=by
 refine .of_run (hc:=(te0 leR).hc) Try.func60 rfl (by kernel_rfl) (by kernel_rfl) fun xs v ps hs hp w=>?_
 unfold sEqHash at hs
 split at hs
 ·rename_i s1 xs s2 ys
  split at hs
  ·rename_i hsh
   rw[bat]at hsh
   obtain rfl:=shEq_eq hsh.1
   obtain rfl:=shEq_eq hsh.2
   clear hsh
   cases hs
   have hx:xs.length≤4611686018427387904:=hp (leR.ln xs) (by simp)
   have hy:ys.length≤4611686018427387904:=hp (leR.ln ys) (by simp)
   clear hp
   by_cases hl:xs.length=ys.length
   ·refine ra te0_ok 0 false 400 [false] [0,1,12,13] [13] ?_ ?_
    ·simp only[conj,z0,z2,arR,z1]
     first|omega|skip
    refine Run.loop (ι:={p:Int×Int // (0≤p.1∧p.1≤xs.length)∧(∀i,i<p.1.toNat→eqD (.arr .u8 32) (xs.getD i (.int 0)) (ys.getD i (.int 0))=true)∧p.2=xs.length})
     (fun i=>([.a (.one (.dat (.arr .u8 32) xs none)),.a (.one (.dat (.arr .u8 32) ys none)),.z,.z,.z,.z,.z,.z,.z,.z,.z,.z,.a (.one (.int .i64 i.1.2)),.a (.one (.int .i64 i.1.1)),.z,.z,.z,.z,.z,.z,.z,.z,.z,.z,.z,.z],[]))
     (fun i=>(xs.length-i.1.1).toNat) ⟨(0,xs.length),by simp only;omega,fun i hi=>by simp at hi,rfl⟩ ?_
    rintro⟨⟨k,n⟩,hk,ha,hn⟩ ih
    simp only at hk ha hn
    have e1:rbin .add .i64 k 1=k+1:=addi (by omega) (by omega)
    by_cases hlt:k<xs.length
    ·cases hb:eqD (.arr .u8 32) (xs.getD k.toNat (.int 0)) (ys.getD k.toNat (.int 0))with
     |false=>
      refine rx te0_ok 999 false 400 [true,true] ?_ ?_
      ·simp only[conj,z0,z2,arR,z1,hn,zd,ze,Bool.and_true,id_eq]
       refine⟨?_,by((repeat' with_reducible apply And.intro)<;>first|omega|assumption|rfl|trivial)⟩
       first
        |exact of_decide_eq_false hb
        |(show(!(eqD (.arr .u8 32) (xs.getD k.toNat (.int 0)) (ys.getD k.toNat (.int 0))))=true
          rw[hb];rfl)
      ·exact Run.ret ti_ok rfl rfl (.a (.lbool (eqL_no (i:=k.toNat) (by omega) hb).symm))
     |true=>
      refine ra te0_ok 2 true 400 [true,false] [0,1,12,13] [13] ?_ ?_
      ·simp only[conj,z0,z2,arR,z1,hn,zd,ze,Bool.and_true,id_eq]
       refine⟨?_,by((repeat' with_reducible apply And.intro)<;>first|omega|assumption|rfl|trivial)⟩
       first
        |exact fun h=>h (odt hb)
        |(show(!(eqD (.arr .u8 32) (xs.getD k.toNat (.int 0)) (ys.getD k.toNat (.int 0))))=false
          rw[hb];rfl)
      ·refine ih ⟨(_,_),?_⟩ ?_ _ _
       ·refine⟨?_,?_,hn⟩
        ·show 0≤rbin .add .i64 k 1∧rbin .add .i64 k 1≤xs.length
         rw[e1];omega
        ·show ∀i,i<(rbin .add .i64 k 1).toNat→_
         rw[e1]
         intro i hi
         rcases Nat.lt_or_ge i k.toNat with h|h
         ·exact ha i h
         ·obtain rfl:i=k.toNat:=by omega
          exact hb
       ·show((xs.length:Int)-rbin .add .i64 k 1).toNat<((xs.length:Int)-k).toNat
        rw[e1];omega
    ·refine rx te0_ok 999 false 400 [false] ?_ ?_
     ·simp only[conj,z0,z2,arR,z1,hn]
      omega
     ·exact Run.ret ti_ok rfl rfl (.a (.lbool (eqL_yes hl fun i hi=>ha i (by omega)).symm))
   ·refine rx te0_ok 999 false 400 [true] ?_ ?_
    ·simp only[conj,z0,z2,arR,z1]
     first|omega|skip
    ·exact Run.ret ti_ok rfl rfl (.a (.lbool (eqL_len hl).symm))
  ·cases hs
 ·cases hs
def sEqStr (lf:LE1):ESpec:=fun l=>match l with
 | [.one (.dat s1 xs none),.one (.dat s2 ys none)]=>if shEq s1 .str&&shEq s2 .str then some (.a (.one (.bool (lf.eqL .str xs ys))),[lf.ln xs,lf.ln ys])else none
 |_=>none
theorem eqStr_ok:CallOk Try.prog 61 (sEqStr leR):=by
 refine .of_run (hc:=(te0 leR).hc) Try.func61 rfl (by kernel_rfl) (by kernel_rfl) fun xs v ps hs hp w=>?_
 unfold sEqStr at hs
 split at hs
 ·rename_i s1 xs s2 ys
  split at hs
  ·rename_i hsh
   rw[bat]at hsh
   obtain rfl:=shEq_eq hsh.1
   obtain rfl:=shEq_eq hsh.2
   clear hsh
   cases hs
   have hx:xs.length≤4611686018427387904:=hp (leR.ln xs) (by simp)
   have hy:ys.length≤4611686018427387904:=hp (leR.ln ys) (by simp)
   clear hp
   by_cases hl:xs.length=ys.length
   ·refine ra te0_ok 0 false 400 [false] [0,1,12,13] [13] ?_ ?_
    ·simp only[conj,z0,z2,arR,z1]
     first|omega|skip
    refine Run.loop (ι:={p:Int×Int // (0≤p.1∧p.1≤xs.length)∧(∀i,i<p.1.toNat→eqD .str (xs.getD i (.int 0)) (ys.getD i (.int 0))=true)∧p.2=xs.length})
     (fun i=>([.a (.one (.dat .str xs none)),.a (.one (.dat .str ys none)),.z,.z,.z,.z,.z,.z,.z,.z,.z,.z,.a (.one (.int .i64 i.1.2)),.a (.one (.int .i64 i.1.1)),.z,.z,.z,.z,.z,.z,.z,.z,.z,.z,.z,.z],[]))
     (fun i=>(xs.length-i.1.1).toNat) ⟨(0,xs.length),by simp only;omega,fun i hi=>by simp at hi,rfl⟩ ?_
    rintro⟨⟨k,n⟩,hk,ha,hn⟩ ih
    simp only at hk ha hn
    have e1:rbin .add .i64 k 1=k+1:=addi (by omega) (by omega)
    by_cases hlt:k<xs.length
    ·cases hb:eqD .str (xs.getD k.toNat (.int 0)) (ys.getD k.toNat (.int 0))with
     |false=>
      refine rx te0_ok 999 false 400 [true,true] ?_ ?_
      ·simp only[conj,z0,z2,arR,z1,hn,zd,ze,Bool.and_true,id_eq]
       refine⟨?_,by((repeat' with_reducible apply And.intro)<;>first|omega|assumption|rfl|trivial)⟩
       first
        |exact of_decide_eq_false hb
        |(show(!(eqD .str (xs.getD k.toNat (.int 0)) (ys.getD k.toNat (.int 0))))=true
          rw[hb];rfl)
      ·exact Run.ret ti_ok rfl rfl (.a (.lbool (eqL_no (i:=k.toNat) (by omega) hb).symm))
     |true=>
      refine ra te0_ok 2 true 400 [true,false] [0,1,12,13] [13] ?_ ?_
      ·simp only[conj,z0,z2,arR,z1,hn,zd,ze,Bool.and_true,id_eq]
       refine⟨?_,by((repeat' with_reducible apply And.intro)<;>first|omega|assumption|rfl|trivial)⟩
       first
        |exact fun h=>h (odt hb)
        |(show(!(eqD .str (xs.getD k.toNat (.int 0)) (ys.getD k.toNat (.int 0))))=false
          rw[hb];rfl)
      ·refine ih ⟨(_,_),?_⟩ ?_ _ _
       ·refine⟨?_,?_,hn⟩
        ·show 0≤rbin .add .i64 k 1∧rbin .add .i64 k 1≤xs.length
         rw[e1];omega
        ·show ∀i,i<(rbin .add .i64 k 1).toNat→_
         rw[e1]
         intro i hi
         rcases Nat.lt_or_ge i k.toNat with h|h
         ·exact ha i h
         ·obtain rfl:i=k.toNat:=by omega
          exact hb
       ·show((xs.length:Int)-rbin .add .i64 k 1).toNat<((xs.length:Int)-k).toNat
        rw[e1];omega
    ·refine rx te0_ok 999 false 400 [false] ?_ ?_
     ·simp only[conj,z0,z2,arR,z1,hn]
      omega
     ·exact Run.ret ti_ok rfl rfl (.a (.lbool (eqL_yes hl fun i hi=>ha i (by omega)).symm))
   ·refine rx te0_ok 999 false 400 [true] ?_ ?_
    ·simp only[conj,z0,z2,arR,z1]
     first|omega|skip
    ·exact Run.ret ti_ok rfl rfl (.a (.lbool (eqL_len hl).symm))
  ·cases hs
 ·cases hs
def sEqU64 (lf:LE1):ESpec:=fun l=>match l with
 | [.one (.dat s1 xs none),.one (.dat s2 ys none)]=>if shEq s1 (.int .u64)&&shEq s2 (.int .u64)then some (.a (.one (.bool (lf.eqL (.int .u64) xs ys))),[lf.ln xs,lf.ln ys])else none
 |_=>none
theorem eqU64_ok:CallOk Try.prog 62 (sEqU64 leR):=by
 refine .of_run (hc:=(te0 leR).hc) Try.func62 rfl (by kernel_rfl) (by kernel_rfl) fun xs v ps hs hp w=>?_
 unfold sEqU64 at hs
 split at hs
 ·rename_i s1 xs s2 ys
  split at hs
  ·rename_i hsh
   rw[bat]at hsh
   obtain rfl:=shEq_eq hsh.1
   obtain rfl:=shEq_eq hsh.2
   clear hsh
   cases hs
   have hx:xs.length≤4611686018427387904:=hp (leR.ln xs) (by simp)
   have hy:ys.length≤4611686018427387904:=hp (leR.ln ys) (by simp)
   clear hp
   by_cases hl:xs.length=ys.length
   ·refine ra te0_ok 0 false 400 [false] [0,1,12,13] [13] ?_ ?_
    ·simp only[conj,z0,z2,arR,z1]
     first|omega|skip
    refine Run.loop (ι:={p:Int×Int // (0≤p.1∧p.1≤xs.length)∧(∀i,i<p.1.toNat→eqD (.int .u64) (xs.getD i (.int 0)) (ys.getD i (.int 0))=true)∧p.2=xs.length})
     (fun i=>([.a (.one (.dat (.int .u64) xs none)),.a (.one (.dat (.int .u64) ys none)),.z,.z,.z,.z,.z,.z,.z,.z,.z,.z,.a (.one (.int .i64 i.1.2)),.a (.one (.int .i64 i.1.1)),.z,.z,.z,.z,.z,.z,.z,.z,.z,.z,.z,.z],[]))
     (fun i=>(xs.length-i.1.1).toNat) ⟨(0,xs.length),by simp only;omega,fun i hi=>by simp at hi,rfl⟩ ?_
    rintro⟨⟨k,n⟩,hk,ha,hn⟩ ih
    simp only at hk ha hn
    have e1:rbin .add .i64 k 1=k+1:=addi (by omega) (by omega)
    by_cases hlt:k<xs.length
    ·cases hb:eqD (.int .u64) (xs.getD k.toNat (.int 0)) (ys.getD k.toNat (.int 0))with
     |false=>
      refine rx te0_ok 999 false 400 [true,true] ?_ ?_
      ·simp only[conj,z0,z2,arR,z1,hn,zd,ze,Bool.and_true,id_eq]
       refine⟨?_,by((repeat' with_reducible apply And.intro)<;>first|omega|assumption|rfl|trivial)⟩
       first
        |exact of_decide_eq_false hb
        |(show(!(eqD (.int .u64) (xs.getD k.toNat (.int 0)) (ys.getD k.toNat (.int 0))))=true
          rw[hb];rfl)
      ·exact Run.ret ti_ok rfl rfl (.a (.lbool (eqL_no (i:=k.toNat) (by omega) hb).symm))
     |true=>
      refine ra te0_ok 2 true 400 [true,false] [0,1,12,13] [13] ?_ ?_
      ·simp only[conj,z0,z2,arR,z1,hn,zd,ze,Bool.and_true,id_eq]
       refine⟨?_,by((repeat' with_reducible apply And.intro)<;>first|omega|assumption|rfl|trivial)⟩
       first
        |exact fun h=>h (odt hb)
        |(show(!(eqD (.int .u64) (xs.getD k.toNat (.int 0)) (ys.getD k.toNat (.int 0))))=false
          rw[hb];rfl)
      ·refine ih ⟨(_,_),?_⟩ ?_ _ _
       ·refine⟨?_,?_,hn⟩
        ·show 0≤rbin .add .i64 k 1∧rbin .add .i64 k 1≤xs.length
         rw[e1];omega
        ·show ∀i,i<(rbin .add .i64 k 1).toNat→_
         rw[e1]
         intro i hi
         rcases Nat.lt_or_ge i k.toNat with h|h
         ·exact ha i h
         ·obtain rfl:i=k.toNat:=by omega
          exact hb
       ·show((xs.length:Int)-rbin .add .i64 k 1).toNat<((xs.length:Int)-k).toNat
        rw[e1];omega
    ·refine rx te0_ok 999 false 400 [false] ?_ ?_
     ·simp only[conj,z0,z2,arR,z1,hn]
      omega
     ·exact Run.ret ti_ok rfl rfl (.a (.lbool (eqL_yes hl fun i hi=>ha i (by omega)).symm))
   ·refine rx te0_ok 999 false 400 [true] ?_ ?_
    ·simp only[conj,z0,z2,arR,z1]
     first|omega|skip
    ·exact Run.ret ti_ok rfl rfl (.a (.lbool (eqL_len hl).symm))
  ·cases hs
 ·cases hs
def sEqFilled (lf:LE1):ESpec:=fun l=>match l with
 | [.one (.dat s1 xs none),.one (.dat s2 ys none)]=>if shEq s1 (.two (.int .i64) .str)&&shEq s2 (.two (.int .i64) .str)then some (.a (.one (.bool (lf.eqL (.two (.int .i64) .str) xs ys))),[lf.ln xs,lf.ln ys])else none
 |_=>none
theorem eqFilled_ok:CallOk Try.prog 63 (sEqFilled leR):=by
 refine .of_run (hc:=(te0 leR).hc) Try.func63 rfl (by kernel_rfl) (by kernel_rfl) fun xs v ps hs hp w=>?_
 unfold sEqFilled at hs
 split at hs
 ·rename_i s1 xs s2 ys
  split at hs
  ·rename_i hsh
   rw[bat]at hsh
   obtain rfl:=shEq_eq hsh.1
   obtain rfl:=shEq_eq hsh.2
   clear hsh
   cases hs
   have hx:xs.length≤4611686018427387904:=hp (leR.ln xs) (by simp)
   have hy:ys.length≤4611686018427387904:=hp (leR.ln ys) (by simp)
   clear hp
   by_cases hl:xs.length=ys.length
   ·refine ra te0_ok 0 false 400 [false] [0,1,12,13] [13] ?_ ?_
    ·simp only[conj,z0,z2,arR,z1]
     first|omega|skip
    refine Run.loop (ι:={p:Int×Int // (0≤p.1∧p.1≤xs.length)∧(∀i,i<p.1.toNat→eqD (.two (.int .i64) .str) (xs.getD i (.int 0)) (ys.getD i (.int 0))=true)∧p.2=xs.length})
     (fun i=>([.a (.one (.dat (.two (.int .i64) .str) xs none)),.a (.one (.dat (.two (.int .i64) .str) ys none)),.z,.z,.z,.z,.z,.z,.z,.z,.z,.z,.a (.one (.int .i64 i.1.2)),.a (.one (.int .i64 i.1.1)),.z,.z,.z,.z,.z,.z,.z,.z,.z,.z,.z,.z],[]))
     (fun i=>(xs.length-i.1.1).toNat) ⟨(0,xs.length),by simp only;omega,fun i hi=>by simp at hi,rfl⟩ ?_
    rintro⟨⟨k,n⟩,hk,ha,hn⟩ ih
    simp only at hk ha hn
    have e1:rbin .add .i64 k 1=k+1:=addi (by omega) (by omega)
    by_cases hlt:k<xs.length
    ·cases hb:eqD (.two (.int .i64) .str) (xs.getD k.toNat (.int 0)) (ys.getD k.toNat (.int 0))with
     |false=>
      refine rx te0_ok 999 false 400 [true,true] ?_ ?_
      ·simp only[conj,z0,z2,arR,z1,hn,zd,ze,Bool.and_true,id_eq]
       refine⟨?_,by((repeat' with_reducible apply And.intro)<;>first|omega|assumption|rfl|trivial)⟩
       first
        |exact of_decide_eq_false hb
        |(show(!(eqD (.two (.int .i64) .str) (xs.getD k.toNat (.int 0)) (ys.getD k.toNat (.int 0))))=true
          rw[hb];rfl)
      ·exact Run.ret ti_ok rfl rfl (.a (.lbool (eqL_no (i:=k.toNat) (by omega) hb).symm))
     |true=>
      refine ra te0_ok 2 true 400 [true,false] [0,1,12,13] [13] ?_ ?_
      ·simp only[conj,z0,z2,arR,z1,hn,zd,ze,Bool.and_true,id_eq]
       refine⟨?_,by((repeat' with_reducible apply And.intro)<;>first|omega|assumption|rfl|trivial)⟩
       first
        |exact fun h=>h (odt hb)
        |(show(!(eqD (.two (.int .i64) .str) (xs.getD k.toNat (.int 0)) (ys.getD k.toNat (.int 0))))=false
          rw[hb];rfl)
      ·refine ih ⟨(_,_),?_⟩ ?_ _ _
       ·refine⟨?_,?_,hn⟩
        ·show 0≤rbin .add .i64 k 1∧rbin .add .i64 k 1≤xs.length
         rw[e1];omega
        ·show ∀i,i<(rbin .add .i64 k 1).toNat→_
         rw[e1]
         intro i hi
         rcases Nat.lt_or_ge i k.toNat with h|h
         ·exact ha i h
         ·obtain rfl:i=k.toNat:=by omega
          exact hb
       ·show((xs.length:Int)-rbin .add .i64 k 1).toNat<((xs.length:Int)-k).toNat
        rw[e1];omega
    ·refine rx te0_ok 999 false 400 [false] ?_ ?_
     ·simp only[conj,z0,z2,arR,z1,hn]
      omega
     ·exact Run.ret ti_ok rfl rfl (.a (.lbool (eqL_yes hl fun i hi=>ha i (by omega)).symm))
   ·refine rx te0_ok 999 false 400 [true] ?_ ?_
    ·simp only[conj,z0,z2,arR,z1]
     first|omega|skip
    ·exact Run.ret ti_ok rfl rfl (.a (.lbool (eqL_len hl).symm))
  ·cases hs
 ·cases hs
def sEqInt (lf:LE1):ESpec:=fun l=>match l with
 | [.one (.dat s1 xs none),.one (.dat s2 ys none)]=>if shEq s1 (.int .i64)&&shEq s2 (.int .i64)then some (.a (.one (.bool (lf.eqL (.int .i64) xs ys))),[lf.ln xs,lf.ln ys])else none
 |_=>none
theorem eqInt_ok:CallOk Try.prog 64 (sEqInt leR):=by
 refine .of_run (hc:=(te0 leR).hc) Try.func64 rfl (by kernel_rfl) (by kernel_rfl) fun xs v ps hs hp w=>?_
 unfold sEqInt at hs
 split at hs
 ·rename_i s1 xs s2 ys
  split at hs
  ·rename_i hsh
   rw[bat]at hsh
   obtain rfl:=shEq_eq hsh.1
   obtain rfl:=shEq_eq hsh.2
   clear hsh
   cases hs
   have hx:xs.length≤4611686018427387904:=hp (leR.ln xs) (by simp)
   have hy:ys.length≤4611686018427387904:=hp (leR.ln ys) (by simp)
   clear hp
   by_cases hl:xs.length=ys.length
   ·refine ra te0_ok 0 false 400 [false] [0,1,12,13] [13] ?_ ?_
    ·simp only[conj,z0,z2,arR,z1]
     first|omega|skip
    refine Run.loop (ι:={p:Int×Int // (0≤p.1∧p.1≤xs.length)∧(∀i,i<p.1.toNat→eqD (.int .i64) (xs.getD i (.int 0)) (ys.getD i (.int 0))=true)∧p.2=xs.length})
     (fun i=>([.a (.one (.dat (.int .i64) xs none)),.a (.one (.dat (.int .i64) ys none)),.z,.z,.z,.z,.z,.z,.z,.z,.z,.z,.a (.one (.int .i64 i.1.2)),.a (.one (.int .i64 i.1.1)),.z,.z,.z,.z,.z,.z,.z,.z,.z,.z,.z,.z],[]))
     (fun i=>(xs.length-i.1.1).toNat) ⟨(0,xs.length),by simp only;omega,fun i hi=>by simp at hi,rfl⟩ ?_
    rintro⟨⟨k,n⟩,hk,ha,hn⟩ ih
    simp only at hk ha hn
    have e1:rbin .add .i64 k 1=k+1:=addi (by omega) (by omega)
    by_cases hlt:k<xs.length
    ·cases hb:eqD (.int .i64) (xs.getD k.toNat (.int 0)) (ys.getD k.toNat (.int 0))with
     |false=>
      refine rx te0_ok 999 false 400 [true,true] ?_ ?_
      ·simp only[conj,z0,z2,arR,z1,hn,zd,ze,Bool.and_true,id_eq]
       refine⟨?_,by((repeat' with_reducible apply And.intro)<;>first|omega|assumption|rfl|trivial)⟩
       first
        |exact of_decide_eq_false hb
        |(show(!(eqD (.int .i64) (xs.getD k.toNat (.int 0)) (ys.getD k.toNat (.int 0))))=true
          rw[hb];rfl)
      ·exact Run.ret ti_ok rfl rfl (.a (.lbool (eqL_no (i:=k.toNat) (by omega) hb).symm))
     |true=>
      refine ra te0_ok 2 true 400 [true,false] [0,1,12,13] [13] ?_ ?_
      ·simp only[conj,z0,z2,arR,z1,hn,zd,ze,Bool.and_true,id_eq]
       refine⟨?_,by((repeat' with_reducible apply And.intro)<;>first|omega|assumption|rfl|trivial)⟩
       first
        |exact fun h=>h (odt hb)
        |(show(!(eqD (.int .i64) (xs.getD k.toNat (.int 0)) (ys.getD k.toNat (.int 0))))=false
          rw[hb];rfl)
      ·refine ih ⟨(_,_),?_⟩ ?_ _ _
       ·refine⟨?_,?_,hn⟩
        ·show 0≤rbin .add .i64 k 1∧rbin .add .i64 k 1≤xs.length
         rw[e1];omega
        ·show ∀i,i<(rbin .add .i64 k 1).toNat→_
         rw[e1]
         intro i hi
         rcases Nat.lt_or_ge i k.toNat with h|h
         ·exact ha i h
         ·obtain rfl:i=k.toNat:=by omega
          exact hb
       ·show((xs.length:Int)-rbin .add .i64 k 1).toNat<((xs.length:Int)-k).toNat
        rw[e1];omega
    ·refine rx te0_ok 999 false 400 [false] ?_ ?_
     ·simp only[conj,z0,z2,arR,z1,hn]
      omega
     ·exact Run.ret ti_ok rfl rfl (.a (.lbool (eqL_yes hl fun i hi=>ha i (by omega)).symm))
   ·refine rx te0_ok 999 false 400 [true] ?_ ?_
    ·simp only[conj,z0,z2,arR,z1]
     first|omega|skip
    ·exact Run.ret ti_ok rfl rfl (.a (.lbool (eqL_len hl).symm))
  ·cases hs
 ·cases hs
end Go.Proofs.Ytlbllaocdilafaa
