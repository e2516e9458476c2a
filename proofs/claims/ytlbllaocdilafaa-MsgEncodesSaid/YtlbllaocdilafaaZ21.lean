import Derived.Test.YtlbllaocdilafaaZ16
set_option linter.unusedSimpArgs false
set_option linter.unusedVariables false
set_option maxRecDepth 100000
set_option maxHeartbeats 40000000
namespace Go.Eng
open Go
def locs:Code→List Item→List (List Item)
 |.seq a b,k=>locs a (.code b::k)++locs b k
 |.cond _ a b,k=>locs a k++locs b k
 |.block id b,k=>locs b (.inBlock id::k)
 |.loop b,k=>(.code (.loop b)::k)::locs b (.inLoop b::k)
 |_,_=>[]
def todoAt (f:Func) (j:Nat):List Item:=(locs (f.body.getD .ret) []).getD j []
end Go.Eng
namespace Go.Eng
@[reducible] def zq300:List V:=[.z,.z,.z,.z,.z,.z,.z,.z,.z,.z,.z,.z,.z,.z,.z,.z,.z,.z,.z,.z,.z,.z,.z,.z,.z,.z,.z,.z,.z,.z,.z,.z,.z,.z,.z,.z,.z,.z,.z,.z,.z,.z,.z,.z,.z,.z,.z,.z,.z,.z,.z,.z,.z,.z,.z,.z,.z,.z,.z,.z,.z,.z,.z,.z,.z,.z,.z,.z,.z,.z,.z,.z,.z,.z,.z,.z,.z,.z,.z,.z,.z,.z,.z,.z,.z,.z,.z,.z,.z,.z,.z,.z,.z,.z,.z,.z,.z,.z,.z,.z,.z,.z,.z,.z,.z,.z,.z,.z,.z,.z,.z,.z,.z,.z,.z,.z,.z,.z,.z,.z,.z,.z,.z,.z,.z,.z,.z,.z,.z,.z,.z,.z,.z,.z,.z,.z,.z,.z,.z,.z,.z,.z,.z,.z,.z,.z,.z,.z,.z,.z,.z,.z,.z,.z,.z,.z,.z,.z,.z,.z,.z,.z,.z,.z,.z,.z,.z,.z,.z,.z,.z,.z,.z,.z,.z,.z,.z,.z,.z,.z,.z,.z,.z,.z,.z,.z,.z,.z,.z,.z,.z,.z,.z,.z,.z,.z,.z,.z,.z,.z,.z,.z,.z,.z,.z,.z,.z,.z,.z,.z,.z,.z,.z,.z,.z,.z,.z,.z,.z,.z,.z,.z,.z,.z,.z,.z,.z,.z,.z,.z,.z,.z,.z,.z,.z,.z,.z,.z,.z,.z,.z,.z,.z,.z,.z,.z,.z,.z,.z,.z,.z,.z,.z,.z,.z,.z,.z,.z,.z,.z,.z,.z,.z,.z,.z,.z,.z,.z,.z,.z,.z,.z,.z,.z,.z,.z,.z,.z,.z,.z,.z,.z,.z,.z,.z,.z,.z,.z,.z,.z,.z,.z,.z,.z,.z,.z,.z,.z,.z,.z]
end Go.Eng
namespace Go.Proofs.Ytlbllaocdilafaa
open Go Go.Eng Go.Proofs Go.RowKit
attribute[local irreducible] CallOk HOk Run TIok rbin rcmp run1 updF shfF blitF
theorem rl_7 {a0 a1 a2 a3 a4 a5t a5s:Int}{a5i:List Int}{a5p a6t a6s:Int}{a6i:List Int}{a6p:Int}{a7:ByteArray}{a8:Int}{a9 a10:Bool}{a11 a12 a13:List D}{a14 a15:List Int}{a16:List D}{a17 a18:ByteArray}{a19 a20 a21 a22:List D}{b0 b1 b2 b3 b4 b5t b5s:Int}{b5i:List Int}{b5p b6t b6s:Int}{b6i:List Int}{b6p:Int}{b7:ByteArray}{b8:Int}{b9 b10:Bool}{b11 b12 b13:List D}{b14 b15:List Int}{b16:List D}{b17 b18:ByteArray}{b19 b20 b21 b22:List D}(w:World) (n22:a22.length=b22.length) (z22:a22.length≤4611686018427387904) (hE:eqD MS (MD a0 a1 a2 a3 a4 a5t a5s a5i a5p a6t a6s a6i a6p a7 a8 a9 a10 a11 a12 a13 a14 a15 a16 a17 a18 a19 a20 a21 a22) (MD b0 b1 b2 b3 b4 b5t b5s b5i b5p b6t b6s b6i b6p b7 b8 b9 b10 b11 b12 b13 b14 b15 b16 b17 b18 b19 b20 b21 b22)=(eqD (.sl .str) (.sl a22) (.sl b22)&&true)):
 Run Try.prog (tr0 lqmR).hc w 0 Try.f35 (fun x _=>VLe x (.a (.one (.bool (eqD MS (MD a0 a1 a2 a3 a4 a5t a5s a5i a5p a6t a6s a6i a6p a7 a8 a9 a10 a11 a12 a13 a14 a15 a16 a17 a18 a19 a20 a21 a22) (MD b0 b1 b2 b3 b4 b5t b5s b5i b5p b6t b6s b6i b6p b7 b8 b9 b10 b11 b12 b13 b14 b15 b16 b17 b18 b19 b20 b21 b22)))))) ⟨(([.z,.z,.a (.one (.ptr 0 (.lit 0))),.a (.one (.ptr 1 (.lit 0))),.z,.z,.z,.z,.z,.z,.z,.z,.a (.one (.lit .i64 0)),.z,.z,.z,.z,.z,.z,.z,.z,.z,.z,.z,.z,.z,.z,.z,.z,.z]++zq300,[some ⟨false,.prt [.v MS (MD a0 a1 a2 a3 a4 a5t a5s a5i a5p a6t a6s a6i a6p a7 a8 a9 a10 a11 a12 a13 a14 a15 a16 a17 a18 a19 a20 a21 a22)]⟩,some ⟨false,.prt [.v MS (MD b0 b1 b2 b3 b4 b5t b5s b5i b5p b6t b6s b6i b6p b7 b8 b9 b10 b11 b12 b13 b14 b15 b16 b17 b18 b19 b20 b21 b22)]⟩]):List V×Heap).1,(([.z,.z,.a (.one (.ptr 0 (.lit 0))),.a (.one (.ptr 1 (.lit 0))),.z,.z,.z,.z,.z,.z,.z,.z,.a (.one (.lit .i64 0)),.z,.z,.z,.z,.z,.z,.z,.z,.z,.z,.z,.z,.z,.z,.z,.z,.z]++zq300,[some ⟨false,.prt [.v MS (MD a0 a1 a2 a3 a4 a5t a5s a5i a5p a6t a6s a6i a6p a7 a8 a9 a10 a11 a12 a13 a14 a15 a16 a17 a18 a19 a20 a21 a22)]⟩,some ⟨false,.prt [.v MS (MD b0 b1 b2 b3 b4 b5t b5s b5i b5p b6t b6s b6i b6p b7 b8 b9 b10 b11 b12 b13 b14 b15 b16 b17 b18 b19 b20 b21 b22)]⟩]):List V×Heap).2,todoAt Try.f35 7,[],[]⟩:=by
 refine Run.norm (o:=[]) (s:=[]) [12] ?_
 refine Run.loop (ι:={p:Int // (0≤p∧p≤a22.length)∧∀i,i<p.toNat→eqD (.str) (a22.getD i (.int 0)) (b22.getD i (.int 0))=true})
  (fun i=>([.z,.z,.a (.one (.ptr 0 (.lit 0))),.a (.one (.ptr 1 (.lit 0))),.z,.z,.z,.z,.z,.z,.z,.z,.a (.one (.int .i64 i.1)),.z,.z,.z,.z,.z,.z,.z,.z,.z,.z,.z,.z,.z,.z,.z,.z,.z]++zq300,[some ⟨false,.prt [.v MS (MD a0 a1 a2 a3 a4 a5t a5s a5i a5p a6t a6s a6i a6p a7 a8 a9 a10 a11 a12 a13 a14 a15 a16 a17 a18 a19 a20 a21 a22)]⟩,some ⟨false,.prt [.v MS (MD b0 b1 b2 b3 b4 b5t b5s b5i b5p b6t b6s b6i b6p b7 b8 b9 b10 b11 b12 b13 b14 b15 b16 b17 b18 b19 b20 b21 b22)]⟩]))
  (fun i=>(a22.length-i.1).toNat) ⟨0,by omega,fun i hi=>by simp at hi⟩ ?_
 rintro⟨p,hp,hq⟩ ih
 try simp only at hp hq
 have e1:rbin .add .i64 p 1=p+1:=addi (by omega) (by omega)
 by_cases hlt:p<a22.length
 ·cases hb:eqD (.str) (a22.getD p.toNat (.int 0)) (b22.getD p.toNat (.int 0))with
  |false=>
   refine rx tr0_ok 999 false 400 [true,true] ?_ ?_
   ·simp only[conj,z0,z2,arR,z1,zd,ze,Bool.and_true,id_eq]
    refine⟨?_,by((repeat' with_reducible apply And.intro)<;>first|omega|assumption|rfl|trivial)⟩
    first
     |exact of_decide_eq_false hb
     |(show(!(eqD (.str) (a22.getD p.toNat (.int 0)) (b22.getD p.toNat (.int 0))))=true
       rw[hb];rfl)
   ·refine Run.ret ti_ok rfl rfl (.a (.lbool ?_))
    rw[hE,←eqD_sl,eqL_no (i:=p.toNat) (by omega) hb,Bool.false_and]
  |true=>
   refine ra tr0_ok 2 true 400 [true,false] [2,3,12] [12] ?_ ?_
   ·simp only[conj,z0,z2,arR,z1,zd,ze,Bool.and_true,id_eq]
    refine⟨?_,by((repeat' with_reducible apply And.intro)<;>first|omega|assumption|rfl|trivial)⟩
    first
     |exact fun h=>h (odt hb)
     |(show(!(eqD (.str) (a22.getD p.toNat (.int 0)) (b22.getD p.toNat (.int 0))))=false
       rw[hb];rfl)
   ·refine ih ⟨_,?_⟩ ?_ _ _
    ·refine⟨?_,?_⟩
     ·show 0≤rbin .add .i64 p 1∧rbin .add .i64 p 1≤a22.length
      rw[e1];omega
     ·show ∀i,i<(rbin .add .i64 p 1).toNat→_
      rw[e1]
      intro i hi
      rcases Nat.lt_or_ge i p.toNat with h|h
      ·exact hq i h
      ·obtain rfl:i=p.toNat:=by omega
       exact hb
    ·show((a22.length:Int)-rbin .add .i64 p 1).toNat<((a22.length:Int)-p).toNat
     rw[e1];omega
 ·refine rx tr0_ok 999 false 400 [false] ?_ ?_
  ·simp only[conj,z0,z2,arR,z1]
   omega
  ·refine Run.ret ti_ok rfl rfl (.a (.lbool ?_))
   rw[hE,←eqD_sl,eqL_yes n22 fun i hi=>hq i (by omega)]
   rfl
theorem rl_6 {a0 a1 a2 a3 a4 a5t a5s:Int}{a5i:List Int}{a5p a6t a6s:Int}{a6i:List Int}{a6p:Int}{a7:ByteArray}{a8:Int}{a9 a10:Bool}{a11 a12 a13:List D}{a14 a15:List Int}{a16:List D}{a17 a18:ByteArray}{a19 a20 a21 a22:List D}{b0 b1 b2 b3 b4 b5t b5s:Int}{b5i:List Int}{b5p b6t b6s:Int}{b6i:List Int}{b6p:Int}{b7:ByteArray}{b8:Int}{b9 b10:Bool}{b11 b12 b13:List D}{b14 b15:List Int}{b16:List D}{b17 b18:ByteArray}{b19 b20 b21 b22:List D}(w:World) (n21:a21.length=b21.length) (z21:a21.length≤4611686018427387904) (n22:a22.length=b22.length) (z22:a22.length≤4611686018427387904) (hE:eqD MS (MD a0 a1 a2 a3 a4 a5t a5s a5i a5p a6t a6s a6i a6p a7 a8 a9 a10 a11 a12 a13 a14 a15 a16 a17 a18 a19 a20 a21 a22) (MD b0 b1 b2 b3 b4 b5t b5s b5i b5p b6t b6s b6i b6p b7 b8 b9 b10 b11 b12 b13 b14 b15 b16 b17 b18 b19 b20 b21 b22)=(eqD (.sl (.int .i64)) (.sl a21) (.sl b21)&&(eqD (.sl .str) (.sl a22) (.sl b22)&&true))):
 Run Try.prog (tr0 lqmR).hc w 0 Try.f35 (fun x _=>VLe x (.a (.one (.bool (eqD MS (MD a0 a1 a2 a3 a4 a5t a5s a5i a5p a6t a6s a6i a6p a7 a8 a9 a10 a11 a12 a13 a14 a15 a16 a17 a18 a19 a20 a21 a22) (MD b0 b1 b2 b3 b4 b5t b5s b5i b5p b6t b6s b6i b6p b7 b8 b9 b10 b11 b12 b13 b14 b15 b16 b17 b18 b19 b20 b21 b22)))))) ⟨(([.z,.z,.a (.one (.ptr 0 (.lit 0))),.a (.one (.ptr 1 (.lit 0))),.z,.z,.z,.z,.z,.z,.z,.a (.one (.lit .i64 0)),.z,.z,.z,.z,.z,.z,.z,.z,.z,.z,.z,.z,.z,.z,.z,.z,.z,.z]++zq300,[some ⟨false,.prt [.v MS (MD a0 a1 a2 a3 a4 a5t a5s a5i a5p a6t a6s a6i a6p a7 a8 a9 a10 a11 a12 a13 a14 a15 a16 a17 a18 a19 a20 a21 a22)]⟩,some ⟨false,.prt [.v MS (MD b0 b1 b2 b3 b4 b5t b5s b5i b5p b6t b6s b6i b6p b7 b8 b9 b10 b11 b12 b13 b14 b15 b16 b17 b18 b19 b20 b21 b22)]⟩]):List V×Heap).1,(([.z,.z,.a (.one (.ptr 0 (.lit 0))),.a (.one (.ptr 1 (.lit 0))),.z,.z,.z,.z,.z,.z,.z,.a (.one (.lit .i64 0)),.z,.z,.z,.z,.z,.z,.z,.z,.z,.z,.z,.z,.z,.z,.z,.z,.z,.z]++zq300,[some ⟨false,.prt [.v MS (MD a0 a1 a2 a3 a4 a5t a5s a5i a5p a6t a6s a6i a6p a7 a8 a9 a10 a11 a12 a13 a14 a15 a16 a17 a18 a19 a20 a21 a22)]⟩,some ⟨false,.prt [.v MS (MD b0 b1 b2 b3 b4 b5t b5s b5i b5p b6t b6s b6i b6p b7 b8 b9 b10 b11 b12 b13 b14 b15 b16 b17 b18 b19 b20 b21 b22)]⟩]):List V×Heap).2,todoAt Try.f35 6,[],[]⟩:=by
 refine Run.norm (o:=[]) (s:=[]) [11] ?_
 refine Run.loop (ι:={p:Int // (0≤p∧p≤a21.length)∧∀i,i<p.toNat→eqD (.int .i64) (a21.getD i (.int 0)) (b21.getD i (.int 0))=true})
  (fun i=>([.z,.z,.a (.one (.ptr 0 (.lit 0))),.a (.one (.ptr 1 (.lit 0))),.z,.z,.z,.z,.z,.z,.z,.a (.one (.int .i64 i.1)),.z,.z,.z,.z,.z,.z,.z,.z,.z,.z,.z,.z,.z,.z,.z,.z,.z,.z]++zq300,[some ⟨false,.prt [.v MS (MD a0 a1 a2 a3 a4 a5t a5s a5i a5p a6t a6s a6i a6p a7 a8 a9 a10 a11 a12 a13 a14 a15 a16 a17 a18 a19 a20 a21 a22)]⟩,some ⟨false,.prt [.v MS (MD b0 b1 b2 b3 b4 b5t b5s b5i b5p b6t b6s b6i b6p b7 b8 b9 b10 b11 b12 b13 b14 b15 b16 b17 b18 b19 b20 b21 b22)]⟩]))
  (fun i=>(a21.length-i.1).toNat) ⟨0,by omega,fun i hi=>by simp at hi⟩ ?_
 rintro⟨p,hp,hq⟩ ih
 try simp only at hp hq
 have e1:rbin .add .i64 p 1=p+1:=addi (by omega) (by omega)
 by_cases hlt:p<a21.length
 ·cases hb:eqD (.int .i64) (a21.getD p.toNat (.int 0)) (b21.getD p.toNat (.int 0))with
  |false=>
   refine rx tr0_ok 999 false 400 [true,true] ?_ ?_
   ·simp only[conj,z0,z2,arR,z1,zd,ze,Bool.and_true,id_eq]
    refine⟨?_,by((repeat' with_reducible apply And.intro)<;>first|omega|assumption|rfl|trivial)⟩
    first
     |exact of_decide_eq_false hb
     |(show(!(eqD (.int .i64) (a21.getD p.toNat (.int 0)) (b21.getD p.toNat (.int 0))))=true
       rw[hb];rfl)
   ·refine Run.ret ti_ok rfl rfl (.a (.lbool ?_))
    rw[hE,←eqD_sl,eqL_no (i:=p.toNat) (by omega) hb,Bool.false_and]
  |true=>
   refine ra tr0_ok 2 true 400 [true,false] [2,3,11] [11] ?_ ?_
   ·simp only[conj,z0,z2,arR,z1,zd,ze,Bool.and_true,id_eq]
    refine⟨?_,by((repeat' with_reducible apply And.intro)<;>first|omega|assumption|rfl|trivial)⟩
    first
     |exact fun h=>h (odt hb)
     |(show(!(eqD (.int .i64) (a21.getD p.toNat (.int 0)) (b21.getD p.toNat (.int 0))))=false
       rw[hb];rfl)
   ·refine ih ⟨_,?_⟩ ?_ _ _
    ·refine⟨?_,?_⟩
     ·show 0≤rbin .add .i64 p 1∧rbin .add .i64 p 1≤a21.length
      rw[e1];omega
     ·show ∀i,i<(rbin .add .i64 p 1).toNat→_
      rw[e1]
      intro i hi
      rcases Nat.lt_or_ge i p.toNat with h|h
      ·exact hq i h
      ·obtain rfl:i=p.toNat:=by omega
       exact hb
    ·show((a21.length:Int)-rbin .add .i64 p 1).toNat<((a21.length:Int)-p).toNat
     rw[e1];omega
 ·rw[←eqD_sl,eqL_yes n21 fun i hi=>hq i (by omega),Bool.true_and]at hE
  refine ra tr0_ok 2 false 400 [false] [2,3,12] [] ?_ ?_
  ·simp only[conj,z0,z2,arR,z1]
   omega
  ·exact rl_7 w n22 z22 hE
theorem rl_5 {a0 a1 a2 a3 a4 a5t a5s:Int}{a5i:List Int}{a5p a6t a6s:Int}{a6i:List Int}{a6p:Int}{a7:ByteArray}{a8:Int}{a9 a10:Bool}{a11 a12 a13:List D}{a14 a15:List Int}{a16:List D}{a17 a18:ByteArray}{a19 a20 a21 a22:List D}{b0 b1 b2 b3 b4 b5t b5s:Int}{b5i:List Int}{b5p b6t b6s:Int}{b6i:List Int}{b6p:Int}{b7:ByteArray}{b8:Int}{b9 b10:Bool}{b11 b12 b13:List D}{b14 b15:List Int}{b16:List D}{b17 b18:ByteArray}{b19 b20 b21 b22:List D}(w:World) (n20:a20.length=b20.length) (z20:a20.length≤4611686018427387904) (n21:a21.length=b21.length) (z21:a21.length≤4611686018427387904) (n22:a22.length=b22.length) (z22:a22.length≤4611686018427387904) (hE:eqD MS (MD a0 a1 a2 a3 a4 a5t a5s a5i a5p a6t a6s a6i a6p a7 a8 a9 a10 a11 a12 a13 a14 a15 a16 a17 a18 a19 a20 a21 a22) (MD b0 b1 b2 b3 b4 b5t b5s b5i b5p b6t b6s b6i b6p b7 b8 b9 b10 b11 b12 b13 b14 b15 b16 b17 b18 b19 b20 b21 b22)=(eqD (.sl (.two (.int .i64) .str)) (.sl a20) (.sl b20)&&(eqD (.sl (.int .i64)) (.sl a21) (.sl b21)&&(eqD (.sl .str) (.sl a22) (.sl b22)&&true)))):
 Run Try.prog (tr0 lqmR).hc w 0 Try.f35 (fun x _=>VLe x (.a (.one (.bool (eqD MS (MD a0 a1 a2 a3 a4 a5t a5s a5i a5p a6t a6s a6i a6p a7 a8 a9 a10 a11 a12 a13 a14 a15 a16 a17 a18 a19 a20 a21 a22) (MD b0 b1 b2 b3 b4 b5t b5s b5i b5p b6t b6s b6i b6p b7 b8 b9 b10 b11 b12 b13 b14 b15 b16 b17 b18 b19 b20 b21 b22)))))) ⟨(([.z,.z,.a (.one (.ptr 0 (.lit 0))),.a (.one (.ptr 1 (.lit 0))),.z,.z,.z,.z,.z,.z,.a (.one (.lit .i64 0)),.z,.z,.z,.z,.z,.z,.z,.z,.z,.z,.z,.z,.z,.z,.z,.z,.z,.z,.z]++zq300,[some ⟨false,.prt [.v MS (MD a0 a1 a2 a3 a4 a5t a5s a5i a5p a6t a6s a6i a6p a7 a8 a9 a10 a11 a12 a13 a14 a15 a16 a17 a18 a19 a20 a21 a22)]⟩,some ⟨false,.prt [.v MS (MD b0 b1 b2 b3 b4 b5t b5s b5i b5p b6t b6s b6i b6p b7 b8 b9 b10 b11 b12 b13 b14 b15 b16 b17 b18 b19 b20 b21 b22)]⟩]):List V×Heap).1,(([.z,.z,.a (.one (.ptr 0 (.lit 0))),.a (.one (.ptr 1 (.lit 0))),.z,.z,.z,.z,.z,.z,.a (.one (.lit .i64 0)),.z,.z,.z,.z,.z,.z,.z,.z,.z,.z,.z,.z,.z,.z,.z,.z,.z,.z,.z]++zq300,[some ⟨false,.prt [.v MS (MD a0 a1 a2 a3 a4 a5t a5s a5i a5p a6t a6s a6i a6p a7 a8 a9 a10 a11 a12 a13 a14 a15 a16 a17 a18 a19 a20 a21 a22)]⟩,some ⟨false,.prt [.v MS (MD b0 b1 b2 b3 b4 b5t b5s b5i b5p b6t b6s b6i b6p b7 b8 b9 b10 b11 b12 b13 b14 b15 b16 b17 b18 b19 b20 b21 b22)]⟩]):List V×Heap).2,todoAt Try.f35 5,[],[]⟩:=by
 refine Run.norm (o:=[]) (s:=[]) [10] ?_
 refine Run.loop (ι:={p:Int // (0≤p∧p≤a20.length)∧∀i,i<p.toNat→eqD (.two (.int .i64) .str) (a20.getD i (.int 0)) (b20.getD i (.int 0))=true})
  (fun i=>([.z,.z,.a (.one (.ptr 0 (.lit 0))),.a (.one (.ptr 1 (.lit 0))),.z,.z,.z,.z,.z,.z,.a (.one (.int .i64 i.1)),.z,.z,.z,.z,.z,.z,.z,.z,.z,.z,.z,.z,.z,.z,.z,.z,.z,.z,.z]++zq300,[some ⟨false,.prt [.v MS (MD a0 a1 a2 a3 a4 a5t a5s a5i a5p a6t a6s a6i a6p a7 a8 a9 a10 a11 a12 a13 a14 a15 a16 a17 a18 a19 a20 a21 a22)]⟩,some ⟨false,.prt [.v MS (MD b0 b1 b2 b3 b4 b5t b5s b5i b5p b6t b6s b6i b6p b7 b8 b9 b10 b11 b12 b13 b14 b15 b16 b17 b18 b19 b20 b21 b22)]⟩]))
  (fun i=>(a20.length-i.1).toNat) ⟨0,by omega,fun i hi=>by simp at hi⟩ ?_
 rintro⟨p,hp,hq⟩ ih
 try simp only at hp hq
 have e1:rbin .add .i64 p 1=p+1:=addi (by omega) (by omega)
 by_cases hlt:p<a20.length
 ·cases hb:eqD (.two (.int .i64) .str) (a20.getD p.toNat (.int 0)) (b20.getD p.toNat (.int 0))with
  |false=>
   refine rx tr0_ok 999 false 400 [true,true] ?_ ?_
   ·simp only[conj,z0,z2,arR,z1,zd,ze,Bool.and_true,id_eq]
    refine⟨?_,by((repeat' with_reducible apply And.intro)<;>first|omega|assumption|rfl|trivial)⟩
    first
     |exact of_decide_eq_false hb
     |(show(!(eqD (.two (.int .i64) .str) (a20.getD p.toNat (.int 0)) (b20.getD p.toNat (.int 0))))=true
       rw[hb];rfl)
   ·refine Run.ret ti_ok rfl rfl (.a (.lbool ?_))
    rw[hE,←eqD_sl,eqL_no (i:=p.toNat) (by omega) hb,Bool.false_and]
  |true=>
   refine ra tr0_ok 2 true 400 [true,false] [2,3,10] [10] ?_ ?_
   ·simp only[conj,z0,z2,arR,z1,zd,ze,Bool.and_true,id_eq]
    refine⟨?_,by((repeat' with_reducible apply And.intro)<;>first|omega|assumption|rfl|trivial)⟩
    first
     |exact fun h=>h (odt hb)
     |(show(!(eqD (.two (.int .i64) .str) (a20.getD p.toNat (.int 0)) (b20.getD p.toNat (.int 0))))=false
       rw[hb];rfl)
   ·refine ih ⟨_,?_⟩ ?_ _ _
    ·refine⟨?_,?_⟩
     ·show 0≤rbin .add .i64 p 1∧rbin .add .i64 p 1≤a20.length
      rw[e1];omega
     ·show ∀i,i<(rbin .add .i64 p 1).toNat→_
      rw[e1]
      intro i hi
      rcases Nat.lt_or_ge i p.toNat with h|h
      ·exact hq i h
      ·obtain rfl:i=p.toNat:=by omega
       exact hb
    ·show((a20.length:Int)-rbin .add .i64 p 1).toNat<((a20.length:Int)-p).toNat
     rw[e1];omega
 ·rw[←eqD_sl,eqL_yes n20 fun i hi=>hq i (by omega),Bool.true_and]at hE
  refine ra tr0_ok 2 false 400 [false] [2,3,11] [] ?_ ?_
  ·simp only[conj,z0,z2,arR,z1]
   omega
  ·exact rl_6 w n21 z21 n22 z22 hE
theorem rl_4 {a0 a1 a2 a3 a4 a5t a5s:Int}{a5i:List Int}{a5p a6t a6s:Int}{a6i:List Int}{a6p:Int}{a7:ByteArray}{a8:Int}{a9 a10:Bool}{a11 a12 a13:List D}{a14 a15:List Int}{a16:List D}{a17 a18:ByteArray}{a19 a20 a21 a22:List D}{b0 b1 b2 b3 b4 b5t b5s:Int}{b5i:List Int}{b5p b6t b6s:Int}{b6i:List Int}{b6p:Int}{b7:ByteArray}{b8:Int}{b9 b10:Bool}{b11 b12 b13:List D}{b14 b15:List Int}{b16:List D}{b17 b18:ByteArray}{b19 b20 b21 b22:List D}(w:World) (n19:a19.length=b19.length) (z19:a19.length≤4611686018427387904) (n20:a20.length=b20.length) (z20:a20.length≤4611686018427387904) (n21:a21.length=b21.length) (z21:a21.length≤4611686018427387904) (n22:a22.length=b22.length) (z22:a22.length≤4611686018427387904) (hE:eqD MS (MD a0 a1 a2 a3 a4 a5t a5s a5i a5p a6t a6s a6i a6p a7 a8 a9 a10 a11 a12 a13 a14 a15 a16 a17 a18 a19 a20 a21 a22) (MD b0 b1 b2 b3 b4 b5t b5s b5i b5p b6t b6s b6i b6p b7 b8 b9 b10 b11 b12 b13 b14 b15 b16 b17 b18 b19 b20 b21 b22)=(eqD (.sl (.int .u64)) (.sl a19) (.sl b19)&&(eqD (.sl (.two (.int .i64) .str)) (.sl a20) (.sl b20)&&(eqD (.sl (.int .i64)) (.sl a21) (.sl b21)&&(eqD (.sl .str) (.sl a22) (.sl b22)&&true))))):
 Run Try.prog (tr0 lqmR).hc w 0 Try.f35 (fun x _=>VLe x (.a (.one (.bool (eqD MS (MD a0 a1 a2 a3 a4 a5t a5s a5i a5p a6t a6s a6i a6p a7 a8 a9 a10 a11 a12 a13 a14 a15 a16 a17 a18 a19 a20 a21 a22) (MD b0 b1 b2 b3 b4 b5t b5s b5i b5p b6t b6s b6i b6p b7 b8 b9 b10 b11 b12 b13 b14 b15 b16 b17 b18 b19 b20 b21 b22)))))) ⟨(([.z,.z,.a (.one (.ptr 0 (.lit 0))),.a (.one (.ptr 1 (.lit 0))),.z,.z,.z,.z,.z,.a (.one (.lit .i64 0)),.z,.z,.z,.z,.z,.z,.z,.z,.z,.z,.z,.z,.z,.z,.z,.z,.z,.z,.z,.z]++zq300,[some ⟨false,.prt [.v MS (MD a0 a1 a2 a3 a4 a5t a5s a5i a5p a6t a6s a6i a6p a7 a8 a9 a10 a11 a12 a13 a14 a15 a16 a17 a18 a19 a20 a21 a22)]⟩,some ⟨false,.prt [.v MS (MD b0 b1 b2 b3 b4 b5t b5s b5i b5p b6t b6s b6i b6p b7 b8 b9 b10 b11 b12 b13 b14 b15 b16 b17 b18 b19 b20 b21 b22)]⟩]):List V×Heap).1,(([.z,.z,.a (.one (.ptr 0 (.lit 0))),.a (.one (.ptr 1 (.lit 0))),.z,.z,.z,.z,.z,.a (.one (.lit .i64 0)),.z,.z,.z,.z,.z,.z,.z,.z,.z,.z,.z,.z,.z,.z,.z,.z,.z,.z,.z,.z]++zq300,[some ⟨false,.prt [.v MS (MD a0 a1 a2 a3 a4 a5t a5s a5i a5p a6t a6s a6i a6p a7 a8 a9 a10 a11 a12 a13 a14 a15 a16 a17 a18 a19 a20 a21 a22)]⟩,some ⟨false,.prt [.v MS (MD b0 b1 b2 b3 b4 b5t b5s b5i b5p b6t b6s b6i b6p b7 b8 b9 b10 b11 b12 b13 b14 b15 b16 b17 b18 b19 b20 b21 b22)]⟩]):List V×Heap).2,todoAt Try.f35 4,[],[]⟩:=by
 refine Run.norm (o:=[]) (s:=[]) [9] ?_
 refine Run.loop (ι:={p:Int // (0≤p∧p≤a19.length)∧∀i,i<p.toNat→eqD (.int .u64) (a19.getD i (.int 0)) (b19.getD i (.int 0))=true})
  (fun i=>([.z,.z,.a (.one (.ptr 0 (.lit 0))),.a (.one (.ptr 1 (.lit 0))),.z,.z,.z,.z,.z,.a (.one (.int .i64 i.1)),.z,.z,.z,.z,.z,.z,.z,.z,.z,.z,.z,.z,.z,.z,.z,.z,.z,.z,.z,.z]++zq300,[some ⟨false,.prt [.v MS (MD a0 a1 a2 a3 a4 a5t a5s a5i a5p a6t a6s a6i a6p a7 a8 a9 a10 a11 a12 a13 a14 a15 a16 a17 a18 a19 a20 a21 a22)]⟩,some ⟨false,.prt [.v MS (MD b0 b1 b2 b3 b4 b5t b5s b5i b5p b6t b6s b6i b6p b7 b8 b9 b10 b11 b12 b13 b14 b15 b16 b17 b18 b19 b20 b21 b22)]⟩]))
  (fun i=>(a19.length-i.1).toNat) ⟨0,by omega,fun i hi=>by simp at hi⟩ ?_
 rintro⟨p,hp,hq⟩ ih
 try simp only at hp hq
 have e1:rbin .add .i64 p 1=p+1:=addi (by omega) (by omega)
 by_cases hlt:p<a19.length
 ·cases hb:eqD (.int .u64) (a19.getD p.toNat (.int 0)) (b19.getD p.toNat (.int 0))with
  |false=>
   refine rx tr0_ok 999 false 400 [true,true] ?_ ?_
   ·simp only[conj,z0,z2,arR,z1,zd,ze,Bool.and_true,id_eq]
    refine⟨?_,by((repeat' with_reducible apply And.intro)<;>first|omega|assumption|rfl|trivial)⟩
    first
     |exact of_decide_eq_false hb
     |(show(!(eqD (.int .u64) (a19.getD p.toNat (.int 0)) (b19.getD p.toNat (.int 0))))=true
       rw[hb];rfl)
   ·refine Run.ret ti_ok rfl rfl (.a (.lbool ?_))
    rw[hE,←eqD_sl,eqL_no (i:=p.toNat) (by omega) hb,Bool.false_and]
  |true=>
   refine ra tr0_ok 2 true 400 [true,false] [2,3,9] [9] ?_ ?_
   ·simp only[conj,z0,z2,arR,z1,zd,ze,Bool.and_true,id_eq]
    refine⟨?_,by((repeat' with_reducible apply And.intro)<;>first|omega|assumption|rfl|trivial)⟩
    first
     |exact fun h=>h (odt hb)
     |(show(!(eqD (.int .u64) (a19.getD p.toNat (.int 0)) (b19.getD p.toNat (.int 0))))=false
       rw[hb];rfl)
   ·refine ih ⟨_,?_⟩ ?_ _ _
    ·refine⟨?_,?_⟩
     ·show 0≤rbin .add .i64 p 1∧rbin .add .i64 p 1≤a19.length
      rw[e1];omega
     ·show ∀i,i<(rbin .add .i64 p 1).toNat→_
      rw[e1]
      intro i hi
      rcases Nat.lt_or_ge i p.toNat with h|h
      ·exact hq i h
      ·obtain rfl:i=p.toNat:=by omega
       exact hb
    ·show((a19.length:Int)-rbin .add .i64 p 1).toNat<((a19.length:Int)-p).toNat
     rw[e1];omega
 ·rw[←eqD_sl,eqL_yes n19 fun i hi=>hq i (by omega),Bool.true_and]at hE
  refine ra tr0_ok 2 false 400 [false] [2,3,10] [] ?_ ?_
  ·simp only[conj,z0,z2,arR,z1]
   omega
  ·exact rl_5 w n20 z20 n21 z21 n22 z22 hE
theorem rl_3 {a0 a1 a2 a3 a4 a5t a5s:Int}{a5i:List Int}{a5p a6t a6s:Int}{a6i:List Int}{a6p:Int}{a7:ByteArray}{a8:Int}{a9 a10:Bool}{a11 a12 a13:List D}{a14 a15:List Int}{a16:List D}{a17 a18:ByteArray}{a19 a20 a21 a22:List D}{b0 b1 b2 b3 b4 b5t b5s:Int}{b5i:List Int}{b5p b6t b6s:Int}{b6i:List Int}{b6p:Int}{b7:ByteArray}{b8:Int}{b9 b10:Bool}{b11 b12 b13:List D}{b14 b15:List Int}{b16:List D}{b17 b18:ByteArray}{b19 b20 b21 b22:List D}(w:World) (n16:a16.length=b16.length) (z16:a16.length≤4611686018427387904) (n19:a19.length=b19.length) (z19:a19.length≤4611686018427387904) (n20:a20.length=b20.length) (z20:a20.length≤4611686018427387904) (n21:a21.length=b21.length) (z21:a21.length≤4611686018427387904) (n22:a22.length=b22.length) (z22:a22.length≤4611686018427387904) (hE:eqD MS (MD a0 a1 a2 a3 a4 a5t a5s a5i a5p a6t a6s a6i a6p a7 a8 a9 a10 a11 a12 a13 a14 a15 a16 a17 a18 a19 a20 a21 a22) (MD b0 b1 b2 b3 b4 b5t b5s b5i b5p b6t b6s b6i b6p b7 b8 b9 b10 b11 b12 b13 b14 b15 b16 b17 b18 b19 b20 b21 b22)=(eqD (.sl .str) (.sl a16) (.sl b16)&&(eqD (.sl (.int .u64)) (.sl a19) (.sl b19)&&(eqD (.sl (.two (.int .i64) .str)) (.sl a20) (.sl b20)&&(eqD (.sl (.int .i64)) (.sl a21) (.sl b21)&&(eqD (.sl .str) (.sl a22) (.sl b22)&&true)))))):
 Run Try.prog (tr0 lqmR).hc w 0 Try.f35 (fun x _=>VLe x (.a (.one (.bool (eqD MS (MD a0 a1 a2 a3 a4 a5t a5s a5i a5p a6t a6s a6i a6p a7 a8 a9 a10 a11 a12 a13 a14 a15 a16 a17 a18 a19 a20 a21 a22) (MD b0 b1 b2 b3 b4 b5t b5s b5i b5p b6t b6s b6i b6p b7 b8 b9 b10 b11 b12 b13 b14 b15 b16 b17 b18 b19 b20 b21 b22)))))) ⟨(([.z,.z,.a (.one (.ptr 0 (.lit 0))),.a (.one (.ptr 1 (.lit 0))),.z,.z,.z,.z,.a (.one (.lit .i64 0)),.z,.z,.z,.z,.z,.z,.z,.z,.z,.z,.z,.z,.z,.z,.z,.z,.z,.z,.z,.z,.z]++zq300,[some ⟨false,.prt [.v MS (MD a0 a1 a2 a3 a4 a5t a5s a5i a5p a6t a6s a6i a6p a7 a8 a9 a10 a11 a12 a13 a14 a15 a16 a17 a18 a19 a20 a21 a22)]⟩,some ⟨false,.prt [.v MS (MD b0 b1 b2 b3 b4 b5t b5s b5i b5p b6t b6s b6i b6p b7 b8 b9 b10 b11 b12 b13 b14 b15 b16 b17 b18 b19 b20 b21 b22)]⟩]):List V×Heap).1,(([.z,.z,.a (.one (.ptr 0 (.lit 0))),.a (.one (.ptr 1 (.lit 0))),.z,.z,.z,.z,.a (.one (.lit .i64 0)),.z,.z,.z,.z,.z,.z,.z,.z,.z,.z,.z,.z,.z,.z,.z,.z,.z,.z,.z,.z,.z]++zq300,[some ⟨false,.prt [.v MS (MD a0 a1 a2 a3 a4 a5t a5s a5i a5p a6t a6s a6i a6p a7 a8 a9 a10 a11 a12 a13 a14 a15 a16 a17 a18 a19 a20 a21 a22)]⟩,some ⟨false,.prt [.v MS (MD b0 b1 b2 b3 b4 b5t b5s b5i b5p b6t b6s b6i b6p b7 b8 b9 b10 b11 b12 b13 b14 b15 b16 b17 b18 b19 b20 b21 b22)]⟩]):List V×Heap).2,todoAt Try.f35 3,[],[]⟩:=by
 refine Run.norm (o:=[]) (s:=[]) [8] ?_
 refine Run.loop (ι:={p:Int // (0≤p∧p≤a16.length)∧∀i,i<p.toNat→eqD (.str) (a16.getD i (.int 0)) (b16.getD i (.int 0))=true})
  (fun i=>([.z,.z,.a (.one (.ptr 0 (.lit 0))),.a (.one (.ptr 1 (.lit 0))),.z,.z,.z,.z,.a (.one (.int .i64 i.1)),.z,.z,.z,.z,.z,.z,.z,.z,.z,.z,.z,.z,.z,.z,.z,.z,.z,.z,.z,.z,.z]++zq300,[some ⟨false,.prt [.v MS (MD a0 a1 a2 a3 a4 a5t a5s a5i a5p a6t a6s a6i a6p a7 a8 a9 a10 a11 a12 a13 a14 a15 a16 a17 a18 a19 a20 a21 a22)]⟩,some ⟨false,.prt [.v MS (MD b0 b1 b2 b3 b4 b5t b5s b5i b5p b6t b6s b6i b6p b7 b8 b9 b10 b11 b12 b13 b14 b15 b16 b17 b18 b19 b20 b21 b22)]⟩]))
  (fun i=>(a16.length-i.1).toNat) ⟨0,by omega,fun i hi=>by simp at hi⟩ ?_
 rintro⟨p,hp,hq⟩ ih
 try simp only at hp hq
 have e1:rbin .add .i64 p 1=p+1:=addi (by omega) (by omega)
 by_cases hlt:p<a16.length
 ·cases hb:eqD (.str) (a16.getD p.toNat (.int 0)) (b16.getD p.toNat (.int 0))with
  |false=>
   refine rx tr0_ok 999 false 400 [true,true] ?_ ?_
   ·simp only[conj,z0,z2,arR,z1,zd,ze,Bool.and_true,id_eq]
    refine⟨?_,by((repeat' with_reducible apply And.intro)<;>first|omega|assumption|rfl|trivial)⟩
    first
     |exact of_decide_eq_false hb
     |(show(!(eqD (.str) (a16.getD p.toNat (.int 0)) (b16.getD p.toNat (.int 0))))=true
       rw[hb];rfl)
   ·refine Run.ret ti_ok rfl rfl (.a (.lbool ?_))
    rw[hE,←eqD_sl,eqL_no (i:=p.toNat) (by omega) hb,Bool.false_and]
  |true=>
   refine ra tr0_ok 2 true 400 [true,false] [2,3,8] [8] ?_ ?_
   ·simp only[conj,z0,z2,arR,z1,zd,ze,Bool.and_true,id_eq]
    refine⟨?_,by((repeat' with_reducible apply And.intro)<;>first|omega|assumption|rfl|trivial)⟩
    first
     |exact fun h=>h (odt hb)
     |(show(!(eqD (.str) (a16.getD p.toNat (.int 0)) (b16.getD p.toNat (.int 0))))=false
       rw[hb];rfl)
   ·refine ih ⟨_,?_⟩ ?_ _ _
    ·refine⟨?_,?_⟩
     ·show 0≤rbin .add .i64 p 1∧rbin .add .i64 p 1≤a16.length
      rw[e1];omega
     ·show ∀i,i<(rbin .add .i64 p 1).toNat→_
      rw[e1]
      intro i hi
      rcases Nat.lt_or_ge i p.toNat with h|h
      ·exact hq i h
      ·obtain rfl:i=p.toNat:=by omega
       exact hb
    ·show((a16.length:Int)-rbin .add .i64 p 1).toNat<((a16.length:Int)-p).toNat
     rw[e1];omega
 ·rw[←eqD_sl,eqL_yes n16 fun i hi=>hq i (by omega),Bool.true_and]at hE
  refine ra tr0_ok 2 false 400 [false] [2,3,9] [] ?_ ?_
  ·simp only[conj,z0,z2,arR,z1]
   omega
  ·exact rl_4 w n19 z19 n20 z20 n21 z21 n22 z22 hE
theorem rl_2 {a0 a1 a2 a3 a4 a5t a5s:Int}{a5i:List Int}{a5p a6t a6s:Int}{a6i:List Int}{a6p:Int}{a7:ByteArray}{a8:Int}{a9 a10:Bool}{a11 a12 a13:List D}{a14 a15:List Int}{a16:List D}{a17 a18:ByteArray}{a19 a20 a21 a22:List D}{b0 b1 b2 b3 b4 b5t b5s:Int}{b5i:List Int}{b5p b6t b6s:Int}{b6i:List Int}{b6p:Int}{b7:ByteArray}{b8:Int}{b9 b10:Bool}{b11 b12 b13:List D}{b14 b15:List Int}{b16:List D}{b17 b18:ByteArray}{b19 b20 b21 b22:List D}(w:World) (n13:a13.length=b13.length) (z13:a13.length≤4611686018427387904) (n16:a16.length=b16.length) (z16:a16.length≤4611686018427387904) (n19:a19.length=b19.length) (z19:a19.length≤4611686018427387904) (n20:a20.length=b20.length) (z20:a20.length≤4611686018427387904) (n21:a21.length=b21.length) (z21:a21.length≤4611686018427387904) (n22:a22.length=b22.length) (z22:a22.length≤4611686018427387904) (hE:eqD MS (MD a0 a1 a2 a3 a4 a5t a5s a5i a5p a6t a6s a6i a6p a7 a8 a9 a10 a11 a12 a13 a14 a15 a16 a17 a18 a19 a20 a21 a22) (MD b0 b1 b2 b3 b4 b5t b5s b5i b5p b6t b6s b6i b6p b7 b8 b9 b10 b11 b12 b13 b14 b15 b16 b17 b18 b19 b20 b21 b22)=(eqD (.sl (.arr .u8 32)) (.sl a13) (.sl b13)&&(eqD (.sl .str) (.sl a16) (.sl b16)&&(eqD (.sl (.int .u64)) (.sl a19) (.sl b19)&&(eqD (.sl (.two (.int .i64) .str)) (.sl a20) (.sl b20)&&(eqD (.sl (.int .i64)) (.sl a21) (.sl b21)&&(eqD (.sl .str) (.sl a22) (.sl b22)&&true))))))):
 Run Try.prog (tr0 lqmR).hc w 0 Try.f35 (fun x _=>VLe x (.a (.one (.bool (eqD MS (MD a0 a1 a2 a3 a4 a5t a5s a5i a5p a6t a6s a6i a6p a7 a8 a9 a10 a11 a12 a13 a14 a15 a16 a17 a18 a19 a20 a21 a22) (MD b0 b1 b2 b3 b4 b5t b5s b5i b5p b6t b6s b6i b6p b7 b8 b9 b10 b11 b12 b13 b14 b15 b16 b17 b18 b19 b20 b21 b22)))))) ⟨(([.z,.z,.a (.one (.ptr 0 (.lit 0))),.a (.one (.ptr 1 (.lit 0))),.z,.z,.z,.a (.one (.lit .i64 0)),.z,.z,.z,.z,.z,.z,.z,.z,.z,.z,.z,.z,.z,.z,.z,.z,.z,.z,.z,.z,.z,.z]++zq300,[some ⟨false,.prt [.v MS (MD a0 a1 a2 a3 a4 a5t a5s a5i a5p a6t a6s a6i a6p a7 a8 a9 a10 a11 a12 a13 a14 a15 a16 a17 a18 a19 a20 a21 a22)]⟩,some ⟨false,.prt [.v MS (MD b0 b1 b2 b3 b4 b5t b5s b5i b5p b6t b6s b6i b6p b7 b8 b9 b10 b11 b12 b13 b14 b15 b16 b17 b18 b19 b20 b21 b22)]⟩]):List V×Heap).1,(([.z,.z,.a (.one (.ptr 0 (.lit 0))),.a (.one (.ptr 1 (.lit 0))),.z,.z,.z,.a (.one (.lit .i64 0)),.z,.z,.z,.z,.z,.z,.z,.z,.z,.z,.z,.z,.z,.z,.z,.z,.z,.z,.z,.z,.z,.z]++zq300,[some ⟨false,.prt [.v MS (MD a0 a1 a2 a3 a4 a5t a5s a5i a5p a6t a6s a6i a6p a7 a8 a9 a10 a11 a12 a13 a14 a15 a16 a17 a18 a19 a20 a21 a22)]⟩,some ⟨false,.prt [.v MS (MD b0 b1 b2 b3 b4 b5t b5s b5i b5p b6t b6s b6i b6p b7 b8 b9 b10 b11 b12 b13 b14 b15 b16 b17 b18 b19 b20 b21 b22)]⟩]):List V×Heap).2,todoAt Try.f35 2,[],[]⟩:=by
 refine Run.norm (o:=[]) (s:=[]) [7] ?_
 refine Run.loop (ι:={p:Int // (0≤p∧p≤a13.length)∧∀i,i<p.toNat→eqD (.arr .u8 32) (a13.getD i (.int 0)) (b13.getD i (.int 0))=true})
  (fun i=>([.z,.z,.a (.one (.ptr 0 (.lit 0))),.a (.one (.ptr 1 (.lit 0))),.z,.z,.z,.a (.one (.int .i64 i.1)),.z,.z,.z,.z,.z,.z,.z,.z,.z,.z,.z,.z,.z,.z,.z,.z,.z,.z,.z,.z,.z,.z]++zq300,[some ⟨false,.prt [.v MS (MD a0 a1 a2 a3 a4 a5t a5s a5i a5p a6t a6s a6i a6p a7 a8 a9 a10 a11 a12 a13 a14 a15 a16 a17 a18 a19 a20 a21 a22)]⟩,some ⟨false,.prt [.v MS (MD b0 b1 b2 b3 b4 b5t b5s b5i b5p b6t b6s b6i b6p b7 b8 b9 b10 b11 b12 b13 b14 b15 b16 b17 b18 b19 b20 b21 b22)]⟩]))
  (fun i=>(a13.length-i.1).toNat) ⟨0,by omega,fun i hi=>by simp at hi⟩ ?_
 rintro⟨p,hp,hq⟩ ih
 try simp only at hp hq
 have e1:rbin .add .i64 p 1=p+1:=addi (by omega) (by omega)
 by_cases hlt:p<a13.length
 ·cases hb:eqD (.arr .u8 32) (a13.getD p.toNat (.int 0)) (b13.getD p.toNat (.int 0))with
  |false=>
   refine rx tr0_ok 999 false 400 [true,true] ?_ ?_
   ·simp only[conj,z0,z2,arR,z1,zd,ze,Bool.and_true,id_eq]
    refine⟨?_,by((repeat' with_reducible apply And.intro)<;>first|omega|assumption|rfl|trivial)⟩
    first
     |exact of_decide_eq_false hb
     |(show(!(eqD (.arr .u8 32) (a13.getD p.toNat (.int 0)) (b13.getD p.toNat (.int 0))))=true
       rw[hb];rfl)
   ·refine Run.ret ti_ok rfl rfl (.a (.lbool ?_))
    rw[hE,←eqD_sl,eqL_no (i:=p.toNat) (by omega) hb,Bool.false_and]
  |true=>
   refine ra tr0_ok 2 true 400 [true,false] [2,3,7] [7] ?_ ?_
   ·simp only[conj,z0,z2,arR,z1,zd,ze,Bool.and_true,id_eq]
    refine⟨?_,by((repeat' with_reducible apply And.intro)<;>first|omega|assumption|rfl|trivial)⟩
    first
     |exact fun h=>h (odt hb)
     |(show(!(eqD (.arr .u8 32) (a13.getD p.toNat (.int 0)) (b13.getD p.toNat (.int 0))))=false
       rw[hb];rfl)
   ·refine ih ⟨_,?_⟩ ?_ _ _
    ·refine⟨?_,?_⟩
     ·show 0≤rbin .add .i64 p 1∧rbin .add .i64 p 1≤a13.length
      rw[e1];omega
     ·show ∀i,i<(rbin .add .i64 p 1).toNat→_
      rw[e1]
      intro i hi
      rcases Nat.lt_or_ge i p.toNat with h|h
      ·exact hq i h
      ·obtain rfl:i=p.toNat:=by omega
       exact hb
    ·show((a13.length:Int)-rbin .add .i64 p 1).toNat<((a13.length:Int)-p).toNat
     rw[e1];omega
 ·rw[←eqD_sl,eqL_yes n13 fun i hi=>hq i (by omega),Bool.true_and]at hE
  refine ra tr0_ok 2 false 400 [false] [2,3,8] [] ?_ ?_
  ·simp only[conj,z0,z2,arR,z1]
   omega
  ·exact rl_3 w n16 z16 n19 z19 n20 z20 n21 z21 n22 z22 hE
theorem rl_1 {a0 a1 a2 a3 a4 a5t a5s:Int}{a5i:List Int}{a5p a6t a6s:Int}{a6i:List Int}{a6p:Int}{a7:ByteArray}{a8:Int}{a9 a10:Bool}{a11 a12 a13:List D}{a14 a15:List Int}{a16:List D}{a17 a18:ByteArray}{a19 a20 a21 a22:List D}{b0 b1 b2 b3 b4 b5t b5s:Int}{b5i:List Int}{b5p b6t b6s:Int}{b6i:List Int}{b6p:Int}{b7:ByteArray}{b8:Int}{b9 b10:Bool}{b11 b12 b13:List D}{b14 b15:List Int}{b16:List D}{b17 b18:ByteArray}{b19 b20 b21 b22:List D}(w:World) (n12:a12.length=b12.length) (z12:a12.length≤4611686018427387904) (n13:a13.length=b13.length) (z13:a13.length≤4611686018427387904) (n16:a16.length=b16.length) (z16:a16.length≤4611686018427387904) (n19:a19.length=b19.length) (z19:a19.length≤4611686018427387904) (n20:a20.length=b20.length) (z20:a20.length≤4611686018427387904) (n21:a21.length=b21.length) (z21:a21.length≤4611686018427387904) (n22:a22.length=b22.length) (z22:a22.length≤4611686018427387904) (hE:eqD MS (MD a0 a1 a2 a3 a4 a5t a5s a5i a5p a6t a6s a6i a6p a7 a8 a9 a10 a11 a12 a13 a14 a15 a16 a17 a18 a19 a20 a21 a22) (MD b0 b1 b2 b3 b4 b5t b5s b5i b5p b6t b6s b6i b6p b7 b8 b9 b10 b11 b12 b13 b14 b15 b16 b17 b18 b19 b20 b21 b22)=(eqD (.sl (.two (.int .u32) (.arr .u8 32))) (.sl a12) (.sl b12)&&(eqD (.sl (.arr .u8 32)) (.sl a13) (.sl b13)&&(eqD (.sl .str) (.sl a16) (.sl b16)&&(eqD (.sl (.int .u64)) (.sl a19) (.sl b19)&&(eqD (.sl (.two (.int .i64) .str)) (.sl a20) (.sl b20)&&(eqD (.sl (.int .i64)) (.sl a21) (.sl b21)&&(eqD (.sl .str) (.sl a22) (.sl b22)&&true)))))))):
 Run Try.prog (tr0 lqmR).hc w 0 Try.f35 (fun x _=>VLe x (.a (.one (.bool (eqD MS (MD a0 a1 a2 a3 a4 a5t a5s a5i a5p a6t a6s a6i a6p a7 a8 a9 a10 a11 a12 a13 a14 a15 a16 a17 a18 a19 a20 a21 a22) (MD b0 b1 b2 b3 b4 b5t b5s b5i b5p b6t b6s b6i b6p b7 b8 b9 b10 b11 b12 b13 b14 b15 b16 b17 b18 b19 b20 b21 b22)))))) ⟨(([.z,.z,.a (.one (.ptr 0 (.lit 0))),.a (.one (.ptr 1 (.lit 0))),.z,.z,.a (.one (.lit .i64 0)),.z,.z,.z,.z,.z,.z,.z,.z,.z,.z,.z,.z,.z,.z,.z,.z,.z,.z,.z,.z,.z,.z,.z]++zq300,[some ⟨false,.prt [.v MS (MD a0 a1 a2 a3 a4 a5t a5s a5i a5p a6t a6s a6i a6p a7 a8 a9 a10 a11 a12 a13 a14 a15 a16 a17 a18 a19 a20 a21 a22)]⟩,some ⟨false,.prt [.v MS (MD b0 b1 b2 b3 b4 b5t b5s b5i b5p b6t b6s b6i b6p b7 b8 b9 b10 b11 b12 b13 b14 b15 b16 b17 b18 b19 b20 b21 b22)]⟩]):List V×Heap).1,(([.z,.z,.a (.one (.ptr 0 (.lit 0))),.a (.one (.ptr 1 (.lit 0))),.z,.z,.a (.one (.lit .i64 0)),.z,.z,.z,.z,.z,.z,.z,.z,.z,.z,.z,.z,.z,.z,.z,.z,.z,.z,.z,.z,.z,.z,.z]++zq300,[some ⟨false,.prt [.v MS (MD a0 a1 a2 a3 a4 a5t a5s a5i a5p a6t a6s a6i a6p a7 a8 a9 a10 a11 a12 a13 a14 a15 a16 a17 a18 a19 a20 a21 a22)]⟩,some ⟨false,.prt [.v MS (MD b0 b1 b2 b3 b4 b5t b5s b5i b5p b6t b6s b6i b6p b7 b8 b9 b10 b11 b12 b13 b14 b15 b16 b17 b18 b19 b20 b21 b22)]⟩]):List V×Heap).2,todoAt Try.f35 1,[],[]⟩:=by
 refine Run.norm (o:=[]) (s:=[]) [6] ?_
 refine Run.loop (ι:={p:Int // (0≤p∧p≤a12.length)∧∀i,i<p.toNat→eqD (.two (.int .u32) (.arr .u8 32)) (a12.getD i (.int 0)) (b12.getD i (.int 0))=true})
  (fun i=>([.z,.z,.a (.one (.ptr 0 (.lit 0))),.a (.one (.ptr 1 (.lit 0))),.z,.z,.a (.one (.int .i64 i.1)),.z,.z,.z,.z,.z,.z,.z,.z,.z,.z,.z,.z,.z,.z,.z,.z,.z,.z,.z,.z,.z,.z,.z]++zq300,[some ⟨false,.prt [.v MS (MD a0 a1 a2 a3 a4 a5t a5s a5i a5p a6t a6s a6i a6p a7 a8 a9 a10 a11 a12 a13 a14 a15 a16 a17 a18 a19 a20 a21 a22)]⟩,some ⟨false,.prt [.v MS (MD b0 b1 b2 b3 b4 b5t b5s b5i b5p b6t b6s b6i b6p b7 b8 b9 b10 b11 b12 b13 b14 b15 b16 b17 b18 b19 b20 b21 b22)]⟩]))
  (fun i=>(a12.length-i.1).toNat) ⟨0,by omega,fun i hi=>by simp at hi⟩ ?_
 rintro⟨p,hp,hq⟩ ih
 try simp only at hp hq
 have e1:rbin .add .i64 p 1=p+1:=addi (by omega) (by omega)
 by_cases hlt:p<a12.length
 ·cases hb:eqD (.two (.int .u32) (.arr .u8 32)) (a12.getD p.toNat (.int 0)) (b12.getD p.toNat (.int 0))with
  |false=>
   refine rx tr0_ok 999 false 400 [true,true] ?_ ?_
   ·simp only[conj,z0,z2,arR,z1,zd,ze,Bool.and_true,id_eq]
    refine⟨?_,by((repeat' with_reducible apply And.intro)<;>first|omega|assumption|rfl|trivial)⟩
    first
     |exact of_decide_eq_false hb
     |(show(!(eqD (.two (.int .u32) (.arr .u8 32)) (a12.getD p.toNat (.int 0)) (b12.getD p.toNat (.int 0))))=true
       rw[hb];rfl)
   ·refine Run.ret ti_ok rfl rfl (.a (.lbool ?_))
    rw[hE,←eqD_sl,eqL_no (i:=p.toNat) (by omega) hb,Bool.false_and]
  |true=>
   refine ra tr0_ok 2 true 400 [true,false] [2,3,6] [6] ?_ ?_
   ·simp only[conj,z0,z2,arR,z1,zd,ze,Bool.and_true,id_eq]
    refine⟨?_,by((repeat' with_reducible apply And.intro)<;>first|omega|assumption|rfl|trivial)⟩
    first
     |exact fun h=>h (odt hb)
     |(show(!(eqD (.two (.int .u32) (.arr .u8 32)) (a12.getD p.toNat (.int 0)) (b12.getD p.toNat (.int 0))))=false
       rw[hb];rfl)
   ·refine ih ⟨_,?_⟩ ?_ _ _
    ·refine⟨?_,?_⟩
     ·show 0≤rbin .add .i64 p 1∧rbin .add .i64 p 1≤a12.length
      rw[e1];omega
     ·show ∀i,i<(rbin .add .i64 p 1).toNat→_
      rw[e1]
      intro i hi
      rcases Nat.lt_or_ge i p.toNat with h|h
      ·exact hq i h
      ·obtain rfl:i=p.toNat:=by omega
       exact hb
    ·show((a12.length:Int)-rbin .add .i64 p 1).toNat<((a12.length:Int)-p).toNat
     rw[e1];omega
 ·rw[←eqD_sl,eqL_yes n12 fun i hi=>hq i (by omega),Bool.true_and]at hE
  refine ra tr0_ok 2 false 400 [false] [2,3,7] [] ?_ ?_
  ·simp only[conj,z0,z2,arR,z1]
   omega
  ·exact rl_2 w n13 z13 n16 z16 n19 z19 n20 z20 n21 z21 n22 z22 hE
theorem rl_0 {a0 a1 a2 a3 a4 a5t a5s:Int}{a5i:List Int}{a5p a6t a6s:Int}{a6i:List Int}{a6p:Int}{a7:ByteArray}{a8:Int}{a9 a10:Bool}{a11 a12 a13:List D}{a14 a15:List Int}{a16:List D}{a17 a18:ByteArray}{a19 a20 a21 a22:List D}{b0 b1 b2 b3 b4 b5t b5s:Int}{b5i:List Int}{b5p b6t b6s:Int}{b6i:List Int}{b6p:Int}{b7:ByteArray}{b8:Int}{b9 b10:Bool}{b11 b12 b13:List D}{b14 b15:List Int}{b16:List D}{b17 b18:ByteArray}{b19 b20 b21 b22:List D}(w:World) (n11:a11.length=b11.length) (z11:a11.length≤4611686018427387904) (n12:a12.length=b12.length) (z12:a12.length≤4611686018427387904) (n13:a13.length=b13.length) (z13:a13.length≤4611686018427387904) (n16:a16.length=b16.length) (z16:a16.length≤4611686018427387904) (n19:a19.length=b19.length) (z19:a19.length≤4611686018427387904) (n20:a20.length=b20.length) (z20:a20.length≤4611686018427387904) (n21:a21.length=b21.length) (z21:a21.length≤4611686018427387904) (n22:a22.length=b22.length) (z22:a22.length≤4611686018427387904) (hE:eqD MS (MD a0 a1 a2 a3 a4 a5t a5s a5i a5p a6t a6s a6i a6p a7 a8 a9 a10 a11 a12 a13 a14 a15 a16 a17 a18 a19 a20 a21 a22) (MD b0 b1 b2 b3 b4 b5t b5s b5i b5p b6t b6s b6i b6p b7 b8 b9 b10 b11 b12 b13 b14 b15 b16 b17 b18 b19 b20 b21 b22)=(eqD (.sl (.two (.int .u32) (.two (.int .u64) (.two (.arr .u8 16) (.int .u16))))) (.sl a11) (.sl b11)&&(eqD (.sl (.two (.int .u32) (.arr .u8 32))) (.sl a12) (.sl b12)&&(eqD (.sl (.arr .u8 32)) (.sl a13) (.sl b13)&&(eqD (.sl .str) (.sl a16) (.sl b16)&&(eqD (.sl (.int .u64)) (.sl a19) (.sl b19)&&(eqD (.sl (.two (.int .i64) .str)) (.sl a20) (.sl b20)&&(eqD (.sl (.int .i64)) (.sl a21) (.sl b21)&&(eqD (.sl .str) (.sl a22) (.sl b22)&&true))))))))):
 Run Try.prog (tr0 lqmR).hc w 0 Try.f35 (fun x _=>VLe x (.a (.one (.bool (eqD MS (MD a0 a1 a2 a3 a4 a5t a5s a5i a5p a6t a6s a6i a6p a7 a8 a9 a10 a11 a12 a13 a14 a15 a16 a17 a18 a19 a20 a21 a22) (MD b0 b1 b2 b3 b4 b5t b5s b5i b5p b6t b6s b6i b6p b7 b8 b9 b10 b11 b12 b13 b14 b15 b16 b17 b18 b19 b20 b21 b22)))))) ⟨(([.z,.z,.a (.one (.ptr 0 (.lit 0))),.a (.one (.ptr 1 (.lit 0))),.z,.a (.one (.lit .i64 0)),.z,.z,.z,.z,.z,.z,.z,.z,.z,.z,.z,.z,.z,.z,.z,.z,.z,.z,.z,.z,.z,.z,.z,.z]++zq300,[some ⟨false,.prt [.v MS (MD a0 a1 a2 a3 a4 a5t a5s a5i a5p a6t a6s a6i a6p a7 a8 a9 a10 a11 a12 a13 a14 a15 a16 a17 a18 a19 a20 a21 a22)]⟩,some ⟨false,.prt [.v MS (MD b0 b1 b2 b3 b4 b5t b5s b5i b5p b6t b6s b6i b6p b7 b8 b9 b10 b11 b12 b13 b14 b15 b16 b17 b18 b19 b20 b21 b22)]⟩]):List V×Heap).1,(([.z,.z,.a (.one (.ptr 0 (.lit 0))),.a (.one (.ptr 1 (.lit 0))),.z,.a (.one (.lit .i64 0)),.z,.z,.z,.z,.z,.z,.z,.z,.z,.z,.z,.z,.z,.z,.z,.z,.z,.z,.z,.z,.z,.z,.z,.z]++zq300,[some ⟨false,.prt [.v MS (MD a0 a1 a2 a3 a4 a5t a5s a5i a5p a6t a6s a6i a6p a7 a8 a9 a10 a11 a12 a13 a14 a15 a16 a17 a18 a19 a20 a21 a22)]⟩,some ⟨false,.prt [.v MS (MD b0 b1 b2 b3 b4 b5t b5s b5i b5p b6t b6s b6i b6p b7 b8 b9 b10 b11 b12 b13 b14 b15 b16 b17 b18 b19 b20 b21 b22)]⟩]):List V×Heap).2,todoAt Try.f35 0,[],[]⟩:=by
 refine Run.norm (o:=[]) (s:=[]) [5] ?_
 refine Run.loop (ι:={p:Int // (0≤p∧p≤a11.length)∧∀i,i<p.toNat→eqD (.two (.int .u32) (.two (.int .u64) (.two (.arr .u8 16) (.int .u16)))) (a11.getD i (.int 0)) (b11.getD i (.int 0))=true})
  (fun i=>([.z,.z,.a (.one (.ptr 0 (.lit 0))),.a (.one (.ptr 1 (.lit 0))),.z,.a (.one (.int .i64 i.1)),.z,.z,.z,.z,.z,.z,.z,.z,.z,.z,.z,.z,.z,.z,.z,.z,.z,.z,.z,.z,.z,.z,.z,.z]++zq300,[some ⟨false,.prt [.v MS (MD a0 a1 a2 a3 a4 a5t a5s a5i a5p a6t a6s a6i a6p a7 a8 a9 a10 a11 a12 a13 a14 a15 a16 a17 a18 a19 a20 a21 a22)]⟩,some ⟨false,.prt [.v MS (MD b0 b1 b2 b3 b4 b5t b5s b5i b5p b6t b6s b6i b6p b7 b8 b9 b10 b11 b12 b13 b14 b15 b16 b17 b18 b19 b20 b21 b22)]⟩]))
  (fun i=>(a11.length-i.1).toNat) ⟨0,by omega,fun i hi=>by simp at hi⟩ ?_
 rintro⟨p,hp,hq⟩ ih
 try simp only at hp hq
 have e1:rbin .add .i64 p 1=p+1:=addi (by omega) (by omega)
 by_cases hlt:p<a11.length
 ·cases hb:eqD (.two (.int .u32) (.two (.int .u64) (.two (.arr .u8 16) (.int .u16)))) (a11.getD p.toNat (.int 0)) (b11.getD p.toNat (.int 0))with
  |false=>
   refine rx tr0_ok 999 false 400 [true,true] ?_ ?_
   ·simp only[conj,z0,z2,arR,z1,zd,ze,Bool.and_true,id_eq]
    refine⟨?_,by((repeat' with_reducible apply And.intro)<;>first|omega|assumption|rfl|trivial)⟩
    first
     |exact of_decide_eq_false hb
     |(show(!(eqD (.two (.int .u32) (.two (.int .u64) (.two (.arr .u8 16) (.int .u16)))) (a11.getD p.toNat (.int 0)) (b11.getD p.toNat (.int 0))))=true
       rw[hb];rfl)
   ·refine Run.ret ti_ok rfl rfl (.a (.lbool ?_))
    rw[hE,←eqD_sl,eqL_no (i:=p.toNat) (by omega) hb,Bool.false_and]
  |true=>
   refine ra tr0_ok 2 true 400 [true,false] [2,3,5] [5] ?_ ?_
   ·simp only[conj,z0,z2,arR,z1,zd,ze,Bool.and_true,id_eq]
    refine⟨?_,by((repeat' with_reducible apply And.intro)<;>first|omega|assumption|rfl|trivial)⟩
    first
     |exact fun h=>h (odt hb)
     |(show(!(eqD (.two (.int .u32) (.two (.int .u64) (.two (.arr .u8 16) (.int .u16)))) (a11.getD p.toNat (.int 0)) (b11.getD p.toNat (.int 0))))=false
       rw[hb];rfl)
   ·refine ih ⟨_,?_⟩ ?_ _ _
    ·refine⟨?_,?_⟩
     ·show 0≤rbin .add .i64 p 1∧rbin .add .i64 p 1≤a11.length
      rw[e1];omega
     ·show ∀i,i<(rbin .add .i64 p 1).toNat→_
      rw[e1]
      intro i hi
      rcases Nat.lt_or_ge i p.toNat with h|h
      ·exact hq i h
      ·obtain rfl:i=p.toNat:=by omega
       exact hb
    ·show((a11.length:Int)-rbin .add .i64 p 1).toNat<((a11.length:Int)-p).toNat
     rw[e1];omega
 ·rw[←eqD_sl,eqL_yes n11 fun i hi=>hq i (by omega),Bool.true_and]at hE
  refine ra tr0_ok 2 false 400 [false] [2,3,6] [] ?_ ?_
  ·simp only[conj,z0,z2,arR,z1]
   omega
  ·exact rl_1 w n12 z12 n13 z13 n16 z16 n19 z19 n20 z20 n21 z21 n22 z22 hE
end Go.Proofs.Ytlbllaocdilafaa
