import Derived.Test.YtlbllaocdilafaaZ22
import Derived.Test.YtlbllaocdilafaaZ21
set_option linter.unusedSimpArgs false
set_option linter.unusedVariables false
set_option maxRecDepth 100000
set_option maxHeartbeats 40000000
namespace Go.Eng
open Go
structure LMf where
 mFit:D→Prop
def lmf:LMf:=⟨mFit⟩
end Go.Eng
namespace Go.Eng
@[reducible] def zq140:List V:=[.z,.z,.z,.z,.z,.z,.z,.z,.z,.z,.z,.z,.z,.z,.z,.z,.z,.z,.z,.z,.z,.z,.z,.z,.z,.z,.z,.z,.z,.z,.z,.z,.z,.z,.z,.z,.z,.z,.z,.z,.z,.z,.z,.z,.z,.z,.z,.z,.z,.z,.z,.z,.z,.z,.z,.z,.z,.z,.z,.z,.z,.z,.z,.z,.z,.z,.z,.z,.z,.z,.z,.z,.z,.z,.z,.z,.z,.z,.z,.z,.z,.z,.z,.z,.z,.z,.z,.z,.z,.z,.z,.z,.z,.z,.z,.z,.z,.z,.z,.z,.z,.z,.z,.z,.z,.z,.z,.z,.z,.z,.z,.z,.z,.z,.z,.z,.z,.z,.z,.z,.z,.z,.z,.z,.z,.z,.z,.z,.z,.z,.z,.z,.z,.z,.z,.z,.z,.z,.z,.z]
end Go.Eng
namespace Go.Proofs.Ytlbllaocdilafaa
open Go Go.Eng Go.Proofs Go.RowKit
attribute[local irreducible] CallOk HOk Run TIok rbin rcmp run1 updF shfF blitF
def tv0 (lf:LN3):Tbl:=tbL [(65,sNet lf)] []
theorem tv0_ok:TblOk Try.prog (tv0 ln3):=tbL_ok (mc ⟨net_ok,nofun⟩) nofun
theorem rf_3 (w:World) {a0 a1 a2 a3 a4 a5t a5s:Int}{a5i:List Int}{a5p a6t a6s:Int}{a6i:List Int}{a6p:Int}{a7:ByteArray}{a8:Int}{a9 a10:Bool}{a11 a12 a13:List D}{a14 a15:List Int}{a16:List D}{a17 a18:ByteArray}{a19 a20 a21 a22:List D}(f11:∀x∈a11,nrmD NS x=x) (f12:∀x∈a12,nrmD (.two (.int .u32) (.arr .u8 32)) x=x) (f13:∀x∈a13,nrmD (.arr .u8 32) x=x) (f20:∀x∈a20,nrmD (.two (.int .i64) .str) x=x) (z11:a11.length*40≤140737488351232) (z12:a12.length*36≤140737488351232) (z13:a13.length*32≤140737488351232) (z20:a20.length*24≤140737488351232) (z16:a16.length*16≤140737488351232) (z19:a19.length*8≤140737488351232) (z21:a21.length*8≤140737488351232) (z22:a22.length*16≤140737488351232):Run Try.prog (tv0 ln3).hc w 0 Try.f36 (fun x _=>VLe x (.a (.agg (.prt [.v MS (MD a0 a1 a2 a3 a4 a5t a5s a5i a5p a6t a6s a6i a6p a7 a8 a9 a10 a11 a12 a13 a14 a15 a16 a17 a18 a19 a20 a21 a22)])))) ⟨(([.z,.a (.one (.ptr 0 (.lit 0))),.a (.one (.ptr 1 (.lit 0))),.a (.one (.ptr 2 (.lit 0))),.z,.z,.z,.a (.one (.lit .i64 0)),.z,.z,.z]++zq140,[some ⟨false,.prt [.v MS (MD a0 a1 a2 a3 a4 a5t a5s a5i a5p a6t a6s a6i a6p a7 a8 a9 a10 a11 a12 a13 a14 a15 a16 a17 a18 a19 a20 a21 a22)]⟩,some ⟨false,.prt [.c (.int .i64 0),.c (.int .u32 0),.c (.int .u64 0),.c (.int .u64 0),.c (.int .i64 0),.v NS (.pair (.int 0) (.pair (.int 0) (.pair (.row [0,0,0,0,0,0,0,0,0,0,0,0,0,0,0,0]) (.int 0)))),.v NS (.pair (.int 0) (.pair (.int 0) (.pair (.row [0,0,0,0,0,0,0,0,0,0,0,0,0,0,0,0]) (.int 0)))),.c (.str .empty),.c (.int .u32 0),.c (.bool false),.c (.bool false),.c .nsl,.c .nsl,.c .nsl,.v (.arr .u8 32) (.row [0,0,0,0,0,0,0,0,0,0,0,0,0,0,0,0,0,0,0,0,0,0,0,0,0,0,0,0,0,0,0,0]),.v (.arr .u8 32) (.row [0,0,0,0,0,0,0,0,0,0,0,0,0,0,0,0,0,0,0,0,0,0,0,0,0,0,0,0,0,0,0,0]),.c .nsl,.c (.str .empty),.c (.str .empty),.c .nsl,.c .nsl,.c .nsl,.c .nsl]⟩,some ⟨false,.prt [.c (.int .i64 a0),.c (.int .u32 a1),.c (.int .u64 a2),.c (.int .u64 a3),.c (.int .i64 a4),.v NS (.pair (.int a5t) (.pair (.int a5s) (.pair (.row a5i) (.int a5p)))),.v NS (.pair (.int a6t) (.pair (.int a6s) (.pair (.row a6i) (.int a6p)))),.c (.str a7),.c (.int .u32 a8),.c (.bool a9),.c (.bool a10),.c (.dat NS a11 (some 3)),.c (.dat (.two (.int .u32) (.arr .u8 32)) a12 (some 4)),.c (.dat (.arr .u8 32) a13 (some 5)),.v (.arr .u8 32) (.row a14),.v (.arr .u8 32) (.row a15),.c .nsl,.c (.str a17),.c (.str a18),.c .nsl,.c (.dat (.two (.int .i64) .str) [] (some 6)),.c .nsl,.c .nsl]⟩,some ⟨false,.tail⟩,some ⟨false,.tail⟩,some ⟨false,.tail⟩,some ⟨false,.tail⟩]):List V×Heap).1,(([.z,.a (.one (.ptr 0 (.lit 0))),.a (.one (.ptr 1 (.lit 0))),.a (.one (.ptr 2 (.lit 0))),.z,.z,.z,.a (.one (.lit .i64 0)),.z,.z,.z]++zq140,[some ⟨false,.prt [.v MS (MD a0 a1 a2 a3 a4 a5t a5s a5i a5p a6t a6s a6i a6p a7 a8 a9 a10 a11 a12 a13 a14 a15 a16 a17 a18 a19 a20 a21 a22)]⟩,some ⟨false,.prt [.c (.int .i64 0),.c (.int .u32 0),.c (.int .u64 0),.c (.int .u64 0),.c (.int .i64 0),.v NS (.pair (.int 0) (.pair (.int 0) (.pair (.row [0,0,0,0,0,0,0,0,0,0,0,0,0,0,0,0]) (.int 0)))),.v NS (.pair (.int 0) (.pair (.int 0) (.pair (.row [0,0,0,0,0,0,0,0,0,0,0,0,0,0,0,0]) (.int 0)))),.c (.str .empty),.c (.int .u32 0),.c (.bool false),.c (.bool false),.c .nsl,.c .nsl,.c .nsl,.v (.arr .u8 32) (.row [0,0,0,0,0,0,0,0,0,0,0,0,0,0,0,0,0,0,0,0,0,0,0,0,0,0,0,0,0,0,0,0]),.v (.arr .u8 32) (.row [0,0,0,0,0,0,0,0,0,0,0,0,0,0,0,0,0,0,0,0,0,0,0,0,0,0,0,0,0,0,0,0]),.c .nsl,.c (.str .empty),.c (.str .empty),.c .nsl,.c .nsl,.c .nsl,.c .nsl]⟩,some ⟨false,.prt [.c (.int .i64 a0),.c (.int .u32 a1),.c (.int .u64 a2),.c (.int .u64 a3),.c (.int .i64 a4),.v NS (.pair (.int a5t) (.pair (.int a5s) (.pair (.row a5i) (.int a5p)))),.v NS (.pair (.int a6t) (.pair (.int a6s) (.pair (.row a6i) (.int a6p)))),.c (.str a7),.c (.int .u32 a8),.c (.bool a9),.c (.bool a10),.c (.dat NS a11 (some 3)),.c (.dat (.two (.int .u32) (.arr .u8 32)) a12 (some 4)),.c (.dat (.arr .u8 32) a13 (some 5)),.v (.arr .u8 32) (.row a14),.v (.arr .u8 32) (.row a15),.c .nsl,.c (.str a17),.c (.str a18),.c .nsl,.c (.dat (.two (.int .i64) .str) [] (some 6)),.c .nsl,.c .nsl]⟩,some ⟨false,.tail⟩,some ⟨false,.tail⟩,some ⟨false,.tail⟩,some ⟨false,.tail⟩]):List V×Heap).2,todoAt Try.f36 3,[],[]⟩:=by
 refine Run.norm (o:=[]) (s:=[]) [7] ?_
 refine Run.loop (ι:={p:Int×List D // (0≤p.1∧p.1≤a20.length)∧p.2=a20.take p.1.toNat})
  (fun i=>([.z,.a (.one (.ptr 0 (.lit 0))),.a (.one (.ptr 1 (.lit 0))),.a (.one (.ptr 2 (.lit 0))),.z,.z,.z,.a (.one (.int .i64 i.1.1)),.z,.z,.z]++zq140,[some ⟨false,.prt [.v MS (MD a0 a1 a2 a3 a4 a5t a5s a5i a5p a6t a6s a6i a6p a7 a8 a9 a10 a11 a12 a13 a14 a15 a16 a17 a18 a19 a20 a21 a22)]⟩,some ⟨false,.prt [.c (.int .i64 0),.c (.int .u32 0),.c (.int .u64 0),.c (.int .u64 0),.c (.int .i64 0),.v NS (.pair (.int 0) (.pair (.int 0) (.pair (.row [0,0,0,0,0,0,0,0,0,0,0,0,0,0,0,0]) (.int 0)))),.v NS (.pair (.int 0) (.pair (.int 0) (.pair (.row [0,0,0,0,0,0,0,0,0,0,0,0,0,0,0,0]) (.int 0)))),.c (.str .empty),.c (.int .u32 0),.c (.bool false),.c (.bool false),.c .nsl,.c .nsl,.c .nsl,.v (.arr .u8 32) (.row [0,0,0,0,0,0,0,0,0,0,0,0,0,0,0,0,0,0,0,0,0,0,0,0,0,0,0,0,0,0,0,0]),.v (.arr .u8 32) (.row [0,0,0,0,0,0,0,0,0,0,0,0,0,0,0,0,0,0,0,0,0,0,0,0,0,0,0,0,0,0,0,0]),.c .nsl,.c (.str .empty),.c (.str .empty),.c .nsl,.c .nsl,.c .nsl,.c .nsl]⟩,some ⟨false,.prt [.c (.int .i64 a0),.c (.int .u32 a1),.c (.int .u64 a2),.c (.int .u64 a3),.c (.int .i64 a4),.v NS (.pair (.int a5t) (.pair (.int a5s) (.pair (.row a5i) (.int a5p)))),.v NS (.pair (.int a6t) (.pair (.int a6s) (.pair (.row a6i) (.int a6p)))),.c (.str a7),.c (.int .u32 a8),.c (.bool a9),.c (.bool a10),.c (.dat NS a11 (some 3)),.c (.dat (.two (.int .u32) (.arr .u8 32)) a12 (some 4)),.c (.dat (.arr .u8 32) a13 (some 5)),.v (.arr .u8 32) (.row a14),.v (.arr .u8 32) (.row a15),.c .nsl,.c (.str a17),.c (.str a18),.c .nsl,.c (.dat (.two (.int .i64) .str) i.1.2 (some 6)),.c .nsl,.c .nsl]⟩,some ⟨false,.tail⟩,some ⟨false,.tail⟩,some ⟨false,.tail⟩,some ⟨false,.tail⟩]))
  (fun i=>(a20.length-i.1.1).toNat) ⟨(0,[]),by simp⟩ ?_
 rintro⟨⟨p,l⟩,hp,hl⟩ ih
 try simp only at hp hl
 have e1:rbin .add .i64 p 1=p+1:=addi (by omega) (by omega)
 have hML:maxLen=9223372036854775807:=by decide
 have hll:l.length=p.toNat:=by rw[hl,List.length_take];omega
 by_cases hlt:p<a20.length
 ·have hm:a20.getD p.toNat (.int 0)∈a20:=by
   have h:p.toNat<a20.length:=by omega
   rw[List.getD_eq_getElem?_getD,geg h];exact List.getElem_mem h
  have hx:=f20 _ hm
  have hnx:l++[nrmD (.two (.int .i64) .str) (a20.getD p.toNat (.int 0))]=a20.take (p+1).toNat:=by
   have h:p.toNat<a20.length:=by omega
   rw[hx,hl,show(p+1).toNat=p.toNat+1 by omega,List.take_add_one,List.getD_eq_getElem?_getD,geg h];rfl
  refine ra tv0_ok 2 true 400 [true] [1,2,3,7] [7] ?_ ?_
  ·simp only[conj,z0,z2,arR,z1,zd]
   (repeat' with_reducible apply And.intro)<;>first
     |exact fit_net hx
     |omega
  ·refine ih ⟨(_,_),⟨?_,?_⟩⟩ ?_ _ _
   ·show 0≤rbin .add .i64 p 1∧rbin .add .i64 p 1≤a20.length
    rw[e1];omega
   ·show _=a20.take (rbin .add .i64 p 1).toNat
    rw[e1];exact hnx
   ·show((a20.length:Int)-rbin .add .i64 p 1).toNat<((a20.length:Int)-p).toNat
    rw[e1];omega
 ·have hpe:p=a20.length:=by omega
  have hla:l=a20:=by rw[hl,hpe];simp
  subst hla
  refine rx tv0_ok 999 false 400 [false] ?_ ?_
  ·simp only[conj,z0,z2,arR,z1]
   (repeat' with_reducible apply And.intro)<;>omega
  ·exact Run.ret ti_ok rfl rfl (.a (ALe.prt rfl))
theorem rf_2 (w:World) {a0 a1 a2 a3 a4 a5t a5s:Int}{a5i:List Int}{a5p a6t a6s:Int}{a6i:List Int}{a6p:Int}{a7:ByteArray}{a8:Int}{a9 a10:Bool}{a11 a12 a13:List D}{a14 a15:List Int}{a16:List D}{a17 a18:ByteArray}{a19 a20 a21 a22:List D}(f11:∀x∈a11,nrmD NS x=x) (f12:∀x∈a12,nrmD (.two (.int .u32) (.arr .u8 32)) x=x) (f13:∀x∈a13,nrmD (.arr .u8 32) x=x) (f20:∀x∈a20,nrmD (.two (.int .i64) .str) x=x) (z11:a11.length*40≤140737488351232) (z12:a12.length*36≤140737488351232) (z13:a13.length*32≤140737488351232) (z20:a20.length*24≤140737488351232) (z16:a16.length*16≤140737488351232) (z19:a19.length*8≤140737488351232) (z21:a21.length*8≤140737488351232) (z22:a22.length*16≤140737488351232):Run Try.prog (tv0 ln3).hc w 0 Try.f36 (fun x _=>VLe x (.a (.agg (.prt [.v MS (MD a0 a1 a2 a3 a4 a5t a5s a5i a5p a6t a6s a6i a6p a7 a8 a9 a10 a11 a12 a13 a14 a15 a16 a17 a18 a19 a20 a21 a22)])))) ⟨(([.z,.a (.one (.ptr 0 (.lit 0))),.a (.one (.ptr 1 (.lit 0))),.a (.one (.ptr 2 (.lit 0))),.z,.z,.a (.one (.lit .i64 0)),.z,.z,.z,.z]++zq140,[some ⟨false,.prt [.v MS (MD a0 a1 a2 a3 a4 a5t a5s a5i a5p a6t a6s a6i a6p a7 a8 a9 a10 a11 a12 a13 a14 a15 a16 a17 a18 a19 a20 a21 a22)]⟩,some ⟨false,.prt [.c (.int .i64 0),.c (.int .u32 0),.c (.int .u64 0),.c (.int .u64 0),.c (.int .i64 0),.v NS (.pair (.int 0) (.pair (.int 0) (.pair (.row [0,0,0,0,0,0,0,0,0,0,0,0,0,0,0,0]) (.int 0)))),.v NS (.pair (.int 0) (.pair (.int 0) (.pair (.row [0,0,0,0,0,0,0,0,0,0,0,0,0,0,0,0]) (.int 0)))),.c (.str .empty),.c (.int .u32 0),.c (.bool false),.c (.bool false),.c .nsl,.c .nsl,.c .nsl,.v (.arr .u8 32) (.row [0,0,0,0,0,0,0,0,0,0,0,0,0,0,0,0,0,0,0,0,0,0,0,0,0,0,0,0,0,0,0,0]),.v (.arr .u8 32) (.row [0,0,0,0,0,0,0,0,0,0,0,0,0,0,0,0,0,0,0,0,0,0,0,0,0,0,0,0,0,0,0,0]),.c .nsl,.c (.str .empty),.c (.str .empty),.c .nsl,.c .nsl,.c .nsl,.c .nsl]⟩,some ⟨false,.prt [.c (.int .i64 a0),.c (.int .u32 a1),.c (.int .u64 a2),.c (.int .u64 a3),.c (.int .i64 a4),.v NS (.pair (.int a5t) (.pair (.int a5s) (.pair (.row a5i) (.int a5p)))),.v NS (.pair (.int a6t) (.pair (.int a6s) (.pair (.row a6i) (.int a6p)))),.c (.str a7),.c (.int .u32 a8),.c (.bool a9),.c (.bool a10),.c (.dat NS a11 (some 3)),.c (.dat (.two (.int .u32) (.arr .u8 32)) a12 (some 4)),.c (.dat (.arr .u8 32) [] (some 5)),.v (.arr .u8 32) (.row a14),.v (.arr .u8 32) (.row a15),.c .nsl,.c (.str a17),.c (.str a18),.c .nsl,.c (.dat (.two (.int .i64) .str) [] (some 6)),.c .nsl,.c .nsl]⟩,some ⟨false,.tail⟩,some ⟨false,.tail⟩,some ⟨false,.tail⟩,some ⟨false,.tail⟩]):List V×Heap).1,(([.z,.a (.one (.ptr 0 (.lit 0))),.a (.one (.ptr 1 (.lit 0))),.a (.one (.ptr 2 (.lit 0))),.z,.z,.a (.one (.lit .i64 0)),.z,.z,.z,.z]++zq140,[some ⟨false,.prt [.v MS (MD a0 a1 a2 a3 a4 a5t a5s a5i a5p a6t a6s a6i a6p a7 a8 a9 a10 a11 a12 a13 a14 a15 a16 a17 a18 a19 a20 a21 a22)]⟩,some ⟨false,.prt [.c (.int .i64 0),.c (.int .u32 0),.c (.int .u64 0),.c (.int .u64 0),.c (.int .i64 0),.v NS (.pair (.int 0) (.pair (.int 0) (.pair (.row [0,0,0,0,0,0,0,0,0,0,0,0,0,0,0,0]) (.int 0)))),.v NS (.pair (.int 0) (.pair (.int 0) (.pair (.row [0,0,0,0,0,0,0,0,0,0,0,0,0,0,0,0]) (.int 0)))),.c (.str .empty),.c (.int .u32 0),.c (.bool false),.c (.bool false),.c .nsl,.c .nsl,.c .nsl,.v (.arr .u8 32) (.row [0,0,0,0,0,0,0,0,0,0,0,0,0,0,0,0,0,0,0,0,0,0,0,0,0,0,0,0,0,0,0,0]),.v (.arr .u8 32) (.row [0,0,0,0,0,0,0,0,0,0,0,0,0,0,0,0,0,0,0,0,0,0,0,0,0,0,0,0,0,0,0,0]),.c .nsl,.c (.str .empty),.c (.str .empty),.c .nsl,.c .nsl,.c .nsl,.c .nsl]⟩,some ⟨false,.prt [.c (.int .i64 a0),.c (.int .u32 a1),.c (.int .u64 a2),.c (.int .u64 a3),.c (.int .i64 a4),.v NS (.pair (.int a5t) (.pair (.int a5s) (.pair (.row a5i) (.int a5p)))),.v NS (.pair (.int a6t) (.pair (.int a6s) (.pair (.row a6i) (.int a6p)))),.c (.str a7),.c (.int .u32 a8),.c (.bool a9),.c (.bool a10),.c (.dat NS a11 (some 3)),.c (.dat (.two (.int .u32) (.arr .u8 32)) a12 (some 4)),.c (.dat (.arr .u8 32) [] (some 5)),.v (.arr .u8 32) (.row a14),.v (.arr .u8 32) (.row a15),.c .nsl,.c (.str a17),.c (.str a18),.c .nsl,.c (.dat (.two (.int .i64) .str) [] (some 6)),.c .nsl,.c .nsl]⟩,some ⟨false,.tail⟩,some ⟨false,.tail⟩,some ⟨false,.tail⟩,some ⟨false,.tail⟩]):List V×Heap).2,todoAt Try.f36 2,[],[]⟩:=by
 refine Run.norm (o:=[]) (s:=[]) [6] ?_
 refine Run.loop (ι:={p:Int×List D // (0≤p.1∧p.1≤a13.length)∧p.2=a13.take p.1.toNat})
  (fun i=>([.z,.a (.one (.ptr 0 (.lit 0))),.a (.one (.ptr 1 (.lit 0))),.a (.one (.ptr 2 (.lit 0))),.z,.z,.a (.one (.int .i64 i.1.1)),.z,.z,.z,.z]++zq140,[some ⟨false,.prt [.v MS (MD a0 a1 a2 a3 a4 a5t a5s a5i a5p a6t a6s a6i a6p a7 a8 a9 a10 a11 a12 a13 a14 a15 a16 a17 a18 a19 a20 a21 a22)]⟩,some ⟨false,.prt [.c (.int .i64 0),.c (.int .u32 0),.c (.int .u64 0),.c (.int .u64 0),.c (.int .i64 0),.v NS (.pair (.int 0) (.pair (.int 0) (.pair (.row [0,0,0,0,0,0,0,0,0,0,0,0,0,0,0,0]) (.int 0)))),.v NS (.pair (.int 0) (.pair (.int 0) (.pair (.row [0,0,0,0,0,0,0,0,0,0,0,0,0,0,0,0]) (.int 0)))),.c (.str .empty),.c (.int .u32 0),.c (.bool false),.c (.bool false),.c .nsl,.c .nsl,.c .nsl,.v (.arr .u8 32) (.row [0,0,0,0,0,0,0,0,0,0,0,0,0,0,0,0,0,0,0,0,0,0,0,0,0,0,0,0,0,0,0,0]),.v (.arr .u8 32) (.row [0,0,0,0,0,0,0,0,0,0,0,0,0,0,0,0,0,0,0,0,0,0,0,0,0,0,0,0,0,0,0,0]),.c .nsl,.c (.str .empty),.c (.str .empty),.c .nsl,.c .nsl,.c .nsl,.c .nsl]⟩,some ⟨false,.prt [.c (.int .i64 a0),.c (.int .u32 a1),.c (.int .u64 a2),.c (.int .u64 a3),.c (.int .i64 a4),.v NS (.pair (.int a5t) (.pair (.int a5s) (.pair (.row a5i) (.int a5p)))),.v NS (.pair (.int a6t) (.pair (.int a6s) (.pair (.row a6i) (.int a6p)))),.c (.str a7),.c (.int .u32 a8),.c (.bool a9),.c (.bool a10),.c (.dat NS a11 (some 3)),.c (.dat (.two (.int .u32) (.arr .u8 32)) a12 (some 4)),.c (.dat (.arr .u8 32) i.1.2 (some 5)),.v (.arr .u8 32) (.row a14),.v (.arr .u8 32) (.row a15),.c .nsl,.c (.str a17),.c (.str a18),.c .nsl,.c (.dat (.two (.int .i64) .str) [] (some 6)),.c .nsl,.c .nsl]⟩,some ⟨false,.tail⟩,some ⟨false,.tail⟩,some ⟨false,.tail⟩,some ⟨false,.tail⟩]))
  (fun i=>(a13.length-i.1.1).toNat) ⟨(0,[]),by simp⟩ ?_
 rintro⟨⟨p,l⟩,hp,hl⟩ ih
 try simp only at hp hl
 have e1:rbin .add .i64 p 1=p+1:=addi (by omega) (by omega)
 have hML:maxLen=9223372036854775807:=by decide
 have hll:l.length=p.toNat:=by rw[hl,List.length_take];omega
 by_cases hlt:p<a13.length
 ·have hm:a13.getD p.toNat (.int 0)∈a13:=by
   have h:p.toNat<a13.length:=by omega
   rw[List.getD_eq_getElem?_getD,geg h];exact List.getElem_mem h
  have hx:=f13 _ hm
  have hnx:l++[nrmD (.arr .u8 32) (a13.getD p.toNat (.int 0))]=a13.take (p+1).toNat:=by
   have h:p.toNat<a13.length:=by omega
   rw[hx,hl,show(p+1).toNat=p.toNat+1 by omega,List.take_add_one,List.getD_eq_getElem?_getD,geg h];rfl
  refine ra tv0_ok 2 true 400 [true] [1,2,3,6] [6] ?_ ?_
  ·simp only[conj,z0,z2,arR,z1,zd]
   (repeat' with_reducible apply And.intro)<;>first
     |exact fit_net hx
     |omega
  ·refine ih ⟨(_,_),⟨?_,?_⟩⟩ ?_ _ _
   ·show 0≤rbin .add .i64 p 1∧rbin .add .i64 p 1≤a13.length
    rw[e1];omega
   ·show _=a13.take (rbin .add .i64 p 1).toNat
    rw[e1];exact hnx
   ·show((a13.length:Int)-rbin .add .i64 p 1).toNat<((a13.length:Int)-p).toNat
    rw[e1];omega
 ·have hpe:p=a13.length:=by omega
  have hla:l=a13:=by rw[hl,hpe];simp
  subst hla
  refine ra tv0_ok 2 false 400 [false] [1,2,3,7] [] ?_ ?_
  ·simp only[conj,z0,z2,arR,z1]
   omega
  ·exact rf_3 w f11 f12 f13 f20 z11 z12 z13 z20 z16 z19 z21 z22
theorem rf_1 (w:World) {a0 a1 a2 a3 a4 a5t a5s:Int}{a5i:List Int}{a5p a6t a6s:Int}{a6i:List Int}{a6p:Int}{a7:ByteArray}{a8:Int}{a9 a10:Bool}{a11 a12 a13:List D}{a14 a15:List Int}{a16:List D}{a17 a18:ByteArray}{a19 a20 a21 a22:List D}(f11:∀x∈a11,nrmD NS x=x) (f12:∀x∈a12,nrmD (.two (.int .u32) (.arr .u8 32)) x=x) (f13:∀x∈a13,nrmD (.arr .u8 32) x=x) (f20:∀x∈a20,nrmD (.two (.int .i64) .str) x=x) (z11:a11.length*40≤140737488351232) (z12:a12.length*36≤140737488351232) (z13:a13.length*32≤140737488351232) (z20:a20.length*24≤140737488351232) (z16:a16.length*16≤140737488351232) (z19:a19.length*8≤140737488351232) (z21:a21.length*8≤140737488351232) (z22:a22.length*16≤140737488351232):Run Try.prog (tv0 ln3).hc w 0 Try.f36 (fun x _=>VLe x (.a (.agg (.prt [.v MS (MD a0 a1 a2 a3 a4 a5t a5s a5i a5p a6t a6s a6i a6p a7 a8 a9 a10 a11 a12 a13 a14 a15 a16 a17 a18 a19 a20 a21 a22)])))) ⟨(([.z,.a (.one (.ptr 0 (.lit 0))),.a (.one (.ptr 1 (.lit 0))),.a (.one (.ptr 2 (.lit 0))),.z,.a (.one (.lit .i64 0)),.z,.z,.z,.z,.z]++zq140,[some ⟨false,.prt [.v MS (MD a0 a1 a2 a3 a4 a5t a5s a5i a5p a6t a6s a6i a6p a7 a8 a9 a10 a11 a12 a13 a14 a15 a16 a17 a18 a19 a20 a21 a22)]⟩,some ⟨false,.prt [.c (.int .i64 0),.c (.int .u32 0),.c (.int .u64 0),.c (.int .u64 0),.c (.int .i64 0),.v NS (.pair (.int 0) (.pair (.int 0) (.pair (.row [0,0,0,0,0,0,0,0,0,0,0,0,0,0,0,0]) (.int 0)))),.v NS (.pair (.int 0) (.pair (.int 0) (.pair (.row [0,0,0,0,0,0,0,0,0,0,0,0,0,0,0,0]) (.int 0)))),.c (.str .empty),.c (.int .u32 0),.c (.bool false),.c (.bool false),.c .nsl,.c .nsl,.c .nsl,.v (.arr .u8 32) (.row [0,0,0,0,0,0,0,0,0,0,0,0,0,0,0,0,0,0,0,0,0,0,0,0,0,0,0,0,0,0,0,0]),.v (.arr .u8 32) (.row [0,0,0,0,0,0,0,0,0,0,0,0,0,0,0,0,0,0,0,0,0,0,0,0,0,0,0,0,0,0,0,0]),.c .nsl,.c (.str .empty),.c (.str .empty),.c .nsl,.c .nsl,.c .nsl,.c .nsl]⟩,some ⟨false,.prt [.c (.int .i64 a0),.c (.int .u32 a1),.c (.int .u64 a2),.c (.int .u64 a3),.c (.int .i64 a4),.v NS (.pair (.int a5t) (.pair (.int a5s) (.pair (.row a5i) (.int a5p)))),.v NS (.pair (.int a6t) (.pair (.int a6s) (.pair (.row a6i) (.int a6p)))),.c (.str a7),.c (.int .u32 a8),.c (.bool a9),.c (.bool a10),.c (.dat NS a11 (some 3)),.c (.dat (.two (.int .u32) (.arr .u8 32)) [] (some 4)),.c (.dat (.arr .u8 32) [] (some 5)),.v (.arr .u8 32) (.row a14),.v (.arr .u8 32) (.row a15),.c .nsl,.c (.str a17),.c (.str a18),.c .nsl,.c (.dat (.two (.int .i64) .str) [] (some 6)),.c .nsl,.c .nsl]⟩,some ⟨false,.tail⟩,some ⟨false,.tail⟩,some ⟨false,.tail⟩,some ⟨false,.tail⟩]):List V×Heap).1,(([.z,.a (.one (.ptr 0 (.lit 0))),.a (.one (.ptr 1 (.lit 0))),.a (.one (.ptr 2 (.lit 0))),.z,.a (.one (.lit .i64 0)),.z,.z,.z,.z,.z]++zq140,[some ⟨false,.prt [.v MS (MD a0 a1 a2 a3 a4 a5t a5s a5i a5p a6t a6s a6i a6p a7 a8 a9 a10 a11 a12 a13 a14 a15 a16 a17 a18 a19 a20 a21 a22)]⟩,some ⟨false,.prt [.c (.int .i64 0),.c (.int .u32 0),.c (.int .u64 0),.c (.int .u64 0),.c (.int .i64 0),.v NS (.pair (.int 0) (.pair (.int 0) (.pair (.row [0,0,0,0,0,0,0,0,0,0,0,0,0,0,0,0]) (.int 0)))),.v NS (.pair (.int 0) (.pair (.int 0) (.pair (.row [0,0,0,0,0,0,0,0,0,0,0,0,0,0,0,0]) (.int 0)))),.c (.str .empty),.c (.int .u32 0),.c (.bool false),.c (.bool false),.c .nsl,.c .nsl,.c .nsl,.v (.arr .u8 32) (.row [0,0,0,0,0,0,0,0,0,0,0,0,0,0,0,0,0,0,0,0,0,0,0,0,0,0,0,0,0,0,0,0]),.v (.arr .u8 32) (.row [0,0,0,0,0,0,0,0,0,0,0,0,0,0,0,0,0,0,0,0,0,0,0,0,0,0,0,0,0,0,0,0]),.c .nsl,.c (.str .empty),.c (.str .empty),.c .nsl,.c .nsl,.c .nsl,.c .nsl]⟩,some ⟨false,.prt [.c (.int .i64 a0),.c (.int .u32 a1),.c (.int .u64 a2),.c (.int .u64 a3),.c (.int .i64 a4),.v NS (.pair (.int a5t) (.pair (.int a5s) (.pair (.row a5i) (.int a5p)))),.v NS (.pair (.int a6t) (.pair (.int a6s) (.pair (.row a6i) (.int a6p)))),.c (.str a7),.c (.int .u32 a8),.c (.bool a9),.c (.bool a10),.c (.dat NS a11 (some 3)),.c (.dat (.two (.int .u32) (.arr .u8 32)) [] (some 4)),.c (.dat (.arr .u8 32) [] (some 5)),.v (.arr .u8 32) (.row a14),.v (.arr .u8 32) (.row a15),.c .nsl,.c (.str a17),.c (.str a18),.c .nsl,.c (.dat (.two (.int .i64) .str) [] (some 6)),.c .nsl,.c .nsl]⟩,some ⟨false,.tail⟩,some ⟨false,.tail⟩,some ⟨false,.tail⟩,some ⟨false,.tail⟩]):List V×Heap).2,todoAt Try.f36 1,[],[]⟩:=by
 refine Run.norm (o:=[]) (s:=[]) [5] ?_
 refine Run.loop (ι:={p:Int×List D // (0≤p.1∧p.1≤a12.length)∧p.2=a12.take p.1.toNat})
  (fun i=>([.z,.a (.one (.ptr 0 (.lit 0))),.a (.one (.ptr 1 (.lit 0))),.a (.one (.ptr 2 (.lit 0))),.z,.a (.one (.int .i64 i.1.1)),.z,.z,.z,.z,.z]++zq140,[some ⟨false,.prt [.v MS (MD a0 a1 a2 a3 a4 a5t a5s a5i a5p a6t a6s a6i a6p a7 a8 a9 a10 a11 a12 a13 a14 a15 a16 a17 a18 a19 a20 a21 a22)]⟩,some ⟨false,.prt [.c (.int .i64 0),.c (.int .u32 0),.c (.int .u64 0),.c (.int .u64 0),.c (.int .i64 0),.v NS (.pair (.int 0) (.pair (.int 0) (.pair (.row [0,0,0,0,0,0,0,0,0,0,0,0,0,0,0,0]) (.int 0)))),.v NS (.pair (.int 0) (.pair (.int 0) (.pair (.row [0,0,0,0,0,0,0,0,0,0,0,0,0,0,0,0]) (.int 0)))),.c (.str .empty),.c (.int .u32 0),.c (.bool false),.c (.bool false),.c .nsl,.c .nsl,.c .nsl,.v (.arr .u8 32) (.row [0,0,0,0,0,0,0,0,0,0,0,0,0,0,0,0,0,0,0,0,0,0,0,0,0,0,0,0,0,0,0,0]),.v (.arr .u8 32) (.row [0,0,0,0,0,0,0,0,0,0,0,0,0,0,0,0,0,0,0,0,0,0,0,0,0,0,0,0,0,0,0,0]),.c .nsl,.c (.str .empty),.c (.str .empty),.c .nsl,.c .nsl,.c .nsl,.c .nsl]⟩,some ⟨false,.prt [.c (.int .i64 a0),.c (.int .u32 a1),.c (.int .u64 a2),.c (.int .u64 a3),.c (.int .i64 a4),.v NS (.pair (.int a5t) (.pair (.int a5s) (.pair (.row a5i) (.int a5p)))),.v NS (.pair (.int a6t) (.pair (.int a6s) (.pair (.row a6i) (.int a6p)))),.c (.str a7),.c (.int .u32 a8),.c (.bool a9),.c (.bool a10),.c (.dat NS a11 (some 3)),.c (.dat (.two (.int .u32) (.arr .u8 32)) i.1.2 (some 4)),.c (.dat (.arr .u8 32) [] (some 5)),.v (.arr .u8 32) (.row a14),.v (.arr .u8 32) (.row a15),.c .nsl,.c (.str a17),.c (.str a18),.c .nsl,.c (.dat (.two (.int .i64) .str) [] (some 6)),.c .nsl,.c .nsl]⟩,some ⟨false,.tail⟩,some ⟨false,.tail⟩,some ⟨false,.tail⟩,some ⟨false,.tail⟩]))
  (fun i=>(a12.length-i.1.1).toNat) ⟨(0,[]),by simp⟩ ?_
 rintro⟨⟨p,l⟩,hp,hl⟩ ih
 try simp only at hp hl
 have e1:rbin .add .i64 p 1=p+1:=addi (by omega) (by omega)
 have hML:maxLen=9223372036854775807:=by decide
 have hll:l.length=p.toNat:=by rw[hl,List.length_take];omega
 by_cases hlt:p<a12.length
 ·have hm:a12.getD p.toNat (.int 0)∈a12:=by
   have h:p.toNat<a12.length:=by omega
   rw[List.getD_eq_getElem?_getD,geg h];exact List.getElem_mem h
  have hx:=f12 _ hm
  have hnx:l++[nrmD (.two (.int .u32) (.arr .u8 32)) (a12.getD p.toNat (.int 0))]=a12.take (p+1).toNat:=by
   have h:p.toNat<a12.length:=by omega
   rw[hx,hl,show(p+1).toNat=p.toNat+1 by omega,List.take_add_one,List.getD_eq_getElem?_getD,geg h];rfl
  refine ra tv0_ok 2 true 400 [true] [1,2,3,5] [5] ?_ ?_
  ·simp only[conj,z0,z2,arR,z1,zd]
   (repeat' with_reducible apply And.intro)<;>first
     |exact fit_net hx
     |omega
  ·refine ih ⟨(_,_),⟨?_,?_⟩⟩ ?_ _ _
   ·show 0≤rbin .add .i64 p 1∧rbin .add .i64 p 1≤a12.length
    rw[e1];omega
   ·show _=a12.take (rbin .add .i64 p 1).toNat
    rw[e1];exact hnx
   ·show((a12.length:Int)-rbin .add .i64 p 1).toNat<((a12.length:Int)-p).toNat
    rw[e1];omega
 ·have hpe:p=a12.length:=by omega
  have hla:l=a12:=by rw[hl,hpe];simp
  subst hla
  refine ra tv0_ok 2 false 400 [false] [1,2,3,6] [] ?_ ?_
  ·simp only[conj,z0,z2,arR,z1]
   omega
  ·exact rf_2 w f11 f12 f13 f20 z11 z12 z13 z20 z16 z19 z21 z22
theorem rf_0 (w:World) {a0 a1 a2 a3 a4 a5t a5s:Int}{a5i:List Int}{a5p a6t a6s:Int}{a6i:List Int}{a6p:Int}{a7:ByteArray}{a8:Int}{a9 a10:Bool}{a11 a12 a13:List D}{a14 a15:List Int}{a16:List D}{a17 a18:ByteArray}{a19 a20 a21 a22:List D}(f11:∀x∈a11,nrmD NS x=x) (f12:∀x∈a12,nrmD (.two (.int .u32) (.arr .u8 32)) x=x) (f13:∀x∈a13,nrmD (.arr .u8 32) x=x) (f20:∀x∈a20,nrmD (.two (.int .i64) .str) x=x) (z11:a11.length*40≤140737488351232) (z12:a12.length*36≤140737488351232) (z13:a13.length*32≤140737488351232) (z20:a20.length*24≤140737488351232) (z16:a16.length*16≤140737488351232) (z19:a19.length*8≤140737488351232) (z21:a21.length*8≤140737488351232) (z22:a22.length*16≤140737488351232):Run Try.prog (tv0 ln3).hc w 0 Try.f36 (fun x _=>VLe x (.a (.agg (.prt [.v MS (MD a0 a1 a2 a3 a4 a5t a5s a5i a5p a6t a6s a6i a6p a7 a8 a9 a10 a11 a12 a13 a14 a15 a16 a17 a18 a19 a20 a21 a22)])))) ⟨(([.z,.a (.one (.ptr 0 (.lit 0))),.a (.one (.ptr 1 (.lit 0))),.a (.one (.ptr 2 (.lit 0))),.a (.one (.lit .i64 0)),.z,.z,.z,.z,.z,.z]++zq140,[some ⟨false,.prt [.v MS (MD a0 a1 a2 a3 a4 a5t a5s a5i a5p a6t a6s a6i a6p a7 a8 a9 a10 a11 a12 a13 a14 a15 a16 a17 a18 a19 a20 a21 a22)]⟩,some ⟨false,.prt [.c (.int .i64 0),.c (.int .u32 0),.c (.int .u64 0),.c (.int .u64 0),.c (.int .i64 0),.v NS (.pair (.int 0) (.pair (.int 0) (.pair (.row [0,0,0,0,0,0,0,0,0,0,0,0,0,0,0,0]) (.int 0)))),.v NS (.pair (.int 0) (.pair (.int 0) (.pair (.row [0,0,0,0,0,0,0,0,0,0,0,0,0,0,0,0]) (.int 0)))),.c (.str .empty),.c (.int .u32 0),.c (.bool false),.c (.bool false),.c .nsl,.c .nsl,.c .nsl,.v (.arr .u8 32) (.row [0,0,0,0,0,0,0,0,0,0,0,0,0,0,0,0,0,0,0,0,0,0,0,0,0,0,0,0,0,0,0,0]),.v (.arr .u8 32) (.row [0,0,0,0,0,0,0,0,0,0,0,0,0,0,0,0,0,0,0,0,0,0,0,0,0,0,0,0,0,0,0,0]),.c .nsl,.c (.str .empty),.c (.str .empty),.c .nsl,.c .nsl,.c .nsl,.c .nsl]⟩,some ⟨false,.prt [.c (.int .i64 a0),.c (.int .u32 a1),.c (.int .u64 a2),.c (.int .u64 a3),.c (.int .i64 a4),.v NS (.pair (.int a5t) (.pair (.int a5s) (.pair (.row a5i) (.int a5p)))),.v NS (.pair (.int a6t) (.pair (.int a6s) (.pair (.row a6i) (.int a6p)))),.c (.str a7),.c (.int .u32 a8),.c (.bool a9),.c (.bool a10),.c (.dat NS [] (some 3)),.c (.dat (.two (.int .u32) (.arr .u8 32)) [] (some 4)),.c (.dat (.arr .u8 32) [] (some 5)),.v (.arr .u8 32) (.row a14),.v (.arr .u8 32) (.row a15),.c .nsl,.c (.str a17),.c (.str a18),.c .nsl,.c (.dat (.two (.int .i64) .str) [] (some 6)),.c .nsl,.c .nsl]⟩,some ⟨false,.tail⟩,some ⟨false,.tail⟩,some ⟨false,.tail⟩,some ⟨false,.tail⟩]):List V×Heap).1,(([.z,.a (.one (.ptr 0 (.lit 0))),.a (.one (.ptr 1 (.lit 0))),.a (.one (.ptr 2 (.lit 0))),.a (.one (.lit .i64 0)),.z,.z,.z,.z,.z,.z]++zq140,[some ⟨false,.prt [.v MS (MD a0 a1 a2 a3 a4 a5t a5s a5i a5p a6t a6s a6i a6p a7 a8 a9 a10 a11 a12 a13 a14 a15 a16 a17 a18 a19 a20 a21 a22)]⟩,some ⟨false,.prt [.c (.int .i64 0),.c (.int .u32 0),.c (.int .u64 0),.c (.int .u64 0),.c (.int .i64 0),.v NS (.pair (.int 0) (.pair (.int 0) (.pair (.row [0,0,0,0,0,0,0,0,0,0,0,0,0,0,0,0]) (.int 0)))),.v NS (.pair (.int 0) (.pair (.int 0) (.pair (.row [0,0,0,0,0,0,0,0,0,0,0,0,0,0,0,0]) (.int 0)))),.c (.str .empty),.c (.int .u32 0),.c (.bool false),.c (.bool false),.c .nsl,.c .nsl,.c .nsl,.v (.arr .u8 32) (.row [0,0,0,0,0,0,0,0,0,0,0,0,0,0,0,0,0,0,0,0,0,0,0,0,0,0,0,0,0,0,0,0]),.v (.arr .u8 32) (.row [0,0,0,0,0,0,0,0,0,0,0,0,0,0,0,0,0,0,0,0,0,0,0,0,0,0,0,0,0,0,0,0]),.c .nsl,.c (.str .empty),.c (.str .empty),.c .nsl,.c .nsl,.c .nsl,.c .nsl]⟩,some ⟨false,.prt [.c (.int .i64 a0),.c (.int .u32 a1),.c (.int .u64 a2),.c (.int .u64 a3),.c (.int .i64 a4),.v NS (.pair (.int a5t) (.pair (.int a5s) (.pair (.row a5i) (.int a5p)))),.v NS (.pair (.int a6t) (.pair (.int a6s) (.pair (.row a6i) (.int a6p)))),.c (.str a7),.c (.int .u32 a8),.c (.bool a9),.c (.bool a10),.c (.dat NS [] (some 3)),.c (.dat (.two (.int .u32) (.arr .u8 32)) [] (some 4)),.c (.dat (.arr .u8 32) [] (some 5)),.v (.arr .u8 32) (.row a14),.v (.arr .u8 32) (.row a15),.c .nsl,.c (.str a17),.c (.str a18),.c .nsl,.c (.dat (.two (.int .i64) .str) [] (some 6)),.c .nsl,.c .nsl]⟩,some ⟨false,.tail⟩,some ⟨false,.tail⟩,some ⟨false,.tail⟩,some ⟨false,.tail⟩]):List V×Heap).2,todoAt Try.f36 0,[],[]⟩:=by
 refine Run.norm (o:=[]) (s:=[]) [4] ?_
 refine Run.loop (ι:={p:Int×List D // (0≤p.1∧p.1≤a11.length)∧p.2=a11.take p.1.toNat})
  (fun i=>([.z,.a (.one (.ptr 0 (.lit 0))),.a (.one (.ptr 1 (.lit 0))),.a (.one (.ptr 2 (.lit 0))),.a (.one (.int .i64 i.1.1)),.z,.z,.z,.z,.z,.z]++zq140,[some ⟨false,.prt [.v MS (MD a0 a1 a2 a3 a4 a5t a5s a5i a5p a6t a6s a6i a6p a7 a8 a9 a10 a11 a12 a13 a14 a15 a16 a17 a18 a19 a20 a21 a22)]⟩,some ⟨false,.prt [.c (.int .i64 0),.c (.int .u32 0),.c (.int .u64 0),.c (.int .u64 0),.c (.int .i64 0),.v NS (.pair (.int 0) (.pair (.int 0) (.pair (.row [0,0,0,0,0,0,0,0,0,0,0,0,0,0,0,0]) (.int 0)))),.v NS (.pair (.int 0) (.pair (.int 0) (.pair (.row [0,0,0,0,0,0,0,0,0,0,0,0,0,0,0,0]) (.int 0)))),.c (.str .empty),.c (.int .u32 0),.c (.bool false),.c (.bool false),.c .nsl,.c .nsl,.c .nsl,.v (.arr .u8 32) (.row [0,0,0,0,0,0,0,0,0,0,0,0,0,0,0,0,0,0,0,0,0,0,0,0,0,0,0,0,0,0,0,0]),.v (.arr .u8 32) (.row [0,0,0,0,0,0,0,0,0,0,0,0,0,0,0,0,0,0,0,0,0,0,0,0,0,0,0,0,0,0,0,0]),.c .nsl,.c (.str .empty),.c (.str .empty),.c .nsl,.c .nsl,.c .nsl,.c .nsl]⟩,some ⟨false,.prt [.c (.int .i64 a0),.c (.int .u32 a1),.c (.int .u64 a2),.c (.int .u64 a3),.c (.int .i64 a4),.v NS (.pair (.int a5t) (.pair (.int a5s) (.pair (.row a5i) (.int a5p)))),.v NS (.pair (.int a6t) (.pair (.int a6s) (.pair (.row a6i) (.int a6p)))),.c (.str a7),.c (.int .u32 a8),.c (.bool a9),.c (.bool a10),.c (.dat NS i.1.2 (some 3)),.c (.dat (.two (.int .u32) (.arr .u8 32)) [] (some 4)),.c (.dat (.arr .u8 32) [] (some 5)),.v (.arr .u8 32) (.row a14),.v (.arr .u8 32) (.row a15),.c .nsl,.c (.str a17),.c (.str a18),.c .nsl,.c (.dat (.two (.int .i64) .str) [] (some 6)),.c .nsl,.c .nsl]⟩,some ⟨false,.tail⟩,some ⟨false,.tail⟩,some ⟨false,.tail⟩,some ⟨false,.tail⟩]))
  (fun i=>(a11.length-i.1.1).toNat) ⟨(0,[]),by simp⟩ ?_
 rintro⟨⟨p,l⟩,hp,hl⟩ ih
 try simp only at hp hl
 have e1:rbin .add .i64 p 1=p+1:=addi (by omega) (by omega)
 have hML:maxLen=9223372036854775807:=by decide
 have hll:l.length=p.toNat:=by rw[hl,List.length_take];omega
 by_cases hlt:p<a11.length
 ·have hm:a11.getD p.toNat (.int 0)∈a11:=by
   have h:p.toNat<a11.length:=by omega
   rw[List.getD_eq_getElem?_getD,geg h];exact List.getElem_mem h
  have hx:=f11 _ hm
  have hnx:l++[nrmD NS (a11.getD p.toNat (.int 0))]=a11.take (p+1).toNat:=by
   have h:p.toNat<a11.length:=by omega
   rw[hx,hl,show(p+1).toNat=p.toNat+1 by omega,List.take_add_one,List.getD_eq_getElem?_getD,geg h];rfl
  refine ra tv0_ok 2 true 400 [true] [1,2,3,4] [4] ?_ ?_
  ·simp only[conj,z0,z2,arR,z1,zd]
   (repeat' with_reducible apply And.intro)<;>first
     |exact fit_net hx
     |omega
  ·refine ih ⟨(_,_),⟨?_,?_⟩⟩ ?_ _ _
   ·show 0≤rbin .add .i64 p 1∧rbin .add .i64 p 1≤a11.length
    rw[e1];omega
   ·show _=a11.take (rbin .add .i64 p 1).toNat
    rw[e1];exact hnx
   ·show((a11.length:Int)-rbin .add .i64 p 1).toNat<((a11.length:Int)-p).toNat
    rw[e1];omega
 ·have hpe:p=a11.length:=by omega
  have hla:l=a11:=by rw[hl,hpe];simp
  subst hla
  refine ra tv0_ok 2 false 400 [false] [1,2,3,5] [] ?_ ?_
  ·simp only[conj,z0,z2,arR,z1]
   omega
  ·exact rf_1 w f11 f12 f13 f20 z11 z12 z13 z20 z16 z19 z21 z22
def sRef (lf:LMf):ESpec:=fun l=>match l with
 | [.agg (.prt [.v s d])]=>if shEq s MS then some (.a (.agg (.prt [.v MS d])),[lf.mFit d])else none
 |_=>none
theorem ref_ok:CallOk Try.prog 36 (sRef lmf):=by
 refine .of_run (hc:=(tv0 ln3).hc) Try.func36 rfl (by kernel_rfl) (by kernel_rfl) fun xs v ps hs hp w=>?_
 unfold sRef at hs
 split at hs
 ·rename_i s d
  split at hs
  ·rename_i hsh
   obtain rfl:=shEq_eq hsh
   clear hsh
   cases hs
   obtain⟨m,rfl,hm,g⟩:mFit d:=hp (lmf.mFit d) (by simp)
   clear hp
   obtain⟨a0,a1,a2,a3,a4,⟨a5t,a5s,a5i,a5p⟩,⟨a6t,a6s,a6i,a6p⟩,a7,a8,a9,a10,a11,a12,a13,a14,a15,a16,a17,a18,a19,a20,a21,a22⟩:=m
   obtain⟨h5,h6,h14,h15,-⟩:=hm
   replace h5:a5i.length=16:=h5
   replace h6:a6i.length=16:=h6
   replace h14:a14.length=32:=h14
   replace h15:a15.length=32:=h15
   obtain⟨f11,z11,f12,z12,f13,z13,f16,z16,f19,z19,f20,z20,f21,z21,f22,z22⟩:=g
   refine ra tv0_ok 0 false 400 [] [1,2,3,4] [] ?_ ?_
   ·simp only[conj,z0,z2,arR,z1,zd]
    exact⟨⟨⟨_,_,_,_⟩,rfl,h6⟩,⟨⟨_,_,_,_⟩,rfl,h5⟩⟩
   refine Run.fam3 (ι:={p:List Int×List Int // p=(a14,a15)}) (fun i=>([.z,.a (.one (.ptr 0 (.lit 0))),.a (.one (.ptr 1 (.lit 0))),.a (.one (.ptr 2 (.lit 0))),.a (.one (.lit .i64 0)),.z,.z,.z,.z,.z,.z]++zq140,[some ⟨false,.prt [.v MS (MD a0 a1 a2 a3 a4 a5t a5s a5i a5p a6t a6s a6i a6p a7 a8 a9 a10 a11 a12 a13 a14 a15 a16 a17 a18 a19 a20 a21 a22)]⟩,some ⟨false,.prt [.c (.int .i64 0),.c (.int .u32 0),.c (.int .u64 0),.c (.int .u64 0),.c (.int .i64 0),.v NS (.pair (.int 0) (.pair (.int 0) (.pair (.row [0,0,0,0,0,0,0,0,0,0,0,0,0,0,0,0]) (.int 0)))),.v NS (.pair (.int 0) (.pair (.int 0) (.pair (.row [0,0,0,0,0,0,0,0,0,0,0,0,0,0,0,0]) (.int 0)))),.c (.str .empty),.c (.int .u32 0),.c (.bool false),.c (.bool false),.c .nsl,.c .nsl,.c .nsl,.v (.arr .u8 32) (.row [0,0,0,0,0,0,0,0,0,0,0,0,0,0,0,0,0,0,0,0,0,0,0,0,0,0,0,0,0,0,0,0]),.v (.arr .u8 32) (.row [0,0,0,0,0,0,0,0,0,0,0,0,0,0,0,0,0,0,0,0,0,0,0,0,0,0,0,0,0,0,0,0]),.c .nsl,.c (.str .empty),.c (.str .empty),.c .nsl,.c .nsl,.c .nsl,.c .nsl]⟩,some ⟨false,.prt [.c (.int .i64 a0),.c (.int .u32 a1),.c (.int .u64 a2),.c (.int .u64 a3),.c (.int .i64 a4),.v NS (.pair (.int a5t) (.pair (.int a5s) (.pair (.row a5i) (.int a5p)))),.v NS (.pair (.int a6t) (.pair (.int a6s) (.pair (.row a6i) (.int a6p)))),.c (.str a7),.c (.int .u32 a8),.c (.bool a9),.c (.bool a10),.c .nsl,.c .nsl,.c .nsl,.v (.arr .u8 32) (.row i.1.1),.v (.arr .u8 32) (.row i.1.2),.c .nsl,.c (.str a17),.c (.str a18),.c .nsl,.c .nsl,.c .nsl,.c .nsl]⟩])) ⟨((List.range 32).map fun j=>a14.getD j 0,(List.range 32).map fun j=>a15.getD j 0),by rw[row_mk h14,row_mk h15]⟩ ?_
   rintro⟨⟨_,_⟩,hh⟩
   cases hh
   refine Run.roomAtP 2 11 NS rfl rfl (Nat.zero_le _) ?_
   refine Run.roomAtP 2 12 (.two (.int .u32) (.arr .u8 32)) rfl rfl (Nat.zero_le _) ?_
   refine Run.roomAtP 2 13 (.arr .u8 32) rfl rfl (Nat.zero_le _) ?_
   refine Run.roomAtP 2 20 (.two (.int .i64) .str) rfl rfl (Nat.zero_le _) ?_
   exact rf_0 w f11 f12 f13 f20 z11 z12 z13 z20 z16 z19 z21 z22
  ·cases hs
 ·cases hs
end Go.Proofs.Ytlbllaocdilafaa
