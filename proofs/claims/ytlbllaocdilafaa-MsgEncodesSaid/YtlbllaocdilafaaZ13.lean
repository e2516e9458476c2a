import Derived.Test.YtlbllaocdilafaaZ10
import Derived.Test.YtlbllaocdilafaaZ12
import Derived.Test.YtlbllaocdilafaaZ11
set_option linter.unusedSimpArgs false
set_option linter.unusedVariables false
namespace Go.Eng
open Go
end Go.Eng
namespace Go.Proofs.Ytlbllaocdilafaa
open Go Go.Eng Go.Proofs Go.RowKit
theorem hmix:Try.prog.follows .mixedOrders=true:=by kernel_rfl
theorem rx {W0:World}{m0:Nat}{fn:Func}{R:V→Heap→Prop}{Λ:Type}{tb:Λ→Tbl}{l0:Λ}(htbl:TblOk Try.prog (tb l0)) (d:Nat) (u:Bool) (n:Nat) (hints:List Bool){t:List V}{h:Heap}{T:List Item}{o:List Prop}{s:List Bool}{F:Ar→Λ→Cfg}(hq:conj (F arR l0).obs) (hr:Run Try.prog (tb l0).hc W0 m0 fn R (F arR l0)) (he:∀ar l,exec ar arR ti (tb l) d u n ⟨t,h,T,[],hints⟩=F ar l:=by intro ar l;conv=>lhs;cbv):Run Try.prog (tb l0).hc W0 m0 fn R ⟨t,h,T,o,s⟩:=run_ex hmix ti_ok htbl d u n hints he (allP hq) hr
theorem ra {W0:World}{m0:Nat}{fn:Func}{R:V→Heap→Prop}{Λ:Type}{tb:Λ→Tbl}{l0:Λ}(htbl:TblOk Try.prog (tb l0)) (d:Nat) (u:Bool) (n:Nat) (hints:List Bool) (keep ns:List Nat){t:List V}{h:Heap}{T:List Item}{o:List Prop}{s:List Bool}{F:Ar→Λ→Cfg}(hq:conj (F arR l0).obs) (hr:Run Try.prog (tb l0).hc W0 m0 fn R ⟨(F arR l0).tmps,(F arR l0).heap,(F arR l0).todo,[],[]⟩) (he:∀ar l,packA m0 keep ns (exec ar arR ti (tb l) d u n ⟨t,h,T,[],hints⟩)=some (F ar l):=by intro ar l;conv=>lhs;cbv):Run Try.prog (tb l0).hc W0 m0 fn R ⟨t,h,T,o,s⟩:=run_pa hmix ti_ok htbl d u n hints keep ns he (allP hq) hr
attribute[local irreducible] CallOk HOk Run TIok rbin rcmp run1 updF shfF blitF
end Go.Proofs.Ytlbllaocdilafaa
namespace Go.Eng
open Go
def A.nz:A→A
 |.one c=>.one c.norm
 |.agg (.lst cs)=>.agg (.lst (cs.map C.norm))
 |.agg g=>.agg g
theorem A.nz_rel {ρ:Ren}{x:A}{v:Value}(h:ARel ρ x v):ARel ρ x.nz v:=by
 cases x with
 |one c=>exact C.norm_rel h
 |agg g=>
  cases g with
  |lst cs=>
   obtain⟨arr,rfl,g2,g3⟩:=h
   refine⟨arr,rfl,by rw[g2];simp[G.len],fun q x hx=>?_⟩
   simp only[G.at,List.getElem?_map,oms]at hx
   obtain⟨c,hc,rfl⟩:=hx
   obtain⟨v,a1,a2⟩:=g3 q c hc
   exact⟨v,a1,C.norm_rel a2⟩
  |_=>exact h
theorem AsRel.nz {ρ:Ren}{l:List A}{args:Array Value}(h:AsRel ρ l args):AsRel ρ (l.map A.nz) args:=by
 refine⟨by rw[h.1];simp,fun j x hx=>?_⟩
 simp only[List.getElem?_map,oms]at hx
 obtain⟨y,hy,rfl⟩:=hx
 obtain⟨u,h1,h2⟩:=h.2 j y hy
 exact⟨u,h1,A.nz_rel h2⟩
def nB (b:Blk):Blk:={b with g:=b.g.norm}
def nP (s:ESpec):ESpec:=fun l=>s (l.map A.nz)
def nH (s:HSpec):HSpec:=fun l bs=>s (l.map A.nz) (bs.map nB)
theorem CallOk.nP {P:Program}{f:FuncId}{s:ESpec}(h:CallOk P f s):CallOk P f (nP s):=by
 unfold CallOk at h ⊢
 intro args v ps hs hp z args' w hz ha
 exact h _ v ps hs hp z args' w hz ha.nz
theorem HOk.nH {P:Program}{f:FuncId}{s:HSpec}(h:HOk P f s):HOk P f (nH s):=by
 unfold HOk at h ⊢
 intro las lbs v lbs' ps hs hp ρ args' w ha hH o a K Q hK
 have e:normH (lbs.map some)=(lbs.map nB).map some:=by
  simp only[normH,List.map_map];exact List.map_congr_left fun b _=>rfl
 have hl:(lbs.map nB).length=lbs.length:=by simp
 have hn:=hH.norm
 rw[e]at hn
 refine h _ _ v lbs' ps hs hp ρ args' w ha.nz (by rw[hl];exact hn) o a K Q fun ρ' v' w' hx hv hh=>hK ρ' v' w' hx hv ?_
 rw[hl]at hh
 exact hh
def leV:List UInt8→Nat
 | []=>0
 |b::l=>b.toNat+256*leV l
theorem leV_lt:∀l:List UInt8,leV l<256 ^ l.length
 | []=>by simp[leV]
 |b::l=>by
  have h1:=leV_lt l
  have h2:b.toNat<256:=b.toNat_lt
  simp only[leV,List.length_cons,Nat.pow_succ]
  omega
theorem leV_snoc:∀(l:List UInt8) (b:UInt8),leV (l++[b])=leV l+256 ^ l.length*b.toNat
 | [],b=>by simp[leV]
 |a::l,b=>by
  simp only[List.cons_append,leV,leV_snoc l b,List.length_cons,Nat.pow_succ]
  rw[Nat.mul_add,←Nat.add_assoc,←Nat.mul_assoc,Nat.mul_comm 256 (256 ^ l.length)]
def layB (n:Int) (k:Nat):ByteArray:=⟨((List.range k).map fun i=>UInt8.ofNat (n.toNat / 256 ^ i % 256)).toArray⟩
theorem or_add64 {x y:Int}(k K:Nat) (hK:K=2 ^ k) (hx:0≤x∧x<K) (a:Nat) (hy:y=(K:Int)*(a:Int)) (hs:x+y<18446744073709551616):rbin .or .u64 x y=x+y:=by
 obtain⟨x',rfl⟩:=Int.eq_ofNat_of_zero_le hx.1
 have hy':y=((K*a:Nat):Int):=by rw[hy];simp
 subst hy'
 have hxl:x'<2 ^ k:=by rw[←hK];omega
 show IntKind.u64.wrap ((BitVec.ofInt 64 (x':Int) ||| BitVec.ofInt 64 ((K*a:Nat):Int)).toNat:Nat)=_
 have e1:(BitVec.ofInt 64 (x':Int)).toNat=x':=by rw[BitVec.toNat_ofInt];omega
 have e2:(BitVec.ofInt 64 ((K*a:Nat):Int)).toNat=K*a:=by rw[BitVec.toNat_ofInt];omega
 rw[BitVec.toNat_or,e1,e2,hK,Nat.or_comm,←Nat.two_pow_add_eq_or_of_lt hxl]
 have hsum:2 ^ k*a+x'<18446744073709551616:=by
  rw[←hK];omega
 have:IntKind.u64.wrap ((2 ^ k*a+x':Nat):Int)=((2 ^ k*a+x':Nat):Int):=by
  show((2 ^ k*a+x':Nat):Int) % 18446744073709551616=_
  omega
 rw[this]
 omega
theorem shl64 (x n:Int):rbin .shl .u64 x n=(x*2 ^ (min n.toNat 64)) % 18446744073709551616:=rfl
theorem shr64 (x n:Int):rbin .shr .u64 x n=x.fdiv (2 ^ (min n.toNat 64)):=rfl
def rdT (s:ByteArray) (at_ e n:Int):ByteArray:=if e=0∧0≤n∧n≤s.size-at_ then s.extract at_.toNat (at_+n).toNat else⟨#[]⟩
def rdAt (s:ByteArray) (at_ e n:Int):Int:=if e=0∧0≤n∧n≤s.size-at_ then at_+n else at_
def rdE (s:ByteArray) (at_ e n:Int):Int:=if e≠0 then e else if n<0 then 1 else if n≤s.size-at_ then 0 else 4
structure LA extends Go.Proofs.Ytlbllaocdilafaa.LB where
 rT:ByteArray→Int→Int→Int→ByteArray
 rA:ByteArray→Int→Int→Int→Int
 rE:ByteArray→Int→Int→Int→Int
 rOk:ByteArray→Int→Prop
 i64:Int→Prop
 get:ByteArray→Int
 get8:ByteArray→Prop
 lay:Int→Int→ByteArray
 layOk:Int→Int→Prop
 endE:ByteArray→Int→Int→Int
 left:ByteArray→Int→Int
def laR:LA where
 toLB:=Go.Proofs.Ytlbllaocdilafaa.lbR
 rT:=rdT
 rA:=rdAt
 rE:=rdE
 rOk s at_:=0≤at_∧at_≤s.size∧s.size≤9223372036854775807
 i64 n:=-9223372036854775808≤n∧n<9223372036854775808
 get s:=(leV s.data.toList:Nat)
 get8 s:=s.size≤8
 lay n k:=layB n k.toNat
 layOk n k:=0≤n∧n<18446744073709551616∧0≤k∧k≤1073741824
 endE s at_ e:=if e≠0 then e else if at_<s.size then 5 else 0
 left s at_:=s.size-at_
end Go.Eng
namespace Go.Proofs.Ytlbllaocdilafaa
open Go Go.Eng Go.Proofs Go.RowKit
attribute[local irreducible] CallOk HOk Run TIok rbin rcmp run1 updF shfF blitF
def tp0 (lf:LA):Tbl:=tbL [] []
theorem tp0_ok:TblOk Try.prog (tp0 laR):=tbL_ok (nofun) (nofun)
def hErr (lf:LA):HSpec:=fun l bs=>match l,bs with
 | [.one (.ptr 0 (.lit 0))],[⟨false,.lst [.str s,.int .i64 at_,.int .i64 e]⟩]=>some (.a (.one (.int .i64 e)),[⟨false,.lst [.str s,.int .i64 at_,.int .i64 e]⟩],[])
 |_,_=>none
theorem err_ok:HOk Try.prog 121 (hErr laR):=by
 refine .of_run (hc:=(tp0 laR).hc) Try.func121 rfl (by kernel_rfl) (by kernel_rfl) fun las lbs v lbs' ps hs hp w=>?_
 unfold hErr at hs
 split at hs
 ·rename_i s at_ e
  cases hs
  refine ra tp0_ok 999 false 400 [] [2] [] ?_ ?_
  ·trivial
  exact Run.ret ti_ok rfl rfl (HEnd.pack [0] rfl rfl rfl rfl)
 ·cases hs
def hAt (lf:LA):HSpec:=fun l bs=>match l,bs with
 | [.one (.ptr 0 (.lit 0))],[⟨false,.lst [.str s,.int .i64 at_,.int .i64 e]⟩]=>some (.a (.one (.int .i64 at_)),[⟨false,.lst [.str s,.int .i64 at_,.int .i64 e]⟩],[])
 |_,_=>none
theorem at_ok:HOk Try.prog 122 (hAt laR):=by
 refine .of_run (hc:=(tp0 laR).hc) Try.func122 rfl (by kernel_rfl) (by kernel_rfl) fun las lbs v lbs' ps hs hp w=>?_
 unfold hAt at hs
 split at hs
 ·rename_i s at_ e
  cases hs
  refine ra tp0_ok 999 false 400 [] [2] [] ?_ ?_
  ·trivial
  exact Run.ret ti_ok rfl rfl (HEnd.pack [0] rfl rfl rfl rfl)
 ·cases hs
def hLeft (lf:LA):HSpec:=fun l bs=>match l,bs with
 | [.one (.ptr 0 (.lit 0))],[⟨false,.lst [.str s,.int .i64 at_,.int .i64 e]⟩]=>some (.a (.one (.int .i64 (lf.left s at_))),[⟨false,.lst [.str s,.int .i64 at_,.int .i64 e]⟩],[lf.rOk s at_])
 |_,_=>none
theorem left_ok:HOk Try.prog 116 (hLeft laR):=by
 refine .of_run (hc:=(tp0 laR).hc) Try.func116 rfl (by kernel_rfl) (by kernel_rfl) fun las lbs v lbs' ps hs hp w=>?_
 unfold hLeft at hs
 split at hs
 ·rename_i s at_ e
  cases hs
  obtain⟨h1,h2,h3⟩:0≤at_∧at_≤s.size∧s.size≤9223372036854775807:=hp (laR.rOk s at_) (by simp)
  refine ra tp0_ok 999 false 400 [] [2] [] ?_ ?_
  ·trivial
  refine Run.ret ti_ok rfl rfl (HEnd.packV [0] rfl rfl rfl (.of (.a (.int ?_))))
  show rbin .sub .i64 s.size at_=s.size-at_
  exact subi (by omega) (by omega)
 ·cases hs
def tp1 (lf:LA):Tbl:=tbL [] [(121,nH (hErr lf)),(116,nH (hLeft lf))]
theorem tp1_ok:TblOk Try.prog (tp1 laR):=tbL_ok (nofun) (mc ⟨err_ok.nH,mc ⟨left_ok.nH,nofun⟩⟩)
def hBytes (lf:LA):HSpec:=fun l bs=>match l,bs with
 | [.one (.ptr 0 (.lit 0)),.one (.int .i64 n)],[⟨false,.lst [.str s,.int .i64 at_,.int .i64 e]⟩]=>some (.a (.one (.str (lf.rT s at_ e n))),[⟨false,.lst [.str s,.int .i64 (lf.rA s at_ e n),.int .i64 (lf.rE s at_ e n)]⟩],[lf.rOk s at_,lf.i64 n])
 |_,_=>none
theorem bytes_ok:HOk Try.prog 145 (hBytes laR):=by
 refine .of_run (hc:=(tp1 laR).hc) Try.func145 rfl (by kernel_rfl) (by kernel_rfl) fun las lbs v lbs' ps hs hp w=>?_
 unfold hBytes at hs
 split at hs
 ·rename_i n s at_ e
  cases hs
  obtain⟨h1,h2,h3⟩:0≤at_∧at_≤s.size∧s.size≤9223372036854775807:=hp (laR.rOk s at_) (by simp)
  obtain⟨h4,h5⟩:-9223372036854775808≤n∧n<9223372036854775808:=hp (laR.i64 n) (by simp)
  clear hp
  by_cases he:e=0
  ·subst he
   by_cases hn:n<0
   ·have hc:¬((0:Int)=0∧0≤n∧n≤s.size-at_):=by omega
    have e1:laR.rT s at_ 0 n=⟨#[]⟩:=if_neg hc
    have e2:laR.rA s at_ 0 n=at_:=if_neg hc
    have e3:laR.rE s at_ 0 n=1:=by
     show rdE s at_ 0 n=_
     unfold rdE;rw[if_neg (by simp),if_pos hn]
    rw[e1,e2,e3]
    refine ra tp1_ok 999 false 400 [false,true] [4] [] ?_ ?_
    ·simp only[conj,z0,z2,arR,z1,laR]
     ((repeat' with_reducible apply And.intro)<;>first|omega|assumption|rfl|trivial)
    exact Run.ret ti_ok rfl rfl (HEnd.pack [0] rfl rfl rfl rfl)
   ·by_cases hl:n≤s.size-at_
    ·have hc:(0:Int)=0∧0≤n∧n≤s.size-at_:=by omega
     have e1:laR.rT s at_ 0 n=s.extract at_.toNat (at_+n).toNat:=if_pos hc
     have e2:laR.rA s at_ 0 n=at_+n:=if_pos hc
     have e3:laR.rE s at_ 0 n=0:=by
      show rdE s at_ 0 n=_
      unfold rdE;rw[if_neg (by simp),if_neg hn,if_pos hl]
     have f1:rbin .add .i64 at_ n=at_+n:=addi (by omega) (by omega)
     have f2:rbin .sub .i64 (at_+n) n=at_:=by rw[subi (by omega) (by omega)];omega
     rw[e1,e2,e3]
     refine ra tp1_ok 999 false 400 [false,false,false] [4] [] ?_ ?_
     ·simp only[conj,z0,z2,arR,z1,laR,f1,f2]
      ((repeat' with_reducible apply And.intro)<;>first|omega|assumption|rfl|trivial)
     refine Run.ret ti_ok rfl rfl (HEnd.pack [0] rfl rfl ?_ ?_)<;>
      (simp only[arR,f1,f2];rfl)
    ·have hc:¬((0:Int)=0∧0≤n∧n≤s.size-at_):=by omega
     have e1:laR.rT s at_ 0 n=⟨#[]⟩:=if_neg hc
     have e2:laR.rA s at_ 0 n=at_:=if_neg hc
     have e3:laR.rE s at_ 0 n=4:=by
      show rdE s at_ 0 n=_
      unfold rdE;rw[if_neg (by simp),if_neg hn,if_neg hl]
     rw[e1,e2,e3]
     refine ra tp1_ok 999 false 400 [false,false,true] [4] [] ?_ ?_
     ·simp only[conj,z0,z2,arR,z1,laR]
      ((repeat' with_reducible apply And.intro)<;>first|omega|assumption|rfl|trivial)
     exact Run.ret ti_ok rfl rfl (HEnd.pack [0] rfl rfl rfl rfl)
  ·have hc:¬(e=0∧0≤n∧n≤s.size-at_):=by omega
   have e1:laR.rT s at_ e n=⟨#[]⟩:=if_neg hc
   have e2:laR.rA s at_ e n=at_:=if_neg hc
   have e3:laR.rE s at_ e n=e:=if_pos he
   rw[e1,e2,e3]
   refine ra tp1_ok 999 false 400 [true] [4] [] ?_ ?_
   ·simp only[conj,z0,z2,arR,z1,laR]
    ((repeat' with_reducible apply And.intro)<;>first|omega|assumption|rfl|trivial)
   exact Run.ret ti_ok rfl rfl (HEnd.pack [0] rfl rfl rfl rfl)
 ·cases hs
def sTake (lf:LA):ESpec:=fun l=>match l with
 | [.one (.str s)]=>some (.a (.one (.int .u64 (lf.get s))),[lf.get8 s])
 |_=>none
theorem take_ok:CallOk Try.prog 155 (sTake laR):=by
 refine .of_run (hc:=(tp0 laR).hc) Try.func155 rfl (by kernel_rfl) (by kernel_rfl) fun xs v ps hs hp w=>?_
 unfold sTake at hs
 split at hs
 ·rename_i s
  cases hs
  have h8:s.size≤8:=hp (laR.get8 s) (by simp)
  clear hp
  refine ra tp0_ok 0 false 400 [] [0,3,6,7] [3,7] ?_ ?_
  ·trivial
  have hl:s.data.toList.length=s.size:=by rw[Array.length_toList];rfl
  refine Run.loop (ι:={p:Int×Int×Int // (0≤p.1∧p.1≤s.size)∧p.2.1=(leV (s.data.toList.take p.1.toNat):Nat)∧p.2.2=s.size})
   (fun i=>([.a (.one (.str s)),.z,.z,.a (.one (.int .u64 i.1.2.1)),.z,.z,.a (.one (.int .i64 i.1.2.2)),.a (.one (.int .i64 i.1.1)),.z,.z,.z,.z,.z,.z,.z,.z,.z,.z,.z,.z,.z],[]))
   (fun i=>(s.size-i.1.1).toNat) ⟨(0,0,_),by simp only;omega,rfl,rfl⟩ ?_
  rintro⟨⟨k,n,len⟩,hk,hn,hlen⟩ ih
  simp only at hk hn hlen
  by_cases hlt:k<s.size
  ·have hkl:k.toNat<s.data.toList.length:=by omega
   have f1:rbin .add .i64 k 1=k+1:=addi (by omega) (by omega)
   have f2:rbin .mul .i64 8 k=8*k:=muli (by omega) (by omega)
   have hb:=(s.data.toList[k.toNat]).toNat_lt
   have hlv:=leV_lt (s.data.toList.take k.toNat)
   have htl:(s.data.toList.take k.toNat).length=k.toNat:=by rw[List.length_take];omega
   rw[htl]at hlv
   have hsb:arR.sb s k.toNat=((s.data.toList[k.toNat]).toNat:Nat):=by
    show(((s[k.toNat]?).getD 0).toNat:Int)=_
    rw[ByteArray.getElem?_lt' s _ (by omega)]
    rfl
   have h256:(256:Nat) ^ k.toNat=2 ^ (8*k.toNat):=by
    rw[Nat.pow_mul]
   have hpb:(256:Nat) ^ (k.toNat+1)≤256 ^ 8:=Nat.pow_le_pow_right (by decide) (by omega)
   have hp8:(256:Nat) ^ 8=18446744073709551616:=by decide
   have hps:(256:Nat) ^ (k.toNat+1)=256 ^ k.toNat*256:=Nat.pow_succ _ _
   have hmul:256 ^ k.toNat*(s.data.toList[k.toNat]).toNat≤256 ^ k.toNat*255:=Nat.mul_le_mul_left _ (by omega)
   have hc:arR.conv .u64 (arR.sb s k.toNat)=((s.data.toList[k.toNat]).toNat:Nat):=by
    rw[hsb]
    show(((s.data.toList[k.toNat]).toNat:Nat):Int) % 18446744073709551616=_
    omega
   have f3:rbin .shl .u64 ((s.data.toList[k.toNat]).toNat:Nat) (8*k)=((256 ^ k.toNat*(s.data.toList[k.toNat]).toNat:Nat):Int):=by
    rw[shl64]
    have e:min (8*k).toNat 64=8*k.toNat:=by omega
    rw[e]
    have e2:((2:Int) ^ (8*k.toNat))=((256 ^ k.toNat:Nat):Int):=by rw[h256,Int.natCast_pow];rfl
    rw[e2,←Int.natCast_mul,Nat.mul_comm]
    omega
   have f4:rbin .or .u64 n ((256 ^ k.toNat*(s.data.toList[k.toNat]).toNat:Nat):Int)=n+((256 ^ k.toNat*(s.data.toList[k.toNat]).toNat:Nat):Int):=or_add64 (8*k.toNat) (256 ^ k.toNat) h256 (by omega) (s.data.toList[k.toNat]).toNat (by simp) (by omega)
   have hnext:n+((256 ^ k.toNat*(s.data.toList[k.toNat]).toNat:Nat):Int)=(leV (s.data.toList.take (k+1).toNat):Nat):=by
    rw[show(k+1).toNat=k.toNat+1 by omega,List.take_succ_eq_append_getElem hkl,leV_snoc,htl,hn]
    omega
   refine ra tp0_ok 2 true 400 [true] [0,3,6,7] [3,7] ?_ ?_
   ·simp only[conj,z0,z2,arR,z1,hlen]
    ((repeat' with_reducible apply And.intro)<;>first|omega|assumption|rfl|trivial)
   ·refine ih ⟨(_,_,_),?_⟩ ?_ _ _
    ·refine⟨?_,?_,hlen⟩
     ·simp only[arR,f1];omega
     ·show rbin .or .u64 n (rbin .shl .u64 (arR.conv .u64 (arR.sb s k.toNat)) (rbin .mul .i64 8 k))=(leV (s.data.toList.take (rbin .add .i64 k 1).toNat):Nat)
      rw[f1,f2,hc,f3,f4,hnext]
    ·simp only[arR,f1];omega
  ·refine rx tp0_ok 999 false 400 [false] ?_ ?_
   ·simp only[conj,z0,z2,arR,z1,hlen]
    ((repeat' with_reducible apply And.intro)<;>first|omega|assumption|rfl|trivial)
   ·refine Run.ret ti_ok rfl rfl (.a (.int ?_))
    rw[hn,List.take_of_length_le (by omega)];rfl
 ·cases hs
def tp2 (lf:LA):Tbl:=tbL [(155,sTake lf)] [(145,nH (hBytes lf))]
theorem tp2_ok:TblOk Try.prog (tp2 laR):=tbL_ok (mc ⟨take_ok,nofun⟩) (mc ⟨bytes_ok.nH,nofun⟩)
def hU64 (lf:LA):HSpec:=fun l bs=>match l,bs with
 | [.one (.ptr 0 (.lit 0))],[⟨false,.lst [.str s,.int .i64 at_,.int .i64 e]⟩]=>some (.a (.one (.int .u64 (lf.get (lf.rT s at_ e 8)))),[⟨false,.lst [.str s,.int .i64 (lf.rA s at_ e 8),.int .i64 (lf.rE s at_ e 8)]⟩],[lf.rOk s at_])
 |_,_=>none
theorem rT_size (s:ByteArray) (at_ e n:Int) (h:0≤at_):((rdT s at_ e n).size:Int)≤max n 0:=by
 unfold rdT
 split
 ·rename_i hc
  rw[ByteArray.size_extract];omega
 ·show(0:Int)≤_
  omega
theorem u64_ok:HOk Try.prog 139 (hU64 laR):=by
 refine .of_run (hc:=(tp2 laR).hc) Try.func139 rfl (by kernel_rfl) (by kernel_rfl) fun las lbs v lbs' ps hs hp w=>?_
 unfold hU64 at hs
 split at hs
 ·rename_i s at_ e
  cases hs
  have hr:laR.rOk s at_:=hp (laR.rOk s at_) (by simp)
  have h8:laR.get8 (laR.rT s at_ e 8):=by
   have:=rT_size s at_ e 8 hr.1
   show(rdT s at_ e 8).size≤8
   omega
  have hi:laR.i64 8:=⟨by decide,by decide⟩
  refine ra tp2_ok 999 false 400 [] [2] [] ?_ ?_
  ·exact⟨h8,hr,hi,trivial⟩
  exact Run.ret ti_ok rfl rfl (HEnd.pack [0] rfl rfl rfl rfl)
 ·cases hs
def tp3 (lf:LA):Tbl:=tbL [] [(121,nH (hErr lf)),(116,nH (hLeft lf))]
theorem tp3_ok:TblOk Try.prog (tp3 laR):=tbL_ok (nofun) (mc ⟨err_ok.nH,mc ⟨left_ok.nH,nofun⟩⟩)
def hEnd (lf:LA):HSpec:=fun l bs=>match l,bs with
 | [.one (.ptr 0 (.lit 0))],[⟨false,.lst [.str s,.int .i64 at_,.int .i64 e]⟩]=>some (.a (.one (.int .i64 (lf.endE s at_ e))),[⟨false,.lst [.str s,.int .i64 at_,.int .i64 (lf.endE s at_ e)]⟩],[lf.rOk s at_])
 |_,_=>none
theorem end_ok:HOk Try.prog 80 (hEnd laR):=by
 refine .of_run (hc:=(tp3 laR).hc) Try.func80 rfl (by kernel_rfl) (by kernel_rfl) fun las lbs v lbs' ps hs hp w=>?_
 unfold hEnd at hs
 split at hs
 ·rename_i s at_ e
  cases hs
  obtain⟨h1,h2,h3⟩:0≤at_∧at_≤s.size∧s.size≤9223372036854775807:=hp (laR.rOk s at_) (by simp)
  have hr:laR.rOk s at_:=⟨h1,h2,h3⟩
  by_cases he:e=0
  ·subst he
   by_cases hl:at_<s.size
   ·have e1:laR.endE s at_ 0=5:=by
     show(if(0:Int)≠0 then(0:Int)else if at_<s.size then 5 else 0)=5
     rw[if_neg (by simp),if_pos hl]
    rw[e1]
    refine ra tp3_ok 999 false 400 [true,true] [2] [] ?_ ?_
    ·simp only[conj,z0,z2,arR,z1,laR]
     ((repeat' with_reducible apply And.intro)<;>first|omega|assumption|rfl|trivial)
    exact Run.ret ti_ok rfl rfl (HEnd.pack [0] rfl rfl rfl rfl)
   ·have e1:laR.endE s at_ 0=0:=by
     show(if(0:Int)≠0 then(0:Int)else if at_<s.size then 5 else 0)=0
     rw[if_neg (by simp),if_neg hl]
    rw[e1]
    refine ra tp3_ok 999 false 400 [true,false] [2] [] ?_ ?_
    ·simp only[conj,z0,z2,arR,z1,laR]
     ((repeat' with_reducible apply And.intro)<;>first|omega|assumption|rfl|trivial)
    exact Run.ret ti_ok rfl rfl (HEnd.pack [0] rfl rfl rfl rfl)
  ·have e1:laR.endE s at_ e=e:=if_pos he
   rw[e1]
   refine ra tp3_ok 999 false 400 [false,false] [2] [] ?_ ?_
   ·simp only[conj,z0,z2,arR,z1,laR]
    ((repeat' with_reducible apply And.intro)<;>first|omega|assumption|rfl|trivial)
   exact Run.ret ti_ok rfl rfl (HEnd.pack [0] rfl rfl rfl rfl)
 ·cases hs
def hNewR (lf:LA):HSpec:=fun l bs=>match l,bs with
 | [.one (.str s)],[]=>some (.a (.one (.ptr 0 (.lit 0))),[⟨false,.lst [.str s,.int .i64 0,.int .i64 0]⟩],[])
 |_,_=>none
theorem newR_ok:HOk Try.prog 77 (hNewR laR):=by
 refine .of_run (hc:=(tp0 laR).hc) Try.func77 rfl (by kernel_rfl) (by kernel_rfl) fun las lbs v lbs' ps hs hp w=>?_
 unfold hNewR at hs
 split at hs
 ·rename_i s
  cases hs
  refine ra tp0_ok 999 false 400 [] [2] [] ?_ ?_
  ·trivial
  exact Run.ret ti_ok rfl rfl (HEnd.pack [0] rfl rfl rfl rfl)
 ·cases hs
def sLay (lf:LA):ESpec:=fun l=>match l with
 | [.one (.int .u64 n),.one (.int .i64 k)]=>some (.a (.one (.str (lf.lay n k))),[lf.layOk n k])
 |_=>none
theorem lay_ok:CallOk Try.prog 131 (sLay laR):=by
 refine .of_run (hc:=(tp0 laR).hc) Try.func131 rfl (by kernel_rfl) (by kernel_rfl) fun xs v ps hs hp w=>?_
 unfold sLay at hs
 split at hs
 ·rename_i n k
  cases hs
  obtain⟨h1,h2,h3,h4⟩:0≤n∧n<18446744073709551616∧0≤k∧k≤1073741824:=hp (laR.layOk n k) (by simp)
  clear hp
  refine ra tp0_ok 0 false 400 [] [0,5,10,11] [11] ?_ ?_
  ·simp only[conj,z0,z2,arR,z1]
   ((repeat' with_reducible apply And.intro)<;>first|omega|assumption|rfl|trivial)
  refine Run.loop (ι:={p:Int×Nat×(Nat→Int)×Int // (0≤p.1∧p.1≤k)∧p.2.1=k.toNat∧(∀j,j<p.1.toNat→p.2.2.1 j=((n.toNat / 256 ^ j % 256:Nat):Int))∧p.2.2.2=k})
   (fun i=>([.a (.one (.int .u64 n)),.z,.z,.z,.z,.a (.one (.sl 0 (.lit 0) (.sym i.1.2.1) (.sym i.1.2.1))),.z,.z,.z,.z,.a (.one (.int .i64 i.1.2.2.2)),.a (.one (.int .i64 i.1.1)),.z,.z,.z,.z,.z,.z,.z,.z,.z,.z,.z,.z,.z],[some ⟨false,.ints .u8 (.sym i.1.2.1) i.1.2.2.1⟩]))
   (fun i=>(k-i.1.1).toNat) ⟨(0,_,_,_),by simp only;omega,rfl,fun j hj=>absurd hj (Nat.not_lt_zero j),by show((k.toNat:Nat):Int)=k;omega⟩ ?_
  rintro⟨⟨i,m,f,len⟩,hi,hm,hf,hlen⟩ ih
  simp only at hi hm hf hlen
  by_cases hlt:i<k
  ·have f1:rbin .add .i64 i 1=i+1:=addi (by omega) (by omega)
   have f2:rbin .mul .i64 8 i=8*i:=muli (by omega) (by omega)
   have f3:rbin .shr .u64 n (8*i)=((n.toNat / 256 ^ i.toNat:Nat):Int):=by
    rw[shr64]
    have hn:n=(n.toNat:Nat):=by omega
    by_cases h8:i.toNat≤8
    ·have e:min (8*i).toNat 64=8*i.toNat:=by omega
     have h256:(2:Nat) ^ (8*i.toNat)=256 ^ i.toNat:=by
      rw[Nat.pow_mul]
     rw[e,hn]
     have e2:((2:Int) ^ (8*i.toNat))=((256 ^ i.toNat:Nat):Int):=by rw[←h256,Int.natCast_pow];rfl
     rw[e2,Int.fdiv_eq_ediv_of_nonneg _ (Int.natCast_nonneg (256 ^ i.toNat)),←Int.natCast_ediv,Int.toNat_natCast]
    ·have e:min (8*i).toNat 64=64:=by omega
     have hp8:(256:Nat) ^ 8=18446744073709551616:=by decide
     have hle:(256:Nat) ^ 8≤256 ^ i.toNat:=Nat.pow_le_pow_right (by decide) (by omega)
     have e0:n.toNat / 256 ^ i.toNat=0:=Nat.div_eq_of_lt (by omega)
     rw[e,e0]
     have e2:((2:Int) ^ 64)=18446744073709551616:=by decide
     rw[e2,Int.fdiv_eq_ediv_of_nonneg _ (by decide:(0:Int)≤18446744073709551616)]
     omega
   refine ra tp0_ok 2 true 400 [true] [0,5,10,11] [11] ?_ ?_
   ·simp only[conj,z0,z2,arR,z1,hlen]
    ((repeat' with_reducible apply And.intro)<;>first|omega|assumption|rfl|trivial)
   ·refine ih ⟨(_,_,_,_),?_⟩ ?_ _ _
    ·refine⟨?_,hm,fun j hj=>?_,hlen⟩
     ·simp only[arR,f1];omega
     ·show updF f (0+i.toNat*1) (arR.conv .u8 (rbin .shr .u64 n (rbin .mul .i64 8 i))) j=_
      have hj:j<(rbin .add .i64 i 1).toNat:=hj
      rw[f1]at hj
      rw[f2,f3]
      unfold updF
      by_cases hji:j=0+i.toNat*1
      ·rw[if_pos hji]
       show((n.toNat / 256 ^ i.toNat:Nat):Int) % 256=_
       rw[show j=i.toNat by omega]
       omega
      ·rw[if_neg hji]
       exact hf j (by omega)
    ·simp only[arR,f1];omega
  ·refine rx tp0_ok 999 false 400 [false] ?_ ?_
   ·simp only[conj,z0,z2,arR,z1,hlen]
    ((repeat' with_reducible apply And.intro)<;>first|omega|assumption|rfl|trivial)
   ·refine Run.ret ti_ok rfl rfl (.a (.str ?_))
    show(⟨((List.range m).map fun j=>UInt8.ofNat (f (0+j)).toNat).toArray⟩:ByteArray)=layB n k.toNat
    unfold layB
    rw[hm]
    congr 2
    refine List.map_congr_left fun j hj=>?_
    have hj:=List.mem_range.1 hj
    rw[Nat.zero_add,hf j (by omega),Int.toNat_natCast]
 ·cases hs
def tq0 (lf:LA):Tbl:=tbL [] [(134,hWS lf.toLB)]
theorem tq0_ok:TblOk Try.prog (tq0 laR):=tbL_ok (nofun) (mc ⟨writeS_ok,nofun⟩)
def hWBytes (lf:LA):HSpec:=fun l bs=>match l,bs with
 | [.one (.ptr 0 (.lit 0)),.one (.str u)],[⟨false,.lst [.adr 0 167,.bf s 1 5]⟩,⟨false,.tail⟩]=>some (.tup [],[⟨false,.lst [.adr 0 167,.bf (lf.cat s u) 2 5]⟩,⟨true,.dead⟩,⟨false,.tail⟩],[lf.fits s u])
 |_,_=>none
theorem wbytes_ok:HOk Try.prog 96 (hWBytes laR):=by
 refine .of_run (hc:=(tq0 laR).hc) Try.func96 rfl (by kernel_rfl) (by kernel_rfl) fun las lbs v lbs' ps hs hp w=>?_
 unfold hWBytes at hs
 split at hs
 ·rename_i u s
  cases hs
  have hf:laR.fits s u:=hp (laR.fits s u) (by simp)
  refine rx tq0_ok 999 false 400 [] ?_ ?_
  ·exact⟨hf,trivial⟩
  exact Run.fin ti_ok rfl rfl (HEnd.pack [0,1,2] rfl rfl rfl rfl)
 ·cases hs
def tq1 (lf:LA):Tbl:=tbL [(131,nP (sLay lf))] [(96,nH (hWBytes lf))]
theorem tq1_ok:TblOk Try.prog (tq1 laR):=tbL_ok (mc ⟨lay_ok.nP,nofun⟩) (mc ⟨wbytes_ok.nH,nofun⟩)
def hWU64 (lf:LA):HSpec:=fun l bs=>match l,bs with
 | [.one (.ptr 0 (.lit 0)),.one (.int .u64 n)],[⟨false,.lst [.adr 0 167,.bf s 1 5]⟩,⟨false,.tail⟩]=>some (.tup [],[⟨false,.lst [.adr 0 167,.bf (lf.cat s (lf.lay n 8)) 2 5]⟩,⟨true,.dead⟩,⟨false,.tail⟩],[lf.layOk n 8,lf.fits s (lf.lay n 8)])
 |_,_=>none
theorem wu64_ok:HOk Try.prog 91 (hWU64 laR):=by
 refine .of_run (hc:=(tq1 laR).hc) Try.func91 rfl (by kernel_rfl) (by kernel_rfl) fun las lbs v lbs' ps hs hp w=>?_
 unfold hWU64 at hs
 split at hs
 ·rename_i n s
  cases hs
  have h1:laR.layOk n 8:=hp (laR.layOk n 8) (by simp)
  have h2:laR.fits s (laR.lay n 8):=hp (laR.fits s (laR.lay n 8)) (by simp)
  refine rx tq1_ok 999 false 400 [] ?_ ?_
  ·exact⟨h2,h1,trivial⟩
  exact Run.fin ti_ok rfl rfl (HEnd.pack [0,1,2] rfl rfl rfl rfl)
 ·cases hs
def tq2 (lf:LA):Tbl:=tbL [] [(100,hBLen lf.toLB),(101,hBStr lf.toLB)]
theorem tq2_ok:TblOk Try.prog (tq2 laR):=tbL_ok (nofun) (mc ⟨blen_ok,mc ⟨bstr_ok,nofun⟩⟩)
def hWLen (lf:LA):HSpec:=fun l bs=>match l,bs with
 | [.one (.ptr 0 (.lit 0))],[⟨false,.lst [.adr 0 167,.bf s 1 5]⟩,⟨false,.tail⟩]=>some (.a (.one (.int .i64 (lf.size s))),[⟨false,.lst [.adr 0 167,.bf s 1 5]⟩,⟨false,.tail⟩],[])
 |_,_=>none
theorem wlen_ok:HOk Try.prog 71 (hWLen laR):=by
 refine .of_run (hc:=(tq2 laR).hc) Try.func71 rfl (by kernel_rfl) (by kernel_rfl) fun las lbs v lbs' ps hs hp w=>?_
 unfold hWLen at hs
 split at hs
 ·rename_i s
  cases hs
  refine rx tq2_ok 999 false 400 [] ?_ ?_
  ·trivial
  exact Run.ret ti_ok rfl rfl (HEnd.pack [0,1] rfl rfl rfl rfl)
 ·cases hs
def hWText (lf:LA):HSpec:=fun l bs=>match l,bs with
 | [.one (.ptr 0 (.lit 0))],[⟨false,.lst [.adr 0 167,.bf s 1 5]⟩,⟨false,.tail⟩]=>some (.a (.one (.str s)),[⟨false,.lst [.adr 0 167,.dat (.int .u8) (lf.byt s) none]⟩,⟨true,.dead⟩],[lf.fit1 s])
 |_,_=>none
theorem wtext_ok:HOk Try.prog 72 (hWText laR):=by
 refine .of_run (hc:=(tq2 laR).hc) Try.func72 rfl (by kernel_rfl) (by kernel_rfl) fun las lbs v lbs' ps hs hp w=>?_
 unfold hWText at hs
 split at hs
 ·rename_i s
  cases hs
  have hf:laR.fit1 s:=hp (laR.fit1 s) (by simp)
  refine rx tq2_ok 999 false 400 [] ?_ ?_
  ·exact⟨hf,trivial⟩
  exact Run.ret ti_ok rfl rfl (HEnd.pack [0,1] rfl rfl rfl rfl)
 ·cases hs
end Go.Proofs.Ytlbllaocdilafaa
namespace Go.Eng
open Go
end Go.Eng
namespace Go.Proofs.Ytlbllaocdilafaa
open Go Go.Eng Go.Proofs Go.RowKit
attribute[local irreducible] CallOk HOk Run TIok rbin rcmp run1 updF shfF blitF
def tpd (lf:LA):Tbl:=tbL [(155,sTake lf),(131,nP (sLay lf))] [(145,nH (hBytes lf)),(96,nH (hWBytes lf))]
theorem tpd_ok:TblOk Try.prog (tpd laR):=tbL_ok (mc ⟨take_ok,mc ⟨lay_ok.nP,nofun⟩⟩) (mc ⟨bytes_ok.nH,mc ⟨wbytes_ok.nH,nofun⟩⟩)
def hU32 (lf:LA):HSpec:=fun l bs=>match l,bs with
 | [.one (.ptr 0 (.lit 0))],[⟨false,.lst [.str s,.int .i64 at_,.int .i64 e]⟩]=>some (.a (.one (.int .u32 (lf.get (lf.rT s at_ e 4)))),[⟨false,.lst [.str s,.int .i64 (lf.rA s at_ e 4),.int .i64 (lf.rE s at_ e 4)]⟩],[lf.rOk s at_])
 |_,_=>none
def hWU32 (lf:LA):HSpec:=fun l bs=>match l,bs with
 | [.one (.ptr 0 (.lit 0)),.one (.int .u32 n)],[⟨false,.lst [.adr 0 167,.bf s 1 5]⟩,⟨false,.tail⟩]=>some (.tup [],[⟨false,.lst [.adr 0 167,.bf (lf.cat s (lf.lay n 4)) 2 5]⟩,⟨true,.dead⟩,⟨false,.tail⟩],[lf.layOk n 4,lf.fits s (lf.lay n 4)])
 |_,_=>none
theorem wu32_ok:HOk Try.prog 93 (hWU32 laR):=by
 refine .of_run (hc:=(tpd laR).hc) Try.func93 rfl (by kernel_rfl) (by kernel_rfl) fun las lbs v lbs' ps hs hp w=>?_
 unfold hWU32 at hs
 split at hs
 ·rename_i n s
  cases hs
  have h1:laR.layOk n 4:=hp (laR.layOk n 4) (by simp)
  have h2:laR.fits s (laR.lay n 4):=hp (laR.fits s (laR.lay n 4)) (by simp)
  have hc:IntKind.u64.wrap n=n:=Int.emod_eq_of_lt h1.1 h1.2.1
  have hc':arR.conv .u64 n=n:=hc
  refine rx tpd_ok 999 false 400 [] ?_ ?_
  ·have h1':laR.layOk (arR.conv .u64 n) 4:=by rw[hc'];exact h1
   have h2':laR.fits s (laR.lay (arR.conv .u64 n) 4):=by rw[hc'];exact h2
   exact⟨h2',h1',trivial⟩
  refine Run.fin ti_ok rfl rfl (HEnd.pack [0,1,2] rfl rfl ?_ rfl)
  simp only[arR,hc]
  rfl
 ·cases hs
end Go.Proofs.Ytlbllaocdilafaa
