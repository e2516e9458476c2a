import Derived.Test.YtlbllaocdilafaaZ38
set_option linter.unusedSimpArgs false
set_option linter.unusedVariables false
set_option maxRecDepth 100000
namespace Go.Eng
open Go
theorem rc00:rcmp .eql 0 0=true:=rfl
theorem cv_small {n:Int}(h0:0≤n) (h1:n≤140737488355328):rtR.cv n=n:=by
 show IntKind.i64.wrap n=n
 rw[w64]
 omega
theorem cv_id {s:ByteArray}{p n:Int}(h0:0≤n) (h:0≤p∧p+n≤s.size∧s.size≤140737488355328):rtR.cv n=n:=cv_small h0 (by omega)
end Go.Eng
namespace Go.Proofs.Ytlbllaocdilafaa
open Go Go.Eng Go.Proofs Go.RowKit
attribute[local irreducible] CallOk HOk Run TIok rbin rcmp run1 updF shfF blitF
def tvc0 (lf:RT):Tbl:=tbL [] [(121,nH (hErr lf.toLA)),(122,nH (hAt lf.toLA))]
theorem tvc0_ok:TblOk Try.prog (tvc0 rtR):=tbL_ok (nofun) (mc ⟨err_ok.nH,mc ⟨at_ok.nH,nofun⟩⟩)
def hPrtT (lf:RT):HSpec:=fun l bs=>match l,bs with
 | [.one (.ptr 0 (.lit 0))],[⟨false,.lst [.ptr 1 (.lit 0),.int .i64 a]⟩,⟨false,.lst [.str s,.int .i64 p,.int .i64 e]⟩]=>some (.tup [],[⟨false,.lst [.ptr 1 (.lit 0),.int .i64 p]⟩,⟨false,.lst [.str s,.int .i64 p,.int .i64 e]⟩],[lf.e0 e])
 |_,_=>none
theorem prtT_ok:HOk Try.prog 79 (hPrtT rtR):=by
 refine .of_run (hc:=(tvc0 rtR).hc) Try.func79 rfl (by kernel_rfl) (by kernel_rfl) fun las lbs v lbs' ps hs hp w=>?_
 unfold hPrtT at hs
 split at hs
 ·rename_i a s p e
  cases hs
  have h:e=0:=hp (rtR.e0 e) (by simp)
  refine rx tvc0_ok 999 false 400 [true] ?_ ?_
  ·simp only[conj,z0,z2,arR,z1]
   exact h
  exact Run.fin ti_ok rfl rfl (HEnd.pack [0,1] rfl rfl rfl rfl)
 ·cases hs
def hFinT (lf:RT):HSpec:=fun l bs=>match l,bs with
 | [.one (.ptr 0 (.lit 0))],[⟨false,.lst [.ptr 1 (.lit 0),.int .i64 a]⟩,⟨false,.lst [.str s,.int .i64 p,.int .i64 e]⟩]=>some (.a (.one (.bool true)),[⟨false,.lst [.ptr 1 (.lit 0),.int .i64 a]⟩,⟨false,.lst [.str s,.int .i64 p,.int .i64 e]⟩],[lf.e0 e])
 |_,_=>none
theorem finT_ok:HOk Try.prog 110 (hFinT rtR):=by
 refine .of_run (hc:=(tvc0 rtR).hc) Try.func110 rfl (by kernel_rfl) (by kernel_rfl) fun las lbs v lbs' ps hs hp w=>?_
 unfold hFinT at hs
 split at hs
 ·rename_i a s p e
  cases hs
  have h:e=0:=hp (rtR.e0 e) (by simp)
  refine rx tvc0_ok 999 false 400 [] ?_ ?_
  ·trivial
  refine Run.ret ti_ok rfl rfl (HEnd.packV [0,1] rfl rfl rfl (.of (.a (.bool ?_))))
  show rcmp .eql e 0=true
  rw[h]
  exact rc00
 ·cases hs
def tvc1 (lf:RT):Tbl:=tbL [] [(145,nH (hBytT lf)),(141,nH (hU4T lf)),(139,nH (hU8T lf)),(140,nH (hCntT lf)),(143,nH (hHshT lf)),(146,nH (hBolT lf)),(142,nH (hBigT lf)),(79,nH (hPrtT lf))]
theorem tvc1_ok:TblOk Try.prog (tvc1 rtR):=tbL_ok (nofun) (mc ⟨bytT_ok.nH,mc ⟨u4T_ok.nH,mc ⟨u8T_ok.nH,mc ⟨cntT_ok.nH,mc ⟨hshT_ok.nH,mc ⟨bolT_ok.nH,mc ⟨bigT_ok.nH,mc ⟨prtT_ok.nH,nofun⟩⟩⟩⟩⟩⟩⟩⟩)
def hM4T (lf:RT):HSpec:=fun l bs=>match l,bs with
 | [.one (.ptr 0 (.lit 0))],[⟨false,.lst [.ptr 1 (.lit 0),.int .i64 a]⟩,⟨false,.lst [.str s,.int .i64 p,.int .i64 e]⟩]=>some (.a (.one (.int .u32 (lf.get (lf.cut s p 4)))),[⟨false,.lst [.ptr 1 (.lit 0),.int .i64 p]⟩,⟨false,.lst [.str s,.int .i64 (lf.add p 4),.int .i64 e]⟩],[lf.room s p 4 e])
 |_,_=>none
theorem m4T_ok:HOk Try.prog 111 (hM4T rtR):=by
 refine .of_run (hc:=(tvc1 rtR).hc) Try.func111 rfl (by kernel_rfl) (by kernel_rfl) fun las lbs v lbs' ps hs hp w=>?_
 unfold hM4T at hs
 split at hs
 ·rename_i a s p e
  cases hs
  have hr:rtR.room s p 4 e:=hp (rtR.room s p 4 e) (by simp)
  have he:rtR.e0 e:=hr.1
  refine rx tvc1_ok 999 false 400 [] ?_ ?_
  ·exact⟨hr,he,trivial⟩
  exact Run.ret ti_ok rfl rfl (HEnd.pack [0,1] rfl rfl rfl rfl)
 ·cases hs
def hM8T (lf:RT):HSpec:=fun l bs=>match l,bs with
 | [.one (.ptr 0 (.lit 0))],[⟨false,.lst [.ptr 1 (.lit 0),.int .i64 a]⟩,⟨false,.lst [.str s,.int .i64 p,.int .i64 e]⟩]=>some (.a (.one (.int .u64 (lf.get (lf.cut s p 8)))),[⟨false,.lst [.ptr 1 (.lit 0),.int .i64 p]⟩,⟨false,.lst [.str s,.int .i64 (lf.add p 8),.int .i64 e]⟩],[lf.room s p 8 e])
 |_,_=>none
theorem m8T_ok:HOk Try.prog 108 (hM8T rtR):=by
 refine .of_run (hc:=(tvc1 rtR).hc) Try.func108 rfl (by kernel_rfl) (by kernel_rfl) fun las lbs v lbs' ps hs hp w=>?_
 unfold hM8T at hs
 split at hs
 ·rename_i a s p e
  cases hs
  have hr:rtR.room s p 8 e:=hp (rtR.room s p 8 e) (by simp)
  have he:rtR.e0 e:=hr.1
  refine rx tvc1_ok 999 false 400 [] ?_ ?_
  ·exact⟨hr,he,trivial⟩
  exact Run.ret ti_ok rfl rfl (HEnd.pack [0,1] rfl rfl rfl rfl)
 ·cases hs
def hMbT (lf:RT):HSpec:=fun l bs=>match l,bs with
 | [.one (.ptr 0 (.lit 0)),.one (.int .i64 n)],[⟨false,.lst [.ptr 1 (.lit 0),.int .i64 a]⟩,⟨false,.lst [.str s,.int .i64 p,.int .i64 e]⟩]=>some (.a (.one (.str (lf.cut s p n))),[⟨false,.lst [.ptr 1 (.lit 0),.int .i64 p]⟩,⟨false,.lst [.str s,.int .i64 (lf.add p n),.int .i64 e]⟩],[lf.room s p n e])
 |_,_=>none
theorem mbT_ok:HOk Try.prog 115 (hMbT rtR):=by
 refine .of_run (hc:=(tvc1 rtR).hc) Try.func115 rfl (by kernel_rfl) (by kernel_rfl) fun las lbs v lbs' ps hs hp w=>?_
 unfold hMbT at hs
 split at hs
 ·rename_i n a s p e
  cases hs
  have hr:rtR.room s p n e:=hp (rtR.room s p n e) (by simp)
  have he:rtR.e0 e:=hr.1
  refine rx tvc1_ok 999 false 400 [] ?_ ?_
  ·exact⟨hr,he,trivial⟩
  exact Run.ret ti_ok rfl rfl (HEnd.pack [0,1] rfl rfl rfl rfl)
 ·cases hs
def hMhT (lf:RT):HSpec:=fun l bs=>match l,bs with
 | [.one (.ptr 0 (.lit 0))],[⟨false,.lst [.ptr 1 (.lit 0),.int .i64 a]⟩,⟨false,.lst [.str s,.int .i64 p,.int .i64 e]⟩]=>some (.a (.agg (.ints .u8 (.lit 32) (lf.hsh (lf.cut s p 32)))),[⟨false,.lst [.ptr 1 (.lit 0),.int .i64 p]⟩,⟨false,.lst [.str s,.int .i64 (lf.add p 32),.int .i64 e]⟩],[lf.room s p 32 e])
 |_,_=>none
theorem mhT_ok:HOk Try.prog 113 (hMhT rtR):=by
 refine .of_run (hc:=(tvc1 rtR).hc) Try.func113 rfl (by kernel_rfl) (by kernel_rfl) fun las lbs v lbs' ps hs hp w=>?_
 unfold hMhT at hs
 split at hs
 ·rename_i a s p e
  cases hs
  have hr:rtR.room s p 32 e:=hp (rtR.room s p 32 e) (by simp)
  have he:rtR.e0 e:=hr.1
  refine rx tvc1_ok 999 false 400 [] ?_ ?_
  ·exact⟨hr,he,trivial⟩
  exact Run.ret ti_ok rfl rfl (HEnd.pack [0,1] rfl rfl rfl rfl)
 ·cases hs
def hMoT (lf:RT):HSpec:=fun l bs=>match l,bs with
 | [.one (.ptr 0 (.lit 0))],[⟨false,.lst [.ptr 1 (.lit 0),.int .i64 a]⟩,⟨false,.lst [.str s,.int .i64 p,.int .i64 e]⟩]=>some (.a (.one (.bool (lf.one (lf.get (lf.cut s p 1))))),[⟨false,.lst [.ptr 1 (.lit 0),.int .i64 p]⟩,⟨false,.lst [.str s,.int .i64 (lf.add p 1),.int .i64 e]⟩],[lf.room s p 1 e,lf.bit (lf.get (lf.cut s p 1))])
 |_,_=>none
theorem moT_ok:HOk Try.prog 117 (hMoT rtR):=by
 refine .of_run (hc:=(tvc1 rtR).hc) Try.func117 rfl (by kernel_rfl) (by kernel_rfl) fun las lbs v lbs' ps hs hp w=>?_
 unfold hMoT at hs
 split at hs
 ·rename_i a s p e
  cases hs
  have hr:rtR.room s p 1 e:=hp (rtR.room s p 1 e) (by simp)
  have he:rtR.e0 e:=hr.1
  have hb:rtR.bit (rtR.get (rtR.cut s p 1)):=hp (rtR.bit (rtR.get (rtR.cut s p 1))) (by simp)
  refine rx tvc1_ok 999 false 400 [] ?_ ?_
  ·exact⟨hr,hb,he,trivial⟩
  exact Run.ret ti_ok rfl rfl (HEnd.pack [0,1] rfl rfl rfl rfl)
 ·cases hs
def hMcT (lf:RT):HSpec:=fun l bs=>match l,bs with
 | [.one (.ptr 0 (.lit 0)),.one (.int .u64 m)],[⟨false,.lst [.ptr 1 (.lit 0),.int .i64 a]⟩,⟨false,.lst [.str s,.int .i64 p,.int .i64 e]⟩]=>some (.a (.one (.int .i64 (lf.cv (lf.cN s p)))),[⟨false,.lst [.ptr 1 (.lit 0),.int .i64 p]⟩,⟨false,.lst [.str s,.int .i64 (lf.add p (lf.cntL (lf.cN s p))),.int .i64 e]⟩],[lf.cAt s p e,lf.le (lf.cN s p) m])
 |_,_=>none
theorem mcT_ok:HOk Try.prog 109 (hMcT rtR):=by
 refine .of_run (hc:=(tvc1 rtR).hc) Try.func109 rfl (by kernel_rfl) (by kernel_rfl) fun las lbs v lbs' ps hs hp w=>?_
 unfold hMcT at hs
 split at hs
 ·rename_i m a s p e
  cases hs
  have hr:rtR.cAt s p e:=hp (rtR.cAt s p e) (by simp)
  have he:rtR.e0 e:=hr.1
  have hle:rtR.le (rtR.cN s p) m:=hp (rtR.le (rtR.cN s p) m) (by simp)
  refine rx tvc1_ok 999 false 400 [] ?_ ?_
  ·exact⟨hr,hle,he,trivial⟩
  exact Run.ret ti_ok rfl rfl (HEnd.pack [0,1] rfl rfl rfl rfl)
 ·cases hs
def tvc2 (lf:RT):Tbl:=tbL [] [(79,nH (hPrtT lf)),(108,nH (hM8T lf)),(115,nH (hMbT lf)),(109,nH (hMcT lf)),(110,nH (hFinT lf)),(142,nH (hBigT lf))]
theorem tvc2_ok:TblOk Try.prog (tvc2 rtR):=tbL_ok (nofun) (mc ⟨prtT_ok.nH,mc ⟨m8T_ok.nH,mc ⟨mbT_ok.nH,mc ⟨mcT_ok.nH,mc ⟨finT_ok.nH,mc ⟨bigT_ok.nH,nofun⟩⟩⟩⟩⟩⟩)
def hMtT (lf:RT):HSpec:=fun l bs=>match l,bs with
 | [.one (.ptr 0 (.lit 0)),.one (.int .u64 m)],[⟨false,.lst [.ptr 1 (.lit 0),.int .i64 a]⟩,⟨false,.lst [.str s,.int .i64 p,.int .i64 e]⟩]=>some (.a (.one (.str (lf.cut s (lf.add p (lf.cntL (lf.cN s p))) (lf.cN s p)))),[⟨false,.lst [.ptr 1 (.lit 0),.int .i64 (lf.add p (lf.cntL (lf.cN s p)))]⟩,⟨false,.lst [.str s,.int .i64 (lf.add (lf.add p (lf.cntL (lf.cN s p))) (lf.cN s p)),.int .i64 e]⟩],[lf.cAt s p e,lf.le (lf.cN s p) m,lf.room s (lf.add p (lf.cntL (lf.cN s p))) (lf.cN s p) e])
 |_,_=>none
theorem mtT_ok:HOk Try.prog 120 (hMtT rtR):=by
 refine .of_run (hc:=(tvc2 rtR).hc) Try.func120 rfl (by kernel_rfl) (by kernel_rfl) fun las lbs v lbs' ps hs hp w=>?_
 unfold hMtT at hs
 split at hs
 ·rename_i m a s p e
  cases hs
  have hr:rtR.cAt s p e:=hp (rtR.cAt s p e) (by simp)
  have hle:rtR.le (rtR.cN s p) m:=hp (rtR.le (rtR.cN s p) m) (by simp)
  have hm:rtR.room s (rtR.add p (rtR.cntL (rtR.cN s p))) (rtR.cN s p) e:=hp (rtR.room s (rtR.add p (rtR.cntL (rtR.cN s p))) (rtR.cN s p) e) (by simp)
  have hcv:rtR.cv (rtR.cN s p)=rtR.cN s p:=cv_id hm.2.1 hm.2.2
  have hm2:rtR.room s (rtR.add p (rtR.cntL (rtR.cN s p))) (rtR.cv (rtR.cN s p)) e:=by rw[hcv];exact hm
  refine rx tvc2_ok 999 false 400 [] ?_ ?_
  ·exact⟨hm2,hr,hle,trivial⟩
  refine Run.ret ti_ok rfl rfl (HEnd.packV [0,1] rfl rfl ?_ (.of (.a (.str ?_))))
  ·show some ([⟨false,.lst [.ptr 1 (.lit 0),.int .i64 (rtR.add p (rtR.cntL (rtR.cN s p)))]⟩,⟨false,.lst [.str s,.int .i64 (rtR.add (rtR.add p (rtR.cntL (rtR.cN s p))) (rtR.cv (rtR.cN s p))),.int .i64 e]⟩]:List Blk)=_
   rw[hcv]
  ·show rtR.cut s (rtR.add p (rtR.cntL (rtR.cN s p))) (rtR.cv (rtR.cN s p))=_
   rw[hcv]
 ·cases hs
def hMpT (lf:RT):HSpec:=fun l bs=>match l,bs with
 | [.one (.ptr 0 (.lit 0)),.one (.int .i64 la)],[⟨false,.lst [.ptr 1 (.lit 0),.int .i64 a]⟩,⟨false,.lst [.str s,.int .i64 p,.int .i64 e]⟩]=>some (.a (.one (.int .i64 (lf.plc la (lf.cN s p)))),[⟨false,.lst [.ptr 1 (.lit 0),.int .i64 p]⟩,⟨false,.lst [.str s,.int .i64 (lf.add p (lf.cntL (lf.cN s p))),.int .i64 e]⟩],[lf.cAt s p e,lf.plOk la (lf.cN s p)])
 |_,_=>none
theorem mpT_ok:HOk Try.prog 119 (hMpT rtR):=by
 refine .of_run (hc:=(tvc2 rtR).hc) Try.func119 rfl (by kernel_rfl) (by kernel_rfl) fun las lbs v lbs' ps hs hp w=>?_
 unfold hMpT at hs
 split at hs
 ·rename_i la a s p e
  cases hs
  have hr:rtR.cAt s p e:=hp (rtR.cAt s p e) (by simp)
  have he:rtR.e0 e:=hr.1
  obtain⟨g1,g2,g3⟩:-1≤la∧0≤cntN s p∧la+1+cntN s p≤65535:=hp (rtR.plOk la (rtR.cN s p)) (by simp)
  have hle:rtR.le (rtR.cN s p) 18446744073709551615:=(by omega:cntN s p≤18446744073709551615)
  have hcv:rtR.cv (rtR.cN s p)=cntN s p:=cv_small (n:=cntN s p) g2 (by omega)
  have a1:rbin .add .i64 la 1=la+1:=addi (by omega) (by omega)
  have a2:rbin .add .i64 (la+1) (cntN s p)=la+1+cntN s p:=addi (by omega) (by omega)
  have c1:IntKind.u64.wrap (cntN s p)=cntN s p:=by show cntN s p % 18446744073709551616=_;omega
  refine rx tvc2_ok 999 false 400 [true,false,false] ?_ ?_
  ·simp only[conj,z0,z2,arR,z1,hcv,a1,a2,c1]
   (repeat' with_reducible apply And.intro)<;>first|omega|exact hr|exact he|exact hle|trivial
  refine Run.ret ti_ok rfl rfl (HEnd.packV [0,1] rfl rfl rfl (.of (.a (.int ?_))))
  show rbin .add .i64 (rbin .add .i64 la 1) (rtR.cv (rtR.cN s p))=la+1+cntN s p
  rw[hcv,a1,a2]
 ·cases hs
def hMnT (lf:RT):HSpec:=fun l bs=>match l,bs with
 | [.one (.ptr 0 (.lit 0))],[⟨false,.lst [.ptr 1 (.lit 0),.int .i64 a]⟩,⟨false,.lst [.str s,.int .i64 p,.int .i64 e]⟩]=>some (.a (.agg (.prt [.v NS (lf.netD s p)])),[⟨false,.lst [.ptr 1 (.lit 0),.int .i64 (lf.add (lf.add p 8) 16)]⟩,⟨false,.lst [.str s,.int .i64 (lf.add (lf.add (lf.add p 8) 16) 2),.int .i64 e]⟩],[lf.room s p 26 e])
 |_,_=>none
theorem mnT_ok:HOk Try.prog 112 (hMnT rtR):=by
 refine .of_run (hc:=(tvc2 rtR).hc) Try.func112 rfl (by kernel_rfl) (by kernel_rfl) fun las lbs v lbs' ps hs hp w=>?_
 unfold hMnT at hs
 split at hs
 ·rename_i a s p e
  cases hs
  obtain⟨he,hr⟩:e=0∧roomP s p 26:=hp (rtR.room s p 26 e) (by simp)
  obtain⟨r1,r2,r3,r4⟩:=hr
  have hr1:rtR.room s p 8 e:=⟨he,by omega,r2,by omega,r4⟩
  have hr2:rtR.room s (rtR.add p 8) 16 e:=⟨he,by omega,(by omega:0≤p+8),(by omega:p+8+16≤s.size),r4⟩
  have hr3:rtR.room s (rtR.add (rtR.add p 8) 16) 2 e:=⟨he,by omega,(by omega:0≤p+8+16),(by omega:p+8+16+2≤s.size),r4⟩
  refine rx tvc2_ok 999 false 400 [] ?_ ?_
  ·exact⟨hr3,he,hr2,hr1,trivial⟩
  exact Run.ret ti_ok rfl rfl (HEnd.packV [0,1] rfl rfl rfl (.of (.a (ALe.prt rfl))))
 ·cases hs
end Go.Proofs.Ytlbllaocdilafaa
namespace Go.Eng
open Go
theorem AtB.nx {s:ByteArray}{p n:Int}{a b:ByteArray}(h:AtB s p (a++b)) (hn:(a.size:Int)=n):AtB s (p+n) b:=by rw[←hn];exact h.right
theorem catN_at {s:ByteArray}{b:Int}{f:Nat→ByteArray}:∀{n:Nat},AtB s b (catN f n)→∀i,i<n→AtB s (b+(catN f i).size) (f i)
 |0,_,i,hi=>absurd hi (Nat.not_lt_zero i)
 |n+1,h,i,hi=>by
  rw[catN_succ]at h
  rcases Nat.lt_or_ge i n with g|g
  ·exact catN_at h.left i g
  ·rw[show i=n by omega];exact h.right
theorem hash_row {l:List Int}{n:Nat}(hl:l.length=n) (hr:∀x∈l,IntKind.u8.min≤x∧x≤IntKind.u8.max):(List.range n).map (hashOf (rowB l n))=l:=by
 have e1:IntKind.u8.min=0:=by decide
 have e2:IntKind.u8.max=255:=by decide
 apply List.ext_getElem
 ·simp[hl]
 ·intro i h1 h2
  have hi:i<n:=by simpa using h1
  simp only[List.getElem_map,List.getElem_range]
  unfold hashOf
  rw[if_pos (by rw[rowB_size];exact hi),ByteArray.getElem?_lt' _ _ (by rw[rowB_size];exact hi),Option.getD_some]
  have e:(rowB l n)[i]'(by rw[rowB_size];exact hi)=UInt8.ofNat (l.getD i 0).toNat:=by
   show((List.range n).map fun j=>UInt8.ofNat (l.getD j 0).toNat).toArray[i]'(by simpa using hi)=_
   simp
  have hx:=hr l[i] (List.getElem_mem h2)
  rw[e,UInt8.toNat_ofNat',List.getD_eq_getElem?_getD,geg h2,Option.getD_some]
  omega
theorem AtB.row {s:ByteArray}{p:Int}{l:List Int}{n:Nat}(h:AtB s p (rowB l n)) (hl:l.length=n) (hr:∀x∈l,IntKind.u8.min≤x∧x≤IntKind.u8.max):(List.range n).map (hashOf (cutB s p n))=l:=by
 have:=h.2
 rw[rowB_size]at this
 rw[this]
 exact hash_row hl hr
theorem swap_swap {n:Int}(h0:0≤n) (h1:n<65536):swap2 (swap2 n)=n:=by
 unfold swap2
 omega
theorem swap_rng {n:Int}(h0:0≤n) (h1:n<65536):0≤swap2 n∧swap2 n<65536:=by
 unfold swap2
 omega
theorem net_told {s:ByteArray}{p:Int}{d:D}(hd:okD NS d) (h:AtB s p (netB d)):∃t s' ip pt,d=.pair (.int t) (.pair (.int s') (.pair (.row ip) (.int pt)))∧ip.length=16∧netDec s p=.pair (.int 0) (.pair (.int s') (.pair (.row ip) (.int pt))):=by
 obtain⟨x1,y1,rfl,h1,g1⟩:=okD_two hd
 obtain⟨x2,y2,rfl,h2,g2⟩:=okD_two g1
 obtain⟨x3,y3,rfl,h3,g3⟩:=okD_two g2
 obtain⟨n1,rfl⟩:=okD_int h1
 obtain⟨n2,rfl⟩:=okD_int h2
 obtain⟨n3,rfl⟩:=okD_int g3
 obtain⟨l,rfl,hl⟩:=okD_arr h3
 refine⟨n1,n2,l,n3,rfl,hl,?_⟩
 have r2:=rg64 h2
 have r3:=rg16 g3
 have sr:=swap_rng r3.1 r3.2
 have h:AtB s p (layB n2 8++rowB l 16++layB (swap2 n3) 2):=h
 rw[baa]at h
 have q2:=h.nx (n:=8) (by rw[layB_size];rfl)
 have q3:=q2.nx (n:=16) (by rw[rowB_size];rfl)
 have e1:((leV (cutB s p 8).data.toList:Nat):Int)=n2:=h.left.get (k:=8) r2.1 (by have:(256:Nat) ^ 8=18446744073709551616:=by decide
                                                                                 omega)
 have e2:(List.range 16).map (hashOf (cutB s (p+8) 16))=l:=q2.left.row hl h3.2
 have e3:((leV (cutB s (p+8+16) 2).data.toList:Nat):Int)=swap2 n3:=q3.get (k:=2) sr.1 (by have:(256:Nat) ^ 2=65536:=by decide
                                                                                          omega)
 unfold netDec
 rw[e1,e2,e3,swap_swap r3.1 r3.2]
theorem AtB.u64 {s:ByteArray}{p n:Int}(h:AtB s p (layB n 8)) (hn:0≤n∧n<18446744073709551616):((leV (cutB s p 8).data.toList:Nat):Int)=n:=
 h.get (k:=8) hn.1 (by have:(256:Nat) ^ 8=18446744073709551616:=by decide
                       omega)
theorem AtB.u32 {s:ByteArray}{p n:Int}(h:AtB s p (layB n 4)) (hn:0≤n∧n<4294967296):((leV (cutB s p 4).data.toList:Nat):Int)=n:=
 h.get (k:=4) hn.1 (by have:(256:Nat) ^ 4=4294967296:=by decide
                       omega)
theorem AtB.flag {s:ByteArray}{p:Int}{b:Bool}(h:AtB s p (flagB b)):(((leV (cutB s p 1).data.toList:Nat):Int)=0∨((leV (cutB s p 1).data.toList:Nat):Int)=1)∧rcmp .eql ((leV (cutB s p 1).data.toList:Nat):Int) 1=b:=by
 cases b with
 |false=>
  have e:=AtB.get (k:=1) (n:=0) h (by decide) (by decide)
  have e:((leV (cutB s p 1).data.toList:Nat):Int)=0:=e
  rw[e]
  exact⟨.inl rfl,rfl⟩
 |true=>
  have e:=AtB.get (k:=1) (n:=1) h (by decide) (by decide)
  have e:((leV (cutB s p 1).data.toList:Nat):Int)=1:=e
  rw[e]
  exact⟨.inr rfl,rfl⟩
theorem AtB.text {s:ByteArray}{p:Int}{b:ByteArray}(h:AtB s p b):cutB s p b.size=b:=h.2
theorem flag_size1 (b:Bool):((flagB b).size:Int)=1:=by rw[flagB_size];rfl
theorem lay_sizeI (n:Int) (k:Nat):((layB n k).size:Int)=k:=by rw[layB_size]
theorem row_sizeI (l:List Int) (k:Nat):((rowB l k).size:Int)=k:=by rw[rowB_size]
theorem net_sizeI (d:D):((netB d).size:Int)=26:=by rw[netB_size];rfl
theorem u64_i64 {n:Int}(h:-9223372036854775808≤n∧n<9223372036854775808):IntKind.i64.wrap (u64of n)=n:=by
 show IntKind.i64.wrap (n % 18446744073709551616)=n
 rw[w64]
 omega
theorem take_snoc {l:List D}{i:Int}(h0:0≤i) (h1:i<l.length):l.take (i+1).toNat=l.take i.toNat++[l.getD i.toNat (.int 0)]:=by
 have h:i.toNat<l.length:=by omega
 rw[show(i+1).toNat=i.toNat+1 by omega,List.take_succ_eq_append_getElem h,List.getD_eq_getElem?_getD,geg h]
 rfl
def tldM (s:ByteArray) (m:Ms):Prop:=okD MS m.D∧(m.addrs.length≤140737488351232∧m.items.length≤140737488351232∧m.hashes.length≤140737488351232∧m.heads.length≤140737488351232∧m.shorts.length≤140737488351232∧m.filled.length≤140737488351232∧m.places.length≤140737488351232∧m.raws.length≤140737488351232)∧¬manyP (namedM m)∧¬wrongP m∧AtB s 0 (payM m)∧s.size=(payM m).size∧s.size≤16384
def tld (k:Int) (d:D) (s:ByteArray) (p e:Int):Prop:=p=0∧e=0∧∃m:Ms,d=m.D∧m.kind=k∧tldM s m
def lastA (b:Int) (f:Nat→ByteArray) (o:Nat→Int) (a0:Int):Nat→Int
 |0=>a0
 |i+1=>b+(catN f i).size+o i
end Go.Eng
namespace Go.Proofs.Ytlbllaocdilafaa
open Go Go.Eng Go.Proofs Go.RowKit
attribute[local irreducible] CallOk HOk Run TIok rbin rcmp run1 updF shfF blitF
end Go.Proofs.Ytlbllaocdilafaa
