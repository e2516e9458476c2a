import Derived.Test.YtlbllaocdilafaaZ37
set_option linter.unusedSimpArgs false
set_option linter.unusedVariables false
set_option maxRecDepth 100000
set_option maxHeartbeats 4000000
namespace Go.Eng
open Go
def cutB (s:ByteArray) (p n:Int):ByteArray:=s.extract p.toNat (p+n).toNat
def roomP (s:ByteArray) (p n:Int):Prop:=0≤n∧0≤p∧p+n≤s.size∧s.size≤140737488355328
def AtB (s:ByteArray) (p:Int) (b:ByteArray):Prop:=roomP s p b.size∧cutB s p b.size=b
def byteI (s:ByteArray) (p:Int):Int:=arR.sb s p.toNat
def longOf (b:Int):Int:=if b=253 then 2 else if b=254 then 4 else 8
def cntN (s:ByteArray) (p:Int):Int:=if byteI s p<253 then byteI s p else(leV (cutB s (p+1) (longOf (byteI s p))).data.toList:Nat)
def cntAt (s:ByteArray) (p:Int):Prop:=∃n,(0≤n∧n<18446744073709551616)∧AtB s p (cntB n)
theorem cut_size {s:ByteArray}{p n:Int}(h:roomP s p n):((cutB s p n).size:Int)=n:=by
 obtain⟨h1,h2,h3,h4⟩:=h
 unfold cutB
 rw[ByteArray.size_extract]
 omega
theorem rdT_told {s:ByteArray}{p n:Int}(h:roomP s p n):rdT s p 0 n=cutB s p n:=by
 obtain⟨h1,h2,h3,h4⟩:=h
 exact if_pos ⟨rfl,h1,by omega⟩
theorem rdA_told {s:ByteArray}{p n:Int}(h:roomP s p n):rdAt s p 0 n=p+n:=by
 obtain⟨h1,h2,h3,h4⟩:=h
 exact if_pos ⟨rfl,h1,by omega⟩
theorem rdE_told {s:ByteArray}{p n:Int}(h:roomP s p n):rdE s p 0 n=0:=by
 obtain⟨h1,h2,h3,h4⟩:=h
 unfold rdE
 rw[if_neg (by simp),if_neg (by omega),if_pos (by omega)]
theorem leV_lay {n:Int}{k:Nat}(h0:0≤n) (h1:n.toNat<256 ^ k):((leV (layB n k).data.toList:Nat):Int)=n:=by
 have key:∀(k:Nat) (m:Nat),leV ((List.range k).map fun i=>UInt8.ofNat (m / 256 ^ i % 256))=m % 256 ^ k:=by
  intro k
  induction k with
  |zero=>intro m;simp[leV,Nat.mod_one]
  |succ k ih=>
   intro m
   rw[List.range_succ,List.map_append,List.map_cons,List.map_nil,leV_snoc,ih]
   have hb:(UInt8.ofNat (m / 256 ^ k % 256)).toNat=m / 256 ^ k % 256:=by
    rw[UInt8.toNat_ofNat']
    have:m / 256 ^ k % 256<256:=Nat.mod_lt _ (by decide)
    omega
   rw[hb,List.length_map,List.length_range,Nat.pow_succ,Nat.mod_mul]
 have:=key k n.toNat
 unfold layB
 simp only
 rw[this,Nat.mod_eq_of_lt h1]
 omega
theorem cut_cut {s:ByteArray}{p n:Int}{a b:Nat}(h:roomP s p n) (hb:(b:Int)≤n):(s.extract p.toNat s.size).extract a b=s.extract (p.toNat+a) (p.toNat+b):=by
 obtain⟨h1,h2,h3,h4⟩:=h
 apply ByteArray.ext
 simp only[ByteArray.data_extract]
 rw[Array.extract_extract]
 congr 1
 omega
theorem sb_cut {s:ByteArray}{p:Int}{i:Nat}(h0:0≤p) (h:p.toNat+i<s.size):arR.sb (s.extract p.toNat s.size) i=arR.sb s (p.toNat+i):=by
 show((((s.extract p.toNat s.size)[i]?).getD 0).toNat:Int)=(((s[p.toNat+i]?).getD 0).toNat:Int)
 rw[ByteArray.getElem?_lt' _ _ (by rw[ByteArray.size_extract];omega),ByteArray.getElem?_lt' _ _ h]
 simp only[Option.getD_some,ByteArray.getElem_extract]
theorem byte_of {s:ByteArray}{p:Int}{b:ByteArray}(h:AtB s p b) (i:Nat) (hi:i<b.size):arR.sb s (p.toNat+i)=arR.sb b i:=by
 obtain⟨⟨h1,h2,h3,h4⟩,h5⟩:=h
 show(((s[p.toNat+i]?).getD 0).toNat:Int)=(((b[i]?).getD 0).toNat:Int)
 rw[ByteArray.getElem?_lt' _ _ (by omega),ByteArray.getElem?_lt' _ _ hi]
 simp only[Option.getD_some]
 congr 2
 have:b[i]=(cutB s p b.size)[i]'(by rw[h5];exact hi):=by congr 1;exact h5.symm
 rw[this]
 unfold cutB
 rw[ByteArray.getElem_extract]
theorem ext_left (x y:Array UInt8):(x++y).extract 0 x.size=x:=by
 apply Array.ext'
 simp
theorem ext_right (x y:Array UInt8):(x++y).extract x.size (x.size+y.size)=y:=by
 apply Array.ext'
 simp
theorem AtB.left {s:ByteArray}{p:Int}{a b:ByteArray}(h:AtB s p (a++b)):AtB s p a:=by
 obtain⟨⟨h1,h2,h3,h4⟩,h5⟩:=h
 rw[bsa]at h1 h3 h5
 refine⟨⟨by omega,h2,by omega,h4⟩,?_⟩
 have e:a=(a++b).extract 0 a.size:=by
  apply ByteArray.ext
  rw[ByteArray.data_extract,ByteArray.data_append]
  exact(ext_left a.data b.data).symm
 conv=>rhs;rw[e,←h5]
 unfold cutB
 apply ByteArray.ext
 simp only[ByteArray.data_extract]
 rw[Array.extract_extract]
 congr 1
 omega
theorem AtB.right {s:ByteArray}{p:Int}{a b:ByteArray}(h:AtB s p (a++b)):AtB s (p+a.size) b:=by
 obtain⟨⟨h1,h2,h3,h4⟩,h5⟩:=h
 rw[bsa]at h1 h3 h5
 refine⟨⟨by omega,by omega,by omega,h4⟩,?_⟩
 have e:b=(a++b).extract a.size (a.size+b.size):=by
  apply ByteArray.ext
  rw[ByteArray.data_extract,ByteArray.data_append]
  exact(ext_right a.data b.data).symm
 conv=>rhs;rw[e,←h5]
 unfold cutB
 apply ByteArray.ext
 simp only[ByteArray.data_extract]
 rw[Array.extract_extract]
 congr 1
 ·omega
 ·omega
theorem AtB.room {s:ByteArray}{p:Int}{b:ByteArray}(h:AtB s p b){n:Int}(hn:(b.size:Int)=n):roomP s p n:=by rw[←hn];exact h.1
theorem AtB.get {s:ByteArray}{p n:Int}{k:Nat}(h:AtB s p (layB n k)) (h0:0≤n) (h1:n.toNat<256 ^ k):((leV (cutB s p k).data.toList:Nat):Int)=n:=by
 have:=h.2
 rw[layB_size]at this
 rw[this,leV_lay h0 h1]
theorem byte_lay {n:Int}{k:Nat}(h0:0≤n) (h1:n<256) (hk:0<k):arR.sb (layB n k) 0=n:=by
 show((((layB n k)[0]?).getD 0).toNat:Int)=n
 rw[ByteArray.getElem?_lt' _ _ (by rw[layB_size];exact hk)]
 have:(layB n k)[0]'(by rw[layB_size];exact hk)=UInt8.ofNat (n.toNat / 256 ^ 0 % 256):=by
  show((List.range k).map fun i=>UInt8.ofNat (n.toNat / 256 ^ i % 256)).toArray[0]'(by simpa using hk)=_
  simp
 rw[Option.getD_some,this,UInt8.toNat_ofNat']
 simp only[Nat.pow_zero,Nat.div_one]
 omega
theorem cnt_told {s:ByteArray}{p n:Int}(hn:0≤n∧n<18446744073709551616) (h:AtB s p (cntB n)):
 cntN s p=n∧roomP s p (cntL n)∧((n<253∧byteI s p=n)∨(253≤n∧(byteI s p=253∧cntL n=3∨byteI s p=254∧cntL n=5∨byteI s p=255∧cntL n=9)∧((leV (cutB s (p+1) (cntL n-1)).data.toList:Nat):Int)=n)):=by
 have hr:roomP s p (cntL n):=h.room (cntB_size n)
 have h256:(256:Nat) ^ 2=65536∧(256:Nat) ^ 4=4294967296∧(256:Nat) ^ 8=18446744073709551616:=by decide
 have one:∀c k,0≤c→c<256→AtB s p (layB c 1++layB n k)→byteI s p=c:=by
  intro c k h0 h1 hA
  have:=byte_of hA.left 0 (by rw[layB_size];decide)
  rw[Nat.add_zero]at this
  exact this.trans (byte_lay h0 h1 (by decide))
 have two:∀c (k:Nat),n.toNat<256 ^ k→AtB s p (layB c 1++layB n k)→((leV (cutB s (p+1) k).data.toList:Nat):Int)=n:=by
  intro c k h1 hA
  have:=hA.right
  rw[layB_size]at this
  exact this.get hn.1 h1
 by_cases c1:n<253
 ·have e:cntB n=layB n 1:=if_pos c1
  rw[e]at h
  have hb:byteI s p=n:=by
   have:=byte_of h 0 (by rw[layB_size];decide)
   rw[Nat.add_zero]at this
   exact this.trans (byte_lay hn.1 (by omega) (by decide))
  refine⟨?_,hr,.inl ⟨c1,hb⟩⟩
  unfold cntN
  rw[hb,if_pos c1]
 by_cases c2:n<65536
 ·have e:cntB n=layB 253 1++layB n 2:=(if_neg c1).trans (if_pos c2)
  have e2:cntL n=3:=(if_neg c1).trans (if_pos c2)
  rw[e]at h
  have hb:=one 253 2 (by decide) (by decide) h
  have hv:=two 253 2 (by omega) h
  refine⟨?_,hr,.inr ⟨by omega,.inl ⟨hb,e2⟩,by rw[e2];exact hv⟩⟩
  unfold cntN
  rw[hb,if_neg (by decide)]
  exact hv
 by_cases c3:n<4294967296
 ·have e:cntB n=layB 254 1++layB n 4:=(if_neg c1).trans ((if_neg c2).trans (if_pos c3))
  have e2:cntL n=5:=(if_neg c1).trans ((if_neg c2).trans (if_pos c3))
  rw[e]at h
  have hb:=one 254 4 (by decide) (by decide) h
  have hv:=two 254 4 (by omega) h
  refine⟨?_,hr,.inr ⟨by omega,.inr (.inl ⟨hb,e2⟩),by rw[e2];exact hv⟩⟩
  unfold cntN
  rw[hb,if_neg (by decide)]
  exact hv
 ·have e:cntB n=layB 255 1++layB n 8:=(if_neg c1).trans ((if_neg c2).trans (if_neg c3))
  have e2:cntL n=9:=(if_neg c1).trans ((if_neg c2).trans (if_neg c3))
  rw[e]at h
  have hb:=one 255 8 (by decide) (by decide) h
  have hv:=two 255 8 (by omega) h
  refine⟨?_,hr,.inr ⟨by omega,.inr (.inr ⟨hb,e2⟩),by rw[e2];exact hv⟩⟩
  unfold cntN
  rw[hb,if_neg (by decide)]
  exact hv
theorem empty_iff (s:ByteArray):(s.toList == ByteArray.empty.toList)=decide (s.size=0):=by
 rw[ByteArray.toList_eq,ByteArray.toList_eq]
 have:s.size=s.data.toList.length:=by rw[Array.length_toList];rfl
 rw[this]
 trace_state
 cases s.data.toList<;>rfl
def swap2 (n:Int):Int:=n / 256+n % 256*256
def hashOf (s:ByteArray) (j:Nat):Int:=if j<s.size then((s[j]?).getD 0).toNat else 0
def netDec (s:ByteArray) (p:Int):D:=.pair (.int 0) (.pair (.int (leV (cutB s p 8).data.toList:Nat)) (.pair (.row ((List.range 16).map (hashOf (cutB s (p+8) 16)))) (.int (swap2 (leV (cutB s (p+8+16) 2).data.toList:Nat)))))
structure RT extends WL where
 cut:ByteArray→Int→Int→ByteArray
 room:ByteArray→Int→Int→Int→Prop
 add:Int→Int→Int
 cN:ByteArray→Int→Int
 cAt:ByteArray→Int→Int→Prop
 le:Int→Int→Prop
 hsh:ByteArray→Nat→Int
 swp:Int→Int
 one:Int→Bool
 bit:Int→Prop
 e0:Int→Prop
 cv:Int→Int
 plc:Int→Int→Int
 plOk:Int→Int→Prop
 netD:ByteArray→Int→D
def rtR:RT where
 toWL:=wlR
 cut:=cutB
 room s p n e:=e=0∧roomP s p n
 add a b:=a+b
 cN:=cntN
 cAt s p e:=e=0∧cntAt s p
 le a b:=a≤b
 hsh:=hashOf
 swp:=swap2
 one n:=rcmp .eql n 1
 bit n:=n=0∨n=1
 e0 e:=e=0
 cv n:=IntKind.i64.wrap n
 plc a n:=a+1+n
 plOk a n:=-1≤a∧0≤n∧a+1+n≤65535
 netD:=netDec
end Go.Eng
namespace Go.Proofs.Ytlbllaocdilafaa
open Go Go.Eng Go.Proofs Go.RowKit
attribute[local irreducible] CallOk HOk Run TIok rbin rcmp run1 updF shfF blitF
def hBytT (lf:RT):HSpec:=fun l bs=>match l,bs with
 | [.one (.ptr 0 (.lit 0)),.one (.int .i64 n)],[⟨false,.lst [.str s,.int .i64 p,.int .i64 e]⟩]=>some (.a (.one (.str (lf.cut s p n))),[⟨false,.lst [.str s,.int .i64 (lf.add p n),.int .i64 e]⟩],[lf.room s p n e])
 |_,_=>none
theorem bytT_ok:HOk Try.prog 145 (hBytT rtR):=by
 refine HOk.split fun l bs v bs' ps hs hp=>?_
 unfold hBytT at hs
 split at hs
 ·rename_i n s p e
  cases hs
  obtain⟨rfl,h⟩:e=0∧roomP s p n:=hp (rtR.room s p n e) (by simp)
  have hr:laR.rOk s p:=⟨h.2.1,by have:=h.1;have:=h.2.2.1;omega,by have:=h.2.2.2;omega⟩
  have hi:laR.i64 n:=⟨by have:=h.1;omega,by have:=h.2;omega⟩
  refine⟨hBytes laR,[laR.rOk s p,laR.i64 n],bytes_ok,?_,?_⟩
  ·show some (V.a (A.one (C.str (rdT s p 0 n))),([⟨false,G.lst [.str s,.int .i64 (rdAt s p 0 n),.int .i64 (rdE s p 0 n)]⟩]:List Blk),[laR.rOk s p,laR.i64 n])=_
   rw[rdT_told h,rdA_told h,rdE_told h]
   rfl
  ·intro q hq
   simp only[List.mem_cons,List.mem_nil_iff,or_false]at hq
   rcases hq with rfl|rfl
   ·exact hr
   ·exact hi
 ·cases hs
def tva0 (lf:RT):Tbl:=tbL [(155,sTake lf.toLA)] [(145,nH (hBytT lf))]
theorem tva0_ok:TblOk Try.prog (tva0 rtR):=tbL_ok (mc ⟨take_ok,nofun⟩) (mc ⟨bytT_ok.nH,nofun⟩)
def hU2T (lf:RT):HSpec:=fun l bs=>match l,bs with
 | [.one (.ptr 0 (.lit 0))],[⟨false,.lst [.str s,.int .i64 p,.int .i64 e]⟩]=>some (.a (.one (.int .u16 (lf.get (lf.cut s p 2)))),[⟨false,.lst [.str s,.int .i64 (lf.add p 2),.int .i64 e]⟩],[lf.room s p 2 e])
 |_,_=>none
theorem u2T_ok:HOk Try.prog 157 (hU2T rtR):=by
 refine .of_run (hc:=(tva0 rtR).hc) Try.func157 rfl (by kernel_rfl) (by kernel_rfl) fun las lbs v lbs' ps hs hp w=>?_
 unfold hU2T at hs
 split at hs
 ·rename_i s p e
  cases hs
  have hr:e=0∧roomP s p 2:=hp (rtR.room s p 2 e) (by simp)
  have hsz:=cut_size hr.2
  have h8:rtR.get8 (rtR.cut s p 2):=(by omega:(cutB s p 2).size≤8)
  have hlt:leV (cutB s p 2).data.toList<256 ^ 2:=by
   have:=leV_lt (cutB s p 2).data.toList
   rw[Array.length_toList,show(cutB s p 2).data.size=2 from by have:=hsz;show(cutB s p 2).size=2;omega]at this
   exact this
  refine rx tva0_ok 999 false 400 [] ?_ ?_
  ·exact⟨h8,hr,trivial⟩
  refine Run.ret ti_ok rfl rfl (HEnd.packV [0] rfl rfl rfl (.of (.a (.int ?_))))
  show((leV (cutB s p 2).data.toList:Nat):Int) % 65536=(leV (cutB s p 2).data.toList:Nat)
  have e4:(256:Nat) ^ 2=65536:=by decide
  rw[e4]at hlt
  omega
 ·cases hs
def hU4T (lf:RT):HSpec:=fun l bs=>match l,bs with
 | [.one (.ptr 0 (.lit 0))],[⟨false,.lst [.str s,.int .i64 p,.int .i64 e]⟩]=>some (.a (.one (.int .u32 (lf.get (lf.cut s p 4)))),[⟨false,.lst [.str s,.int .i64 (lf.add p 4),.int .i64 e]⟩],[lf.room s p 4 e])
 |_,_=>none
theorem u4T_ok:HOk Try.prog 141 (hU4T rtR):=by
 refine .of_run (hc:=(tva0 rtR).hc) Try.func141 rfl (by kernel_rfl) (by kernel_rfl) fun las lbs v lbs' ps hs hp w=>?_
 unfold hU4T at hs
 split at hs
 ·rename_i s p e
  cases hs
  have hr:e=0∧roomP s p 4:=hp (rtR.room s p 4 e) (by simp)
  have hsz:=cut_size hr.2
  have h8:rtR.get8 (rtR.cut s p 4):=(by omega:(cutB s p 4).size≤8)
  have hlt:leV (cutB s p 4).data.toList<256 ^ 4:=by
   have:=leV_lt (cutB s p 4).data.toList
   rw[Array.length_toList,show(cutB s p 4).data.size=4 from by have:=hsz;show(cutB s p 4).size=4;omega]at this
   exact this
  refine rx tva0_ok 999 false 400 [] ?_ ?_
  ·exact⟨h8,hr,trivial⟩
  refine Run.ret ti_ok rfl rfl (HEnd.packV [0] rfl rfl rfl (.of (.a (.int ?_))))
  show((leV (cutB s p 4).data.toList:Nat):Int) % 4294967296=(leV (cutB s p 4).data.toList:Nat)
  have e4:(256:Nat) ^ 4=4294967296:=by decide
  rw[e4]at hlt
  omega
 ·cases hs
def hU8T (lf:RT):HSpec:=fun l bs=>match l,bs with
 | [.one (.ptr 0 (.lit 0))],[⟨false,.lst [.str s,.int .i64 p,.int .i64 e]⟩]=>some (.a (.one (.int .u64 (lf.get (lf.cut s p 8)))),[⟨false,.lst [.str s,.int .i64 (lf.add p 8),.int .i64 e]⟩],[lf.room s p 8 e])
 |_,_=>none
theorem u8T_ok:HOk Try.prog 139 (hU8T rtR):=by
 refine .of_run (hc:=(tva0 rtR).hc) Try.func139 rfl (by kernel_rfl) (by kernel_rfl) fun las lbs v lbs' ps hs hp w=>?_
 unfold hU8T at hs
 split at hs
 ·rename_i s p e
  cases hs
  have hr:e=0∧roomP s p 8:=hp (rtR.room s p 8 e) (by simp)
  have hsz:=cut_size hr.2
  have h8:rtR.get8 (rtR.cut s p 8):=(by omega:(cutB s p 8).size≤8)
  have hlt:leV (cutB s p 8).data.toList<256 ^ 8:=by
   have:=leV_lt (cutB s p 8).data.toList
   rw[Array.length_toList,show(cutB s p 8).data.size=8 from by have:=hsz;show(cutB s p 8).size=8;omega]at this
   exact this
  refine rx tva0_ok 999 false 400 [] ?_ ?_
  ·exact⟨h8,hr,trivial⟩
  exact Run.ret ti_ok rfl rfl (HEnd.pack [0] rfl rfl rfl rfl)
 ·cases hs
def hB1T (lf:RT):HSpec:=fun l bs=>match l,bs with
 | [.one (.ptr 0 (.lit 0))],[⟨false,.lst [.str s,.int .i64 p,.int .i64 e]⟩]=>some (.a (.one (.int .u8 (lf.get (lf.cut s p 1)))),[⟨false,.lst [.str s,.int .i64 (lf.add p 1),.int .i64 e]⟩],[lf.room s p 1 e])
 |_,_=>none
theorem b1T_ok:HOk Try.prog 158 (hB1T rtR):=by
 refine .of_run (hc:=(tva0 rtR).hc) Try.func158 rfl (by kernel_rfl) (by kernel_rfl) fun las lbs v lbs' ps hs hp w=>?_
 unfold hB1T at hs
 split at hs
 ·rename_i s p e
  cases hs
  have hr:e=0∧roomP s p 1:=hp (rtR.room s p 1 e) (by simp)
  have hsz:=cut_size hr.2
  have h8:rtR.get8 (rtR.cut s p 1):=(by omega:(cutB s p 1).size≤8)
  have hlt:leV (cutB s p 1).data.toList<256 ^ 1:=by
   have:=leV_lt (cutB s p 1).data.toList
   rw[Array.length_toList,show(cutB s p 1).data.size=1 from by have:=hsz;show(cutB s p 1).size=1;omega]at this
   exact this
  refine rx tva0_ok 999 false 400 [] ?_ ?_
  ·exact⟨h8,hr,trivial⟩
  refine Run.ret ti_ok rfl rfl (HEnd.packV [0] rfl rfl rfl (.of (.a (.int ?_))))
  show((leV (cutB s p 1).data.toList:Nat):Int) % 256=(leV (cutB s p 1).data.toList:Nat)
  have e4:(256:Nat) ^ 1=256:=by decide
  rw[e4]at hlt
  omega
 ·cases hs
def tva1 (lf:RT):Tbl:=tbL [] [(145,nH (hBytT lf)),(157,nH (hU2T lf)),(158,nH (hB1T lf)),(121,nH (hErr lf.toLA))]
theorem tva1_ok:TblOk Try.prog (tva1 rtR):=tbL_ok (nofun) (mc ⟨bytT_ok.nH,mc ⟨u2T_ok.nH,mc ⟨b1T_ok.nH,mc ⟨err_ok.nH,nofun⟩⟩⟩⟩)
def hBigT (lf:RT):HSpec:=fun l bs=>match l,bs with
 | [.one (.ptr 0 (.lit 0))],[⟨false,.lst [.str s,.int .i64 p,.int .i64 e]⟩]=>some (.a (.one (.int .u16 (lf.swp (lf.get (lf.cut s p 2))))),[⟨false,.lst [.str s,.int .i64 (lf.add p 2),.int .i64 e]⟩],[lf.room s p 2 e])
 |_,_=>none
theorem bigT_ok:HOk Try.prog 142 (hBigT rtR):=by
 refine .of_run (hc:=(tva1 rtR).hc) Try.func142 rfl (by kernel_rfl) (by kernel_rfl) fun las lbs v lbs' ps hs hp w=>?_
 unfold hBigT at hs
 split at hs
 ·rename_i s p e
  cases hs
  have hr:e=0∧roomP s p 2:=hp (rtR.room s p 2 e) (by simp)
  have hsz:=cut_size hr.2
  have hlt:leV (cutB s p 2).data.toList<256 ^ 2:=by
   have:=leV_lt (cutB s p 2).data.toList
   rw[Array.length_toList,show(cutB s p 2).data.size=2 from by have:=hsz;show(cutB s p 2).size=2;omega]at this
   exact this
  have e2:(256:Nat) ^ 2=65536:=by decide
  rw[e2]at hlt
  refine rx tva1_ok 999 false 400 [] ?_ ?_
  ·exact⟨hr,trivial⟩
  refine Run.ret ti_ok rfl rfl (HEnd.packV [0] rfl rfl rfl (.of (.a (.int ?_))))
  exact swap16 (n:=((leV (cutB s p 2).data.toList:Nat):Int)) (by omega) (by omega)
 ·cases hs
def hHshT (lf:RT):HSpec:=fun l bs=>match l,bs with
 | [.one (.ptr 0 (.lit 0))],[⟨false,.lst [.str s,.int .i64 p,.int .i64 e]⟩]=>some (.a (.agg (.ints .u8 (.lit 32) (lf.hsh (lf.cut s p 32)))),[⟨false,.lst [.str s,.int .i64 (lf.add p 32),.int .i64 e]⟩],[lf.room s p 32 e])
 |_,_=>none
theorem hshT_ok:HOk Try.prog 143 (hHshT rtR):=by
 refine .of_run (hc:=(tva1 rtR).hc) Try.func143 rfl (by kernel_rfl) (by kernel_rfl) fun las lbs v lbs' ps hs hp w=>?_
 unfold hHshT at hs
 split at hs
 ·rename_i s p e
  cases hs
  have hr:e=0∧roomP s p 32:=hp (rtR.room s p 32 e) (by simp)
  refine rx tva1_ok 999 false 400 [] ?_ ?_
  ·exact⟨hr,trivial⟩
  exact Run.ret ti_ok rfl rfl (HEnd.pack [0] rfl rfl rfl rfl)
 ·cases hs
def hBolT (lf:RT):HSpec:=fun l bs=>match l,bs with
 | [.one (.ptr 0 (.lit 0))],[⟨false,.lst [.str s,.int .i64 p,.int .i64 e]⟩]=>some (.a (.one (.bool (lf.one (lf.get (lf.cut s p 1))))),[⟨false,.lst [.str s,.int .i64 (lf.add p 1),.int .i64 e]⟩],[lf.room s p 1 e,lf.bit (lf.get (lf.cut s p 1))])
 |_,_=>none
theorem bolT_ok:HOk Try.prog 146 (hBolT rtR):=by
 refine .of_run (hc:=(tva1 rtR).hc) Try.func146 rfl (by kernel_rfl) (by kernel_rfl) fun las lbs v lbs' ps hs hp w=>?_
 unfold hBolT at hs
 split at hs
 ·rename_i s p e
  cases hs
  have hr:e=0∧roomP s p 1:=hp (rtR.room s p 1 e) (by simp)
  have hb:((leV (cutB s p 1).data.toList:Nat):Int)=0∨((leV (cutB s p 1).data.toList:Nat):Int)=1:=hp (rtR.bit (rtR.get (rtR.cut s p 1))) (by simp)
  have hle:¬((leV (cutB s p 1).data.toList:Nat):Int)>1:=by omega
  refine rx tva1_ok 999 false 400 [false,false] ?_ ?_
  ·simp only[conj,z0,z2,arR,z1]
   exact⟨hle,hr,fun h=>h hr.1⟩
  exact Run.ret ti_ok rfl rfl (HEnd.pack [0] rfl rfl rfl rfl)
 ·cases hs
end Go.Proofs.Ytlbllaocdilafaa
namespace Go.Eng
open Go
theorem emp_no {s:ByteArray}{p n:Int}(h:roomP s p n) (hn:0<n):((s.extract p.toNat s.size).toList == ByteArray.empty.toList)=false:=by
 obtain⟨h1,h2,h3,h4⟩:=h
 rw[empty_iff,ByteArray.size_extract]
 exact decide_eq_false (by omega)
theorem rest_size {s:ByteArray}{p n:Int}(h:roomP s p n):((s.extract p.toNat s.size).size:Int)=s.size-p:=by
 obtain⟨h1,h2,h3,h4⟩:=h
 rw[ByteArray.size_extract]
 omega
theorem rest_byte {s:ByteArray}{p n:Int}(h:roomP s p n) (hn:0<n):arR.sb (s.extract p.toNat s.size) 0=byteI s p:=by
 obtain⟨h1,h2,h3,h4⟩:=h
 rw[sb_cut h2 (by omega),Nat.add_zero]
 rfl
theorem rest_cut {s:ByteArray}{p n:Int}(h:roomP s p n) (hn:1≤n):(s.extract p.toNat s.size).extract 1 n.toNat=cutB s (p+1) (n-1):=by
 rw[cut_cut (b:=n.toNat) h (by omega)]
 unfold cutB
 obtain⟨h1,h2,h3,h4⟩:=h
 congr 1<;>omega
theorem sh3:rbin .add .i64 1 (rbin .shl .i64 2 (rbin .sub .u8 253 253))=3:=rfl
theorem sh5:rbin .add .i64 1 (rbin .shl .i64 2 (rbin .sub .u8 254 253))=5:=rfl
theorem sh9:rbin .add .i64 1 (rbin .shl .i64 2 (rbin .sub .u8 255 253))=9:=rfl
theorem sg3:(0:Int)≤rbin .sub .u8 253 253:=by show(0:Int)≤0;decide
theorem sg5:(0:Int)≤rbin .sub .u8 254 253:=by show(0:Int)≤1;decide
theorem sg9:(0:Int)≤rbin .sub .u8 255 253:=by show(0:Int)≤2;decide
end Go.Eng
namespace Go.Proofs.Ytlbllaocdilafaa
open Go Go.Eng Go.Proofs Go.RowKit
attribute[local irreducible] CallOk HOk Run TIok rbin rcmp run1 updF shfF blitF
def tvb0 (lf:RT):Tbl:=tbL [(155,sTake lf.toLA),(153,nP (sCntL lf.toWL))] []
theorem tvb0_ok:TblOk Try.prog (tvb0 rtR):=tbL_ok (mc ⟨take_ok,mc ⟨cntl_ok.nP,nofun⟩⟩) (nofun)
def sTkT (lf:RT):ESpec:=fun l=>match l with
 | [.one (.str s),.one (.int .i64 p)]=>some (.tup [.one (.int .u64 (lf.cN s p)),.one (.int .i64 (lf.add p (lf.cntL (lf.cN s p)))),.one (.int .i64 0)],[lf.cAt s p 0])
 |_=>none
theorem tkT_ok:CallOk Try.prog 156 (sTkT rtR):=by
 refine .of_run (hc:=(tvb0 rtR).hc) Try.func156 rfl (by kernel_rfl) (by kernel_rfl) fun xs v ps hs hp w=>?_
 unfold sTkT at hs
 split at hs
 ·rename_i s p
  cases hs
  obtain⟨-,n,hn,hA⟩:=hp (rtR.cAt s p 0) (by simp)
  obtain⟨hN,hr,hcase⟩:=cnt_told hn hA
  clear hp
  have hL:=cntL_le n
  have hrb:arR.sb (s.extract p.toNat s.size) (Int.toNat 0)=byteI s p:=rest_byte hr (by omega)
  have hrs:=rest_size hr
  have hem:=emp_no hr (by omega)
  obtain⟨r1,r2,r3,r4⟩:=hr
  have hr:roomP s p (cntL n):=⟨r1,r2,r3,r4⟩
  rw[show rtR.cN s p=n from hN,show rtR.cntL n=cntL n from rfl,show rtR.add p (cntL n)=p+cntL n from rfl]
  rcases hcase with ⟨c1,hb⟩|⟨c1,hb,hv⟩
  ·rw[hb]at hrb
   have e1:cntL n=1:=if_pos c1
   have ep:rbin .add .i64 p 1=p+1:=addi (by omega) (by omega)
   have ec:IntKind.u64.wrap n=n:=by show n % 18446744073709551616=n;omega
   rw[e1]
   refine rx tvb0_ok 999 false 400 [false,false,false,true] ?_ ?_
   ·have hrb':(((((s.extract p.toNat s.size)[Int.toNat 0]?).getD 0).toNat:Nat):Int)=n:=hrb
    simp only[conj,z0,z2,arR,z1,hem,hrb',hrs]
    (repeat' with_reducible apply And.intro)<;>first|omega|exact hem
   ·refine Run.ret ti_ok rfl rfl (VLe.tup3 (.int ?_) (.int ep) (.lit rfl))
    show IntKind.u64.wrap (arR.sb (s.extract p.toNat s.size) (Int.toNat 0))=n
    rw[hrb,ec]
  ·rcases hb with ⟨hb,e1⟩|⟨hb,e1⟩|⟨hb,e1⟩
   ·rw[hb]at hrb
    have hrc:=rest_cut hr (by omega)
    rw[e1]at hv hrc r3 ⊢
    have ep:rbin .add .i64 p 3=p+3:=addi (by omega) (by omega)
    have h8:(cutB s (p+1) (3-1)).size≤8:=by
     have:=cut_size (s:=s) (p:=p+1) (n:=3-1) ⟨by omega,by omega,by omega,r4⟩
     omega
    have hrc':(s.extract p.toNat s.size).extract (Int.toNat 1) (Int.toNat 3)=cutB s (p+1) (3-1):=hrc
    have hcl:cntL ((leV (cutB s (p+1) (3-1)).data.toList:Nat):Int)=3:=by rw[hv];exact e1
    refine rx tvb0_ok 999 false 400 [false,false,false,false,false,false] ?_ ?_
    ·have hrb':(((((s.extract p.toNat s.size)[Int.toNat 0]?).getD 0).toNat:Nat):Int)=253:=hrb
     simp only[conj,z0,z2,arR,z1,hem,hrb',hrs,sh3,hrc',hcl,rtR,wlR,laR]
     (repeat' with_reducible apply And.intro)<;>first|exact h8|exact sg3|omega|exact hem|exact trivial
    ·refine Run.ret ti_ok rfl rfl (VLe.tup3 (.int ?_) (.int ?_) (.lit rfl))
     ·show((leV ((s.extract p.toNat s.size).extract (Int.toNat 1) (rbin .add .i64 1 (rbin .shl .i64 2 (rbin .sub .u8 (arR.sb (s.extract p.toNat s.size) (Int.toNat 0)) 253))).toNat).data.toList:Nat):Int)=n
      rw[hrb,sh3,hrc',hv]
     ·show rbin .add .i64 p (rbin .add .i64 1 (rbin .shl .i64 2 (rbin .sub .u8 (arR.sb (s.extract p.toNat s.size) (Int.toNat 0)) 253)))=p+3
      rw[hrb,sh3,ep]
   ·rw[hb]at hrb
    have hrc:=rest_cut hr (by omega)
    rw[e1]at hv hrc r3 ⊢
    have ep:rbin .add .i64 p 5=p+5:=addi (by omega) (by omega)
    have h8:(cutB s (p+1) (5-1)).size≤8:=by
     have:=cut_size (s:=s) (p:=p+1) (n:=5-1) ⟨by omega,by omega,by omega,r4⟩
     omega
    have hrc':(s.extract p.toNat s.size).extract (Int.toNat 1) (Int.toNat 5)=cutB s (p+1) (5-1):=hrc
    have hcl:cntL ((leV (cutB s (p+1) (5-1)).data.toList:Nat):Int)=5:=by rw[hv];exact e1
    refine rx tvb0_ok 999 false 400 [false,false,false,false,false,false] ?_ ?_
    ·have hrb':(((((s.extract p.toNat s.size)[Int.toNat 0]?).getD 0).toNat:Nat):Int)=254:=hrb
     simp only[conj,z0,z2,arR,z1,hem,hrb',hrs,sh5,hrc',hcl,rtR,wlR,laR]
     (repeat' with_reducible apply And.intro)<;>first|exact h8|exact sg5|omega|exact hem|exact trivial
    ·refine Run.ret ti_ok rfl rfl (VLe.tup3 (.int ?_) (.int ?_) (.lit rfl))
     ·show((leV ((s.extract p.toNat s.size).extract (Int.toNat 1) (rbin .add .i64 1 (rbin .shl .i64 2 (rbin .sub .u8 (arR.sb (s.extract p.toNat s.size) (Int.toNat 0)) 253))).toNat).data.toList:Nat):Int)=n
      rw[hrb,sh5,hrc',hv]
     ·show rbin .add .i64 p (rbin .add .i64 1 (rbin .shl .i64 2 (rbin .sub .u8 (arR.sb (s.extract p.toNat s.size) (Int.toNat 0)) 253)))=p+5
      rw[hrb,sh5,ep]
   ·rw[hb]at hrb
    have hrc:=rest_cut hr (by omega)
    rw[e1]at hv hrc r3 ⊢
    have ep:rbin .add .i64 p 9=p+9:=addi (by omega) (by omega)
    have h8:(cutB s (p+1) (9-1)).size≤8:=by
     have:=cut_size (s:=s) (p:=p+1) (n:=9-1) ⟨by omega,by omega,by omega,r4⟩
     omega
    have hrc':(s.extract p.toNat s.size).extract (Int.toNat 1) (Int.toNat 9)=cutB s (p+1) (9-1):=hrc
    have hcl:cntL ((leV (cutB s (p+1) (9-1)).data.toList:Nat):Int)=9:=by rw[hv];exact e1
    refine rx tvb0_ok 999 false 400 [false,false,false,false,false,false] ?_ ?_
    ·have hrb':(((((s.extract p.toNat s.size)[Int.toNat 0]?).getD 0).toNat:Nat):Int)=255:=hrb
     simp only[conj,z0,z2,arR,z1,hem,hrb',hrs,sh9,hrc',hcl,rtR,wlR,laR]
     (repeat' with_reducible apply And.intro)<;>first|exact h8|exact sg9|omega|exact hem|exact trivial
    ·refine Run.ret ti_ok rfl rfl (VLe.tup3 (.int ?_) (.int ?_) (.lit rfl))
     ·show((leV ((s.extract p.toNat s.size).extract (Int.toNat 1) (rbin .add .i64 1 (rbin .shl .i64 2 (rbin .sub .u8 (arR.sb (s.extract p.toNat s.size) (Int.toNat 0)) 253))).toNat).data.toList:Nat):Int)=n
      rw[hrb,sh9,hrc',hv]
     ·show rbin .add .i64 p (rbin .add .i64 1 (rbin .shl .i64 2 (rbin .sub .u8 (arR.sb (s.extract p.toNat s.size) (Int.toNat 0)) 253)))=p+9
      rw[hrb,sh9,ep]
 ·cases hs
def tvb1 (lf:RT):Tbl:=tbL [(156,sTkT lf)] [(121,nH (hErr lf.toLA))]
theorem tvb1_ok:TblOk Try.prog (tvb1 rtR):=tbL_ok (mc ⟨tkT_ok,nofun⟩) (mc ⟨err_ok.nH,nofun⟩)
def hCntT (lf:RT):HSpec:=fun l bs=>match l,bs with
 | [.one (.ptr 0 (.lit 0)),.one (.int .u64 m)],[⟨false,.lst [.str s,.int .i64 p,.int .i64 e]⟩]=>some (.a (.one (.int .u64 (lf.cN s p))),[⟨false,.lst [.str s,.int .i64 (lf.add p (lf.cntL (lf.cN s p))),.int .i64 e]⟩],[lf.cAt s p e,lf.le (lf.cN s p) m])
 |_,_=>none
theorem cntT_ok:HOk Try.prog 140 (hCntT rtR):=by
 refine .of_run (hc:=(tvb1 rtR).hc) Try.func140 rfl (by kernel_rfl) (by kernel_rfl) fun las lbs v lbs' ps hs hp w=>?_
 unfold hCntT at hs
 split at hs
 ·rename_i m s p e
  cases hs
  obtain⟨rfl,hc⟩:=hp (rtR.cAt s p e) (by simp)
  have hle:cntN s p≤m:=hp (rtR.le (rtR.cN s p) m) (by simp)
  have hc':rtR.cAt s p 0:=⟨rfl,hc⟩
  have hng:¬cntN s p>m:=by omega
  refine rx tvb1_ok 999 false 400 [false,true,false,false] ?_ ?_
  ·simp only[conj,z0,z2,arR,z1]
   exact⟨trivial,hng,trivial,hc'⟩
  exact Run.ret ti_ok rfl rfl (HEnd.pack [0] rfl rfl rfl rfl)
 ·cases hs
end Go.Proofs.Ytlbllaocdilafaa
