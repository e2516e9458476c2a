import Derived.Test.YtlbllaocdilafaaZ26
import Derived.Test.YtlbllaocdilafaaZ27
set_option linter.unusedSimpArgs false
set_option linter.unusedVariables false
set_option maxRecDepth 100000
set_option maxHeartbeats 16000000
namespace Go.Eng
open Go
theorem rg64 {a:Int}(h:IntKind.u64.min≤a∧a≤IntKind.u64.max):0≤a∧a<18446744073709551616:=by
 have e1:IntKind.u64.min=0:=by decide
 have e2:IntKind.u64.max=18446744073709551615:=by decide
 omega
theorem rg32 {a:Int}(h:IntKind.u32.min≤a∧a≤IntKind.u32.max):0≤a∧a<4294967296:=by
 have e1:IntKind.u32.min=0:=by decide
 have e2:IntKind.u32.max=4294967295:=by decide
 omega
theorem rg16 {a:Int}(h:IntKind.u16.min≤a∧a≤IntKind.u16.max):0≤a∧a<65536:=by
 have e1:IntKind.u16.min=0:=by decide
 have e2:IntKind.u16.max=65535:=by decide
 omega
theorem rgi64 {a:Int}(h:IntKind.i64.min≤a∧a≤IntKind.i64.max):-9223372036854775808≤a∧a<9223372036854775808:=by
 have e1:IntKind.i64.min = -9223372036854775808:=by decide
 have e2:IntKind.i64.max=9223372036854775807:=by decide
 omega
theorem u64of_rng (n:Int):0≤u64of n∧u64of n<18446744073709551616:=by
 show 0≤n % 18446744073709551616∧n % 18446744073709551616<18446744073709551616
 omega
theorem okD_NS {d:D}(h:okD NS d):nlR.nOk d∧0≤d.fst!.int!∧d.fst!.int! < 4294967296:=by
 obtain⟨x1,y1,rfl,h1,g1⟩:=okD_two h
 obtain⟨x2,y2,rfl,h2,g2⟩:=okD_two g1
 obtain⟨x3,y3,rfl,h3,g3⟩:=okD_two g2
 obtain⟨n1,rfl⟩:=okD_int h1
 obtain⟨n2,rfl⟩:=okD_int h2
 obtain⟨n3,rfl⟩:=okD_int g3
 obtain⟨l,rfl,-⟩:=okD_arr h3
 exact⟨⟨⟨n1,n2,l,n3⟩,rfl,rg64 h2,rg16 g3⟩,rg32 h1⟩
theorem fx (a1 a2 a3 a4 a8 a5t a5s a5p a6t a6s a6p:Int) (a5i a6i:List Int) (a11 a12 a13 a16 a19 a20 a21 a22:List D)
 (r1:okD (.int .u32) (.int a1)) (r2:okD (.int .u64) (.int a2)) (r3:okD (.int .u64) (.int a3)) (r8:okD (.int .u32) (.int a8)) (r11:okD (.sl (.two (.int .u32) (.two (.int .u64) (.two (.arr .u8 16) (.int .u16))))) (.sl a11)) (r12:okD (.sl (.two (.int .u32) (.arr .u8 32))) (.sl a12)) (r13:okD (.sl (.arr .u8 32)) (.sl a13)) (r16:okD (.sl .str) (.sl a16)) (r19:okD (.sl (.int .u64)) (.sl a19)) (r20:okD (.sl (.two (.int .i64) .str)) (.sl a20)) (r21:okD (.sl (.int .i64)) (.sl a21)) (r22:okD (.sl .str) (.sl a22))
 (r5:okD NS (.pair (.int a5t) (.pair (.int a5s) (.pair (.row a5i) (.int a5p))))) (r6:okD NS (.pair (.int a6t) (.pair (.int a6s) (.pair (.row a6i) (.int a6p))))):
 (0≤a1∧a1<4294967296)∧(0≤a2∧a2<18446744073709551616)∧(0≤a3∧a3<18446744073709551616)∧(0≤a8∧a8<4294967296)∧(0≤IntKind.u64.wrap a4∧IntKind.u64.wrap a4<18446744073709551616)∧(a11.length≤maxLen∧∀d∈a11,okD (.two (.int .u32) (.two (.int .u64) (.two (.arr .u8 16) (.int .u16)))) d)∧(a12.length≤maxLen∧∀d∈a12,okD (.two (.int .u32) (.arr .u8 32)) d)∧(a13.length≤maxLen∧∀d∈a13,okD (.arr .u8 32) d)∧(a16.length≤maxLen∧∀d∈a16,okD (.str) d)∧(a19.length≤maxLen∧∀d∈a19,okD (.int .u64) d)∧(a20.length≤maxLen∧∀d∈a20,okD (.two (.int .i64) .str) d)∧(a21.length≤maxLen∧∀d∈a21,okD (.int .i64) d)∧(a22.length≤maxLen∧∀d∈a22,okD (.str) d)∧nlR.nOk (.pair (.int a5t) (.pair (.int a5s) (.pair (.row a5i) (.int a5p))))∧nlR.nOk (.pair (.int a6t) (.pair (.int a6s) (.pair (.row a6i) (.int a6p)))):=
 ⟨rg32 r1,rg64 r2,rg64 r3,rg32 r8,u64of_rng a4,r11,r12,r13,r16,r19,r20,r21,r22,(okD_NS r5).1,(okD_NS r6).1⟩
theorem okD_item {d:D}(h:okD (.two (.int .u32) (.arr .u8 32)) d):0≤d.fst!.int!∧d.fst!.int! < 4294967296:=by
 obtain⟨x1,y1,rfl,h1,g1⟩:=okD_two h
 obtain⟨n1,rfl⟩:=okD_int h1
 exact rg32 h1
theorem okD_u64 {d:D}(h:okD (.int .u64) d):0≤d.int!∧d.int! < 18446744073709551616:=by
 obtain⟨n1,rfl⟩:=okD_int h
 exact rg64 h
theorem mem_at {l:List D}{p:Int}(h1:p<l.length) (h0:0≤p):l.getD p.toNat (.int 0)∈l:=by
 have h:p.toNat<l.length:=by omega
 rw[List.getD_eq_getElem?_getD,geg h];exact List.getElem_mem h
theorem short_split {n:Int}(h0:0≤n):layB (n % 4294967296) 4++layB (n / 4294967296 % 65536) 2=layB n 6:=by
 obtain⟨k,rfl⟩:=Int.eq_ofNat_of_zero_le h0
 have e1:((k:Int) % 4294967296).toNat=k % 4294967296:=by omega
 have e2:((k:Int) / 4294967296 % 65536).toNat=k / 4294967296 % 65536:=by omega
 unfold layB
 rw[e1,e2]
 apply ByteArray.ext
 rw[ByteArray.data_append]
 simp only[List.range,List.range.loop,List.map,List.append_toArray,List.cons_append,List.nil_append,Nat.pow_zero,Nat.pow_one,Int.toNat_natCast]
 have h2:(256:Nat) ^ 2=65536:=by decide
 have h3:(256:Nat) ^ 3=16777216:=by decide
 have h4:(256:Nat) ^ 4=4294967296:=by decide
 have h5:(256:Nat) ^ 5=1099511627776:=by decide
 rw[h2,h3,h4,h5]
 congr 2
 ·congr 1;omega
 congr 1
 ·congr 1;omega
 congr 1
 ·congr 1;omega
 congr 1
 ·congr 1;omega
 congr 1
 ·congr 1;omega
 congr 1
 ·congr 1;omega
def putOk (d:D):Prop:=∃m:Ms,d=m.D∧okD MS m.D∧(m.addrs.length≤140737488351232∧m.items.length≤140737488351232∧m.hashes.length≤140737488351232∧m.heads.length≤140737488351232∧m.shorts.length≤140737488351232∧m.filled.length≤140737488351232∧m.places.length≤140737488351232∧m.raws.length≤140737488351232)∧riseP filP m.filled∧riseP intS m.places
theorem verM_size (m:Ms):(verM m).size=85+(rawB m.agent).size:=by
 unfold verM
 simp only[bsa,layB_size,netB_size,flagB_size]
 omega
structure PM extends ME5 where
 n:NL
 pay:D→ByteArray
 ver:D→ByteArray
 com:D→ByteArray
 putOk:D→Prop
 bare:D→Prop
 fat:D→Prop
noncomputable def pmR:PM where
 toME5:=me5
 n:=nlR
 pay d:=payM (msOf d)
 ver d:=verM (msOf d)
 com d:=comM (msOf d)
 putOk:=putOk
 bare d:=(msOf d).kind<1∨((msOf d).kind=2∨(msOf d).kind=3∨(msOf d).kind=4)∨18<(msOf d).kind
 fat d:=(1≤(msOf d).kind∧(msOf d).kind≤18)∧¬((msOf d).kind=2∨(msOf d).kind=3∨(msOf d).kind=4)
end Go.Eng
namespace Go.Proofs.Ytlbllaocdilafaa
open Go Go.Eng Go.Proofs Go.RowKit
attribute[local irreducible] CallOk HOk Run TIok rbin rcmp run1 updF shfF blitF
def tsk0 (lf:PM):Tbl:=tbL [] [(96,nH (hWBytes lf.n.toWL.toLA)),(91,nH (hWU64 lf.n.toWL.toLA)),(93,nH (hWU32 lf.n.toWL.toLA)),(136,nH (hWU16 lf.n.toWL)),(92,nH (hWCnt lf.n.toWL)),(99,nH (hWStr lf.n.toWL)),(95,nH (hWHash lf.n.toWL)),(97,nH (hWBool lf.n.toWL)),(133,nH (hWBig lf.n.toWL)),(94,hMNet lf.n)]
theorem tsk0_ok:TblOk Try.prog (tsk0 pmR):=tbL_ok (nofun) (mc ⟨wbytes_ok.nH,mc ⟨wu64_ok.nH,mc ⟨wu32_ok.nH,mc ⟨wu16_ok.nH,mc ⟨wcnt_ok.nH,mc ⟨wstr_ok.nH,mc ⟨whash_ok.nH,mc ⟨wbool_ok.nH,mc ⟨wbig_ok.nH,mc ⟨mnet_ok,nofun⟩⟩⟩⟩⟩⟩⟩⟩⟩⟩)
def hVer (lf:PM):HSpec:=fun l bs=>match l,bs with
 | [.one (.ptr 0 (.lit 0)),.agg (.prt [.v sh d])],[⟨false,.lst [.adr 0 167,.bf s 1 5]⟩,⟨false,.tail⟩]=>if shEq sh MS then some (.tup [],[⟨false,.lst [.adr 0 167,.bf (lf.n.cat s (lf.ver d)) 2 5]⟩,⟨true,.dead⟩,⟨false,.tail⟩],[lf.putOk d,lf.n.fit2 s (lf.ver d)])else none
 |_,_=>none
theorem ver_ok:HOk Try.prog 90 (hVer pmR):=by
 refine .of_run (hc:=(tsk0 pmR).hc) Try.func90 rfl (by kernel_rfl) (by kernel_rfl) fun las lbs v lbs' ps hs hp w=>?_
 unfold hVer at hs
 split at hs
 ·rename_i sh d s
  split at hs
  ·rename_i hsh
   obtain rfl:=shEq_eq hsh
   clear hsh
   cases hs
   obtain⟨m,rfl,hok,⟨z11,z12,z13,z16,z19,z20,z21,z22⟩,hr1,hr2⟩:putOk d:=hp (pmR.putOk d) (by simp)
   have hf:s.size+(verM m).size≤140737488355328:=(congrArg (fun x=>s.size+(verM x).size≤140737488355328) (msOf_D m)).mp (hp (pmR.n.fit2 s (pmR.ver m.D)) (by simp))
   clear hp
   rw[show pmR.ver m.D=verM m from congrArg verM (msOf_D m)]
   obtain⟨a0,a1,a2,a3,a4,⟨a5t,a5s,a5i,a5p⟩,⟨a6t,a6s,a6i,a6p⟩,a7,a8,a9,a10,a11,a12,a13,a14,a15,a16,a17,a18,a19,a20,a21,a22⟩:=m
   obtain⟨r0,r1,r2,r3,r4,r5,r6,r7,r8,r9,r10,r11,r12,r13,r14,r15,r16,r17,r18,r19,r20,r21,r22⟩:=hok
   simp only at z11 z12 z13 z16 z19 z20 z21 z22
   rw[verM_size]at hf
   simp only at hf
   have hF:=fx a1 a2 a3 a4 a8 a5t a5s a5p a6t a6s a6p a5i a6i a11 a12 a13 a16 a19 a20 a21 a22 r1 r2 r3 r8 r11 r12 r13 r16 r19 r20 r21 r22 r5 r6
   clear r11 r12 r13 r16 r19 r20 r21 r22
   obtain⟨R1,R2,R3,R8,R4,r11,r12,r13,r16,r19,r20,r21,r22,N5,N6⟩:=hF
   refine rx tsk0_ok 999 false 400 [] ?_ ?_
   ·clear r0 r1 r2 r3 r4 r5 r6 r7 r8 r9 r10 r11 r12 r13 r14 r15 r16 r17 r18 r19 r20 r21 r22 hr1 hr2
    simp only[conj,z0,z2,arR,z1,pmR,nlR,wlR,laR,lbR,zd]
    (repeat' with_reducible apply And.intro)<;>first
      |omega
      |assumption
      |exact N5
      |exact N6
      |rfl
      |trivial
      |((try simp only[bsa,layB_size,rowB_size,netB_size,bigB_size,flagB_size]);omega)
   refine Run.fin ti_ok rfl rfl (HEnd.pack [0,1,35] rfl rfl (pk_w ?_) rfl)
   show s++layB a1 4++layB a2 8++layB (u64of a4) 8++netB _++netB _++layB a3 8++rawB a7++layB a8 4++flagB a9=s++(layB a1 4++layB a2 8++layB (u64of a4) 8++netB _++netB _++layB a3 8++rawB a7++layB a8 4++flagB a9)
   simp only[baa]
   rfl
  ·cases hs
 ·cases hs
end Go.Proofs.Ytlbllaocdilafaa
namespace Go.Eng
open Go
theorem pre_fit {a b c:ByteArray}{N:Nat}(h:a.size+(b++c).size≤N):a.size+b.size≤N∧(a++b).size+c.size≤N:=by
 rw[bsa]at h ⊢
 omega
theorem shr32 {x:Int}(h0:0≤x):rbin .shr .u64 x 32=x / 4294967296:=by
 show x.fdiv (2 ^ 32)=_
 rw[Int.fdiv_eq_ediv_of_nonneg _ (by decide)];rfl
theorem w16 (z:Int):0≤IntKind.u16.wrap z∧IntKind.u16.wrap z<65536:=by
 show 0≤z % 65536∧z % 65536<65536
 omega
theorem w32 (z:Int):0≤IntKind.u32.wrap z∧IntKind.u32.wrap z<4294967296:=by
 show 0≤z % 4294967296∧z % 4294967296<4294967296
 omega
theorem gap_ok {x la:Int}(h1:-1≤la) (h2:la<x) (h3:x≤65535):IntKind.u64.wrap (rbin .sub .i64 (rbin .sub .i64 x la) 1)=x-la-1∧0≤x-la-1∧x-la-1<18446744073709551616:=by
 rw[subi (x:=x) (by omega) (by omega),subi (by omega) (by omega)]
 refine⟨?_,by omega,by omega⟩
 show(x-la-1) % 18446744073709551616=_
 omega
end Go.Eng
namespace Go.Proofs.Ytlbllaocdilafaa
open Go Go.Eng Go.Proofs Go.RowKit
attribute[local irreducible] CallOk HOk Run TIok rbin rcmp run1 updF shfF blitF
def tsl0 (lf:PM):Tbl:=tbL [] [(96,nH (hWBytes lf.n.toWL.toLA)),(91,nH (hWU64 lf.n.toWL.toLA)),(93,nH (hWU32 lf.n.toWL.toLA)),(136,nH (hWU16 lf.n.toWL)),(92,nH (hWCnt lf.n.toWL)),(99,nH (hWStr lf.n.toWL)),(95,nH (hWHash lf.n.toWL)),(97,nH (hWBool lf.n.toWL)),(133,nH (hWBig lf.n.toWL))]
theorem tsl0_ok:TblOk Try.prog (tsl0 pmR):=tbL_ok (nofun) (mc ⟨wbytes_ok.nH,mc ⟨wu64_ok.nH,mc ⟨wu32_ok.nH,mc ⟨wu16_ok.nH,mc ⟨wcnt_ok.nH,mc ⟨wstr_ok.nH,mc ⟨whash_ok.nH,mc ⟨wbool_ok.nH,mc ⟨wbig_ok.nH,nofun⟩⟩⟩⟩⟩⟩⟩⟩⟩)
def hCom (lf:PM):HSpec:=fun l bs=>match l,bs with
 | [.one (.ptr 0 (.lit 0)),.agg (.prt [.v sh d])],[⟨false,.lst [.adr 0 167,.bf s 1 5]⟩,⟨false,.tail⟩]=>if shEq sh MS then some (.tup [],[⟨false,.lst [.adr 0 167,.bf (lf.n.cat s (lf.com d)) 2 5]⟩,⟨true,.dead⟩,⟨false,.tail⟩],[lf.putOk d,lf.n.fit2 s (lf.com d)])else none
 |_,_=>none
theorem com_ok:HOk Try.prog 98 (hCom pmR):=by
 refine .of_run (hc:=(tsl0 pmR).hc) Try.func98 rfl (by kernel_rfl) (by kernel_rfl) fun las lbs v lbs' ps hs hp w=>?_
 unfold hCom at hs
 split at hs
 ·rename_i sh d s
  split at hs
  ·rename_i hsh
   obtain rfl:=shEq_eq hsh
   clear hsh
   cases hs
   obtain⟨m,rfl,hok,⟨z11,z12,z13,z16,z19,z20,z21,z22⟩,hr1,hr2⟩:putOk d:=hp (pmR.putOk d) (by simp)
   have hf:s.size+(comM m).size≤140737488355328:=(congrArg (fun x=>s.size+(comM x).size≤140737488355328) (msOf_D m)).mp (hp (pmR.n.fit2 s (pmR.com m.D)) (by simp))
   clear hp
   rw[show pmR.com m.D=comM m from congrArg comM (msOf_D m)]
   obtain⟨a0,a1,a2,a3,a4,⟨a5t,a5s,a5i,a5p⟩,⟨a6t,a6s,a6i,a6p⟩,a7,a8,a9,a10,a11,a12,a13,a14,a15,a16,a17,a18,a19,a20,a21,a22⟩:=m
   obtain⟨r0,r1,r2,r3,r4,r5,r6,r7,r8,r9,r10,r11,r12,r13,r14,r15,r16,r17,r18,r19,r20,r21,r22⟩:=hok
   simp only at z11 z12 z13 z16 z19 z20 z21 z22
   have hF:=fx a1 a2 a3 a4 a8 a5t a5s a5p a6t a6s a6p a5i a6i a11 a12 a13 a16 a19 a20 a21 a22 r1 r2 r3 r8 r11 r12 r13 r16 r19 r20 r21 r22 r5 r6
   clear r11 r12 r13 r16 r19 r20 r21 r22
   obtain⟨R1,R2,R3,R8,R4,r11,r12,r13,r16,r19,r20,r21,r22,N5,N6⟩:=hF
   replace hr1:riseP filP a20:=hr1
   replace hr2:riseP intS a21:=hr2
   have hc19:IntKind.u64.wrap (a19.length:Int)=a19.length:=wrap_len (by omega)
   have hc20:IntKind.u64.wrap (a20.length:Int)=a20.length:=wrap_len (by omega)
   have hf0:s.size+(a17++layB a3 8++(cntB a19.length++catN (elShort a19) a19.length)++(cntB a20.length++catN (elFill a20) a20.length)).size≤140737488355328:=hf
   clear hf
   simp only[bsa]at hf0
   have F1:s.size+a17.size≤140737488355328:=by omega
   have F2:(s++a17).size+(layB a3 8).size≤140737488355328:=by simp only[bsa];omega
   have F3:(s++a17++layB a3 8).size+(cntB a19.length).size≤140737488355328:=by simp only[bsa];omega
   have F4:(s++a17++layB a3 8++cntB a19.length).size+(catN (elShort a19) a19.length).size≤140737488355328:=by simp only[bsa];omega
   have F5:(s++a17++layB a3 8++cntB a19.length++catN (elShort a19) a19.length).size+(cntB a20.length).size≤140737488355328:=by simp only[bsa];omega
   have F6:(s++a17++layB a3 8++cntB a19.length++catN (elShort a19) a19.length++cntB a20.length).size+(catN (elFill a20) a20.length).size≤140737488355328:=by simp only[bsa];omega
   clear hf0
   obtain⟨base,hbase⟩:∃b,b=s++a17++layB a3 8++cntB a19.length:=⟨_,rfl⟩
   have hB:=F4
   rw[←hbase]at hB F5 F6
   obtain⟨base2,hbase2⟩:∃b,b=base++catN (elShort a19) a19.length++cntB a20.length:=⟨_,rfl⟩
   have hB2:=F6
   rw[←hbase2]at hB2
   clear r0 r1 r2 r3 r4 r5 r6 r7 r8 r9 r10 r11 r12 r13 r14 r15 r16 r17 r18 r20 r21 r22
   refine ra tsl0_ok 0 false 400 [] [0,3,24,25,26] [26] ?_ ?_
   ·simp only[conj,z0,z2,arR,z1,pmR,nlR,wlR,laR,lbR,zd,hc19]
    (repeat' with_reducible apply And.intro)<;>first
      |omega
      |assumption
      |exact F3
      |exact F2
      |exact F1
      |rfl
      |trivial
      |((try simp only[bsa,layB_size,rowB_size,netB_size,bigB_size,flagB_size,txz]);omega)
   refine Run.loop (ι:={q:Int×Int×ByteArray // (0≤q.1∧q.1≤a19.length)∧q.2.1=a19.length∧q.2.2=base++catN (elShort a19) q.1.toNat})
    (fun i=>([.a (.one (.ptr 0 (.lit 0))),.z,.z,.a (.one (.ptr 2 (.lit 0))),.z,.z,.z,.z,.z,.z,.z,.z,.z,.z,.z,.z,.z,.z,.z,.z,.z,.z,.z,.z,.a (.one (.dat (.int .u64) a19 none)),.a (.one (.int .i64 i.1.2.1)),.a (.one (.int .i64 i.1.1)),.z,.z,.z,.z,.z,.z,.z,.z,.z,.z,.z,.z,.z,.z,.z,.z,.z,.z,.z,.z,.z,.z,.z,.z,.z,.z,.z,.z,.z,.z,.z,.z,.z,.z,.z,.z,.z,.z,.z,.z,.z],[some ⟨false,.lst [.adr 0 167,.bf i.1.2.2 3 5]⟩,some ⟨true,.dead⟩,some ⟨false,.prt [.v MS (MD a0 a1 a2 a3 a4 a5t a5s a5i a5p a6t a6s a6i a6p a7 a8 a9 a10 a11 a12 a13 a14 a15 a16 a17 a18 a19 a20 a21 a22)]⟩,some ⟨false,.tail⟩]))
    (fun i=>(a19.length-i.1.1).toNat) ⟨(0,_,_),by simp only;omega,rfl,(by show _=base ++ .empty;rw[ByteArray.append_empty,hbase];show s++a17++layB a3 8++cntB (IntKind.u64.wrap (a19.length:Int))=_;rw[hc19])⟩ ?_
   rintro⟨⟨p,len,t⟩,hp,hl,ht⟩ ih
   try simp only at hp hl ht
   by_cases hlt:p<a19.length
   ·have e1:rbin .add .i64 p 1=p+1:=addi (by omega) (by omega)
    have hpn:p.toNat<a19.length:=by omega
    have hcf:=cat_fit (f:=elShort a19) hpn hB
    rw[←ht]at hcf
    have hnx:t++elShort a19 p.toNat=base++catN (elShort a19) (p+1).toNat:=by
     rw[ht,show(p+1).toNat=p.toNat+1 by omega,catN_succ,baa]
    have hx:=okD_u64 (r19.2 _ (mem_at hlt hp.1))
    replace hcf:t.size+(layB (a19.getD p.toNat (.int 0)).int! 6).size≤140737488355328:=hcf
    rw[layB_size]at hcf
    have W1:=w16 (rbin .shr .u64 (a19.getD p.toNat (.int 0)).int! 32)
    have W2:=w32 (a19.getD p.toNat (.int 0)).int!
    refine ra tsl0_ok 2 true 400 [true] [0,3,24,25,26] [26] ?_ ?_
    ·simp only[conj,z0,z2,arR,z1,pmR,nlR,wlR,laR,lbR,zd,hl]
     (repeat' with_reducible apply And.intro)<;>first
       |omega
       |assumption
       |rfl
       |trivial
       |((try simp only[bsa,layB_size,rowB_size,netB_size,bigB_size,flagB_size,txz]);omega)
    ·refine ih ⟨(_,_,_),?_,hl,?_⟩ ?_ _ _
     ·show 0≤rbin .add .i64 p 1∧rbin .add .i64 p 1≤a19.length
      rw[e1];omega
     ·simp only[arR,dF_m,dS_m,dI_m,dX_m,e1]
      refine Eq.trans ?_ hnx
      show t++layB (IntKind.u32.wrap (a19.getD p.toNat (.int 0)).int!) 4++layB (IntKind.u16.wrap (rbin .shr .u64 (a19.getD p.toNat (.int 0)).int! 32)) 2=t++layB (a19.getD p.toNat (.int 0)).int! 6
      rw[baa,shr32 hx.1]
      exact congrArg (t ++ ·) (short_split hx.1)
     ·show((a19.length:Int)-rbin .add .i64 p 1).toNat<((a19.length:Int)-p).toNat
      rw[e1];omega
   ·have hpe:p.toNat=a19.length:=by omega
    rw[hpe]at ht
    clear ih
    rw[←ht]at F5
    refine ra tsl0_ok 2 false 400 [false] [0,6,47,48,49] [6,49] ?_ ?_
    ·simp only[conj,z0,z2,arR,z1,pmR,nlR,wlR,laR,lbR,zd,hl,hc20]
     (repeat' with_reducible apply And.intro)<;>first
       |omega
       |assumption
       |exact F5
       |rfl
       |trivial
       |((try simp only[bsa,layB_size,rowB_size,netB_size,bigB_size,flagB_size,txz]);omega)
    refine Run.loop (ι:={q:Int×Int×ByteArray×Int // (0≤q.1∧q.1≤a20.length)∧q.2.1=a20.length∧(q.2.2.1=base2++catN (elFill a20) q.1.toNat∧q.2.2.2=prevI filP a20 q.1.toNat)})
     (fun i=>([.a (.one (.ptr 0 (.lit 0))),.z,.z,.z,.z,.z,.a (.one (.int .i64 i.1.2.2.2)),.z,.z,.z,.z,.z,.z,.z,.z,.z,.z,.z,.z,.z,.z,.z,.z,.z,.z,.z,.z,.z,.z,.z,.z,.z,.z,.z,.z,.z,.z,.z,.z,.z,.z,.z,.z,.z,.z,.z,.z,.a (.one (.dat (.two (.int .i64) .str) a20 none)),.a (.one (.int .i64 i.1.2.1)),.a (.one (.int .i64 i.1.1)),.z,.z,.z,.z,.z,.z,.z,.z,.z,.z,.z,.z,.z,.z,.z,.z,.z,.z],[some ⟨false,.lst [.adr 0 167,.bf i.1.2.2.1 2 5]⟩,some ⟨true,.dead⟩,some ⟨false,.tail⟩]))
     (fun i=>(a20.length-i.1.1).toNat) ⟨(0,_,_,-1),by simp only;omega,rfl,⟨(by show _=base2 ++ .empty;rw[ByteArray.append_empty,hbase2];show t++cntB (IntKind.u64.wrap (a20.length:Int))=_;rw[hc20,ht]),rfl⟩⟩ ?_
    rintro⟨⟨p,len,t,la⟩,hp,hl,⟨ht,hla⟩⟩ ih
    try simp only at hp hl ht hla
    by_cases hlt:p<a20.length
    ·have e1:rbin .add .i64 p 1=p+1:=addi (by omega) (by omega)
     have hpn:p.toNat<a20.length:=by omega
     have hcf:=cat_fit (f:=elFill a20) hpn hB2
     rw[←ht]at hcf
     have hnx:t++elFill a20 p.toNat=base2++catN (elFill a20) (p+1).toNat:=by
      rw[ht,show(p+1).toNat=p.toNat+1 by omega,catN_succ,baa]
     have hq:=hr1 p.toNat hpn
     have hge:=prev_ge (g:=filP) (l:=a20) (n:=p.toNat) (fun i hi=>hr1 i (by omega))
     rw[←hla]at hge
     have hat:la<filP (a20.getD p.toNat (.int 0))∧filP (a20.getD p.toNat (.int 0))≤65535:=by rw[hla];exact hq
     have hg:=gap_ok hge hat.1 hat.2
     obtain⟨hc1,hc2⟩:=pre_fit hcf
     unfold gapB at hc1 hc2
     rw[←hla]at hc1 hc2
     unfold filP at hg hc1 hc2
     refine ra tsl0_ok 1 true 400 [true] [0,6,47,48,49] [6,49] ?_ ?_
     ·simp only[conj,z0,z2,arR,z1,pmR,nlR,wlR,laR,lbR,zd,hg.1,hl]
      (repeat' with_reducible apply And.intro)<;>first
        |omega
        |assumption
        |rfl
        |trivial
        |((try simp only[bsa,layB_size,rowB_size,netB_size,bigB_size,flagB_size,txz]);omega)
     ·refine ih ⟨(_,_,_,_),?_,hl,?_⟩ ?_ _ _
      ·show 0≤rbin .add .i64 p 1∧rbin .add .i64 p 1≤a20.length
       rw[e1];omega
      ·simp only[arR,dF_m,dS_m,dI_m,dX_m,e1]
       refine⟨Eq.trans ?_ hnx,?_⟩
       ·show t++cntB (IntKind.u64.wrap (rbin .sub .i64 (rbin .sub .i64 (filP (a20.getD p.toNat (.int 0))) la) 1))++rawB (a20.getD p.toNat (.int 0)).snd!.str! = t++(cntB (filP (a20.getD p.toNat (.int 0))-prevI filP a20 p.toNat-1)++rawB (a20.getD p.toNat (.int 0)).snd!.str!)
        rw[show filP (a20.getD p.toNat (.int 0))=(a20.getD p.toNat (.int 0)).fst!.int! from rfl,hg.1,←hla,baa]
       ·show filP (a20.getD p.toNat (.int 0))=prevI filP a20 (p+1).toNat
        rw[show(p+1).toNat=p.toNat+1 by omega];rfl
      ·show((a20.length:Int)-rbin .add .i64 p 1).toNat<((a20.length:Int)-p).toNat
       rw[e1];omega
    ·have hpe:p.toNat=a20.length:=by omega
     rw[hpe]at ht
     clear ih
     refine rx tsl0_ok 999 false 400 [false] ?_ ?_
     ·simp only[conj,z0,z2,arR,z1,pmR,nlR,wlR,laR,lbR,zd,hl]
      (repeat' with_reducible apply And.intro)<;>first
        |omega
        |assumption
        |rfl
        |trivial
        |((try simp only[bsa,layB_size,rowB_size,netB_size,bigB_size,flagB_size,txz]);omega)
     refine Run.fin ti_ok rfl rfl (HEnd.pack [0,1,2] rfl rfl (pk_w ?_) rfl)
     rw[ht,hbase2,hbase]
     show _=s++(a17++layB a3 8++(cntB a19.length++catN (elShort a19) a19.length)++(cntB a20.length++catN (elFill a20) a20.length))
     simp only[baa]
  ·cases hs
 ·cases hs
end Go.Proofs.Ytlbllaocdilafaa
