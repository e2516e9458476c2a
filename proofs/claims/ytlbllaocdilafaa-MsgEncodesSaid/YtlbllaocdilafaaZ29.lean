import Derived.Test.YtlbllaocdilafaaZ28
set_option linter.unusedSimpArgs false
set_option linter.unusedVariables false
set_option maxRecDepth 100000
set_option maxHeartbeats 16000000
namespace Go.Eng
open Go
theorem HOk.split {P:Program}{f:FuncId}{s:HSpec}(h:∀l bs v bs' ps,s l bs=some (v,bs',ps)→(∀p∈ps,p)→∃s' ps',HOk P f s'∧s' l bs=some (v,bs',ps')∧∀p∈ps',p):HOk P f s:=by
 unfold HOk
 intro las lbs v lbs' ps hs hp
 obtain⟨s',ps',h1,h2,h3⟩:=h las lbs v lbs' ps hs hp
 unfold HOk at h1
 exact h1 las lbs v lbs' ps' h2 h3
theorem payOf {m:Ms}{s:ByteArray}:(pmR.n.fit2 s (pmR.pay m.D))=(s.size+(payM m).size≤140737488355328):=congrArg (fun x=>s.size+(payM x).size≤140737488355328) (msOf_D m)
theorem payOfE {m:Ms}:pmR.pay m.D=payM m:=congrArg payM (msOf_D m)
theorem verOfE {m:Ms}:pmR.ver m.D=verM m:=congrArg verM (msOf_D m)
theorem comOfE {m:Ms}:pmR.com m.D=comM m:=congrArg comM (msOf_D m)
def kindIs (k:Int) (d:D):Prop:=(msOf d).kind=k
end Go.Eng
namespace Go.Proofs.Ytlbllaocdilafaa
open Go Go.Eng Go.Proofs Go.RowKit
attribute[local irreducible] CallOk HOk Run TIok rbin rcmp run1 updF shfF blitF
def tsm0 (lf:PM):Tbl:=tbL [] [(96,nH (hWBytes lf.n.toWL.toLA)),(91,nH (hWU64 lf.n.toWL.toLA)),(93,nH (hWU32 lf.n.toWL.toLA)),(136,nH (hWU16 lf.n.toWL)),(92,nH (hWCnt lf.n.toWL)),(99,nH (hWStr lf.n.toWL)),(95,nH (hWHash lf.n.toWL)),(97,nH (hWBool lf.n.toWL)),(133,nH (hWBig lf.n.toWL)),(94,hMNet lf.n),(90,hVer lf),(98,hCom lf)]
theorem tsm0_ok:TblOk Try.prog (tsm0 pmR):=tbL_ok (nofun) (mc ⟨wbytes_ok.nH,mc ⟨wu64_ok.nH,mc ⟨wu32_ok.nH,mc ⟨wu16_ok.nH,mc ⟨wcnt_ok.nH,mc ⟨wstr_ok.nH,mc ⟨whash_ok.nH,mc ⟨wbool_ok.nH,mc ⟨wbig_ok.nH,mc ⟨mnet_ok,mc ⟨ver_ok,mc ⟨com_ok,nofun⟩⟩⟩⟩⟩⟩⟩⟩⟩⟩⟩⟩)
noncomputable def hPutG (G:D→Prop):HSpec:=fun l bs=>match l,bs with
 | [.one (.ptr 0 (.lit 0)),.agg (.prt [.v sh d])],[⟨false,.lst [.adr 0 167,.bf s 1 5]⟩,⟨false,.tail⟩]=>if shEq sh MS then some (.tup [],[⟨false,.lst [.adr 0 167,.bf (pmR.n.cat s (pmR.pay d)) 2 5]⟩,⟨true,.dead⟩,⟨false,.tail⟩],[putOk d,pmR.n.fit2 s (pmR.pay d),G d])else none
 |_,_=>none
def hPut0 (lf:PM):HSpec:=fun l bs=>match l,bs with
 | [.one (.ptr 0 (.lit 0)),.agg (.prt [.v sh d])],[⟨false,.lst [.adr 0 167,.bf s 1 5]⟩,⟨false,.tail⟩]=>if shEq sh MS then some (.tup [],[⟨false,.lst [.adr 0 167,.bf s 1 5]⟩,⟨false,.tail⟩],[lf.mf.mFit d,lf.bare d])else none
 |_,_=>none
theorem put0_ok:HOk Try.prog 70 (hPut0 pmR):=by
 refine .of_run (hc:=(tsm0 pmR).hc) Try.func70 rfl (by kernel_rfl) (by kernel_rfl) fun las lbs v lbs' ps hs hp w=>?_
 unfold hPut0 at hs
 split at hs
 ·rename_i sh d s
  split at hs
  ·rename_i hsh
   obtain rfl:=shEq_eq hsh
   clear hsh
   cases hs
   obtain⟨m,rfl,-⟩:mFit d:=hp (pmR.mf.mFit d) (by simp)
   have hb:(msOf m.D).kind<1∨((msOf m.D).kind=2∨(msOf m.D).kind=3∨(msOf m.D).kind=4)∨18<(msOf m.D).kind:=hp (pmR.bare m.D) (by simp)
   rw[msOf_D]at hb
   clear hp
   obtain⟨a0,a1,a2,a3,a4,⟨a5t,a5s,a5i,a5p⟩,⟨a6t,a6s,a6i,a6p⟩,a7,a8,a9,a10,a11,a12,a13,a14,a15,a16,a17,a18,a19,a20,a21,a22⟩:=m
   simp only at hb
   refine rx tsm0_ok 999 false 400 [false,false,false,false,false,false,false,false,false,false,false,false,false,false,false] ?_ ?_
   ·simp only[conj,z0,z2,arR,z1,pmR,nlR,wlR,laR,lbR,zd]
    (repeat' with_reducible apply And.intro)<;>first
      |omega
      |assumption
      |rfl
      |trivial
      |((try simp only[bsa,layB_size,rowB_size,netB_size,bigB_size,flagB_size,txz]);omega)
   exact Run.fin ti_ok rfl rfl (HEnd.pack [0,1] rfl rfl rfl rfl)
  ·cases hs
 ·cases hs
theorem put_1:HOk Try.prog 70 (hPutG (kindIs 1)):=by
 refine .of_run (hc:=(tsm0 pmR).hc) Try.func70 rfl (by kernel_rfl) (by kernel_rfl) fun las lbs v lbs' ps hs hp w=>?_
 unfold hPutG at hs
 split at hs
 ·rename_i sh d s
  split at hs
  ·rename_i hsh
   obtain rfl:=shEq_eq hsh
   clear hsh
   cases hs
   have hpo:putOk d:=hp (putOk d) (by simp)
   obtain⟨m,rfl,hok,⟨z11,z12,z13,z16,z19,z20,z21,z22⟩,hr1,hr2⟩:=hpo
   have hpo:putOk m.D:=hp (putOk m.D) (by simp)
   have hf:=hp (pmR.n.fit2 s (pmR.pay m.D)) (by simp)
   have hk:m.kind=1:=(congrArg Ms.kind (msOf_D m)).symm.trans (hp (kindIs 1 m.D) (by simp))
   have hvr:verM m=pmR.ver m.D:=verOfE.symm
   have hcm:comM m=pmR.com m.D:=comOfE.symm
   clear hp
   rw[payOf]at hf
   rw[payOfE]
   obtain⟨a0,a1,a2,a3,a4,⟨a5t,a5s,a5i,a5p⟩,⟨a6t,a6s,a6i,a6p⟩,a7,a8,a9,a10,a11,a12,a13,a14,a15,a16,a17,a18,a19,a20,a21,a22⟩:=m
   obtain⟨r0,r1,r2,r3,r4,r5,r6,r7,r8,r9,r10,r11,r12,r13,r14,r15,r16,r17,r18,r19,r20,r21,r22⟩:=hok
   simp only at hk z11 z12 z13 z16 z19 z20 z21 z22
   subst hk
   replace hr1:riseP filP a20:=hr1
   replace hr2:riseP intS a21:=hr2
   have hF:=fx a1 a2 a3 a4 a8 a5t a5s a5p a6t a6s a6p a5i a6i a11 a12 a13 a16 a19 a20 a21 a22 r1 r2 r3 r8 r11 r12 r13 r16 r19 r20 r21 r22 r5 r6
   clear r11 r12 r13 r16 r19 r20 r21 r22
   obtain⟨R1,R2,R3,R8,R4,r11,r12,r13,r16,r19,r20,r21,r22,N5,N6⟩:=hF
   rw[show payM ⟨1,a1,a2,a3,a4,⟨a5t,a5s,a5i,a5p⟩,⟨a6t,a6s,a6i,a6p⟩,a7,a8,a9,a10,a11,a12,a13,a14,a15,a16,a17,a18,a19,a20,a21,a22⟩=verM ⟨1,a1,a2,a3,a4,⟨a5t,a5s,a5i,a5p⟩,⟨a6t,a6s,a6i,a6p⟩,a7,a8,a9,a10,a11,a12,a13,a14,a15,a16,a17,a18,a19,a20,a21,a22⟩from rfl,hvr]at hf ⊢
   clear r0 r1 r2 r3 r4 r5 r6 r7 r8 r9 r10 r14 r15 r17 r18
   refine rx tsm0_ok 999 false 400 [true] ?_ ?_
   ·simp only[conj,z0,z2,arR,z1,pmR,nlR,wlR,laR,lbR,zd]
    (repeat' with_reducible apply And.intro)<;>first
      |omega
      |assumption
      |exact hpo
      |exact hf
      |rfl
      |trivial
      |((try simp only[bsa,layB_size,rowB_size,netB_size,bigB_size,flagB_size,txz]);omega)
   refine Run.fin ti_ok rfl rfl (HEnd.pack [0,1,3] rfl rfl (pk_w ?_) rfl)
   rfl
  ·cases hs
 ·cases hs
theorem put_5:HOk Try.prog 70 (hPutG (kindIs 5)):=by
 refine .of_run (hc:=(tsm0 pmR).hc) Try.func70 rfl (by kernel_rfl) (by kernel_rfl) fun las lbs v lbs' ps hs hp w=>?_
 unfold hPutG at hs
 split at hs
 ·rename_i sh d s
  split at hs
  ·rename_i hsh
   obtain rfl:=shEq_eq hsh
   clear hsh
   cases hs
   have hpo:putOk d:=hp (putOk d) (by simp)
   obtain⟨m,rfl,hok,⟨z11,z12,z13,z16,z19,z20,z21,z22⟩,hr1,hr2⟩:=hpo
   have hpo:putOk m.D:=hp (putOk m.D) (by simp)
   have hf:=hp (pmR.n.fit2 s (pmR.pay m.D)) (by simp)
   have hk:m.kind=5:=(congrArg Ms.kind (msOf_D m)).symm.trans (hp (kindIs 5 m.D) (by simp))
   have hvr:verM m=pmR.ver m.D:=verOfE.symm
   have hcm:comM m=pmR.com m.D:=comOfE.symm
   clear hp
   rw[payOf]at hf
   rw[payOfE]
   obtain⟨a0,a1,a2,a3,a4,⟨a5t,a5s,a5i,a5p⟩,⟨a6t,a6s,a6i,a6p⟩,a7,a8,a9,a10,a11,a12,a13,a14,a15,a16,a17,a18,a19,a20,a21,a22⟩:=m
   obtain⟨r0,r1,r2,r3,r4,r5,r6,r7,r8,r9,r10,r11,r12,r13,r14,r15,r16,r17,r18,r19,r20,r21,r22⟩:=hok
   simp only at hk z11 z12 z13 z16 z19 z20 z21 z22
   subst hk
   replace hr1:riseP filP a20:=hr1
   replace hr2:riseP intS a21:=hr2
   have hF:=fx a1 a2 a3 a4 a8 a5t a5s a5p a6t a6s a6p a5i a6i a11 a12 a13 a16 a19 a20 a21 a22 r1 r2 r3 r8 r11 r12 r13 r16 r19 r20 r21 r22 r5 r6
   clear r11 r12 r13 r16 r19 r20 r21 r22
   obtain⟨R1,R2,R3,R8,R4,r11,r12,r13,r16,r19,r20,r21,r22,N5,N6⟩:=hF
   have e:payM ⟨5,a1,a2,a3,a4,⟨a5t,a5s,a5i,a5p⟩,⟨a6t,a6s,a6i,a6p⟩,a7,a8,a9,a10,a11,a12,a13,a14,a15,a16,a17,a18,a19,a20,a21,a22⟩=layB a3 8:=rfl
   rw[e]at hf ⊢
   clear e
   rw[layB_size]at hf
   clear r0 r1 r2 r3 r4 r5 r6 r7 r8 r9 r10 r14 r15 r17 r18
   refine rx tsm0_ok 999 false 400 [false,true,true] ?_ ?_
   ·simp only[conj,z0,z2,arR,z1,pmR,nlR,wlR,laR,lbR,zd]
    (repeat' with_reducible apply And.intro)<;>first
      |omega
      |assumption
      |exact hf
      |rfl
      |trivial
      |((try simp only[bsa,layB_size,rowB_size,netB_size,bigB_size,flagB_size,txz]);omega)
   refine Run.fin ti_ok rfl rfl (HEnd.pack [0,1,3] rfl rfl (pk_w ?_) rfl)
   rfl
  ·cases hs
 ·cases hs
theorem put_6:HOk Try.prog 70 (hPutG (kindIs 6)):=by
 refine .of_run (hc:=(tsm0 pmR).hc) Try.func70 rfl (by kernel_rfl) (by kernel_rfl) fun las lbs v lbs' ps hs hp w=>?_
 unfold hPutG at hs
 split at hs
 ·rename_i sh d s
  split at hs
  ·rename_i hsh
   obtain rfl:=shEq_eq hsh
   clear hsh
   cases hs
   have hpo:putOk d:=hp (putOk d) (by simp)
   obtain⟨m,rfl,hok,⟨z11,z12,z13,z16,z19,z20,z21,z22⟩,hr1,hr2⟩:=hpo
   have hpo:putOk m.D:=hp (putOk m.D) (by simp)
   have hf:=hp (pmR.n.fit2 s (pmR.pay m.D)) (by simp)
   have hk:m.kind=6:=(congrArg Ms.kind (msOf_D m)).symm.trans (hp (kindIs 6 m.D) (by simp))
   have hvr:verM m=pmR.ver m.D:=verOfE.symm
   have hcm:comM m=pmR.com m.D:=comOfE.symm
   clear hp
   rw[payOf]at hf
   rw[payOfE]
   obtain⟨a0,a1,a2,a3,a4,⟨a5t,a5s,a5i,a5p⟩,⟨a6t,a6s,a6i,a6p⟩,a7,a8,a9,a10,a11,a12,a13,a14,a15,a16,a17,a18,a19,a20,a21,a22⟩:=m
   obtain⟨r0,r1,r2,r3,r4,r5,r6,r7,r8,r9,r10,r11,r12,r13,r14,r15,r16,r17,r18,r19,r20,r21,r22⟩:=hok
   simp only at hk z11 z12 z13 z16 z19 z20 z21 z22
   subst hk
   replace hr1:riseP filP a20:=hr1
   replace hr2:riseP intS a21:=hr2
   have hF:=fx a1 a2 a3 a4 a8 a5t a5s a5p a6t a6s a6p a5i a6i a11 a12 a13 a16 a19 a20 a21 a22 r1 r2 r3 r8 r11 r12 r13 r16 r19 r20 r21 r22 r5 r6
   clear r11 r12 r13 r16 r19 r20 r21 r22
   obtain⟨R1,R2,R3,R8,R4,r11,r12,r13,r16,r19,r20,r21,r22,N5,N6⟩:=hF
   have e:payM ⟨6,a1,a2,a3,a4,⟨a5t,a5s,a5i,a5p⟩,⟨a6t,a6s,a6i,a6p⟩,a7,a8,a9,a10,a11,a12,a13,a14,a15,a16,a17,a18,a19,a20,a21,a22⟩=layB a3 8:=rfl
   rw[e]at hf ⊢
   clear e
   rw[layB_size]at hf
   clear r0 r1 r2 r3 r4 r5 r6 r7 r8 r9 r10 r14 r15 r17 r18
   refine rx tsm0_ok 999 false 400 [false,false,true] ?_ ?_
   ·simp only[conj,z0,z2,arR,z1,pmR,nlR,wlR,laR,lbR,zd]
    (repeat' with_reducible apply And.intro)<;>first
      |omega
      |assumption
      |exact hf
      |rfl
      |trivial
      |((try simp only[bsa,layB_size,rowB_size,netB_size,bigB_size,flagB_size,txz]);omega)
   refine Run.fin ti_ok rfl rfl (HEnd.pack [0,1,3] rfl rfl (pk_w ?_) rfl)
   rfl
  ·cases hs
 ·cases hs
theorem put_7:HOk Try.prog 70 (hPutG (kindIs 7)):=by
 refine .of_run (hc:=(tsm0 pmR).hc) Try.func70 rfl (by kernel_rfl) (by kernel_rfl) fun las lbs v lbs' ps hs hp w=>?_
 unfold hPutG at hs
 split at hs
 ·rename_i sh d s
  split at hs
  ·rename_i hsh
   obtain rfl:=shEq_eq hsh
   clear hsh
   cases hs
   have hpo:putOk d:=hp (putOk d) (by simp)
   obtain⟨m,rfl,hok,⟨z11,z12,z13,z16,z19,z20,z21,z22⟩,hr1,hr2⟩:=hpo
   have hpo:putOk m.D:=hp (putOk m.D) (by simp)
   have hf:=hp (pmR.n.fit2 s (pmR.pay m.D)) (by simp)
   have hk:m.kind=7:=(congrArg Ms.kind (msOf_D m)).symm.trans (hp (kindIs 7 m.D) (by simp))
   have hvr:verM m=pmR.ver m.D:=verOfE.symm
   have hcm:comM m=pmR.com m.D:=comOfE.symm
   clear hp
   rw[payOf]at hf
   rw[payOfE]
   obtain⟨a0,a1,a2,a3,a4,⟨a5t,a5s,a5i,a5p⟩,⟨a6t,a6s,a6i,a6p⟩,a7,a8,a9,a10,a11,a12,a13,a14,a15,a16,a17,a18,a19,a20,a21,a22⟩:=m
   obtain⟨r0,r1,r2,r3,r4,r5,r6,r7,r8,r9,r10,r11,r12,r13,r14,r15,r16,r17,r18,r19,r20,r21,r22⟩:=hok
   simp only at hk z11 z12 z13 z16 z19 z20 z21 z22
   subst hk
   replace hr1:riseP filP a20:=hr1
   replace hr2:riseP intS a21:=hr2
   have hF:=fx a1 a2 a3 a4 a8 a5t a5s a5p a6t a6s a6p a5i a6i a11 a12 a13 a16 a19 a20 a21 a22 r1 r2 r3 r8 r11 r12 r13 r16 r19 r20 r21 r22 r5 r6
   clear r11 r12 r13 r16 r19 r20 r21 r22
   obtain⟨R1,R2,R3,R8,R4,r11,r12,r13,r16,r19,r20,r21,r22,N5,N6⟩:=hF
   have e:payM ⟨7,a1,a2,a3,a4,⟨a5t,a5s,a5i,a5p⟩,⟨a6t,a6s,a6i,a6p⟩,a7,a8,a9,a10,a11,a12,a13,a14,a15,a16,a17,a18,a19,a20,a21,a22⟩=(cntB a11.length++catN (elNet a11) a11.length):=rfl
   rw[e]at hf ⊢
   clear e
   simp only[bsa]at hf
   have F0:(s).size+(cntB a11.length).size≤140737488355328:=by(try simp only[bsa]);omega
   obtain⟨base,hbase⟩:∃b,b=s++cntB a11.length:=⟨_,rfl⟩
   have hB:base.size+(catN (elNet a11) a11.length).size≤140737488355328:=by rw[hbase];simp only[bsa];omega
   clear hf
   have hc:IntKind.u64.wrap (a11.length:Int)=a11.length:=wrap_len (by omega)
   clear r0 r1 r2 r3 r4 r5 r6 r7 r8 r9 r10 r14 r15 r17 r18
   refine ra tsm0_ok 0 false 400 [false,false,false,true] [0,40,41,42] [42] ?_ ?_
   ·simp only[conj,z0,z2,arR,z1,pmR,nlR,wlR,laR,lbR,zd,hc]
    (repeat' with_reducible apply And.intro)<;>first
      |omega
      |assumption
      |exact F0
      |rfl
      |trivial
      |((try simp only[bsa,layB_size,rowB_size,netB_size,bigB_size,flagB_size,txz]);omega)
   refine Run.loop (ι:={q:Int×Int×ByteArray // (0≤q.1∧q.1≤a11.length)∧q.2.1=a11.length∧q.2.2=base++catN (elNet a11) q.1.toNat})
    (fun i=>([.a (.one (.ptr 0 (.lit 0))),.z,.z,.z,.z,.z,.z,.z,.z,.z,.z,.z,.z,.z,.z,.z,.z,.z,.z,.z,.z,.z,.z,.z,.z,.z,.z,.z,.z,.z,.z,.z,.z,.z,.z,.z,.z,.z,.z,.z,.a (.one (.dat (.two (.int .u32) (.two (.int .u64) (.two (.arr .u8 16) (.int .u16)))) a11 none)),.a (.one (.int .i64 i.1.2.1)),.a (.one (.int .i64 i.1.1)),.z,.z,.z,.z,.z,.z,.z,.z,.z,.z,.z,.z,.z,.z,.z,.z,.z,.z,.z,.z,.z,.z,.z,.z,.z,.z,.z,.z,.z,.z,.z,.z,.z,.z,.z,.z,.z,.z,.z,.z,.z,.z,.z,.z,.z,.z,.z,.z,.z,.z,.z,.z,.z,.z,.z,.z,.z,.z,.z,.z,.z,.z,.z,.z,.z,.z,.z,.z,.z,.z,.z,.z,.z,.z,.z,.z,.z,.z,.z,.z,.z,.z,.z,.z,.z,.z,.z,.z,.z,.z,.z,.z,.z,.z,.z,.z,.z,.z,.z,.z,.z,.z,.z,.z,.z,.z,.z,.z,.z,.z,.z,.z,.z,.z,.z,.z,.z,.z,.z,.z,.z,.z,.z,.z,.z,.z,.z,.z,.z,.z,.z,.z,.z,.z,.z,.z,.z,.z,.z,.z,.z,.z,.z,.z,.z,.z,.z,.z,.z,.z,.z,.z,.z,.z,.z,.z,.z,.z],[some ⟨false,.lst [.adr 0 167,.bf i.1.2.2 2 5]⟩,some ⟨true,.dead⟩,some ⟨false,.tail⟩]))
    (fun i=>(a11.length-i.1.1).toNat) ⟨(0,_,_),by simp only;omega,rfl,(by show _=base ++ .empty;rw[ByteArray.append_empty,hbase];show s++cntB (IntKind.u64.wrap (a11.length:Int))=_;rw[hc])⟩ ?_
   rintro⟨⟨p,len,t⟩,hp,hl,ht⟩ ih
   try simp only at hp hl ht
   by_cases hlt:p<a11.length
   ·have e1:rbin .add .i64 p 1=p+1:=addi (by omega) (by omega)
    have hpn:p.toNat<a11.length:=by omega
    have hcf:=cat_fit (f:=elNet a11) hpn hB
    rw[←ht]at hcf
    have hnx:t++elNet a11 p.toNat=base++catN (elNet a11) (p+1).toNat:=by
     rw[ht,show(p+1).toNat=p.toNat+1 by omega,catN_succ,baa]
    have hx:=okD_NS (r11.2 _ (mem_at hlt hp.1))
    obtain⟨hx1,hx2,hx3⟩:=hx
    replace hcf:t.size+(layB (a11.getD p.toNat (.int 0)).fst!.int! 4++netB (a11.getD p.toNat (.int 0))).size≤140737488355328:=hcf
    rw[bsa,layB_size,netB_size]at hcf
    refine ra tsm0_ok 2 true 400 [true] [0,40,41,42] [42] ?_ ?_
    ·simp only[conj,z0,z2,arR,z1,pmR,nlR,wlR,laR,lbR,zd,hl]
     (repeat' with_reducible apply And.intro)<;>first
       |omega
       |assumption
       |rfl
       |trivial
       |((try simp only[bsa,layB_size,rowB_size,netB_size,bigB_size,flagB_size,txz]);omega)
    ·refine ih ⟨(_,_,_),?_,hl,?_⟩ ?_ _ _
     ·show 0≤rbin .add .i64 p 1∧rbin .add .i64 p 1≤a11.length
      rw[e1];omega
     ·simp only[arR,dF_m,dS_m,dI_m,dX_m,e1]
      refine Eq.trans ?_ hnx
      show t++layB (a11.getD p.toNat (.int 0)).fst!.int! 4++netB (a11.getD p.toNat (.int 0))=t++(layB (a11.getD p.toNat (.int 0)).fst!.int! 4++netB (a11.getD p.toNat (.int 0)))
      rw[baa]
     ·show((a11.length:Int)-rbin .add .i64 p 1).toNat<((a11.length:Int)-p).toNat
      rw[e1];omega
   ·have hpe:p.toNat=a11.length:=by omega
    rw[hpe]at ht
    clear ih
    refine rx tsm0_ok 999 false 400 [false] ?_ ?_
    ·simp only[conj,z0,z2,arR,z1,pmR,nlR,wlR,laR,lbR,zd,hl]
     (repeat' with_reducible apply And.intro)<;>first
       |omega
       |assumption
       |rfl
       |trivial
       |((try simp only[bsa,layB_size,rowB_size,netB_size,bigB_size,flagB_size,txz]);omega)
    refine Run.fin ti_ok rfl rfl (HEnd.pack [0,1,2] rfl rfl (pk_w (by
     rw[ht,hbase]
     show _=s++((cntB a11.length++catN (elNet a11) a11.length))
     simp only[baa])) rfl)
  ·cases hs
 ·cases hs
end Go.Proofs.Ytlbllaocdilafaa
