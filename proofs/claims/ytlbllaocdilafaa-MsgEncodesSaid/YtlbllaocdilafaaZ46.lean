import Derived.Test.YtlbllaocdilafaaZ44
import Derived.Test.YtlbllaocdilafaaZ45
import Derived.Test.YtlbllaocdilafaaZ27
import Derived.SizedLaws
import Derived.ChangeArms
set_option linter.unusedSimpArgs false
set_option linter.unusedVariables false
set_option maxRecDepth 100000
set_option maxHeartbeats 16000000
namespace Go.Proofs.Ytlbllaocdilafaa
open Go Go.Eng Go.Proofs Go.RowKit
attribute[local irreducible] CallOk HOk Run TIok rbin rcmp run1 updF shfF blitF
noncomputable def tvd1 (d:D) (lf:TDd):Tbl:=tbL [(45,nP (sCmd ⟨lf.em.toQR.toPM.toME5.toME4.toME3.toME2.toME1.toLN9.toLN8.toLN7.toLN6.toLN5.toLN4.toLN1,lf.em.toQR.toPM.toME5.toME4.toME3.toME2.toME1.toLN9.toLN8.cmd⟩))] [(77,hNewR lf.r.toLA),(78,nH (hTk1 lf.toTLd d)),(79,nH (hPrtT lf.r)),(80,nH (hEnd lf.r.toLA))]
theorem tvd1_ok (d:D):TblOk Try.prog (tvd1 d tdR):=tbL_ok (mc ⟨cmd_ok.nP,nofun⟩) (mc ⟨newR_ok,mc ⟨(tk_1 d).nH,mc ⟨prtT_ok.nH,mc ⟨end_ok.nH,nofun⟩⟩⟩⟩)
theorem dec_1 (d:D):CallOk Try.prog 41 (sDecG d 1):=by
 refine .of_run (hc:=(tvd1 d tdR).hc) Try.func41 rfl (by kernel_rfl) (by kernel_rfl) fun xs v ps hs hp w=>?_
 unfold sDecG at hs
 split at hs
 ·rename_i k s
  cases hs
  have ht:tldD k d s:=hp (tldD k d s) mcs
  obtain rfl:k=1:=hp (k=1) (mcm _ mcs)
  clear hp
  have ht2:tdR.tld 1 d s 0 0:=tld_of ht
  obtain⟨m,hm,hk,hok,-,-,-,-,hsz,h16⟩:=ht
  have h16':¬((s.size:Int)>16384):=by omega
  have hcmd:((cmdOf 1).toList == ByteArray.empty.toList)=false:=by kernel_rfl
  have hend:¬ ¬laR.endE s s.size 0=0:=fun h=>h (by show(if(0:Int)≠0 then(0:Int)else if(s.size:Int)<s.size then 5 else 0)=0;rw[if_neg (by simp),if_neg (by omega)])
  have hro:laR.rOk s s.size:=⟨by omega,by omega,by omega⟩
  have he0:rtR.e0 0:=rfl
  refine rx (tvd1_ok d) 999 false 400 [false,false,false] ?_ ?_
  ·simp only[conj,z0,z2,arR,z1]
   (repeat' with_reducible apply And.intro)<;>first|exact hcmd|exact h16'|exact hend|exact hro|exact he0|exact ht2|rfl|exact trivial
  ·subst hm
   rw[show tdR.nd m.D=(namedM m).D from congrArg (fun x=>(namedM x).D) (msOf_D m)]
   obtain⟨a0,a1,a2,a3,a4,⟨a5t,a5s,a5i,a5p⟩,⟨a6t,a6s,a6i,a6p⟩,a7,a8,a9,a10,a11,a12,a13,a14,a15,a16,a17,a18,a19,a20,a21,a22⟩:=m
   simp only at hk
   subst hk
   obtain⟨r0,r1,r2,r3,r4,r5,r6,r7,r8,r9,r10,r11,r12,r13,r14,r15,r16,r17,r18,r19,r20,r21,r22⟩:=hok
   have hl5:a5i.length=16:=(okD_NS16 r5)
   have hl6:a6i.length=16:=(okD_NS16 r6)
   refine Run.ret ti_ok rfl rfl (VLe.tup3 (ALe.prt ?_) (.lit rfl) (.lit rfl))
   show G.prt [.v MS (.pair (.int 1) (.pair (.int a1) (.pair (.int a2) (.pair (.int a3) (.pair (.int a4) (.pair (.pair (.int 0) (.pair (.int a5s) (.pair (.row a5i) (.int a5p)))) (.pair (.pair (.int 0) (.pair (.int a6s) (.pair (.row a6i) (.int a6p)))) (.pair (.str a7) (.pair (.int a8) (.pair (.bool a9) (.pair (.bool false) (.pair (.sl []) (.pair (.sl []) (.pair (.sl []) (.pair (.row (List.replicate 32 0)) (.pair (.row (List.replicate 32 0)) (.pair (.sl []) (.pair (.str .empty) (.pair (.str .empty) (.pair (.sl []) (.pair (.sl []) (.pair (.sl []) (.sl [])))))))))))))))))))))))]=_
   rfl
 ·cases hs
noncomputable def tvd17 (d:D) (lf:TDd):Tbl:=tbL [(45,nP (sCmd ⟨lf.em.toQR.toPM.toME5.toME4.toME3.toME2.toME1.toLN9.toLN8.toLN7.toLN6.toLN5.toLN4.toLN1,lf.em.toQR.toPM.toME5.toME4.toME3.toME2.toME1.toLN9.toLN8.cmd⟩))] [(77,hNewR lf.r.toLA),(78,nH (hTk17 lf.toTLd d)),(79,nH (hPrtT lf.r)),(80,nH (hEnd lf.r.toLA))]
theorem tvd17_ok (d:D):TblOk Try.prog (tvd17 d tdR):=tbL_ok (mc ⟨cmd_ok.nP,nofun⟩) (mc ⟨newR_ok,mc ⟨(tk_17 d).nH,mc ⟨prtT_ok.nH,mc ⟨end_ok.nH,nofun⟩⟩⟩⟩)
theorem dec_17 (d:D):CallOk Try.prog 41 (sDecG d 17):=by
 refine .of_run (hc:=(tvd17 d tdR).hc) Try.func41 rfl (by kernel_rfl) (by kernel_rfl) fun xs v ps hs hp w=>?_
 unfold sDecG at hs
 split at hs
 ·rename_i k s
  cases hs
  have ht:tldD k d s:=hp (tldD k d s) mcs
  obtain rfl:k=17:=hp (k=17) (mcm _ mcs)
  clear hp
  have ht2:tdR.tld 17 d s 0 0:=tld_of ht
  obtain⟨m,hm,hk,hok,-,-,-,-,hsz,h16⟩:=ht
  have h16':¬((s.size:Int)>16384):=by omega
  have hcmd:((cmdOf 17).toList == ByteArray.empty.toList)=false:=by kernel_rfl
  have hend:¬ ¬laR.endE s s.size 0=0:=fun h=>h (by show(if(0:Int)≠0 then(0:Int)else if(s.size:Int)<s.size then 5 else 0)=0;rw[if_neg (by simp),if_neg (by omega)])
  have hro:laR.rOk s s.size:=⟨by omega,by omega,by omega⟩
  have he0:rtR.e0 0:=rfl
  refine rx (tvd17_ok d) 999 false 400 [false,false,false] ?_ ?_
  ·simp only[conj,z0,z2,arR,z1]
   (repeat' with_reducible apply And.intro)<;>first|exact hcmd|exact h16'|exact hend|exact hro|exact he0|exact ht2|rfl|exact trivial
  ·subst hm
   rw[show tdR.nd m.D=(namedM m).D from congrArg (fun x=>(namedM x).D) (msOf_D m)]
   obtain⟨a0,a1,a2,a3,a4,⟨a5t,a5s,a5i,a5p⟩,⟨a6t,a6s,a6i,a6p⟩,a7,a8,a9,a10,a11,a12,a13,a14,a15,a16,a17,a18,a19,a20,a21,a22⟩:=m
   simp only at hk
   subst hk
   obtain⟨r0,r1,r2,r3,r4,r5,r6,r7,r8,r9,r10,r11,r12,r13,r14,r15,r16,r17,r18,r19,r20,r21,r22⟩:=hok
   have hl15:a15.length=32:=r15.1
   refine Run.ret ti_ok rfl rfl (VLe.tup3 (ALe.prt ?_) (.lit rfl) (.lit rfl))
   show G.prt [.v MS (.pair (.int 17) (.pair (.int 0) (.pair (.int 0) (.pair (.int 0) (.pair (.int 0) (.pair (.pair (.int 0) (.pair (.int 0) (.pair (.row (List.replicate 16 0)) (.int 0)))) (.pair (.pair (.int 0) (.pair (.int 0) (.pair (.row (List.replicate 16 0)) (.int 0)))) (.pair (.str .empty) (.pair (.int 0) (.pair (.bool false) (.pair (.bool false) (.pair (.sl []) (.pair (.sl []) (.pair (.sl []) (.pair (.row (List.replicate 32 0)) (.pair (.row a15) (.pair (.sl []) (.pair (.str .empty) (.pair (.str .empty) (.pair (.sl []) (.pair (.sl []) (.pair (.sl a21) (.sl [])))))))))))))))))))))))]=_
   rfl
 ·cases hs
noncomputable def tvd18 (d:D) (lf:TDd):Tbl:=tbL [(45,nP (sCmd ⟨lf.em.toQR.toPM.toME5.toME4.toME3.toME2.toME1.toLN9.toLN8.toLN7.toLN6.toLN5.toLN4.toLN1,lf.em.toQR.toPM.toME5.toME4.toME3.toME2.toME1.toLN9.toLN8.cmd⟩))] [(77,hNewR lf.r.toLA),(78,nH (hTk18 lf.toTLd d)),(79,nH (hPrtT lf.r)),(80,nH (hEnd lf.r.toLA))]
theorem tvd18_ok (d:D):TblOk Try.prog (tvd18 d tdR):=tbL_ok (mc ⟨cmd_ok.nP,nofun⟩) (mc ⟨newR_ok,mc ⟨(tk_18 d).nH,mc ⟨prtT_ok.nH,mc ⟨end_ok.nH,nofun⟩⟩⟩⟩)
theorem dec_18 (d:D):CallOk Try.prog 41 (sDecG d 18):=by
 refine .of_run (hc:=(tvd18 d tdR).hc) Try.func41 rfl (by kernel_rfl) (by kernel_rfl) fun xs v ps hs hp w=>?_
 unfold sDecG at hs
 split at hs
 ·rename_i k s
  cases hs
  have ht:tldD k d s:=hp (tldD k d s) mcs
  obtain rfl:k=18:=hp (k=18) (mcm _ mcs)
  clear hp
  have ht2:tdR.tld 18 d s 0 0:=tld_of ht
  obtain⟨m,hm,hk,hok,-,-,-,-,hsz,h16⟩:=ht
  have h16':¬((s.size:Int)>16384):=by omega
  have hcmd:((cmdOf 18).toList == ByteArray.empty.toList)=false:=by kernel_rfl
  have hend:¬ ¬laR.endE s s.size 0=0:=fun h=>h (by show(if(0:Int)≠0 then(0:Int)else if(s.size:Int)<s.size then 5 else 0)=0;rw[if_neg (by simp),if_neg (by omega)])
  have hro:laR.rOk s s.size:=⟨by omega,by omega,by omega⟩
  have he0:rtR.e0 0:=rfl
  refine rx (tvd18_ok d) 999 false 400 [false,false,false] ?_ ?_
  ·simp only[conj,z0,z2,arR,z1]
   (repeat' with_reducible apply And.intro)<;>first|exact hcmd|exact h16'|exact hend|exact hro|exact he0|exact ht2|rfl|exact trivial
  ·subst hm
   rw[show tdR.nd m.D=(namedM m).D from congrArg (fun x=>(namedM x).D) (msOf_D m)]
   obtain⟨a0,a1,a2,a3,a4,⟨a5t,a5s,a5i,a5p⟩,⟨a6t,a6s,a6i,a6p⟩,a7,a8,a9,a10,a11,a12,a13,a14,a15,a16,a17,a18,a19,a20,a21,a22⟩:=m
   simp only at hk
   subst hk
   obtain⟨r0,r1,r2,r3,r4,r5,r6,r7,r8,r9,r10,r11,r12,r13,r14,r15,r16,r17,r18,r19,r20,r21,r22⟩:=hok
   have hl15:a15.length=32:=r15.1
   refine Run.ret ti_ok rfl rfl (VLe.tup3 (ALe.prt ?_) (.lit rfl) (.lit rfl))
   show G.prt [.v MS (.pair (.int 18) (.pair (.int 0) (.pair (.int 0) (.pair (.int 0) (.pair (.int 0) (.pair (.pair (.int 0) (.pair (.int 0) (.pair (.row (List.replicate 16 0)) (.int 0)))) (.pair (.pair (.int 0) (.pair (.int 0) (.pair (.row (List.replicate 16 0)) (.int 0)))) (.pair (.str .empty) (.pair (.int 0) (.pair (.bool false) (.pair (.bool false) (.pair (.sl []) (.pair (.sl []) (.pair (.sl []) (.pair (.row (List.replicate 32 0)) (.pair (.row a15) (.pair (.sl []) (.pair (.str .empty) (.pair (.str .empty) (.pair (.sl []) (.pair (.sl []) (.pair (.sl []) (.sl a22)))))))))))))))))))))))]=_
   rfl
 ·cases hs
noncomputable def tvd15 (d:D) (lf:TDd):Tbl:=tbL [(45,nP (sCmd ⟨lf.em.toQR.toPM.toME5.toME4.toME3.toME2.toME1.toLN9.toLN8.toLN7.toLN6.toLN5.toLN4.toLN1,lf.em.toQR.toPM.toME5.toME4.toME3.toME2.toME1.toLN9.toLN8.cmd⟩))] [(77,hNewR lf.r.toLA),(78,nH (hTk15 lf.toTLd d)),(79,nH (hPrtT lf.r)),(80,nH (hEnd lf.r.toLA))]
theorem tvd15_ok (d:D):TblOk Try.prog (tvd15 d tdR):=tbL_ok (mc ⟨cmd_ok.nP,nofun⟩) (mc ⟨newR_ok,mc ⟨(tk_15 d).nH,mc ⟨prtT_ok.nH,mc ⟨end_ok.nH,nofun⟩⟩⟩⟩)
theorem dec_15 (d:D):CallOk Try.prog 41 (sDecG d 15):=by
 refine .of_run (hc:=(tvd15 d tdR).hc) Try.func41 rfl (by kernel_rfl) (by kernel_rfl) fun xs v ps hs hp w=>?_
 unfold sDecG at hs
 split at hs
 ·rename_i k s
  cases hs
  have ht:tldD k d s:=hp (tldD k d s) mcs
  obtain rfl:k=15:=hp (k=15) (mcm _ mcs)
  clear hp
  have ht2:tdR.tld 15 d s 0 0:=tld_of ht
  obtain⟨m,hm,hk,hok,-,-,-,-,hsz,h16⟩:=ht
  have h16':¬((s.size:Int)>16384):=by omega
  have hcmd:((cmdOf 15).toList == ByteArray.empty.toList)=false:=by kernel_rfl
  have hend:¬ ¬laR.endE s s.size 0=0:=fun h=>h (by show(if(0:Int)≠0 then(0:Int)else if(s.size:Int)<s.size then 5 else 0)=0;rw[if_neg (by simp),if_neg (by omega)])
  have hro:laR.rOk s s.size:=⟨by omega,by omega,by omega⟩
  have he0:rtR.e0 0:=rfl
  refine rx (tvd15_ok d) 999 false 400 [false,false,false] ?_ ?_
  ·simp only[conj,z0,z2,arR,z1]
   (repeat' with_reducible apply And.intro)<;>first|exact hcmd|exact h16'|exact hend|exact hro|exact he0|exact ht2|rfl|exact trivial
  ·subst hm
   rw[show tdR.nd m.D=(namedM m).D from congrArg (fun x=>(namedM x).D) (msOf_D m)]
   obtain⟨a0,a1,a2,a3,a4,⟨a5t,a5s,a5i,a5p⟩,⟨a6t,a6s,a6i,a6p⟩,a7,a8,a9,a10,a11,a12,a13,a14,a15,a16,a17,a18,a19,a20,a21,a22⟩:=m
   simp only at hk
   subst hk
   obtain⟨r0,r1,r2,r3,r4,r5,r6,r7,r8,r9,r10,r11,r12,r13,r14,r15,r16,r17,r18,r19,r20,r21,r22⟩:=hok
   refine Run.ret ti_ok rfl rfl (VLe.tup3 (ALe.prt ?_) (.lit rfl) (.lit rfl))
   show G.prt [.v MS (.pair (.int 15) (.pair (.int 0) (.pair (.int 0) (.pair (.int a3) (.pair (.int 0) (.pair (.pair (.int 0) (.pair (.int 0) (.pair (.row (List.replicate 16 0)) (.int 0)))) (.pair (.pair (.int 0) (.pair (.int 0) (.pair (.row (List.replicate 16 0)) (.int 0)))) (.pair (.str .empty) (.pair (.int 0) (.pair (.bool false) (.pair (.bool a10) (.pair (.sl []) (.pair (.sl []) (.pair (.sl []) (.pair (.row (List.replicate 32 0)) (.pair (.row (List.replicate 32 0)) (.pair (.sl []) (.pair (.str .empty) (.pair (.str .empty) (.pair (.sl []) (.pair (.sl []) (.pair (.sl []) (.sl [])))))))))))))))))))))))]=_
   rfl
 ·cases hs
noncomputable def tvd0 (d:D) (lf:TDd):Tbl:=tbL [(45,nP (sCmd ⟨lf.em.toQR.toPM.toME5.toME4.toME3.toME2.toME1.toLN9.toLN8.toLN7.toLN6.toLN5.toLN4.toLN1,lf.em.toQR.toPM.toME5.toME4.toME3.toME2.toME1.toLN9.toLN8.cmd⟩))] [(77,hNewR lf.r.toLA),(78,nH (hTk0 lf.toTLd)),(79,nH (hPrtT lf.r)),(80,nH (hEnd lf.r.toLA))]
theorem tvd0_ok (d:D):TblOk Try.prog (tvd0 d tdR):=tbL_ok (mc ⟨cmd_ok.nP,nofun⟩) (mc ⟨newR_ok,mc ⟨tk_0.nH,mc ⟨prtT_ok.nH,mc ⟨end_ok.nH,nofun⟩⟩⟩⟩)
theorem dec_2 (d:D):CallOk Try.prog 41 (sDecG d 2):=by
 refine .of_run (hc:=(tvd0 d tdR).hc) Try.func41 rfl (by kernel_rfl) (by kernel_rfl) fun xs v ps hs hp w=>?_
 unfold sDecG at hs
 split at hs
 ·rename_i k s
  cases hs
  have ht:tldD k d s:=hp (tldD k d s) mcs
  obtain rfl:k=2:=hp (k=2) (mcm _ mcs)
  clear hp
  have ht2:tdR.tld 2 d s 0 0:=tld_of ht
  obtain⟨m,hm,hk,hok,-,-,-,-,hsz,h16⟩:=ht
  have h16':¬((s.size:Int)>16384):=by omega
  have hcmd:((cmdOf 2).toList == ByteArray.empty.toList)=false:=by kernel_rfl
  have hz:s.size=0:=by rw[hsz,pay_bare (.inr (.inl (by omega)))];rfl
  have hk0:(2:Int)=2∨(2:Int)=3∨(2:Int)=4:=by decide
  have hend:¬ ¬laR.endE s 0 0=0:=fun h=>h (by show(if(0:Int)≠0 then(0:Int)else if(0:Int)<s.size then 5 else 0)=0;rw[if_neg (by simp),if_neg (by omega)])
  have hro:laR.rOk s 0:=⟨by omega,by omega,by omega⟩
  have he0:rtR.e0 0:=rfl
  refine rx (tvd0_ok d) 999 false 400 [false,false,false] ?_ ?_
  ·simp only[conj,z0,z2,arR,z1]
   (repeat' with_reducible apply And.intro)<;>first|exact hcmd|exact h16'|exact hend|exact hro|exact he0|exact hk0|rfl|exact trivial
  ·subst hm
   rw[show tdR.nd m.D=(namedM m).D from congrArg (fun x=>(namedM x).D) (msOf_D m)]
   obtain⟨a0,a1,a2,a3,a4,⟨a5t,a5s,a5i,a5p⟩,⟨a6t,a6s,a6i,a6p⟩,a7,a8,a9,a10,a11,a12,a13,a14,a15,a16,a17,a18,a19,a20,a21,a22⟩:=m
   simp only at hk
   subst hk
   obtain⟨r0,r1,r2,r3,r4,r5,r6,r7,r8,r9,r10,r11,r12,r13,r14,r15,r16,r17,r18,r19,r20,r21,r22⟩:=hok
   refine Run.ret ti_ok rfl rfl (VLe.tup3 (ALe.prt ?_) (.lit rfl) (.lit rfl))
   show G.prt [.v MS (.pair (.int 2) (.pair (.int 0) (.pair (.int 0) (.pair (.int 0) (.pair (.int 0) (.pair (.pair (.int 0) (.pair (.int 0) (.pair (.row (List.replicate 16 0)) (.int 0)))) (.pair (.pair (.int 0) (.pair (.int 0) (.pair (.row (List.replicate 16 0)) (.int 0)))) (.pair (.str .empty) (.pair (.int 0) (.pair (.bool false) (.pair (.bool false) (.pair (.sl []) (.pair (.sl []) (.pair (.sl []) (.pair (.row (List.replicate 32 0)) (.pair (.row (List.replicate 32 0)) (.pair (.sl []) (.pair (.str .empty) (.pair (.str .empty) (.pair (.sl []) (.pair (.sl []) (.pair (.sl []) (.sl [])))))))))))))))))))))))]=_
   rfl
 ·cases hs
theorem dec_3 (d:D):CallOk Try.prog 41 (sDecG d 3):=by
 refine .of_run (hc:=(tvd0 d tdR).hc) Try.func41 rfl (by kernel_rfl) (by kernel_rfl) fun xs v ps hs hp w=>?_
 unfold sDecG at hs
 split at hs
 ·rename_i k s
  cases hs
  have ht:tldD k d s:=hp (tldD k d s) mcs
  obtain rfl:k=3:=hp (k=3) (mcm _ mcs)
  clear hp
  have ht2:tdR.tld 3 d s 0 0:=tld_of ht
  obtain⟨m,hm,hk,hok,-,-,-,-,hsz,h16⟩:=ht
  have h16':¬((s.size:Int)>16384):=by omega
  have hcmd:((cmdOf 3).toList == ByteArray.empty.toList)=false:=by kernel_rfl
  have hz:s.size=0:=by rw[hsz,pay_bare (.inr (.inl (by omega)))];rfl
  have hk0:(3:Int)=2∨(3:Int)=3∨(3:Int)=4:=by decide
  have hend:¬ ¬laR.endE s 0 0=0:=fun h=>h (by show(if(0:Int)≠0 then(0:Int)else if(0:Int)<s.size then 5 else 0)=0;rw[if_neg (by simp),if_neg (by omega)])
  have hro:laR.rOk s 0:=⟨by omega,by omega,by omega⟩
  have he0:rtR.e0 0:=rfl
  refine rx (tvd0_ok d) 999 false 400 [false,false,false] ?_ ?_
  ·simp only[conj,z0,z2,arR,z1]
   (repeat' with_reducible apply And.intro)<;>first|exact hcmd|exact h16'|exact hend|exact hro|exact he0|exact hk0|rfl|exact trivial
  ·subst hm
   rw[show tdR.nd m.D=(namedM m).D from congrArg (fun x=>(namedM x).D) (msOf_D m)]
   obtain⟨a0,a1,a2,a3,a4,⟨a5t,a5s,a5i,a5p⟩,⟨a6t,a6s,a6i,a6p⟩,a7,a8,a9,a10,a11,a12,a13,a14,a15,a16,a17,a18,a19,a20,a21,a22⟩:=m
   simp only at hk
   subst hk
   obtain⟨r0,r1,r2,r3,r4,r5,r6,r7,r8,r9,r10,r11,r12,r13,r14,r15,r16,r17,r18,r19,r20,r21,r22⟩:=hok
   refine Run.ret ti_ok rfl rfl (VLe.tup3 (ALe.prt ?_) (.lit rfl) (.lit rfl))
   show G.prt [.v MS (.pair (.int 3) (.pair (.int 0) (.pair (.int 0) (.pair (.int 0) (.pair (.int 0) (.pair (.pair (.int 0) (.pair (.int 0) (.pair (.row (List.replicate 16 0)) (.int 0)))) (.pair (.pair (.int 0) (.pair (.int 0) (.pair (.row (List.replicate 16 0)) (.int 0)))) (.pair (.str .empty) (.pair (.int 0) (.pair (.bool false) (.pair (.bool false) (.pair (.sl []) (.pair (.sl []) (.pair (.sl []) (.pair (.row (List.replicate 32 0)) (.pair (.row (List.replicate 32 0)) (.pair (.sl []) (.pair (.str .empty) (.pair (.str .empty) (.pair (.sl []) (.pair (.sl []) (.pair (.sl []) (.sl [])))))))))))))))))))))))]=_
   rfl
 ·cases hs
theorem dec_4 (d:D):CallOk Try.prog 41 (sDecG d 4):=by
 refine .of_run (hc:=(tvd0 d tdR).hc) Try.func41 rfl (by kernel_rfl) (by kernel_rfl) fun xs v ps hs hp w=>?_
 unfold sDecG at hs
 split at hs
 ·rename_i k s
  cases hs
  have ht:tldD k d s:=hp (tldD k d s) mcs
  obtain rfl:k=4:=hp (k=4) (mcm _ mcs)
  clear hp
  have ht2:tdR.tld 4 d s 0 0:=tld_of ht
  obtain⟨m,hm,hk,hok,-,-,-,-,hsz,h16⟩:=ht
  have h16':¬((s.size:Int)>16384):=by omega
  have hcmd:((cmdOf 4).toList == ByteArray.empty.toList)=false:=by kernel_rfl
  have hz:s.size=0:=by rw[hsz,pay_bare (.inr (.inl (by omega)))];rfl
  have hk0:(4:Int)=2∨(4:Int)=3∨(4:Int)=4:=by decide
  have hend:¬ ¬laR.endE s 0 0=0:=fun h=>h (by show(if(0:Int)≠0 then(0:Int)else if(0:Int)<s.size then 5 else 0)=0;rw[if_neg (by simp),if_neg (by omega)])
  have hro:laR.rOk s 0:=⟨by omega,by omega,by omega⟩
  have he0:rtR.e0 0:=rfl
  refine rx (tvd0_ok d) 999 false 400 [false,false,false] ?_ ?_
  ·simp only[conj,z0,z2,arR,z1]
   (repeat' with_reducible apply And.intro)<;>first|exact hcmd|exact h16'|exact hend|exact hro|exact he0|exact hk0|rfl|exact trivial
  ·subst hm
   rw[show tdR.nd m.D=(namedM m).D from congrArg (fun x=>(namedM x).D) (msOf_D m)]
   obtain⟨a0,a1,a2,a3,a4,⟨a5t,a5s,a5i,a5p⟩,⟨a6t,a6s,a6i,a6p⟩,a7,a8,a9,a10,a11,a12,a13,a14,a15,a16,a17,a18,a19,a20,a21,a22⟩:=m
   simp only at hk
   subst hk
   obtain⟨r0,r1,r2,r3,r4,r5,r6,r7,r8,r9,r10,r11,r12,r13,r14,r15,r16,r17,r18,r19,r20,r21,r22⟩:=hok
   refine Run.ret ti_ok rfl rfl (VLe.tup3 (ALe.prt ?_) (.lit rfl) (.lit rfl))
   show G.prt [.v MS (.pair (.int 4) (.pair (.int 0) (.pair (.int 0) (.pair (.int 0) (.pair (.int 0) (.pair (.pair (.int 0) (.pair (.int 0) (.pair (.row (List.replicate 16 0)) (.int 0)))) (.pair (.pair (.int 0) (.pair (.int 0) (.pair (.row (List.replicate 16 0)) (.int 0)))) (.pair (.str .empty) (.pair (.int 0) (.pair (.bool false) (.pair (.bool false) (.pair (.sl []) (.pair (.sl []) (.pair (.sl []) (.pair (.row (List.replicate 32 0)) (.pair (.row (List.replicate 32 0)) (.pair (.sl []) (.pair (.str .empty) (.pair (.str .empty) (.pair (.sl []) (.pair (.sl []) (.pair (.sl []) (.sl [])))))))))))))))))))))))]=_
   rfl
 ·cases hs
noncomputable def sDecT (d:D) (lf:TDd):ESpec:=fun l=>match l with
 | [.one (.int .i64 k),.one (.str s)]=>some (.tup [.agg (.prt [.v MS (lf.nd d)]),.one (.int .i64 0),.one (.int .i64 0)],[lf.tldD k d s,lf.cmdNo k])
 |_=>none
theorem decT_ok (d:D):CallOk Try.prog 41 (sDecT d tdR):=by
 refine CallOk.split fun l v ps hs hp=>?_
 unfold sDecT at hs
 split at hs
 ·rename_i k s
  cases hs
  have h1:tldD k d s:=hp (tdR.tldD k d s) mcs
  have h2:1≤k∧k≤18:=hp (tdR.cmdNo k) (mcm _ mcs)
  have go:∀K,CallOk Try.prog 41 (sDecG d K)→k=K→∃s' ps',CallOk Try.prog 41 s'∧s' [.one (.int .i64 k),.one (.str s)]=some (.tup [.agg (.prt [.v MS (tdR.nd d)]),.one (.int .i64 0),.one (.int .i64 0)],ps')∧∀p∈ps',p:=fun K h hk=>
   ⟨sDecG d K,[tldD k d s,k=K],h,rfl,by
    intro p hp
    simp only[List.mem_cons,List.mem_nil_iff,or_false]at hp
    rcases hp with rfl|rfl
    ·exact h1
    ·exact hk⟩
  have hkk:k=1∨k=2∨k=3∨k=4∨k=5∨k=6∨k=7∨k=8∨k=9∨k=10∨k=11∨k=12∨k=13∨k=14∨k=15∨k=16∨k=17∨k=18:=by omega
  rcases hkk with h|h|h|h|h|h|h|h|h|h|h|h|h|h|h|h|h|h
  ·exact go 1 (dec_1 d) h
  ·exact go 2 (dec_2 d) h
  ·exact go 3 (dec_3 d) h
  ·exact go 4 (dec_4 d) h
  ·exact go 5 (dec_5 d) h
  ·exact go 6 (dec_6 d) h
  ·exact go 7 (dec_7 d) h
  ·exact go 8 (dec_8 d) h
  ·exact go 9 (dec_9 d) h
  ·exact go 10 (dec_10 d) h
  ·exact go 11 (dec_11 d) h
  ·exact go 12 (dec_12 d) h
  ·exact go 13 (dec_13 d) h
  ·exact go 14 (dec_14 d) h
  ·exact go 15 (dec_15 d) h
  ·exact go 16 (dec_16 d) h
  ·exact go 17 (dec_17 d) h
  ·exact go 18 (dec_18 d) h
 ·cases hs
end Go.Proofs.Ytlbllaocdilafaa
namespace Go.Eng
open Go
theorem eqD_symm:∀(s:Sh) (a b:D),eqD s a b=eqD s b a:=by
 intro s
 induction s with
 |int k=>intro a b;show decide (a.int! = b.int!)=decide (b.int! = a.int!);rw[decide_eq_decide];exact⟨Eq.symm,Eq.symm⟩
 |bool=>intro a b;show(a.bool! == b.bool!)=(b.bool! == a.bool!);cases a.bool!<;>cases b.bool!<;>rfl
 |str=>intro a b;show(a.str!.toList == b.str!.toList)=(b.str!.toList == a.str!.toList);rw[Bool.eq_iff_iff,beq_iff_eq,beq_iff_eq];exact⟨Eq.symm,Eq.symm⟩
 |arr k m=>intro a b;show((List.range m).map (arR.dRow a) == (List.range m).map (arR.dRow b))=((List.range m).map (arR.dRow b) == (List.range m).map (arR.dRow a));rw[Bool.eq_iff_iff,beq_iff_eq,beq_iff_eq];exact⟨Eq.symm,Eq.symm⟩
 |two a b iha ihb=>intro x y;show(eqD a x.fst! y.fst! && eqD b x.snd! y.snd!)=(eqD a y.fst! x.fst! && eqD b y.snd! x.snd!);rw[iha,ihb]
 |sl s ih=>
  intro x y
  show((x.sl!.length == y.sl!.length)&&(List.range x.sl!.length).all fun i=>eqD s (x.sl!.getD i (.int 0)) (y.sl!.getD i (.int 0)))=((y.sl!.length == x.sl!.length)&&(List.range y.sl!.length).all fun i=>eqD s (y.sl!.getD i (.int 0)) (x.sl!.getD i (.int 0)))
  by_cases h:x.sl!.length=y.sl!.length
  ·rw[h]
   congr 1
   congr 1
   funext i
   exact ih _ _
  ·have h1:(x.sl!.length == y.sl!.length)=false:=by rw[beq_eq_false_iff_ne];exact h
   have h2:(y.sl!.length == x.sl!.length)=false:=by rw[beq_eq_false_iff_ne];exact fun e=>h e.symm
   rw[h1,h2]
   rfl
def rawC (d:D):Prop:=∀s,(cellsD arR MS d)[116]? = some (.str s)→s.size≤140737488351232
theorem mall_of {d:D}(h:okD MS d) (hl:lenC d) (hr:rawC d):mAll d:=by
 obtain⟨m,rfl,hok,f11,n11,f12,n12,f13,n13,f16,n16,f19,n19,f20,n20,f21,n21,f22,n22⟩:=fit_of h hl
 refine⟨m,rfl,h,⟨hok,⟨f11,n11⟩,⟨f12,n12⟩,⟨f13,n13⟩,⟨f16,n16⟩,⟨f19,n19⟩,⟨f20,n20⟩,⟨f21,n21⟩,⟨f22,n22⟩⟩,⟨by omega,by omega,by omega,by omega,by omega,by omega,by omega,by omega⟩,?_⟩
 obtain⟨a0,a1,a2,a3,a4,⟨a5t,a5s,a5i,a5p⟩,⟨a6t,a6s,a6i,a6p⟩,a7,a8,a9,a10,a11,a12,a13,a14,a15,a16,a17,a18,a19,a20,a21,a22⟩:=m
 exact hr a18 rfl
theorem tld_enc {m:Ms}(hok:okD MS m.D) (hl:m.addrs.length≤140737488351232∧m.items.length≤140737488351232∧m.hashes.length≤140737488351232∧m.heads.length≤140737488351232∧m.shorts.length≤140737488351232∧m.filled.length≤140737488351232∧m.places.length≤140737488351232∧m.raws.length≤140737488351232) (h2:¬manyP (namedM m)) (h3:¬wrongP m) (h4:¬(payM m).size>16384):tldD m.kind m.D (payM m):=
 ⟨m,rfl,rfl,hok,hl,h2,h3,⟨⟨by omega,by omega,by omega,by omega⟩,cut_all _ _ rfl⟩,rfl,by omega⟩
theorem enc_zero {m:Ms}(h:encE m=0):encS m=payM m∧(1≤m.kind∧m.kind≤18)∧¬manyP (namedM m)∧¬wrongP m∧¬(payM m).size>16384:=by
 by_cases h1:((cmdOf m.kind).toList == ByteArray.empty.toList)=true
 ·rw[(enc_1 h1).2]at h;exact absurd h (by decide)
 by_cases h2:manyP (namedM m)
 ·rw[(enc_2 h1 h2).2]at h;exact absurd h (by decide)
 by_cases h3:wrongP m
 ·rw[(enc_3 h1 h2 h3).2]at h;exact absurd h (by decide)
 by_cases h4:(payM m).size>16384
 ·rw[(enc_4 h1 h2 h3 h4).2]at h;exact absurd h (by decide)
 exact⟨(enc_5 h1 h2 h3 h4).1,cmd_rng h1,h2,h3,h4⟩
end Go.Eng
namespace Go.Proofs.Ytlbllaocdilafaa
open Go Go.Eng Go.Proofs Go.RowKit
attribute[local irreducible] CallOk HOk Run TIok rbin rcmp run1 updF shfF blitF
noncomputable def tvx (d:D) (lf:TDd):Tbl:=tbL [(33,sAwake lf.em.toQR.toPM.toME5.toME4.toME3.toME2.toME1.toLN9.toLN8),(37,sEnc lf.em),(38,sEnc lf.em),(36,sRef lf.em.toQR.toPM.toME5.toME4.toME3.toME2.toME1.toLN9.mf),(39,sCost lf.em.toQR.toPM.toME5.toME4.toME3.toME2.toME1),(40,sCost lf.em.toQR.toPM.toME5.toME4.toME3.toME2.toME1),(34,sSame lf.em.toQR.toPM.toME5.toME4.toME3.toME2.toME1.toLN9.toLN8.toLN7.toLN6.toLN5.toLN4.toLN1.toLQm),(35,sSame lf.em.toQR.toPM.toME5.toME4.toME3.toME2.toME1.toLN9.toLN8.toLN7.toLN6.toLN5.toLN4.toLN1.toLQm),(41,nP (sDecT d lf))] []
theorem tvx_ok (d:D):TblOk Try.prog (tvx d tdR):=tbL_ok (mc ⟨awake_ok,mc ⟨enc_ok,mc ⟨renc_ok,mc ⟨ref_ok,mc ⟨cost_ok,mc ⟨rcost_ok,mc ⟨same_ok,mc ⟨rsame_ok,mc ⟨(decT_ok d).nP,nofun⟩⟩⟩⟩⟩⟩⟩⟩⟩) nofun
noncomputable def sLEncG (d0:D):ESpec:=fun l=>match l with
 | [.agg (.prt [.v s1 d])]=>if shEq s1 MS then some (.a (.one (.bool true)),[mAll d,d=d0])else none
 |_=>none
theorem lenc_g (d0:D):CallOk Try.prog 8 (sLEncG d0):=by
 refine .of_run (hc:=(tvx d0 tdR).hc) Try.func8 rfl (by kernel_rfl) (by kernel_rfl) fun xs v ps hs hp w=>?_
 unfold sLEncG at hs
 split at hs
 ·rename_i s1 d
  split at hs
  ·rename_i hsh
   obtain rfl:=shEq_eq hsh
   clear hsh
   cases hs
   have hall:mAll d:=hp (mAll d) mcs
   obtain rfl:d0=d:=(hp (d=d0) (mcm _ mcs)).symm
   clear hp
   obtain⟨m,hd,hok,hfm,hlen,hraw⟩:=hall
   have hall:mAll d0:=⟨m,hd,hok,hfm,hlen,hraw⟩
   have hmf:mFit d0:=by rw[hd];exact hfm.mFit
   have hmo:mOk d0:=hmf.mOk
   have hnd:tdR.nd d0=(namedM m).D:=by rw[hd];exact congrArg (fun x=>(namedM x).D) (msOf_D m)
   have hmf2:mFit (tdR.nd d0):=by rw[hnd];exact hfm.named.mFit
   have hmo2:mOk (tdR.nd d0):=hmf2.mOk
   have e1:emR.encS d0=encS m:=by rw[hd];exact congrArg encS (msOf_D m)
   have e2:emR.encE d0=encE m:=by rw[hd];exact congrArg encE (msOf_D m)
   have hrefl:eqD MS d0 d0=true:=eqD_refl MS d0
   have hss:(!((emR.encS d0).toList == (emR.encS d0).toList))=false:=by rw[beq_self_eq_true];rfl
   have hrf:(!eqD MS d0 d0)=false:=by rw[hrefl];rfl
   by_cases hz:encE m=0
   ·obtain⟨x1,x2,x3,x4,x5⟩:=enc_zero hz
    have hrng:1≤m.kind∧m.kind≤18:=x2
    have ht:tldD m.kind d0 (emR.encS d0):=by rw[e1,x1,hd];exact tld_enc hok hlen x3 x4 x5
    have hez:¬ ¬emR.encE d0=0:=fun h=>h (by rw[e2];exact hz)
    have hq:eqD MS d0 (tdR.nd d0)=true:=by
     rw[hnd,hd]
     cases he:eqD MS m.D (namedM m).D with
     |true=>rfl
     |false=>exact absurd (Or.inr (Or.inr (Or.inr (Or.inr (Or.inr he))))) x4
    have hq2:eqD MS (tdR.nd d0) d0=true:=by rw[eqD_symm];exact hq
    have hkd:(D.fst! d0).int! = m.kind:=by rw[hd];rfl
    refine rx (tvx_ok d0) 999 false 400 [false,false,false,false,false,false,true,true,true] ?_ ?_
    ·simp only[conj,z0,z2,arR,z1,zd]
     rw[hkd]
     (repeat' with_reducible apply And.intro)<;>first
       |exact hall
       |exact hmf
       |exact hmf2
       |exact hmo
       |exact hmo2
       |exact hez
       |exact ht
       |exact hrng
       |exact hq2
       |exact hrf
       |exact hss
       |rfl
       |exact trivial
    ·refine Run.ret ti_ok rfl rfl (.a (.bool ?_))
     exact hq2
   ·have hnz:¬emR.encE d0=0:=by rw[e2];exact hz
    refine rx (tvx_ok d0) 999 false 400 [false,false,false,false,false,true] ?_ ?_
    ·simp only[conj,z0,z2,arR,z1,zd]
     (repeat' with_reducible apply And.intro)<;>first
       |exact hall
       |exact hmf
       |exact hmf2
       |exact hmo
       |exact hmo2
       |exact hnz
       |exact hrf
       |exact hss
       |rfl
       |exact trivial
    ·exact Run.ret ti_ok rfl rfl (.a (.lbool rfl))
  ·cases hs
 ·cases hs
noncomputable def sLEnc (lf:TDd):ESpec:=fun l=>match l with
 | [.agg (.prt [.v s1 d])]=>if shEq s1 MS then some (.a (.one (.bool true)),[mAll d])else none
 |_=>none
theorem lenc_ok:CallOk Try.prog 8 (sLEnc tdR):=by
 refine CallOk.split fun l v ps hs hp=>?_
 unfold sLEnc at hs
 split at hs
 ·rename_i s1 d
  split at hs
  ·rename_i hsh
   cases hs
   have h1:mAll d:=hp (mAll d) mcs
   exact⟨sLEncG d,[mAll d,d=d],lenc_g d,by simp only[sLEncG];rw[if_pos hsh],by
    intro p hp
    simp only[List.mem_cons,List.mem_nil_iff,or_false]at hp
    rcases hp with rfl|rfl
    ·exact h1
    ·trivial⟩
  ·cases hs
 ·cases hs
end Go.Proofs.Ytlbllaocdilafaa
namespace Go.Eng
open Go Go.RowKit
theorem struct_str {H:Type}{enc:TypeId×Value→H}{P:Program}{w:World}{sp:Nat→Bool}{held:Bool}{v:Value}{d:DataW H}{p:List MemPlace}{t:TypeId}{fs:Array Field}{i:Nat}{f:Field}{ρ:Ren}{cs:List C}{s:ByteArray}{B:Nat}
 (ht:P.underlying t=some (.struct fs)) (hfi:fs[i]? = some f) (hfe:P.underlying f.type=some .string) (hc:P.cellsOf f.type=1)
 (h:DataW.Trod enc P w 0 sp held t v d p) (hv:ARel ρ (.agg (.lst cs)) v) (hcs:cs[f.offset]? = some (.str s))
 (hw:∀n∈d.weights P t,n≤B):s.size≤B:=by
 obtain⟨fuel,hf⟩:=h
 obtain⟨arr,rfl,g2,g3⟩:=hv
 obtain⟨u,a1,a2⟩:=g3 f.offset _ hcs
 obtain⟨xs,n,-,hx,-,hlen,hfl⟩:=DataW.trod_struct ht hf
 have hd:d=.agg (xs.map (·.1)):=congrArg Prod.fst hx
 have hi:i<fs.size:=(Array.getElem?_eq_some_iff.1 hfi).1
 have hxi:=hfl i f hfi
 have hy:xs[i]? = some xs[i]:=geg (by omega)
 rw[hy]at hxi
 have hcell:((Value.agg arr).cells.toList.drop f.offset).take (P.cellsOf f.type)=[u]:=by
  rw[hc]
  have a3:arr.toList[f.offset]? = some u:=by simpa using a1
  show(arr.toList.drop f.offset).take 1=[u]
  have hlt:f.offset<arr.toList.length:=(ges a3).1
  rw[List.drop_eq_getElem_cons hlt]
  have:=(ges a3).2
  simp[←this]
 rw[hcell]at hxi
 obtain⟨sb,q1,q2,-⟩:=DataW.trod_string hfe hxi
 simp only[List.cons.injEq,and_true]at q1
 have a2:u=.string s:=a2
 rw[q1]at a2
 cases a2
 have hm:=hw s.data.toList.length (by
  rw[hd]
  simp only[DataW.weights,ht]
  refine DataW.weights_mem_each (j:=i) (t:=f.type) (d:=xs[i].1) (by simp[hfi]) (by simp[hy]) _ ?_
  rw[q2]
  simp[DataW.weights])
 rw[Array.length_toList]at hm
 exact hm
end Go.Eng
