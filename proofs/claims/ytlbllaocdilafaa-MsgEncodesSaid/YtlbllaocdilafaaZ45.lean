import Derived.Test.YtlbllaocdilafaaZ44
set_option linter.unusedSimpArgs false
set_option linter.unusedVariables false
set_option maxRecDepth 100000
set_option maxHeartbeats 16000000
namespace Go.Proofs.Ytlbllaocdilafaa
open Go Go.Eng Go.Proofs Go.RowKit
attribute[local irreducible] CallOk HOk Run TIok rbin rcmp run1 updF shfF blitF
noncomputable def tvd5 (d:D) (lf:TDd):Tbl:=tbL [(45,nP (sCmd ⟨lf.em.toQR.toPM.toME5.toME4.toME3.toME2.toME1.toLN9.toLN8.toLN7.toLN6.toLN5.toLN4.toLN1,lf.em.toQR.toPM.toME5.toME4.toME3.toME2.toME1.toLN9.toLN8.cmd⟩))] [(77,hNewR lf.r.toLA),(78,nH (hTk5 lf.toTLd d)),(79,nH (hPrtT lf.r)),(80,nH (hEnd lf.r.toLA))]
theorem tvd5_ok (d:D):TblOk Try.prog (tvd5 d tdR):=tbL_ok (mc ⟨cmd_ok.nP,nofun⟩) (mc ⟨newR_ok,mc ⟨(tk_5 d).nH,mc ⟨prtT_ok.nH,mc ⟨end_ok.nH,nofun⟩⟩⟩⟩)
theorem dec_5 (d:D):CallOk Try.prog 41 (sDecG d 5):=by
 refine .of_run (hc:=(tvd5 d tdR).hc) Try.func41 rfl (by kernel_rfl) (by kernel_rfl) fun xs v ps hs hp w=>?_
 unfold sDecG at hs
 split at hs
 ·rename_i k s
  cases hs
  have ht:tldD k d s:=hp (tldD k d s) mcs
  obtain rfl:k=5:=hp (k=5) (mcm _ mcs)
  clear hp
  have ht2:tdR.tld 5 d s 0 0:=tld_of ht
  obtain⟨m,hm,hk,hok,-,-,-,-,hsz,h16⟩:=ht
  have h16':¬((s.size:Int)>16384):=by omega
  have hcmd:((cmdOf 5).toList == ByteArray.empty.toList)=false:=by kernel_rfl
  have hend:¬ ¬laR.endE s s.size 0=0:=fun h=>h (by show(if(0:Int)≠0 then(0:Int)else if(s.size:Int)<s.size then 5 else 0)=0;rw[if_neg (by simp),if_neg (by omega)])
  have hro:laR.rOk s s.size:=⟨by omega,by omega,by omega⟩
  have he0:rtR.e0 0:=rfl
  refine rx (tvd5_ok d) 999 false 400 [false,false,false] ?_ ?_
  ·simp only[conj,z0,z2,arR,z1]
   (repeat' with_reducible apply And.intro)<;>first|exact hcmd|exact h16'|exact hend|exact hro|exact he0|exact ht2|rfl|exact trivial
  ·subst hm
   rw[show tdR.nd m.D=(namedM m).D from congrArg (fun x=>(namedM x).D) (msOf_D m)]
   obtain⟨a0,a1,a2,a3,a4,⟨a5t,a5s,a5i,a5p⟩,⟨a6t,a6s,a6i,a6p⟩,a7,a8,a9,a10,a11,a12,a13,a14,a15,a16,a17,a18,a19,a20,a21,a22⟩:=m
   simp only at hk
   subst hk
   obtain⟨r0,r1,r2,r3,r4,r5,r6,r7,r8,r9,r10,r11,r12,r13,r14,r15,r16,r17,r18,r19,r20,r21,r22⟩:=hok
   refine Run.ret ti_ok rfl rfl (VLe.tup3 (ALe.prt ?_) (.lit rfl) (.lit rfl))
   show G.prt [.v MS (.pair (.int 5) (.pair (.int 0) (.pair (.int 0) (.pair (.int a3) (.pair (.int 0) (.pair (.pair (.int 0) (.pair (.int 0) (.pair (.row (List.replicate 16 0)) (.int 0)))) (.pair (.pair (.int 0) (.pair (.int 0) (.pair (.row (List.replicate 16 0)) (.int 0)))) (.pair (.str .empty) (.pair (.int 0) (.pair (.bool false) (.pair (.bool false) (.pair (.sl []) (.pair (.sl []) (.pair (.sl []) (.pair (.row (List.replicate 32 0)) (.pair (.row (List.replicate 32 0)) (.pair (.sl []) (.pair (.str .empty) (.pair (.str .empty) (.pair (.sl []) (.pair (.sl []) (.pair (.sl []) (.sl [])))))))))))))))))))))))]=_
   rfl
 ·cases hs
noncomputable def tvd6 (d:D) (lf:TDd):Tbl:=tbL [(45,nP (sCmd ⟨lf.em.toQR.toPM.toME5.toME4.toME3.toME2.toME1.toLN9.toLN8.toLN7.toLN6.toLN5.toLN4.toLN1,lf.em.toQR.toPM.toME5.toME4.toME3.toME2.toME1.toLN9.toLN8.cmd⟩))] [(77,hNewR lf.r.toLA),(78,nH (hTk6 lf.toTLd d)),(79,nH (hPrtT lf.r)),(80,nH (hEnd lf.r.toLA))]
theorem tvd6_ok (d:D):TblOk Try.prog (tvd6 d tdR):=tbL_ok (mc ⟨cmd_ok.nP,nofun⟩) (mc ⟨newR_ok,mc ⟨(tk_6 d).nH,mc ⟨prtT_ok.nH,mc ⟨end_ok.nH,nofun⟩⟩⟩⟩)
theorem dec_6 (d:D):CallOk Try.prog 41 (sDecG d 6):=by
 refine .of_run (hc:=(tvd6 d tdR).hc) Try.func41 rfl (by kernel_rfl) (by kernel_rfl) fun xs v ps hs hp w=>?_
 unfold sDecG at hs
 split at hs
 ·rename_i k s
  cases hs
  have ht:tldD k d s:=hp (tldD k d s) mcs
  obtain rfl:k=6:=hp (k=6) (mcm _ mcs)
  clear hp
  have ht2:tdR.tld 6 d s 0 0:=tld_of ht
  obtain⟨m,hm,hk,hok,-,-,-,-,hsz,h16⟩:=ht
  have h16':¬((s.size:Int)>16384):=by omega
  have hcmd:((cmdOf 6).toList == ByteArray.empty.toList)=false:=by kernel_rfl
  have hend:¬ ¬laR.endE s s.size 0=0:=fun h=>h (by show(if(0:Int)≠0 then(0:Int)else if(s.size:Int)<s.size then 5 else 0)=0;rw[if_neg (by simp),if_neg (by omega)])
  have hro:laR.rOk s s.size:=⟨by omega,by omega,by omega⟩
  have he0:rtR.e0 0:=rfl
  refine rx (tvd6_ok d) 999 false 400 [false,false,false] ?_ ?_
  ·simp only[conj,z0,z2,arR,z1]
   (repeat' with_reducible apply And.intro)<;>first|exact hcmd|exact h16'|exact hend|exact hro|exact he0|exact ht2|rfl|exact trivial
  ·subst hm
   rw[show tdR.nd m.D=(namedM m).D from congrArg (fun x=>(namedM x).D) (msOf_D m)]
   obtain⟨a0,a1,a2,a3,a4,⟨a5t,a5s,a5i,a5p⟩,⟨a6t,a6s,a6i,a6p⟩,a7,a8,a9,a10,a11,a12,a13,a14,a15,a16,a17,a18,a19,a20,a21,a22⟩:=m
   simp only at hk
   subst hk
   obtain⟨r0,r1,r2,r3,r4,r5,r6,r7,r8,r9,r10,r11,r12,r13,r14,r15,r16,r17,r18,r19,r20,r21,r22⟩:=hok
   refine Run.ret ti_ok rfl rfl (VLe.tup3 (ALe.prt ?_) (.lit rfl) (.lit rfl))
   show G.prt [.v MS (.pair (.int 6) (.pair (.int 0) (.pair (.int 0) (.pair (.int a3) (.pair (.int 0) (.pair (.pair (.int 0) (.pair (.int 0) (.pair (.row (List.replicate 16 0)) (.int 0)))) (.pair (.pair (.int 0) (.pair (.int 0) (.pair (.row (List.replicate 16 0)) (.int 0)))) (.pair (.str .empty) (.pair (.int 0) (.pair (.bool false) (.pair (.bool false) (.pair (.sl []) (.pair (.sl []) (.pair (.sl []) (.pair (.row (List.replicate 32 0)) (.pair (.row (List.replicate 32 0)) (.pair (.sl []) (.pair (.str .empty) (.pair (.str .empty) (.pair (.sl []) (.pair (.sl []) (.pair (.sl []) (.sl [])))))))))))))))))))))))]=_
   rfl
 ·cases hs
noncomputable def tvd13 (d:D) (lf:TDd):Tbl:=tbL [(45,nP (sCmd ⟨lf.em.toQR.toPM.toME5.toME4.toME3.toME2.toME1.toLN9.toLN8.toLN7.toLN6.toLN5.toLN4.toLN1,lf.em.toQR.toPM.toME5.toME4.toME3.toME2.toME1.toLN9.toLN8.cmd⟩))] [(77,hNewR lf.r.toLA),(78,nH (hTk13 lf.toTLd d)),(79,nH (hPrtT lf.r)),(80,nH (hEnd lf.r.toLA))]
theorem tvd13_ok (d:D):TblOk Try.prog (tvd13 d tdR):=tbL_ok (mc ⟨cmd_ok.nP,nofun⟩) (mc ⟨newR_ok,mc ⟨(tk_13 d).nH,mc ⟨prtT_ok.nH,mc ⟨end_ok.nH,nofun⟩⟩⟩⟩)
theorem dec_13 (d:D):CallOk Try.prog 41 (sDecG d 13):=by
 refine .of_run (hc:=(tvd13 d tdR).hc) Try.func41 rfl (by kernel_rfl) (by kernel_rfl) fun xs v ps hs hp w=>?_
 unfold sDecG at hs
 split at hs
 ·rename_i k s
  cases hs
  have ht:tldD k d s:=hp (tldD k d s) mcs
  obtain rfl:k=13:=hp (k=13) (mcm _ mcs)
  clear hp
  have ht2:tdR.tld 13 d s 0 0:=tld_of ht
  obtain⟨m,hm,hk,hok,-,-,-,-,hsz,h16⟩:=ht
  have h16':¬((s.size:Int)>16384):=by omega
  have hcmd:((cmdOf 13).toList == ByteArray.empty.toList)=false:=by kernel_rfl
  have hend:¬ ¬laR.endE s s.size 0=0:=fun h=>h (by show(if(0:Int)≠0 then(0:Int)else if(s.size:Int)<s.size then 5 else 0)=0;rw[if_neg (by simp),if_neg (by omega)])
  have hro:laR.rOk s s.size:=⟨by omega,by omega,by omega⟩
  have he0:rtR.e0 0:=rfl
  refine rx (tvd13_ok d) 999 false 400 [false,false,false] ?_ ?_
  ·simp only[conj,z0,z2,arR,z1]
   (repeat' with_reducible apply And.intro)<;>first|exact hcmd|exact h16'|exact hend|exact hro|exact he0|exact ht2|rfl|exact trivial
  ·subst hm
   rw[show tdR.nd m.D=(namedM m).D from congrArg (fun x=>(namedM x).D) (msOf_D m)]
   obtain⟨a0,a1,a2,a3,a4,⟨a5t,a5s,a5i,a5p⟩,⟨a6t,a6s,a6i,a6p⟩,a7,a8,a9,a10,a11,a12,a13,a14,a15,a16,a17,a18,a19,a20,a21,a22⟩:=m
   simp only at hk
   subst hk
   obtain⟨r0,r1,r2,r3,r4,r5,r6,r7,r8,r9,r10,r11,r12,r13,r14,r15,r16,r17,r18,r19,r20,r21,r22⟩:=hok
   refine Run.ret ti_ok rfl rfl (VLe.tup3 (ALe.prt ?_) (.lit rfl) (.lit rfl))
   show G.prt [.v MS (.pair (.int 13) (.pair (.int 0) (.pair (.int 0) (.pair (.int 0) (.pair (.int 0) (.pair (.pair (.int 0) (.pair (.int 0) (.pair (.row (List.replicate 16 0)) (.int 0)))) (.pair (.pair (.int 0) (.pair (.int 0) (.pair (.row (List.replicate 16 0)) (.int 0)))) (.pair (.str .empty) (.pair (.int 0) (.pair (.bool false) (.pair (.bool false) (.pair (.sl []) (.pair (.sl []) (.pair (.sl []) (.pair (.row (List.replicate 32 0)) (.pair (.row (List.replicate 32 0)) (.pair (.sl []) (.pair (.str .empty) (.pair (.str a18) (.pair (.sl []) (.pair (.sl []) (.pair (.sl []) (.sl [])))))))))))))))))))))))]=_
   rfl
 ·cases hs
noncomputable def tvd14 (d:D) (lf:TDd):Tbl:=tbL [(45,nP (sCmd ⟨lf.em.toQR.toPM.toME5.toME4.toME3.toME2.toME1.toLN9.toLN8.toLN7.toLN6.toLN5.toLN4.toLN1,lf.em.toQR.toPM.toME5.toME4.toME3.toME2.toME1.toLN9.toLN8.cmd⟩))] [(77,hNewR lf.r.toLA),(78,nH (hTk14 lf.toTLd d)),(79,nH (hPrtT lf.r)),(80,nH (hEnd lf.r.toLA))]
theorem tvd14_ok (d:D):TblOk Try.prog (tvd14 d tdR):=tbL_ok (mc ⟨cmd_ok.nP,nofun⟩) (mc ⟨newR_ok,mc ⟨(tk_14 d).nH,mc ⟨prtT_ok.nH,mc ⟨end_ok.nH,nofun⟩⟩⟩⟩)
theorem dec_14 (d:D):CallOk Try.prog 41 (sDecG d 14):=by
 refine .of_run (hc:=(tvd14 d tdR).hc) Try.func41 rfl (by kernel_rfl) (by kernel_rfl) fun xs v ps hs hp w=>?_
 unfold sDecG at hs
 split at hs
 ·rename_i k s
  cases hs
  have ht:tldD k d s:=hp (tldD k d s) mcs
  obtain rfl:k=14:=hp (k=14) (mcm _ mcs)
  clear hp
  have ht2:tdR.tld 14 d s 0 0:=tld_of ht
  obtain⟨m,hm,hk,hok,-,-,-,-,hsz,h16⟩:=ht
  have h16':¬((s.size:Int)>16384):=by omega
  have hcmd:((cmdOf 14).toList == ByteArray.empty.toList)=false:=by kernel_rfl
  have hend:¬ ¬laR.endE s s.size 0=0:=fun h=>h (by show(if(0:Int)≠0 then(0:Int)else if(s.size:Int)<s.size then 5 else 0)=0;rw[if_neg (by simp),if_neg (by omega)])
  have hro:laR.rOk s s.size:=⟨by omega,by omega,by omega⟩
  have he0:rtR.e0 0:=rfl
  refine rx (tvd14_ok d) 999 false 400 [false,false,false] ?_ ?_
  ·simp only[conj,z0,z2,arR,z1]
   (repeat' with_reducible apply And.intro)<;>first|exact hcmd|exact h16'|exact hend|exact hro|exact he0|exact ht2|rfl|exact trivial
  ·subst hm
   rw[show tdR.nd m.D=(namedM m).D from congrArg (fun x=>(namedM x).D) (msOf_D m)]
   obtain⟨a0,a1,a2,a3,a4,⟨a5t,a5s,a5i,a5p⟩,⟨a6t,a6s,a6i,a6p⟩,a7,a8,a9,a10,a11,a12,a13,a14,a15,a16,a17,a18,a19,a20,a21,a22⟩:=m
   simp only at hk
   subst hk
   obtain⟨r0,r1,r2,r3,r4,r5,r6,r7,r8,r9,r10,r11,r12,r13,r14,r15,r16,r17,r18,r19,r20,r21,r22⟩:=hok
   refine Run.ret ti_ok rfl rfl (VLe.tup3 (ALe.prt ?_) (.lit rfl) (.lit rfl))
   show G.prt [.v MS (.pair (.int 14) (.pair (.int 0) (.pair (.int 0) (.pair (.int 0) (.pair (.int 0) (.pair (.pair (.int 0) (.pair (.int 0) (.pair (.row (List.replicate 16 0)) (.int 0)))) (.pair (.pair (.int 0) (.pair (.int 0) (.pair (.row (List.replicate 16 0)) (.int 0)))) (.pair (.str .empty) (.pair (.int 0) (.pair (.bool false) (.pair (.bool false) (.pair (.sl []) (.pair (.sl []) (.pair (.sl []) (.pair (.row (List.replicate 32 0)) (.pair (.row (List.replicate 32 0)) (.pair (.sl []) (.pair (.str .empty) (.pair (.str a18) (.pair (.sl []) (.pair (.sl []) (.pair (.sl []) (.sl [])))))))))))))))))))))))]=_
   rfl
 ·cases hs
noncomputable def tvd7 (d:D) (lf:TDd):Tbl:=tbL [(45,nP (sCmd ⟨lf.em.toQR.toPM.toME5.toME4.toME3.toME2.toME1.toLN9.toLN8.toLN7.toLN6.toLN5.toLN4.toLN1,lf.em.toQR.toPM.toME5.toME4.toME3.toME2.toME1.toLN9.toLN8.cmd⟩))] [(77,hNewR lf.r.toLA),(78,nH (hTk7 lf.toTLd d)),(79,nH (hPrtT lf.r)),(80,nH (hEnd lf.r.toLA))]
theorem tvd7_ok (d:D):TblOk Try.prog (tvd7 d tdR):=tbL_ok (mc ⟨cmd_ok.nP,nofun⟩) (mc ⟨newR_ok,mc ⟨(tk_7 d).nH,mc ⟨prtT_ok.nH,mc ⟨end_ok.nH,nofun⟩⟩⟩⟩)
theorem dec_7 (d:D):CallOk Try.prog 41 (sDecG d 7):=by
 refine .of_run (hc:=(tvd7 d tdR).hc) Try.func41 rfl (by kernel_rfl) (by kernel_rfl) fun xs v ps hs hp w=>?_
 unfold sDecG at hs
 split at hs
 ·rename_i k s
  cases hs
  have ht:tldD k d s:=hp (tldD k d s) mcs
  obtain rfl:k=7:=hp (k=7) (mcm _ mcs)
  clear hp
  have ht2:tdR.tld 7 d s 0 0:=tld_of ht
  obtain⟨m,hm,hk,hok,-,-,-,-,hsz,h16⟩:=ht
  have h16':¬((s.size:Int)>16384):=by omega
  have hcmd:((cmdOf 7).toList == ByteArray.empty.toList)=false:=by kernel_rfl
  have hend:¬ ¬laR.endE s s.size 0=0:=fun h=>h (by show(if(0:Int)≠0 then(0:Int)else if(s.size:Int)<s.size then 5 else 0)=0;rw[if_neg (by simp),if_neg (by omega)])
  have hro:laR.rOk s s.size:=⟨by omega,by omega,by omega⟩
  have he0:rtR.e0 0:=rfl
  refine rx (tvd7_ok d) 999 false 400 [false,false,false] ?_ ?_
  ·simp only[conj,z0,z2,arR,z1]
   (repeat' with_reducible apply And.intro)<;>first|exact hcmd|exact h16'|exact hend|exact hro|exact he0|exact ht2|rfl|exact trivial
  ·subst hm
   rw[show tdR.nd m.D=(namedM m).D from congrArg (fun x=>(namedM x).D) (msOf_D m)]
   obtain⟨a0,a1,a2,a3,a4,⟨a5t,a5s,a5i,a5p⟩,⟨a6t,a6s,a6i,a6p⟩,a7,a8,a9,a10,a11,a12,a13,a14,a15,a16,a17,a18,a19,a20,a21,a22⟩:=m
   simp only at hk
   subst hk
   obtain⟨r0,r1,r2,r3,r4,r5,r6,r7,r8,r9,r10,r11,r12,r13,r14,r15,r16,r17,r18,r19,r20,r21,r22⟩:=hok
   refine Run.ret ti_ok rfl rfl (VLe.tup3 (ALe.prt ?_) (.lit rfl) (.lit rfl))
   show G.prt [.v MS (.pair (.int 7) (.pair (.int 0) (.pair (.int 0) (.pair (.int 0) (.pair (.int 0) (.pair (.pair (.int 0) (.pair (.int 0) (.pair (.row (List.replicate 16 0)) (.int 0)))) (.pair (.pair (.int 0) (.pair (.int 0) (.pair (.row (List.replicate 16 0)) (.int 0)))) (.pair (.str .empty) (.pair (.int 0) (.pair (.bool false) (.pair (.bool false) (.pair (.sl a11) (.pair (.sl []) (.pair (.sl []) (.pair (.row (List.replicate 32 0)) (.pair (.row (List.replicate 32 0)) (.pair (.sl []) (.pair (.str .empty) (.pair (.str .empty) (.pair (.sl []) (.pair (.sl []) (.pair (.sl []) (.sl [])))))))))))))))))))))))]=_
   rfl
 ·cases hs
noncomputable def tvd8 (d:D) (lf:TDd):Tbl:=tbL [(45,nP (sCmd ⟨lf.em.toQR.toPM.toME5.toME4.toME3.toME2.toME1.toLN9.toLN8.toLN7.toLN6.toLN5.toLN4.toLN1,lf.em.toQR.toPM.toME5.toME4.toME3.toME2.toME1.toLN9.toLN8.cmd⟩))] [(77,hNewR lf.r.toLA),(78,nH (hTk8 lf.toTLd d)),(79,nH (hPrtT lf.r)),(80,nH (hEnd lf.r.toLA))]
theorem tvd8_ok (d:D):TblOk Try.prog (tvd8 d tdR):=tbL_ok (mc ⟨cmd_ok.nP,nofun⟩) (mc ⟨newR_ok,mc ⟨(tk_8 d).nH,mc ⟨prtT_ok.nH,mc ⟨end_ok.nH,nofun⟩⟩⟩⟩)
theorem dec_8 (d:D):CallOk Try.prog 41 (sDecG d 8):=by
 refine .of_run (hc:=(tvd8 d tdR).hc) Try.func41 rfl (by kernel_rfl) (by kernel_rfl) fun xs v ps hs hp w=>?_
 unfold sDecG at hs
 split at hs
 ·rename_i k s
  cases hs
  have ht:tldD k d s:=hp (tldD k d s) mcs
  obtain rfl:k=8:=hp (k=8) (mcm _ mcs)
  clear hp
  have ht2:tdR.tld 8 d s 0 0:=tld_of ht
  obtain⟨m,hm,hk,hok,-,-,-,-,hsz,h16⟩:=ht
  have h16':¬((s.size:Int)>16384):=by omega
  have hcmd:((cmdOf 8).toList == ByteArray.empty.toList)=false:=by kernel_rfl
  have hend:¬ ¬laR.endE s s.size 0=0:=fun h=>h (by show(if(0:Int)≠0 then(0:Int)else if(s.size:Int)<s.size then 5 else 0)=0;rw[if_neg (by simp),if_neg (by omega)])
  have hro:laR.rOk s s.size:=⟨by omega,by omega,by omega⟩
  have he0:rtR.e0 0:=rfl
  refine rx (tvd8_ok d) 999 false 400 [false,false,false] ?_ ?_
  ·simp only[conj,z0,z2,arR,z1]
   (repeat' with_reducible apply And.intro)<;>first|exact hcmd|exact h16'|exact hend|exact hro|exact he0|exact ht2|rfl|exact trivial
  ·subst hm
   rw[show tdR.nd m.D=(namedM m).D from congrArg (fun x=>(namedM x).D) (msOf_D m)]
   obtain⟨a0,a1,a2,a3,a4,⟨a5t,a5s,a5i,a5p⟩,⟨a6t,a6s,a6i,a6p⟩,a7,a8,a9,a10,a11,a12,a13,a14,a15,a16,a17,a18,a19,a20,a21,a22⟩:=m
   simp only at hk
   subst hk
   obtain⟨r0,r1,r2,r3,r4,r5,r6,r7,r8,r9,r10,r11,r12,r13,r14,r15,r16,r17,r18,r19,r20,r21,r22⟩:=hok
   refine Run.ret ti_ok rfl rfl (VLe.tup3 (ALe.prt ?_) (.lit rfl) (.lit rfl))
   show G.prt [.v MS (.pair (.int 8) (.pair (.int 0) (.pair (.int 0) (.pair (.int 0) (.pair (.int 0) (.pair (.pair (.int 0) (.pair (.int 0) (.pair (.row (List.replicate 16 0)) (.int 0)))) (.pair (.pair (.int 0) (.pair (.int 0) (.pair (.row (List.replicate 16 0)) (.int 0)))) (.pair (.str .empty) (.pair (.int 0) (.pair (.bool false) (.pair (.bool false) (.pair (.sl []) (.pair (.sl a12) (.pair (.sl []) (.pair (.row (List.replicate 32 0)) (.pair (.row (List.replicate 32 0)) (.pair (.sl []) (.pair (.str .empty) (.pair (.str .empty) (.pair (.sl []) (.pair (.sl []) (.pair (.sl []) (.sl [])))))))))))))))))))))))]=_
   rfl
 ·cases hs
noncomputable def tvd9 (d:D) (lf:TDd):Tbl:=tbL [(45,nP (sCmd ⟨lf.em.toQR.toPM.toME5.toME4.toME3.toME2.toME1.toLN9.toLN8.toLN7.toLN6.toLN5.toLN4.toLN1,lf.em.toQR.toPM.toME5.toME4.toME3.toME2.toME1.toLN9.toLN8.cmd⟩))] [(77,hNewR lf.r.toLA),(78,nH (hTk9 lf.toTLd d)),(79,nH (hPrtT lf.r)),(80,nH (hEnd lf.r.toLA))]
theorem tvd9_ok (d:D):TblOk Try.prog (tvd9 d tdR):=tbL_ok (mc ⟨cmd_ok.nP,nofun⟩) (mc ⟨newR_ok,mc ⟨(tk_9 d).nH,mc ⟨prtT_ok.nH,mc ⟨end_ok.nH,nofun⟩⟩⟩⟩)
theorem dec_9 (d:D):CallOk Try.prog 41 (sDecG d 9):=by
 refine .of_run (hc:=(tvd9 d tdR).hc) Try.func41 rfl (by kernel_rfl) (by kernel_rfl) fun xs v ps hs hp w=>?_
 unfold sDecG at hs
 split at hs
 ·rename_i k s
  cases hs
  have ht:tldD k d s:=hp (tldD k d s) mcs
  obtain rfl:k=9:=hp (k=9) (mcm _ mcs)
  clear hp
  have ht2:tdR.tld 9 d s 0 0:=tld_of ht
  obtain⟨m,hm,hk,hok,-,-,-,-,hsz,h16⟩:=ht
  have h16':¬((s.size:Int)>16384):=by omega
  have hcmd:((cmdOf 9).toList == ByteArray.empty.toList)=false:=by kernel_rfl
  have hend:¬ ¬laR.endE s s.size 0=0:=fun h=>h (by show(if(0:Int)≠0 then(0:Int)else if(s.size:Int)<s.size then 5 else 0)=0;rw[if_neg (by simp),if_neg (by omega)])
  have hro:laR.rOk s s.size:=⟨by omega,by omega,by omega⟩
  have he0:rtR.e0 0:=rfl
  refine rx (tvd9_ok d) 999 false 400 [false,false,false] ?_ ?_
  ·simp only[conj,z0,z2,arR,z1]
   (repeat' with_reducible apply And.intro)<;>first|exact hcmd|exact h16'|exact hend|exact hro|exact he0|exact ht2|rfl|exact trivial
  ·subst hm
   rw[show tdR.nd m.D=(namedM m).D from congrArg (fun x=>(namedM x).D) (msOf_D m)]
   obtain⟨a0,a1,a2,a3,a4,⟨a5t,a5s,a5i,a5p⟩,⟨a6t,a6s,a6i,a6p⟩,a7,a8,a9,a10,a11,a12,a13,a14,a15,a16,a17,a18,a19,a20,a21,a22⟩:=m
   simp only at hk
   subst hk
   obtain⟨r0,r1,r2,r3,r4,r5,r6,r7,r8,r9,r10,r11,r12,r13,r14,r15,r16,r17,r18,r19,r20,r21,r22⟩:=hok
   refine Run.ret ti_ok rfl rfl (VLe.tup3 (ALe.prt ?_) (.lit rfl) (.lit rfl))
   show G.prt [.v MS (.pair (.int 9) (.pair (.int 0) (.pair (.int 0) (.pair (.int 0) (.pair (.int 0) (.pair (.pair (.int 0) (.pair (.int 0) (.pair (.row (List.replicate 16 0)) (.int 0)))) (.pair (.pair (.int 0) (.pair (.int 0) (.pair (.row (List.replicate 16 0)) (.int 0)))) (.pair (.str .empty) (.pair (.int 0) (.pair (.bool false) (.pair (.bool false) (.pair (.sl []) (.pair (.sl a12) (.pair (.sl []) (.pair (.row (List.replicate 32 0)) (.pair (.row (List.replicate 32 0)) (.pair (.sl []) (.pair (.str .empty) (.pair (.str .empty) (.pair (.sl []) (.pair (.sl []) (.pair (.sl []) (.sl [])))))))))))))))))))))))]=_
   rfl
 ·cases hs
noncomputable def tvd10 (d:D) (lf:TDd):Tbl:=tbL [(45,nP (sCmd ⟨lf.em.toQR.toPM.toME5.toME4.toME3.toME2.toME1.toLN9.toLN8.toLN7.toLN6.toLN5.toLN4.toLN1,lf.em.toQR.toPM.toME5.toME4.toME3.toME2.toME1.toLN9.toLN8.cmd⟩))] [(77,hNewR lf.r.toLA),(78,nH (hTk10 lf.toTLd d)),(79,nH (hPrtT lf.r)),(80,nH (hEnd lf.r.toLA))]
theorem tvd10_ok (d:D):TblOk Try.prog (tvd10 d tdR):=tbL_ok (mc ⟨cmd_ok.nP,nofun⟩) (mc ⟨newR_ok,mc ⟨(tk_10 d).nH,mc ⟨prtT_ok.nH,mc ⟨end_ok.nH,nofun⟩⟩⟩⟩)
theorem dec_10 (d:D):CallOk Try.prog 41 (sDecG d 10):=by
 refine .of_run (hc:=(tvd10 d tdR).hc) Try.func41 rfl (by kernel_rfl) (by kernel_rfl) fun xs v ps hs hp w=>?_
 unfold sDecG at hs
 split at hs
 ·rename_i k s
  cases hs
  have ht:tldD k d s:=hp (tldD k d s) mcs
  obtain rfl:k=10:=hp (k=10) (mcm _ mcs)
  clear hp
  have ht2:tdR.tld 10 d s 0 0:=tld_of ht
  obtain⟨m,hm,hk,hok,-,-,-,-,hsz,h16⟩:=ht
  have h16':¬((s.size:Int)>16384):=by omega
  have hcmd:((cmdOf 10).toList == ByteArray.empty.toList)=false:=by kernel_rfl
  have hend:¬ ¬laR.endE s s.size 0=0:=fun h=>h (by show(if(0:Int)≠0 then(0:Int)else if(s.size:Int)<s.size then 5 else 0)=0;rw[if_neg (by simp),if_neg (by omega)])
  have hro:laR.rOk s s.size:=⟨by omega,by omega,by omega⟩
  have he0:rtR.e0 0:=rfl
  refine rx (tvd10_ok d) 999 false 400 [false,false,false] ?_ ?_
  ·simp only[conj,z0,z2,arR,z1]
   (repeat' with_reducible apply And.intro)<;>first|exact hcmd|exact h16'|exact hend|exact hro|exact he0|exact ht2|rfl|exact trivial
  ·subst hm
   rw[show tdR.nd m.D=(namedM m).D from congrArg (fun x=>(namedM x).D) (msOf_D m)]
   obtain⟨a0,a1,a2,a3,a4,⟨a5t,a5s,a5i,a5p⟩,⟨a6t,a6s,a6i,a6p⟩,a7,a8,a9,a10,a11,a12,a13,a14,a15,a16,a17,a18,a19,a20,a21,a22⟩:=m
   simp only at hk
   subst hk
   obtain⟨r0,r1,r2,r3,r4,r5,r6,r7,r8,r9,r10,r11,r12,r13,r14,r15,r16,r17,r18,r19,r20,r21,r22⟩:=hok
   refine Run.ret ti_ok rfl rfl (VLe.tup3 (ALe.prt ?_) (.lit rfl) (.lit rfl))
   show G.prt [.v MS (.pair (.int 10) (.pair (.int 0) (.pair (.int 0) (.pair (.int 0) (.pair (.int 0) (.pair (.pair (.int 0) (.pair (.int 0) (.pair (.row (List.replicate 16 0)) (.int 0)))) (.pair (.pair (.int 0) (.pair (.int 0) (.pair (.row (List.replicate 16 0)) (.int 0)))) (.pair (.str .empty) (.pair (.int 0) (.pair (.bool false) (.pair (.bool false) (.pair (.sl []) (.pair (.sl a12) (.pair (.sl []) (.pair (.row (List.replicate 32 0)) (.pair (.row (List.replicate 32 0)) (.pair (.sl []) (.pair (.str .empty) (.pair (.str .empty) (.pair (.sl []) (.pair (.sl []) (.pair (.sl []) (.sl [])))))))))))))))))))))))]=_
   rfl
 ·cases hs
noncomputable def tvd11 (d:D) (lf:TDd):Tbl:=tbL [(45,nP (sCmd ⟨lf.em.toQR.toPM.toME5.toME4.toME3.toME2.toME1.toLN9.toLN8.toLN7.toLN6.toLN5.toLN4.toLN1,lf.em.toQR.toPM.toME5.toME4.toME3.toME2.toME1.toLN9.toLN8.cmd⟩))] [(77,hNewR lf.r.toLA),(78,nH (hTk11 lf.toTLd d)),(79,nH (hPrtT lf.r)),(80,nH (hEnd lf.r.toLA))]
theorem tvd11_ok (d:D):TblOk Try.prog (tvd11 d tdR):=tbL_ok (mc ⟨cmd_ok.nP,nofun⟩) (mc ⟨newR_ok,mc ⟨(tk_11 d).nH,mc ⟨prtT_ok.nH,mc ⟨end_ok.nH,nofun⟩⟩⟩⟩)
theorem dec_11 (d:D):CallOk Try.prog 41 (sDecG d 11):=by
 refine .of_run (hc:=(tvd11 d tdR).hc) Try.func41 rfl (by kernel_rfl) (by kernel_rfl) fun xs v ps hs hp w=>?_
 unfold sDecG at hs
 split at hs
 ·rename_i k s
  cases hs
  have ht:tldD k d s:=hp (tldD k d s) mcs
  obtain rfl:k=11:=hp (k=11) (mcm _ mcs)
  clear hp
  have ht2:tdR.tld 11 d s 0 0:=tld_of ht
  obtain⟨m,hm,hk,hok,-,-,-,-,hsz,h16⟩:=ht
  have h16':¬((s.size:Int)>16384):=by omega
  have hcmd:((cmdOf 11).toList == ByteArray.empty.toList)=false:=by kernel_rfl
  have hend:¬ ¬laR.endE s s.size 0=0:=fun h=>h (by show(if(0:Int)≠0 then(0:Int)else if(s.size:Int)<s.size then 5 else 0)=0;rw[if_neg (by simp),if_neg (by omega)])
  have hro:laR.rOk s s.size:=⟨by omega,by omega,by omega⟩
  have he0:rtR.e0 0:=rfl
  refine rx (tvd11_ok d) 999 false 400 [false,false,false] ?_ ?_
  ·simp only[conj,z0,z2,arR,z1]
   (repeat' with_reducible apply And.intro)<;>first|exact hcmd|exact h16'|exact hend|exact hro|exact he0|exact ht2|rfl|exact trivial
  ·subst hm
   rw[show tdR.nd m.D=(namedM m).D from congrArg (fun x=>(namedM x).D) (msOf_D m)]
   obtain⟨a0,a1,a2,a3,a4,⟨a5t,a5s,a5i,a5p⟩,⟨a6t,a6s,a6i,a6p⟩,a7,a8,a9,a10,a11,a12,a13,a14,a15,a16,a17,a18,a19,a20,a21,a22⟩:=m
   simp only at hk
   subst hk
   obtain⟨r0,r1,r2,r3,r4,r5,r6,r7,r8,r9,r10,r11,r12,r13,r14,r15,r16,r17,r18,r19,r20,r21,r22⟩:=hok
   have hl14:a14.length=32:=r14.1
   refine Run.ret ti_ok rfl rfl (VLe.tup3 (ALe.prt ?_) (.lit rfl) (.lit rfl))
   show G.prt [.v MS (.pair (.int 11) (.pair (.int a1) (.pair (.int 0) (.pair (.int 0) (.pair (.int 0) (.pair (.pair (.int 0) (.pair (.int 0) (.pair (.row (List.replicate 16 0)) (.int 0)))) (.pair (.pair (.int 0) (.pair (.int 0) (.pair (.row (List.replicate 16 0)) (.int 0)))) (.pair (.str .empty) (.pair (.int 0) (.pair (.bool false) (.pair (.bool false) (.pair (.sl []) (.pair (.sl []) (.pair (.sl a13) (.pair (.row a14) (.pair (.row (List.replicate 32 0)) (.pair (.sl []) (.pair (.str .empty) (.pair (.str .empty) (.pair (.sl []) (.pair (.sl []) (.pair (.sl []) (.sl [])))))))))))))))))))))))]=_
   rfl
 ·cases hs
noncomputable def tvd12 (d:D) (lf:TDd):Tbl:=tbL [(45,nP (sCmd ⟨lf.em.toQR.toPM.toME5.toME4.toME3.toME2.toME1.toLN9.toLN8.toLN7.toLN6.toLN5.toLN4.toLN1,lf.em.toQR.toPM.toME5.toME4.toME3.toME2.toME1.toLN9.toLN8.cmd⟩))] [(77,hNewR lf.r.toLA),(78,nH (hTk12 lf.toTLd d)),(79,nH (hPrtT lf.r)),(80,nH (hEnd lf.r.toLA))]
theorem tvd12_ok (d:D):TblOk Try.prog (tvd12 d tdR):=tbL_ok (mc ⟨cmd_ok.nP,nofun⟩) (mc ⟨newR_ok,mc ⟨(tk_12 d).nH,mc ⟨prtT_ok.nH,mc ⟨end_ok.nH,nofun⟩⟩⟩⟩)
theorem dec_12 (d:D):CallOk Try.prog 41 (sDecG d 12):=by
 refine .of_run (hc:=(tvd12 d tdR).hc) Try.func41 rfl (by kernel_rfl) (by kernel_rfl) fun xs v ps hs hp w=>?_
 unfold sDecG at hs
 split at hs
 ·rename_i k s
  cases hs
  have ht:tldD k d s:=hp (tldD k d s) mcs
  obtain rfl:k=12:=hp (k=12) (mcm _ mcs)
  clear hp
  have ht2:tdR.tld 12 d s 0 0:=tld_of ht
  obtain⟨m,hm,hk,hok,-,-,-,-,hsz,h16⟩:=ht
  have h16':¬((s.size:Int)>16384):=by omega
  have hcmd:((cmdOf 12).toList == ByteArray.empty.toList)=false:=by kernel_rfl
  have hend:¬ ¬laR.endE s s.size 0=0:=fun h=>h (by show(if(0:Int)≠0 then(0:Int)else if(s.size:Int)<s.size then 5 else 0)=0;rw[if_neg (by simp),if_neg (by omega)])
  have hro:laR.rOk s s.size:=⟨by omega,by omega,by omega⟩
  have he0:rtR.e0 0:=rfl
  refine rx (tvd12_ok d) 999 false 400 [false,false,false] ?_ ?_
  ·simp only[conj,z0,z2,arR,z1]
   (repeat' with_reducible apply And.intro)<;>first|exact hcmd|exact h16'|exact hend|exact hro|exact he0|exact ht2|rfl|exact trivial
  ·subst hm
   rw[show tdR.nd m.D=(namedM m).D from congrArg (fun x=>(namedM x).D) (msOf_D m)]
   obtain⟨a0,a1,a2,a3,a4,⟨a5t,a5s,a5i,a5p⟩,⟨a6t,a6s,a6i,a6p⟩,a7,a8,a9,a10,a11,a12,a13,a14,a15,a16,a17,a18,a19,a20,a21,a22⟩:=m
   simp only at hk
   subst hk
   obtain⟨r0,r1,r2,r3,r4,r5,r6,r7,r8,r9,r10,r11,r12,r13,r14,r15,r16,r17,r18,r19,r20,r21,r22⟩:=hok
   refine Run.ret ti_ok rfl rfl (VLe.tup3 (ALe.prt ?_) (.lit rfl) (.lit rfl))
   show G.prt [.v MS (.pair (.int 12) (.pair (.int 0) (.pair (.int 0) (.pair (.int 0) (.pair (.int 0) (.pair (.pair (.int 0) (.pair (.int 0) (.pair (.row (List.replicate 16 0)) (.int 0)))) (.pair (.pair (.int 0) (.pair (.int 0) (.pair (.row (List.replicate 16 0)) (.int 0)))) (.pair (.str .empty) (.pair (.int 0) (.pair (.bool false) (.pair (.bool false) (.pair (.sl []) (.pair (.sl []) (.pair (.sl []) (.pair (.row (List.replicate 32 0)) (.pair (.row (List.replicate 32 0)) (.pair (.sl a16) (.pair (.str .empty) (.pair (.str .empty) (.pair (.sl []) (.pair (.sl []) (.pair (.sl []) (.sl [])))))))))))))))))))))))]=_
   rfl
 ·cases hs
noncomputable def tvd16 (d:D) (lf:TDd):Tbl:=tbL [(45,nP (sCmd ⟨lf.em.toQR.toPM.toME5.toME4.toME3.toME2.toME1.toLN9.toLN8.toLN7.toLN6.toLN5.toLN4.toLN1,lf.em.toQR.toPM.toME5.toME4.toME3.toME2.toME1.toLN9.toLN8.cmd⟩))] [(77,hNewR lf.r.toLA),(78,nH (hTk16 lf.toTLd d)),(79,nH (hPrtT lf.r)),(80,nH (hEnd lf.r.toLA))]
theorem tvd16_ok (d:D):TblOk Try.prog (tvd16 d tdR):=tbL_ok (mc ⟨cmd_ok.nP,nofun⟩) (mc ⟨newR_ok,mc ⟨(tk_16 d).nH,mc ⟨prtT_ok.nH,mc ⟨end_ok.nH,nofun⟩⟩⟩⟩)
theorem dec_16 (d:D):CallOk Try.prog 41 (sDecG d 16):=by
 refine .of_run (hc:=(tvd16 d tdR).hc) Try.func41 rfl (by kernel_rfl) (by kernel_rfl) fun xs v ps hs hp w=>?_
 unfold sDecG at hs
 split at hs
 ·rename_i k s
  cases hs
  have ht:tldD k d s:=hp (tldD k d s) mcs
  obtain rfl:k=16:=hp (k=16) (mcm _ mcs)
  clear hp
  have ht2:tdR.tld 16 d s 0 0:=tld_of ht
  obtain⟨m,hm,hk,hok,-,-,-,-,hsz,h16⟩:=ht
  have h16':¬((s.size:Int)>16384):=by omega
  have hcmd:((cmdOf 16).toList == ByteArray.empty.toList)=false:=by kernel_rfl
  have hend:¬ ¬laR.endE s s.size 0=0:=fun h=>h (by show(if(0:Int)≠0 then(0:Int)else if(s.size:Int)<s.size then 5 else 0)=0;rw[if_neg (by simp),if_neg (by omega)])
  have hro:laR.rOk s s.size:=⟨by omega,by omega,by omega⟩
  have he0:rtR.e0 0:=rfl
  refine rx (tvd16_ok d) 999 false 400 [false,false,false] ?_ ?_
  ·simp only[conj,z0,z2,arR,z1]
   (repeat' with_reducible apply And.intro)<;>first|exact hcmd|exact h16'|exact hend|exact hro|exact he0|exact ht2|rfl|exact trivial
  ·subst hm
   rw[show tdR.nd m.D=(namedM m).D from congrArg (fun x=>(namedM x).D) (msOf_D m)]
   obtain⟨a0,a1,a2,a3,a4,⟨a5t,a5s,a5i,a5p⟩,⟨a6t,a6s,a6i,a6p⟩,a7,a8,a9,a10,a11,a12,a13,a14,a15,a16,a17,a18,a19,a20,a21,a22⟩:=m
   simp only at hk
   subst hk
   obtain⟨r0,r1,r2,r3,r4,r5,r6,r7,r8,r9,r10,r11,r12,r13,r14,r15,r16,r17,r18,r19,r20,r21,r22⟩:=hok
   refine Run.ret ti_ok rfl rfl (VLe.tup3 (ALe.prt ?_) (.lit rfl) (.lit rfl))
   show G.prt [.v MS (.pair (.int 16) (.pair (.int 0) (.pair (.int 0) (.pair (.int a3) (.pair (.int 0) (.pair (.pair (.int 0) (.pair (.int 0) (.pair (.row (List.replicate 16 0)) (.int 0)))) (.pair (.pair (.int 0) (.pair (.int 0) (.pair (.row (List.replicate 16 0)) (.int 0)))) (.pair (.str .empty) (.pair (.int 0) (.pair (.bool false) (.pair (.bool false) (.pair (.sl []) (.pair (.sl []) (.pair (.sl []) (.pair (.row (List.replicate 32 0)) (.pair (.row (List.replicate 32 0)) (.pair (.sl []) (.pair (.str a17) (.pair (.str .empty) (.pair (.sl a19) (.pair (.sl a20) (.pair (.sl []) (.sl [])))))))))))))))))))))))]=_
   rfl
 ·cases hs
end Go.Proofs.Ytlbllaocdilafaa
