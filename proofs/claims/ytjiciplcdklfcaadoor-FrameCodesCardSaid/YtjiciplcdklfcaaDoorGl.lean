import Derived.Test.YtjiciplcdklfcaaDoorGk
import Derived.Test.YtjiciplcdklfcaaDoorGg
set_option linter.unusedSimpArgs false
set_option linter.unusedVariables false
namespace Go.Proofs.YtjiciplcdklfcaaDoor
open Go Go.Eng Go.Proofs Go.RowKit
attribute [local irreducible] CallOk HOk Run TIok rbin rcmp run1 updF shfF blitF
def tgn (lf : LG5) : Tbl := tbL [(7, nP (kP [none, some FS] (sEncF lf.toLG4.toLG3))), (8, sREnc lf), (9, sAwakeF lf.toLG4), (10, sFCmd lf.toLG4.toLG3.toLG2.toLG1.toLG0), (11, sFCmd lf.toLG4.toLG3.toLG2.toLG1.toLG0), (12, sSumF lf.toLG4.toLG3.toLG2.toLG1), (13, sSumF lf.toLG4.toLG3.toLG2.toLG1), (14, sDecF lf.toLG4.toLG3), (15, sRDec lf)] []
theorem tgn_ok : TblOk Tryd.prog (tgn lg5) := tbL_ok (List.forall_mem_cons.2 ⟨encf_ok.kP.nP, List.forall_mem_cons.2 ⟨renc_ok, List.forall_mem_cons.2 ⟨awakef_ok, List.forall_mem_cons.2 ⟨fcmd_ok, List.forall_mem_cons.2 ⟨rfcmd_ok, List.forall_mem_cons.2 ⟨sumf_ok, List.forall_mem_cons.2 ⟨rsumf_ok, List.forall_mem_cons.2 ⟨decf_ok, List.forall_mem_cons.2 ⟨rdec_ok, nofun⟩⟩⟩⟩⟩⟩⟩⟩⟩) nofun
def sLCodes (lf : LG5) : ESpec := fun l => match l with
  | [.one (.int .u32 m), .agg (.lst [.str c, .str p]), .agg (.lst [.str s, .int .i64 a])] => some (.a (.one (.bool true)), [lf.layOk m 4, lf.fit c, lf.fit47 p, lf.fit s])
  | _ => none
theorem isF5 {c p : ByteArray} (h1 : c.size ≤ 9223372036854775807) (h2 : p.size ≤ 9223372036854775807) : lg5.isF (.pair (.str c) (.str p)) := ⟨c, p, rfl, h1, h2⟩
attribute [local irreducible] hdE hdC hdN hdS deE deC deP deTo sumV okCmd enT enE
set_option maxHeartbeats 2000000 in
theorem lcodes_ok : CallOk Tryd.prog 3 (sLCodes lg5) := by
  refine .of_run (hc := (tgn lg5).hc) Tryd.func3 rfl (by kernel_rfl) (by kernel_rfl) fun xs v ps hs hp w => ?_
  unfold sLCodes at hs
  split at hs
  · rename_i m c p s a
    cases hs
    have h1 : lg5.layOk m 4 := hp (lg5.layOk m 4) (by simp)
    have hc : c.size ≤ 9223372036854775807 := hp (lg5.fit c) (by simp)
    have hpp : p.size ≤ 140737488355328 := hp (lg5.fit47 p) (by simp)
    have hpf : lg5.fit p := by show p.size ≤ 9223372036854775807; omega
    have hs : s.size ≤ 9223372036854775807 := hp (lg5.fit s) (by simp)
    clear hp
    refine run_ex hmix ti_ok tgn_ok 999 false 400 [false, false, false, false, false, true, true] (fun ar lf => by conv => lhs; cbv) (allP ?_) ?_
    · simp only [conj, and_true, Int.ofNat_eq_natCast, arR, rcmp_lss, rcmp_gtr, rcmp_geq, rcmp_leq, rcmp_eql, rcmp_neq, decide_eq_true_eq, decide_eq_false_iff_not, ne_eq, not_true_eq_false, not_false_eq_true, Int.toNat_natCast, List.length_cons, List.length_nil]
      refine ⟨trivial, ?_, h1, hs, h1, hs, trivial, hpp, hpp, ?_, hc, hc, trivial, ?_, rfl, h1, hc, hpf, h1, isF5 hc hpf⟩
      · simp only [beq_self_eq_true, List.all_cons, List.all_nil, id_eq, Bool.and_true]
      · simp only [beq_self_eq_true, Bool.not_true]
      · simp only [beq_self_eq_true, Bool.not_true]
    · refine Run.ret ti_ok rfl rfl (.a (.bool ?_))
      show rcmp .eql (deE m s a) (deE m s a) = true
      rw [rcmp_eql]; simp
  · cases hs
end Go.Proofs.YtjiciplcdklfcaaDoor
