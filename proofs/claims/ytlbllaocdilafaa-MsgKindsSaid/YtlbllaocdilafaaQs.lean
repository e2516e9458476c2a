import Derived.Test.YtlbllaocdilafaaQr
import Derived.Test.YtlbllaocdilafaaQq
set_option linter.unusedSimpArgs false
set_option linter.unusedVariables false
namespace Go.Eng
open Go
structure LN8 extends LN7 where
  sz8 : ByteArray → Prop
def ln8 : LN8 where
  toLN7 := ln7
  sz8 s := s.size = 8
end Go.Eng
namespace Go.Proofs.Ytlbllaocdilafaa
open Go Go.Eng Go.Proofs Go.RowKit
attribute [local irreducible] CallOk HOk Run TIok rbin rcmp run1 updF shfF blitF
def ts8 (lf : LN8) : Tbl := tbL [(45, nP (sCmd ⟨lf.toLN7.toLN6.toLN5.toLN4.toLN1, lf.cmd⟩))] [(77, hNewR lf.toLN7.toLN6.toLN5.toLN4.toLN1.toLQm.toLE1.toLA), (78, nH (hTake5 lf.toLN7.toLN6)), (79, nH (hPart lf.toLN7.toLN6)), (80, nH (hEnd lf.toLN7.toLN6.toLN5.toLN4.toLN1.toLQm.toLE1.toLA))]
theorem ts8_ok : TblOk Try.prog (ts8 ln8) := tbL_ok (List.forall_mem_cons.2 ⟨cmd_ok.nP, nofun⟩) (List.forall_mem_cons.2 ⟨newR_ok, List.forall_mem_cons.2 ⟨take5_ok.nH, List.forall_mem_cons.2 ⟨part_ok.nH, List.forall_mem_cons.2 ⟨end_ok.nH, nofun⟩⟩⟩⟩)
def sDec5 (lf : LN8) : ESpec := fun l => match l with
  | [.one (.int .i64 k), .one (.str s)] => some (.tup [.agg (.prt [.v MS (kindD k (lf.get (lf.rT s 0 0 8)))]), .one (.int .i64 0), .one (.int .i64 0)], [lf.n56 k, lf.sz8 s])
  | _ => none
set_option maxRecDepth 100000 in
set_option maxHeartbeats 4000000 in
theorem dec5_ok : CallOk Try.prog 41 (sDec5 ln8) := by
  refine .of_run (hc := (ts8 ln8).hc) Try.func41 rfl (by kernel_rfl) (by kernel_rfl) fun xs v ps hs hp w => ?_
  unfold sDec5 at hs
  split at hs
  · rename_i k s
    cases hs
    have hk : k = 5 ∨ k = 6 := hp (ln8.n56 k) (by simp)
    have h8 : s.size = 8 := hp (ln8.sz8 s) (by simp)
    clear hp
    refine run_ex hmix ti_ok ts8_ok 999 false 400 [false, false, false] (fun ar lf => by conv => lhs; cbv) (allP ?_) ?_
    · simp only [conj, and_true, Int.ofNat_eq_natCast, arR, rcmp_lss, rcmp_gtr, rcmp_geq, rcmp_leq, rcmp_eql, rcmp_neq, decide_eq_true_eq, decide_eq_false_iff_not, ne_eq, not_true_eq_false, not_false_eq_true, Int.toNat_natCast, List.length_cons, List.length_nil, dF_m, dS_m, dI_m, dL_m, dX_m]
      have eA : rdAt s 0 0 8 = 8 := by rw [rdAt, if_pos (by omega)]; rfl
      have eE : rdE s 0 0 8 = 0 := by rw [rdE, if_neg (by simp), if_neg (by omega), if_pos (by omega)]
      have hcmd : ((cmdOf k).toList == ByteArray.empty.toList) = false := by rcases hk with rfl | rfl <;> kernel_rfl
      refine ⟨fun h => h ?_, ?_, ?_, hk, by omega, hcmd⟩
      · show (if rdE s 0 0 8 ≠ 0 then rdE s 0 0 8 else if rdAt s 0 0 8 < s.size then 5 else 0) = 0
        rw [eA, eE, if_neg (by simp), if_neg (by omega)]
      · show 0 ≤ rdAt s 0 0 8 ∧ rdAt s 0 0 8 ≤ s.size ∧ s.size ≤ 9223372036854775807
        rw [eA]; omega
      · show (0 : Int) ≤ 0 ∧ (0 : Int) ≤ s.size ∧ s.size ≤ 9223372036854775807
        omega
    · exact Run.ret ti_ok rfl rfl (VLe.tup3 (ALe.prt rfl) (.lit rfl) (.lit rfl))
  · cases hs
end Go.Proofs.Ytlbllaocdilafaa
