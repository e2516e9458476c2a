import Derived.Test.YtlbllaocdilafaaQn
import Derived.Test.YtlbllaocdilafaaQc
set_option linter.unusedSimpArgs false
set_option linter.unusedVariables false
namespace Go.Proofs.Ytlbllaocdilafaa
open Go Go.Eng Go.Proofs Go.RowKit
attribute [local irreducible] CallOk HOk Run TIok rbin rcmp run1 updF shfF blitF
def to0 (lf : LN5) : Tbl := tbL [(88, sRise0 lf.toLN4), (89, sPlaces0 lf.toLN4), (67, sNamed5 lf.toLN4), (34, sSame lf.toLN4.toLN1.toLQm)] []
theorem to0_ok : TblOk Try.prog (to0 ln5) := tbL_ok (List.forall_mem_cons.2 ⟨rise0_ok, List.forall_mem_cons.2 ⟨places0_ok, List.forall_mem_cons.2 ⟨named5_ok, List.forall_mem_cons.2 ⟨same_ok, nofun⟩⟩⟩⟩) nofun
def sWrong5 (lf : LN5) : ESpec := fun l => match l with
  | [.agg (.prt [.v s d])] => if shEq s MS then some (.a (.one (.bool false)), [lf.ping d]) else none
  | _ => none
set_option maxRecDepth 100000 in
set_option maxHeartbeats 4000000 in
theorem wrong5_ok : CallOk Try.prog 68 (sWrong5 ln5) := by
  refine .of_run (hc := (to0 ln5).hc) Try.func68 rfl (by kernel_rfl) (by kernel_rfl) fun xs v ps hs hp w => ?_
  unfold sWrong5 at hs
  split at hs
  · rename_i s d
    split at hs
    · rename_i hsh
      obtain rfl := shEq_eq hsh
      clear hsh
      cases hs
      have hpg : isPing d := hp (ln5.ping d) (by simp)
      obtain ⟨k, n, hk, rfl⟩ := hpg
      clear hp
      refine run_ex hmix ti_ok to0_ok 999 true 400 [false, false, false, false, false] (fun ar lf => by conv => lhs; cbv) (allP ?_) ?_
      · simp only [conj, and_true, Int.ofNat_eq_natCast, arR, rcmp_lss, rcmp_gtr, rcmp_geq, rcmp_leq, rcmp_eql, rcmp_neq, decide_eq_true_eq, decide_eq_false_iff_not, ne_eq, not_true_eq_false, not_false_eq_true, Int.toNat_natCast, List.length_cons, List.length_nil, dF_m, dS_m, dI_m, dL_m, dX_m]
        refine ⟨kindD_ok k n, kindD_ok k n, ⟨k, n, hk, rfl⟩, ?_⟩
        ((repeat' with_reducible apply And.intro) <;> first | omega | assumption | rfl | trivial)
      · refine Run.ret ti_ok rfl rfl (.a (.bool ?_))
        show (!(eqD MS (kindD k n) (kindD k n))) = false
        rw [eqD_refl]; rfl
    · cases hs
  · cases hs
end Go.Proofs.Ytlbllaocdilafaa
