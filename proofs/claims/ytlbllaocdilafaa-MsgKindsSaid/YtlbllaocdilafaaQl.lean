import Derived.Test.YtlbllaocdilafaaQi
set_option linter.unusedSimpArgs false
set_option linter.unusedVariables false
namespace Go.Eng
open Go
def isPing (d : D) : Prop := ∃ k n : Int, (k = 5 ∨ k = 6) ∧ d = kindD k n
structure LN4 extends LN1 where
  ping : D → Prop
def ln4 : LN4 where
  toLN1 := lnR
  ping := isPing
end Go.Eng
namespace Go.Proofs.Ytlbllaocdilafaa
open Go Go.Eng Go.Proofs Go.RowKit
attribute [local irreducible] CallOk HOk Run TIok rbin rcmp run1 updF shfF blitF
def tl0 (lf : LN4) : Tbl := tbL [] []
theorem tl0_ok : TblOk Try.prog (tl0 ln4) := tbL_ok nofun nofun
def sNamed5 (lf : LN4) : ESpec := fun l => match l with
  | [.agg (.prt [.v s d])] => if shEq s MS then some (.a (.agg (.prt [.v MS d])), [lf.ping d]) else none
  | _ => none
set_option maxRecDepth 100000 in
set_option maxHeartbeats 4000000 in
theorem named5_ok : CallOk Try.prog 67 (sNamed5 ln4) := by
  refine .of_run (hc := (tl0 ln4).hc) Try.func67 rfl (by kernel_rfl) (by kernel_rfl) fun xs v ps hs hp w => ?_
  unfold sNamed5 at hs
  split at hs
  · rename_i s d
    split at hs
    · rename_i hsh
      obtain rfl := shEq_eq hsh
      clear hsh
      cases hs
      obtain ⟨k, n, hk, rfl⟩ : isPing d := hp (ln4.ping d) (by simp)
      clear hp
      by_cases h5 : k = 5
      · refine run_ex hmix ti_ok tl0_ok 999 false 400 [false, true, true] (fun ar lf => by conv => lhs; cbv) (allP ?_) ?_
        · simp only [conj, and_true, Int.ofNat_eq_natCast, arR, rcmp_lss, rcmp_gtr, rcmp_geq, rcmp_leq, rcmp_eql, rcmp_neq, decide_eq_true_eq, decide_eq_false_iff_not, ne_eq, not_true_eq_false, not_false_eq_true, Int.toNat_natCast, List.length_cons, List.length_nil, dF_m, dS_m, dI_m]
          ((repeat' with_reducible apply And.intro) <;> first | omega | assumption | rfl | trivial)
        · exact Run.ret ti_ok rfl rfl (.a (ALe.prt rfl))
      · refine run_ex hmix ti_ok tl0_ok 999 false 400 [false, false, true] (fun ar lf => by conv => lhs; cbv) (allP ?_) ?_
        · simp only [conj, and_true, Int.ofNat_eq_natCast, arR, rcmp_lss, rcmp_gtr, rcmp_geq, rcmp_leq, rcmp_eql, rcmp_neq, decide_eq_true_eq, decide_eq_false_iff_not, ne_eq, not_true_eq_false, not_false_eq_true, Int.toNat_natCast, List.length_cons, List.length_nil, dF_m, dS_m, dI_m]
          ((repeat' with_reducible apply And.intro) <;> first | omega | assumption | rfl | trivial)
        · exact Run.ret ti_ok rfl rfl (.a (ALe.prt rfl))
    · cases hs
  · cases hs
def sMany5 (lf : LN4) : ESpec := fun l => match l with
  | [.agg (.prt [.v s d])] => if shEq s MS then some (.a (.one (.bool false)), [lf.ping d]) else none
  | _ => none
set_option maxRecDepth 100000 in
set_option maxHeartbeats 4000000 in
theorem many5_ok : CallOk Try.prog 66 (sMany5 ln4) := by
  refine .of_run (hc := (tl0 ln4).hc) Try.func66 rfl (by kernel_rfl) (by kernel_rfl) fun xs v ps hs hp w => ?_
  unfold sMany5 at hs
  split at hs
  · rename_i s d
    split at hs
    · rename_i hsh
      obtain rfl := shEq_eq hsh
      clear hsh
      cases hs
      obtain ⟨k, n, hk, rfl⟩ : isPing d := hp (ln4.ping d) (by simp)
      clear hp
      refine run_ex hmix ti_ok tl0_ok 999 true 400 [false, false, false, false, false, false, false, false, false, false, false, false] (fun ar lf => by conv => lhs; cbv) (allP ?_) ?_
      · simp only [conj, and_true, Int.ofNat_eq_natCast, arR, rcmp_lss, rcmp_gtr, rcmp_geq, rcmp_leq, rcmp_eql, rcmp_neq, decide_eq_true_eq, decide_eq_false_iff_not, ne_eq, not_true_eq_false, not_false_eq_true, Int.toNat_natCast, List.length_cons, List.length_nil, dF_m, dS_m, dI_m, dL_m, dX_m]
        trace_state
        ((repeat' with_reducible apply And.intro) <;> first | omega | assumption | rfl | trivial)
      · trace_state
        refine Run.ret ti_ok rfl rfl (.a (.bool ?_))
        show rcmp .gtr (0 : Int) 500 = false
        rw [rcmp_gtr]; rfl
    · cases hs
  · cases hs
end Go.Proofs.Ytlbllaocdilafaa
