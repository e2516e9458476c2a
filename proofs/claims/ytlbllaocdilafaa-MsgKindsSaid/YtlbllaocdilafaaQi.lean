import Derived.Test.YtlbllaocdilafaaQ0
set_option linter.unusedSimpArgs false
set_option linter.unusedVariables false
namespace Go.Eng
open Go
/-- a message of which but the kind and the nonce are set -/
def kindD (k n : Int) : D := (Ms.mk k 0 0 n 0 ⟨0, 0, [0, 0, 0, 0, 0, 0, 0, 0, 0, 0, 0, 0, 0, 0, 0, 0], 0⟩ ⟨0, 0, [0, 0, 0, 0, 0, 0, 0, 0, 0, 0, 0, 0, 0, 0, 0, 0], 0⟩ .empty 0 false false [] [] [] [0, 0, 0, 0, 0, 0, 0, 0, 0, 0, 0, 0, 0, 0, 0, 0, 0, 0, 0, 0, 0, 0, 0, 0, 0, 0, 0, 0, 0, 0, 0, 0] [0, 0, 0, 0, 0, 0, 0, 0, 0, 0, 0, 0, 0, 0, 0, 0, 0, 0, 0, 0, 0, 0, 0, 0, 0, 0, 0, 0, 0, 0, 0, 0] [] .empty .empty [] [] [] []).D
structure LN1 extends LQm where
  n56 : Int → Prop
  n56' : Int → Prop
def lnR : LN1 where
  toLQm := lqmR
  n56 k := k = 5 ∨ k = 6
  n56' k := ¬ (k = 5 ∨ k = 6)
end Go.Eng
namespace Go.Proofs.Ytlbllaocdilafaa
open Go Go.Eng Go.Proofs Go.RowKit
attribute [local irreducible] CallOk HOk Run TIok rbin rcmp run1 updF shfF blitF
def ti0b (lf : LN1) : Tbl := tbL [] []
theorem ti0b_ok : TblOk Try.prog (ti0b lnR) := tbL_ok nofun nofun
def sNonced (lf : LN1) : ESpec := fun l => match l with
  | [.one (.int .i64 k), .one (.int .u64 n)] => some (.tup [.agg (.prt [.v MS (kindD k n)]), .one (.int .i64 0)], [lf.n56 k])
  | _ => none
def sNoncedNo (lf : LN1) : ESpec := fun l => match l with
  | [.one (.int .i64 k), .one (.int .u64 n)] => some (.tup [.agg (.prt [.v MS (kindD 0 0)]), .one (.int .i64 90)], [lf.n56' k])
  | _ => none
def sBare (lf : LN1) : ESpec := fun l => match l with
  | [.one (.int .i64 k)] => some (.a (.agg (.prt [.v MS (kindD k 0)])), [])
  | _ => none
set_option maxRecDepth 100000 in
theorem nonced_ok : CallOk Try.prog 43 (sNonced lnR) := by
  refine .of_run (hc := (ti0b lnR).hc) Try.func43 rfl (by kernel_rfl) (by kernel_rfl) fun xs v ps hs hp w => ?_
  unfold sNonced at hs
  split at hs
  · rename_i k n
    cases hs
    have h : k = 5 ∨ k = 6 := hp (lnR.n56 k) (by simp)
    clear hp
    by_cases h5 : k = 5
    · refine run_ex hmix ti_ok ti0b_ok 999 false 400 [false, false] (fun ar lf => by conv => lhs; cbv) (allP ?_) ?_
      · simp only [conj, and_true, Int.ofNat_eq_natCast, arR, rcmp_lss, rcmp_gtr, rcmp_geq, rcmp_leq, rcmp_eql, rcmp_neq, decide_eq_true_eq, decide_eq_false_iff_not, ne_eq, not_true_eq_false, not_false_eq_true, Int.toNat_natCast, List.length_cons, List.length_nil]
        ((repeat' with_reducible apply And.intro) <;> first | omega | assumption | rfl | trivial)
      · exact Run.ret ti_ok rfl rfl (VLe.tup2 (ALe.prt rfl) (.lit rfl))
    · refine run_ex hmix ti_ok ti0b_ok 999 false 400 [true, false] (fun ar lf => by conv => lhs; cbv) (allP ?_) ?_
      · simp only [conj, and_true, Int.ofNat_eq_natCast, arR, rcmp_lss, rcmp_gtr, rcmp_geq, rcmp_leq, rcmp_eql, rcmp_neq, decide_eq_true_eq, decide_eq_false_iff_not, ne_eq, not_true_eq_false, not_false_eq_true, Int.toNat_natCast, List.length_cons, List.length_nil]
        ((repeat' with_reducible apply And.intro) <;> first | omega | assumption | rfl | trivial)
      · exact Run.ret ti_ok rfl rfl (VLe.tup2 (ALe.prt rfl) (.lit rfl))
  · cases hs
set_option maxRecDepth 100000 in
theorem noncedNo_ok : CallOk Try.prog 43 (sNoncedNo lnR) := by
  refine .of_run (hc := (ti0b lnR).hc) Try.func43 rfl (by kernel_rfl) (by kernel_rfl) fun xs v ps hs hp w => ?_
  unfold sNoncedNo at hs
  split at hs
  · rename_i k n
    cases hs
    have h : ¬ (k = 5 ∨ k = 6) := hp (lnR.n56' k) (by simp)
    clear hp
    refine run_ex hmix ti_ok ti0b_ok 999 false 400 [true, true] (fun ar lf => by conv => lhs; cbv) (allP ?_) ?_
    · simp only [conj, and_true, Int.ofNat_eq_natCast, arR, rcmp_lss, rcmp_gtr, rcmp_geq, rcmp_leq, rcmp_eql, rcmp_neq, decide_eq_true_eq, decide_eq_false_iff_not, ne_eq, not_true_eq_false, not_false_eq_true, Int.toNat_natCast, List.length_cons, List.length_nil]
      ((repeat' with_reducible apply And.intro) <;> first | omega | assumption | rfl | trivial)
    · exact Run.ret ti_ok rfl rfl (VLe.tup2 (ALe.prt rfl) (.lit rfl))
  · cases hs
end Go.Proofs.Ytlbllaocdilafaa
