import Derived.Test.YtlbllaocdilafaaQn
set_option linter.unusedSimpArgs false
set_option linter.unusedVariables false
namespace Go.Eng
open Go
def partA (e a p : Int) : Int := if e = 0 then p else a
structure LN6 extends LN5 where
  pA : Int → Int → Int → Int
def ln6 : LN6 where
  toLN5 := ln5
  pA := partA
end Go.Eng
namespace Go.Proofs.Ytlbllaocdilafaa
open Go Go.Eng Go.Proofs Go.RowKit
attribute [local irreducible] CallOk HOk Run TIok rbin rcmp run1 updF shfF blitF
def tp9 (lf : LN6) : Tbl := tbL [] [(121, nH (hErr lf.toLN5.toLN4.toLN1.toLQm.toLE1.toLA)), (122, nH (hAt lf.toLN5.toLN4.toLN1.toLQm.toLE1.toLA))]
theorem tp9_ok : TblOk Try.prog (tp9 ln6) := tbL_ok nofun (List.forall_mem_cons.2 ⟨err_ok.nH, List.forall_mem_cons.2 ⟨at_ok.nH, nofun⟩⟩)
def hPart (lf : LN6) : HSpec := fun l bs => match l, bs with
  | [.one (.ptr 0 (.lit 0))], [⟨false, .lst [.ptr 1 (.lit 0), .int .i64 a]⟩, ⟨false, .lst [.str s, .int .i64 p, .int .i64 e]⟩] => some (.tup [], [⟨false, .lst [.ptr 1 (.lit 0), .int .i64 (lf.pA e a p)]⟩, ⟨false, .lst [.str s, .int .i64 p, .int .i64 e]⟩], [])
  | _, _ => none
theorem part_ok : HOk Try.prog 79 (hPart ln6) := by
  refine .of_run (hc := (tp9 ln6).hc) Try.func79 rfl (by kernel_rfl) (by kernel_rfl) fun las lbs v lbs' ps hs hp w => ?_
  unfold hPart at hs
  split at hs
  · rename_i a s p e
    cases hs
    by_cases he : e = 0
    · have e1 : ln6.pA e a p = p := if_pos he
      rw [e1]
      refine run_ex hmix ti_ok tp9_ok 999 false 400 [true] (fun ar lf => by conv => lhs; cbv) (allP ?_) ?_
      · simp only [conj, and_true, Int.ofNat_eq_natCast, arR, rcmp_lss, rcmp_gtr, rcmp_geq, rcmp_leq, rcmp_eql, rcmp_neq, decide_eq_true_eq, decide_eq_false_iff_not, ne_eq, not_true_eq_false, not_false_eq_true, Int.toNat_natCast, List.length_cons, List.length_nil]
        ((repeat' with_reducible apply And.intro) <;> first | omega | assumption | rfl | trivial)
      exact Run.fin ti_ok rfl rfl (HEnd.pack [0, 1] rfl rfl rfl rfl)
    · have e1 : ln6.pA e a p = a := if_neg he
      rw [e1]
      refine run_ex hmix ti_ok tp9_ok 999 false 400 [false] (fun ar lf => by conv => lhs; cbv) (allP ?_) ?_
      · simp only [conj, and_true, Int.ofNat_eq_natCast, arR, rcmp_lss, rcmp_gtr, rcmp_geq, rcmp_leq, rcmp_eql, rcmp_neq, decide_eq_true_eq, decide_eq_false_iff_not, ne_eq, not_true_eq_false, not_false_eq_true, Int.toNat_natCast, List.length_cons, List.length_nil]
        ((repeat' with_reducible apply And.intro) <;> first | omega | assumption | rfl | trivial)
      exact Run.fin ti_ok rfl rfl (HEnd.pack [0, 1] rfl rfl rfl rfl)
  · cases hs
def tp10 (lf : LN6) : Tbl := tbL [] [(139, nH (hU64 lf.toLN5.toLN4.toLN1.toLQm.toLE1.toLA)), (79, nH (hPart lf))]
theorem tp10_ok : TblOk Try.prog (tp10 ln6) := tbL_ok nofun (List.forall_mem_cons.2 ⟨u64_ok.nH, List.forall_mem_cons.2 ⟨part_ok.nH, nofun⟩⟩)
def hMU64 (lf : LN6) : HSpec := fun l bs => match l, bs with
  | [.one (.ptr 0 (.lit 0))], [⟨false, .lst [.ptr 1 (.lit 0), .int .i64 a]⟩, ⟨false, .lst [.str s, .int .i64 p, .int .i64 e]⟩] => some (.a (.one (.int .u64 (lf.get (lf.rT s p e 8)))), [⟨false, .lst [.ptr 1 (.lit 0), .int .i64 (lf.pA e a p)]⟩, ⟨false, .lst [.str s, .int .i64 (lf.rA s p e 8), .int .i64 (lf.rE s p e 8)]⟩], [lf.rOk s p])
  | _, _ => none
theorem mu64_ok : HOk Try.prog 108 (hMU64 ln6) := by
  refine .of_run (hc := (tp10 ln6).hc) Try.func108 rfl (by kernel_rfl) (by kernel_rfl) fun las lbs v lbs' ps hs hp w => ?_
  unfold hMU64 at hs
  split at hs
  · rename_i a s p e
    cases hs
    have h1 : ln6.rOk s p := hp (ln6.rOk s p) (by simp)
    refine run_ex hmix ti_ok tp10_ok 999 false 400 [] (fun ar lf => by conv => lhs; cbv) (allP ?_) ?_
    · exact ⟨h1, trivial⟩
    exact Run.ret ti_ok rfl rfl (HEnd.pack [0, 1] rfl rfl rfl rfl)
  · cases hs
end Go.Proofs.Ytlbllaocdilafaa
