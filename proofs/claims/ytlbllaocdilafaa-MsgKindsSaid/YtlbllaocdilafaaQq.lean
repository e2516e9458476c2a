import Derived.Test.YtlbllaocdilafaaQp
set_option linter.unusedSimpArgs false
set_option linter.unusedVariables false
namespace Go.Proofs.Ytlbllaocdilafaa
open Go Go.Eng Go.Proofs Go.RowKit
attribute [local irreducible] CallOk HOk Run TIok rbin rcmp run1 updF shfF blitF
def tq0a (lf : LN6) : Tbl := tbL [] [(108, nH (hMU64 lf))]
theorem tq0a_ok : TblOk Try.prog (tq0a ln6) := tbL_ok nofun (List.forall_mem_cons.2 ⟨mu64_ok.nH, nofun⟩)
def hTake5 (lf : LN6) : HSpec := fun l bs => match l, bs with
  | [.one (.ptr 0 (.lit 0)), .one (.ptr 1 (.lit 0))], [⟨false, .lst [.ptr 2 (.lit 0), .int .i64 a]⟩, ⟨false, .prt [.c (.int .i64 k), .c (.int .u32 v1), .c (.int .u64 v2), .c (.int .u64 n), .c (.int .i64 v4), .v s5 v5, .v s6 v6, .c (.str v7), .c (.int .u32 v8), .c (.bool v9), .c (.bool v10), .c .nsl, .c .nsl, .c .nsl, .v s14 v14, .v s15 v15, .c .nsl, .c (.str v17), .c (.str v18), .c .nsl, .c .nsl, .c .nsl, .c .nsl]⟩, ⟨false, .lst [.str s, .int .i64 p, .int .i64 e]⟩] => some (.tup [], [⟨false, .lst [.ptr 2 (.lit 0), .int .i64 (lf.pA e a p)]⟩, ⟨false, .prt [.c (.int .i64 k), .c (.int .u32 v1), .c (.int .u64 v2), .c (.int .u64 (lf.get (lf.rT s p e 8))), .c (.int .i64 v4), .v s5 v5, .v s6 v6, .c (.str v7), .c (.int .u32 v8), .c (.bool v9), .c (.bool v10), .c .nsl, .c .nsl, .c .nsl, .v s14 v14, .v s15 v15, .c .nsl, .c (.str v17), .c (.str v18), .c .nsl, .c .nsl, .c .nsl, .c .nsl]⟩, ⟨false, .lst [.str s, .int .i64 (lf.rA s p e 8), .int .i64 (lf.rE s p e 8)]⟩], [lf.rOk s p, lf.n56 k])
  | _, _ => none
set_option maxRecDepth 100000 in
set_option maxHeartbeats 4000000 in
theorem take5_ok : HOk Try.prog 78 (hTake5 ln6) := by
  refine .of_run (hc := (tq0a ln6).hc) Try.func78 rfl (by kernel_rfl) (by kernel_rfl) fun las lbs v lbs' ps hs hp w => ?_
  unfold hTake5 at hs
  split at hs
  · rename_i a k v1 v2 n v4 s5 v5 s6 v6 v7 v8 v9 v10 s14 v14 s15 v15 v17 v18 s p e
    cases hs
    have h1 : ln6.rOk s p := hp (ln6.rOk s p) (by simp)
    have hk : k = 5 ∨ k = 6 := hp (ln6.n56 k) (by simp)
    clear hp
    by_cases h5 : k = 5
    · refine run_ex hmix ti_ok tq0a_ok 999 false 400 [false, true, true] (fun ar lf => by conv => lhs; cbv) (allP ?_) ?_
      · simp only [conj, and_true, Int.ofNat_eq_natCast, arR, rcmp_lss, rcmp_gtr, rcmp_geq, rcmp_leq, rcmp_eql, rcmp_neq, decide_eq_true_eq, decide_eq_false_iff_not, ne_eq, not_true_eq_false, not_false_eq_true, Int.toNat_natCast, List.length_cons, List.length_nil, dF_m, dS_m, dI_m]
        ((repeat' with_reducible apply And.intro) <;> first | omega | assumption | rfl | trivial)
      exact Run.fin ti_ok rfl rfl (HEnd.pack [0, 1, 2] rfl rfl rfl rfl)
    · refine run_ex hmix ti_ok tq0a_ok 999 false 400 [false, false, true, true] (fun ar lf => by conv => lhs; cbv) (allP ?_) ?_
      · simp only [conj, and_true, Int.ofNat_eq_natCast, arR, rcmp_lss, rcmp_gtr, rcmp_geq, rcmp_leq, rcmp_eql, rcmp_neq, decide_eq_true_eq, decide_eq_false_iff_not, ne_eq, not_true_eq_false, not_false_eq_true, Int.toNat_natCast, List.length_cons, List.length_nil, dF_m, dS_m, dI_m]
        ((repeat' with_reducible apply And.intro) <;> first | omega | assumption | rfl | trivial)
      exact Run.fin ti_ok rfl rfl (HEnd.pack [0, 1, 2] rfl rfl rfl rfl)
  · cases hs
end Go.Proofs.Ytlbllaocdilafaa
