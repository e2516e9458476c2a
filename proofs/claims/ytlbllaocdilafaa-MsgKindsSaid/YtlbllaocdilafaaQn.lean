import Derived.Test.YtlbllaocdilafaaQm
import Derived.Test.YtlbllaocdilafaaPc
set_option linter.unusedSimpArgs false
set_option linter.unusedVariables false
namespace Go.Eng
open Go
def nonD (d : D) : Int := d.snd!.snd!.snd!.fst!.int!
structure LN5 extends LN4 where
  non : D → Int
def ln5 : LN5 where
  toLN4 := ln4
  non := nonD
end Go.Eng
namespace Go.Proofs.Ytlbllaocdilafaa
open Go Go.Eng Go.Proofs Go.RowKit
attribute [local irreducible] CallOk HOk Run TIok rbin rcmp run1 updF shfF blitF
def tn0 (lf : LN5) : Tbl := tbL [] [(91, nH (hWU64 lf.toLN4.toLN1.toLQm.toLE1.toLA))]
theorem tn0_ok : TblOk Try.prog (tn0 ln5) := tbL_ok nofun (List.forall_mem_cons.2 ⟨wu64_ok.nH, nofun⟩)
def hPut5 (lf : LN5) : HSpec := fun l bs => match l, bs with
  | [.one (.ptr 0 (.lit 0)), .agg (.prt [.v sh d])], [⟨false, .lst [.adr 0 167, .bf s 1 5]⟩, ⟨false, .tail⟩] => if shEq sh MS then some (.tup [], [⟨false, .lst [.adr 0 167, .bf (lf.cat s (lf.lay (lf.non d) 8)) 2 5]⟩, ⟨true, .dead⟩, ⟨false, .tail⟩], [lf.ping d, lf.layOk (lf.non d) 8, lf.fits s (lf.lay (lf.non d) 8)]) else none
  | _, _ => none
set_option maxRecDepth 100000 in
set_option maxHeartbeats 4000000 in
theorem put5_ok : HOk Try.prog 70 (hPut5 ln5) := by
  refine .of_run (hc := (tn0 ln5).hc) Try.func70 rfl (by kernel_rfl) (by kernel_rfl) fun las lbs v lbs' ps hs hp w => ?_
  unfold hPut5 at hs
  split at hs
  · rename_i sh d s
    split at hs
    · rename_i hsh
      obtain rfl := shEq_eq hsh
      clear hsh
      cases hs
      obtain ⟨k, n, hk, rfl⟩ : isPing d := hp (ln5.ping d) (by simp)
      have h1 : ln5.layOk n 8 := hp (ln5.layOk (ln5.non (kindD k n)) 8) (by simp)
      have h2 : ln5.fits s (ln5.lay n 8) := hp (ln5.fits s (ln5.lay (ln5.non (kindD k n)) 8)) (by simp)
      clear hp
      by_cases h5 : k = 5
      · refine run_ex hmix ti_ok tn0_ok 999 false 400 [false, true, true] (fun ar lf => by conv => lhs; cbv) (allP ?_) ?_
        · simp only [conj, and_true, Int.ofNat_eq_natCast, arR, rcmp_lss, rcmp_gtr, rcmp_geq, rcmp_leq, rcmp_eql, rcmp_neq, decide_eq_true_eq, decide_eq_false_iff_not, ne_eq, not_true_eq_false, not_false_eq_true, Int.toNat_natCast, List.length_cons, List.length_nil, dF_m, dS_m, dI_m]
          trace_state
          ((repeat' with_reducible apply And.intro) <;> first | omega | assumption | rfl | trivial)
        exact Run.fin ti_ok rfl rfl (HEnd.pack [0, 1, 3] rfl rfl rfl rfl)
      · refine run_ex hmix ti_ok tn0_ok 999 false 400 [false, false, true, true] (fun ar lf => by conv => lhs; cbv) (allP ?_) ?_
        · simp only [conj, and_true, Int.ofNat_eq_natCast, arR, rcmp_lss, rcmp_gtr, rcmp_geq, rcmp_leq, rcmp_eql, rcmp_neq, decide_eq_true_eq, decide_eq_false_iff_not, ne_eq, not_true_eq_false, not_false_eq_true, Int.toNat_natCast, List.length_cons, List.length_nil, dF_m, dS_m, dI_m]
          ((repeat' with_reducible apply And.intro) <;> first | omega | assumption | rfl | trivial)
        exact Run.fin ti_ok rfl rfl (HEnd.pack [0, 1, 3] rfl rfl rfl rfl)
    · cases hs
  · cases hs
end Go.Proofs.Ytlbllaocdilafaa
