import Derived.Test.YtlbllaocdilafaaQt
import Derived.Test.YtlbllaocdilafaaQh
import Derived.Test.YtlbllaocdilafaaQv
set_option linter.unusedSimpArgs false
set_option linter.unusedVariables false
namespace Go.Eng
open Go
structure LN9 extends LN8 where
  mf : LMf
def ln9 : LN9 where
  toLN8 := ln8
  mf := lmf
end Go.Eng
namespace Go.Proofs.Ytlbllaocdilafaa
open Go Go.Eng Go.Proofs Go.RowKit
attribute [local irreducible] CallOk HOk Run TIok rbin rcmp run1 updF shfF blitF
def tw9 (lf : LN9) : Tbl := tbL [(33, sAwake lf.toLN8), (34, sSame lf.toLN8.toLN7.toLN6.toLN5.toLN4.toLN1.toLQm), (35, sSame lf.toLN8.toLN7.toLN6.toLN5.toLN4.toLN1.toLQm), (36, sRef lf.mf)] []
theorem tw9_ok : TblOk Try.prog (tw9 ln9) := tbL_ok (List.forall_mem_cons.2 ⟨awake_ok, List.forall_mem_cons.2 ⟨same_ok, List.forall_mem_cons.2 ⟨rsame_ok, List.forall_mem_cons.2 ⟨ref_ok, nofun⟩⟩⟩⟩) nofun
def sLSame (lf : LN9) : ESpec := fun l => match l with
  | [.agg (.prt [.v s1 a]), .agg (.prt [.v s2 b])] => if shEq s1 MS && shEq s2 MS then some (.a (.one (.bool true)), [lf.mf.mFit a, lf.mf.mFit b]) else none
  | _ => none
set_option maxRecDepth 100000 in
set_option maxHeartbeats 4000000 in
theorem lsame_ok : CallOk Try.prog 7 (sLSame ln9) := by
  refine .of_run (hc := (tw9 ln9).hc) Try.func7 rfl (by kernel_rfl) (by kernel_rfl) fun xs v ps hs hp w => ?_
  unfold sLSame at hs
  split at hs
  · rename_i s1 a s2 b
    split at hs
    · rename_i hsh
      rw [Bool.and_eq_true] at hsh
      obtain rfl := shEq_eq hsh.1
      obtain rfl := shEq_eq hsh.2
      clear hsh
      cases hs
      have ha : mFit a := hp (ln9.mf.mFit a) (by simp)
      have hb : mFit b := hp (ln9.mf.mFit b) (by simp)
      clear hp
      refine run_ex hmix ti_ok tw9_ok 999 false 400 [true, true, true, true, true, true, true, true] (fun ar lf => by conv => lhs; cbv) (allP ?_) ?_
      · simp only [conj, and_true, Int.ofNat_eq_natCast, arR, rcmp_lss, rcmp_gtr, rcmp_geq, rcmp_leq, rcmp_eql, rcmp_neq, decide_eq_true_eq, decide_eq_false_iff_not, ne_eq, not_true_eq_false, not_false_eq_true, Int.toNat_natCast, List.length_cons, List.length_nil]
        (repeat' with_reducible apply And.intro) <;> first
          | exact ha
          | exact hb
          | exact ha.mOk
          | exact hb.mOk
          | trivial
      · refine Run.ret ti_ok rfl rfl (.a (.bool ?_))
        show ((eqD MS a b) == (eqD MS a b)) = true
        simp
    · cases hs
  · cases hs
end Go.Proofs.Ytlbllaocdilafaa
