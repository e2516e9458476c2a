import Derived.Test.YtegcdnjihnpolaaWx
import Derived.Test.YtegcdnjihnpolaaEh
import Derived.Test.YtegcdnjihnpolaaWu
import Derived.Test.YtegcdnjihnpolaaWr
set_option linter.unusedSimpArgs false
set_option linter.unusedVariables false
namespace Go.Eng
open Go
def sLaw2 (lf : LF) : ESpec := fun l => match arr2 l with
  | some (f, g) => some (.a (.one (.lbool true)), [lf.bd f, lf.bd g])
  | none => none
theorem lEq_zero {f : F} (hf : bd f) : arR.lEq [f 0, f 1, f 2, f 3] [0, 0, 0, 0] = decide (val f = 0) := by
  show ([f 0, f 1, f 2, f 3] == [0, 0, 0, 0]) = _
  rw [Bool.eq_iff_iff, beq_iff_eq, decide_eq_true_eq, val_zero hf]
  simp
theorem eqb_zero {f : F} {b : Bool} (hf : bd f) (h : decide (val f = 0) = b) : arR.lEq [f 0, f 1, f 2, f 3] [0, 0, 0, 0] = b := (lEq_zero hf).trans h
theorem eql_yes {x y : Int} (h : x = y) : rcmp .eql x y = true := by
  show (x == y) = true
  rw [h, beq_self_eq_true]
theorem nn_self (b : Bool) : (!(b == b)) = false := by cases b <;> rfl
theorem nl_self (l : List Int) : (!(arR.lEq l l)) = false := by
  show (!(l == l)) = false
  rw [beq_self_eq_true]; rfl
end Go.Eng
namespace Go.Proofs.Ytegcdnjihnpolaa
open Go Go.Eng Go.Proofs Go.RowKit
attribute [local irreducible] CallOk HOk Run TIok rbin rcmp run1 words val updF shfF blitF

def tb15 (lf : LF) : Tbl := tbL [(17, sAwake), (46, sAdd lf), (27, sAdd lf), (47, sSub lf), (48, sSub lf), (49, sMul lf), (50, sMul lf), (51, sCmp lf), (52, sCmp lf), (53, sNot lf), (54, sNot lf), (55, sZero lf), (56, sDiv lf), (57, sDiv2 lf)] []
theorem tb15_ok : TblOk Try.prog (tb15 lfR) := tbL_ok (by simpa using ⟨awake_ok, add_ok, radd_ok, sub_ok, rsub_ok, mul_ok, rmul_ok, wcmp_ok, rcmp_ok, not_ok, rnot_ok, zero_ok, div_ok, rdiv_ok⟩) (by simp)

set_option maxRecDepth 100000 in
theorem sums_ok : CallOk Try.prog 7 (sLaw2 lfR) := by
  refine .of_run (hc := (tb15 lfR).hc) Try.func7 rfl (by kernel_rfl) (by kernel_rfl) fun xs v ps hs hp w => ?_
  unfold sLaw2 at hs
  split at hs
  · rename_i f g h
    obtain rfl := arr2_some h
    cases hs
    have hf : bd f := hp (lfR.bd f) (by simp)
    have hg : bd g := hp (lfR.bd g) (by simp)
    clear hp h
    have hz : (!((lfR.wzero f) == arR.lEq [f 0, f 1, f 2, f 3] [0, 0, 0, 0])) = false := by
      rw [lEq_zero hf]; exact nn_self _
    by_cases h0 : val g = 0
    · have q0 : ∀ j, j < 4 → lfR.wdivQ f g j = words 0 j := fun j hj => by
        show words (val f / val g) j = _
        rw [h0, Int.ediv_zero]
      have r0 : ∀ j, j < 4 → lfR.wdivR f g j = words 0 j := fun j hj => by
        show words (if val g = 0 then 0 else _) j = _
        rw [if_pos h0]
      have e0 : ∀ F : F, (∀ j, j < 4 → F j = words 0 j) → arR.lEq [F 0, F 1, F 2, F 3] [0, 0, 0, 0] = true := fun F hF =>
        lEq4 (g := fun _ => 0) (fun j hj => (hF j hj).trans (zero_words j hj).symm)
      have eE : rcmp .eql (lfR.wdivE g) 40 = true := eql_yes (if_pos h0)
      refine run_ex hmix ti_ok tb15_ok 99 false (26 + 774) [false, false, false, false, false, false, false, false, false, true, true, true] (fun ar lf => exec_stage (by conv => lhs; cbv) (by conv => lhs; cbv)) (allP ?_) ?_
      · simp only [conj]
        and_intros <;> first | exact hf | exact hg | trivial | exact e0 _ q0 | exact e0 _ r0 | exact eqb_zero hg (decide_eq_true h0) | exact hz | exact nl_self _ | exact nn_self _ | exact neq_self _
      · exact Run.ret ti_ok rfl rfl (VLe.yes eE)
    · have eE : rcmp .eql (lfR.wdivE g) 0 = true := eql_yes (if_neg h0)
      refine run_ex hmix ti_ok tb15_ok 99 false (26 + 774) [false, false, false, false, false, false, false, false, false, false, true, true] (fun ar lf => exec_stage (by conv => lhs; cbv) (by conv => lhs; cbv)) (allP ?_) ?_
      · simp only [conj]
        and_intros <;> first | exact hf | exact hg | exact h0 | trivial | exact lEq4 (fun j _ => rfl) | exact eqb_zero hg (decide_eq_false h0) | exact hz | exact nl_self _ | exact nn_self _ | exact neq_self _
      · exact Run.ret ti_ok rfl rfl (VLe.yes eE)
  · cases hs
end Go.Proofs.Ytegcdnjihnpolaa
