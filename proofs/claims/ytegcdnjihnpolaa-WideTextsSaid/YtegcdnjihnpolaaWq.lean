import Derived.Test.YtegcdnjihnpolaaWn
import Derived.Test.YtegcdnjihnpolaaWp
set_option linter.unusedSimpArgs false
set_option linter.unusedVariables false
namespace Go.Eng
open Go
theorem VLe.yes {b : Bool} (h : b = true) : VLe (.a (.one (.bool b))) (.a (.one (.lbool true))) := by
  intro ρ u hu
  have hu : u = .bool b := hu
  show u = .bool true
  rw [hu, h]
theorem VLe.yes' {b : Bool} (h : b = true) : VLe (.a (.one (.lbool b))) (.a (.one (.lbool true))) := by
  intro ρ u hu
  have hu : u = .bool b := hu
  show u = .bool true
  rw [hu, h]
def sAwake : ESpec := fun l => match l with
  | [] => some (.a (.one (.lbool true)), [])
  | _ => none
end Go.Eng
namespace Go.Proofs.Ytegcdnjihnpolaa
open Go Go.Eng Go.Proofs Go.RowKit
attribute [local irreducible] CallOk HOk Run TIok

def tb9 (lf : LF) : Tbl := tbL [(93, sFrom lf), (46, sAdd lf), (56, sDiv lf)] []
theorem tb9_ok : TblOk Try.prog (tb9 lfR) := tbL_ok (by simpa using ⟨from_ok, add_ok, div_ok⟩) (by simp)

set_option maxRecDepth 100000 in
theorem awake_ok : CallOk Try.prog 17 sAwake := by
  refine .eval (tb := tb9) hmix ti_ok tb9_ok Try.func17 rfl (by kernel_rfl) (by kernel_rfl) fun xs v ps hs hp => ?_
  unfold sAwake at hs
  split at hs
  · cases hs
    refine ⟨800, [true, true, true, true], _, fun ar lf => by conv => lhs; cbv, allP ?_, VLe.yes ?_⟩
    · simp only [conj]
      refine ⟨?_, ?_, ?_, ?_, ?_, ?_, ?_, ?_, ?_, ?_, ?_, ?_, trivial⟩
      all_goals first | (exact words_bd _) | (show (0 : Int) ≤ _ ∧ _ < _; decide) | (show _ = true; decide +kernel) | (show _ = false; decide +kernel)
    · decide +kernel
  · cases hs
end Go.Proofs.Ytegcdnjihnpolaa
