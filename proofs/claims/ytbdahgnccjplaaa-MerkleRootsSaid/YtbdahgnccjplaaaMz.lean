import Derived.Test.YtbdahgnccjplaaaFg
import Derived.Test.YtbdahgnccjplaaaMa
set_option linter.unusedSimpArgs false
set_option linter.unusedVariables false
namespace Go.Eng
open Go
theorem hash_of {d : D} (h : okD (.arr .u8 32) d) : isHash d := by
  cases d with
  | row l =>
    obtain ⟨h1, h2⟩ := h
    exact ⟨l, rfl, h1, fun x hx => by
      have h3 := h2 x hx
      have e1 : IntKind.u8.min = 0 := by decide
      have e2 : IntKind.u8.max = 255 := by decide
      omega⟩
  | _ => exact h.elim
end Go.Eng
namespace Go.Proofs.Ytbdahgnccjplaaa
open Go Go.Eng Go.Proofs Go.RowKit
attribute [local irreducible] CallOk HOk Run TIok rbin rcmp run1 updF shfF blitF

end Go.Proofs.Ytbdahgnccjplaaa
