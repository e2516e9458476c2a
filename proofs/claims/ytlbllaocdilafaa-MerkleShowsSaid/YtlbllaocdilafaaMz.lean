import Derived.Test.YtlbllaocdilafaaFg
import Derived.Test.YtlbllaocdilafaaMa
set_option linter.unusedSimpArgs false
set_option linter.unusedVariables false
namespace Go.Eng
open Go
theorem hash_of {d : D} (h : okD (.arr .u8 32) d) : isHash d := by
  cases d with
  | row l =>
    obtain ⟨h1, h2⟩ := h
    exact ⟨l, rfl, h1, fun x hx => by
      have h3 := h2 x hx
      have e1 : IntKind.u8.min = 0 := by decide
      have e2 : IntKind.u8.max = 255 := by decide
      omega⟩
  | _ => exact h.elim
theorem int64_of {a : Int} (h : IntKind.i64.min ≤ a ∧ a ≤ IntKind.i64.max) : -9223372036854775808 ≤ a ∧ a < 9223372036854775808 := by
  have e1 : IntKind.i64.min = -9223372036854775808 := by decide
  have e2 : IntKind.i64.max = 9223372036854775807 := by decide
  omega
theorem len_max {n : Nat} (h : n ≤ maxLen) : n ≤ 9223372036854775807 := Nat.le_trans h (by decide)
end Go.Eng
namespace Go.Proofs.Ytlbllaocdilafaa
open Go Go.Eng Go.Proofs Go.RowKit
attribute [local irreducible] CallOk HOk Run TIok rbin rcmp run1 updF shfF blitF

end Go.Proofs.Ytlbllaocdilafaa
