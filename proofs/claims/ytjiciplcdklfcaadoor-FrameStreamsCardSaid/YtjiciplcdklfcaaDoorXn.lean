import Derived.Test.YtjiciplcdklfcaaDoorGr
import Derived.Test.YtjiciplcdklfcaaDoorXm
set_option linter.unusedSimpArgs false
set_option linter.unusedVariables false
namespace Go.Eng
open Go
theorem parts_of {l : List D} (h : okD (.sl (.two .str (.two (.int .i64) .bool))) (.sl l)) : partsOk l := by
  refine ⟨Nat.le_trans h.1 (by decide), fun d hd => ?_⟩
  obtain ⟨x, y, rfl, g1, g2⟩ := okD_two (h.2 d hd)
  obtain ⟨tx, rfl, hz⟩ := okD_strm g1
  obtain ⟨u, v, rfl, g3, g4⟩ := okD_two g2
  obtain ⟨n, rfl⟩ := okD_int g3
  obtain ⟨cp, rfl⟩ := okD_bool g4
  exact ⟨tx, n, cp, rfl, hz⟩
end Go.Eng
namespace Go.Proofs.YtjiciplcdklfcaaDoor
open Go Go.Eng Go.Proofs Go.RowKit
attribute [local irreducible] CallOk HOk Run TIok rbin rcmp run1 updF shfF blitF

end Go.Proofs.YtjiciplcdklfcaaDoor
