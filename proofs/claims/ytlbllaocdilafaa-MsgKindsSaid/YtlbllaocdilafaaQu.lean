import Derived.Test.YtlbllaocdilafaaQk
set_option linter.unusedSimpArgs false
set_option linter.unusedVariables false
namespace Go.Eng
open Go
theorem fit_net {x : D} (h : nrmD NS x = x) : nFit x := by
  refine ⟨⟨x.fst!.int!, x.snd!.fst!.int!, (List.range 16).map fun j => x.snd!.snd!.fst!.row!.getD j 0, x.snd!.snd!.snd!.int!⟩, ?_, by simp⟩
  exact h.symm
/-- a message that fits its shape in all its parts, and whose lists may be made anew -/
def mFit (d : D) : Prop := ∃ m : Ms, d = m.D ∧ m.ok ∧ (∀ x ∈ m.addrs, nrmD (.two (.int .u32) (.two (.int .u64) (.two (.arr .u8 16) (.int .u16)))) x = x) ∧ m.addrs.length * 40 ≤ 140737488351232 ∧ (∀ x ∈ m.items, nrmD (.two (.int .u32) (.arr .u8 32)) x = x) ∧ m.items.length * 36 ≤ 140737488351232 ∧ (∀ x ∈ m.hashes, nrmD (.arr .u8 32) x = x) ∧ m.hashes.length * 32 ≤ 140737488351232 ∧ (∀ x ∈ m.heads, nrmD (.str) x = x) ∧ m.heads.length * 16 ≤ 140737488351232 ∧ (∀ x ∈ m.shorts, nrmD (.int .u64) x = x) ∧ m.shorts.length * 8 ≤ 140737488351232 ∧ (∀ x ∈ m.filled, nrmD (.two (.int .i64) .str) x = x) ∧ m.filled.length * 24 ≤ 140737488351232 ∧ (∀ x ∈ m.places, nrmD (.int .i64) x = x) ∧ m.places.length * 8 ≤ 140737488351232 ∧ (∀ x ∈ m.raws, nrmD (.str) x = x) ∧ m.raws.length * 16 ≤ 140737488351232
theorem mFit.mOk {d : D} (h : mFit d) : mOk d := by
  obtain ⟨m, h1, h2, -⟩ := h
  exact ⟨m, h1, h2⟩
end Go.Eng
namespace Go.Proofs.Ytlbllaocdilafaa
open Go Go.Eng Go.Proofs Go.RowKit
attribute [local irreducible] CallOk HOk Run TIok rbin rcmp run1 updF shfF blitF

end Go.Proofs.Ytlbllaocdilafaa
