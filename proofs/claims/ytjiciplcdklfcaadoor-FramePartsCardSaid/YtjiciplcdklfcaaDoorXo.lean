import Derived.Test.YtjiciplcdklfcaaDoorGp
import Derived.Test.YtjiciplcdklfcaaDoorXm
set_option linter.unusedSimpArgs false
set_option linter.unusedVariables false
namespace Go.Eng
open Go
/-- a slice that came in is no longer than its weight bears -/
theorem slice_len {H : Type} {enc : TypeId × Value → H} {P : Program} {w : World} {sp : Nat → Bool} {held : Bool} {v : Value} {d : DataW H} {p : List MemPlace} {t e : TypeId} {ρ : Ren} {s : Sh} {l : List D} {B : Nat}
    (ht : P.underlying t = some (.slice e)) (h : DataW.Trod enc P w 0 sp held t v d p) (hv : CRel ρ (.dat s l none) v)
    (hw : ∀ n ∈ d.weights P t, n ≤ B) : l.length * P.bytesOf e ≤ B := by
  obtain ⟨fuel, hf⟩ := h
  rcases hv with ⟨rfl, rfl⟩ | ⟨r, o, len, cap, rfl, e2, -⟩
  · simp
  · rcases DataW.trod_slice ht hf with ⟨q1, -⟩ | ⟨a, len', cap', elems, rest, n', -, q1, q2, -, -, -, q3, -⟩
    · simp [Value.cells] at q1
    · simp only [Value.cells, List.cons.injEq, and_true, Value.slice.injEq] at q1
      have hd : d = .slice (elems.map (·.1)) (rest.map (·.1)) := congrArg Prod.fst q2
      have hm := hw ((elems.length + rest.length) * P.bytesOf e) (by rw [hd]; simp [DataW.weights, ht])
      refine Nat.le_trans (Nat.mul_le_mul_right _ ?_) hm
      rw [e2, q1.2.1, ← q3]
      exact Nat.le_add_right _ _
theorem frames_of {l : List D} (h : okD (.sl (.two .str .str)) (.sl l)) : ∀ d ∈ l, isFr d := by
  intro d hd
  obtain ⟨x, y, rfl, g1, g2⟩ := okD_two (h.2 d hd)
  obtain ⟨c, rfl, hc⟩ := okD_strm g1
  obtain ⟨p, rfl, hp⟩ := okD_strm g2
  exact ⟨c, p, rfl, hc, hp⟩
end Go.Eng
namespace Go.Proofs.YtjiciplcdklfcaaDoor
open Go Go.Eng Go.Proofs Go.RowKit
attribute [local irreducible] CallOk HOk Run TIok rbin rcmp run1 updF shfF blitF

end Go.Proofs.YtjiciplcdklfcaaDoor
