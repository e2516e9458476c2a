import Derived.Test.YtlbllaocdilafaaFg
import Derived.SizedLaws
set_option linter.unusedSimpArgs false
set_option linter.unusedVariables false
namespace Go.Eng
open Go Go.RowKit
/-- a slice in a struct that came in is no longer than its weight bears -/
theorem struct_len {H : Type} {enc : TypeId × Value → H} {P : Program} {w : World} {sp : Nat → Bool} {held : Bool} {v : Value} {d : DataW H} {p : List MemPlace} {t e : TypeId} {fs : Array Field} {i : Nat} {f : Field} {ρ : Ren} {cs : List C} {s : Sh} {l : List D} {B : Nat}
    (ht : P.underlying t = some (.struct fs)) (hfi : fs[i]? = some f) (hfe : P.underlying f.type = some (.slice e)) (hc : P.cellsOf f.type = 1)
    (h : DataW.Trod enc P w 0 sp held t v d p) (hv : ARel ρ (.agg (.lst cs)) v) (hcs : cs[f.offset]? = some (.dat s l none))
    (hw : ∀ n ∈ d.weights P t, n ≤ B) : l.length * P.bytesOf e ≤ B := by
  obtain ⟨fuel, hf⟩ := h
  obtain ⟨arr, rfl, g2, g3⟩ := hv
  obtain ⟨u, a1, a2⟩ := g3 f.offset _ hcs
  obtain ⟨xs, n, -, hx, -, hlen, hfl⟩ := DataW.trod_struct ht hf
  have hd : d = .agg (xs.map (·.1)) := congrArg Prod.fst hx
  have hi : i < fs.size := (Array.getElem?_eq_some_iff.1 hfi).1
  have hxi := hfl i f hfi
  have hy : xs[i]? = some xs[i] := List.getElem?_eq_getElem (by omega)
  rw [hy] at hxi
  have hcell : ((Value.agg arr).cells.toList.drop f.offset).take (P.cellsOf f.type) = [u] := by
    rw [hc]
    have a3 : arr.toList[f.offset]? = some u := by simpa using a1
    show (arr.toList.drop f.offset).take 1 = [u]
    have hlt : f.offset < arr.toList.length := (List.getElem?_eq_some_iff.1 a3).1
    rw [List.drop_eq_getElem_cons hlt]
    have := (List.getElem?_eq_some_iff.1 a3).2
    simp [← this]
  rw [hcell] at hxi
  rcases DataW.trod_slice hfe hxi with ⟨q1, -⟩ | ⟨a, len, cap, elems, rest, n', -, q1, q2, -, -, -, q3, -⟩
  · simp only [List.cons.injEq, and_true] at q1
    rcases a2 with ⟨-, rfl⟩ | ⟨r, o, len, cap, e1, -⟩
    · simp
    · rw [q1] at e1; cases e1
  · simp only [List.cons.injEq, and_true] at q1
    rcases a2 with ⟨-, rfl⟩ | ⟨r, o, len', cap', e1, e2, -⟩
    · simp
    · rw [q1] at e1
      simp only [Value.slice.injEq] at e1
      have hm := hw ((elems.length + rest.length) * P.bytesOf e) (by
        rw [hd]
        simp only [DataW.weights, ht]
        refine DataW.weights_mem_each (j := i) (t := f.type) (d := xs[i].1) (by simp [hfi]) (by simp [hy]) _ ?_
        rw [q2]
        simp [DataW.weights, hfe])
      refine Nat.le_trans (Nat.mul_le_mul_right _ ?_) hm
      rw [e2, ← e1.2.1, ← q3]
      exact Nat.le_add_right _ _
end Go.Eng
