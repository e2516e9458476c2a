import Derived.Test.YtegcdnjihnpolaaWo
set_option linter.unusedSimpArgs false
set_option linter.unusedVariables false
namespace Go.Eng
open Go Go.RowKit
/-- an array of integers that came in -/
theorem arr_arg {H : Type} {enc : TypeId × Value → H} {P : Program} {w : World} {base base2 : Nat} {r : Reach} {sp : Nat → Bool} {held : Bool} {v : Value} {d : DataW H} {p : List MemPlace} {t e : TypeId} {k : IntKind} {N : Nat}
    (ht : P.underlying t = some (.array N e)) (he : P.underlying e = some (.int k)) (hce : P.cellsOf e = 1) (hct : P.cellsOf t = N)
    (hok : Value.okWide P w r base t v) (h : DataW.Trod enc P w base2 sp held t v d p) : ∃ f : F, (∀ j, j < N → k.min ≤ f j ∧ f j < k.max + 1) ∧ ARel (fun _ => none) (.agg (.ints k (.lit N) f)) v := by
  simp only [Value.okWide, ht] at hok
  obtain ⟨cs, rfl, hsz, -⟩ := hok
  obtain ⟨fuel, hf⟩ := h
  obtain ⟨xs, m, -, -, hl, hn, hel⟩ := DataW.trod_array ht hf
  have key : ∀ i, i < N → ∃ n, cs[i]? = some (.int k n) ∧ k.min ≤ n ∧ n < k.max + 1 := by
    intro i hi
    have h1 := hel i hi
    rw [List.getElem?_eq_getElem (show i < xs.length by omega)] at h1
    obtain ⟨n, e1, -, hwf⟩ := DataW.trod_int (k := k) he h1
    refine ⟨n, ?_, ?_⟩
    · rw [hce, Nat.mul_one] at e1
      have e2 : ((Value.agg cs).cells.toList.drop i).take 1 = [Value.int k n] := e1
      have e3 : (((Value.agg cs).cells.toList.drop i).take 1)[0]? = some (Value.int k n) := by rw [e2]; rfl
      rw [List.getElem?_take_of_lt (by decide), List.getElem?_drop] at e3
      simpa [Value.cells] using e3
    · have : k.min ≤ n ∧ n ≤ k.max := by simpa [Lit.wf] using hwf
      omega
  have hsz4 : cs.size = N := by rw [hsz, hct]
  refine ⟨fun j => match cs[j]? with
    | some (.int _ n) => n
    | _ => 0, fun j hj => ?_, cs, rfl, hsz4, fun j x hx => ?_⟩
  · obtain ⟨n, e1, e2⟩ := key j hj
    simp only [e1]; exact e2
  · simp only [G.at] at hx
    by_cases hj : j < (Go.Eng.N.lit N).val
    · rw [if_pos hj] at hx
      obtain ⟨n, e1, e2⟩ := key j hj
      simp only [Option.some.injEq] at hx
      subst hx
      exact ⟨_, e1, by simp only [e1]; rfl⟩
    · rw [if_neg hj] at hx; cases hx
end Go.Eng
