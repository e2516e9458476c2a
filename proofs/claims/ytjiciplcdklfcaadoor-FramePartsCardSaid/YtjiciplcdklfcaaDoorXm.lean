import Derived.Test.YtjiciplcdklfcaaDoorFg
import Derived.SizedLaws
import Derived.ChangeArms
set_option linter.unusedSimpArgs false
set_option linter.unusedVariables false
namespace Go.Eng
open Go Go.RowKit
/-- a slice in a struct that came in is no longer than its weight bears -/
theorem struct_len {H : Type} {enc : TypeId × Value → H} {P : Program} {w : World} {sp : Nat → Bool} {held : Bool} {v : Value} {d : DataW H} {p : List MemPlace} {t e : TypeId} {fs : Array Field} {i : Nat} {f : Field} {ρ : Ren} {cs : List C} {s : Sh} {l : List D} {B : Nat}
    (ht : P.underlying t = some (.struct fs)) (hfi : fs[i]? = some f) (hfe : P.underlying f.type = some (.slice e)) (hc : P.cellsOf f.type = 1)
    (h : DataW.Trod enc P w 0 sp held t v d p) (hv : ARel ρ (.agg (.lst cs)) v) (hcs : cs[f.offset]? = some (.dat s l none))
    (hw : ∀ n ∈ d.weights P t, n ≤ B) : l.length * P.bytesOf e ≤ B := by
  obtain ⟨fuel, hf⟩ := h
  obtain ⟨arr, rfl, g2, g3⟩ := hv
  obtain ⟨u, a1, a2⟩ := g3 f.offset _ hcs
  obtain ⟨xs, n, -, hx, -, hlen, hfl⟩ := DataW.trod_struct ht hf
  have hd : d = .agg (xs.map (·.1)) := congrArg Prod.fst hx
  have hi : i < fs.size := (Array.getElem?_eq_some_iff.1 hfi).1
  have hxi := hfl i f hfi
  have hy : xs[i]? = some xs[i] := List.getElem?_eq_getElem (by omega)
  rw [hy] at hxi
  have hcell : ((Value.agg arr).cells.toList.drop f.offset).take (P.cellsOf f.type) = [u] := by
    rw [hc]
    have a3 : arr.toList[f.offset]? = some u := by simpa using a1
    show (arr.toList.drop f.offset).take 1 = [u]
    have hlt : f.offset < arr.toList.length := (List.getElem?_eq_some_iff.1 a3).1
    rw [List.drop_eq_getElem_cons hlt]
    have := (List.getElem?_eq_some_iff.1 a3).2
    simp [← this]
  rw [hcell] at hxi
  rcases DataW.trod_slice hfe hxi with ⟨q1, -⟩ | ⟨a, len, cap, elems, rest, n', -, q1, q2, -, -, -, q3, -⟩
  · simp only [List.cons.injEq, and_true] at q1
    rcases a2 with ⟨-, rfl⟩ | ⟨r, o, len, cap, e1, -⟩
    · simp
    · rw [q1] at e1; cases e1
  · simp only [List.cons.injEq, and_true] at q1
    rcases a2 with ⟨-, rfl⟩ | ⟨r, o, len', cap', e1, e2, -⟩
    · simp
    · rw [q1] at e1
      simp only [Value.slice.injEq] at e1
      have hm := hw ((elems.length + rest.length) * P.bytesOf e) (by
        rw [hd]
        simp only [DataW.weights, ht]
        refine DataW.weights_mem_each (j := i) (t := f.type) (d := xs[i].1) (by simp [hfi]) (by simp [hy]) _ ?_
        rw [q2]
        simp [DataW.weights, hfe])
      refine Nat.le_trans (Nat.mul_le_mul_right _ ?_) hm
      rw [e2, ← e1.2.1, ← q3]
      exact Nat.le_add_right _ _
theorem row_mk {l : List Int} {m : Nat} (h : l.length = m) : ((List.range m).map fun j => l.getD j 0) = l := by
  apply List.ext_getElem
  · simp [h]
  · intro i h1 h2
    simp only [List.getElem_map, List.getElem_range]
    rw [List.getD_eq_getElem?_getD, List.getElem?_eq_getElem h2]; rfl
theorem okD_two {a b : Sh} {d : D} (h : okD (.two a b) d) : ∃ x y, d = .pair x y ∧ okD a x ∧ okD b y := by
  cases d with
  | pair x y => exact ⟨x, y, rfl, h.1, h.2⟩
  | _ => exact absurd h id
theorem okD_int {k : IntKind} {d : D} (h : okD (.int k) d) : ∃ n : Int, d = .int n := by
  cases d with
  | int n => exact ⟨n, rfl⟩
  | _ => exact absurd h id
theorem okD_bool {d : D} (h : okD .bool d) : ∃ n, d = .bool n := by
  cases d with
  | bool n => exact ⟨n, rfl⟩
  | _ => exact absurd h id
theorem okD_str {d : D} (h : okD .str d) : ∃ n, d = .str n := by
  cases d with
  | str n => exact ⟨n, rfl⟩
  | _ => exact absurd h id
theorem okD_arr {k : IntKind} {m : Nat} {d : D} (h : okD (.arr k m) d) : ∃ l, d = .row l ∧ l.length = m := by
  cases d with
  | row l => exact ⟨l, rfl, h.1⟩
  | _ => exact absurd h id
theorem okD_sl {s : Sh} {d : D} (h : okD (.sl s) d) : ∃ l, d = .sl l ∧ l.length ≤ maxLen ∧ ∀ x ∈ l, okD s x := by
  cases d with
  | sl l => exact ⟨l, rfl, h.1, h.2⟩
  | _ => exact absurd h id
theorem okD_nrm : ∀ {s : Sh} {d : D}, okD s d → nrmD s d = d := by
  intro s
  induction s with
  | int k => intro d h; obtain ⟨n, rfl⟩ := okD_int h; rfl
  | bool => intro d h; obtain ⟨n, rfl⟩ := okD_bool h; rfl
  | str => intro d h; obtain ⟨n, rfl⟩ := okD_str h; rfl
  | arr k m => intro d h; obtain ⟨l, rfl, e⟩ := okD_arr h; exact congrArg D.row (row_mk e)
  | two a b iha ihb =>
    intro d h
    obtain ⟨x, y, rfl, hx, hy⟩ := okD_two h
    show D.pair (nrmD a x) (nrmD b y) = _
    rw [iha hx, ihb hy]
  | sl s ih => intro d h; obtain ⟨l, rfl, -⟩ := okD_sl h; rfl
theorem prt_rel {ρ : Ren} {s : Sh} {d : D} {v : Value} (h : ARel ρ (.agg (.lst (cellsD arR s d))) v) : ARel ρ (.agg (.prt [.v s d])) v := by
  obtain ⟨arr, rfl, h1, h2⟩ := h
  refine ⟨arr, rfl, ?_, fun j x hx => h2 j x ?_⟩
  · rw [h1]; simp [G.len, cellsP, List.append_nil]
  · simpa [G.at, cellsP, List.append_nil] using hx

/-- a text in a struct that came in is no longer than its weight bears -/
theorem struct_str {H : Type} {enc : TypeId × Value → H} {P : Program} {w : World} {sp : Nat → Bool} {held : Bool} {v : Value} {d : DataW H} {p : List MemPlace} {t : TypeId} {fs : Array Field} {i : Nat} {f : Field} {ρ : Ren} {cs : List C} {s : ByteArray} {B : Nat}
    (ht : P.underlying t = some (.struct fs)) (hfi : fs[i]? = some f) (hfe : P.underlying f.type = some .string) (hc : P.cellsOf f.type = 1)
    (h : DataW.Trod enc P w 0 sp held t v d p) (hv : ARel ρ (.agg (.lst cs)) v) (hcs : cs[f.offset]? = some (.str s))
    (hw : ∀ n ∈ d.weights P t, n ≤ B) : s.size ≤ B := by
  obtain ⟨fuel, hf⟩ := h
  obtain ⟨arr, rfl, g2, g3⟩ := hv
  obtain ⟨u, a1, a2⟩ := g3 f.offset _ hcs
  obtain ⟨xs, n, -, hx, -, hlen, hfl⟩ := DataW.trod_struct ht hf
  have hd : d = .agg (xs.map (·.1)) := congrArg Prod.fst hx
  have hi : i < fs.size := (Array.getElem?_eq_some_iff.1 hfi).1
  have hxi := hfl i f hfi
  have hy : xs[i]? = some xs[i] := List.getElem?_eq_getElem (by omega)
  rw [hy] at hxi
  have hcell : ((Value.agg arr).cells.toList.drop f.offset).take (P.cellsOf f.type) = [u] := by
    rw [hc]
    have a3 : arr.toList[f.offset]? = some u := by simpa using a1
    show (arr.toList.drop f.offset).take 1 = [u]
    have hlt : f.offset < arr.toList.length := (List.getElem?_eq_some_iff.1 a3).1
    rw [List.drop_eq_getElem_cons hlt]
    have := (List.getElem?_eq_some_iff.1 a3).2
    simp [← this]
  rw [hcell] at hxi
  obtain ⟨sb, q1, q2, -⟩ := DataW.trod_string hfe hxi
  simp only [List.cons.injEq, and_true] at q1
  have a2 : u = .string s := a2
  rw [q1] at a2
  cases a2
  have hm := hw s.data.toList.length (by
    rw [hd]
    simp only [DataW.weights, ht]
    refine DataW.weights_mem_each (j := i) (t := f.type) (d := xs[i].1) (by simp [hfi]) (by simp [hy]) _ ?_
    rw [q2]
    simp [DataW.weights])
  rw [Array.length_toList] at hm
  exact hm
theorem okD_strm {d : D} (h : okD .str d) : ∃ n : ByteArray, d = .str n ∧ n.size ≤ 9223372036854775807 := by
  cases d with
  | str n => exact ⟨n, rfl, Nat.le_trans h (by decide)⟩
  | _ => exact absurd h id
theorem u32_rng {a : Int} (h : IntKind.u32.min ≤ a ∧ a ≤ IntKind.u32.max) : 0 ≤ a ∧ a < 4294967296 := by
  have e1 : IntKind.u32.min = 0 := by decide
  have e2 : IntKind.u32.max = 4294967295 := by decide
  omega
end Go.Eng
