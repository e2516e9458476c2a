import Derived.Test.YtjiciplcdklfcaaDoorFk
set_option linter.unusedSimpArgs false
set_option linter.unusedVariables false
namespace Go.Eng
open Go
section
variable {P : Program} {hc : FuncId → Bool} {W0 : World} {m0 : Nat} {fn : Func} {R : V → Heap → Prop}
theorem Run.ice {t : List V} {h : Heap} {T : List Item} {o : List Prop} {s : List Bool} (b i : Nat) (sh : Sh) (d : D) {g : G} (hi : t[i]? = some (.a (.one (.ptr b (.lit 0))))) (hb : h[b]? = some (some ⟨false, g⟩))
    (hg : ∀ (j : Nat) x, (cellsD arR sh d)[j]? = some x → g.at j = some x) (hgc : g.cells = true) (hm : m0 ≤ b)
    (hr : Run P hc W0 m0 fn R ⟨t.set i (.a (.one (.dp sh (nrmD sh d)))), h.set b (some ⟨true, .dead⟩), T, [], []⟩) : Run P hc W0 m0 fn R ⟨t, h, T, o, s⟩ := by
  intro hok hm0 ρ tmps w fr css hT hH
  obtain ⟨r, ofs, hρ, c, ty, fz, hw, hfz, hcell⟩ := hH.blk b _ hb hgc
  have hlt : b < h.length := (List.getElem?_eq_some_iff.1 hb).1
  have h1 := hH.dying hb
  have gne : g ≠ .dead := by rintro rfl; cases hgc
  have gnt : g ≠ .tail := by rintro rfl; cases hgc
  have get : ∀ n : Nat, (h.set b (some ⟨true, .dead⟩))[n]? = if b = n then some (some ⟨true, .dead⟩) else h[n]? := by
    intro n
    rw [List.getElem?_set]
    by_cases e : b = n
    · subst e; rw [if_pos rfl, if_pos hlt, if_pos rfl]
    · rw [if_neg e, if_neg e]
  have h2 := h1.freeze (zn := fun r' j => if r' = r then c[j]? else none) (fun r' j v hv => by
      try simp only at hv
      split at hv
      · rename_i e; subst e; exact ⟨c, ty, fz, hw, hv⟩
      · cases hv) (fun r' j v hv => by
      try simp only at hv
      split at hv
      · rename_i e
        subst e
        rcases hH.new b _ ofs hm hρ with h | ⟨n, b', o', k1, k2, k3, k4⟩
        · exact .inl h
        · refine .inr ⟨n, b', o', k1, ?_, k3, k4⟩
          rw [get, if_neg (by omega)]; exact k2
      · cases hv) (fun n b' r' o' j hn hro hp _ => by
      try simp only
      split
      · rename_i e
        subst e
        rw [get] at hn
        split at hn
        · simp only [Option.some.injEq] at hn
          subst hn
          cases hro
        · rename_i hne
          exact (hH.sep n b _ o' ofs b' ⟨false, g⟩ (fun e => hne e.symm) hn hro hb gne hp hρ).elim
      · rfl)
  refine .ext Ext.freeze (hr hok (by simpa using hm0) _ tmps w fr css ⟨by simpa using hT.1, fun k x hx => ?_⟩ h2)
  simp only at hx hT
  rw [List.getElem?_set] at hx
  by_cases hki : i = k
  · subst hki
    rw [if_pos rfl] at hx
    split at hx
    · simp only [Option.some.injEq] at hx
      subst hx
      obtain ⟨u, a1, r1, o1, a2, a3⟩ := hT.2 i _ hi
      rw [hρ] at a2
      simp only [Option.some.injEq, Prod.mk.injEq] at a2
      obtain ⟨rfl, rfl⟩ := a2
      refine ⟨u, a1, r, ofs, by rw [a3]; rfl, nrm_rel fun j y hy => ?_⟩
      obtain ⟨v, e1, e2⟩ := hcell j y (hg j y hy)
      refine ⟨v, freeze_new (hH.zsep b ⟨false, g⟩ r ofs (ofs + j) hb rfl hρ (fun e => absurd e gnt)) ?_, e2.ext Ext.freeze.toSub⟩
      simp only [if_pos]
      exact e1
    · cases hx
  · rw [if_neg hki] at hx
    obtain ⟨u, a1, a2⟩ := hT.2 k x hx
    exact ⟨u, a1, a2.ext Ext.freeze.toSub⟩
end
/-- parts written out in cells -/
def A.unp : A → A
  | .agg (.prt ps) => .agg (.lst (cellsP arR ps))
  | x => x
theorem A.unp_rel {ρ : Ren} {x : A} {v : Value} (h : ARel ρ x v) : ARel ρ x.unp v := by
  cases x with
  | one c => exact h
  | agg g =>
    cases g with
    | prt ps => exact h
    | _ => exact h
def uP (s : ESpec) : ESpec := fun l => s (l.map A.unp)
theorem CallOk.uP {P : Program} {f : FuncId} {s : ESpec} (h : CallOk P f s) : CallOk P f (uP s) := by
  unfold CallOk at h ⊢
  intro args v ps hs hp z args' w hz ha
  refine h _ v ps hs hp z args' w hz ⟨by rw [ha.1]; simp, fun j x hx => ?_⟩
  simp only [List.getElem?_map, Option.map_eq_some_iff] at hx
  obtain ⟨y, hy, rfl⟩ := hx
  obtain ⟨u, h1, h2⟩ := ha.2 j y hy
  exact ⟨u, h1, A.unp_rel h2⟩
end Go.Eng
