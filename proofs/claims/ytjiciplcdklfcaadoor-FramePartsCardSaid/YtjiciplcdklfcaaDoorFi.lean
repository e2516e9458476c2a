import Derived.Test.YtjiciplcdklfcaaDoorFh
set_option linter.unusedSimpArgs false
set_option linter.unusedVariables false
namespace Go.Eng
open Go
open Classical in
theorem HOk.nrm {P : Program} {f : FuncId} {s : HSpec} (hs : ∀ l bs r, s l bs = some r → s (l.map A.norm) bs = some r) (h : HOk P f (fun l bs => if l.map A.norm = l then s l bs else none)) : HOk P f s := by
  unfold HOk at h ⊢
  intro las lbs v lbs' ps hl hp
  have e : (las.map A.norm).map A.norm = las.map A.norm := by
    rw [List.map_map]; exact List.map_congr_left (fun x _ => A.norm_norm x)
  have h2 := h (las.map A.norm) lbs v lbs' ps (by simp only [if_pos e]; exact hs las lbs _ hl) hp
  intro ρ args w ha
  refine h2 ρ args w ⟨by rw [ha.1]; simp, fun j x hx => ?_⟩
  simp only [List.getElem?_map, Option.map_eq_some_iff] at hx
  obtain ⟨y, hy, rfl⟩ := hx
  obtain ⟨u, h1, h2⟩ := ha.2 j y hy
  exact ⟨u, h1, A.norm_rel h2⟩
/-- what a run on handed blocks comes to, by renaming -/
theorem HEnd.pack {m0 : Nat} {v x : V} {lbs : List Blk} {h : Heap} (ns : List Nat) (hnd : nodupB ns = true) (hpre : preB m0 ns 0 = true) (hB : packH ns h = some lbs) (hv : mapV (renC ns) x = some v) : HEnd m0 v lbs x h := by
  obtain ⟨h1, h2⟩ := BLe.of_pack hB
  refine ⟨ns, nodupB_sem hnd, fun j hj => ?_, h2, .of_map hv, h1⟩
  have := preB_sem hpre j hj
  simpa using this
theorem HEnd.packV {m0 : Nat} {v x : V} {lbs : List Blk} {h : Heap} (ns : List Nat) (hnd : nodupB ns = true) (hpre : preB m0 ns 0 = true) (hB : packH ns h = some lbs) (hv : VLeK ns x v) : HEnd m0 v lbs x h := by
  obtain ⟨h1, h2⟩ := BLe.of_pack hB
  refine ⟨ns, nodupB_sem hnd, fun j hj => ?_, h2, hv, h1⟩
  have := preB_sem hpre j hj
  simpa using this
def CLes : List C → List C → Prop
  | [], [] => True
  | c :: cs, d :: ds => ALe (.one c) (.one d) ∧ CLes cs ds
  | _, _ => False
theorem CLes.get : ∀ {cs ds : List C}, CLes cs ds → cs.length = ds.length ∧ ∀ (j : Nat) y, ds[j]? = some y → ∃ x, cs[j]? = some x ∧ ALe (.one x) (.one y)
  | [], [], _ => ⟨rfl, fun j y h => by simp at h⟩
  | c :: cs, d :: ds, ⟨h1, h2⟩ => by
    obtain ⟨e1, e2⟩ := CLes.get h2
    refine ⟨by simp [e1], fun j y h => ?_⟩
    cases j with
    | zero => simp at h; subst h; exact ⟨c, by simp, h1⟩
    | succ j => simp at h; simpa using e2 j y h
  | [], _ :: _, h => h.elim
  | _ :: _, [], h => h.elim
theorem ALe.lst {cs ds : List C} (h : CLes cs ds) : ALe (.agg (.lst cs)) (.agg (.lst ds)) := by
  obtain ⟨h1, h2⟩ := h.get
  rintro ρ u ⟨arr, rfl, h3, h4⟩
  refine ⟨arr, rfl, h3.trans h1, fun j y hy => ?_⟩
  obtain ⟨x, e1, e2⟩ := h2 j y hy
  obtain ⟨v, e3, e4⟩ := h4 j x e1
  exact ⟨v, e3, e2 ρ v e4⟩
end Go.Eng
