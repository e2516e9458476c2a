import Derived.Test.YtjiciplcdklfcaaDoorFi
import Derived.Test.YtjiciplcdklfcaaDoorFh
set_option linter.unusedSimpArgs false
set_option linter.unusedVariables false
namespace Go.Eng
open Go
section
variable {P : Program} {ρ : Ren}
/-! an aggregate in parts as one frozen value -/
def packHd (s : Sh) : List Pt → Option (D × List Pt)
  | .v s' d :: l => if shEq s' s then some (d, l) else none
  | .c x :: l => (encC s x).map fun d => (d, l)
  | [] => none
def packD : Sh → List Pt → Option (D × List Pt)
  | .two a b, ps => match packHd (.two a b) ps with
    | some r => some r
    | none => match packD a ps with
      | some (x, ps') => (match packD b ps' with
        | some (y, ps'') => some (.pair x y, ps'')
        | none => none)
      | none => none
  | .int k, ps => packHd (.int k) ps
  | .bool, ps => packHd .bool ps
  | .str, ps => packHd .str ps
  | .arr k m, ps => packHd (.arr k m) ps
  | .sl s, ps => packHd (.sl s) ps
/-- the cells of xs say what those of ys say -/
def CsLe (xs ys : List C) : Prop := ys.length = xs.length ∧ ∀ (j : Nat) y, ys[j]? = some y → ∃ x, xs[j]? = some x ∧ ∀ (ρ : Ren) v, CRel ρ x v → CRel ρ y v
theorem CsLe.refl (xs : List C) : CsLe xs xs := ⟨rfl, fun j y h => ⟨y, h, fun _ _ h => h⟩⟩
theorem CsLe.app {a b c d : List C} (h1 : CsLe a b) (h2 : CsLe c d) : CsLe (a ++ c) (b ++ d) := by
  refine ⟨by rw [List.length_append, List.length_append, h1.1, h2.1], fun j y hy => ?_⟩
  rw [List.getElem?_append] at hy
  rw [List.getElem?_append, ← h1.1]
  split
  · rename_i hj
    rw [if_pos hj] at hy
    exact h1.2 j y hy
  · rename_i hj
    rw [if_neg hj] at hy
    exact h2.2 _ y hy
theorem encC_colC {s : Sh} {x : C} {d : D} (h : encC s x = some d) : cellsD arR s d = [colC arR s d] := by
  cases s with
  | arr => simp [encC] at h
  | two => simp [encC] at h
  | _ => rfl
theorem packHd_spec {s : Sh} {ps l : List Pt} {d : D} (h : packHd s ps = some (d, l)) : ∃ cs, cellsP arR ps = cs ++ cellsP arR l ∧ CsLe cs (cellsD arR s d) := by
  unfold packHd at h
  split at h
  · split at h
    · rename_i he
      obtain rfl := shEq_eq he
      simp only [Option.some.injEq, Prod.mk.injEq] at h
      obtain ⟨rfl, rfl⟩ := h
      exact ⟨_, rfl, .refl _⟩
    · cases h
  · rename_i x l'
    simp only [Option.map_eq_some_iff, Prod.mk.injEq] at h
    obtain ⟨d', h1, rfl, rfl⟩ := h
    refine ⟨[x], rfl, ?_⟩
    rw [encC_colC h1]
    refine ⟨rfl, fun j y hy => ?_⟩
    cases j with
    | zero =>
      simp at hy
      subst hy
      exact ⟨x, rfl, fun ρ v hv => encC_rel h1 hv⟩
    | succ j => simp at hy
  · cases h
theorem packD_spec : ∀ {s : Sh} {ps l : List Pt} {d : D}, packD s ps = some (d, l) → ∃ cs, cellsP arR ps = cs ++ cellsP arR l ∧ CsLe cs (cellsD arR s d) := by
  intro s
  induction s with
  | two a b iha ihb =>
    intro ps l d h
    simp only [packD] at h
    split at h
    · rename_i r hr
      simp only [Option.some.injEq] at h
      subst h
      exact packHd_spec hr
    · split at h
      · rename_i x ps' h1
        split at h
        · rename_i y ps'' h2
          simp only [Option.some.injEq, Prod.mk.injEq] at h
          obtain ⟨rfl, rfl⟩ := h
          obtain ⟨c1, e1, f1⟩ := iha h1
          obtain ⟨c2, e2, f2⟩ := ihb h2
          exact ⟨c1 ++ c2, by rw [e1, e2, List.append_assoc], f1.app f2⟩
        · cases h
      · cases h
  | _ => intro ps l d h; simp only [packD] at h; exact packHd_spec h
def G.pack (s : Sh) : G → G
  | .prt ps => match packD s ps with
    | some (d, []) => .prt [.v s d]
    | _ => .prt ps
  | .lst cs => match packD s (cs.map .c) with
    | some (d, []) => .prt [.v s d]
    | _ => .lst cs
  | g => g
def A.pack (s : Sh) : A → A
  | .agg g => .agg (g.pack s)
  | x => x
theorem CsLe.grel {xs ys : List C} (h : CsLe xs ys) {arr : Array Value} (hg : GRel ρ (.lst xs) arr) : GRel ρ (.lst ys) arr :=
  ⟨by rw [hg.1]; exact h.1.symm, fun j y hy => by
    obtain ⟨x, e1, e2⟩ := h.2 j y hy
    obtain ⟨v, f1, f2⟩ := hg.2 j x e1
    exact ⟨v, f1, e2 _ _ f2⟩⟩
theorem pack_grel {s : Sh} {ps : List Pt} {d : D} (h : packD s ps = some (d, [])) {arr : Array Value} (hg : GRel ρ (.lst (cellsP arR ps)) arr) : GRel ρ (.prt [.v s d]) arr := by
  obtain ⟨cs, e1, e2⟩ := packD_spec h
  rw [e1] at hg
  simp only [cellsP, List.append_nil] at hg
  have h3 := e2.grel hg
  have h4 : GRel ρ (.lst (cellsP arR [.v s d])) arr := by simpa only [cellsP, List.append_nil] using h3
  exact h4
theorem G.pack_rel {s : Sh} {g : G} {arr : Array Value} (h : GRel ρ g arr) : GRel ρ (g.pack s) arr := by
  unfold G.pack
  split
  · split
    · rename_i hp; exact pack_grel hp h
    · exact h
  · rename_i cs
    split
    · rename_i hp; exact pack_grel hp (by rw [cellsP_c]; exact h)
    · exact h
  · exact h
theorem A.pack_rel {s : Sh} {x : A} {v : Value} (h : ARel ρ x v) : ARel ρ (x.pack s) v := by
  cases x with
  | one c => exact h
  | agg g =>
    obtain ⟨arr, e, hg⟩ := h
    exact ⟨arr, e, G.pack_rel hg⟩
/-- arguments packed, each by its shape -/
def packs : List (Option Sh) → List A → List A
  | some s :: ss, x :: l => x.pack s :: packs ss l
  | none :: ss, x :: l => x :: packs ss l
  | _, l => l
theorem packs_rel : ∀ {ss : List (Option Sh)} {l : List A}, (packs ss l).length = l.length ∧ ∀ (j : Nat) y, (packs ss l)[j]? = some y → ∃ x, l[j]? = some x ∧ ∀ (ρ : Ren) v, ARel ρ x v → ARel ρ y v := by
  intro ss
  induction ss with
  | nil => intro l; cases l <;> exact ⟨rfl, fun j y h => ⟨y, h, fun _ _ h => h⟩⟩
  | cons o ss ih =>
    intro l
    cases l with
    | nil => cases o <;> exact ⟨rfl, fun j y h => ⟨y, h, fun _ _ h => h⟩⟩
    | cons x l =>
      obtain ⟨h1, h2⟩ := ih (l := l)
      cases o with
      | none =>
        refine ⟨by simp [packs, h1], fun j y hy => ?_⟩
        cases j with
        | zero => exact ⟨x, rfl, fun ρ v hv => by simp [packs] at hy; subst hy; exact hv⟩
        | succ j => exact h2 j y (by simpa [packs] using hy)
      | some s =>
        refine ⟨by simp [packs, h1], fun j y hy => ?_⟩
        cases j with
        | zero => exact ⟨x, rfl, fun ρ v hv => by simp [packs] at hy; subst hy; exact A.pack_rel hv⟩
        | succ j => exact h2 j y (by simpa [packs] using hy)
theorem AsRel.packs {ss : List (Option Sh)} {l : List A} {args : Array Value} (h : AsRel ρ l args) : AsRel ρ (packs ss l) args := by
  obtain ⟨h1, h2⟩ := packs_rel (ss := ss) (l := l)
  refine ⟨by rw [h.1, h1], fun j x hx => ?_⟩
  obtain ⟨y, e1, e2⟩ := h2 j x hx
  obtain ⟨u, f1, f2⟩ := h.2 j y e1
  exact ⟨u, f1, e2 _ _ f2⟩
def kP (ss : List (Option Sh)) (s : ESpec) : ESpec := fun l => s (packs ss l)
def kH (ss : List (Option Sh)) (s : HSpec) : HSpec := fun l bs => s (packs ss l) bs
theorem CallOk.kP {f : FuncId} {ss : List (Option Sh)} {s : ESpec} (h : CallOk P f s) : CallOk P f (kP ss s) := by
  unfold CallOk at h ⊢
  intro args v ps hs hp z args' w hz ha
  exact h _ v ps hs hp z args' w hz ha.packs
theorem HOk.kH {f : FuncId} {ss : List (Option Sh)} {s : HSpec} (h : HOk P f s) : HOk P f (kH ss s) := by
  unfold HOk at h ⊢
  intro las lbs v lbs' ps hs hp ρ args' w ha hH o a K Q hK
  exact h _ _ v lbs' ps hs hp ρ args' w ha.packs hH o a K Q hK
/-- what is handed back, packed -/
theorem ALe.prt {s : Sh} {g : G} {d : D} (h : g.pack s = .prt [.v s d]) : ALe (.agg g) (.agg (.prt [.v s d])) := by
  intro ρ u hu
  have h1 : ARel ρ (.agg (.prt [.v s d])) u := by
    rw [← h]; exact A.pack_rel (x := .agg g) hu
  exact bareA_rel (ρ := ρ) (ρ' := Ren.none ρ.z) (x := .agg (.prt [.v s d])) (fun _ _ _ h => h) h1 rfl
/-- a nil slice among the parts of a block, as an empty one with a room that lies nowhere -/
theorem partC_at {ps : List Pt} {j : Nat} {x y : C} (hj : ps[j]? = some (.c x)) : ∃ o, (cellsP arR ps)[o]? = some x ∧ cellsP arR (ps.set j (.c y)) = (cellsP arR ps).set o y := by
  induction ps generalizing j with
  | nil => simp at hj
  | cons p l ih =>
    cases j with
    | zero =>
      simp at hj
      subst hj
      exact ⟨0, rfl, rfl⟩
    | succ j =>
      obtain ⟨o, h1, h2⟩ := ih (by simpa using hj)
      cases p with
      | c z => exact ⟨o + 1, by simpa [cellsP] using h1, by simp [cellsP, h2]⟩
      | v s d =>
        refine ⟨(cellsD arR s d).length + o, ?_, ?_⟩
        · simp only [cellsP]
          rw [List.getElem?_append_right (by omega), Nat.add_sub_cancel_left]; exact h1
        · simp only [List.set_cons_succ, cellsP, h2]
          rw [List.set_append_right _ _ (by omega), Nat.add_sub_cancel_left]
variable {hc : FuncId → Bool} {W0 : World} {m0 : Nat} {fn : Func} {R : V → Heap → Prop}
theorem Run.roomAtP {t : List V} {h : Heap} {T : List Item} {o : List Prop} {s : List Bool} (b j : Nat) (sh : Sh) {ro : Bool} {ps : List Pt} (hb : h[b]? = some (some ⟨ro, .prt ps⟩)) (hj : ps[j]? = some (.c .nsl)) (hm : m0 ≤ h.length)
    (hr : Run P hc W0 m0 fn R ⟨t, (h.set b (some ⟨ro, .prt (ps.set j (.c (.dat sh [] (some h.length))))⟩)) ++ [some ⟨false, .tail⟩], T, [], []⟩) : Run P hc W0 m0 fn R ⟨t, h, T, o, s⟩ := by
  intro hok hm0 ρ tmps w fr css hT hH
  have h1 := (hH.pad 1).tailVoid (nm := h.length) (by simp) hm
  have e : (h ++ List.replicate 1 none).set h.length (some ⟨false, .tail⟩) = h ++ [some ⟨false, .tail⟩] := by simp
  rw [e] at h1
  have hlt : b < h.length := (List.getElem?_eq_some_iff.1 hb).1
  obtain ⟨k, hk1, hk2⟩ := partC_at (y := .dat sh [] (some h.length)) hj
  have h2 := h1.swap (h2 := (h.set b (some ⟨ro, .prt (ps.set j (.c (.dat sh [] (some h.length))))⟩)) ++ [some ⟨false, .tail⟩]) (fun n => by
    by_cases hn : n < h.length
    · rw [List.getElem?_append_left hn, List.getElem?_append_left (by simpa using hn), List.getElem?_set]
      by_cases hbn : b = n
      · subst hbn
        rw [if_pos rfl, if_pos hlt, hb]
        refine .inr ⟨_, _, rfl, rfl, rfl, rfl, by simp, by simp, fun r o' ⟨c, ty, fz, q1, q2, q3⟩ => ⟨c, ty, fz, q1, q2, fun i x hx => ?_⟩⟩
        simp only [G.at] at hx q3
        rw [hk2, List.getElem?_set] at hx
        by_cases hji : k = i
        · subst hji
          obtain ⟨v, a1, a2⟩ := q3 k .nsl hk1
          rw [if_pos rfl] at hx
          split at hx
          · simp only [Option.some.injEq] at hx
            subst hx
            exact ⟨v, a1, .inl ⟨a2, rfl⟩⟩
          · cases hx
        · rw [if_neg hji] at hx
          exact q3 i x hx
      · rw [if_neg hbn]; exact .inl rfl
    · rw [List.getElem?_append_right (by omega), List.getElem?_append_right (by simpa using hn)]
      refine .inl ?_
      simp)
  refine .ext (Ext.void (nm := h.length)) (hr hok (by simp only [List.length_append, List.length_set]; omega) (ρ.void h.length) tmps w fr css ⟨hT.1, fun i x hx => ?_⟩ h2)
  obtain ⟨u, a1, a2⟩ := hT.2 i x hx
  exact ⟨u, a1, a2.ext (Ext.void (ρ := ρ) (nm := h.length)).toSub⟩
end
end Go.Eng
