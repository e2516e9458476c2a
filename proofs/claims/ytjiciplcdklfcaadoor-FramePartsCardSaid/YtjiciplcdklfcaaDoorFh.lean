import Derived.Test.YtjiciplcdklfcaaDoorFf
set_option linter.unusedSimpArgs false
set_option linter.unusedVariables false
namespace Go.Eng
open Go
section
variable {P : Program} {hc : FuncId → Bool} {W0 : World} {m0 : Nat} {fn : Func} {R : V → Heap → Prop} {ρ : Ren}
/-- a block as it was, or with a content that says no more -/
def Sw (ρ : Ren) (w : World) (x y : Option (Option Blk)) : Prop :=
  x = y ∨ ∃ b b2, x = some (some b) ∧ y = some (some b2) ∧ b2.ro = b.ro ∧ b2.g.cells = b.g.cells ∧ (b2.g = .tail ↔ b.g = .tail) ∧ (b2.g = .dead ↔ b.g = .dead) ∧ ∀ r o, BRel ρ b r o w → BRel ρ b2 r o w
theorem Sw.back {w : World} {x : Option (Option Blk)} {b2 : Blk} (h : Sw ρ w x (some (some b2))) : ∃ b, x = some (some b) ∧ b2.ro = b.ro ∧ b2.g.cells = b.g.cells ∧ (b2.g = .tail ↔ b.g = .tail) ∧ (b2.g = .dead ↔ b.g = .dead) ∧ ∀ r o, BRel ρ b r o w → BRel ρ b2 r o w := by
  rcases h with h | ⟨b, b', h1, h2, h3⟩
  · exact ⟨b2, h, rfl, rfl, Iff.rfl, Iff.rfl, fun _ _ h => h⟩
  · cases h2; exact ⟨b, h1, h3⟩
theorem Sw.to {w : World} {y : Option (Option Blk)} {b : Blk} (h : Sw ρ w (some (some b)) y) : ∃ b2, y = some (some b2) ∧ b2.ro = b.ro ∧ b2.g.cells = b.g.cells ∧ (b2.g = .tail ↔ b.g = .tail) ∧ (b2.g = .dead ↔ b.g = .dead) := by
  rcases h with h | ⟨b', b2, h1, h2, h3, h4, h5, h6, -⟩
  · exact ⟨b, h.symm, rfl, rfl, Iff.rfl, Iff.rfl⟩
  · cases h1; exact ⟨b2, h2, h3, h4, h5, h6⟩
theorem HRel.swap {h h2 : Heap} {w : World} (hH : HRel W0 m0 ρ h w) (hs : ∀ n : Nat, Sw ρ w h[n]? h2[n]?) : HRel W0 m0 ρ h2 w := by
  have bk : ∀ (n : Nat) (b2 : Blk), h2[n]? = some (some b2) → _ := fun n b2 e => Sw.back (ρ := ρ) (w := w) (x := h[n]?) (b2 := b2) (by rw [← e]; exact hs n)
  have fw : ∀ (n : Nat) (b : Blk), h[n]? = some (some b) → _ := fun n b e => Sw.to (ρ := ρ) (w := w) (y := h2[n]?) (b := b) (by rw [← e]; exact hs n)
  have hown : ∀ r, Owned m0 ρ h r → Owned m0 ρ h2 r := by
    rintro r ⟨n, b, o, h1, h2', h3, h4⟩
    obtain ⟨b2, e1, e2, e3, e4, e5⟩ := fw n b h2'
    exact ⟨n, b2, o, h1, e1, h3.imp (fun e => e2.trans e) (fun e => e5.2 e), h4⟩
  refine ⟨hH.os, hH.tape, hH.output, hH.size, fun k hk hno => hH.frame k hk (fun ho => hno (hown k ho)), fun k p hk => ?_, fun k b hk hc => ?_, fun k m r o o' b b' hne hk hro hm hnd e1 e2 => ?_, fun k r o hk e => (hH.new k r o hk e).imp id (hown r), hH.low, fun k b hk hg => ?_, fun k b hk hg => ?_, fun k hv => ?_, fun k b hk hp => ?_, hH.zok, fun k b r o i hk hro hp hi => ?_, fun r i v hv hr => (hH.zold r i v hv hr).imp id (hown r), hH.yok⟩
  · obtain ⟨b, hb⟩ := hH.dom k p hk
    obtain ⟨b2, e1, -⟩ := fw k b hb
    exact ⟨_, e1⟩
  · obtain ⟨b', h1, h2', h3, h4, h5, h6⟩ := bk k b hk
    obtain ⟨r, o, e, hb⟩ := hH.blk k b' h1 (by rw [← h3]; exact hc)
    exact ⟨r, o, e, h6 r o hb⟩
  · obtain ⟨b1, h1, h2', h3, h4, h5, h6⟩ := bk k b hk
    obtain ⟨b2, g1, g2, g3, g4, g5, g6⟩ := bk m b' hm
    exact hH.sep k m r o o' b1 b2 hne h1 (by rw [← h2']; exact hro) g1 (fun e => hnd (g5.2 e)) e1 e2
  · obtain ⟨b1, h1, h2', h3, h4, h5, h6⟩ := bk k b hk
    rw [h2']
    exact hH.tails k b1 h1 (h4.1 hg)
  · obtain ⟨b1, h1, h2', h3, h4, h5, h6⟩ := bk k b hk
    rw [h2']
    exact hH.deadRo k b1 h1 (h5.1 hg)
  · obtain ⟨e, b, hb⟩ := hH.vd1 k hv
    obtain ⟨b2, e1, -⟩ := fw k b hb
    exact ⟨e, _, e1⟩
  · obtain ⟨b1, h1, h2', h3, h4, h5, h6⟩ := bk k b hk
    exact hH.vd2 k b1 h1 hp
  · obtain ⟨b1, h1, h2', h3, h4, h5, h6⟩ := bk k b hk
    exact hH.zsep k b1 r o i h1 (by rw [← h2']; exact hro) hp (fun e => hi (h4.2 e))
/-- a nil slice in a block of cells, as an empty one with a room that lies nowhere -/
theorem Run.roomAt {t : List V} {h : Heap} {T : List Item} {o : List Prop} {s : List Bool} (b j : Nat) (sh : Sh) {ro : Bool} {cs : List C} (hb : h[b]? = some (some ⟨ro, .lst cs⟩)) (hj : cs[j]? = some .nsl) (hm : m0 ≤ h.length)
    (hr : Run P hc W0 m0 fn R ⟨t, (h.set b (some ⟨ro, .lst (cs.set j (.dat sh [] (some h.length)))⟩)) ++ [some ⟨false, .tail⟩], T, [], []⟩) : Run P hc W0 m0 fn R ⟨t, h, T, o, s⟩ := by
  intro hok hm0 ρ tmps w fr css hT hH
  have h1 := (hH.pad 1).tailVoid (nm := h.length) (by simp) hm
  have e : (h ++ List.replicate 1 none).set h.length (some ⟨false, .tail⟩) = h ++ [some ⟨false, .tail⟩] := by simp
  rw [e] at h1
  have hlt : b < h.length := (List.getElem?_eq_some_iff.1 hb).1
  have h2 := h1.swap (h2 := (h.set b (some ⟨ro, .lst (cs.set j (.dat sh [] (some h.length)))⟩)) ++ [some ⟨false, .tail⟩]) (fun n => by
    by_cases hn : n < h.length
    · rw [List.getElem?_append_left hn, List.getElem?_append_left (by simpa using hn), List.getElem?_set]
      by_cases hbn : b = n
      · subst hbn
        rw [if_pos rfl, if_pos hlt, hb]
        refine .inr ⟨_, _, rfl, rfl, rfl, rfl, by simp, by simp, fun r o' ⟨c, ty, fz, q1, q2, q3⟩ => ⟨c, ty, fz, q1, q2, fun i x hx => ?_⟩⟩
        simp only [G.at] at hx q3
        rw [List.getElem?_set] at hx
        by_cases hji : j = i
        · subst hji
          obtain ⟨v, a1, a2⟩ := q3 j .nsl hj
          rw [if_pos rfl] at hx
          split at hx
          · simp only [Option.some.injEq] at hx
            subst hx
            exact ⟨v, a1, .inl ⟨a2, rfl⟩⟩
          · cases hx
        · rw [if_neg hji] at hx
          exact q3 i x hx
      · rw [if_neg hbn]; exact .inl rfl
    · rw [List.getElem?_append_right (by omega), List.getElem?_append_right (by simpa using hn)]
      refine .inl ?_
      simp)
  refine .ext (Ext.void (nm := h.length)) (hr hok (by simp only [List.length_append, List.length_set]; omega) (ρ.void h.length) tmps w fr css ⟨hT.1, fun i x hx => ?_⟩ h2)
  obtain ⟨u, a1, a2⟩ := hT.2 i x hx
  exact ⟨u, a1, a2.ext (Ext.void (ρ := ρ) (nm := h.length)).toSub⟩
/-- a nil slice in a struct in a slot -/
theorem Run.roomAgg {t : List V} {h : Heap} {T : List Item} {o : List Prop} {s : List Bool} (i j : Nat) (sh : Sh) {cs : List C} (hi : t[i]? = some (.a (.agg (.lst cs)))) (hj : cs[j]? = some .nsl) (hm : m0 ≤ h.length)
    (hr : Run P hc W0 m0 fn R ⟨t.set i (.a (.agg (.lst (cs.set j (.dat sh [] (some h.length)))))), h ++ [some ⟨false, .tail⟩], T, [], []⟩) : Run P hc W0 m0 fn R ⟨t, h, T, o, s⟩ := by
  intro hok hm0 ρ tmps w b css hT hH
  have h1 := (hH.pad 1).tailVoid (nm := h.length) (by simp) hm
  have e : (h ++ List.replicate 1 none).set h.length (some ⟨false, .tail⟩) = h ++ [some ⟨false, .tail⟩] := by simp
  rw [e] at h1
  refine .ext (Ext.void (nm := h.length)) (hr hok (by simp only [List.length_append]; omega) (ρ.void h.length) tmps w b css ⟨by rw [hT.1]; simp, fun k x hx => ?_⟩ h1)
  simp only at hx hT
  rw [List.getElem?_set] at hx
  by_cases hik : i = k
  · subst hik
    rw [if_pos rfl] at hx
    by_cases hl : i < t.length
    · rw [if_pos hl] at hx
      simp only [Option.some.injEq] at hx
      subst hx
      obtain ⟨u, g1, arr, rfl, g2, g3⟩ := hT.2 i _ hi
      refine ⟨_, g1, arr, rfl, by rw [g2]; simp [G.len], fun q x hx => ?_⟩
      simp only [G.at] at hx g3
      rw [List.getElem?_set] at hx
      by_cases hjq : j = q
      · subst hjq
        obtain ⟨v, a1, a2⟩ := g3 j _ hj
        rw [if_pos rfl] at hx
        split at hx
        · simp only [Option.some.injEq] at hx
          subst hx
          exact ⟨v, a1, .inl ⟨a2, rfl⟩⟩
        · cases hx
      · rw [if_neg hjq] at hx
        obtain ⟨v, a1, a2⟩ := g3 q x hx
        exact ⟨v, a1, a2.ext (Ext.void (ρ := ρ) (nm := h.length)).toSub⟩
    · rw [if_neg hl] at hx; cases hx
  · rw [if_neg hik] at hx
    obtain ⟨u, h1, h2⟩ := hT.2 k x hx
    exact ⟨u, h1, h2.ext (Ext.void (ρ := ρ) (nm := h.length)).toSub⟩
/-! a room under another name -/
def reC (t k : Nat) : C → C
  | .dat s xs (some t') => .dat s xs (some (if t' = t then k else t'))
  | .bf s t' e => .bf s (if t' = t then k else t') e
  | c => c
def reP (t k : Nat) : Pt → Pt
  | .c x => .c (reC t k x)
  | .v s d => .v s d
def reG (t k : Nat) : G → G
  | .lst cs => .lst (cs.map (reC t k))
  | .prt ps => .prt (ps.map (reP t k))
  | g => g
def reA (t k : Nat) : A → A
  | .one c => .one (reC t k c)
  | .agg g => .agg (reG t k g)
def reV (t k : Nat) : V → V
  | .a x => .a (reA t k x)
  | .tup xs => .tup (xs.map (reA t k))
  | .any => .any
def reH (t k : Nat) (h : Heap) : Heap := ((h.map (Option.map fun b => { b with g := reG t k b.g })).set t (some ⟨true, .dead⟩)) ++ [some ⟨false, .tail⟩]
theorem reC_rel {ρ' : Ren} {t k : Nat} (hs : Sub ρ ρ') (h1 : ∀ p, ρ t = some p → ρ' k = some p ∧ ρ'.room k = ρ.room t) {c : C} {v : Value} (h : CRel ρ c v) : CRel ρ' (reC t k c) v := by
  have he := h.ext hs
  cases c with
  | dat s xs tok =>
    cases tok with
    | none => exact he
    | some t' =>
      simp only [reC]
      rcases h with h | ⟨r, o, len, cap, e1, e2, e3, e4, e5⟩
      · exact .inl h
      · rcases he with he | ⟨r2, o2, len2, cap2, f1, f2, f3, f4, f5⟩
        · exact .inl he
        · refine .inr ⟨r2, o2, len2, cap2, f1, f2, f3, f4, fun q hq => ?_⟩
          simp only [Option.some.injEq] at hq
          subst hq
          rw [e1] at f1
          simp only [Value.slice.injEq, Option.some.injEq, Addr.mk.injEq] at f1
          obtain ⟨⟨rfl, rfl, -⟩, rfl, rfl⟩ := f1
          by_cases ht : t' = t
          · subst ht
            rw [if_pos rfl]
            rcases e5 t' rfl with e5 | ⟨e5, e6⟩
            · exact .inl e5
            · obtain ⟨g1, g2⟩ := h1 _ e5
              exact .inr ⟨g1, by rw [g2]; exact e6⟩
          · rw [if_neg ht]
            exact f5 t' rfl
  | bf s t' e =>
    simp only [reC]
    rcases h with h | ⟨r, len, cap, n, e1, e2, e3, e4, e5, e6, e7⟩
    · exact .inl h
    · refine .inr ⟨r, len, cap, n, e1, hs.y _ _ e2, e3, e4, e5, fun i x hx => hs.z _ _ _ (e6 i x hx), ?_⟩
      obtain ⟨e7, e8⟩ := e7
      by_cases ht : t' = t
      · subst ht
        rw [if_pos rfl]
        obtain ⟨g1, g2⟩ := h1 _ e7
        exact ⟨g1, by rw [g2]; exact e8⟩
      · rw [if_neg ht]
        obtain ⟨g1, g2⟩ := hs.f _ _ e7
        exact ⟨g1, by rw [g2]; exact e8⟩
  | _ => exact he
theorem reD {t k : Nat} : ∀ {s : Sh} {d : D}, (cellsD arR s d).map (reC t k) = cellsD arR s d := by
  intro s
  induction s with
  | two a b iha ihb =>
    intro d
    show (cellsD arR a (arR.dFst d) ++ cellsD arR b (arR.dSnd d)).map _ = cellsD arR a (arR.dFst d) ++ cellsD arR b (arR.dSnd d)
    rw [List.map_append, iha, ihb]
  | arr k m => intro d; simp only [cellsD, List.map_map]; rfl
  | _ => intro d; rfl
theorem reP_cells {t k : Nat} : ∀ {ps : List Pt}, cellsP arR (ps.map (reP t k)) = (cellsP arR ps).map (reC t k) := by
  intro ps
  induction ps with
  | nil => rfl
  | cons p l ih =>
    cases p with
    | c x => simp only [List.map_cons, reP, cellsP, ih]
    | v s d => simp only [List.map_cons, reP, cellsP, ih, List.map_append, reD]
theorem reG_at {t k : Nat} {g : G} {j : Nat} {x : C} (h : (reG t k g).at j = some x) : ∃ y, g.at j = some y ∧ x = reC t k y := by
  cases g with
  | lst cs =>
    simp only [reG, G.at, List.getElem?_map, Option.map_eq_some_iff] at h
    obtain ⟨y, h1, rfl⟩ := h
    exact ⟨y, h1, rfl⟩
  | prt ps =>
    simp only [reG, G.at, reP_cells, List.getElem?_map, Option.map_eq_some_iff] at h
    obtain ⟨y, h1, rfl⟩ := h
    exact ⟨y, h1, rfl⟩
  | ints kd n f =>
    simp only [reG] at h
    refine ⟨x, h, ?_⟩
    simp only [G.at] at h
    split at h
    · cases h; rfl
    · cases h
  | col s n f =>
    simp only [reG] at h
    refine ⟨x, h, ?_⟩
    simp only [G.at] at h
    split at h
    · simp only [Option.some.injEq] at h
      subst h
      cases s <;> rfl
    · cases h
  | tail => cases h
  | dead => cases h
theorem reG_len {t k : Nat} {g : G} : (reG t k g).len = g.len := by cases g <;> simp [reG, G.len, reP_cells]
theorem reG_kind {t k : Nat} {g : G} : (reG t k g).cells = g.cells ∧ (reG t k g = .tail ↔ g = .tail) ∧ (reG t k g = .dead ↔ g = .dead) := by cases g <;> simp [reG, G.cells]
theorem reA_rel {ρ' : Ren} {t k : Nat} (hs : Sub ρ ρ') (h1 : ∀ p, ρ t = some p → ρ' k = some p ∧ ρ'.room k = ρ.room t) {x : A} {v : Value} (h : ARel ρ x v) : ARel ρ' (reA t k x) v := by
  cases x with
  | one c => exact reC_rel hs h1 h
  | agg g =>
    obtain ⟨arr, rfl, h2, h3⟩ := h
    refine ⟨arr, rfl, by rw [h2]; exact reG_len.symm, fun j x hx => ?_⟩
    obtain ⟨y, h4, rfl⟩ := reG_at hx
    obtain ⟨v, h5, h6⟩ := h3 j y h4
    exact ⟨v, h5, reC_rel hs h1 h6⟩
theorem reV_rel {ρ' : Ren} {t k : Nat} (hs : Sub ρ ρ') (h1 : ∀ p, ρ t = some p → ρ' k = some p ∧ ρ'.room k = ρ.room t) {x : V} {v : Value} (h : VRel ρ x v) : VRel ρ' (reV t k x) v := by
  cases x with
  | a x => exact reA_rel hs h1 h
  | tup xs =>
    obtain ⟨arr, rfl, h2, h3⟩ := h
    refine ⟨arr, rfl, by rw [h2]; simp, fun j x hx => ?_⟩
    rw [List.getElem?_map, Option.map_eq_some_iff] at hx
    obtain ⟨y, h4, rfl⟩ := hx
    obtain ⟨u, h5, h6⟩ := h3 j y h4
    exact ⟨u, h5, reA_rel hs h1 h6⟩
  | any => exact True.intro
theorem Run.retail {t : List V} {h : Heap} {T : List Item} {o : List Prop} {s : List Bool} (i : Nat) (hi : h[i]? = some (some ⟨false, .tail⟩)) (hm : m0 ≤ h.length)
    (hr : Run P hc W0 m0 fn R ⟨t.map (reV i h.length), reH i h.length h, T, [], []⟩) : Run P hc W0 m0 fn R ⟨t, h, T, o, s⟩ := by
  intro hok hm0 ρ tmps w fr css hT hH
  have hlt : i < h.length := (List.getElem?_eq_some_iff.1 hi).1
  have d1 := (hH.dying hi).pad 1
  have hfree : ((h.set i (some ⟨true, .dead⟩)) ++ List.replicate 1 none)[h.length]? = some none := by
    rw [List.getElem?_append_right (by simp)]; simp
  have fin : ∀ ρ' : Ren, (ρ i = none → ρ' i = none) → Ext ρ ρ' → (∀ p, ρ i = some p → ρ' h.length = some p ∧ ρ'.room h.length = ρ.room i) → HRel W0 m0 ρ' (((h.set i (some ⟨true, .dead⟩)) ++ List.replicate 1 none).set h.length (some ⟨false, .tail⟩)) w → Fin P W0 m0 fn R ρ fr css (lone (fr.at ⟨tmps, []⟩ T) css w) := by
    intro ρ' hnn hx hp h1
    have e : ((h.set i (some ⟨true, .dead⟩)) ++ List.replicate 1 none).set h.length (some ⟨false, .tail⟩) = (h.set i (some ⟨true, .dead⟩)) ++ [some ⟨false, .tail⟩] := by
      simp [List.set_append]
    rw [e] at h1
    have h2 : HRel W0 m0 ρ' (reH i h.length h) w := h1.swap fun n => by
      unfold reH
      by_cases hn : n < h.length
      · rw [List.getElem?_append_left (by simpa using hn), List.getElem?_append_left (by simpa using hn), List.getElem?_set, List.getElem?_set]
        by_cases hin : i = n
        · subst hin
          rw [if_pos rfl, if_pos rfl, if_pos (by simpa using hlt), if_pos (by simpa using hlt)]; exact .inl rfl
        · rw [if_neg hin, if_neg hin, List.getElem?_map]
          cases hb : h[n]? with
          | none => exact .inl rfl
          | some x =>
            cases x with
            | none => exact .inl rfl
            | some b =>
              refine .inr ⟨b, _, rfl, rfl, rfl, reG_kind.1, reG_kind.2.1, reG_kind.2.2, fun r o' hbr => ?_⟩
              by_cases hc : b.g.cells = true
              · obtain ⟨r2, o2, e2, c, ty, fz, q1, q2, q3⟩ := hH.blk n b hb hc
                obtain ⟨c', ty', fz', p1, p2, p3⟩ := hbr
                have hle : ρ' n = some (r2, o2) := (hx.f n _ e2).1
                refine ⟨c', ty', fz', p1, p2, fun j x hx' => ?_⟩
                obtain ⟨y, g1, rfl⟩ := reG_at hx'
                obtain ⟨v, g2, g3⟩ := p3 j y g1
                refine ⟨v, g2, ?_⟩
                have g4 := reC_rel (ρ := ρ') (ρ' := ρ') (t := i) (k := h.length) (Sub.refl _) (fun p hp' => ?_) g3
                · exact g4
                · cases hri : ρ i with
                  | none => rw [hnn hri] at hp'; cases hp'
                  | some p0 =>
                    have := (hx.f i p0 hri)
                    rw [this.1] at hp'
                    cases hp'
                    obtain ⟨k1, k2⟩ := hp p hri
                    exact ⟨k1, by rw [k2, this.2]⟩
              · refine ⟨hbr.choose, hbr.choose_spec.choose, hbr.choose_spec.choose_spec.choose, hbr.choose_spec.choose_spec.choose_spec.1, hbr.choose_spec.choose_spec.choose_spec.2.1, fun j x hx' => ?_⟩
                obtain ⟨y, g1, rfl⟩ := reG_at hx'
                exact absurd (by revert g1; cases b.g <;> simp [G.cells, G.at]) hc
      · rw [List.getElem?_append_right (by simpa using hn), List.getElem?_append_right (by simpa using hn)]
        refine .inl ?_
        simp
    refine .ext hx (hr hok (by show m0 ≤ (reH i h.length h).length; unfold reH; simp; omega) ρ' tmps w fr css ⟨by rw [hT.1]; simp, fun j x hx' => ?_⟩ h2)
    simp only [List.getElem?_map, Option.map_eq_some_iff] at hx'
    obtain ⟨y, g1, rfl⟩ := hx'
    obtain ⟨u, g2, g3⟩ := hT.2 j y g1
    exact ⟨u, g2, reV_rel hx.toSub hp g3⟩
  cases hri : ρ i with
  | none =>
    refine fin (ρ.void h.length) (fun e => e) Ext.void (fun p hp => by rw [hri] at hp; cases hp) (d1.tailVoid hfree hm)
  | some p =>
    obtain ⟨r, o'⟩ := p
    obtain ⟨-, ht⟩ := hH.tails i _ hi rfl
    obtain ⟨c, ty, q1, q2⟩ := ht r o' hri
    have hf : ρ h.length = none := by
      cases e : ρ h.length with
      | none => rfl
      | some p => obtain ⟨b, hb⟩ := hH.dom _ _ e; rw [List.getElem?_eq_none (Nat.le_refl _)] at hb; cases hb
    refine fin (ρ.name h.length (r, o') (ρ.room i)) (fun e => by rw [hri] at e; cases e) (Ext.name hf) (fun p hp => ?_) (d1.tailAt hfree hm ?_ q1 q2 (fun n o2 b hb hd hn => ?_) (fun i' hi' => ?_))
    · rw [hri] at hp; cases hp
      exact ⟨by show (if h.length = h.length then _ else _) = _; rw [if_pos rfl], by show (if h.length = h.length then _ else _) = _; rw [if_pos rfl]⟩
    · by_cases him : i < m0
      · refine .inr ⟨i, ⟨true, .dead⟩, o', him, ?_, .inr rfl, hri⟩
        rw [List.getElem?_append_left (by simpa using hlt), List.getElem?_set, if_pos rfl, if_pos hlt]
      · refine (hH.new i r o' (by omega) hri).imp id ?_
        rintro ⟨n, b, o2, g1, g2, g3, g4⟩
        have hn : n < h.length := (List.getElem?_eq_some_iff.1 g2).1
        by_cases hin : i = n
        · omega
        · exact ⟨n, b, o2, g1, by rw [List.getElem?_append_left (by simpa using hn), List.getElem?_set, if_neg hin]; exact g2, g3, g4⟩
    · by_cases hn' : n < h.length
      · rw [List.getElem?_append_left (by simpa using hn'), List.getElem?_set] at hb
        by_cases hin : i = n
        · rw [if_pos hin, if_pos hlt] at hb
          cases hb
          exact hd rfl
        · rw [if_neg hin] at hb
          exact hH.sep i n r o' o2 _ b hin hi rfl hb hd hri hn
      · rw [List.getElem?_append_right (by simpa using hn')] at hb
        simp only [List.length_set] at hb
        rw [List.getElem?_replicate] at hb
        split at hb <;> cases hb
    · exact hH.zsep i _ r o' i' hi rfl hri (fun _ => hi')
end
end Go.Eng
