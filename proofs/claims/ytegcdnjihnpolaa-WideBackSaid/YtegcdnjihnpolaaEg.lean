import Derived.Test.YtegcdnjihnpolaaE6
set_option linter.unusedSimpArgs false
set_option linter.unusedVariables false
namespace Go.Eng
open Go Go.RowKit

def AsRel (ρ : Ren) (args : List A) (args' : Array Value) : Prop :=
  args'.size = args.length ∧ ∀ (j : Nat) (x : A), args[j]? = some x → ∃ u : Value, args'[j]? = some u ∧ ARel ρ x u

section
variable {P : Program} {W0 : World} {m0 : Nat} {ρ : Ren}

theorem HRel.low {h : Heap} {w : World} (hH : HRel W0 m0 ρ h w) {n r o : Nat} (hn : ρ n = some (r, o)) : r < w.heap.size := by
  obtain ⟨x, hx⟩ := hH.dom n _ hn
  obtain ⟨r', o', hn', c, ty', fz, hw, -⟩ := hH.blk n x hx
  rw [hn] at hn'
  simp only [Option.some.injEq, Prod.mk.injEq] at hn'
  obtain ⟨rfl, rfl⟩ := hn'
  exact (Array.getElem?_eq_some_iff.1 hw).1

theorem idxF_spec {b : Nat} : ∀ {ns : List Nat} {i0 i : Nat}, idxF ns b i0 = some i → i0 ≤ i ∧ ns[i - i0]? = some b
  | [], i0, i, h => by cases h
  | x :: ns, i0, i, h => by
    simp only [idxF] at h
    split at h
    · rename_i e
      simp only [Option.some.injEq] at h
      subst h e
      exact ⟨Nat.le_refl _, by simp⟩
    · obtain ⟨h1, h2⟩ := idxF_spec h
      refine ⟨by omega, ?_⟩
      rw [show i - i0 = (i - (i0 + 1)) + 1 by omega]
      simpa using h2

/-- the small renaming of the blocks that are reached -/
def small (ρ : Ren) (ns : List Nat) : Ren := fun i => ns[i]?.bind ρ

theorem renC_rel {ns : List Nat} {c c' : C} {v : Value} (h : renC ns c = some c') (hc : CRel ρ c v) : CRel (small ρ ns) c' v := by
  cases c <;> simp only [renC] at h
  case ptr b off =>
    simp only [Option.map_eq_some_iff] at h
    obtain ⟨i, hi, rfl⟩ := h
    obtain ⟨r, o, h1, h2⟩ := hc
    have := (idxF_spec hi).2
    exact ⟨r, o, by simp only [small]; rw [show i = i - 0 from rfl, this]; exact h1, h2⟩
  case sl b off len cap =>
    simp only [Option.map_eq_some_iff] at h
    obtain ⟨i, hi, rfl⟩ := h
    obtain ⟨r, o, h1, h2⟩ := hc
    have := (idxF_spec hi).2
    exact ⟨r, o, by simp only [small]; rw [show i = i - 0 from rfl, this]; exact h1, h2⟩
  all_goals (simp only [Option.some.injEq] at h; subst h; exact hc)

theorem bakC_rel {ns : List Nat} {c c' : C} {v : Value} (h : bakC ns c = some c') (hc : CRel (small ρ ns) c v) : CRel ρ c' v := by
  cases c <;> simp only [bakC] at h
  case ptr i off =>
    simp only [Option.map_eq_some_iff] at h
    obtain ⟨b, hb, rfl⟩ := h
    obtain ⟨r, o, h1, h2⟩ := hc
    simp only [small, hb, Option.bind_some] at h1
    exact ⟨r, o, h1, h2⟩
  case sl i off len cap =>
    simp only [Option.map_eq_some_iff] at h
    obtain ⟨b, hb, rfl⟩ := h
    obtain ⟨r, o, h1, h2⟩ := hc
    simp only [small, hb, Option.bind_some] at h1
    exact ⟨r, o, h1, h2⟩
  all_goals (simp only [Option.some.injEq] at h; subst h; exact hc)

theorem mapM_back {α β : Type} {f : α → Option β} : ∀ {l : List α} {r : List β}, l.mapM f = some r → ∀ (j : Nat) y, r[j]? = some y → ∃ x, l[j]? = some x ∧ f x = some y
  | [], r, h, j, y, hj => by simp at h; subst h; simp at hj
  | a :: l, r, h, j, y, hj => by
    simp only [List.mapM_cons, Option.bind_eq_bind, Option.pure_def] at h
    cases hx : f a with
    | none => simp [hx] at h
    | some b =>
      cases hl : l.mapM f with
      | none => simp [hx, hl] at h
      | some bs =>
        simp [hx, hl] at h
        subst h
        cases j with
        | zero => simp at hj; subst hj; exact ⟨a, by simp, hx⟩
        | succ j => simpa using mapM_back hl j y (by simpa using hj)

theorem mapG_at {f : C → Option C} {g g' : G} (h : mapG f g = some g') : g'.len = g.len ∧ ∀ (j : Nat) x', g'.at j = some x' → (∃ x, g.at j = some x ∧ (f x = some x' ∨ (x' = x ∧ ∃ k n, x = .int k n))) := by
  cases g with
  | lst cs =>
    simp only [mapG, Option.map_eq_some_iff] at h
    obtain ⟨l, hl, rfl⟩ := h
    refine ⟨by simp [G.len, mapM_some_length hl], fun j x' hx => ?_⟩
    obtain ⟨x, h1, h2⟩ := mapM_back hl j x' hx
    exact ⟨x, h1, .inl h2⟩
  | ints k n g =>
    simp only [mapG, Option.some.injEq] at h
    subst h
    refine ⟨rfl, fun j x' hx => ⟨x', hx, .inr ⟨rfl, ?_⟩⟩⟩
    simp only [G.at] at hx
    split at hx
    · simp only [Option.some.injEq] at hx; exact ⟨k, _, hx.symm⟩
    · cases hx

theorem mapG_cell {ρ' : Ren} {f : C → Option C} (hf : ∀ c c' v, f c = some c' → CRel ρ c v → CRel ρ' c' v) {x x' : C} {v : Value} (h : f x = some x' ∨ (x' = x ∧ ∃ k n, x = .int k n)) (hv : CRel ρ x v) : CRel ρ' x' v := by
  rcases h with h | ⟨rfl, k, n, rfl⟩
  · exact hf _ _ _ h hv
  · exact hv

theorem mapA_rel {ρ' : Ren} {f : C → Option C} (hf : ∀ c c' v, f c = some c' → CRel ρ c v → CRel ρ' c' v) {x x' : A} {v : Value} (h : mapA f x = some x') (hv : ARel ρ x v) : ARel ρ' x' v := by
  cases x with
  | one c =>
    simp only [mapA, Option.map_eq_some_iff] at h
    obtain ⟨c', hc, rfl⟩ := h
    exact hf _ _ _ hc hv
  | agg g =>
    simp only [mapA, Option.map_eq_some_iff] at h
    obtain ⟨g', hg, rfl⟩ := h
    obtain ⟨arr, e, h1, h2⟩ := hv
    obtain ⟨a1, a2⟩ := mapG_at hg
    refine ⟨arr, e, by rw [h1, a1], fun j x' hx => ?_⟩
    obtain ⟨x, b1, b2⟩ := a2 j x' hx
    obtain ⟨u, c1, c2⟩ := h2 j x b1
    exact ⟨u, c1, mapG_cell hf b2 c2⟩

theorem mapV_rel {ρ' : Ren} {f : C → Option C} (hf : ∀ c c' v, f c = some c' → CRel ρ c v → CRel ρ' c' v) {x x' : V} {v : Value} (h : mapV f x = some x') (hv : VRel ρ x v) : VRel ρ' x' v := by
  cases x with
  | a x =>
    simp only [mapV, Option.map_eq_some_iff] at h
    obtain ⟨y, hy, rfl⟩ := h
    exact mapA_rel hf hy hv
  | tup xs =>
    simp only [mapV, Option.map_eq_some_iff] at h
    obtain ⟨l, hl, rfl⟩ := h
    obtain ⟨arr, e, h1, h2⟩ := hv
    refine ⟨arr, e, by rw [h1, mapM_some_length hl], fun j x' hx => ?_⟩
    obtain ⟨x, b1, b2⟩ := mapM_back hl j x' hx
    obtain ⟨u, c1, c2⟩ := h2 j x b1
    exact ⟨u, c1, mapA_rel hf b2 c2⟩
  | any =>
    simp only [mapV, Option.some.injEq] at h
    subst h
    exact True.intro

theorem mapB_rel {ρ' : Ren} {f : C → Option C} (hf : ∀ c c' v, f c = some c' → CRel ρ c v → CRel ρ' c' v) {b b' : Blk} {r o : Nat} {w : World} (h : mapB f b = some b') (hb : BRel ρ b r o w) : b'.ro = b.ro ∧ BRel ρ' b' r o w := by
  simp only [mapB, Option.map_eq_some_iff] at h
  obtain ⟨g, hg, rfl⟩ := h
  obtain ⟨c, ty, fz, h1, h2, h3⟩ := hb
  refine ⟨rfl, c, ty, fz, h1, h2, fun j x' hx => ?_⟩
  obtain ⟨x, b1, b2⟩ := (mapG_at hg).2 j x' hx
  obtain ⟨u, c1, c2⟩ := h3 j x b1
  exact ⟨u, c1, mapG_cell hf b2 c2⟩

theorem setMany_len : ∀ {ns : List Nat} {bs : List Blk} {h : Heap}, (setMany h ns bs).length = h.length
  | [], bs, h => by cases bs <;> rfl
  | n :: ns, [], h => rfl
  | n :: ns, b :: bs, h => by simp only [setMany]; rw [setMany_len]; simp

theorem setMany_out {k : Nat} : ∀ {ns : List Nat} {bs : List Blk} {h : Heap}, k ∉ ns → (setMany h ns bs)[k]? = h[k]?
  | [], bs, h, _ => by cases bs <;> rfl
  | n :: ns, [], h, _ => rfl
  | n :: ns, b :: bs, h, hk => by
    simp only [setMany]
    rw [setMany_out (fun e => hk (by simp [e])), List.getElem?_set_ne (fun e => hk (by simp [e]))]

theorem setMany_at {k : Nat} {b : Blk} : ∀ {ns : List Nat} {bs : List Blk} {h : Heap} {i : Nat}, ns.Nodup → ns[i]? = some k → bs[i]? = some b → k < h.length → (setMany h ns bs)[k]? = some (some b)
  | [], bs, h, i, _, hi, _, _ => by simp at hi
  | n :: ns, [], h, i, _, _, hb, _ => by simp at hb
  | n :: ns, b' :: bs, h, 0, hn, hi, hb, hk => by
    simp at hi hb
    subst hi hb
    simp only [setMany]
    rw [setMany_out (List.nodup_cons.1 hn).1]
    simp [hk]
  | n :: ns, b' :: bs, h, i + 1, hn, hi, hb, hk => by
    simp only [setMany]
    exact setMany_at (List.nodup_cons.1 hn).2 (by simpa using hi) (by simpa using hb) (by simpa using hk)

theorem nodup_idx {n : Nat} : ∀ {ns : List Nat} {i j : Nat}, ns.Nodup → ns[i]? = some n → ns[j]? = some n → i = j
  | [], i, j, _, h, _ => by simp at h
  | x :: ns, 0, 0, _, _, _ => rfl
  | x :: ns, 0, j + 1, hn, h1, h2 => by
    simp at h1 h2
    subst h1
    exact absurd (List.mem_of_getElem? h2) (List.nodup_cons.1 hn).1
  | x :: ns, i + 1, 0, hn, h1, h2 => by
    simp at h1 h2
    subst h2
    exact absurd (List.mem_of_getElem? h1) (List.nodup_cons.1 hn).1
  | x :: ns, i + 1, j + 1, hn, h1, h2 => by
    have := nodup_idx (List.nodup_cons.1 hn).2 (by simpa using h1) (by simpa using h2)
    omega

theorem sameRo_spec : ∀ {l m : List Blk}, sameRo l m = true → l.length = m.length ∧ ∀ (i : Nat) a b, l[i]? = some a → m[i]? = some b → b.ro = a.ro
  | [], [], _ => ⟨rfl, fun i a b h => by simp at h⟩
  | [], _ :: _, h => by simp [sameRo] at h
  | _ :: _, [], h => by simp [sameRo] at h
  | x :: l, y :: m, h => by
    simp only [sameRo, Bool.and_eq_true, beq_iff_eq] at h
    obtain ⟨h1, h2⟩ := sameRo_spec h.2
    refine ⟨by simp [h1], fun i a b ha hb => ?_⟩
    cases i with
    | zero => simp at ha hb; subst ha hb; exact h.1.symm
    | succ i => exact h2 i a b (by simpa using ha) (by simpa using hb)

theorem blkAt_eq {h : Heap} {n : Nat} {b : Blk} (e : blkAt h n = some b) : h[n]? = some (some b) := by
  unfold blkAt at e
  split at e
  · rename_i x hx; simp only [Option.some.injEq] at e; rw [hx, e]
  · cases e

theorem addAll_nodup : ∀ {xs ns : List Nat}, ns.Nodup → (addAll ns xs).Nodup
  | [], ns, h => h
  | x :: xs, ns, h => by
    simp only [addAll]
    split
    · exact addAll_nodup h
    · rename_i hx
      refine addAll_nodup ?_
      rw [List.nodup_append]
      refine ⟨h, by simp, fun a ha b hb => ?_⟩
      simp at hb
      subst hb
      intro e
      subst e
      simp at hx
      exact hx ha
theorem clo_nodup {h : Heap} : ∀ {k : Nat} {ns : List Nat}, ns.Nodup → (clo h k ns).Nodup
  | 0, ns, hn => hn
  | k + 1, ns, hn => by
    simp only [clo]
    exact clo_nodup (addAll_nodup hn)
theorem reach_nodup (h : Heap) (args : List A) : (reach h args).Nodup := clo_nodup (addAll_nodup List.nodup_nil)

/-- A CALL ON THE BLOCKS THAT IT REACHES: down to the small heap, and back -/
theorem performH_sound {al : Nat → Bool} {h : Heap} {ns : List Nat} {s : HSpec} {args : List A} {v : V} {bs' : List Blk} {ps : List Prop} {w : World} {args' : Array Value} (hn : ns.Nodup) (hH : HRel W0 m0 ρ h w) (hA : AsRel ρ args args')
    (hp : performH al h ns s args = some (v, bs', ps)) :
    ∃ las lbs v0 lbs', s las lbs = some (v0, lbs', ps) ∧ AsRel (small ρ ns) las args' ∧ HRel w lbs.length (small ρ ns) (lbs.map some) w ∧
      ∀ v' w', VRel (small ρ ns) v0 v' → HRel w lbs.length (small ρ ns) (lbs'.map some) w' → VRel ρ v v' ∧ HRel W0 m0 ρ (setMany h ns bs') w' := by
  unfold performH at hp
  split at hp
  · split at hp
    · rename_i bs hbs
      split at hp
      · rename_i las lbs hlas hlbs
        split at hp
        · rename_i v0 lbs' ps' hs
          split at hp
          · rename_i v1 bs1 hv1 hbs1
            split at hp
            · rename_i hro
              simp only [Option.some.injEq, Prod.mk.injEq] at hp
              obtain ⟨rfl, rfl, rfl⟩ := hp
              have hl1 := mapM_some_length hbs
              have hl2 := mapM_some_length hlbs
              have hl3 := mapM_some_length hbs1
              obtain ⟨hl4, hro⟩ := sameRo_spec hro
              have at_ns : ∀ (i : Nat) lb, lbs[i]? = some lb → ∃ n b, ns[i]? = some n ∧ h[n]? = some (some b) ∧ mapB (renC ns) b = some lb ∧ bs[i]? = some b := by
                intro i lb hi
                obtain ⟨b, hb, hm⟩ := mapM_back hlbs i lb hi
                obtain ⟨n, hn', hbn⟩ := mapM_back hbs i b hb
                exact ⟨n, b, hn', blkAt_eq hbn, hm, hb⟩
              have small_some : ∀ (i : Nat) p, small ρ ns i = some p → ∃ n, ns[i]? = some n ∧ ρ n = some p := by
                intro i p hi
                simp only [small] at hi
                cases hx : ns[i]? with
                | none => rw [hx] at hi; simp at hi
                | some n => rw [hx] at hi; exact ⟨n, rfl, by simpa using hi⟩
              refine ⟨las, lbs, v0, lbs', hs, ⟨by rw [hA.1, mapM_some_length hlas], fun j x hx => ?_⟩, ?_, fun v' w' hv' hH' => ⟨mapV_rel (fun c c' u => bakC_rel) hv1 hv', ?_⟩⟩
              · obtain ⟨y, h1, h2⟩ := mapM_back hlas j x hx
                obtain ⟨u, h3, h4⟩ := hA.2 j y h1
                exact ⟨u, h3, mapA_rel (fun c c' u => renC_rel) h2 h4⟩
              · refine ⟨rfl, rfl, rfl, Nat.le_refl _, fun _ _ _ => rfl, fun i p hi => ?_, fun i lb hi => ?_, fun i j r o o' lb hij hi hroi e1 e2 => ?_, fun i r o hi e => ?_⟩
                · obtain ⟨n, hn1, hn2⟩ := small_some i p hi
                  have : i < lbs.length := by
                    have := (List.getElem?_eq_some_iff.1 hn1).1; omega
                  exact ⟨lbs[i], by simp [this]⟩
                · simp only [List.getElem?_map, Option.map_eq_some_iff] at hi
                  obtain ⟨lb', hi, e⟩ := hi
                  simp only [Option.some.injEq] at e
                  subst e
                  obtain ⟨n, b, h1, h2, h3, -⟩ := at_ns i lb' hi
                  obtain ⟨r, o, h4, h5⟩ := hH.blk n b h2
                  exact ⟨r, o, by simp only [small, h1, Option.bind_some]; exact h4, (mapB_rel (fun c c' u => renC_rel) h3 h5).2⟩
                · simp only [List.getElem?_map, Option.map_eq_some_iff] at hi
                  obtain ⟨lb', hi, e⟩ := hi
                  simp only [Option.some.injEq] at e
                  subst e
                  obtain ⟨n, b, h1, h2, h3, -⟩ := at_ns i lb' hi
                  obtain ⟨r', o2, h4, h5⟩ := hH.blk n b h2
                  have hb := (mapB_rel (fun c c' u => renC_rel) h3 h5).1
                  obtain ⟨n1, a1, a2⟩ := small_some i _ e1
                  obtain ⟨n2, a3, a4⟩ := small_some j _ e2
                  rw [h1] at a1
                  simp only [Option.some.injEq] at a1
                  subst a1
                  refine hH.sep n n2 r o o' b ?_ h2 (by rw [← hb]; exact hroi) a2 a4
                  intro e
                  subst e
                  exact hij (nodup_idx hn h1 a3)
                · obtain ⟨n, hn1, -⟩ := small_some i _ e
                  have := (List.getElem?_eq_some_iff.1 hn1).1
                  omega
              · have hget : ∀ (k : Nat) bb, (setMany h ns bs1)[k]? = some (some bb) → (∃ (i : Nat) (b : Blk), ns[i]? = some k ∧ bs1[i]? = some bb ∧ h[k]? = some (some b) ∧ bs[i]? = some b ∧ bb.ro = b.ro) ∨ (k ∉ ns ∧ h[k]? = some (some bb)) := by
                  intro k bb hk
                  by_cases hmem : k ∈ ns
                  · obtain ⟨i, hi, e⟩ := List.getElem_of_mem hmem
                    have hns : ns[i]? = some k := by rw [← e]; exact List.getElem?_eq_getElem hi
                    have hib : i < bs.length := by omega
                    obtain ⟨n, hn1, hn2⟩ := mapM_back hbs i bs[i] (List.getElem?_eq_getElem hib)
                    rw [hns] at hn1
                    simp only [Option.some.injEq] at hn1
                    subst hn1
                    have hb := blkAt_eq hn2
                    have hib1 : i < bs1.length := by omega
                    have hat := setMany_at (b := bs1[i]) (bs := bs1) hn hns (List.getElem?_eq_getElem hib1) (List.getElem?_eq_some_iff.1 hb).1
                    rw [hat] at hk
                    simp only [Option.some.injEq] at hk
                    subst hk
                    exact .inl ⟨i, bs[i], hns, List.getElem?_eq_getElem hib1, hb, List.getElem?_eq_getElem hib, hro i _ _ (List.getElem?_eq_getElem hib) (List.getElem?_eq_getElem hib1)⟩
                  · rw [setMany_out hmem] at hk
                    exact .inr ⟨hmem, hk⟩
                have owned : ∀ (k : Nat) (i : Nat) lb o, (lbs'.map some)[i]? = some (some lb) → lb.ro = false → small ρ ns i = some (k, o) → ∃ n b bb, ns[i]? = some n ∧ h[n]? = some (some b) ∧ b.ro = false ∧ (setMany h ns bs1)[n]? = some (some bb) ∧ bb.ro = false ∧ ρ n = some (k, o) := by
                  intro k i lb o hi hlb e
                  simp only [List.getElem?_map, Option.map_eq_some_iff] at hi
                  obtain ⟨lb', hi, e'⟩ := hi
                  simp only [Option.some.injEq] at e'
                  subst e'
                  obtain ⟨n, hn1, hn2⟩ := small_some i _ e
                  have hi1 : i < lbs'.length := (List.getElem?_eq_some_iff.1 hi).1
                  have hib : i < bs.length := by omega
                  have hib1 : i < bs1.length := by omega
                  obtain ⟨n', hn3, hn4⟩ := mapM_back hbs i bs[i] (List.getElem?_eq_getElem hib)
                  rw [hn1] at hn3
                  simp only [Option.some.injEq] at hn3
                  subst hn3
                  have hb := blkAt_eq hn4
                  obtain ⟨x, hx1, hx2⟩ := mapM_back hbs1 i bs1[i] (List.getElem?_eq_getElem hib1)
                  rw [hi] at hx1
                  simp only [Option.some.injEq] at hx1
                  subst hx1
                  have hro1 : bs1[i].ro = lb'.ro := by
                    simp only [mapB, Option.map_eq_some_iff] at hx2
                    obtain ⟨g, -, e⟩ := hx2
                    rw [← e]
                  have hro2 := hro i _ _ (List.getElem?_eq_getElem hib) (List.getElem?_eq_getElem hib1)
                  refine ⟨n, bs[i], bs1[i], hn1, hb, by rw [← hro2, hro1]; exact hlb, setMany_at hn hn1 (List.getElem?_eq_getElem hib1) (List.getElem?_eq_some_iff.1 hb).1, by rw [hro1]; exact hlb, hn2⟩
                have hsz := hH.size
                refine ⟨hH'.os.trans hH.os, hH'.tape.trans hH.tape, hH'.output.trans hH.output, Nat.le_trans hH.size hH'.size, fun k hk hno => ?_, fun n p hn' => ?_, fun n bb hbb => ?_, fun n m r o o' bb hnm hbb hrob e1 e2 => ?_, hH.new⟩
                · rw [hH'.frame k (by omega) (fun i lb o hi hlb e => by
                    obtain ⟨n, b, bb, -, -, -, h4, h5, h6⟩ := owned k i lb o hi hlb e
                    exact hno n bb o h4 h5 h6)]
                  refine hH.frame k hk fun n b o hb hrob e => ?_
                  by_cases hmem : n ∈ ns
                  · obtain ⟨i, hi, e'⟩ := List.getElem_of_mem hmem
                    have hns : ns[i]? = some n := by rw [← e']; exact List.getElem?_eq_getElem hi
                    have hib : i < bs.length := by omega
                    have hib1 : i < bs1.length := by omega
                    obtain ⟨n', hn1, hn2⟩ := mapM_back hbs i bs[i] (List.getElem?_eq_getElem hib)
                    rw [hns] at hn1
                    simp only [Option.some.injEq] at hn1
                    subst hn1
                    have hb' := blkAt_eq hn2
                    rw [hb] at hb'
                    simp only [Option.some.injEq] at hb'
                    have hro2 := hro i _ _ (List.getElem?_eq_getElem hib) (List.getElem?_eq_getElem hib1)
                    exact hno n bs1[i] o (setMany_at hn hns (List.getElem?_eq_getElem hib1) (List.getElem?_eq_some_iff.1 hb).1) (by rw [hro2, ← hb']; exact hrob) e
                  · exact hno n b o (by rw [setMany_out hmem]; exact hb) hrob e
                · obtain ⟨b, hb⟩ := hH.dom n p hn'
                  by_cases hmem : n ∈ ns
                  · obtain ⟨i, hi, e'⟩ := List.getElem_of_mem hmem
                    have hns : ns[i]? = some n := by rw [← e']; exact List.getElem?_eq_getElem hi
                    have hib1 : i < bs1.length := by omega
                    exact ⟨bs1[i], setMany_at hn hns (List.getElem?_eq_getElem hib1) (List.getElem?_eq_some_iff.1 hb).1⟩
                  · exact ⟨b, by rw [setMany_out hmem]; exact hb⟩
                · rcases hget n bb hbb with ⟨i, b, h1, h2, h3, h4, h5⟩ | ⟨h1, h2⟩
                  · obtain ⟨x, hx1, hx2⟩ := mapM_back hbs1 i bb h2
                    obtain ⟨r, o, a1, a2⟩ := hH'.blk i x (by simp [hx1])
                    refine ⟨r, o, ?_, (mapB_rel (fun c c' u => bakC_rel) hx2 a2).2⟩
                    simpa only [small, h1, Option.bind_some] using a1
                  · obtain ⟨r, o, a1, c, ty, fz, a2, a3, a4⟩ := hH.blk n bb h2
                    refine ⟨r, o, a1, c, ty, fz, ?_, a3, a4⟩
                    rw [hH'.frame r (hH.low a1) (fun i lb o2 hi hlb e => by
                      obtain ⟨n2, b, bb2, g1, g2, g3, -, -, g6⟩ := owned r i lb o2 hi hlb e
                      refine hH.sep n2 n r o2 o b ?_ g2 g3 g6 a1
                      intro e
                      subst e
                      exact h1 (List.mem_of_getElem? g1))]
                    exact a2
                · rcases hget n bb hbb with ⟨i, b, h1, h2, h3, h4, h5⟩ | ⟨h1, h2⟩
                  · exact hH.sep n m r o o' b hnm h3 (by rw [← h5]; exact hrob) e1 e2
                  · exact hH.sep n m r o o' bb hnm h2 hrob e1 e2
            · cases hp
          · cases hp
        · cases hp
      · cases hp
    · cases hp
  · cases hp
end
end Go.Eng
