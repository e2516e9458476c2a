import Derived.Test.YtjiciplcdklfcaaDoorGg
set_option linter.unusedSimpArgs false
set_option linter.unusedVariables false
namespace Go.Eng
open Go
/-- frames one behind the other -/
def catB (m : Int) : List D → List UInt8
  | [] => []
  | d :: l => (enB m (frC d) (frP d)).data.toList ++ catB m l
theorem catB_snoc (m : Int) (d : D) : ∀ l, catB m (l ++ [d]) = catB m l ++ (enB m (frC d) (frP d)).data.toList
  | [] => by simp [catB]
  | x :: l => by simp [catB, catB_snoc m d l]
/-- a frame that may be told -/
def okFr (d : D) : Prop := isFr d ∧ okCmd (frC d) = true ∧ (frP d).size ≤ 16384
theorem okFr_of {d : D} (h : isFr d) (he : enE (frC d) (frP d) = 0) : okFr d := by
  unfold enE at he
  split at he
  · cases he
  split at he
  · cases he
  · rename_i h1 h2
    exact ⟨h, by simpa using h1, by omega⟩
theorem fr_len {m : Int} {d : D} (h : okFr d) : (enB m (frC d) (frP d)).data.toList.length = 24 + (frP d).size := by
  rw [Array.length_toList]; exact en_size h.2.1
theorem catB_len (m : Int) {l : List D} (h : ∀ d ∈ l, okFr d) : (catB m l).length ≤ l.length * 16408 := by
  induction l with
  | nil => simp [catB]
  | cons d l ih =>
    have h1 := h d List.mem_cons_self
    have h2 := fr_len (m := m) h1
    have h3 := h1.2.2
    have h4 := ih fun x hx => h x (List.mem_cons_of_mem _ hx)
    simp only [catB, List.length_append, List.length_cons]
    omega
/-- the head of bytes whose first 24 are those of a frame -/
theorem head_take {m : Int} {s t : ByteArray} (h : s.data.toList.take 24 = t.data.toList.take 24) (hs : 24 ≤ s.size) (ht : 24 ≤ t.size) : hdE m s = hdE m t ∧ hdN m s = hdN m t := by
  have hx : ∀ a b, b ≤ 24 → s.extract a b = t.extract a b := by
    intro a b hb
    apply ba_eq
    rw [ext_list, ext_list]
    have e1 : s.data.toList.take b = (s.data.toList.take 24).take b := by rw [List.take_take]; congr 1; omega
    have e2 : t.data.toList.take b = (t.data.toList.take 24).take b := by rw [List.take_take]; congr 1; omega
    rw [e1, e2, h]
  have hm : magB m s = magB m t := by
    unfold magB
    have e1 : s.data.toList.take 4 = t.data.toList.take 4 := by
      have := congrArg (List.take 4) h
      rw [List.take_take, List.take_take] at this
      exact this
    have hy : (layB m 4).data.toList.length = 4 := by rw [Array.length_toList]; exact lay_len m 4
    rw [e1, List.take_of_length_le (l := (layB m 4).data.toList) (i := s.size) (by omega), List.take_of_length_le (l := (layB m 4).data.toList) (i := t.size) (by omega)]
  have hn : hdName s = hdName t := by unfold hdName; rw [hx 4 16 (by decide)]
  have hl : hdLong s = hdLong t := by unfold hdLong; rw [hx 16 20 (by decide)]
  have hE : hdE m s = hdE m t := by
    unfold hdE
    rw [hm, hn, hl]
    have hs' : ¬ s.size < 24 := by omega
    have ht' : ¬ t.size < 24 := by omega
    simp only [if_neg hs', if_neg ht']
  refine ⟨hE, ?_⟩
  unfold hdN
  rw [hE, hl]
/-- less than a whole frame: it is waited for -/
theorem cut_front {m : Int} {c p h : ByteArray} {rest : List UInt8} (hc : okCmd c = true) (hp : p.size ≤ 16384) (hh : ∃ s : List UInt8, h.data.toList ++ s = (enB m c p).data.toList ++ rest) (hlt : h.size < 24 + p.size) : deE m h 0 = 4 := by
  obtain ⟨s, hs⟩ := hh
  have hF := front_of (m := m) [] hc hp (enB m c p) (by rw [List.append_nil])
  have hT : (enB m c p).size = 24 + p.size := en_size hc
  have hTl : (enB m c p).data.toList.length = (enB m c p).size := by rw [Array.length_toList]; rfl
  have hhl : h.data.toList.length = h.size := by rw [Array.length_toList]; rfl
  have hpre : h.data.toList = (enB m c p).data.toList.take h.size := by
    have := congrArg (List.take h.size) hs
    rw [List.take_append_of_le_length (by omega), List.take_of_length_le (by omega), List.take_append_of_le_length (by omega)] at this
    exact this
  have hz : deT h 0 = h := deT0 h
  by_cases h24 : h.size < 24
  · have hmag : magB m h = true := by
      have hy : (layB m 4).data.toList.length = 4 := by rw [Array.length_toList]; exact lay_len m 4
      have hmT : magB m (enB m c p) = true := by
        have h1 := hF.e
        cases hm : magB m (enB m c p) with
        | true => rfl
        | false =>
          have h2 : hdE m (enB m c p) = 80 := by unfold hdE; rw [if_pos hm]
          rw [h2] at h1; cases h1
      unfold magB at hmT ⊢
      have e := eq_of_beq hmT
      rw [List.take_of_length_le (l := (layB m 4).data.toList) (by omega)] at e
      have : h.data.toList.take 4 = (layB m 4).data.toList.take h.size := by
        rw [hpre, List.take_take, Nat.min_comm, ← List.take_take, e]
      rw [this]; exact beq_self_eq_true _
    have hE : hdE m h = 4 := by unfold hdE; rw [if_neg (by rw [hmag]; simp), if_pos h24]
    unfold deE
    rw [if_neg (by omega), hz, if_pos (by rw [hE]; decide), hE]
  · have ht : h.data.toList.take 24 = (enB m c p).data.toList.take 24 := by
      rw [hpre, List.take_take]; congr 1; omega
    obtain ⟨e1, e2⟩ := head_take (m := m) ht (by omega) (by omega)
    rw [hF.e] at e1
    rw [hF.n] at e2
    unfold deE
    rw [if_neg (by omega), hz, if_neg (by rw [e1]; simp), e2, if_pos (by omega)]
/-- nothing is waited for, too -/
theorem cut_nil (m : Int) : deE m .empty 0 = 4 := by
  have hE : hdE m .empty = 4 := by
    unfold hdE
    rw [if_neg (by rw [show magB m .empty = true from by unfold magB; exact beq_self_eq_true _]; simp), if_pos (by decide)]
  unfold deE
  rw [if_neg (by decide), deT0, if_pos (by rw [hE]; decide), hE]
/-- a whole frame at the front, and what stands behind it -/
theorem whole_front {m : Int} {c p h : ByteArray} {rest s : List UInt8} (hc : okCmd c = true) (hp : p.size ≤ 16384) (hs : h.data.toList ++ s = (enB m c p).data.toList ++ rest) (hge : 24 + p.size ≤ h.size) :
    deE m h 0 = 0 ∧ deC m h 0 = c ∧ deP m h 0 = p ∧ deTo m h 0 = 24 + p.size ∧ (h.extract (24 + p.size) h.size).data.toList ++ s = rest := by
  have hT : (enB m c p).size = 24 + p.size := en_size hc
  have hTl : (enB m c p).data.toList.length = (enB m c p).size := by rw [Array.length_toList]; rfl
  have hhl : h.data.toList.length = h.size := by rw [Array.length_toList]; rfl
  have e1 : h.data.toList = (enB m c p).data.toList ++ h.data.toList.drop (24 + p.size) := by
    have h1 := congrArg (List.take (24 + p.size)) hs
    rw [List.take_append_of_le_length (by omega), List.take_append_of_le_length (by omega), List.take_of_length_le (l := (enB m c p).data.toList) (by omega)] at h1
    rw [← h1, List.take_append_drop]
  obtain ⟨d1, d2, d3, d4⟩ := dec_front (front_of (m := m) _ hc hp h e1)
  refine ⟨d1, d2, d3, d4, ?_⟩
  rw [ext_list, List.take_of_length_le (by omega)]
  have h2 := congrArg (List.drop (24 + p.size)) hs
  rw [List.drop_append_of_le_length (by omega), List.drop_append_of_le_length (by omega), List.drop_of_length_le (l := (enB m c p).data.toList) (by omega), List.nil_append] at h2
  exact h2
end Go.Eng
namespace Go.Proofs.YtjiciplcdklfcaaDoor
open Go Go.Eng Go.Proofs Go.RowKit
attribute [local irreducible] CallOk HOk Run TIok rbin rcmp run1 updF shfF blitF

end Go.Proofs.YtjiciplcdklfcaaDoor
