import Derived.Test.YtjiciplcdklfcaaDoorGp
set_option linter.unusedSimpArgs false
set_option linter.unusedVariables false
namespace Go.Eng
open Go
def invP (m : Int) (wn : List D) (n : Int) (h s : ByteArray) : Prop := (0 ≤ n ∧ n ≤ wn.length) ∧ h.data.toList ++ s.data.toList = catB m (wn.drop n.toNat)
def waitP (wn : List D) (n : Int) (h : ByteArray) : Prop := ∀ d, wn[n.toNat]? = some d → h.size < 24 + (frP d).size
theorem sz_list (h : ByteArray) : h.data.toList.length = h.size := by rw [Array.length_toList]; rfl
theorem ext_split (s : ByteArray) {k : Nat} (h : k ≤ s.size) : (s.extract 0 k).data.toList ++ (s.extract k s.size).data.toList = s.data.toList := by
  rw [ext_list, ext_list, List.drop_zero, List.take_of_length_le (i := s.size) (by rw [sz_list]; exact Nat.le_refl _), List.take_append_drop]
theorem inv_at {m : Int} {wn : List D} {n : Int} {h s : ByteArray} (hI : invP m wn n h s) : (n = wn.length ∧ h = .empty ∧ s = .empty) ∨ ∃ d, wn[n.toNat]? = some d ∧ d ∈ wn ∧ n < wn.length ∧ h.data.toList ++ s.data.toList = (enB m (frC d) (frP d)).data.toList ++ catB m (wn.drop (n.toNat + 1)) := by
  obtain ⟨hn, e⟩ := hI
  by_cases hk : n.toNat < wn.length
  · right
    refine ⟨wn[n.toNat], List.getElem?_eq_getElem hk, List.getElem_mem hk, by omega, ?_⟩
    rw [e, List.drop_eq_getElem_cons hk]; rfl
  · left
    rw [List.drop_of_length_le (by omega)] at e
    have e' := List.append_eq_nil_iff.1 e
    refine ⟨by omega, ba_eq e'.1, ba_eq e'.2⟩
theorem held_lt {m : Int} {wn : List D} {n : Int} {h s : ByteArray} (hgo : ∀ d ∈ wn, okFr d) (hI : invP m wn n h s) (hW : waitP wn n h) : h.size < 32816 := by
  rcases inv_at hI with ⟨_, rfl, _⟩ | ⟨d, hd, hm, _, _⟩
  · decide
  · have h1 := hW d hd
    have h2 := (hgo d hm).2.2
    omega
theorem all_told {m : Int} {wn : List D} {n : Int} {h : ByteArray} (hgo : ∀ d ∈ wn, okFr d) (hI : invP m wn n h .empty) (hW : waitP wn n h) : n = wn.length ∧ h = .empty := by
  rcases inv_at hI with ⟨a, b, _⟩ | ⟨d, hd, hm, _, e⟩
  · exact ⟨a, b⟩
  · exfalso
    have h1 := hW d hd
    have h2 := congrArg List.length e
    rw [List.length_append, List.length_append, fr_len (hgo d hm), sz_list, sz_list] at h2
    have h3 : (ByteArray.empty).size = 0 := rfl
    omega
theorem inv_feed {m : Int} {wn : List D} {n : Int} {h s : ByteArray} (hI : invP m wn n h s) {k : Nat} (hk : k ≤ s.size) : invP m wn n (h ++ s.extract 0 k) (s.extract k s.size) :=
  ⟨hI.1, by rw [app_list, List.append_assoc, ext_split _ hk]; exact hI.2⟩
theorem feed_cut {h s : ByteArray} {k : Int} (h0 : 0 ≤ k) (h1 : k ≤ s.size) (h2 : k ≤ 32816 - h.size) : feedN h 0 (s.extract 0 k.toNat) = k ∧ feedH h 0 (s.extract 0 k.toNat) = h ++ s.extract 0 k.toNat := by
  have e1 : (s.extract 0 k.toNat).size = k.toNat := by rw [ByteArray.size_extract]; omega
  have e2 : feedN h 0 (s.extract 0 k.toNat) = k := by
    unfold feedN
    rw [if_neg (by simp), e1]; omega
  refine ⟨e2, ?_⟩
  unfold feedH
  rw [if_neg (by simp), e2]
  congr 1
  apply ba_eq
  rw [ext_list, List.drop_zero, List.take_of_length_le (by rw [sz_list, e1]; exact Nat.le_refl _)]
theorem next_parts {m : Int} {wn : List D} {n : Int} {h s : ByteArray} (t : Int) (hgo : ∀ d ∈ wn, okFr d) (hI : invP m wn n h s) :
    (waitP wn n h ∧ nextF m h 0 t = ⟨.empty, .empty, false, 0, h, 0, t⟩) ∨
    (∃ d, wn.getD n.toNat (.int 0) = d ∧ okFr d ∧ n < wn.length ∧ nextF m h 0 t = ⟨frC d, frP d, true, 0, h.extract (24 + (frP d).size) h.size, 0, rbin .add .i64 t 1⟩ ∧ invP m wn (n + 1) (h.extract (24 + (frP d).size) h.size) s ∧ (h.extract (24 + (frP d).size) h.size).size < h.size) := by
  have cut : deE m h 0 = 4 → nextF m h 0 t = ⟨.empty, .empty, false, 0, h, 0, t⟩ := by
    intro h4
    unfold nextF
    rw [if_neg (by simp), if_neg (by rw [h4]; decide), if_pos h4]
  rcases inv_at hI with ⟨a, b, c⟩ | ⟨d, hd, hm, hn, e⟩
  · left
    refine ⟨fun d hd => ?_, cut (by rw [b]; exact cut_nil m)⟩
    rw [List.getElem?_eq_none (by omega)] at hd
    cases hd
  · obtain ⟨hf, hc, hp⟩ := hgo d hm
    by_cases hlt : h.size < 24 + (frP d).size
    · left
      refine ⟨fun d' hd' => ?_, cut (cut_front hc hp ⟨_, e⟩ hlt)⟩
      rw [hd] at hd'
      cases hd'
      exact hlt
    · right
      obtain ⟨d1, d2, d3, d4, d5⟩ := whole_front hc hp e (by omega)
      refine ⟨d, by rw [List.getD_eq_getElem?_getD, hd]; rfl, ⟨hf, hc, hp⟩, hn, ?_, ⟨?_, ?_⟩, ?_⟩
      · unfold nextF
        rw [if_neg (by simp), if_pos d1, d2, d3, d4]
        rfl
      · have := hI.1; omega
      · rw [d5, show (n + 1).toNat = n.toNat + 1 by have := hI.1; omega]
      · rw [ByteArray.size_extract]; omega
end Go.Eng
namespace Go.Proofs.YtjiciplcdklfcaaDoor
open Go Go.Eng Go.Proofs Go.RowKit
attribute [local irreducible] CallOk HOk Run TIok rbin rcmp run1 updF shfF blitF

end Go.Proofs.YtjiciplcdklfcaaDoor
