import Derived.Test.YtjiciplcdklfcaaDoorF0
set_option linter.unusedSimpArgs false
set_option linter.unusedVariables false
namespace Go.Eng
open Go
section
variable {P : Program} {W0 : World} {m0 : Nat} {ρ : Ren}
theorem HRel.free {h : Heap} {w : World} (hH : HRel W0 m0 ρ h w) {n : Nat} (hn : h[n]? = some none) : ρ n = none := by
  cases hp : ρ n with
  | none => rfl
  | some p => obtain ⟨x, hx⟩ := hH.dom n p hp; rw [hn] at hx; cases hx
theorem set_get {h : Heap} {n : Nat} (hlt : n < h.length) (x : Option Blk) (m : Nat) : (h.set n x)[m]? = if n = m then some x else h[m]? := by
  rw [List.getElem?_set]; split
  · simp [hlt]
  · rfl
/-- a room is given up -/
theorem HRel.dying {h : Heap} {w : World} (hH : HRel W0 m0 ρ h w) {t : Nat} {g : G} (ht : h[t]? = some (some ⟨false, g⟩)) : HRel W0 m0 ρ (h.set t (some ⟨true, .dead⟩)) w := by
  have hlt : t < h.length := (List.getElem?_eq_some_iff.1 ht).1
  have hown : ∀ r, Owned m0 ρ h r → Owned m0 ρ (h.set t (some ⟨true, .dead⟩)) r := by
    rintro r ⟨n, b, o, h1, h2, h3, h4⟩
    by_cases hnt : t = n
    · exact ⟨n, ⟨true, .dead⟩, o, h1, by rw [set_get hlt, if_pos hnt], .inr rfl, h4⟩
    · exact ⟨n, b, o, h1, by rw [set_get hlt, if_neg hnt]; exact h2, h3, h4⟩
  refine ⟨hH.os, hH.tape, hH.output, hH.size, fun k hk hn => ?_, fun n p hp => ?_, fun n b hb hc => ?_, fun n m r o o' b b' hnm hb hro hb' hd h1 h2 => ?_, fun n r o hn hp => (hH.new n r o hn hp).imp id (hown r), hH.low, fun n b hb hg => ?_, fun n b hb hg => ?_, fun n hv => ⟨(hH.vd1 n hv).1, ?_⟩, fun n b hb hp => ?_, hH.zok, fun n b r o i hb hro hp hi => ?_, fun r i v h hr => (hH.zold r i v h hr).imp id (hown r), hH.yok⟩
  · exact hH.frame k hk fun ho => hn (hown k ho)
  · by_cases hnt : t = n
    · exact ⟨_, by rw [set_get hlt, if_pos hnt]⟩
    · obtain ⟨x, hx⟩ := hH.dom n p hp
      exact ⟨x, by rw [set_get hlt, if_neg hnt]; exact hx⟩
  · rw [set_get hlt] at hb
    by_cases hnt : t = n
    · rw [if_pos hnt] at hb; simp only [Option.some.injEq] at hb; subst hb; cases hc
    · rw [if_neg hnt] at hb; exact hH.blk n b hb hc
  · rw [set_get hlt] at hb hb'
    by_cases hnt : t = n
    · rw [if_pos hnt] at hb; simp only [Option.some.injEq] at hb; subst hb; cases hro
    · rw [if_neg hnt] at hb
      by_cases hmt : t = m
      · rw [if_pos hmt] at hb'; simp only [Option.some.injEq] at hb'; subst hb'; exact hd rfl
      · rw [if_neg hmt] at hb'
        exact hH.sep n m r o o' b b' hnm hb hro hb' hd h1 h2
  · rw [set_get hlt] at hb
    by_cases hnt : t = n
    · rw [if_pos hnt] at hb; simp only [Option.some.injEq] at hb; subst hb; cases hg
    · rw [if_neg hnt] at hb; exact hH.tails n b hb hg
  · rw [set_get hlt] at hb
    by_cases hnt : t = n
    · rw [if_pos hnt] at hb; simp only [Option.some.injEq] at hb; subst hb; rfl
    · rw [if_neg hnt] at hb; exact hH.deadRo n b hb hg
  · by_cases hnt : t = n
    · exact ⟨_, by rw [set_get hlt, if_pos hnt]⟩
    · obtain ⟨b, hb⟩ := (hH.vd1 n hv).2
      exact ⟨b, by rw [set_get hlt, if_neg hnt]; exact hb⟩
  · by_cases hnt : t = n
    · subst hnt; exact hH.vd2 t _ ht hp
    · rw [set_get hlt, if_neg hnt] at hb
      exact hH.vd2 n b hb hp
  · rw [set_get hlt] at hb
    by_cases hnt : t = n
    · rw [if_pos hnt] at hb; simp only [Option.some.injEq] at hb; subst hb; cases hro
    · rw [if_neg hnt] at hb; exact hH.zsep n b r o i hb hro hp hi
def Ren.void (ρ : Ren) (nm : Nat) : Ren := { ρ with vd := fun n => if n = nm then true else ρ.vd n }
theorem Ext.void {nm : Nat} : Ext ρ (ρ.void nm) := by
  refine ⟨⟨fun n p h => ⟨h, rfl⟩, fun r i v h => h, fun n h => ?_, fun _ _ h => h⟩, rfl⟩
  show (if n = nm then true else ρ.vd n) = true
  split
  · rfl
  · exact h
theorem BRel.ext {ρ' : Ren} (h : Sub ρ ρ') {b : Blk} {r o : Nat} {w : World} (hb : BRel ρ b r o w) : BRel ρ' b r o w := by
  obtain ⟨c, ty, fz, h1, h2, h3⟩ := hb
  exact ⟨c, ty, fz, h1, h2, fun j x hx => let ⟨v, a, b⟩ := h3 j x hx; ⟨v, a, b.ext h⟩⟩
/-- a room that lies nowhere -/
theorem HRel.tailVoid {h : Heap} {w : World} (hH : HRel W0 m0 ρ h w) {nm : Nat} (hnm : h[nm]? = some none) (hm : m0 ≤ nm) : HRel W0 m0 (ρ.void nm) (h.set nm (some ⟨false, .tail⟩)) w := by
  have hlt : nm < h.length := (List.getElem?_eq_some_iff.1 hnm).1
  have hfree := hH.free hnm
  have hne : ∀ n p, ρ n = some p → nm ≠ n := fun n p hp e => by subst e; rw [hfree] at hp; cases hp
  have hown : ∀ r, Owned m0 ρ h r → Owned m0 (ρ.void nm) (h.set nm (some ⟨false, .tail⟩)) r := by
    rintro r ⟨n, b, o, h1, h2, h3, h4⟩
    exact ⟨n, b, o, h1, by rw [set_get hlt, if_neg (hne n _ h4)]; exact h2, h3, h4⟩
  refine ⟨hH.os, hH.tape, hH.output, hH.size, fun k hk hn => ?_, fun n p hp => ?_, fun n b hb hc => ?_, fun n m r o o' b b' hnm hb hro hb' hd h1 h2 => ?_, fun n r o hn hp => (hH.new n r o hn hp).imp id (hown r), hH.low, fun n b hb hg => ?_, fun n b hb hg => ?_, fun n hv => ?_, fun n b hb hp => ?_, hH.zok, fun n b r o i hb hro hp hi => ?_, fun r i v h hr => (hH.zold r i v h hr).imp id (hown r), hH.yok⟩
  · exact hH.frame k hk fun ho => hn (hown k ho)
  · obtain ⟨x, hx⟩ := hH.dom n p hp
    exact ⟨x, by rw [set_get hlt, if_neg (hne n _ hp)]; exact hx⟩
  · rw [set_get hlt] at hb
    by_cases hnt : nm = n
    · rw [if_pos hnt] at hb; simp only [Option.some.injEq] at hb; subst hb; cases hc
    · rw [if_neg hnt] at hb
      obtain ⟨r, o, e1, e2⟩ := hH.blk n b hb hc
      exact ⟨r, o, e1, e2.ext (Ext.void (ρ := ρ) (nm := nm)).toSub⟩
  · rw [set_get hlt, if_neg (hne n _ h1)] at hb
    rw [set_get hlt, if_neg (hne m _ h2)] at hb'
    exact hH.sep n m r o o' b b' hnm hb hro hb' hd h1 h2
  · rw [set_get hlt] at hb
    by_cases hnt : nm = n
    · rw [if_pos hnt] at hb; simp only [Option.some.injEq] at hb; subst hb
      subst hnt
      exact ⟨rfl, fun r o hp => by have hp : ρ nm = some (r, o) := hp; rw [hfree] at hp; cases hp⟩
    · rw [if_neg hnt] at hb; exact hH.tails n b hb hg
  · rw [set_get hlt] at hb
    by_cases hnt : nm = n
    · rw [if_pos hnt] at hb; simp only [Option.some.injEq] at hb; subst hb; cases hg
    · rw [if_neg hnt] at hb; exact hH.deadRo n b hb hg
  · have hv : (if n = nm then true else ρ.vd n) = true := hv
    by_cases hnt : n = nm
    · subst hnt
      exact ⟨hfree, _, by rw [set_get hlt, if_pos rfl]⟩
    · rw [if_neg hnt] at hv
      obtain ⟨g1, b, g2⟩ := hH.vd1 n hv
      exact ⟨g1, b, by rw [set_get hlt, if_neg (Ne.symm hnt)]; exact g2⟩
  · show (if n = nm then true else ρ.vd n) = true
    by_cases hnt : n = nm
    · rw [if_pos hnt]
    · rw [set_get hlt, if_neg (Ne.symm hnt)] at hb
      rw [if_neg hnt]; exact hH.vd2 n b hb hp
  · rw [set_get hlt, if_neg (hne n _ hp)] at hb
    exact hH.zsep n b r o i hb hro hp hi
/-- one more name -/
def Ren.name (ρ : Ren) (nm : Nat) (p : Nat × Nat) (rm : Nat) : Ren := { ρ with f := fun n => if n = nm then some p else ρ n, room := fun n => if n = nm then rm else ρ.room n }
theorem Ext.name {nm : Nat} {p : Nat × Nat} {rm : Nat} (hf : ρ nm = none) : Ext ρ (ρ.name nm p rm) := by
  refine ⟨⟨fun n q hq => ?_, fun r i v h => h, fun n h => h, fun _ _ h => h⟩, rfl⟩
  have : n ≠ nm := fun e => by subst e; rw [hf] at hq; cases hq
  exact ⟨by show (if n = nm then some p else ρ n) = _; rw [if_neg this]; exact hq, by show (if n = nm then rm else ρ.room n) = _; rw [if_neg this]⟩
/-- a room, and its place -/
theorem HRel.tailAt {h : Heap} {w : World} (hH : HRel W0 m0 ρ h w) {nm : Nat} (hnm : h[nm]? = some none) (hm : m0 ≤ nm) {r o rm : Nat} (hr0 : W0.heap.size ≤ r ∨ Owned m0 ρ h r) {c : Array Value} {ty : TypeId} (hw : w.heap[r]? = some (.cells c ty (0, 0))) (hfit : o + rm ≤ c.size)
    (hsep : ∀ n o' b, h[n]? = some (some b) → b.g ≠ .dead → ρ n = some (r, o') → False) (hz : ∀ i, o ≤ i → ρ.z r i = none) : HRel W0 m0 (ρ.name nm (r, o) rm) (h.set nm (some ⟨false, .tail⟩)) w := by
  have hlt : nm < h.length := (List.getElem?_eq_some_iff.1 hnm).1
  have hfree := hH.free hnm
  have hx : Ext ρ (ρ.name nm (r, o) rm) := Ext.name hfree
  have hset : ∀ n (x : Option Blk), (h.set nm x)[n]? = if nm = n then some x else h[n]? := fun n x => set_get hlt x n
  have hat : ∀ n p, (ρ.name nm (r, o) rm) n = some p → (n = nm ∧ p = (r, o)) ∨ (n ≠ nm ∧ ρ n = some p) := by
    intro n p hp
    have hp : (if n = nm then some (r, o) else ρ n) = some p := hp
    by_cases hn : n = nm
    · rw [if_pos hn] at hp; exact .inl ⟨hn, (Option.some.inj hp).symm⟩
    · rw [if_neg hn] at hp; exact .inr ⟨hn, hp⟩
  have hown : ∀ r', Owned m0 ρ h r' → Owned m0 (ρ.name nm (r, o) rm) (h.set nm (some ⟨false, .tail⟩)) r' := by
    rintro r' ⟨n, b, o', h1, h2, h3, h4⟩
    refine ⟨n, b, o', h1, ?_, h3, (hx.f n _ h4).1⟩
    rw [hset, if_neg]
    · exact h2
    · intro e; subst e; rw [hfree] at h4; cases h4
  refine ⟨hH.os, hH.tape, hH.output, hH.size, fun k hk hn => ?_, fun n p hp => ?_, fun n b hb hc => ?_, fun n m r1 o1 o' b b' hnm' hb hro hb' hd h1 h2 => ?_, fun n r1 o1 hn hp => ?_, fun n r1 o1 hp => ?_, fun n b hb hg => ?_, fun n b hb hg => ?_, fun n hv => ?_, fun n b hb hp => ?_, hH.zok, fun n b r1 o1 i hb hro hp hi => ?_, fun r i v h hr => (hH.zold r i v h hr).imp id (hown r), hH.yok⟩
  · exact hH.frame k hk fun ho => hn (hown k ho)
  · rcases hat n p hp with ⟨e1, -⟩ | ⟨e1, hp⟩
    · exact ⟨_, by rw [hset, if_pos e1.symm]⟩
    · obtain ⟨b, hb⟩ := hH.dom n p hp
      exact ⟨b, by rw [hset, if_neg (Ne.symm e1)]; exact hb⟩
  · rw [hset] at hb
    by_cases hn : nm = n
    · rw [if_pos hn] at hb; simp only [Option.some.injEq] at hb; subst hb; cases hc
    · rw [if_neg hn] at hb
      obtain ⟨r1, o1, e1, e2⟩ := hH.blk n b hb hc
      exact ⟨r1, o1, (hx.f n _ e1).1, e2.ext hx⟩
  · rw [hset] at hb hb'
    rcases hat n _ h1 with ⟨e1, e2⟩ | ⟨e1, h1⟩
    · rcases hat m _ h2 with ⟨e3, -⟩ | ⟨e3, h2⟩
      · exact hnm' (e1.trans e3.symm)
      · simp only [Prod.mk.injEq] at e2
        rw [e2.1] at h2
        rw [if_neg (Ne.symm e3)] at hb'
        exact hsep m o' b' hb' hd h2
    · rw [if_neg (Ne.symm e1)] at hb
      rcases hat m _ h2 with ⟨e3, e4⟩ | ⟨e3, h2⟩
      · simp only [Prod.mk.injEq] at e4
        rw [e4.1] at h1
        by_cases hdb : b.g = .dead
        · rw [hH.deadRo n b hb hdb] at hro; cases hro
        · exact hsep n o1 b hb hdb h1
      · rw [if_neg (Ne.symm e3)] at hb'
        exact hH.sep n m r1 o1 o' b b' hnm' hb hro hb' hd h1 h2
  · rcases hat n _ hp with ⟨e1, e2⟩ | ⟨e1, hp⟩
    · simp only [Prod.mk.injEq] at e2
      rw [e2.1]; exact hr0.imp id (hown r)
    · exact (hH.new n r1 o1 hn hp).imp id (hown r1)
  · rcases hat n _ hp with ⟨e1, e2⟩ | ⟨e1, hp⟩
    · simp only [Prod.mk.injEq] at e2
      rw [e2.1]
      exact (Array.getElem?_eq_some_iff.1 hw).1
    · exact hH.low n r1 o1 hp
  · rw [hset] at hb
    by_cases hn : nm = n
    · rw [if_pos hn] at hb; simp only [Option.some.injEq] at hb; subst hb
      refine ⟨rfl, fun r1 o1 hp => ?_⟩
      rcases hat n _ hp with ⟨e1, e2⟩ | ⟨e1, hp⟩
      · simp only [Prod.mk.injEq] at e2
        obtain ⟨rfl, rfl⟩ := e2
        refine ⟨c, ty, hw, ?_⟩
        show o1 + (if n = nm then rm else ρ.room n) ≤ _
        rw [if_pos e1]; exact hfit
      · exact absurd hn.symm e1
    · rw [if_neg hn] at hb
      obtain ⟨t1, t3⟩ := hH.tails n b hb hg
      refine ⟨t1, fun r1 o1 hp => ?_⟩
      rcases hat n _ hp with ⟨e1, e2⟩ | ⟨e1, hp⟩
      · exact absurd e1.symm hn
      · obtain ⟨c1, ty1, f1, f2⟩ := t3 r1 o1 hp
        refine ⟨c1, ty1, f1, ?_⟩
        show o1 + (if n = nm then rm else ρ.room n) ≤ _
        rw [if_neg e1]; exact f2
  · rw [hset] at hb
    by_cases hn : nm = n
    · rw [if_pos hn] at hb; simp only [Option.some.injEq] at hb; subst hb; cases hg
    · rw [if_neg hn] at hb; exact hH.deadRo n b hb hg
  · obtain ⟨g1, b, g2⟩ := hH.vd1 n hv
    have hne : nm ≠ n := fun e => by subst e; rw [hnm] at g2; cases g2
    exact ⟨by show (if n = nm then some (r, o) else ρ n) = none; rw [if_neg (Ne.symm hne)]; exact g1, b, by rw [hset, if_neg hne]; exact g2⟩
  · have hp : (if n = nm then some (r, o) else ρ n) = none := hp
    by_cases hn : n = nm
    · rw [if_pos hn] at hp; cases hp
    · rw [if_neg hn] at hp
      rw [hset, if_neg (Ne.symm hn)] at hb
      exact hH.vd2 n b hb hp
  · rw [hset] at hb
    rcases hat n _ hp with ⟨e1, e2⟩ | ⟨e1, hp⟩
    · simp only [Prod.mk.injEq] at e2
      obtain ⟨rfl, rfl⟩ := e2
      rw [if_pos e1.symm] at hb
      simp only [Option.some.injEq] at hb
      subst hb
      exact hz i (hi rfl)
    · rw [if_neg (Ne.symm e1)] at hb
      exact hH.zsep n b r1 o1 i hb hro hp hi
end
end Go.Eng
