import Derived.Test.YtegcdnjihnpolaaE0
import Derived.Laws.CopyRow
import Derived.Great.BuildSlice
set_option linter.unusedSimpArgs false
set_option linter.unusedVariables false
namespace Go.Eng
open Go
section
variable {P : Program} {W0 : World} {m0 : Nat}

theorem cell_of {w : World} {r : Nat} {c : Array Value} {ty : TypeId} {fz : Nat × Nat} (h : w.heap[r]? = some (.cells c ty fz)) (o : Nat) : w.cell? ⟨r, o, none⟩ = c[o]? := by
  simp [World.cell?, h]

theorem run_load {w : World} {a : Addr} {v : Value} (h : w.cell? a = some v) : (load a).run P w = .ok v w := by
  simp [load, Sem.run, h]

theorem run_loadCellsFrom {w : World} {r o : Nat} {c : Array Value} {ty : TypeId} {fz : Nat × Nat} (h : w.heap[r]? = some (.cells c ty fz)) : ∀ (n i : Nat) (acc : Array Value), o + i + n ≤ c.size →
    (loadCellsFrom ⟨r, o, none⟩ i n acc).run P w = .ok (acc ++ c.extract (o + i) (o + i + n)) w
  | 0, i, acc, _ => by simp [loadCellsFrom, Sem.run_pure]; omega
  | n + 1, i, acc, hn => by
    have h1 : w.cell? (Addr.add ⟨r, o, none⟩ i) = some (c[o + i]'(by omega)) := by
      rw [addr_add, cell_of h]; exact Array.getElem?_eq_getElem (by omega)
    simp only [loadCellsFrom, Sem.run_bind, run_load h1, Result.andThen_ok]
    rw [run_loadCellsFrom h n (i + 1) _ (by omega)]
    congr 1
    apply Array.ext_getElem?
    intro j
    simp only [Array.getElem?_append, Array.size_push, Array.getElem?_push, Array.getElem?_extract, Array.size_extract]
    by_cases hj : j < acc.size
    · simp [hj, show j < acc.size + 1 by omega, show j ≠ acc.size by omega]
    · by_cases hj2 : j = acc.size
      · subst hj2
        simp [show o + i < c.size by omega]
        omega
      · simp [hj, hj2, show ¬ j < acc.size + 1 by omega]
        by_cases hj3 : j - (acc.size + 1) < n
        · rw [if_pos (by omega), if_pos (by omega)]
          congr 1; omega
        · rw [if_neg (by omega), if_neg (by omega)]

theorem run_loadCells {w : World} {r o n : Nat} {c : Array Value} {ty : TypeId} {fz : Nat × Nat} (h : w.heap[r]? = some (.cells c ty fz)) (hn : o + n ≤ c.size) :
    (loadCells ⟨r, o, none⟩ n).run P w = .ok (c.extract o (o + n)) w := by
  rw [loadCells, run_loadCellsFrom h n 0 #[] (by omega)]
  simp

/-- an aggregate's cells in a block -/
theorem at_some {g : G} {j : Nat} (h : j < g.len) : ∃ x, g.at j = some x := by
  cases g with
  | lst cs => exact ⟨cs[j], List.getElem?_eq_getElem h⟩
  | ints k n f => exact ⟨_, if_pos h⟩

theorem block_size {ρ : Ren} {b : Blk} {o : Nat} {c : Array Value} (hc : ∀ (j : Nat) (x : C), b.g.at j = some x → ∃ v : Value, c[o + j]? = some v ∧ CRel ρ x v) (hl : 0 < b.g.len) : o + b.g.len ≤ c.size := by
  obtain ⟨x, hx⟩ := at_some (show b.g.len - 1 < b.g.len by omega)
  obtain ⟨v, hv, -⟩ := hc _ _ hx
  have := (Array.getElem?_eq_some_iff.1 hv).1
  omega

theorem load_sound {ti : TypeId → TI} (hti : TIok P ti) {ρ : Ren} {h h' : Heap} {w : World} (hH : HRel W0 m0 ρ h w) {t : TypeId} (hk : (ti t).known = true) {b : Nat} {off : N} {u : Value} (hu : CRel ρ (.ptr b off) u)
    {al : Nat → Bool} {nm : Nat} {v : V} {rs : List Prop} (hf : perform arR al nm h (.load b off (ti t).size (ti t).agg) = some (v, h', rs)) (hr : ∀ q ∈ rs, q) :
    h' = h ∧ ∃ v', (Instr.loadAt t u).run P w = .ok v' w ∧ VRel ρ v v' := by
  obtain ⟨r, o, hρ, rfl⟩ := hu
  obtain ⟨i, hi, his, -⟩ := (hti t hk).info
  obtain ⟨d, hd, -, hag⟩ := (hti t hk).und
  simp only [perform] at hf
  split at hf
  · split at hf
    · rename_i blk hblk
      obtain ⟨r', o', hρ', c, ty, fz, hw, -, hc⟩ := hH.blk _ _ hblk
      rw [hρ] at hρ'
      simp only [Option.some.injEq, Prod.mk.injEq] at hρ'
      obtain ⟨rfl, rfl⟩ := hρ'
      split at hf
      · rename_i ha
        rw [hag] at ha
        split at hf
        · rename_i g ps hcut
          simp only [Option.some.injEq, Prod.mk.injEq] at hf
          obtain ⟨rfl, rfl, rfl⟩ := hf
          obtain ⟨e1, e2, e3⟩ := cut_at hcut hr
          by_cases hs : (ti t).size = 0
          · refine ⟨rfl, .agg #[], ?_, #[], rfl, by simp [e1, hs], fun j x hx => ?_⟩
            · simp [Instr.loadAt, Instr.sureAddr, loadVar, Sem.run_bind, Sem.run_pure, run_isAgg hd, ha, run_sizeOf hi, his, hs, loadCells, loadCellsFrom]
            · have := (e3 j x hx).1; omega
          · have hsz := block_size hc (by omega)
            refine ⟨rfl, .agg (c.extract (o + off.val) (o + off.val + (ti t).size)), ?_, _, rfl, by simp [e1]; omega, fun j x hx => ?_⟩
            · simp [Instr.loadAt, Instr.sureAddr, loadVar, Sem.run_bind, Sem.run_pure, run_isAgg hd, ha, run_sizeOf hi, his]
              rw [run_loadCells hw (by omega)]
              simp
            · obtain ⟨hj, hx⟩ := e3 j x hx
              obtain ⟨u, hu, hcr⟩ := hc _ _ hx
              refine ⟨u, ?_, hcr⟩
              rw [Array.getElem?_extract, if_pos (by omega), show o + off.val + j = o + (off.val + j) by omega]
              exact hu
        · cases hf
      · rename_i ha
        have ha : aggOf d = false := by rw [← hag]; simpa using ha
        split at hf
        · rename_i cx ps hget
          simp only [Option.some.injEq, Prod.mk.injEq] at hf
          obtain ⟨rfl, rfl, rfl⟩ := hf
          obtain ⟨u, hu, hcr⟩ := hc _ _ (get_at hget hr)
          refine ⟨rfl, u, ?_, hcr⟩
          simp only [Instr.loadAt, Instr.sureAddr, loadVar, Sem.run_bind, Sem.run_pure, run_isAgg hd, ha, Result.andThen_ok, Bool.false_eq_true, if_false]
          exact run_load (by rw [cell_of hw]; exact hu)
        · cases hf
    · cases hf
  · cases hf

/-- a write into an owned block -/
theorem HRel.write {ρ : Ren} {h : Heap} {w w' : World} (hH : HRel W0 m0 ρ h w) {b r o : Nat} {blk blk' : Blk} (hb : h[b]? = some (some blk)) (hro : blk.ro = false) (hro' : blk'.ro = false) (hρ : ρ b = some (r, o))
    (h1 : w'.os = w.os) (h2 : w'.tape = w.tape) (h3 : w'.output = w.output) (h4 : w'.heap.size = w.heap.size) (h5 : ∀ k, k ≠ r → w'.heap[k]? = w.heap[k]?) (hB : BRel ρ blk' r o w') : HRel W0 m0 ρ (h.set b (some blk')) w' := by
  have hlt : b < h.length := (List.getElem?_eq_some_iff.1 hb).1
  have hset : ∀ n, (h.set b (some blk'))[n]? = if b = n then some (some blk') else h[n]? := by
    intro n; rw [List.getElem?_set]; split
    · simp [hlt]
    · rfl
  refine ⟨h1.trans hH.os, h2.trans hH.tape, h3.trans hH.output, by rw [h4]; exact hH.size, fun k hk hn => ?_, fun n p hn => ?_, fun n x hx => ?_, fun n m r' o1 o2 x hnm hx hxr hn hm => ?_, hH.new⟩
  · have hkr : k ≠ r := fun e => hn b blk' o (by rw [hset, if_pos rfl]) hro' (by rw [hρ, e])
    rw [h5 k hkr]
    refine hH.frame k hk fun n x ox hx hxr hnx => ?_
    by_cases hbn : b = n
    · subst hbn; rw [hρ] at hnx; simp only [Option.some.injEq, Prod.mk.injEq] at hnx; exact hkr hnx.1.symm
    · exact hn n x ox (by rw [hset, if_neg hbn]; exact hx) hxr hnx
  · by_cases hbn : b = n
    · exact ⟨blk', by rw [hset, if_pos hbn]⟩
    · obtain ⟨x, hx⟩ := hH.dom n p hn
      exact ⟨x, by rw [hset, if_neg hbn]; exact hx⟩
  · rw [hset] at hx
    by_cases hbn : b = n
    · subst hbn
      rw [if_pos rfl] at hx
      simp only [Option.some.injEq] at hx
      subst hx
      exact ⟨r, o, hρ, hB⟩
    · rw [if_neg hbn] at hx
      obtain ⟨r', o', hn, c, ty, fz, hw, hz, hc⟩ := hH.blk n x hx
      have hne : r' ≠ r := by
        intro e
        subst e
        exact hH.sep b n r' o o' blk hbn hb hro hρ hn
      exact ⟨r', o', hn, c, ty, fz, by rw [h5 r' hne]; exact hw, hz, hc⟩
  · rw [hset] at hx
    by_cases hbn : b = n
    · subst hbn
      exact hH.sep b m r' o1 o2 blk hnm hb hro hn hm
    · rw [if_neg hbn] at hx
      exact hH.sep n m r' o1 o2 x hnm hx hxr hn hm

/-- a new block -/
theorem HRel.alloc {ρ : Ren} {h : Heap} {w : World} (hH : HRel W0 m0 ρ h w) {nm : Nat} (hnm : h[nm]? = some none) (hm : m0 ≤ nm) {g : G} {arr : Array Value} {ty : TypeId} (hg : GRel ρ g arr) :
    ∃ ρ', Ext ρ ρ' ∧ ρ' nm = some (w.heap.size, 0) ∧ HRel W0 m0 ρ' (h.set nm (some { ro := false, g := g })) { w with heap := w.heap.push (.cells arr ty) } := by
  have hlt : nm < h.length := (List.getElem?_eq_some_iff.1 hnm).1
  have hfree : ρ nm = none := by
    cases hp : ρ nm with
    | none => rfl
    | some p => obtain ⟨x, hx⟩ := hH.dom nm p hp; rw [hnm] at hx; cases hx
  have hset : ∀ n (x : Option Blk), (h.set nm x)[n]? = if nm = n then some x else h[n]? := by
    intro n x; rw [List.getElem?_set]; split
    · simp [hlt]
    · rfl
  have hext : Ext ρ (fun n => if n = nm then some (w.heap.size, 0) else ρ n) := by
    intro n p hn
    have : n ≠ nm := fun e => by rw [e, hfree] at hn; cases hn
    simp [this, hn]
  have hlow : ∀ n r o, ρ n = some (r, o) → r < w.heap.size := by
    intro n r o hn
    obtain ⟨x, hx⟩ := hH.dom n _ hn
    obtain ⟨r', o', hn', c, ty', fz, hw, -⟩ := hH.blk n x hx
    rw [hn] at hn'
    simp only [Option.some.injEq, Prod.mk.injEq] at hn'
    obtain ⟨rfl, rfl⟩ := hn'
    exact (Array.getElem?_eq_some_iff.1 hw).1
  refine ⟨fun n => if n = nm then some (w.heap.size, 0) else ρ n, hext, by simp, hH.os, hH.tape, hH.output, ?_, fun k hk hn => ?_, fun n p hn => ?_, fun n x hx => ?_, fun n m r o1 o2 x hnm' hx hxr hn hm' => ?_, fun n r o hmn hn => ?_⟩
  · simp only [Array.size_push]; have := hH.size; omega
  · have hs := hH.size
    show (w.heap.push _)[k]? = _
    rw [Array.getElem?_push, if_neg (by omega)]
    refine hH.frame k hk fun n x ox hx hxr hnx => ?_
    have hne : n ≠ nm := fun e => by rw [e, hfree] at hnx; cases hnx
    refine hn n x ox (by rw [hset, if_neg (Ne.symm hne)]; exact hx) hxr (by simp [hne, hnx])
  · by_cases hne : n = nm
    · exact ⟨_, by rw [hset, if_pos hne.symm]⟩
    · simp only [hne, if_false] at hn
      obtain ⟨x, hx⟩ := hH.dom n p hn
      exact ⟨x, by rw [hset, if_neg (Ne.symm hne)]; exact hx⟩
  · rw [hset] at hx
    by_cases hne : nm = n
    · subst hne
      rw [if_pos rfl] at hx
      simp only [Option.some.injEq] at hx
      subst hx
      refine ⟨w.heap.size, 0, by simp, arr, ty, (0, 0), ?_, fun _ => rfl, fun j y hy => ?_⟩
      · show (w.heap.push _)[w.heap.size]? = _
        simp
      · obtain ⟨v, hv, hc⟩ := hg.2 j y hy
        exact ⟨v, by rw [Nat.zero_add]; exact hv, hc.ext hext⟩
    · rw [if_neg hne] at hx
      obtain ⟨r, o, hn, c, ty', fz, hw, hz, hc⟩ := hH.blk n x hx
      refine ⟨r, o, by simp [Ne.symm hne, hn], c, ty', fz, ?_, hz, fun j y hy => ?_⟩
      · show (w.heap.push _)[r]? = _
        have := hlow n r o hn
        rw [Array.getElem?_push, if_neg (by omega)]
        exact hw
      · obtain ⟨v, hv, hcr⟩ := hc j y hy
        exact ⟨v, hv, hcr.ext hext⟩
  · rw [hset] at hx
    by_cases hne : n = nm
    · simp only [hne, if_true, Option.some.injEq, Prod.mk.injEq] at hn
      have hne2 : m ≠ nm := fun e => hnm' (hne.trans e.symm)
      simp only [hne2, if_false] at hm'
      have := hlow m r o2 hm'
      omega
    · rw [if_neg (Ne.symm hne)] at hx
      simp only [hne, if_false] at hn
      by_cases hne2 : m = nm
      · simp only [hne2, if_true, Option.some.injEq, Prod.mk.injEq] at hm'
        have := hlow n r o1 hn
        omega
      · simp only [hne2, if_false] at hm'
        exact hH.sep n m r o1 o2 x hnm' hx hxr hn hm'
  · by_cases hne : n = nm
    · simp only [hne, if_true, Option.some.injEq, Prod.mk.injEq] at hn
      have := hH.size; omega
    · simp only [hne, if_false] at hn
      exact hH.new n r o hmn hn

end
end Go.Eng

set_option linter.unusedSimpArgs false
set_option linter.unusedVariables false
namespace Go.Eng
open Go
section
variable {P : Program} {W0 : World} {m0 : Nat} {ρ : Ren}

/-- what a block's cells hold of an aggregate, from o on -/
def Holds (ρ : Ren) (g : G) (o : Nat) (c : Array Value) : Prop := ∀ (j : Nat) (x : C), g.at j = some x → ∃ v : Value, c[o + j]? = some v ∧ CRel ρ x v

/-- c' is c with vs laid at a -/
structure Upd (c c' : Array Value) (a : Nat) (vs : Array Value) : Prop where
  at_in : ∀ k, k < vs.size → c'[a + k]? = vs[k]?
  at_out : ∀ k, (k < a ∨ a + vs.size ≤ k) → c'[k]? = c[k]?

theorem upd_of {c : Array Value} {a : Nat} {vs : Array Value} (h : a + vs.size ≤ c.size) : Upd c (c.toList.take a ++ vs.toList ++ c.toList.drop (a + vs.size)).toArray a vs := by
  refine ⟨fun k hk => ?_, fun k hk => ?_⟩
  · simp only [List.getElem?_toArray]
    rw [List.append_assoc, List.getElem?_append_right (by simp; omega), List.getElem?_append_left (by simp; omega)]
    rw [show a + k - (c.toList.take a).length = k by simp; omega]
    simp
  · simp only [List.getElem?_toArray]
    rcases hk with hk | hk
    · rw [List.append_assoc, List.getElem?_append_left (by simp; omega), List.getElem?_take_of_lt hk]
      simp
    · rw [List.getElem?_append_right (by simp; omega), List.getElem?_drop]
      rw [show a + vs.size + (k - (c.toList.take a ++ vs.toList).length) = k by simp; omega]
      simp

theorem set_holds {g g' : G} {off : N} {cx : C} {ps : List Prop} {o : Nat} {c c' : Array Value} {v : Value} (h : g.set arR off cx = some (g', ps)) (hq : ∀ q ∈ ps, q) (hc : Holds ρ g o c) (hv : CRel ρ cx v) (hu : Upd c c' (o + off.val) #[v]) :
    off.val < g.len ∧ Holds ρ g' o c' := by
  unfold G.set at h
  split at h
  · rename_i cs i
    split at h
    · rename_i hi
      simp only [Option.some.injEq, Prod.mk.injEq] at h
      obtain ⟨rfl, rfl⟩ := h
      refine ⟨hi, fun j x hx => ?_⟩
      simp only [G.at, List.getElem?_set] at hx
      simp only [N.val_lit] at hu
      by_cases hij : i = j
      · subst hij
        simp [hi] at hx
        subst hx
        exact ⟨v, by have := hu.at_in 0 (by simp); simpa using this, hv⟩
      · rw [if_neg hij] at hx
        obtain ⟨u, h1, h2⟩ := hc j x hx
        exact ⟨u, by rw [hu.at_out _ (by simp; omega)]; exact h1, h2⟩
    · cases h
  · cases h
  · rename_i k n f
    split at h
    · rename_i k' z l hnum
      split at h
      · rename_i hk
        have := kindEq_eq hk
        subst this
        split at h
        · rename_i qs hl
          simp only [Option.some.injEq, Prod.mk.injEq] at h
          obtain ⟨rfl, rfl⟩ := h
          have hlt := leq_ok hl hq
          refine ⟨by simp only [G.len]; omega, fun j x hx => ?_⟩
          simp only [G.at] at hx
          by_cases hj : j < n.val
          · rw [if_pos hj] at hx
            simp only [Option.some.injEq, updN_eq, updF] at hx
            by_cases hij : j = off.val
            · rw [if_pos hij] at hx
              subst hx
              exact ⟨v, by have := hu.at_in 0 (by simp); rw [hij]; simpa using this, by rw [hv.of_num hnum]; rfl⟩
            · rw [if_neg hij] at hx
              subst hx
              obtain ⟨u, h1, h2⟩ := hc j (.int k (f j)) (by simp only [G.at]; rw [if_pos hj])
              exact ⟨u, by rw [hu.at_out _ (by simp; omega)]; exact h1, h2⟩
          · rw [if_neg hj] at hx; cases hx
        · cases h
      · cases h
    · cases h

theorem ints_put {k : IntKind} {m : N} {f f' gf : Nat → Int} {a n o : Nat} {c c' arr : Array Value} (hf : ∀ j, j < m.val → f' j = if a ≤ j ∧ j < a + n then gf (j - a) else f j)
    (hc : Holds ρ (.ints k m f) o c) (hv : GRel ρ (.ints k (.lit n) gf) arr) (hu : Upd c c' (o + a) arr) : Holds ρ (.ints k m f') o c' := by
  have hsz : arr.size = n := hv.1
  intro j x hx
  simp only [G.at] at hx
  by_cases hj : j < m.val
  · rw [if_pos hj, hf j hj] at hx
    simp only [Option.some.injEq] at hx
    by_cases hw : a ≤ j ∧ j < a + n
    · rw [if_pos hw] at hx
      subst hx
      obtain ⟨u, h1, h2⟩ := hv.2 (j - a) (.int k (gf (j - a))) (by simp only [G.at]; rw [if_pos (show j - a < (N.lit n).val by simp only [N.val_lit]; omega)])
      refine ⟨u, ?_, h2⟩
      have := hu.at_in (j - a) (by omega)
      rw [show o + a + (j - a) = o + j by omega] at this
      rw [this]; exact h1
    · rw [if_neg hw] at hx
      subst hx
      obtain ⟨u, h1, h2⟩ := hc j (.int k (f j)) (by simp only [G.at]; rw [if_pos hj])
      exact ⟨u, by rw [hu.at_out _ (by omega)]; exact h1, h2⟩
  · rw [if_neg hj] at hx; cases hx

theorem put_holds {g g0 g' : G} {off : N} {ps : List Prop} {o : Nat} {c c' arr : Array Value} (h : g.put arR off g0 = some (g', ps)) (hq : ∀ q ∈ ps, q) (hc : Holds ρ g o c) (hv : GRel ρ g0 arr) (hu : Upd c c' (o + off.val) arr) :
    off.val + arr.size ≤ g.len ∧ Holds ρ g' o c' := by
  unfold G.put at h
  split at h
  · rename_i cs off
    split at h
    · rename_i l hl
      have hlr := list_rel hv hl
      split at h
      · rename_i hoff
        simp only [Option.some.injEq, Prod.mk.injEq] at h
        obtain ⟨rfl, rfl⟩ := h
        simp only [N.val_lit] at hu ⊢
        have hsz : arr.size = l.length := hlr.1
        refine ⟨by simp only [G.len]; omega, fun j x hx => ?_⟩
        simp only [G.at] at hx
        by_cases h1 : j < off
        · rw [List.append_assoc, List.getElem?_append_left (by simp; omega), List.getElem?_take_of_lt h1] at hx
          obtain ⟨u, a1, a2⟩ := hc j x hx
          exact ⟨u, by rw [hu.at_out _ (by omega)]; exact a1, a2⟩
        · by_cases h2 : j < off + l.length
          · rw [List.append_assoc, List.getElem?_append_right (by simp; omega), List.getElem?_append_left (by simp; omega)] at hx
            rw [show j - (cs.take off).length = j - off by simp; omega] at hx
            obtain ⟨u, a1, a2⟩ := hlr.2 _ x hx
            refine ⟨u, ?_, a2⟩
            have := hu.at_in (j - off) (by omega)
            rw [show o + off + (j - off) = o + j by omega] at this
            rw [this]; exact a1
          · rw [List.append_assoc, List.getElem?_append_right (by simp; omega), List.getElem?_append_right (by simp; omega), List.getElem?_drop] at hx
            rw [show off + l.length + (j - (cs.take off).length - l.length) = j by simp; omega] at hx
            obtain ⟨u, a1, a2⟩ := hc j x hx
            exact ⟨u, by rw [hu.at_out _ (by omega)]; exact a1, a2⟩
      · cases h
    · cases h
  · cases h
  · rename_i k m f k' n gf
    split at h
    · rename_i hk
      have := kindEq_eq hk
      subst this
      have hsz : arr.size = n := hv.1
      split at h
      · rename_i m'
        split at h
        · rename_i hnm
          simp only [Option.some.injEq, Prod.mk.injEq] at h
          obtain ⟨rfl, rfl⟩ := h
          refine ⟨by simp only [N.val_lit, G.len]; omega, ints_put (a := 0) (n := n) (gf := gf) (fun j hj => ?_) hc hv hu⟩
          simp only [N.val_lit] at hj
          rw [if_pos (by omega), Nat.sub_zero]
        · split at h
          · rename_i hle
            simp only [Option.some.injEq, Prod.mk.injEq] at h
            obtain ⟨rfl, rfl⟩ := h
            exact ⟨by simp only [N.val_lit, G.len]; omega, ints_put (a := 0) (n := n) (gf := gf) (fun j hj => by simp [arR, blitF]) hc hv hu⟩
          · cases h
      · rename_i m'
        simp only [Option.some.injEq, Prod.mk.injEq] at h
        obtain ⟨rfl, rfl⟩ := h
        have hle : n ≤ m' := hq (arR.leN n m') (by simp)
        exact ⟨by simp only [N.val_lit, N.val_sym, G.len]; omega, ints_put (a := 0) (n := n) (gf := gf) (fun j hj => by simp [arR, blitF]) hc hv hu⟩
    · cases h
  · rename_i k m f off' k' n gf hne
    split at h
    · rename_i hk
      have := kindEq_eq hk
      subst this
      split at h
      · rename_i qs hl
        simp only [Option.some.injEq, Prod.mk.injEq] at h
        obtain ⟨rfl, rfl⟩ := h
        have hle := leq_ok hl hq
        have hsz : arr.size = n := hv.1
        exact ⟨by simp only [G.len]; omega, ints_put (a := off.val) (n := n) (gf := gf) (fun j hj => by simp [arR, blitF]) hc hv hu⟩
      · cases h
    · cases h
  · cases h

theorem set_lt {g g' : G} {off : N} {cx : C} {ps : List Prop} (h : g.set arR off cx = some (g', ps)) (hq : ∀ q ∈ ps, q) : off.val < g.len := by
  unfold G.set at h
  split at h
  · split at h
    · rename_i hi; exact hi
    · cases h
  · cases h
  · split at h
    · split at h
      · split at h
        · rename_i hl
          simp only [Option.some.injEq, Prod.mk.injEq] at h
          obtain ⟨rfl, rfl⟩ := h
          have := leq_ok hl hq
          simp only [G.len]; omega
        · cases h
      · cases h
    · cases h

theorem put_le {g g0 g' : G} {off : N} {ps : List Prop} (h : g.put arR off g0 = some (g', ps)) (hq : ∀ q ∈ ps, q) : off.val + g0.len ≤ g.len := by
  unfold G.put at h
  split at h
  · split at h
    · rename_i l hl
      split at h
      · rename_i hoff
        have : g0.len = l.length := by
          unfold G.list at hl
          split at hl <;> first | (simp only [Option.some.injEq] at hl; subst hl; simp [G.len]) | cases hl
        simp only [N.val_lit, G.len] at *; omega
      · cases h
    · cases h
  · cases h
  · split at h
    · split at h
      · split at h
        · rename_i hnm; simp only [N.val_lit, G.len]; omega
        · split at h
          · rename_i hle; simp only [N.val_lit, G.len]; omega
          · cases h
      · rename_i m'
        simp only [Option.some.injEq, Prod.mk.injEq] at h
        obtain ⟨rfl, rfl⟩ := h
        have hle := hq _ (List.mem_singleton.2 rfl)
        simp only [arR] at hle
        simp only [N.val_lit, N.val_sym, G.len]; omega
    · cases h
  · split at h
    · split at h
      · rename_i hl
        simp only [Option.some.injEq, Prod.mk.injEq] at h
        obtain ⟨rfl, rfl⟩ := h
        have := leq_ok hl hq
        simp only [N.val_lit, G.len]; omega
      · cases h
    · cases h
  · cases h

theorem isOne' {c : C} {v : Value} (h : CRel ρ c v) : v.oneCell' = true := by
  have := h.isOne
  cases v <;> simp_all [Value.oneCell', one1]

theorem setRow_other (w : World) (r : Nat) (c : Array Value) (k : Nat) (h : k ≠ r) : (w.setRow r c).heap[k]? = w.heap[k]? := by
  simp only [World.setRow, Array.getElem?_modify]
  rw [if_neg (Ne.symm h)]

theorem len_of {g : G} {n : Nat} (h : g.len? = some n) : g.len = n := by
  unfold G.len? at h
  split at h <;> first | (simp only [Option.some.injEq] at h; subst h; rfl) | cases h

theorem oneCells {g : G} {arr : Array Value} (h : GRel ρ g arr) : ∀ v ∈ arr.toList, v.oneCell' = true := by
  intro v hv
  obtain ⟨j, hj, hvj⟩ := List.getElem_of_mem hv
  have hlt : j < g.len := by rw [← h.1]; simpa using hj
  obtain ⟨x, hx⟩ := at_some hlt
  obtain ⟨u, hu, hc⟩ := h.2 j x hx
  have : u = v := by
    have h1 : arr[j]? = some arr.toList[j] := by simp
    rw [hu] at h1
    rw [← hvj]; exact Option.some.inj h1
  rw [← this]
  exact isOne' hc

theorem run_storeVar {t : TypeId} {i : TypeInfo} (hi : P.info? t = some i) {v : Value} (hs : v.cells.size = i.size) (a : Addr) (w : World) : (storeVar t a v).run P w = (storeCells a v.cells.toList).run P w := by
  simp [storeVar, Sem.run_bind, run_sizeOf hi, hs]

theorem store_sound {ti : TypeId → TI} (hti : TIok P ti) {h h' : Heap} {w : World} (hH : HRel W0 m0 ρ h w) {t : TypeId} (hk : (ti t).known = true) {b : Nat} {off : N} {u xv : Value} {x : A} (hu : CRel ρ (.ptr b off) u) (hx : ARel ρ x xv)
    {al : Nat → Bool} {nm : Nat} {v : V} {rs : List Prop} (hf : perform arR al nm h (.store b off x (ti t).size) = some (v, h', rs)) (hr : ∀ q ∈ rs, q) :
    v = .tup [] ∧ ∃ w', (Instr.storeAt t u xv).run P w = .ok () w' ∧ HRel W0 m0 ρ h' w' := by
  obtain ⟨r, o, hρ, rfl⟩ := hu
  obtain ⟨i, hi, his, -⟩ := (hti t hk).info
  simp only [perform] at hf
  split at hf
  · split at hf
    · rename_i blk hblk
      obtain ⟨r', o', hρ', c, ty, fz, hw, hfz, hc⟩ := hH.blk _ _ hblk
      rw [hρ] at hρ'
      simp only [Option.some.injEq, Prod.mk.injEq] at hρ'
      obtain ⟨rfl, rfl⟩ := hρ'
      split at hf
      · cases hf
      · rename_i hro
        have hro : blk.ro = false := by simpa using hro
        have hfz := hfz hro
        subst hfz
        have fin : ∀ (arr : Array Value) (g' : G), xv.cells = arr → arr.size = (ti t).size → (∀ v ∈ arr.toList, v.oneCell' = true) → (0 < arr.size → o + off.val + arr.size ≤ c.size) →
            (∀ c', Upd c c' (o + off.val) arr → Holds ρ g' o c') →
            ∃ w', (Instr.storeAt t (.pointer (some ⟨r, o + off.val, none⟩)) xv).run P w = .ok () w' ∧ HRel W0 m0 ρ (h.set b (some { blk with g := g' })) w' := by
          intro arr g' e1 e2 e3 e4 e5
          by_cases hz : arr.size = 0
          · have : arr = #[] := Array.size_eq_zero_iff.1 hz
            subst this
            refine ⟨w, ?_, hH.write hblk hro hro hρ rfl rfl rfl rfl (fun _ _ => rfl) ⟨c, ty, (0, 0), hw, fun _ => rfl, e5 c ⟨fun k hk => by simp at hk, fun k _ => rfl⟩⟩⟩
            simp only [Instr.storeAt, Instr.sureAddr, Sem.run_bind, Sem.run_pure, Result.andThen_ok]
            rw [run_storeVar hi (by rw [e1, his, e2]), e1]
            rfl
          · have hfit := e4 (by omega)
            refine ⟨_, ?_, hH.write (w' := w.setRow r (c.toList.take (o + off.val + 0) ++ arr.toList ++ c.toList.drop (o + off.val + 0 + arr.toList.length)).toArray) hblk hro hro hρ rfl rfl rfl (setRow_size _ _ _) (fun k hk => setRow_other _ _ _ _ hk) ⟨_, ty, (0, 0), setRow_heap _ _ _ _ _ _ hw, fun _ => rfl, e5 _ ?_⟩⟩
            · simp only [Instr.storeAt, Instr.sureAddr, Sem.run_bind, Sem.run_pure, Result.andThen_ok]
              rw [run_storeVar hi (by rw [e1, his, e2]), e1]
              exact run_storeCells_at P r (o + off.val) ty arr.toList 0 c w hw (by simpa using hfit) e3
            · have := upd_of (c := c) (a := o + off.val) (vs := arr) hfit
              simpa using this
        split at hf
        · rename_i cx
          split at hf
          · rename_i hsz
            split at hf
            · rename_i g' ps hset
              simp only [Option.some.injEq, Prod.mk.injEq] at hf
              obtain ⟨rfl, rfl, rfl⟩ := hf
              have hx' : CRel ρ cx xv := hx
              have hlt := set_lt hset hr
              have hbs := block_size hc (by omega)
              refine ⟨rfl, fin #[xv] g' hx'.cells (by rw [hsz]; rfl) (fun v hv => ?_) (fun _ => by simp; omega) (fun c' hu => (set_holds hset hr hc hx' hu).2)⟩
              simp at hv; subst hv
              exact isOne' hx'
            · cases hf
          · cases hf
        · rename_i g0
          split at hf
          · rename_i n hn
            split at hf
            · rename_i hns
              split at hf
              · rename_i g' ps hput
                simp only [Option.some.injEq, Prod.mk.injEq] at hf
                obtain ⟨rfl, rfl, rfl⟩ := hf
                obtain ⟨arr, rfl, hg⟩ := hx
                have hsz : arr.size = (ti t).size := by rw [hg.1, len_of hn, hns]
                refine ⟨rfl, fin arr g' rfl hsz (oneCells hg) (fun hpos => ?_) (fun c' hu => (put_holds hput hr hc hg hu).2)⟩
                have hle := put_le hput hr
                have hl := hg.1
                have hbs := block_size hc (by omega)
                omega
              · cases hf
            · cases hf
          · cases hf
    · cases hf
  · cases hf
end
end Go.Eng

set_option linter.unusedSimpArgs false
set_option linter.unusedVariables false
namespace Go.Eng
open Go Go.RowKit

def AsRel (ρ : Ren) (args : List A) (args' : Array Value) : Prop :=
  args'.size = args.length ∧ ∀ (j : Nat) (x : A), args[j]? = some x → ∃ u : Value, args'[j]? = some u ∧ ARel ρ x u

section
variable {P : Program} {W0 : World} {m0 : Nat} {ρ : Ren}

theorem HRel.low {h : Heap} {w : World} (hH : HRel W0 m0 ρ h w) {n r o : Nat} (hn : ρ n = some (r, o)) : r < w.heap.size := by
  obtain ⟨x, hx⟩ := hH.dom n _ hn
  obtain ⟨r', o', hn', c, ty', fz, hw, -⟩ := hH.blk n x hx
  rw [hn] at hn'
  simp only [Option.some.injEq, Prod.mk.injEq] at hn'
  obtain ⟨rfl, rfl⟩ := hn'
  exact (Array.getElem?_eq_some_iff.1 hw).1

theorem idxF_spec {b : Nat} : ∀ {ns : List Nat} {i0 i : Nat}, idxF ns b i0 = some i → i0 ≤ i ∧ ns[i - i0]? = some b
  | [], i0, i, h => by cases h
  | x :: ns, i0, i, h => by
    simp only [idxF] at h
    split at h
    · rename_i e
      simp only [Option.some.injEq] at h
      subst h e
      exact ⟨Nat.le_refl _, by simp⟩
    · obtain ⟨h1, h2⟩ := idxF_spec h
      refine ⟨by omega, ?_⟩
      rw [show i - i0 = (i - (i0 + 1)) + 1 by omega]
      simpa using h2

/-- the small renaming of the blocks that are reached -/
def small (ρ : Ren) (ns : List Nat) : Ren := fun i => ns[i]?.bind ρ

theorem renC_rel {ns : List Nat} {c c' : C} {v : Value} (h : renC ns c = some c') (hc : CRel ρ c v) : CRel (small ρ ns) c' v := by
  cases c <;> simp only [renC] at h
  case ptr b off =>
    simp only [Option.map_eq_some_iff] at h
    obtain ⟨i, hi, rfl⟩ := h
    obtain ⟨r, o, h1, h2⟩ := hc
    have := (idxF_spec hi).2
    exact ⟨r, o, by simp only [small]; rw [show i = i - 0 from rfl, this]; exact h1, h2⟩
  case sl b off len cap =>
    simp only [Option.map_eq_some_iff] at h
    obtain ⟨i, hi, rfl⟩ := h
    obtain ⟨r, o, h1, h2⟩ := hc
    have := (idxF_spec hi).2
    exact ⟨r, o, by simp only [small]; rw [show i = i - 0 from rfl, this]; exact h1, h2⟩
  all_goals (simp only [Option.some.injEq] at h; subst h; exact hc)

theorem bakC_rel {ns : List Nat} {c c' : C} {v : Value} (h : bakC ns c = some c') (hc : CRel (small ρ ns) c v) : CRel ρ c' v := by
  cases c <;> simp only [bakC] at h
  case ptr i off =>
    simp only [Option.map_eq_some_iff] at h
    obtain ⟨b, hb, rfl⟩ := h
    obtain ⟨r, o, h1, h2⟩ := hc
    simp only [small, hb, Option.bind_some] at h1
    exact ⟨r, o, h1, h2⟩
  case sl i off len cap =>
    simp only [Option.map_eq_some_iff] at h
    obtain ⟨b, hb, rfl⟩ := h
    obtain ⟨r, o, h1, h2⟩ := hc
    simp only [small, hb, Option.bind_some] at h1
    exact ⟨r, o, h1, h2⟩
  all_goals (simp only [Option.some.injEq] at h; subst h; exact hc)

theorem mapM_back {α β : Type} {f : α → Option β} : ∀ {l : List α} {r : List β}, l.mapM f = some r → ∀ (j : Nat) y, r[j]? = some y → ∃ x, l[j]? = some x ∧ f x = some y
  | [], r, h, j, y, hj => by simp at h; subst h; simp at hj
  | a :: l, r, h, j, y, hj => by
    simp only [List.mapM_cons, Option.bind_eq_bind, Option.pure_def] at h
    cases hx : f a with
    | none => simp [hx] at h
    | some b =>
      cases hl : l.mapM f with
      | none => simp [hx, hl] at h
      | some bs =>
        simp [hx, hl] at h
        subst h
        cases j with
        | zero => simp at hj; subst hj; exact ⟨a, by simp, hx⟩
        | succ j => simpa using mapM_back hl j y (by simpa using hj)

theorem mapG_at {f : C → Option C} {g g' : G} (h : mapG f g = some g') : g'.len = g.len ∧ ∀ (j : Nat) x', g'.at j = some x' → (∃ x, g.at j = some x ∧ (f x = some x' ∨ (x' = x ∧ ∃ k n, x = .int k n))) := by
  cases g with
  | lst cs =>
    simp only [mapG, Option.map_eq_some_iff] at h
    obtain ⟨l, hl, rfl⟩ := h
    refine ⟨by simp [G.len, mapM_some_length hl], fun j x' hx => ?_⟩
    obtain ⟨x, h1, h2⟩ := mapM_back hl j x' hx
    exact ⟨x, h1, .inl h2⟩
  | ints k n g =>
    simp only [mapG, Option.some.injEq] at h
    subst h
    refine ⟨rfl, fun j x' hx => ⟨x', hx, .inr ⟨rfl, ?_⟩⟩⟩
    simp only [G.at] at hx
    split at hx
    · simp only [Option.some.injEq] at hx; exact ⟨k, _, hx.symm⟩
    · cases hx

theorem mapG_cell {ρ' : Ren} {f : C → Option C} (hf : ∀ c c' v, f c = some c' → CRel ρ c v → CRel ρ' c' v) {x x' : C} {v : Value} (h : f x = some x' ∨ (x' = x ∧ ∃ k n, x = .int k n)) (hv : CRel ρ x v) : CRel ρ' x' v := by
  rcases h with h | ⟨rfl, k, n, rfl⟩
  · exact hf _ _ _ h hv
  · exact hv

theorem mapA_rel {ρ' : Ren} {f : C → Option C} (hf : ∀ c c' v, f c = some c' → CRel ρ c v → CRel ρ' c' v) {x x' : A} {v : Value} (h : mapA f x = some x') (hv : ARel ρ x v) : ARel ρ' x' v := by
  cases x with
  | one c =>
    simp only [mapA, Option.map_eq_some_iff] at h
    obtain ⟨c', hc, rfl⟩ := h
    exact hf _ _ _ hc hv
  | agg g =>
    simp only [mapA, Option.map_eq_some_iff] at h
    obtain ⟨g', hg, rfl⟩ := h
    obtain ⟨arr, e, h1, h2⟩ := hv
    obtain ⟨a1, a2⟩ := mapG_at hg
    refine ⟨arr, e, by rw [h1, a1], fun j x' hx => ?_⟩
    obtain ⟨x, b1, b2⟩ := a2 j x' hx
    obtain ⟨u, c1, c2⟩ := h2 j x b1
    exact ⟨u, c1, mapG_cell hf b2 c2⟩

theorem mapV_rel {ρ' : Ren} {f : C → Option C} (hf : ∀ c c' v, f c = some c' → CRel ρ c v → CRel ρ' c' v) {x x' : V} {v : Value} (h : mapV f x = some x') (hv : VRel ρ x v) : VRel ρ' x' v := by
  cases x with
  | a x =>
    simp only [mapV, Option.map_eq_some_iff] at h
    obtain ⟨y, hy, rfl⟩ := h
    exact mapA_rel hf hy hv
  | tup xs =>
    simp only [mapV, Option.map_eq_some_iff] at h
    obtain ⟨l, hl, rfl⟩ := h
    obtain ⟨arr, e, h1, h2⟩ := hv
    refine ⟨arr, e, by rw [h1, mapM_some_length hl], fun j x' hx => ?_⟩
    obtain ⟨x, b1, b2⟩ := mapM_back hl j x' hx
    obtain ⟨u, c1, c2⟩ := h2 j x b1
    exact ⟨u, c1, mapA_rel hf b2 c2⟩
  | any =>
    simp only [mapV, Option.some.injEq] at h
    subst h
    exact True.intro

theorem mapB_rel {ρ' : Ren} {f : C → Option C} (hf : ∀ c c' v, f c = some c' → CRel ρ c v → CRel ρ' c' v) {b b' : Blk} {r o : Nat} {w : World} (h : mapB f b = some b') (hb : BRel ρ b r o w) : b'.ro = b.ro ∧ BRel ρ' b' r o w := by
  simp only [mapB, Option.map_eq_some_iff] at h
  obtain ⟨g, hg, rfl⟩ := h
  obtain ⟨c, ty, fz, h1, h2, h3⟩ := hb
  refine ⟨rfl, c, ty, fz, h1, h2, fun j x' hx => ?_⟩
  obtain ⟨x, b1, b2⟩ := (mapG_at hg).2 j x' hx
  obtain ⟨u, c1, c2⟩ := h3 j x b1
  exact ⟨u, c1, mapG_cell hf b2 c2⟩

theorem setMany_len : ∀ {ns : List Nat} {bs : List Blk} {h : Heap}, (setMany h ns bs).length = h.length
  | [], bs, h => by cases bs <;> rfl
  | n :: ns, [], h => rfl
  | n :: ns, b :: bs, h => by simp only [setMany]; rw [setMany_len]; simp

theorem setMany_out {k : Nat} : ∀ {ns : List Nat} {bs : List Blk} {h : Heap}, k ∉ ns → (setMany h ns bs)[k]? = h[k]?
  | [], bs, h, _ => by cases bs <;> rfl
  | n :: ns, [], h, _ => rfl
  | n :: ns, b :: bs, h, hk => by
    simp only [setMany]
    rw [setMany_out (fun e => hk (by simp [e])), List.getElem?_set_ne (fun e => hk (by simp [e]))]

theorem setMany_at {k : Nat} {b : Blk} : ∀ {ns : List Nat} {bs : List Blk} {h : Heap} {i : Nat}, ns.Nodup → ns[i]? = some k → bs[i]? = some b → k < h.length → (setMany h ns bs)[k]? = some (some b)
  | [], bs, h, i, _, hi, _, _ => by simp at hi
  | n :: ns, [], h, i, _, _, hb, _ => by simp at hb
  | n :: ns, b' :: bs, h, 0, hn, hi, hb, hk => by
    simp at hi hb
    subst hi hb
    simp only [setMany]
    rw [setMany_out (List.nodup_cons.1 hn).1]
    simp [hk]
  | n :: ns, b' :: bs, h, i + 1, hn, hi, hb, hk => by
    simp only [setMany]
    exact setMany_at (List.nodup_cons.1 hn).2 (by simpa using hi) (by simpa using hb) (by simpa using hk)

theorem nodup_idx {n : Nat} : ∀ {ns : List Nat} {i j : Nat}, ns.Nodup → ns[i]? = some n → ns[j]? = some n → i = j
  | [], i, j, _, h, _ => by simp at h
  | x :: ns, 0, 0, _, _, _ => rfl
  | x :: ns, 0, j + 1, hn, h1, h2 => by
    simp at h1 h2
    subst h1
    exact absurd (List.mem_of_getElem? h2) (List.nodup_cons.1 hn).1
  | x :: ns, i + 1, 0, hn, h1, h2 => by
    simp at h1 h2
    subst h2
    exact absurd (List.mem_of_getElem? h1) (List.nodup_cons.1 hn).1
  | x :: ns, i + 1, j + 1, hn, h1, h2 => by
    have := nodup_idx (List.nodup_cons.1 hn).2 (by simpa using h1) (by simpa using h2)
    omega

theorem sameRo_spec : ∀ {l m : List Blk}, sameRo l m = true → l.length = m.length ∧ ∀ (i : Nat) a b, l[i]? = some a → m[i]? = some b → b.ro = a.ro
  | [], [], _ => ⟨rfl, fun i a b h => by simp at h⟩
  | [], _ :: _, h => by simp [sameRo] at h
  | _ :: _, [], h => by simp [sameRo] at h
  | x :: l, y :: m, h => by
    simp only [sameRo, Bool.and_eq_true, beq_iff_eq] at h
    obtain ⟨h1, h2⟩ := sameRo_spec h.2
    refine ⟨by simp [h1], fun i a b ha hb => ?_⟩
    cases i with
    | zero => simp at ha hb; subst ha hb; exact h.1.symm
    | succ i => exact h2 i a b (by simpa using ha) (by simpa using hb)

theorem blkAt_eq {h : Heap} {n : Nat} {b : Blk} (e : blkAt h n = some b) : h[n]? = some (some b) := by
  unfold blkAt at e
  split at e
  · rename_i x hx; simp only [Option.some.injEq] at e; rw [hx, e]
  · cases e

theorem addAll_nodup : ∀ {xs ns : List Nat}, ns.Nodup → (addAll ns xs).Nodup
  | [], ns, h => h
  | x :: xs, ns, h => by
    simp only [addAll]
    split
    · exact addAll_nodup h
    · rename_i hx
      refine addAll_nodup ?_
      rw [List.nodup_append]
      refine ⟨h, by simp, fun a ha b hb => ?_⟩
      simp at hb
      subst hb
      intro e
      subst e
      simp at hx
      exact hx ha
theorem clo_nodup {h : Heap} : ∀ {k : Nat} {ns : List Nat}, ns.Nodup → (clo h k ns).Nodup
  | 0, ns, hn => hn
  | k + 1, ns, hn => by
    simp only [clo]
    exact clo_nodup (addAll_nodup hn)
theorem reach_nodup (h : Heap) (args : List A) : (reach h args).Nodup := clo_nodup (addAll_nodup List.nodup_nil)

/-- A CALL ON THE BLOCKS THAT IT REACHES: down to the small heap, and back -/
theorem performH_sound {al : Nat → Bool} {h : Heap} {ns : List Nat} {s : HSpec} {args : List A} {v : V} {bs' : List Blk} {ps : List Prop} {w : World} {args' : Array Value} (hn : ns.Nodup) (hH : HRel W0 m0 ρ h w) (hA : AsRel ρ args args')
    (hp : performH al h ns s args = some (v, bs', ps)) :
    ∃ las lbs v0 lbs', s las lbs = some (v0, lbs', ps) ∧ AsRel (small ρ ns) las args' ∧ HRel w lbs.length (small ρ ns) (lbs.map some) w ∧
      ∀ v' w', VRel (small ρ ns) v0 v' → HRel w lbs.length (small ρ ns) (lbs'.map some) w' → VRel ρ v v' ∧ HRel W0 m0 ρ (setMany h ns bs') w' := by
  unfold performH at hp
  split at hp
  · split at hp
    · rename_i bs hbs
      split at hp
      · rename_i las lbs hlas hlbs
        split at hp
        · rename_i v0 lbs' ps' hs
          split at hp
          · rename_i v1 bs1 hv1 hbs1
            split at hp
            · rename_i hro
              simp only [Option.some.injEq, Prod.mk.injEq] at hp
              obtain ⟨rfl, rfl, rfl⟩ := hp
              have hl1 := mapM_some_length hbs
              have hl2 := mapM_some_length hlbs
              have hl3 := mapM_some_length hbs1
              obtain ⟨hl4, hro⟩ := sameRo_spec hro
              have at_ns : ∀ (i : Nat) lb, lbs[i]? = some lb → ∃ n b, ns[i]? = some n ∧ h[n]? = some (some b) ∧ mapB (renC ns) b = some lb ∧ bs[i]? = some b := by
                intro i lb hi
                obtain ⟨b, hb, hm⟩ := mapM_back hlbs i lb hi
                obtain ⟨n, hn', hbn⟩ := mapM_back hbs i b hb
                exact ⟨n, b, hn', blkAt_eq hbn, hm, hb⟩
              have small_some : ∀ (i : Nat) p, small ρ ns i = some p → ∃ n, ns[i]? = some n ∧ ρ n = some p := by
                intro i p hi
                simp only [small] at hi
                cases hx : ns[i]? with
                | none => rw [hx] at hi; simp at hi
                | some n => rw [hx] at hi; exact ⟨n, rfl, by simpa using hi⟩
              refine ⟨las, lbs, v0, lbs', hs, ⟨by rw [hA.1, mapM_some_length hlas], fun j x hx => ?_⟩, ?_, fun v' w' hv' hH' => ⟨mapV_rel (fun c c' u => bakC_rel) hv1 hv', ?_⟩⟩
              · obtain ⟨y, h1, h2⟩ := mapM_back hlas j x hx
                obtain ⟨u, h3, h4⟩ := hA.2 j y h1
                exact ⟨u, h3, mapA_rel (fun c c' u => renC_rel) h2 h4⟩
              · refine ⟨rfl, rfl, rfl, Nat.le_refl _, fun _ _ _ => rfl, fun i p hi => ?_, fun i lb hi => ?_, fun i j r o o' lb hij hi hroi e1 e2 => ?_, fun i r o hi e => ?_⟩
                · obtain ⟨n, hn1, hn2⟩ := small_some i p hi
                  have : i < lbs.length := by
                    have := (List.getElem?_eq_some_iff.1 hn1).1; omega
                  exact ⟨lbs[i], by simp [this]⟩
                · simp only [List.getElem?_map, Option.map_eq_some_iff] at hi
                  obtain ⟨lb', hi, e⟩ := hi
                  simp only [Option.some.injEq] at e
                  subst e
                  obtain ⟨n, b, h1, h2, h3, -⟩ := at_ns i lb' hi
                  obtain ⟨r, o, h4, h5⟩ := hH.blk n b h2
                  exact ⟨r, o, by simp only [small, h1, Option.bind_some]; exact h4, (mapB_rel (fun c c' u => renC_rel) h3 h5).2⟩
                · simp only [List.getElem?_map, Option.map_eq_some_iff] at hi
                  obtain ⟨lb', hi, e⟩ := hi
                  simp only [Option.some.injEq] at e
                  subst e
                  obtain ⟨n, b, h1, h2, h3, -⟩ := at_ns i lb' hi
                  obtain ⟨r', o2, h4, h5⟩ := hH.blk n b h2
                  have hb := (mapB_rel (fun c c' u => renC_rel) h3 h5).1
                  obtain ⟨n1, a1, a2⟩ := small_some i _ e1
                  obtain ⟨n2, a3, a4⟩ := small_some j _ e2
                  rw [h1] at a1
                  simp only [Option.some.injEq] at a1
                  subst a1
                  refine hH.sep n n2 r o o' b ?_ h2 (by rw [← hb]; exact hroi) a2 a4
                  intro e
                  subst e
                  exact hij (nodup_idx hn h1 a3)
                · obtain ⟨n, hn1, -⟩ := small_some i _ e
                  have := (List.getElem?_eq_some_iff.1 hn1).1
                  omega
              · have hget : ∀ (k : Nat) bb, (setMany h ns bs1)[k]? = some (some bb) → (∃ (i : Nat) (b : Blk), ns[i]? = some k ∧ bs1[i]? = some bb ∧ h[k]? = some (some b) ∧ bs[i]? = some b ∧ bb.ro = b.ro) ∨ (k ∉ ns ∧ h[k]? = some (some bb)) := by
                  intro k bb hk
                  by_cases hmem : k ∈ ns
                  · obtain ⟨i, hi, e⟩ := List.getElem_of_mem hmem
                    have hns : ns[i]? = some k := by rw [← e]; exact List.getElem?_eq_getElem hi
                    have hib : i < bs.length := by omega
                    obtain ⟨n, hn1, hn2⟩ := mapM_back hbs i bs[i] (List.getElem?_eq_getElem hib)
                    rw [hns] at hn1
                    simp only [Option.some.injEq] at hn1
                    subst hn1
                    have hb := blkAt_eq hn2
                    have hib1 : i < bs1.length := by omega
                    have hat := setMany_at (b := bs1[i]) (bs := bs1) hn hns (List.getElem?_eq_getElem hib1) (List.getElem?_eq_some_iff.1 hb).1
                    rw [hat] at hk
                    simp only [Option.some.injEq] at hk
                    subst hk
                    exact .inl ⟨i, bs[i], hns, List.getElem?_eq_getElem hib1, hb, List.getElem?_eq_getElem hib, hro i _ _ (List.getElem?_eq_getElem hib) (List.getElem?_eq_getElem hib1)⟩
                  · rw [setMany_out hmem] at hk
                    exact .inr ⟨hmem, hk⟩
                have owned : ∀ (k : Nat) (i : Nat) lb o, (lbs'.map some)[i]? = some (some lb) → lb.ro = false → small ρ ns i = some (k, o) → ∃ n b bb, ns[i]? = some n ∧ h[n]? = some (some b) ∧ b.ro = false ∧ (setMany h ns bs1)[n]? = some (some bb) ∧ bb.ro = false ∧ ρ n = some (k, o) := by
                  intro k i lb o hi hlb e
                  simp only [List.getElem?_map, Option.map_eq_some_iff] at hi
                  obtain ⟨lb', hi, e'⟩ := hi
                  simp only [Option.some.injEq] at e'
                  subst e'
                  obtain ⟨n, hn1, hn2⟩ := small_some i _ e
                  have hi1 : i < lbs'.length := (List.getElem?_eq_some_iff.1 hi).1
                  have hib : i < bs.length := by omega
                  have hib1 : i < bs1.length := by omega
                  obtain ⟨n', hn3, hn4⟩ := mapM_back hbs i bs[i] (List.getElem?_eq_getElem hib)
                  rw [hn1] at hn3
                  simp only [Option.some.injEq] at hn3
                  subst hn3
                  have hb := blkAt_eq hn4
                  obtain ⟨x, hx1, hx2⟩ := mapM_back hbs1 i bs1[i] (List.getElem?_eq_getElem hib1)
                  rw [hi] at hx1
                  simp only [Option.some.injEq] at hx1
                  subst hx1
                  have hro1 : bs1[i].ro = lb'.ro := by
                    simp only [mapB, Option.map_eq_some_iff] at hx2
                    obtain ⟨g, -, e⟩ := hx2
                    rw [← e]
                  have hro2 := hro i _ _ (List.getElem?_eq_getElem hib) (List.getElem?_eq_getElem hib1)
                  refine ⟨n, bs[i], bs1[i], hn1, hb, by rw [← hro2, hro1]; exact hlb, setMany_at hn hn1 (List.getElem?_eq_getElem hib1) (List.getElem?_eq_some_iff.1 hb).1, by rw [hro1]; exact hlb, hn2⟩
                have hsz := hH.size
                refine ⟨hH'.os.trans hH.os, hH'.tape.trans hH.tape, hH'.output.trans hH.output, Nat.le_trans hH.size hH'.size, fun k hk hno => ?_, fun n p hn' => ?_, fun n bb hbb => ?_, fun n m r o o' bb hnm hbb hrob e1 e2 => ?_, hH.new⟩
                · rw [hH'.frame k (by omega) (fun i lb o hi hlb e => by
                    obtain ⟨n, b, bb, -, -, -, h4, h5, h6⟩ := owned k i lb o hi hlb e
                    exact hno n bb o h4 h5 h6)]
                  refine hH.frame k hk fun n b o hb hrob e => ?_
                  by_cases hmem : n ∈ ns
                  · obtain ⟨i, hi, e'⟩ := List.getElem_of_mem hmem
                    have hns : ns[i]? = some n := by rw [← e']; exact List.getElem?_eq_getElem hi
                    have hib : i < bs.length := by omega
                    have hib1 : i < bs1.length := by omega
                    obtain ⟨n', hn1, hn2⟩ := mapM_back hbs i bs[i] (List.getElem?_eq_getElem hib)
                    rw [hns] at hn1
                    simp only [Option.some.injEq] at hn1
                    subst hn1
                    have hb' := blkAt_eq hn2
                    rw [hb] at hb'
                    simp only [Option.some.injEq] at hb'
                    have hro2 := hro i _ _ (List.getElem?_eq_getElem hib) (List.getElem?_eq_getElem hib1)
                    exact hno n bs1[i] o (setMany_at hn hns (List.getElem?_eq_getElem hib1) (List.getElem?_eq_some_iff.1 hb).1) (by rw [hro2, ← hb']; exact hrob) e
                  · exact hno n b o (by rw [setMany_out hmem]; exact hb) hrob e
                · obtain ⟨b, hb⟩ := hH.dom n p hn'
                  by_cases hmem : n ∈ ns
                  · obtain ⟨i, hi, e'⟩ := List.getElem_of_mem hmem
                    have hns : ns[i]? = some n := by rw [← e']; exact List.getElem?_eq_getElem hi
                    have hib1 : i < bs1.length := by omega
                    exact ⟨bs1[i], setMany_at hn hns (List.getElem?_eq_getElem hib1) (List.getElem?_eq_some_iff.1 hb).1⟩
                  · exact ⟨b, by rw [setMany_out hmem]; exact hb⟩
                · rcases hget n bb hbb with ⟨i, b, h1, h2, h3, h4, h5⟩ | ⟨h1, h2⟩
                  · obtain ⟨x, hx1, hx2⟩ := mapM_back hbs1 i bb h2
                    obtain ⟨r, o, a1, a2⟩ := hH'.blk i x (by simp [hx1])
                    refine ⟨r, o, ?_, (mapB_rel (fun c c' u => bakC_rel) hx2 a2).2⟩
                    simpa only [small, h1, Option.bind_some] using a1
                  · obtain ⟨r, o, a1, c, ty, fz, a2, a3, a4⟩ := hH.blk n bb h2
                    refine ⟨r, o, a1, c, ty, fz, ?_, a3, a4⟩
                    rw [hH'.frame r (hH.low a1) (fun i lb o2 hi hlb e => by
                      obtain ⟨n2, b, bb2, g1, g2, g3, -, -, g6⟩ := owned r i lb o2 hi hlb e
                      refine hH.sep n2 n r o2 o b ?_ g2 g3 g6 a1
                      intro e
                      subst e
                      exact h1 (List.mem_of_getElem? g1))]
                    exact a2
                · rcases hget n bb hbb with ⟨i, b, h1, h2, h3, h4, h5⟩ | ⟨h1, h2⟩
                  · exact hH.sep n m r o o' b hnm h3 (by rw [← h5]; exact hrob) e1 e2
                  · exact hH.sep n m r o o' bb hnm h2 hrob e1 e2
            · cases hp
          · cases hp
        · cases hp
      · cases hp
    · cases hp
  · cases hp
end
end Go.Eng

set_option linter.unusedSimpArgs false
set_option linter.unusedVariables false
namespace Go.Eng
open Go Go.RowKit
section
variable {P : Program} {W0 : World} {m0 : Nat} {ρ : Ren}

/-- a contract: what a call hands back, of its arguments alone, where what it asks holds -/
def CallOk (P : Program) (f : FuncId) (s : ESpec) : Prop :=
  ∀ args v ps, s args = some (v, ps) → (∀ p ∈ ps, p) → ∀ (args' : Array Value) (w : World), AsRel (fun _ => none) args args' →
    ∀ (o : Oper) (a : Act) (K : Act → World → Prop) (Q : Exit → Act → World → Prop), (∀ v' w', VRel (fun _ => none) v v' → Below w.heap.size w w' → K (a.put o.dst v') w') → o.upon P a K Q ((callFunc f args').run P w)

theorem pureC_rel {ρ' : Ren} {c : C} {v : Value} (h : CRel ρ c v) (hp : pureC c = true) : CRel ρ' c v := by
  cases c <;> first | exact h | cases hp
theorem pureA_rel {ρ' : Ren} {x : A} {v : Value} (h : ARel ρ x v) (hp : pureA x = true) : ARel ρ' x v := by
  cases x with
  | one c => exact pureC_rel h hp
  | agg g =>
    obtain ⟨arr, e, h1, h2⟩ := h
    refine ⟨arr, e, h1, fun j x hx => ?_⟩
    obtain ⟨u, a, b⟩ := h2 j x hx
    refine ⟨u, a, pureC_rel b ?_⟩
    cases g with
    | lst cs =>
      simp only [pureA, List.all_eq_true] at hp
      exact hp x (List.mem_of_getElem? hx)
    | ints k n f =>
      simp only [G.at] at hx
      split at hx
      · simp only [Option.some.injEq] at hx; subst hx; rfl
      · cases hx
theorem AsRel.pure {ρ' : Ren} {args : List A} {args' : Array Value} (h : AsRel ρ args args') (hp : args.all pureA = true) : AsRel ρ' args args' :=
  ⟨h.1, fun j x hx => let ⟨u, a, b⟩ := h.2 j x hx; ⟨u, a, pureA_rel b (List.all_eq_true.1 hp x (List.mem_of_getElem? hx))⟩⟩

/-- a contract on the blocks that the arguments reach -/
def HOk (P : Program) (f : FuncId) (s : HSpec) : Prop :=
  ∀ las lbs v lbs' ps, s las lbs = some (v, lbs', ps) → (∀ p ∈ ps, p) → ∀ (ρ : Ren) (args' : Array Value) (w : World), AsRel ρ las args' → HRel w lbs.length ρ (lbs.map some) w →
    ∀ (o : Oper) (a : Act) (K : Act → World → Prop) (Q : Exit → Act → World → Prop), (∀ v' w', VRel ρ v v' → HRel w lbs.length ρ (lbs'.map some) w' → K (a.put o.dst v') w') → o.upon P a K Q ((callFunc f args').run P w)

structure TblOk (P : Program) (tbl : Tbl) : Prop where
  p : ∀ f s, tbl.p f = some s → CallOk P f s
  h : ∀ f s, tbl.h f = some s → HOk P f s

theorem HRel.keep {h : Heap} {w w' : World} (hH : HRel W0 m0 ρ h w) (hb : Below w.heap.size w w') : HRel W0 m0 ρ h w' := by
  refine ⟨hb.os.trans hH.os, hb.tape.trans hH.tape, hb.output.trans hH.output, Nat.le_trans hH.size hb.size, fun k hk hn => ?_, hH.dom, fun n b hn => ?_, hH.sep, hH.new⟩
  · rw [hb.block k (by have := hH.size; omega)]; exact hH.frame k hk hn
  · obtain ⟨r, o, hr, c, ty, fz, hw, hz, hc⟩ := hH.blk n b hn
    exact ⟨r, o, hr, c, ty, fz, by rw [hb.block r (hH.low hr)]; exact hw, hz, hc⟩

theorem HRel.drew {h : Heap} {w : World} (hH : HRel W0 m0 ρ h w) (n : Nat) : HRel W0 m0 ρ h { w with drawn := n } :=
  ⟨hH.os, hH.tape, hH.output, hH.size, hH.frame, hH.dom, hH.blk, hH.sep, hH.new⟩

theorem argsOf_rel {ev : Operand → V} {eu : Operand → Value} (hev : ∀ x, VRel ρ (ev x) (eu x)) : ∀ {l : List Operand} {as : List A}, argsOf ev l = some as → AsRel ρ as (l.map eu).toArray
  | [], as, h => by
    simp only [argsOf, Option.some.injEq] at h
    subst h
    exact ⟨rfl, fun j x hx => by simp at hx⟩
  | x :: l, as, h => by
    simp only [argsOf] at h
    split at h
    · rename_i a as' ha has
      simp only [Option.some.injEq] at h
      subst h
      obtain ⟨h1, h2⟩ := argsOf_rel hev has
      refine ⟨by simpa using h1, fun j y hy => ?_⟩
      cases j with
      | zero =>
        simp at hy; subst hy
        exact ⟨eu x, by simp, Aof_rel (hev x) ha⟩
      | succ j =>
        obtain ⟨u, hu, hr⟩ := h2 j y (by simpa using hy)
        exact ⟨u, by simpa using hu, hr⟩
    · cases h

/-- which plans come of which operations -/
def kindOk (ti : TypeId → TI) (ev : Operand → V) (p : Plan) (qs : List Prop) : Op → Prop
  | .load t x => ∃ b off, Cof (ev x) = some (.ptr b off) ∧ (ti t).known = true ∧ p = .load b off (ti t).size (ti t).agg
  | .store t x y => ∃ b off v, Cof (ev x) = some (.ptr b off) ∧ Aof (ev y) = some v ∧ (ti t).known = true ∧ p = .store b off v (ti t).size
  | .alloc e => ∃ z, (ti e).known = true ∧ (ti e).zero = some z ∧ p = .alloc z.gr none
  | .box _ x => ∃ z, Aof (ev x) = some z ∧ p = .alloc z.gr none
  | .buildSlice _ n _ => ∃ g, p = .alloc g (some n)
  | _ => ∃ v, p = .val v

theorem ok_val {v : V} {p : Plan} {qs : List Prop} (h : ok v = some (p, qs)) : ∃ v, p = .val v := by
  simp only [ok, Option.some.injEq, Prod.mk.injEq] at h
  exact ⟨v, h.1.symm⟩

theorem planBin_val {op : BinOp} {x y : C} {p : Plan} {qs : List Prop} (h : planBin arR arR op x y = some (p, qs)) : ∃ v, p = .val v := by
  unfold planBin at h
  (repeat' split at h) <;> first | exact ok_val h | (cases h; done) | (simp only [Option.some.injEq, Prod.mk.injEq] at h; exact ⟨_, h.1.symm⟩)

theorem planStr_kind {op : BinOp} {a b : ByteArray} {p : Plan} {qs : List Prop} (h : planStr arR op a b = some (p, qs)) : ∃ v, p = .val v := by
  unfold planStr at h
  split at h <;> first | exact ok_val h | (cases h; done) | (simp only [Option.some.injEq, Prod.mk.injEq] at h; exact ⟨_, h.1.symm⟩)
theorem planSlice_kind {ti : TypeId → TI} {ev : Operand → V} {t : TypeId} {x : Operand} {lo hi : Option Operand} {p : Plan} {qs : List Prop} (h : planSlice arR ti ev t x lo hi = some (p, qs)) : ∃ v, p = .val v := by
  unfold planSlice at h
  (repeat' split at h) <;> first | (cases h; done) | (simp only [Option.some.injEq, Prod.mk.injEq] at h; exact ⟨_, h.1.symm⟩)
theorem planCall_kind {ti : TypeId → TI} {ev : Operand → V} {c : Call} {p : Plan} {qs : List Prop} (h : planCall arR arR ti ev c = some (p, qs)) : ∃ v, p = .val v := by
  unfold planCall at h
  split at h
  · unfold planLen at h
    (repeat' split at h) <;> first | exact ok_val h | (cases h; done)
  · unfold planMin at h
    (repeat' split at h) <;> first | exact ok_val h | (cases h; done)
  · unfold planMin at h
    (repeat' split at h) <;> first | exact ok_val h | (cases h; done)
  · cases h

theorem plan_kind {ti : TypeId → TI} {ev : Operand → V} {p : Plan} {qs : List Prop} : ∀ {op : Op}, plan arR arR ti ev op = some (p, qs) → kindOk ti ev p qs op := by
  intro op h
  cases op <;> simp only [plan] at h <;> simp only [kindOk]
  case load t x =>
    split at h
    · cases h
    · rename_i hk
      split at h
      · rename_i b off hc
        simp only [Option.some.injEq, Prod.mk.injEq] at h
        exact ⟨b, off, hc, by simpa using hk, h.1.symm⟩
      · cases h
  case store t x y =>
    split at h
    · cases h
    · rename_i hk
      split at h
      · rename_i b off v hc hv
        simp only [Option.some.injEq, Prod.mk.injEq] at h
        exact ⟨b, off, v, hc, hv, by simpa using hk, h.1.symm⟩
      · cases h
  case alloc e =>
    split at h
    · cases h
    · rename_i hk
      split at h
      · rename_i z hz
        simp only [Option.some.injEq, Prod.mk.injEq] at h
        exact ⟨z, by simpa using hk, hz, h.1.symm⟩
      · cases h
  case box e x =>
    split at h
    · rename_i z hz
      simp only [Option.some.injEq, Prod.mk.injEq] at h
      exact ⟨z, hz, h.1.symm⟩
    · cases h
  case buildSlice t n parts =>
    (repeat' split at h) <;> first | (cases h; done) | (simp only [Option.some.injEq, Prod.mk.injEq] at h; exact ⟨_, h.1.symm⟩)
  all_goals first
    | exact ok_val h
    | exact planCall_kind h
    | (cases h; done)
    | ((repeat' split at h) <;> first | exact ok_val h | exact planBin_val h | exact planStr_kind h | exact planSlice_kind h | exact planCall_kind h | (cases h; done) | (simp only [Option.some.injEq, Prod.mk.injEq] at h; exact ⟨_, h.1.symm⟩))

theorem ext_none {x : A} {u : Value} (h : ARel (fun _ => none) x u) : ARel ρ x u := h.ext (fun _ _ h => by cases h)

theorem zero_row {z : Value} {n j : Nat} (h : j < n * 1) : ((Array.range (n * 1)).map ((#[z] : Array Value)[· % (#[z] : Array Value).size]!))[j]? = some z := by
  rw [Array.getElem?_map, Array.getElem?_range, if_pos h]
  simp only [Option.map_some]
  congr 1
  have e : j % (#[z] : Array Value).size = 0 := Nat.mod_one j
  rw [e]; rfl
/-- a slice of so many numbers -/
theorem buildSlice_val {ti : TypeId → TI} (hti : TIok P ti) {ev : Operand → V} {eu : Operand → Value} (hev : ∀ x, VRel ρ (ev x) (eu x)) {t : TypeId} {n : Nat} {parts : Array (Nat × Operand)} {g : G} {s : Option Nat} {qs : List Prop}
    (hp : plan arR arR ti ev (.buildSlice t n parts) = some (.alloc g s, qs)) (w : World) : s = some n ∧ ∃ arr e, GRel ρ g arr ∧ (Instr.buildSlice t n (parts.map fun (i, x) => (i, eu x))).run P w = .ok (.slice (some ⟨w.heap.size, 0, none⟩) n n) (w.alloc (.cells arr e)) := by
  simp only [plan] at hp
  split at hp
  · cases hp
  · rename_i hk
    have hk : (ti t).known = true := by simpa using hk
    obtain ⟨d, hd, ht, -⟩ := (hti t hk).und
    split at hp
    · rename_i e htd
      rw [htd] at ht; cases d <;> simp only [TDRel] at ht
      rename_i e'
      obtain rfl : e' = e := ht
      split at hp
      · cases hp
      · rename_i hc
        have hc : (((ti e').known = true ∧ (ti e').size = 1) ∧ ¬ n = 0) ∧ n ≤ 16777216 := by simpa using hc
        obtain ⟨⟨⟨hke, hse⟩, hn0⟩, hn1⟩ := hc
        obtain ⟨i1, hi1, his1, hz⟩ := (hti _ hke).info
        split at hp
        · rename_i z hzero
          obtain ⟨zv, hzv, zr⟩ := hz _ hzero
          split at hp
          · rename_i k z0 l hnum
            have zr : CRel (fun _ => none) z zv := zr
            obtain rfl := zr.of_num hnum
            split at hp
            · rename_i f hf
              simp only [Option.some.injEq, Prod.mk.injEq, Plan.alloc.injEq] at hp
              obtain ⟨⟨rfl, rfl⟩, rfl⟩ := hp
              have hsz : i1.size = 1 := by rw [his1, hse]
              have hG : GRel ρ (.ints k (.lit n) fun _ => z0) ((Array.range (n * 1)).map ((#[Value.int k z0] : Array Value)[· % (#[Value.int k z0] : Array Value).size]!)) := by
                refine ⟨by simp [G.len, N.val], fun j y hy => ?_⟩
                simp only [G.at] at hy
                split at hy
                · rename_i hj
                  have hj : j < n := hj
                  simp only [Option.some.injEq] at hy
                  subst hy
                  exact ⟨_, zero_row (by omega), rfl⟩
                · cases hy
              obtain ⟨c', e1, e2⟩ := fillI_rel hev (ps := parts.toList) hG hf
              refine ⟨rfl, c', e', e2, run_buildSlice w t e' n _ c' i1 (.int k z0) hd hi1 hzv (by rw [hsz]; omega) (by rw [hsz]; omega) ?_⟩
              rw [hsz, Array.toList_map]
              exact e1
            · cases hp
          · cases hp
        · cases hp
    · cases hp
/-- AN OPERATION, CARRIED OUT -/
theorem stepOp_wp {ti : TypeId → TI} (hti : TIok P ti) {tbl : Tbl} (htbl : TblOk P tbl) {o : Oper} {a : Act} {w : World} {tmps : List V} {h h' : Heap} (hT : TRel ρ tmps a.tmps) (hH : HRel W0 m0 ρ h w)
    {al : Nat → Bool} {nm : Nat} {v : V} {qs : List Prop} (hs : stepOp arR arR ti tbl al nm o.op tmps h = some (v, h', qs)) (hq : ∀ q ∈ qs, q) (hn : isAlloc o.op = true → h[nm]? = some none ∧ m0 ≤ nm)
    {K : Act → World → Prop} {Q : Exit → Act → World → Prop} (hK : ∀ ρ' v' w', Ext ρ ρ' → HRel W0 m0 ρ' h' w' → VRel ρ' v v' → K (a.put o.dst v') w') : o.wp P a w K Q := by
  have hev : ∀ x, VRel ρ (opnd tmps x) (a.eval x) := fun x => VRel.opnd hT x a rfl
  unfold stepOp at hs
  split at hs
  · cases hs
  · rename_i p qs1 hp
    split at hs
    · cases hs
    · rename_i v1 h1 rs1 hf
      simp only [Option.some.injEq, Prod.mk.injEq] at hs
      obtain ⟨rfl, rfl, rfl⟩ := hs
      have hq1 : ∀ q ∈ qs1, q := fun q hx => hq q (by simp [hx])
      have hr1 : ∀ q ∈ rs1, q := fun q hx => hq q (by simp [hx])
      unfold Oper.wp
      unfold planOp at hp
      split at hp
      · rename_i f args T hop
        split at hp
        · rename_i l hl
          have hargs := argsOf_rel hev hl
          have e : (execOp a.eval o).run P w = (callFunc f (args.toList.map a.eval).toArray).run P w := by
            have : args.map a.eval = (args.toList.map a.eval).toArray := by rw [← Array.toList_map]
            simp [execOp, hop, resolve, Deferred.ofValue, Act.eval, invoke, Sem.run_bind, Sem.run_pure, this]
          rw [e]
          split at hp
          · split at hp
            · rename_i s hs
              simp only [Option.some.injEq, Prod.mk.injEq] at hp
              obtain ⟨rfl, rfl⟩ := hp
              simp only [perform] at hf
              split at hf
              · rename_i v2 bs ps hperf
                simp only [Option.some.injEq, Prod.mk.injEq] at hf
                obtain ⟨rfl, rfl, rfl⟩ := hf
                obtain ⟨las, lbs, v0, lbs', g1, g2, g3, g4⟩ := performH_sound (reach_nodup h l) hH hargs hperf
                exact htbl.h f s hs las lbs v0 lbs' _ g1 hr1 _ _ w g2 g3 o a K Q fun v' w' hv' hh' => by
                  obtain ⟨k1, k2⟩ := g4 v' w' hv' hh'
                  exact hK ρ v' w' (Ext.refl ρ) k2 k1
              · cases hf
            · cases hp
          · split at hp
            · rename_i s hs
              split at hp
              · rename_i hpure
                split at hp
                · rename_i v2 ps hv
                  simp only [Option.some.injEq, Prod.mk.injEq] at hp
                  obtain ⟨rfl, rfl⟩ := hp
                  simp only [perform, Option.some.injEq, Prod.mk.injEq] at hf
                  obtain ⟨rfl, rfl, rfl⟩ := hf
                  exact htbl.p f s hs l v2 ps hv hq1 _ w (hargs.pure hpure) o a K Q fun v' w' hv' hb => hK ρ v' w' (Ext.refl ρ) (hH.keep hb) (hv'.ext (fun _ _ h => by cases h))
                · cases hp
              · cases hp
            · cases hp
        · cases hp
      · have hk := plan_kind hp
        have fin : ∀ {v' w' ρ'}, Res ((execOp a.eval o).run P w) v' w' → Ext ρ ρ' → HRel W0 m0 ρ' h1 w' → VRel ρ' v1 v' → o.upon P a K Q ((execOp a.eval o).run P w) := by
          intro v' w' ρ' hres he hh hv
          rcases hres with e | ⟨e, rfl⟩
          · rw [e]; exact hK ρ' v' w' he hh hv
          · rw [e]; exact hK ρ' undef w' he hh hv
        cases hop : o.op <;> rw [hop] at hk
        case load t x =>
          obtain ⟨b, off, hc, hkn, rfl⟩ := hk
          obtain ⟨rfl, v', hrun, hv⟩ := load_sound hti hH hkn (Cof_rel (hev x) hc) hf hr1
          exact fin (.inl (by simp [execOp, hop, Sem.run_bind, hrun, Sem.run_pure])) (Ext.refl ρ) hH hv
        case store t x y =>
          obtain ⟨b, off, z, hc, hz, hkn, rfl⟩ := hk
          obtain ⟨rfl, w', hrun, hh⟩ := store_sound hti hH hkn (Cof_rel (hev x) hc) (Aof_rel (hev y) hz) hf hr1
          exact fin (.inr ⟨by simp [execOp, hop, Sem.run_bind, hrun, Sem.run_pure], rfl⟩) (Ext.refl ρ) hh ⟨#[], rfl, rfl, fun j x hx => by simp at hx⟩
        case alloc e =>
          obtain ⟨z, hkn, hz, rfl⟩ := hk
          obtain ⟨i, hi, -, hzero⟩ := (hti e hkn).info
          obtain ⟨zv, hzv, hzr⟩ := hzero z hz
          simp only [perform, Option.some.injEq, Prod.mk.injEq] at hf
          obtain ⟨rfl, rfl, rfl⟩ := hf
          obtain ⟨hn1, hn2⟩ := hn (by rw [hop]; rfl)
          obtain ⟨ρ', he, hnm, hh⟩ := hH.alloc (ty := e) hn1 hn2 (gr_rel (ext_none (ρ := ρ) hzr))
          exact fin (v' := .pointer (some ⟨w.heap.size, 0, none⟩)) (.inl (by simp [execOp, hop, Instr.alloc, Sem.run_bind, zeroValue, run_typeInfo hi, hzv, newVar, newRow, newObj, Sem.run, Sem.run_pure])) he hh ⟨w.heap.size, 0, hnm, rfl⟩
        case buildSlice t n parts =>
          obtain ⟨g, rfl⟩ := hk
          simp only [perform, Option.some.injEq, Prod.mk.injEq] at hf
          obtain ⟨rfl, rfl, rfl⟩ := hf
          obtain ⟨hn1, hn2⟩ := hn (by rw [hop]; rfl)
          rw [hop] at hp
          obtain ⟨-, arr, e, hg, hrun⟩ := buildSlice_val hti hev hp w
          obtain ⟨ρ', he, hnm, hh⟩ := hH.alloc (ty := e) hn1 hn2 hg
          exact fin (v' := .slice (some ⟨w.heap.size, 0, none⟩) n n) (.inl (by simp only [execOp, hop, Sem.run_bind, hrun, Result.andThen_ok, Sem.run_pure]; rfl)) he hh ⟨w.heap.size, 0, hnm, rfl⟩
        case box e x =>
          obtain ⟨z, hz, rfl⟩ := hk
          simp only [perform, Option.some.injEq, Prod.mk.injEq] at hf
          obtain ⟨rfl, rfl, rfl⟩ := hf
          obtain ⟨hn1, hn2⟩ := hn (by rw [hop]; rfl)
          obtain ⟨ρ', he, hnm, hh⟩ := hH.alloc (ty := e) hn1 hn2 (gr_rel (Aof_rel (hev x) hz))
          exact fin (v' := .pointer (some ⟨w.heap.size, 0, none⟩)) (.inl (by simp [execOp, hop, Instr.box, Sem.run_bind, newVar, newRow, newObj, Sem.run, Sem.run_pure])) he hh ⟨w.heap.size, 0, hnm, rfl⟩
        all_goals
          obtain ⟨v2, rfl⟩ := hk
          simp only [perform, Option.some.injEq, Prod.mk.injEq] at hf
          obtain ⟨rfl, rfl, rfl⟩ := hf
          obtain ⟨v', hrun, hv⟩ := plan_val hti hev hp hq1 w
          exact fin (.inl hrun) (Ext.refl ρ) hH hv
end
end Go.Eng

