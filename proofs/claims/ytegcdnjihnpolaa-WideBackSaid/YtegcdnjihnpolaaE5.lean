import Derived.Test.YtegcdnjihnpolaaE4
set_option linter.unusedSimpArgs false
set_option linter.unusedVariables false
namespace Go.Eng
open Go
section
variable {P : Program} {W0 : World} {m0 : Nat}

theorem cell_of {w : World} {r : Nat} {c : Array Value} {ty : TypeId} {fz : Nat × Nat} (h : w.heap[r]? = some (.cells c ty fz)) (o : Nat) : w.cell? ⟨r, o, none⟩ = c[o]? := by
  simp [World.cell?, h]

theorem run_load {w : World} {a : Addr} {v : Value} (h : w.cell? a = some v) : (load a).run P w = .ok v w := by
  simp [load, Sem.run, h]

theorem run_loadCellsFrom {w : World} {r o : Nat} {c : Array Value} {ty : TypeId} {fz : Nat × Nat} (h : w.heap[r]? = some (.cells c ty fz)) : ∀ (n i : Nat) (acc : Array Value), o + i + n ≤ c.size →
    (loadCellsFrom ⟨r, o, none⟩ i n acc).run P w = .ok (acc ++ c.extract (o + i) (o + i + n)) w
  | 0, i, acc, _ => by simp [loadCellsFrom, Sem.run_pure]; omega
  | n + 1, i, acc, hn => by
    have h1 : w.cell? (Addr.add ⟨r, o, none⟩ i) = some (c[o + i]'(by omega)) := by
      rw [addr_add, cell_of h]; exact Array.getElem?_eq_getElem (by omega)
    simp only [loadCellsFrom, Sem.run_bind, run_load h1, Result.andThen_ok]
    rw [run_loadCellsFrom h n (i + 1) _ (by omega)]
    congr 1
    apply Array.ext_getElem?
    intro j
    simp only [Array.getElem?_append, Array.size_push, Array.getElem?_push, Array.getElem?_extract, Array.size_extract]
    by_cases hj : j < acc.size
    · simp [hj, show j < acc.size + 1 by omega, show j ≠ acc.size by omega]
    · by_cases hj2 : j = acc.size
      · subst hj2
        simp [show o + i < c.size by omega]
        omega
      · simp [hj, hj2, show ¬ j < acc.size + 1 by omega]
        by_cases hj3 : j - (acc.size + 1) < n
        · rw [if_pos (by omega), if_pos (by omega)]
          congr 1; omega
        · rw [if_neg (by omega), if_neg (by omega)]

theorem run_loadCells {w : World} {r o n : Nat} {c : Array Value} {ty : TypeId} {fz : Nat × Nat} (h : w.heap[r]? = some (.cells c ty fz)) (hn : o + n ≤ c.size) :
    (loadCells ⟨r, o, none⟩ n).run P w = .ok (c.extract o (o + n)) w := by
  rw [loadCells, run_loadCellsFrom h n 0 #[] (by omega)]
  simp

/-- an aggregate's cells in a block -/
theorem at_some {g : G} {j : Nat} (h : j < g.len) : ∃ x, g.at j = some x := by
  cases g with
  | lst cs => exact ⟨cs[j], List.getElem?_eq_getElem h⟩
  | ints k n f => exact ⟨_, if_pos h⟩

theorem block_size {ρ : Ren} {b : Blk} {o : Nat} {c : Array Value} (hc : ∀ (j : Nat) (x : C), b.g.at j = some x → ∃ v : Value, c[o + j]? = some v ∧ CRel ρ x v) (hl : 0 < b.g.len) : o + b.g.len ≤ c.size := by
  obtain ⟨x, hx⟩ := at_some (show b.g.len - 1 < b.g.len by omega)
  obtain ⟨v, hv, -⟩ := hc _ _ hx
  have := (Array.getElem?_eq_some_iff.1 hv).1
  omega

theorem load_sound {ti : TypeId → TI} (hti : TIok P ti) {ρ : Ren} {h h' : Heap} {w : World} (hH : HRel W0 m0 ρ h w) {t : TypeId} (hk : (ti t).known = true) {b : Nat} {off : N} {u : Value} (hu : CRel ρ (.ptr b off) u)
    {al : Nat → Bool} {nm : Nat} {v : V} {rs : List Prop} (hf : perform arR al nm h (.load b off (ti t).size (ti t).agg) = some (v, h', rs)) (hr : ∀ q ∈ rs, q) :
    h' = h ∧ ∃ v', (Instr.loadAt t u).run P w = .ok v' w ∧ VRel ρ v v' := by
  obtain ⟨r, o, hρ, rfl⟩ := hu
  obtain ⟨i, hi, his, -⟩ := (hti t hk).info
  obtain ⟨d, hd, -, hag⟩ := (hti t hk).und
  simp only [perform] at hf
  split at hf
  · split at hf
    · rename_i blk hblk
      obtain ⟨r', o', hρ', c, ty, fz, hw, -, hc⟩ := hH.blk _ _ hblk
      rw [hρ] at hρ'
      simp only [Option.some.injEq, Prod.mk.injEq] at hρ'
      obtain ⟨rfl, rfl⟩ := hρ'
      split at hf
      · rename_i ha
        rw [hag] at ha
        split at hf
        · rename_i g ps hcut
          simp only [Option.some.injEq, Prod.mk.injEq] at hf
          obtain ⟨rfl, rfl, rfl⟩ := hf
          obtain ⟨e1, e2, e3⟩ := cut_at hcut hr
          by_cases hs : (ti t).size = 0
          · refine ⟨rfl, .agg #[], ?_, #[], rfl, by simp [e1, hs], fun j x hx => ?_⟩
            · simp [Instr.loadAt, Instr.sureAddr, loadVar, Sem.run_bind, Sem.run_pure, run_isAgg hd, ha, run_sizeOf hi, his, hs, loadCells, loadCellsFrom]
            · have := (e3 j x hx).1; omega
          · have hsz := block_size hc (by omega)
            refine ⟨rfl, .agg (c.extract (o + off.val) (o + off.val + (ti t).size)), ?_, _, rfl, by simp [e1]; omega, fun j x hx => ?_⟩
            · simp [Instr.loadAt, Instr.sureAddr, loadVar, Sem.run_bind, Sem.run_pure, run_isAgg hd, ha, run_sizeOf hi, his]
              rw [run_loadCells hw (by omega)]
              simp
            · obtain ⟨hj, hx⟩ := e3 j x hx
              obtain ⟨u, hu, hcr⟩ := hc _ _ hx
              refine ⟨u, ?_, hcr⟩
              rw [Array.getElem?_extract, if_pos (by omega), show o + off.val + j = o + (off.val + j) by omega]
              exact hu
        · cases hf
      · rename_i ha
        have ha : aggOf d = false := by rw [← hag]; simpa using ha
        split at hf
        · rename_i cx ps hget
          simp only [Option.some.injEq, Prod.mk.injEq] at hf
          obtain ⟨rfl, rfl, rfl⟩ := hf
          obtain ⟨u, hu, hcr⟩ := hc _ _ (get_at hget hr)
          refine ⟨rfl, u, ?_, hcr⟩
          simp only [Instr.loadAt, Instr.sureAddr, loadVar, Sem.run_bind, Sem.run_pure, run_isAgg hd, ha, Result.andThen_ok, Bool.false_eq_true, if_false]
          exact run_load (by rw [cell_of hw]; exact hu)
        · cases hf
    · cases hf
  · cases hf

/-- a write into an owned block -/
theorem HRel.write {ρ : Ren} {h : Heap} {w w' : World} (hH : HRel W0 m0 ρ h w) {b r o : Nat} {blk blk' : Blk} (hb : h[b]? = some (some blk)) (hro : blk.ro = false) (hro' : blk'.ro = false) (hρ : ρ b = some (r, o))
    (h1 : w'.os = w.os) (h2 : w'.tape = w.tape) (h3 : w'.output = w.output) (h4 : w'.heap.size = w.heap.size) (h5 : ∀ k, k ≠ r → w'.heap[k]? = w.heap[k]?) (hB : BRel ρ blk' r o w') : HRel W0 m0 ρ (h.set b (some blk')) w' := by
  have hlt : b < h.length := (List.getElem?_eq_some_iff.1 hb).1
  have hset : ∀ n, (h.set b (some blk'))[n]? = if b = n then some (some blk') else h[n]? := by
    intro n; rw [List.getElem?_set]; split
    · simp [hlt]
    · rfl
  refine ⟨h1.trans hH.os, h2.trans hH.tape, h3.trans hH.output, by rw [h4]; exact hH.size, fun k hk hn => ?_, fun n p hn => ?_, fun n x hx => ?_, fun n m r' o1 o2 x hnm hx hxr hn hm => ?_, hH.new⟩
  · have hkr : k ≠ r := fun e => hn b blk' o (by rw [hset, if_pos rfl]) hro' (by rw [hρ, e])
    rw [h5 k hkr]
    refine hH.frame k hk fun n x ox hx hxr hnx => ?_
    by_cases hbn : b = n
    · subst hbn; rw [hρ] at hnx; simp only [Option.some.injEq, Prod.mk.injEq] at hnx; exact hkr hnx.1.symm
    · exact hn n x ox (by rw [hset, if_neg hbn]; exact hx) hxr hnx
  · by_cases hbn : b = n
    · exact ⟨blk', by rw [hset, if_pos hbn]⟩
    · obtain ⟨x, hx⟩ := hH.dom n p hn
      exact ⟨x, by rw [hset, if_neg hbn]; exact hx⟩
  · rw [hset] at hx
    by_cases hbn : b = n
    · subst hbn
      rw [if_pos rfl] at hx
      simp only [Option.some.injEq] at hx
      subst hx
      exact ⟨r, o, hρ, hB⟩
    · rw [if_neg hbn] at hx
      obtain ⟨r', o', hn, c, ty, fz, hw, hz, hc⟩ := hH.blk n x hx
      have hne : r' ≠ r := by
        intro e
        subst e
        exact hH.sep b n r' o o' blk hbn hb hro hρ hn
      exact ⟨r', o', hn, c, ty, fz, by rw [h5 r' hne]; exact hw, hz, hc⟩
  · rw [hset] at hx
    by_cases hbn : b = n
    · subst hbn
      exact hH.sep b m r' o1 o2 blk hnm hb hro hn hm
    · rw [if_neg hbn] at hx
      exact hH.sep n m r' o1 o2 x hnm hx hxr hn hm

/-- a new block -/
theorem HRel.alloc {ρ : Ren} {h : Heap} {w : World} (hH : HRel W0 m0 ρ h w) {nm : Nat} (hnm : h[nm]? = some none) (hm : m0 ≤ nm) {g : G} {arr : Array Value} {ty : TypeId} (hg : GRel ρ g arr) :
    ∃ ρ', Ext ρ ρ' ∧ ρ' nm = some (w.heap.size, 0) ∧ HRel W0 m0 ρ' (h.set nm (some { ro := false, g := g })) { w with heap := w.heap.push (.cells arr ty) } := by
  have hlt : nm < h.length := (List.getElem?_eq_some_iff.1 hnm).1
  have hfree : ρ nm = none := by
    cases hp : ρ nm with
    | none => rfl
    | some p => obtain ⟨x, hx⟩ := hH.dom nm p hp; rw [hnm] at hx; cases hx
  have hset : ∀ n (x : Option Blk), (h.set nm x)[n]? = if nm = n then some x else h[n]? := by
    intro n x; rw [List.getElem?_set]; split
    · simp [hlt]
    · rfl
  have hext : Ext ρ (fun n => if n = nm then some (w.heap.size, 0) else ρ n) := by
    intro n p hn
    have : n ≠ nm := fun e => by rw [e, hfree] at hn; cases hn
    simp [this, hn]
  have hlow : ∀ n r o, ρ n = some (r, o) → r < w.heap.size := by
    intro n r o hn
    obtain ⟨x, hx⟩ := hH.dom n _ hn
    obtain ⟨r', o', hn', c, ty', fz, hw, -⟩ := hH.blk n x hx
    rw [hn] at hn'
    simp only [Option.some.injEq, Prod.mk.injEq] at hn'
    obtain ⟨rfl, rfl⟩ := hn'
    exact (Array.getElem?_eq_some_iff.1 hw).1
  refine ⟨fun n => if n = nm then some (w.heap.size, 0) else ρ n, hext, by simp, hH.os, hH.tape, hH.output, ?_, fun k hk hn => ?_, fun n p hn => ?_, fun n x hx => ?_, fun n m r o1 o2 x hnm' hx hxr hn hm' => ?_, fun n r o hmn hn => ?_⟩
  · simp only [Array.size_push]; have := hH.size; omega
  · have hs := hH.size
    show (w.heap.push _)[k]? = _
    rw [Array.getElem?_push, if_neg (by omega)]
    refine hH.frame k hk fun n x ox hx hxr hnx => ?_
    have hne : n ≠ nm := fun e => by rw [e, hfree] at hnx; cases hnx
    refine hn n x ox (by rw [hset, if_neg (Ne.symm hne)]; exact hx) hxr (by simp [hne, hnx])
  · by_cases hne : n = nm
    · exact ⟨_, by rw [hset, if_pos hne.symm]⟩
    · simp only [hne, if_false] at hn
      obtain ⟨x, hx⟩ := hH.dom n p hn
      exact ⟨x, by rw [hset, if_neg (Ne.symm hne)]; exact hx⟩
  · rw [hset] at hx
    by_cases hne : nm = n
    · subst hne
      rw [if_pos rfl] at hx
      simp only [Option.some.injEq] at hx
      subst hx
      refine ⟨w.heap.size, 0, by simp, arr, ty, (0, 0), ?_, fun _ => rfl, fun j y hy => ?_⟩
      · show (w.heap.push _)[w.heap.size]? = _
        simp
      · obtain ⟨v, hv, hc⟩ := hg.2 j y hy
        exact ⟨v, by rw [Nat.zero_add]; exact hv, hc.ext hext⟩
    · rw [if_neg hne] at hx
      obtain ⟨r, o, hn, c, ty', fz, hw, hz, hc⟩ := hH.blk n x hx
      refine ⟨r, o, by simp [Ne.symm hne, hn], c, ty', fz, ?_, hz, fun j y hy => ?_⟩
      · show (w.heap.push _)[r]? = _
        have := hlow n r o hn
        rw [Array.getElem?_push, if_neg (by omega)]
        exact hw
      · obtain ⟨v, hv, hcr⟩ := hc j y hy
        exact ⟨v, hv, hcr.ext hext⟩
  · rw [hset] at hx
    by_cases hne : n = nm
    · simp only [hne, if_true, Option.some.injEq, Prod.mk.injEq] at hn
      have hne2 : m ≠ nm := fun e => hnm' (hne.trans e.symm)
      simp only [hne2, if_false] at hm'
      have := hlow m r o2 hm'
      omega
    · rw [if_neg (Ne.symm hne)] at hx
      simp only [hne, if_false] at hn
      by_cases hne2 : m = nm
      · simp only [hne2, if_true, Option.some.injEq, Prod.mk.injEq] at hm'
        have := hlow n r o1 hn
        omega
      · simp only [hne2, if_false] at hm'
        exact hH.sep n m r o1 o2 x hnm' hx hxr hn hm'
  · by_cases hne : n = nm
    · simp only [hne, if_true, Option.some.injEq, Prod.mk.injEq] at hn
      have := hH.size; omega
    · simp only [hne, if_false] at hn
      exact hH.new n r o hmn hn

end
end Go.Eng
