import Derived.Test.YtegcdnjihnpolaaE5
import Derived.Laws.CopyRow
set_option linter.unusedSimpArgs false
set_option linter.unusedVariables false
namespace Go.Eng
open Go
section
variable {P : Program} {W0 : World} {m0 : Nat} {ρ : Ren}

/-- what a block's cells hold of an aggregate, from o on -/
def Holds (ρ : Ren) (g : G) (o : Nat) (c : Array Value) : Prop := ∀ (j : Nat) (x : C), g.at j = some x → ∃ v : Value, c[o + j]? = some v ∧ CRel ρ x v

/-- c' is c with vs laid at a -/
structure Upd (c c' : Array Value) (a : Nat) (vs : Array Value) : Prop where
  at_in : ∀ k, k < vs.size → c'[a + k]? = vs[k]?
  at_out : ∀ k, (k < a ∨ a + vs.size ≤ k) → c'[k]? = c[k]?

theorem upd_of {c : Array Value} {a : Nat} {vs : Array Value} (h : a + vs.size ≤ c.size) : Upd c (c.toList.take a ++ vs.toList ++ c.toList.drop (a + vs.size)).toArray a vs := by
  refine ⟨fun k hk => ?_, fun k hk => ?_⟩
  · simp only [List.getElem?_toArray]
    rw [List.append_assoc, List.getElem?_append_right (by simp; omega), List.getElem?_append_left (by simp; omega)]
    rw [show a + k - (c.toList.take a).length = k by simp; omega]
    simp
  · simp only [List.getElem?_toArray]
    rcases hk with hk | hk
    · rw [List.append_assoc, List.getElem?_append_left (by simp; omega), List.getElem?_take_of_lt hk]
      simp
    · rw [List.getElem?_append_right (by simp; omega), List.getElem?_drop]
      rw [show a + vs.size + (k - (c.toList.take a ++ vs.toList).length) = k by simp; omega]
      simp

theorem set_holds {g g' : G} {off : N} {cx : C} {ps : List Prop} {o : Nat} {c c' : Array Value} {v : Value} (h : g.set arR off cx = some (g', ps)) (hq : ∀ q ∈ ps, q) (hc : Holds ρ g o c) (hv : CRel ρ cx v) (hu : Upd c c' (o + off.val) #[v]) :
    off.val < g.len ∧ Holds ρ g' o c' := by
  unfold G.set at h
  split at h
  · rename_i cs i
    split at h
    · rename_i hi
      simp only [Option.some.injEq, Prod.mk.injEq] at h
      obtain ⟨rfl, rfl⟩ := h
      refine ⟨hi, fun j x hx => ?_⟩
      simp only [G.at, List.getElem?_set] at hx
      simp only [N.val_lit] at hu
      by_cases hij : i = j
      · subst hij
        simp [hi] at hx
        subst hx
        exact ⟨v, by have := hu.at_in 0 (by simp); simpa using this, hv⟩
      · rw [if_neg hij] at hx
        obtain ⟨u, h1, h2⟩ := hc j x hx
        exact ⟨u, by rw [hu.at_out _ (by simp; omega)]; exact h1, h2⟩
    · cases h
  · cases h
  · rename_i k n f
    split at h
    · rename_i k' z l hnum
      split at h
      · rename_i hk
        have := kindEq_eq hk
        subst this
        split at h
        · rename_i qs hl
          simp only [Option.some.injEq, Prod.mk.injEq] at h
          obtain ⟨rfl, rfl⟩ := h
          have hlt := leq_ok hl hq
          refine ⟨by simp only [G.len]; omega, fun j x hx => ?_⟩
          simp only [G.at] at hx
          by_cases hj : j < n.val
          · rw [if_pos hj] at hx
            simp only [Option.some.injEq, updN_eq, updF] at hx
            by_cases hij : j = off.val
            · rw [if_pos hij] at hx
              subst hx
              exact ⟨v, by have := hu.at_in 0 (by simp); rw [hij]; simpa using this, by rw [hv.of_num hnum]; rfl⟩
            · rw [if_neg hij] at hx
              subst hx
              obtain ⟨u, h1, h2⟩ := hc j (.int k (f j)) (by simp only [G.at]; rw [if_pos hj])
              exact ⟨u, by rw [hu.at_out _ (by simp; omega)]; exact h1, h2⟩
          · rw [if_neg hj] at hx; cases hx
        · cases h
      · cases h
    · cases h

theorem ints_put {k : IntKind} {m : N} {f f' gf : Nat → Int} {a n o : Nat} {c c' arr : Array Value} (hf : ∀ j, j < m.val → f' j = if a ≤ j ∧ j < a + n then gf (j - a) else f j)
    (hc : Holds ρ (.ints k m f) o c) (hv : GRel ρ (.ints k (.lit n) gf) arr) (hu : Upd c c' (o + a) arr) : Holds ρ (.ints k m f') o c' := by
  have hsz : arr.size = n := hv.1
  intro j x hx
  simp only [G.at] at hx
  by_cases hj : j < m.val
  · rw [if_pos hj, hf j hj] at hx
    simp only [Option.some.injEq] at hx
    by_cases hw : a ≤ j ∧ j < a + n
    · rw [if_pos hw] at hx
      subst hx
      obtain ⟨u, h1, h2⟩ := hv.2 (j - a) (.int k (gf (j - a))) (by simp only [G.at]; rw [if_pos (show j - a < (N.lit n).val by simp only [N.val_lit]; omega)])
      refine ⟨u, ?_, h2⟩
      have := hu.at_in (j - a) (by omega)
      rw [show o + a + (j - a) = o + j by omega] at this
      rw [this]; exact h1
    · rw [if_neg hw] at hx
      subst hx
      obtain ⟨u, h1, h2⟩ := hc j (.int k (f j)) (by simp only [G.at]; rw [if_pos hj])
      exact ⟨u, by rw [hu.at_out _ (by omega)]; exact h1, h2⟩
  · rw [if_neg hj] at hx; cases hx

theorem put_holds {g g0 g' : G} {off : N} {ps : List Prop} {o : Nat} {c c' arr : Array Value} (h : g.put arR off g0 = some (g', ps)) (hq : ∀ q ∈ ps, q) (hc : Holds ρ g o c) (hv : GRel ρ g0 arr) (hu : Upd c c' (o + off.val) arr) :
    off.val + arr.size ≤ g.len ∧ Holds ρ g' o c' := by
  unfold G.put at h
  split at h
  · rename_i cs off
    split at h
    · rename_i l hl
      have hlr := list_rel hv hl
      split at h
      · rename_i hoff
        simp only [Option.some.injEq, Prod.mk.injEq] at h
        obtain ⟨rfl, rfl⟩ := h
        simp only [N.val_lit] at hu ⊢
        have hsz : arr.size = l.length := hlr.1
        refine ⟨by simp only [G.len]; omega, fun j x hx => ?_⟩
        simp only [G.at] at hx
        by_cases h1 : j < off
        · rw [List.append_assoc, List.getElem?_append_left (by simp; omega), List.getElem?_take_of_lt h1] at hx
          obtain ⟨u, a1, a2⟩ := hc j x hx
          exact ⟨u, by rw [hu.at_out _ (by omega)]; exact a1, a2⟩
        · by_cases h2 : j < off + l.length
          · rw [List.append_assoc, List.getElem?_append_right (by simp; omega), List.getElem?_append_left (by simp; omega)] at hx
            rw [show j - (cs.take off).length = j - off by simp; omega] at hx
            obtain ⟨u, a1, a2⟩ := hlr.2 _ x hx
            refine ⟨u, ?_, a2⟩
            have := hu.at_in (j - off) (by omega)
            rw [show o + off + (j - off) = o + j by omega] at this
            rw [this]; exact a1
          · rw [List.append_assoc, List.getElem?_append_right (by simp; omega), List.getElem?_append_right (by simp; omega), List.getElem?_drop] at hx
            rw [show off + l.length + (j - (cs.take off).length - l.length) = j by simp; omega] at hx
            obtain ⟨u, a1, a2⟩ := hc j x hx
            exact ⟨u, by rw [hu.at_out _ (by omega)]; exact a1, a2⟩
      · cases h
    · cases h
  · cases h
  · rename_i k m f k' n gf
    split at h
    · rename_i hk
      have := kindEq_eq hk
      subst this
      have hsz : arr.size = n := hv.1
      split at h
      · rename_i m'
        split at h
        · rename_i hnm
          simp only [Option.some.injEq, Prod.mk.injEq] at h
          obtain ⟨rfl, rfl⟩ := h
          refine ⟨by simp only [N.val_lit, G.len]; omega, ints_put (a := 0) (n := n) (gf := gf) (fun j hj => ?_) hc hv hu⟩
          simp only [N.val_lit] at hj
          rw [if_pos (by omega), Nat.sub_zero]
        · split at h
          · rename_i hle
            simp only [Option.some.injEq, Prod.mk.injEq] at h
            obtain ⟨rfl, rfl⟩ := h
            exact ⟨by simp only [N.val_lit, G.len]; omega, ints_put (a := 0) (n := n) (gf := gf) (fun j hj => by simp [arR, blitF]) hc hv hu⟩
          · cases h
      · rename_i m'
        simp only [Option.some.injEq, Prod.mk.injEq] at h
        obtain ⟨rfl, rfl⟩ := h
        have hle : n ≤ m' := hq (arR.leN n m') (by simp)
        exact ⟨by simp only [N.val_lit, N.val_sym, G.len]; omega, ints_put (a := 0) (n := n) (gf := gf) (fun j hj => by simp [arR, blitF]) hc hv hu⟩
    · cases h
  · rename_i k m f off' k' n gf hne
    split at h
    · rename_i hk
      have := kindEq_eq hk
      subst this
      split at h
      · rename_i qs hl
        simp only [Option.some.injEq, Prod.mk.injEq] at h
        obtain ⟨rfl, rfl⟩ := h
        have hle := leq_ok hl hq
        have hsz : arr.size = n := hv.1
        exact ⟨by simp only [G.len]; omega, ints_put (a := off.val) (n := n) (gf := gf) (fun j hj => by simp [arR, blitF]) hc hv hu⟩
      · cases h
    · cases h
  · cases h

theorem set_lt {g g' : G} {off : N} {cx : C} {ps : List Prop} (h : g.set arR off cx = some (g', ps)) (hq : ∀ q ∈ ps, q) : off.val < g.len := by
  unfold G.set at h
  split at h
  · split at h
    · rename_i hi; exact hi
    · cases h
  · cases h
  · split at h
    · split at h
      · split at h
        · rename_i hl
          simp only [Option.some.injEq, Prod.mk.injEq] at h
          obtain ⟨rfl, rfl⟩ := h
          have := leq_ok hl hq
          simp only [G.len]; omega
        · cases h
      · cases h
    · cases h

theorem put_le {g g0 g' : G} {off : N} {ps : List Prop} (h : g.put arR off g0 = some (g', ps)) (hq : ∀ q ∈ ps, q) : off.val + g0.len ≤ g.len := by
  unfold G.put at h
  split at h
  · split at h
    · rename_i l hl
      split at h
      · rename_i hoff
        have : g0.len = l.length := by
          unfold G.list at hl
          split at hl <;> first | (simp only [Option.some.injEq] at hl; subst hl; simp [G.len]) | cases hl
        simp only [N.val_lit, G.len] at *; omega
      · cases h
    · cases h
  · cases h
  · split at h
    · split at h
      · split at h
        · rename_i hnm; simp only [N.val_lit, G.len]; omega
        · split at h
          · rename_i hle; simp only [N.val_lit, G.len]; omega
          · cases h
      · rename_i m'
        simp only [Option.some.injEq, Prod.mk.injEq] at h
        obtain ⟨rfl, rfl⟩ := h
        have hle := hq _ (List.mem_singleton.2 rfl)
        simp only [arR] at hle
        simp only [N.val_lit, N.val_sym, G.len]; omega
    · cases h
  · split at h
    · split at h
      · rename_i hl
        simp only [Option.some.injEq, Prod.mk.injEq] at h
        obtain ⟨rfl, rfl⟩ := h
        have := leq_ok hl hq
        simp only [N.val_lit, G.len]; omega
      · cases h
    · cases h
  · cases h

theorem isOne' {c : C} {v : Value} (h : CRel ρ c v) : v.oneCell' = true := by
  have := h.isOne
  cases v <;> simp_all [Value.oneCell', one1]

theorem setRow_other (w : World) (r : Nat) (c : Array Value) (k : Nat) (h : k ≠ r) : (w.setRow r c).heap[k]? = w.heap[k]? := by
  simp only [World.setRow, Array.getElem?_modify]
  rw [if_neg (Ne.symm h)]

theorem len_of {g : G} {n : Nat} (h : g.len? = some n) : g.len = n := by
  unfold G.len? at h
  split at h <;> first | (simp only [Option.some.injEq] at h; subst h; rfl) | cases h

theorem oneCells {g : G} {arr : Array Value} (h : GRel ρ g arr) : ∀ v ∈ arr.toList, v.oneCell' = true := by
  intro v hv
  obtain ⟨j, hj, hvj⟩ := List.getElem_of_mem hv
  have hlt : j < g.len := by rw [← h.1]; simpa using hj
  obtain ⟨x, hx⟩ := at_some hlt
  obtain ⟨u, hu, hc⟩ := h.2 j x hx
  have : u = v := by
    have h1 : arr[j]? = some arr.toList[j] := by simp
    rw [hu] at h1
    rw [← hvj]; exact Option.some.inj h1
  rw [← this]
  exact isOne' hc

theorem run_storeVar {t : TypeId} {i : TypeInfo} (hi : P.info? t = some i) {v : Value} (hs : v.cells.size = i.size) (a : Addr) (w : World) : (storeVar t a v).run P w = (storeCells a v.cells.toList).run P w := by
  simp [storeVar, Sem.run_bind, run_sizeOf hi, hs]

theorem store_sound {ti : TypeId → TI} (hti : TIok P ti) {h h' : Heap} {w : World} (hH : HRel W0 m0 ρ h w) {t : TypeId} (hk : (ti t).known = true) {b : Nat} {off : N} {u xv : Value} {x : A} (hu : CRel ρ (.ptr b off) u) (hx : ARel ρ x xv)
    {al : Nat → Bool} {nm : Nat} {v : V} {rs : List Prop} (hf : perform arR al nm h (.store b off x (ti t).size) = some (v, h', rs)) (hr : ∀ q ∈ rs, q) :
    v = .tup [] ∧ ∃ w', (Instr.storeAt t u xv).run P w = .ok () w' ∧ HRel W0 m0 ρ h' w' := by
  obtain ⟨r, o, hρ, rfl⟩ := hu
  obtain ⟨i, hi, his, -⟩ := (hti t hk).info
  simp only [perform] at hf
  split at hf
  · split at hf
    · rename_i blk hblk
      obtain ⟨r', o', hρ', c, ty, fz, hw, hfz, hc⟩ := hH.blk _ _ hblk
      rw [hρ] at hρ'
      simp only [Option.some.injEq, Prod.mk.injEq] at hρ'
      obtain ⟨rfl, rfl⟩ := hρ'
      split at hf
      · cases hf
      · rename_i hro
        have hro : blk.ro = false := by simpa using hro
        have hfz := hfz hro
        subst hfz
        have fin : ∀ (arr : Array Value) (g' : G), xv.cells = arr → arr.size = (ti t).size → (∀ v ∈ arr.toList, v.oneCell' = true) → (0 < arr.size → o + off.val + arr.size ≤ c.size) →
            (∀ c', Upd c c' (o + off.val) arr → Holds ρ g' o c') →
            ∃ w', (Instr.storeAt t (.pointer (some ⟨r, o + off.val, none⟩)) xv).run P w = .ok () w' ∧ HRel W0 m0 ρ (h.set b (some { blk with g := g' })) w' := by
          intro arr g' e1 e2 e3 e4 e5
          by_cases hz : arr.size = 0
          · have : arr = #[] := Array.size_eq_zero_iff.1 hz
            subst this
            refine ⟨w, ?_, hH.write hblk hro hro hρ rfl rfl rfl rfl (fun _ _ => rfl) ⟨c, ty, (0, 0), hw, fun _ => rfl, e5 c ⟨fun k hk => by simp at hk, fun k _ => rfl⟩⟩⟩
            simp only [Instr.storeAt, Instr.sureAddr, Sem.run_bind, Sem.run_pure, Result.andThen_ok]
            rw [run_storeVar hi (by rw [e1, his, e2]), e1]
            rfl
          · have hfit := e4 (by omega)
            refine ⟨_, ?_, hH.write (w' := w.setRow r (c.toList.take (o + off.val + 0) ++ arr.toList ++ c.toList.drop (o + off.val + 0 + arr.toList.length)).toArray) hblk hro hro hρ rfl rfl rfl (setRow_size _ _ _) (fun k hk => setRow_other _ _ _ _ hk) ⟨_, ty, (0, 0), setRow_heap _ _ _ _ _ _ hw, fun _ => rfl, e5 _ ?_⟩⟩
            · simp only [Instr.storeAt, Instr.sureAddr, Sem.run_bind, Sem.run_pure, Result.andThen_ok]
              rw [run_storeVar hi (by rw [e1, his, e2]), e1]
              exact run_storeCells_at P r (o + off.val) ty arr.toList 0 c w hw (by simpa using hfit) e3
            · have := upd_of (c := c) (a := o + off.val) (vs := arr) hfit
              simpa using this
        split at hf
        · rename_i cx
          split at hf
          · rename_i hsz
            split at hf
            · rename_i g' ps hset
              simp only [Option.some.injEq, Prod.mk.injEq] at hf
              obtain ⟨rfl, rfl, rfl⟩ := hf
              have hx' : CRel ρ cx xv := hx
              have hlt := set_lt hset hr
              have hbs := block_size hc (by omega)
              refine ⟨rfl, fin #[xv] g' hx'.cells (by rw [hsz]; rfl) (fun v hv => ?_) (fun _ => by simp; omega) (fun c' hu => (set_holds hset hr hc hx' hu).2)⟩
              simp at hv; subst hv
              exact isOne' hx'
            · cases hf
          · cases hf
        · rename_i g0
          split at hf
          · rename_i n hn
            split at hf
            · rename_i hns
              split at hf
              · rename_i g' ps hput
                simp only [Option.some.injEq, Prod.mk.injEq] at hf
                obtain ⟨rfl, rfl, rfl⟩ := hf
                obtain ⟨arr, rfl, hg⟩ := hx
                have hsz : arr.size = (ti t).size := by rw [hg.1, len_of hn, hns]
                refine ⟨rfl, fin arr g' rfl hsz (oneCells hg) (fun hpos => ?_) (fun c' hu => (put_holds hput hr hc hg hu).2)⟩
                have hle := put_le hput hr
                have hl := hg.1
                have hbs := block_size hc (by omega)
                omega
              · cases hf
            · cases hf
          · cases hf
    · cases hf
  · cases hf
end
end Go.Eng
