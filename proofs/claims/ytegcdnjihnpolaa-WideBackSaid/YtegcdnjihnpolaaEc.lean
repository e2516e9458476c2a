import Derived.Test.YtegcdnjihnpolaaEb
set_option linter.unusedSimpArgs false
set_option linter.unusedVariables false
namespace Go.Eng
open Go Go.RowKit

/-- every drawn region of a code may come in any order -/
def codeOk (hc : FuncId → Bool) : Code → Bool
  | .region _ ops draw => !draw || drawOk hc ops
  | .seq a b => codeOk hc a && codeOk hc b
  | .cond _ a b => codeOk hc a && codeOk hc b
  | .block _ b => codeOk hc b
  | .loop b => codeOk hc b
  | _ => true

def itemOk (hc : FuncId → Bool) : Item → Bool
  | .code c => codeOk hc c
  | .inLoop c => codeOk hc c
  | _ => true

def itemsOk (hc : FuncId → Bool) (l : List Item) : Bool := l.all (itemOk hc)

section
variable {P : Program} {W0 : World} {m0 : Nat} {ρ : Ren}

theorem clsOk2_zero : ∀ e : Nat × Nat, clsOk2 e (0, 0) = true
  | (0, _) => rfl
  | (1, _) => rfl
  | (2, _) => rfl
  | (3, _) => rfl
  | (_ + 4, _) => rfl
theorem okEv_spec {w : Nat} {e : Nat × Nat} : ∀ {evs : List (Nat × Nat)} {i : Nat}, evs.length = i → okEv w e evs i = true → ∀ j, j < i → w.testBit j = false → clsOk2 (evs.getD (i - 1 - j) (0, 0)) e = true
  | [], i, hl, _, j, hj, _ => by simp at hl; omega
  | e' :: l, i + 1, hl, h, j, hj, hw => by
    simp only [okEv, Bool.and_eq_true, Bool.or_eq_true] at h
    have hl' : l.length = i := by simpa using hl
    by_cases hji : j = i
    · subst hji
      rcases h.1 with h1 | h1
      · simpa using h1
      · rw [hw] at h1; cases h1
    · have := okEv_spec hl' h.2 j (by omega) hw
      rw [show i + 1 - 1 - j = (i - 1 - j) + 1 by omega, List.getD_cons_succ]
      exact this

theorem runDraw_chain {ti : TypeId → TI} {tbl : Tbl} {ops : Array Oper} {ws : Array Nat} {n0 : Nat} : ∀ {l : List Oper} {i : Nat} {evs : List (Nat × Nat)} {r r' : RS}, ops.toList.drop i = l → evs.length = i → runDraw arR arR ti tbl ops ws n0 evs i l r = some r' → DecOk r → (∀ q ∈ r'.obs, q) →
    DecOk r' ∧ r'.heap.length = r.heap.length ∧ ∃ L : Nat → Nat × Nat, (∀ j, j < i → L j = evs.getD (i - 1 - j) (0, 0)) ∧ (∀ k j, i ≤ k → j < k → k < ops.size → (ws.getD k 0).testBit j = false → clsOk2 (L j) (L k) = true) ∧ Chain ti tbl ops ws n0 L (List.range' i (ops.size - i)) ⟨r.tmps, r.heap⟩ ⟨r'.tmps, r'.heap⟩
  | [], i, evs, r, r', hl, hev, hr, hd, hq => by
    simp only [runDraw, Option.some.injEq] at hr
    subst hr
    have : ops.size - i = 0 := by
      have := congrArg List.length hl
      simp at this; omega
    rw [this]
    exact ⟨hd, rfl, fun j => evs.getD (i - 1 - j) (0, 0), fun j _ => rfl, fun k j h1 h2 h3 => by omega, rfl⟩
  | o :: l, i, evs, r, r', hl, hev, hr, hd, hq => by
    have hlt : i < ops.size := by
      have := congrArg List.length hl
      simp at this; omega
    have hoi : ops[i]? = some o := by
      have h1 : (ops.toList.drop i)[0]? = some o := by rw [hl]; rfl
      rw [List.getElem?_drop] at h1
      simpa using h1
    have hl' : ops.toList.drop (i + 1) = l := by
      rw [← List.drop_drop, hl]; rfl
    have hsplit : List.range' i (ops.size - i) = i :: List.range' (i + 1) (ops.size - (i + 1)) := by
      rw [show ops.size - i = (ops.size - (i + 1)) + 1 by omega, List.range'_succ]
    rw [hsplit]
    have hback : ∀ (L : Nat → Nat × Nat) (e : Nat × Nat), (∀ j, j < i + 1 → L j = (e :: evs).getD (i + 1 - 1 - j) (0, 0)) → L i = e ∧ ∀ j, j < i → L j = evs.getD (i - 1 - j) (0, 0) := by
      intro L e h
      refine ⟨by rw [h i (by omega)]; simp, fun j hj => ?_⟩
      rw [h j (by omega), show i + 1 - 1 - j = (i - 1 - j) + 1 by omega, List.getD_cons_succ]
    simp only [runDraw] at hr
    split at hr
    · cases hr
    · rename_i r2 hg
      have hq2 : ∀ q ∈ r2.obs, q := fun q h => hq q (runDraw_obs hr q (List.mem_append_right _ h))
      obtain ⟨h1, h2, h3, h4⟩ := guardAt_sem hg hd hq2
      obtain ⟨c1, c2, L, l1, l2, c3⟩ := runDraw_chain hl' (by simp [hev]) hr (put_later h4 _ _ _ _) hq
      obtain ⟨b1, b2⟩ := hback L _ l1
      refine ⟨c1, ?_, L, b2, fun k j hk hj hks hw => ?_, o, _, hoi, .inr ⟨h1, b1, rfl⟩, ?_⟩
      · rw [c2]; simp only [RS.put]; rw [h3]
      · by_cases hki : k = i
        · subst hki
          rw [b1]
          exact clsOk2_zero _
        · exact l2 k j (by omega) hj hks hw
      · simp only [RS.put, h2, h3] at c3
        exact c3
    · rename_i r2 hg
      split at hr
      · cases hr
      rename_i hoke
      have hoke : okEv (ws.getD i 0) (lab tbl.hc r2.tmps o.op) evs i = true := by simpa using hoke
      split at hr
      · rename_i r3 he
        have hq3 : ∀ q ∈ r3.obs, q := fun q h => hq q (runDraw_obs hr q h)
        have hq2 : ∀ q ∈ r2.obs, q := fun q h => hq3 q (evOp_obs he q h)
        obtain ⟨h1, h2, h3, h4⟩ := guardAt_sem hg hd hq2
        obtain ⟨v, h', qs, e1, e2, e3, e4, e5⟩ := evOp_sem he h4 hq3
        obtain ⟨c1, c2, L, l1, l2, c3⟩ := runDraw_chain hl' (by simp [hev]) hr e5 hq
        obtain ⟨b1, b2⟩ := hback L _ l1
        rw [h2, h3] at e1
        rw [h2] at e3
        refine ⟨c1, ?_, L, b2, fun k j hk hj hks hw => ?_, o, ⟨putV r.tmps o.dst v, h'⟩, hoi, .inl ⟨h1, by rw [b1, h2], v, h', qs, e1, e2, rfl⟩, ?_⟩
        · rw [c2, e4, stepOp_len e1]
        · by_cases hki : k = i
          · subst hki
            rw [b1, b2 j hj]
            exact okEv_spec hev hoke j hj hw
          · exact l2 k j (by omega) hj hks hw
        · rw [e3, e4] at c3; exact c3
      · cases hr

theorem applyDec_rel : ∀ {dec : List (Tmp × Bool)} {tmps : List V} {arr : Array Value}, (∀ (d : Nat) (h : Bool), (d, h) ∈ dec → arr[d]? = some (.bool h)) → TRel ρ tmps arr → TRel ρ (applyDec dec tmps) arr
  | [], _, _, _, h => h
  | (d, b) :: dec, tmps, arr, hd, h => by
    refine applyDec_rel (dec := dec) (tmps := tmps.set d (.a (.one (.lbool b)))) (fun d' h' hm => hd d' h' (by simp [hm])) ⟨by rw [h.1]; simp, fun j x hx => ?_⟩
    rw [List.getElem?_set] at hx
    by_cases hdj : d = j
    · subst hdj
      rw [if_pos rfl] at hx
      split at hx
      · simp only [Option.some.injEq] at hx
        subst hx
        exact ⟨.bool b, hd d b (by simp), rfl⟩
      · cases hx
    · rw [if_neg hdj] at hx
      exact h.2 j x hx

theorem applyDec_of {r : RS} {arr : Array Value} (hd : DecOk r) (h : TRel ρ r.tmps arr) : TRel ρ (applyDec r.dec r.tmps) arr := by
  refine applyDec_rel (fun d t hm => ?_) h
  obtain ⟨b, hb, rfl⟩ := hd d t hm
  rw [List.getD_eq_getElem?_getD] at hb
  cases hx : r.tmps[d]? with
  | none => rw [hx] at hb; simp at hb
  | some x =>
    rw [hx] at hb
    simp at hb
    subst hb
    obtain ⟨v, h1, h2⟩ := h.2 d _ hx
    rw [h1]
    exact congrArg some h2

theorem unl_all (n : Nat) : unl n (Array.replicate n false) = List.range n := by
  unfold unl
  rw [List.filter_eq_self]
  intro i hi
  rw [List.mem_range] at hi
  simp [hi]

theorem HRel.padOps {h : Heap} {w : World} (hH : HRel W0 m0 ρ h w) (ops : Array Oper) : HRel W0 m0 ρ (Go.Eng.pad ops h) w := by
  unfold Go.Eng.pad
  split
  · exact hH.pad _
  · exact hH

theorem pad_len (ops : Array Oper) (h : Heap) : h.length ≤ (Go.Eng.pad ops h).length := by
  unfold Go.Eng.pad
  split <;> simp

theorem runOps_len {ti : TypeId → TI} {tbl : Tbl} {ops : Array Oper} : ∀ {l : List Oper} {r r' : RS}, runOps arR arR ti tbl ops l r = some r' → DecOk r → (∀ q ∈ r'.obs, q) → DecOk r' ∧ r.heap.length ≤ r'.heap.length
  | [], r, r', h, hd, hq => by simp only [runOps, Option.some.injEq] at h; subst h; exact ⟨hd, Nat.le_refl _⟩
  | o :: l, r, r', h, hd, hq => by
    simp only [runOps] at h
    split at h
    · cases h
    · rename_i r2 hg
      have hq2 : ∀ q ∈ r2.obs, q := fun q hx => hq q (runOps_obs h q (List.mem_append_right _ hx))
      obtain ⟨h1, h2, h3, h4⟩ := guardAt_sem hg hd hq2
      obtain ⟨c1, c2⟩ := runOps_len h (put_later h4 _ _ _ _) hq
      exact ⟨c1, by simp only [RS.put] at c2; rw [h3] at c2; exact c2⟩
    · rename_i r2 hg
      split at h
      · rename_i r3 he
        have hq3 : ∀ q ∈ r3.obs, q := fun q hx => hq q (runOps_obs h q hx)
        have hq2 : ∀ q ∈ r2.obs, q := fun q hx => hq3 q (evOp_obs he q hx)
        obtain ⟨h1, h2, h3, h4⟩ := guardAt_sem hg hd hq2
        obtain ⟨v, h', qs, e1, e2, e3, e4, e5⟩ := evOp_sem he h4 hq3
        obtain ⟨c1, c2⟩ := runOps_len h e5 hq
        refine ⟨c1, ?_⟩
        have hl := stepOp_len e1
        rw [e4, hl] at c2
        rw [h3] at c2
        by_cases ha : isAlloc o.op = true
        · rw [if_pos ha, List.length_append] at c2; omega
        · rw [if_neg ha] at c2; exact c2
      · cases h

theorem region_wp {ti : TypeId → TI} (hm : P.follows .mixedOrders = true) (hti : TIok P ti) {tbl : Tbl} (htbl : TblOk P tbl) {id : Nat} {ops : Array Oper} {draw : Bool} (hok : (!draw || drawOk tbl.hc ops) = true) {c c' : Cfg} (hr : runRegion arR arR ti tbl ops draw c = some c')
    (hq : ∀ q ∈ c'.obs, q) (hm0 : m0 ≤ c.heap.length) {a : Act} {w : World} (hT : TRel ρ c.tmps a.tmps) (hH : HRel W0 m0 ρ c.heap w) (hd : a.defers = []) {Q : Exit → Act → World → Prop}
    (hQ : ∀ ρ' a' w', Ext ρ ρ' → TRel ρ' c'.tmps a'.tmps → HRel W0 m0 ρ' c'.heap w' → a'.defers = [] → Q .normal a' w') : (Code.region id ops draw).wp P Q a w := by
  unfold runRegion at hr
  cases draw with
  | false =>
    simp only [runAny] at hr
    split at hr
    · rename_i r hrun
      simp only [Option.some.injEq] at hr
      subst hr
      refine wp_region ?_
      have := runOps_wp (W0 := W0) (m0 := m0) hti htbl (Q := Q) ops.toList 0 _ r ρ a w (by simp) hrun (fun d h hm => by simp at hm) hq hm0 hT hH hd
        (fun hd' hm' ρ' a' w' hx h1 h2 h3 => hQ ρ' a' w' hx (applyDec_of hd' h1) h2 h3)
      rw [List.range_eq_range']
      simpa using this
    · cases hr
  | true =>
    split at hr
    · rename_i r hrun
      replace hrun := runAny_draw hrun
      simp only [Option.some.injEq] at hr
      subst hr
      refine wp_region_any hm ?_
      obtain ⟨c1, c2, L, l1, l2, c3⟩ := runDraw_chain (l := ops.toList) (i := 0) (by simp) rfl hrun (fun d h hm => by simp at hm) hq
      have hD := drawInv_of (ws := waits ops) (L := L) (by simpa [drawOk] using hok) (fun i j hj hi hw => l2 i j (Nat.zero_le _) hj hi hw)
      refine wpAny_of_chain (W0 := W0) (m0 := m0) (n0 := c.heap.length) hti htbl hD (sn := ⟨r.tmps, r.heap⟩) (ρ0 := ρ) (fun ρ' a' w' hx h1 h2 h3 => hQ ρ' a' w' hx (applyDec_of c1 h1) h2 h3) ops.size (Array.replicate ops.size false) ρ ⟨c.tmps, Go.Eng.pad ops c.heap⟩ a _ (Ext.refl ρ) (by simp) ?_ ?_ ?_ ?_ hT ((hH.padOps ops).drew _) hd
      · intro j oj hj hl
        by_cases h : j < ops.size <;> simp [h] at hl
      · rw [unl_all]; simp
      · rw [unl_all]
        intro j hj o ho ha
        rw [List.mem_range] at hj
        refine ⟨?_, by omega⟩
        have hany : ops.any (fun o => isAlloc o.op) = true := by
          rw [Array.any_eq_true']
          exact ⟨o, Array.mem_of_getElem? ho, ha⟩
        unfold Go.Eng.pad
        rw [if_pos hany, List.getElem?_append_right (by omega)]
        simp [hj]
      · rw [unl_all, List.range_eq_range']
        simpa using c3
    · cases hr

end
end Go.Eng
