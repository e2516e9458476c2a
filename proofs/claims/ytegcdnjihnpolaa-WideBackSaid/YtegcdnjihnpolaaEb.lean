import Derived.Test.YtegcdnjihnpolaaEa
set_option linter.unusedSimpArgs false
set_option linter.unusedVariables false
namespace Go.Eng
open Go Go.RowKit
section
variable {P : Program} {W0 : World} {m0 : Nat} {ρ : Ren}

/-- i waits for j, or the two may change places -/
structure Apart2 (L : Nat → Nat × Nat) (ops : Array Oper) (ws : Array Nat) (j i : Nat) : Prop where
  ex : ∃ oj oi, ops[j]? = some oj ∧ ops[i]? = some oi ∧ oj.apart ops oi = true ∧ clsOk2 (L j) (L i) = true
  w1 : (ws.getD j 0).testBit i = false
  w2 : (ws.getD i 0).testBit j = false

theorem Chain.front {ti : TypeId → TI} {tbl : Tbl} {ops : Array Oper} {ws : Array Nat} {n0 : Nat} {L : Nat → Nat × Nat} {i : Nat} : ∀ {pre post : List Nat} {s s' : St}, (∀ j ∈ pre, j ≠ i ∧ Apart2 L ops ws j i) →
    Chain ti tbl ops ws n0 L (pre ++ i :: post) s s' → Chain ti tbl ops ws n0 L (i :: (pre ++ post)) s s'
  | [], post, s, s', _, h => h
  | j :: pre, post, s, s', hall, h => by
    obtain ⟨oj, s1, hoj, ej, hrest⟩ := h
    obtain ⟨oi, s2, hoi, ei, hrest2⟩ := Chain.front (fun k hk => hall k (by simp [hk])) hrest
    obtain ⟨hne, ⟨oj', oi', e1, e2, e3, e4⟩, w1, w2⟩ := hall j (by simp)
    rw [hoj] at e1; rw [hoi] at e2
    simp only [Option.some.injEq] at e1 e2
    subst e1 e2
    obtain ⟨s1', f1, f2⟩ := Eff.comm ej ei e3 e4 w1 w2 hne
    exact ⟨oi, s1', hoi, f1, oj, s2, hoj, f2, hrest2⟩

/-- the names of what is still to be made are free -/
def Fresh (ops : Array Oper) (n0 m0 : Nat) (rem : List Nat) (s : St) : Prop := ∀ j ∈ rem, ∀ o, ops[j]? = some o → isAlloc o.op = true → s.heap[n0 + j]? = some none ∧ m0 ≤ n0 + j

theorem perform_fresh {al : Nat → Bool} {nm n : Nat} {h h' : Heap} {p : Plan} {v : V} {rs : List Prop} (hf : perform arR al nm h p = some (v, h', rs)) (hn : h[n]? = some none) (hne : n ≠ nm) : h'[n]? = some none := by
  cases p with
  | callh s args =>
    obtain ⟨hal, bs, rfl, -⟩ := perform_callh hf
    rw [setMany_out]
    · exact hn
    · intro e
      obtain ⟨-, b, hb⟩ := hal n e
      rw [hn] at hb; cases hb
  | val v => simp only [perform, Option.some.injEq, Prod.mk.injEq] at hf; obtain ⟨-, rfl, -⟩ := hf; exact hn
  | load b off s ag => obtain ⟨-, rfl, -⟩ := perform_load hf; exact hn
  | alloc g => simp only [perform, Option.some.injEq, Prod.mk.injEq] at hf; obtain ⟨-, rfl, -⟩ := hf; rw [List.getElem?_set_ne (Ne.symm hne)]; exact hn
  | store b off x s =>
    have hb : ∃ blk, h[b]? = some (some blk) := by
      unfold perform at hf
      simp only at hf
      split at hf
      · split at hf
        · rename_i blk hb; exact ⟨blk, hb⟩
        · cases hf
      · cases hf
    obtain ⟨blk, hb⟩ := hb
    obtain ⟨-, B, rfl, -⟩ := perform_store hf
    rw [List.getElem?_set_ne]
    · exact hn
    · intro e; rw [e, hn] at hb; cases hb

theorem Eff.fresh {ti : TypeId → TI} {tbl : Tbl} {ops : Array Oper} {ws : Array Nat} {n0 i : Nat} {le : Nat × Nat} {o : Oper} {s s' : St} (h : Eff ti tbl ops ws n0 le i o s s') {rem : List Nat} (hf : Fresh ops n0 m0 rem s) (hi : i ∉ rem) : Fresh ops n0 m0 rem s' := by
  rcases h with ⟨-, -, v, h', qs, e, -, rfl⟩ | ⟨-, -, rfl⟩
  · intro j hj o' ho' ha
    obtain ⟨e1, e2⟩ := hf j hj o' ho' ha
    refine ⟨?_, e2⟩
    unfold stepOp at e
    split at e
    · cases e
    · split at e
      · cases e
      · rename_i hp _ _ _ hfm
        simp only [Option.some.injEq, Prod.mk.injEq] at e
        obtain ⟨rfl, rfl, rfl⟩ := e
        refine perform_fresh hfm e1 ?_
        have : j ≠ i := fun x => hi (x ▸ hj)
        omega
  · exact hf

/-- an operation's effect in the model -/
theorem Eff.wp {ti : TypeId → TI} (hti : TIok P ti) {tbl : Tbl} (htbl : TblOk P tbl) {ops : Array Oper} {ws : Array Nat} {n0 i : Nat} {le : Nat × Nat} {o : Oper} {s s' : St} (hoi : ops[i]? = some o) (h : Eff ti tbl ops ws n0 le i o s s')
    (hf : isAlloc o.op = true → s.heap[n0 + i]? = some none ∧ m0 ≤ n0 + i) {a : Act} {w : World} (hT : TRel ρ s.tmps a.tmps) (hH : HRel W0 m0 ρ s.heap w) (hdef : a.defers = []) {K : Act → World → Prop} {Q : Exit → Act → World → Prop}
    (hK : ∀ ρ' a' w', Ext ρ ρ' → TRel ρ' s'.tmps a'.tmps → HRel W0 m0 ρ' s'.heap w' → a'.defers = [] → K a' w') : wpOp P ops Q i K a w := by
  have hdefp : ∀ (v : Value), (a.put o.dst v).defers = [] := by
    intro v; cases o.dst <;> exact hdef
  unfold wpOp
  simp only [hoi]
  rcases h with ⟨hw, -, v, h', qs, e, hq, rfl⟩ | ⟨hw, -, rfl⟩
  · rw [wanted_of hT hw]
    simp only [if_true]
    refine .inl (stepOp_wp (W0 := W0) (m0 := m0) (ρ := ρ) hti htbl hT hH e hq hf ?_)
    intro ρ' v' w' hx hh hv
    exact hK ρ' _ w' hx ((hT.ext hx).put hv) hh (hdefp _)
  · rw [wanted_of hT hw]
    simp only [Bool.false_eq_true, if_false]
    exact hK ρ _ w (Ext.refl ρ) (hT.put undef_rel) hH (hdefp _)

/-- the unlisted ones, in their order -/
def unl (n : Nat) (listed : Array Bool) : List Nat := (List.range n).filter fun i => !listed.getD i true

theorem mem_unl {n : Nat} {listed : Array Bool} {i : Nat} : i ∈ unl n listed ↔ i < n ∧ listed.getD i true = false := by
  unfold unl
  rw [List.mem_filter, List.mem_range]
  simp only [Bool.not_eq_true']

theorem unl_split {n : Nat} {listed : Array Bool} {i : Nat} (hs : listed.size = n) (hi : i ∈ unl n listed) : ∃ pre post, unl n listed = pre ++ i :: post ∧ (∀ j ∈ pre, j < i ∧ j ∈ unl n listed) ∧ i ∉ pre ++ post ∧ unl n (listed.setIfInBounds i true) = pre ++ post := by
  obtain ⟨hin, hil⟩ := mem_unl.1 hi
  have hr : List.range n = List.range i ++ i :: (List.range' (i + 1) (n - (i + 1))) := by
    rw [List.range_eq_range', List.range_eq_range', show n = i + (n - i) by omega, ← List.range'_append]
    congr 1
    rw [show n - i = (n - (i + 1)) + 1 by omega, Nat.zero_add, Nat.one_mul, List.range'_succ]
    congr 2
    omega
  have hset : ∀ j, j ≠ i → (listed.setIfInBounds i true).getD j true = listed.getD j true := fun j hj => getD_set_ne true (Ne.symm hj)
  refine ⟨(List.range i).filter fun i => !listed.getD i true, (List.range' (i + 1) (n - (i + 1))).filter fun i => !listed.getD i true, ?_, ?_, ?_, ?_⟩
  · unfold unl
    rw [hr, List.filter_append, List.filter_cons_of_pos (by simp only [hil, Bool.not_false])]
  · intro j hj
    rw [List.mem_filter, List.mem_range] at hj
    refine ⟨hj.1, mem_unl.2 ⟨by omega, by simpa only [Bool.not_eq_true'] using hj.2⟩⟩
  · intro hm
    rcases List.mem_append.1 hm with hm | hm
    · rw [List.mem_filter, List.mem_range] at hm; omega
    · rw [List.mem_filter, List.mem_range'] at hm
      obtain ⟨⟨k, hk, e⟩, -⟩ := hm
      omega
  · unfold unl
    rw [hr, List.filter_append, List.filter_cons_of_neg (by
      have : (listed.setIfInBounds i true).getD i true = true := by
        have hlt : i < listed.size := by omega
        simp [hlt]
      simp only [this, Bool.not_true, Bool.false_eq_true, not_false_eq_true])]
    congr 1
    · apply List.filter_congr
      intro j hj
      rw [List.mem_range] at hj
      rw [hset j (by omega)]
    · apply List.filter_congr
      intro j hj
      rw [List.mem_range'] at hj
      obtain ⟨k, hk, e⟩ := hj
      rw [hset j (by omega)]

structure DrawInv (L : Nat → Nat × Nat) (ops : Array Oper) (ws : Array Nat) : Prop where
  back : ∀ i oi, ops[i]? = some oi → ∀ e ∈ oi.after, Region.binds .any e = true → e.on < i
  pair : ∀ i j, j < i → i < ops.size → (ws.getD j 0).testBit i = false ∧ (((ws.getD i 0).testBit j = true ∧ ∃ oi, ops[i]? = some oi ∧ ∃ e ∈ oi.after, Region.binds .any e = true ∧ (e.on = j ∨ (ws.getD e.on 0).testBit j = true)) ∨ Apart2 L ops ws j i)

theorem drawInv_of {hc : FuncId → Bool} {L : Nat → Nat × Nat} {ops : Array Oper} {ws : Array Nat} (h : drawOkW hc ops ws = true) (hL : ∀ i j, j < i → i < ops.size → (ws.getD i 0).testBit j = false → clsOk2 (L j) (L i) = true) : DrawInv L ops ws := by
  unfold drawOkW at h
  rw [List.all_eq_true] at h
  have key : ∀ i oi, ops[i]? = some oi → (oi.after.all (fun e => !Region.binds .any e || decide (e.on < i)) = true) ∧ ∀ j, j < i → (ws.getD j 0).testBit i = false ∧ (if (ws.getD i 0).testBit j then oi.after.any (fun e => Region.binds .any e && (e.on == j || (ws.getD e.on 0).testBit j)) else commB hc ops j i) = true := by
    intro i oi hoi
    have hlt : i < ops.size := (Array.getElem?_eq_some_iff.1 hoi).1
    have := h i (List.mem_range.2 hlt)
    rw [hoi] at this
    simp only [Bool.and_eq_true] at this
    refine ⟨this.1, fun j hj => ?_⟩
    have h2 := List.all_eq_true.1 this.2 j (List.mem_range.2 hj)
    simp only [Bool.and_eq_true, Bool.not_eq_true'] at h2
    exact h2
  refine ⟨fun i oi hoi e he hb => ?_, fun i j hj hi => ?_⟩
  · have := (key i oi hoi).1
    rw [Array.all_eq_true_iff_forall_mem] at this
    have := this e he
    simp only [hb, Bool.not_true, Bool.false_or, decide_eq_true_eq] at this
    exact this
  · obtain ⟨oi, hoi⟩ : ∃ oi, ops[i]? = some oi := ⟨ops[i], Array.getElem?_eq_getElem hi⟩
    obtain ⟨h1, h2⟩ := (key i oi hoi).2 j hj
    refine ⟨h1, ?_⟩
    by_cases hw : (ws.getD i 0).testBit j = true
    · rw [if_pos hw] at h2
      obtain ⟨e, he, hb⟩ := Array.any_eq_true'.1 h2
      simp only [Bool.and_eq_true, Bool.or_eq_true, beq_iff_eq] at hb
      exact .inl ⟨hw, oi, hoi, e, he, hb.1, hb.2⟩
    · have hw : (ws.getD i 0).testBit j = false := by simpa only [Bool.not_eq_true] using hw
      rw [hw] at h2
      simp only [Bool.false_eq_true, if_false] at h2
      unfold commB at h2
      rw [hoi] at h2
      split at h2
      · rename_i oj oi' hoj e
        simp only [Option.some.injEq] at e
        subst e
        exact .inr ⟨⟨oj, oi, hoj, hoi, h2, hL i j hj hi hw⟩, h1, hw⟩
      · cases h2

/-- what is listed is closed under what it waits for -/
def Closed (ops : Array Oper) (listed : Array Bool) : Prop := ∀ j oj, ops[j]? = some oj → listed.getD j false = true → ∀ e ∈ oj.after, Region.binds .any e = true → listed.getD e.on false = true

theorem waits_listed {L : Nat → Nat × Nat} {ops : Array Oper} {ws : Array Nat} (hD : DrawInv L ops ws) {listed : Array Bool} (hc : Closed ops listed) {j : Nat} : ∀ (n i : Nat), i = n → j < i → i < ops.size → (ws.getD i 0).testBit j = true →
    (∀ oi, ops[i]? = some oi → ∀ e ∈ oi.after, Region.binds .any e = true → listed.getD e.on false = true) → listed.getD j false = true := by
  intro n
  induction n using Nat.strongRecOn with
  | _ n ih =>
    intro i hin hj hi hw hall
    rcases (hD.pair i j hj hi).2 with ⟨-, oi, hoi, e, he, hb, hon⟩ | ha
    · have hl := hall oi hoi e he hb
      rcases hon with hon | hon
      · rw [← hon]; exact hl
      · have hlt := hD.back i oi hoi e he hb
        by_cases hej : e.on = j
        · rw [← hej]; exact hl
        have hje : j < e.on := by
          rcases Nat.lt_trichotomy j e.on with h | h | h
          · exact h
          · exact absurd h.symm hej
          · have := (hD.pair j e.on h (by omega)).1
            rw [hon] at this; cases this
        exact ih e.on (by omega) e.on rfl hje (by omega) hon (fun ok hok e' he' hb' => hc e.on ok hok hl e' he' hb')
    · have := ha.w2; rw [hw] at this; cases this

theorem getD_low {listed : Array Bool} {i : Nat} (h : listed.getD i true = false) : listed.getD i false = false := by
  rcases Nat.lt_or_ge i listed.size with h' | h'
  · simp [h'] at h ⊢; exact h
  · simp [Array.getElem?_eq_none h'] at h

/-- WHATEVER ORDER IS DRAWN -/
theorem wpAny_of_chain {ti : TypeId → TI} (hti : TIok P ti) {tbl : Tbl} (htbl : TblOk P tbl) {ops : Array Oper} {ws : Array Nat} {n0 : Nat} {L : Nat → Nat × Nat} (hD : DrawInv L ops ws) {sn : St} {ρ0 : Ren} {Q : Exit → Act → World → Prop}
    (hQ : ∀ ρ' a' w', Ext ρ0 ρ' → TRel ρ' sn.tmps a'.tmps → HRel W0 m0 ρ' sn.heap w' → a'.defers = [] → Q .normal a' w') :
    ∀ (fuel : Nat) (listed : Array Bool) (ρ : Ren) (s : St) (a : Act) (w : World), Ext ρ0 ρ → listed.size = ops.size → Closed ops listed → (unl ops.size listed).length ≤ fuel → Fresh ops n0 m0 (unl ops.size listed) s →
      Chain ti tbl ops ws n0 L (unl ops.size listed) s sn → TRel ρ s.tmps a.tmps → HRel W0 m0 ρ s.heap w → a.defers = [] → wpAny P .any ops Q fuel listed a w := by
  have noReady : ∀ listed : Array Bool, Region.ready .any ops listed = [] → unl ops.size listed = [] := by
    intro listed hr
    cases hu : unl ops.size listed with
    | nil => rfl
    | cons i l =>
      exfalso
      have hi : i ∈ unl ops.size listed := by rw [hu]; simp
      obtain ⟨hin, hil⟩ := mem_unl.1 hi
      have hmin : ∀ k, k < i → listed.getD k false = true := by
        intro k hk
        cases hkl : listed.getD k true with
        | false =>
          exfalso
          have hkm : k ∈ unl ops.size listed := mem_unl.2 ⟨by omega, hkl⟩
          have hp : (unl ops.size listed).Pairwise (· < ·) := List.Pairwise.filter _ List.pairwise_lt_range
          rw [hu] at hkm hp
          rcases List.mem_cons.1 hkm with h | h
          · omega
          · have := (List.pairwise_cons.1 hp).1 k h; omega
        | true =>
          rcases Nat.lt_or_ge k listed.size with h' | h'
          · simp [h'] at hkl ⊢; exact hkl
          · rcases Nat.lt_or_ge i listed.size with h2 | h2
            · omega
            · simp [Array.getElem?_eq_none h2] at hil
      have : i ∈ Region.ready .any ops listed := mem_ready.2 ⟨hil, ops[i], Array.getElem?_eq_getElem hin, fun e he hb => hmin _ (hD.back i _ (Array.getElem?_eq_getElem hin) e he hb)⟩
      rw [hr] at this; cases this
  intro fuel
  induction fuel with
  | zero =>
    intro listed ρ s a w hρ hs hc hf hfr hch hT hH hd
    have hu : unl ops.size listed = [] := List.length_eq_zero_iff.1 (by omega)
    rw [hu] at hch
    have hch : s = sn := hch
    subst hch
    refine ⟨?_, hQ ρ a w hρ hT hH hd⟩
    cases hr : Region.ready .any ops listed with
    | nil => rfl
    | cons i l =>
      have hi : i ∈ Region.ready .any ops listed := by rw [hr]; simp
      obtain ⟨h1, o, ho, -⟩ := mem_ready.1 hi
      have : i ∈ unl ops.size listed := mem_unl.2 ⟨(Array.getElem?_eq_some_iff.1 ho).1, h1⟩
      rw [hu] at this; cases this
  | succ fuel ih =>
    intro listed ρ s a w hρ hs hc hf hfr hch hT hH hd
    refine ⟨fun hr => ?_, fun i hi => ?_⟩
    · rw [noReady listed hr] at hch
      have hch : s = sn := hch
      subst hch
      exact hQ ρ a w hρ hT hH hd
    · obtain ⟨h1, o, ho, hall⟩ := mem_ready.1 hi
      have hin : i < ops.size := (Array.getElem?_eq_some_iff.1 ho).1
      have him : i ∈ unl ops.size listed := mem_unl.2 ⟨hin, h1⟩
      obtain ⟨pre, post, e1, e2, e3, e4⟩ := unl_split hs him
      rw [e1] at hch
      have hfront := Chain.front (fun j hj => by
        obtain ⟨hji, hjm⟩ := e2 j hj
        refine ⟨by omega, ?_⟩
        rcases (hD.pair i j hji hin).2 with ⟨hw, -⟩ | ha
        · exfalso
          have := waits_listed hD hc i i rfl hji hin hw (fun oi hoi => by rw [ho] at hoi; simp only [Option.some.injEq] at hoi; subst hoi; exact hall)
          have h2 := (mem_unl.1 hjm).2
          rw [getD_low h2] at this; cases this
        · exact ha) hch
      obtain ⟨o', s1, ho', heff, hrest⟩ := hfront
      rw [ho] at ho'
      simp only [Option.some.injEq] at ho'
      subst ho'
      refine Eff.wp (W0 := W0) (m0 := m0) (ρ := ρ) hti htbl ho heff (fun ha => hfr i him o ho ha) hT hH hd ?_
      intro ρ' a' w' hx' hT' hH' hd'
      have hsz : (listed.setIfInBounds i true).size = ops.size := by simp [hs]
      refine ih _ ρ' s1 a' w' (hρ.trans hx') hsz ?_ ?_ ?_ ?_ hT' hH' hd'
      · intro j oj hj hl e he hb
        by_cases hij : i = j
        · subst hij
          rw [ho] at hj
          simp only [Option.some.injEq] at hj
          subst hj
          exact getD_set_true (hall e he hb)
        · rw [getD_set_ne false hij] at hl
          exact getD_set_true (hc j oj hj hl e he hb)
      · rw [e4]
        rw [e1] at hf
        simp at hf ⊢; omega
      · rw [e4]
        exact heff.fresh (fun j hj => hfr j (by rw [e1]; rcases List.mem_append.1 hj with h | h <;> simp [h])) e3
      · rw [e4]; exact hrest

end
end Go.Eng
