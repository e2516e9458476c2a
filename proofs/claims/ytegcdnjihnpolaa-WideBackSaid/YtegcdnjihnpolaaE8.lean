import Derived.Test.YtegcdnjihnpolaaE7
set_option linter.unusedSimpArgs false
set_option linter.unusedVariables false
namespace Go.Eng
open Go Go.RowKit
section
variable {P : Program} {W0 : World} {m0 : Nat} {ρ : Ren}

theorem TRel.put {tmps : List V} {a : Act} (h : TRel ρ tmps a.tmps) {dst : Option Tmp} {v : V} {u : Value} (hv : VRel ρ v u) : TRel ρ (putV tmps dst v) (a.put dst u).tmps := by
  cases dst with
  | none => exact h
  | some d =>
    refine ⟨by simp [Act.put, putV, h.1], fun j x hx => ?_⟩
    simp only [putV, List.getElem?_set] at hx
    simp only [Act.put, Array.getElem?_setIfInBounds]
    by_cases hdj : d = j
    · subst hdj
      rw [if_pos rfl] at hx ⊢
      by_cases hl : d < tmps.length
      · rw [if_pos hl] at hx
        simp only [Option.some.injEq] at hx
        subst hx
        exact ⟨u, by rw [if_pos (by rw [h.1]; exact hl)], hv⟩
      · rw [if_neg hl] at hx; cases hx
    · rw [if_neg hdj] at hx ⊢
      exact h.2 j x hx

theorem TRel.getD {tmps : List V} {arr : Array Value} (h : TRel ρ tmps arr) (d : Nat) : VRel ρ (tmps.getD d (.tup [])) (arr.getD d undef) :=
  VRel.opnd h (.tmp d) ⟨arr, []⟩ rfl

theorem undef_rel : VRel ρ (.tup []) undef := ⟨#[], rfl, rfl, fun j x hx => by simp at hx⟩

theorem wanted_of {ops : Array Oper} {tmps : List V} {o : Oper} {arr : Array Value} (h : TRel ρ tmps arr) {d : Bool} (hw : wantedA ops tmps o = some d) : Region.wanted o (yielded ops arr) = d := by
  unfold wantedA at hw
  unfold Region.wanted
  split at hw
  · rename_i hg
    simp only [Option.some.injEq] at hw
    simp [hg, hw]
  · rename_i j want hg
    simp only [hg]
    split at hw
    · rename_i t ht
      have hr := h.getD t
      have hy : ∀ b, arr.getD t undef = .bool b → yielded ops arr j = some b := by
        intro b hb
        unfold yielded
        rw [ht]
        simp only [Option.bind_some]
        rw [Array.getD_eq_getD_getElem?] at hb
        cases hx : arr[t]? with
        | none => rw [hx] at hb; simp [undef] at hb
        | some u => rw [hx] at hb; simp at hb; subst hb; rfl
      split at hw
      · rename_i b hb
        rw [hb] at hr
        simp only [Option.some.injEq] at hw
        rw [hy b hr, ← hw]; rfl
      · rename_i b hb
        rw [hb] at hr
        simp only [Option.some.injEq] at hw
        rw [hy b hr, ← hw]; rfl
      · rename_i l hl
        rw [hl] at hr
        obtain ⟨ar, e, -⟩ := hr
        simp only [Option.some.injEq] at hw
        have : yielded ops arr j = none := by
          unfold yielded
          rw [ht]
          simp only [Option.bind_some]
          rw [Array.getD_eq_getD_getElem?] at e
          cases hx : arr[t]? with
          | none => rfl
          | some u => rw [hx] at e; simp at e; subst e; rfl
        rw [this, ← hw]; rfl
      · cases hw
    · cases hw

/-- what has been decided holds -/
def DecOk (r : RS) : Prop := ∀ d h, (d, h) ∈ r.dec → ∃ b, r.tmps.getD d (.tup []) = .a (.one (.bool b)) ∧ b = h

theorem lookup_mem {d : Tmp} {h : Bool} : ∀ {l : List (Tmp × Bool)}, l.lookup d = some h → (d, h) ∈ l
  | [], e => by cases e
  | (x, y) :: l, e => by
    simp only [List.lookup] at e
    split at e
    · rename_i hb
      simp only [Option.some.injEq] at e
      have : d = x := by simpa using hb
      simp [this, e]
    · exact List.mem_cons_of_mem _ (lookup_mem e)

theorem boolAt_obs {r r' : RS} {d : Tmp} {t : Bool} (hb : boolAt arR r d = some (t, r')) : ∀ q ∈ r.obs, q ∈ r'.obs := by
  unfold boolAt at hb
  (repeat' split at hb) <;> first | (cases hb; done) | (simp only [Option.some.injEq, Prod.mk.injEq] at hb; obtain ⟨rfl, rfl⟩ := hb; intro q hq; first | exact hq | exact List.mem_cons_of_mem _ hq)
theorem guardAt_obs {ops : Array Oper} {r r' : RS} {o : Oper} {t : Bool} (hb : guardAt arR ops r o = some (t, r')) : ∀ q ∈ r.obs, q ∈ r'.obs := by
  unfold guardAt at hb
  split at hb
  · simp only [Option.some.injEq, Prod.mk.injEq] at hb; obtain ⟨rfl, rfl⟩ := hb; exact fun q h => h
  · split at hb
    · split at hb
      · simp only [Option.some.injEq, Prod.mk.injEq] at hb; obtain ⟨rfl, rfl⟩ := hb; exact fun q h => h
      · split at hb
        · rename_i b r2 hb2
          simp only [Option.some.injEq, Prod.mk.injEq] at hb; obtain ⟨rfl, rfl⟩ := hb; exact boolAt_obs hb2
        · cases hb
    · cases hb
theorem evOp_obs {ti : TypeId → TI} {tbl : Tbl} {al : Nat → Bool} {nm : Nat} {o : Oper} {r r' : RS} {h : Heap} (he : evOp arR arR ti tbl al nm o r h = some r') : ∀ q ∈ r.obs, q ∈ r'.obs := by
  unfold evOp at he
  split at he
  · split at he
    · rename_i t r2 hb
      simp only [Option.some.injEq] at he
      subst he
      exact fun q hq => List.mem_append_right _ (boolAt_obs hb q hq)
    · cases he
  · split at he
    · simp only [Option.some.injEq] at he
      subst he
      exact fun q hq => List.mem_append_right _ hq
    · cases he
theorem runOps_obs {ti : TypeId → TI} {tbl : Tbl} {ops : Array Oper} : ∀ {l : List Oper} {r r' : RS}, runOps arR arR ti tbl ops l r = some r' → ∀ q ∈ r.obs, q ∈ r'.obs
  | [], r, r', h => by simp only [runOps, Option.some.injEq] at h; subst h; exact fun q h => h
  | o :: l, r, r', h => by
    simp only [runOps] at h
    split at h
    · cases h
    · rename_i r2 hg
      exact fun q hq => runOps_obs h q (List.mem_append_right _ (guardAt_obs hg q hq))
    · rename_i r2 hg
      split at h
      · rename_i r3 he
        exact fun q hq => runOps_obs h q (evOp_obs he q (guardAt_obs hg q hq))
      · cases h
theorem runDraw_obs {ti : TypeId → TI} {tbl : Tbl} {ops : Array Oper} {ws : Array Nat} {n0 : Nat} : ∀ {l : List Oper} {i : Nat} {evs : List (Nat × Nat)} {r r' : RS}, runDraw arR arR ti tbl ops ws n0 evs i l r = some r' → ∀ q ∈ r.obs, q ∈ r'.obs
  | [], i, evs, r, r', h => by simp only [runDraw, Option.some.injEq] at h; subst h; exact fun q h => h
  | o :: l, i, evs, r, r', h => by
    simp only [runDraw] at h
    split at h
    · cases h
    · rename_i r2 hg
      exact fun q hq => runDraw_obs h q (List.mem_append_right _ (guardAt_obs hg q hq))
    · rename_i r2 hg
      split at h
      · cases h
      split at h
      · rename_i r3 he
        exact fun q hq => runDraw_obs h q (evOp_obs he q (guardAt_obs hg q hq))
      · cases h


theorem perform_mono {al al' : Nat → Bool} {nm : Nat} {h : Heap} {p : Plan} {x : V × Heap × List Prop} (hal : ∀ n, al n = true → al' n = true) (hp : perform arR al nm h p = some x) : perform arR al' nm h p = some x := by
  cases p with
  | callh s args =>
    simp only [perform, performH] at hp ⊢
    by_cases ha : (reach h args).all al = true
    · have ha' : (reach h args).all al' = true := by
        rw [List.all_eq_true] at ha ⊢
        exact fun n hn => hal n (ha n hn)
      rw [if_pos ha] at hp; rw [if_pos ha']; exact hp
    · rw [if_neg ha] at hp; cases hp
  | val v => exact hp
  | load b off s ag =>
    simp only [perform] at hp ⊢
    by_cases ha : al b = true
    · rw [if_pos ha] at hp; rw [if_pos (hal b ha)]; exact hp
    · rw [if_neg ha] at hp; cases hp
  | store b off y s =>
    simp only [perform] at hp ⊢
    by_cases ha : al b = true
    · rw [if_pos ha] at hp; rw [if_pos (hal b ha)]; exact hp
    · rw [if_neg ha] at hp; cases hp
  | alloc g => exact hp
theorem stepOp_mono {ti : TypeId → TI} {tbl : Tbl} {al al' : Nat → Bool} {nm : Nat} {op : Op} {t : List V} {h : Heap} {x : V × Heap × List Prop} (hal : ∀ n, al n = true → al' n = true) (hp : stepOp arR arR ti tbl al nm op t h = some x) : stepOp arR arR ti tbl al' nm op t h = some x := by
  unfold stepOp at hp ⊢
  cases h1 : planOp arR arR ti tbl (opnd t) op with
  | none => rw [h1] at hp; cases hp
  | some pq =>
    rw [h1] at hp
    obtain ⟨p, qs⟩ := pq
    simp only at hp ⊢
    cases h2 : perform arR al nm h p with
    | none => rw [h2] at hp; cases hp
    | some y => rw [h2] at hp; rw [perform_mono hal h2]; exact hp
theorem evOp_mono {ti : TypeId → TI} {tbl : Tbl} {al al' : Nat → Bool} {nm : Nat} {o : Oper} {r r' : RS} {h : Heap} (hal : ∀ n, al n = true → al' n = true) (hp : evOp arR arR ti tbl al nm o r h = some r') : evOp arR arR ti tbl al' nm o r h = some r' := by
  unfold evOp at hp ⊢
  split at hp
  · exact hp
  · cases h1 : stepOp arR arR ti tbl al nm o.op r.tmps h with
    | none => rw [h1] at hp; cases hp
    | some y => rw [h1] at hp; rw [stepOp_mono hal h1]; exact hp
theorem okEv_calm {w : Nat} {e : Nat × Nat} (he : e.1 ≤ 1) : ∀ {l : List (Nat × Nat)} {i : Nat}, (∀ x ∈ l, x.1 ≤ 1) → okEv w e l i = true
  | [], i, _ => by cases i <;> rfl
  | x :: l, 0, _ => rfl
  | x :: l, i + 1, h => by
    have hx := h x (by simp)
    have : clsOk2 x e = true := by
      obtain ⟨x1, x2⟩ := x
      obtain ⟨e1, e2⟩ := e
      simp only at hx he
      have h1 : x1 = 0 ∨ x1 = 1 := by omega
      have h2 : e1 = 0 ∨ e1 = 1 := by omega
      rcases h1 with rfl | rfl <;> rcases h2 with rfl | rfl <;> rfl
    simp only [okEv, this, Bool.true_or, Bool.true_and]
    exact okEv_calm he fun y hy => h y (by simp [hy])
theorem runCalm_draw {ti : TypeId → TI} {tbl : Tbl} {ops : Array Oper} {ws : Array Nat} {n0 : Nat} : ∀ {l : List Oper} {i : Nat} {evs : List (Nat × Nat)} {r r' : RS}, (∀ x ∈ evs, x.1 ≤ 1) → runCalm arR arR ti tbl ops n0 i l r = some r' → runDraw arR arR ti tbl ops ws n0 evs i l r = some r'
  | [], i, evs, r, r', _, h => h
  | o :: l, i, evs, r, r', he, h => by
    simp only [runCalm] at h
    simp only [runDraw]
    cases hg : guardAt arR ops r o with
    | none => rw [hg] at h; cases h
    | some br =>
      obtain ⟨b, r2⟩ := br
      rw [hg] at h
      cases b with
      | false =>
        simp only at h ⊢
        refine runCalm_draw ?_ h
        intro x hx
        rcases List.mem_cons.1 hx with rfl | hx
        · exact Nat.zero_le 1
        · exact he x hx
      | true =>
        simp only at h ⊢
        by_cases hl : Nat.ble (lab tbl.hc r2.tmps o.op).1 1 = true
        · rw [if_pos hl] at h
          have hle : (lab tbl.hc r2.tmps o.op).1 ≤ 1 := Nat.le_of_ble_eq_true hl
          rw [okEv_calm hle he]
          simp only [Bool.not_true, Bool.false_eq_true, if_false]
          cases h1 : evOp arR arR ti tbl (fun n => decide (n < n0)) (n0 + i) o r2 r2.heap with
          | none => rw [h1] at h; cases h
          | some r3 =>
            rw [h1] at h
            rw [evOp_mono (al' := fun n => decide (n < n0) || (ws.getD i 0).testBit (n - n0)) (fun n hn => by simp only [Bool.or_eq_true]; exact .inl hn) h1]
            simp only at h ⊢
            refine runCalm_draw ?_ h
            intro x hx
            rcases List.mem_cons.1 hx with rfl | hx
            · exact hle
            · exact he x hx
        · rw [if_neg hl] at h; cases h
theorem runAny_draw {ti : TypeId → TI} {tbl : Tbl} {ops : Array Oper} {c : Cfg} {r : RS} (h : runAny arR arR ti tbl ops c true = some r) :
    runDraw arR arR ti tbl ops (waits ops) c.heap.length [] 0 ops.toList ⟨c.tmps, Go.Eng.pad ops c.heap, [], c.hints, c.obs⟩ = some r := by
  simp only [runAny] at h
  by_cases hc : ops.toList.all (fun o => calmOp tbl.hc o.op) = true
  · rw [if_pos hc] at h
    have hp : Go.Eng.pad ops c.heap = c.heap := by
      unfold Go.Eng.pad
      rw [if_neg]
      intro ha
      rw [Array.any_eq_true'] at ha
      obtain ⟨o, ho, ha⟩ := ha
      rw [List.all_eq_true] at hc
      have := hc o (by simpa using ho)
      unfold isAlloc at ha
      split at ha
      · rename_i e; rw [e] at this; cases this
      · rename_i e; rw [e] at this; cases this
      · cases ha
    rw [hp]
    exact runCalm_draw (by simp) h
  · rw [if_neg hc] at h; exact h


theorem boolAt_sem {r r' : RS} {d : Tmp} {t : Bool} (hb : boolAt arR r d = some (t, r')) (hd : DecOk r) (hq : ∀ q ∈ r'.obs, q) :
    (r.tmps.getD d (.tup []) = .a (.one (.lbool t)) ∨ r.tmps.getD d (.tup []) = .a (.one (.bool t))) ∧ r'.tmps = r.tmps ∧ r'.heap = r.heap ∧ DecOk r' := by
  unfold boolAt at hb
  split at hb
  · rename_i b hx
    simp only [Option.some.injEq, Prod.mk.injEq] at hb
    obtain ⟨rfl, rfl⟩ := hb
    exact ⟨.inl hx, rfl, rfl, hd⟩
  · rename_i b hx
    split at hb
    · rename_i h hl
      simp only [Option.some.injEq, Prod.mk.injEq] at hb
      obtain ⟨rfl, rfl⟩ := hb
      obtain ⟨b', hb', rfl⟩ := hd _ _ (lookup_mem hl)
      exact ⟨.inr hb', rfl, rfl, hd⟩
    · split at hb
      · rename_i h hs hh
        simp only [Option.some.injEq, Prod.mk.injEq] at hb
        obtain ⟨rfl, rfl⟩ := hb
        have hbh : b = h := hq (arR.eqb b h) (by simp)
        refine ⟨.inr (by rw [hx, hbh]), rfl, rfl, fun d' h' hm => ?_⟩
        simp only [List.mem_cons, Prod.mk.injEq] at hm
        rcases hm with ⟨rfl, rfl⟩ | hm
        · exact ⟨b, hx, hbh⟩
        · exact hd _ _ hm
      · cases hb
  · cases hb

theorem guardAt_sem {ops : Array Oper} {r r' : RS} {o : Oper} {t : Bool} (hb : guardAt arR ops r o = some (t, r')) (hd : DecOk r) (hq : ∀ q ∈ r'.obs, q) :
    wantedA ops r.tmps o = some t ∧ r'.tmps = r.tmps ∧ r'.heap = r.heap ∧ DecOk r' := by
  unfold guardAt at hb
  unfold wantedA
  split at hb
  · rename_i hg
    simp only [Option.some.injEq, Prod.mk.injEq] at hb
    obtain ⟨rfl, rfl⟩ := hb
    exact ⟨rfl, rfl, rfl, hd⟩
  · rename_i j want hg
    split at hb
    · rename_i d hdst
      split at hb
      · rename_i l hl
        simp only [Option.some.injEq, Prod.mk.injEq] at hb
        obtain ⟨rfl, rfl⟩ := hb
        exact ⟨by simp only [hl], rfl, rfl, hd⟩
      · split at hb
        · rename_i b r2 hb2
          simp only [Option.some.injEq, Prod.mk.injEq] at hb
          obtain ⟨rfl, rfl⟩ := hb
          obtain ⟨h1, h2, h3, h4⟩ := boolAt_sem hb2 hd hq
          refine ⟨?_, h2, h3, h4⟩
          rcases h1 with h1 | h1 <;> simp only [h1]
        · cases hb
    · cases hb

theorem put_later {r : RS} (hd : DecOk r) (dst : Option Tmp) (v : V) (h : Heap) (ps : List Prop) : DecOk (r.put dst v h ps) := by
  intro d t hm
  cases dst with
  | none => exact hd d t hm
  | some e =>
    simp only [RS.put, List.mem_filter] at hm
    obtain ⟨b, hb, rfl⟩ := hd d t hm.1
    have hne : e ≠ d := by
      intro hed
      subst hed
      have := hm.2
      simp at this
    refine ⟨b, ?_, rfl⟩
    simp only [RS.put, putV, List.getD_eq_getElem?_getD] at hb ⊢
    rw [List.getElem?_set_ne hne]
    exact hb

theorem evOp_sem {ti : TypeId → TI} {tbl : Tbl} {al : Nat → Bool} {nm : Nat} {o : Oper} {r r' : RS} {h : Heap} (he : evOp arR arR ti tbl al nm o r h = some r') (hd : DecOk r) (hq : ∀ q ∈ r'.obs, q) :
    ∃ v h' qs, stepOp arR arR ti tbl al nm o.op r.tmps h = some (v, h', qs) ∧ (∀ q ∈ qs, q) ∧ r'.tmps = putV r.tmps o.dst v ∧ r'.heap = h' ∧ DecOk r' := by
  unfold evOp at he
  split at he
  · rename_i c a b hop
    split at he
    · rename_i t r2 hb
      simp only [Option.some.injEq] at he
      subst he
      have hq2 : ∀ q ∈ r2.obs, q := fun q hm => hq q (by simp [RS.put, hm])
      obtain ⟨h1, h2, h3, h4⟩ := boolAt_sem hb hd hq2
      have h5 := put_later h4 o.dst (if t then opnd r.tmps a else opnd r.tmps b) h []
      refine ⟨if t then opnd r.tmps a else opnd r.tmps b, h, [], ?_, by simp, by simp [RS.put, h2], rfl, h5⟩
      rw [hop]
      have hc : opnd r.tmps (.tmp c) = r.tmps.getD c (.tup []) := rfl
      simp only [stepOp, planOp, plan, hc]
      rcases h1 with h1 | h1 <;> rw [h1] <;> simp [Cof, ok, perform]
    · cases he
  · split at he
    · rename_i v h' ps hs
      simp only [Option.some.injEq] at he
      subst he
      exact ⟨v, h', ps, hs, fun q hm => hq q (by simp [RS.put, hm]), rfl, rfl, put_later hd _ _ _ _⟩
    · cases he

theorem perform_len {al : Nat → Bool} {nm : Nat} {h h' : Heap} {p : Plan} {v : V} {rs : List Prop} (hf : perform arR al nm h p = some (v, h', rs)) : h'.length = h.length := by
  unfold perform at hf
  (repeat' split at hf) <;> first | (cases hf; done) | (simp only [Option.some.injEq, Prod.mk.injEq] at hf; obtain ⟨-, rfl, -⟩ := hf; simp [setMany_len])
theorem stepOp_len {ti : TypeId → TI} {tbl : Tbl} {al : Nat → Bool} {nm : Nat} {op : Op} {tmps : List V} {h h' : Heap} {v : V} {qs : List Prop} (hs : stepOp arR arR ti tbl al nm op tmps h = some (v, h', qs)) : h'.length = h.length := by
  unfold stepOp at hs
  split at hs
  · cases hs
  · split at hs
    · cases hs
    · rename_i hf
      simp only [Option.some.injEq, Prod.mk.injEq] at hs
      obtain ⟨-, rfl, -⟩ := hs
      exact perform_len hf

theorem HRel.pad {h : Heap} {w : World} (hH : HRel W0 m0 ρ h w) (k : Nat) : HRel W0 m0 ρ (h ++ List.replicate k none) w := by
  have key : ∀ (n : Nat) (b : Blk), (h ++ List.replicate k none)[n]? = some (some b) ↔ h[n]? = some (some b) := by
    intro n b
    by_cases hn : n < h.length
    · rw [List.getElem?_append_left hn]
    · rw [List.getElem?_append_right (by omega)]
      constructor
      · intro e
        have := List.mem_of_getElem? e
        simp at this
      · intro e
        have := (List.getElem?_eq_some_iff.1 e).1
        omega
  refine ⟨hH.os, hH.tape, hH.output, hH.size, fun r hr hn => hH.frame r hr (fun n b o a1 a2 a3 => hn n b o ((key n b).2 a1) a2 a3), fun n p hp => ?_, fun n b hb => hH.blk n b ((key n b).1 hb), fun n m r o o' b a1 a2 a3 a4 a5 => hH.sep n m r o o' b a1 ((key n b).1 a2) a3 a4 a5, hH.new⟩
  obtain ⟨b, hb⟩ := hH.dom n p hp
  exact ⟨b, (key n b).2 hb⟩

/-- THE OPERATIONS ONE BEHIND THE OTHER -/
theorem runOps_wp {ti : TypeId → TI} (hti : TIok P ti) {tbl : Tbl} (htbl : TblOk P tbl) {ops : Array Oper} {Q : Exit → Act → World → Prop} :
    ∀ (l : List Oper) (i : Nat) (r r' : RS) (ρ : Ren) (a : Act) (w : World), ops.toList.drop i = l → runOps arR arR ti tbl ops l r = some r' → DecOk r → (∀ q ∈ r'.obs, q) → m0 ≤ r.heap.length →
      TRel ρ r.tmps a.tmps → HRel W0 m0 ρ r.heap w → a.defers = [] →
      (DecOk r' → m0 ≤ r'.heap.length → ∀ ρ' a' w', Ext ρ ρ' → TRel ρ' r'.tmps a'.tmps → HRel W0 m0 ρ' r'.heap w' → a'.defers = [] → Q .normal a' w') →
      wpOps P ops Q (List.range' i (ops.size - i)) a w
  | [], i, r, r', ρ, a, w, hl, hr, hd, hq, hm, hT, hH, hdef, hQ => by
    simp only [runOps, Option.some.injEq] at hr
    subst hr
    have : ops.size - i = 0 := by
      have := congrArg List.length hl
      simp at this; omega
    rw [this]
    simpa [wpOps] using hQ hd hm ρ a w (Ext.refl ρ) hT hH hdef
  | o :: l, i, r, r', ρ, a, w, hl, hr, hd, hq, hm, hT, hH, hdef, hQ => by
    have hlt : i < ops.size := by
      have := congrArg List.length hl
      simp at this; omega
    have hoi : ops[i]? = some o := by
      have h1 : (ops.toList.drop i)[0]? = some o := by rw [hl]; rfl
      rw [List.getElem?_drop] at h1
      simpa using h1
    have hl' : ops.toList.drop (i + 1) = l := by
      rw [← List.drop_drop, hl]; rfl
    have hsplit : List.range' i (ops.size - i) = i :: List.range' (i + 1) (ops.size - (i + 1)) := by
      rw [show ops.size - i = (ops.size - (i + 1)) + 1 by omega, List.range'_succ]
    have hdefp : ∀ (v : Value), (a.put o.dst v).defers = [] := by
      intro v; cases o.dst <;> exact hdef
    rw [hsplit, wpOps_cons]
    simp only [runOps] at hr
    split at hr
    · cases hr
    · rename_i r2 hg
      have hq2 : ∀ q ∈ r2.obs, q := fun q h => hq q (runOps_obs hr q (List.mem_append_right _ h))
      obtain ⟨h1, h2, h3, h4⟩ := guardAt_sem hg hd hq2
      have hw := wanted_of hT h1
      unfold wpOp
      simp only [hoi, hw, Bool.false_eq_true, if_false]
      refine runOps_wp hti htbl l (i + 1) _ r' ρ _ w hl' hr (put_later h4 _ _ _ _) hq ?_ ?_ ?_ (hdefp _) hQ
      · simp only [RS.put]; rw [h3]; exact hm
      · simp only [RS.put]; rw [h2]; exact hT.put undef_rel
      · simp only [RS.put]; rw [h3]; exact hH
    · rename_i r2 hg
      split at hr
      · rename_i r3 he
        have hq3 : ∀ q ∈ r3.obs, q := fun q h => hq q (runOps_obs hr q h)
        have hq2 : ∀ q ∈ r2.obs, q := fun q h => hq3 q (evOp_obs he q h)
        obtain ⟨h1, h2, h3, h4⟩ := guardAt_sem hg hd hq2
        obtain ⟨v, h', qs, e1, e2, e3, e4, e5⟩ := evOp_sem he h4 hq3
        have hw := wanted_of hT h1
        unfold wpOp
        simp only [hoi, hw, if_true]
        refine .inl (stepOp_wp (W0 := W0) (m0 := m0) (ρ := ρ) hti htbl (by rw [h2]; exact hT) (h := if isAlloc o.op then r2.heap ++ [none] else r2.heap) ?_ e1 e2 ?_ ?_)
        · rw [h3]
          split
          · exact hH.pad 1
          · exact hH
        · intro hal
          rw [if_pos hal, h3]
          exact ⟨by simp, hm⟩
        · intro ρ' v' w' hx hh hv
          refine runOps_wp hti htbl l (i + 1) r3 r' ρ' _ w' hl' hr e5 hq ?_ ?_ ?_ (hdefp _) (fun d1 d2 ρ2 a2 w2 x2 => hQ d1 d2 ρ2 a2 w2 (hx.trans x2))
          · have := stepOp_len e1
            rw [e4, this]
            split
            · rw [h3]; simp; omega
            · rw [h3]; exact hm
          · rw [e3, h2]; exact (hT.ext hx).put hv
          · rw [e4]; exact hh
      · cases hr
end
end Go.Eng
