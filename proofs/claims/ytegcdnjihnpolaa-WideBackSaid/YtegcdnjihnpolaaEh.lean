import Derived.Test.YtegcdnjihnpolaaEe
set_option linter.unusedSimpArgs false
set_option linter.unusedVariables false
namespace Go.Eng
open Go
theorem runCalm_append {ar real : Ar} {ti : TypeId → TI} {tbl : Tbl} {ops : Array Oper} {n0 : Nat} : ∀ {l1 : List Oper} {l2 : List Oper} {i : Nat} {r r1 : RS}, runCalm ar real ti tbl ops n0 i l1 r = some r1 →
    runCalm ar real ti tbl ops n0 i (l1 ++ l2) r = runCalm ar real ti tbl ops n0 (i + l1.length) l2 r1
  | [], l2, i, r, r1, h => by
    simp only [runCalm, Option.some.injEq] at h
    subst h; rfl
  | o :: l1, l2, i, r, r1, h => by
    simp only [runCalm] at h
    simp only [List.cons_append, runCalm, List.length_cons]
    cases hg : guardAt ar ops r o with
    | none => rw [hg] at h; cases h
    | some br =>
      obtain ⟨b, r2⟩ := br
      rw [hg] at h
      cases b with
      | false =>
        simp only at h ⊢
        rw [runCalm_append h, Nat.add_assoc, Nat.add_comm 1]
      | true =>
        simp only at h ⊢
        by_cases hl : Nat.ble (lab tbl.hc r2.tmps o.op).1 1 = true
        · rw [if_pos hl] at h
          rw [if_pos hl]
          cases h1 : evOp ar real ti tbl (fun n => decide (n < n0)) (n0 + i) o r2 r2.heap with
          | none => rw [h1] at h; cases h
          | some r3 =>
            rw [h1] at h
            simp only at h ⊢
            rw [runCalm_append h, Nat.add_assoc, Nat.add_comm 1]
        · rw [if_neg hl] at h; cases h

/-- a calm region in two parts: each is evaluated by itself -/
theorem exec_calm {ar real : Ar} {ti : TypeId → TI} {tbl : Tbl} {d n : Nat} {u : Bool} (k : Nat) {id : Nat} {ops : Array Oper} {K : List Item} {t : List V} {h : Heap} {o : List Prop} {hs : List Bool} {r1 r2 : RS} {c : Cfg}
    (hc : ops.toList.all (fun o => calmOp tbl.hc o.op) = true) (hk : (ops.toList.take k).length = k)
    (h1 : runCalm ar real ti tbl ops h.length 0 (ops.toList.take k) ⟨t, h, [], hs, o⟩ = some r1)
    (h2 : runCalm ar real ti tbl ops h.length k (ops.toList.drop k) r1 = some r2)
    (h3 : exec ar real ti tbl d u n ⟨applyDec r2.dec r2.tmps, r2.heap, K, r2.obs, r2.hints⟩ = c) :
    exec ar real ti tbl d u (n + 1) ⟨t, h, .code (.region id ops true) :: K, o, hs⟩ = c := by
  have e : runCalm ar real ti tbl ops h.length 0 ops.toList ⟨t, h, [], hs, o⟩ = some r2 := by
    have := runCalm_append (l2 := ops.toList.drop k) h1
    rw [List.take_append_drop] at this
    rw [this, hk, Nat.zero_add, h2]
  rw [← h3]
  simp only [exec, isBack, isLoop, Bool.and_false, Bool.false_eq_true, if_false, step, runRegion, runAny, if_pos hc, e]
theorem exec_add {ar real : Ar} {ti : TypeId → TI} {tbl : Tbl} {d : Nat} {u : Bool} (b : Nat) : ∀ (a : Nat) (c : Cfg), exec ar real ti tbl d u (a + b) c = exec ar real ti tbl d u b (exec ar real ti tbl d u a c)
  | 0, c => by rw [Nat.zero_add]; rfl
  | a + 1, c => by
    have stop : ∀ {c : Cfg}, (isBack d c.todo = true ∨ (!u && isLoop c.todo) = true ∨ step ar real ti tbl c = none) → ∀ n, exec ar real ti tbl d u n c = c := by
      intro c h n
      cases n with
      | zero => rfl
      | succ n =>
        simp only [exec]
        by_cases h1 : isBack d c.todo = true
        · rw [if_pos h1]
        · by_cases h2 : (!u && isLoop c.todo) = true
          · rw [if_neg h1, if_pos h2]
          · rw [if_neg h1, if_neg h2]
            rcases h with h | h | h
            · exact absurd h h1
            · exact absurd h h2
            · rw [h]
    rw [Nat.add_right_comm]
    by_cases h1 : isBack d c.todo = true
    · rw [stop (.inl h1), stop (.inl h1), stop (.inl h1)]
    · by_cases h2 : (!u && isLoop c.todo) = true
      · rw [stop (.inr (.inl h2)), stop (.inr (.inl h2)), stop (.inr (.inl h2))]
      · cases h3 : step ar real ti tbl c with
        | none => rw [stop (.inr (.inr h3)), stop (.inr (.inr h3)), stop (.inr (.inr h3))]
        | some c' =>
          have e : ∀ n, exec ar real ti tbl d u (n + 1) c = exec ar real ti tbl d u n c' := by
            intro n
            simp only [exec]
            rw [if_neg h1, if_neg h2, h3]
          rw [e, e, exec_add b a c']
/-- an evaluation in two parts -/
theorem exec_stage {ar real : Ar} {ti : TypeId → TI} {tbl : Tbl} {d a b : Nat} {u : Bool} {c c1 c2 : Cfg} (h1 : exec ar real ti tbl d u a c = c1) (h2 : exec ar real ti tbl d u b c1 = c2) : exec ar real ti tbl d u (a + b) c = c2 := by
  rw [exec_add, h1, h2]
end Go.Eng
