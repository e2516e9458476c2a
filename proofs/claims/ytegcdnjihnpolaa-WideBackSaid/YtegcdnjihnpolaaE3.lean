import Derived.Test.YtegcdnjihnpolaaE2
set_option linter.unusedSimpArgs false
set_option linter.unusedVariables false
namespace Go.Eng
open Go
section
variable {P : Program} {ρ : Ren}

theorem VRel.one {c : C} {u : Value} : VRel ρ (.a (.one c)) u = CRel ρ c u := rfl
theorem VRel.agg {g : G} {u : Value} : VRel ρ (.a (.agg g)) u = ∃ arr, u = .agg arr ∧ GRel ρ g arr := rfl

theorem equal_eq (t : TypeId) (a b : Value) : ∃ d, Op.equal t a b = Op.equalIn (d + 1) t a b := ⟨9999, rfl⟩

/-- the operands' equality, when it is planned -/
theorem run_planEq {ti : TI} {t : TypeId} (hti : ti.known = true → TOk P t ti) {x y c : C} {a b : Value} (hx : CRel ρ x a) (hy : CRel ρ y b) (hp : planEq arR ti x y = some c) (w : World) :
    ∃ r : Bool, (Op.equal t a b).run P w = .ok r w ∧ CRel ρ c (.bool r) ∧ CRel ρ (c.neg arR) (.bool (!r)) ∧ (∀ op X Y, (eqGuard op t X Y a b).run P w = .ok () w) ∧
      binOp .eql t a b = (do pure (.bool (← Op.equal t a b))) ∧ binOp .neq t a b = (do pure (.bool (!(← Op.equal t a b)))) := by
  unfold planEq at hp
  split at hp
  · cases hp
  · rename_i hk
    have hk : ti.known = true := by simpa using hk
    obtain ⟨d, hd, htd, _⟩ := (hti hk).und
    obtain ⟨D, hD⟩ := equal_eq t a b
    rw [hD]
    split at hp
    all_goals (rename_i htt)
    all_goals (first | (simp only [Option.some.injEq] at hp; subst hp) | cases hp)
    all_goals (rw [htt] at htd; cases d <;> simp only [TDRel] at htd)
    all_goals (simp only [CRel] at hx hy)
    all_goals (try (obtain ⟨r, o, -, rfl⟩ := hx))
    all_goals (try (obtain ⟨r', o', -, rfl⟩ := hy))
    all_goals (try subst hx)
    all_goals (try subst hy)
    all_goals
      refine ⟨_, by simp [Op.equalIn, Sem.run_bind, Go.Eng.run_underlying hd, Sem.run_pure]; rfl, ?_, ?_, ?_, ?_⟩
    all_goals first
      | (intro op X Y; cases op <;> simp [eqGuard, Sem.run_pure])
      | (simp only [← hD]; exact ⟨by simp [binOp], by simp [binOp]⟩)
      | simp [CRel, C.neg, arR]

theorem mapM_some_length {α β : Type} {f : α → Option β} : ∀ {l : List α} {r : List β}, l.mapM f = some r → r.length = l.length
  | [], r, h => by simp at h; subst h; rfl
  | x :: l, r, h => by
    simp only [List.mapM_cons, Option.bind_eq_bind, Option.pure_def] at h
    cases hx : f x with
    | none => simp [hx] at h
    | some y =>
      cases hl : l.mapM f with
      | none => simp [hx, hl] at h
      | some ys =>
        simp [hx, hl] at h
        subst h
        simp [mapM_some_length hl]
theorem mapM_some_get {α β : Type} {f : α → Option β} : ∀ {l : List α} {r : List β}, l.mapM f = some r → ∀ (j : Nat) x, l[j]? = some x → ∃ y, f x = some y ∧ r[j]? = some y
  | [], r, h, j, x, hj => by simp at hj
  | a :: l, r, h, j, x, hj => by
    simp only [List.mapM_cons, Option.bind_eq_bind, Option.pure_def] at h
    cases hx : f a with
    | none => simp [hx] at h
    | some y =>
      cases hl : l.mapM f with
      | none => simp [hx, hl] at h
      | some ys =>
        simp [hx, hl] at h
        subst h
        cases j with
        | zero => simp at hj; subst hj; exact ⟨y, hx, by simp⟩
        | succ j => simpa using mapM_some_get hl j x (by simpa using hj)

/-- the numbers of an aggregate lie in the model's value -/
theorem numsOf_rel {k : IntKind} {g : G} {l : List Int} {arr : Array Value} (hg : GRel ρ g arr) (h : g.numsOf k = some l) :
    arr.size = l.length ∧ ∀ (j : Nat) n, l[j]? = some n → arr[j]? = some (.int k n) := by
  unfold G.numsOf at h
  split at h
  · rename_i cs
    have hl := mapM_some_length h
    refine ⟨by rw [hg.1]; exact hl.symm, fun j n hj => ?_⟩
    have hjl : j < cs.length := by
      have := (List.getElem?_eq_some_iff.1 hj).1; omega
    obtain ⟨y, hy, hr⟩ := mapM_some_get h j cs[j] (List.getElem?_eq_getElem hjl)
    obtain ⟨v, hv, hc⟩ := hg.2 j cs[j] (List.getElem?_eq_getElem hjl)
    split at hy
    · rename_i k' n' l' hnum
      split at hy
      · rename_i hk
        have := kindEq_eq hk
        subst this
        simp only [Option.some.injEq] at hy
        subst hy
        rw [hr] at hj
        simp only [Option.some.injEq] at hj
        subst hj
        rw [hv, hc.of_num hnum]
      · cases hy
    · cases hy
  · rename_i k' n f
    split at h
    · rename_i hk
      have := kindEq_eq hk
      subst this
      simp only [Option.some.injEq] at h
      subst h
      refine ⟨by rw [hg.1]; simp [G.len, N.val], fun j m hj => ?_⟩
      have hjn : j < n := by
        have := (List.getElem?_eq_some_iff.1 hj).1; simpa using this
      obtain ⟨v, hv, hc⟩ := hg.2 j (.int k (f j)) (by simp [G.at, N.val, hjn])
      simp [hjn] at hj
      subst hj
      rw [hv, show v = .int k (f j) from hc]
    · cases h
  · cases h

theorem run_part_int {e : TypeId} {d : TypeDesc} (hd : P.underlying e = some d) (ha : aggOf d = false) {arr : Array Value} {j : Nat} {v : Value} (h : arr[j]? = some v) (w : World) : (part e arr j).run P w = .ok v w := by
  simp [part, Sem.run_bind, run_isAgg hd, ha, h, Sem.run_pure]

theorem run_equal_ints {t e : TypeId} {k : IntKind} {n : Nat} {i : TypeInfo} (ht : P.underlying t = some (.array n e)) (he : P.underlying e = some (.int k)) (hi : P.info? e = some i) (hs : i.size = 1)
    {xs ys : Array Value} {l l' : List Int} (hx : ∀ (j : Nat) n, l[j]? = some n → xs[j]? = some (.int k n)) (hy : ∀ (j : Nat) n, l'[j]? = some n → ys[j]? = some (.int k n))
    (hl : l.length = n) (hl' : l'.length = n) (w : World) : (Op.equal t (.agg xs) (.agg ys)).run P w = .ok (l == l') w := by
  obtain ⟨D, hD⟩ : ∃ d, Op.equal t (.agg xs) (.agg ys) = Op.equalIn (d + 1 + 1) t (.agg xs) (.agg ys) := ⟨9998, rfl⟩
  rw [hD, Op.equalIn]
  simp only [Sem.run_bind, Go.Eng.run_underlying ht, Result.andThen_ok, run_sizeOf hi, hs, Nat.mul_one]
  simp only [Std.Legacy.Range.forIn_eq_forIn_range', Std.Legacy.Range.size, Nat.sub_zero, Nat.add_one_sub_one, Nat.div_one]
  have key : ∀ (m s : Nat) (a b : List Int), a.length = m → b.length = m → (∀ (j : Nat) n, a[j]? = some n → xs[s + j]? = some (.int k n)) → (∀ (j : Nat) n, b[j]? = some n → ys[s + j]? = some (.int k n)) →
      ∃ st : Option Bool × Unit, (forIn (m := Sem) (List.range' s m) ((none, ()) : Option Bool × Unit) fun i _ => do
        let x ← part e xs i
        let y ← part e ys i
        let r ← Op.equalIn (D + 1) e x y
        if (!r) = true then pure (ForInStep.done (some false, ())) else pure (ForInStep.yield (none, ()))).run P w = .ok st w ∧ (if a = b then st.fst = none else st.fst = some false) := by
    intro m
    induction m with
    | zero =>
      intro s a b ha hb _ _
      have : a = [] := List.length_eq_zero_iff.1 ha
      have : b = [] := List.length_eq_zero_iff.1 hb
      subst a b
      exact ⟨(none, ()), by simp [Sem.run_pure], by simp⟩
    | succ m ih =>
      intro s a b ha hb h1 h2
      cases a with
      | nil => simp at ha
      | cons p a =>
        cases b with
        | nil => simp at hb
        | cons q b =>
          have e1 := h1 0 p (by simp)
          have e2 := h2 0 q (by simp)
          simp only [Nat.add_zero] at e1 e2
          have r1 := run_part_int he rfl e1 w
          have r2 := run_part_int he rfl e2 w
          have r3 : (Op.equalIn (D + 1) e (.int k p) (.int k q)).run P w = .ok (p == q) w := by
            simp [Op.equalIn, Sem.run_bind, Go.Eng.run_underlying he, Sem.run_pure]
          simp only [List.range'_succ, List.forIn_cons, Sem.run_bind, r1, r2, r3, Result.andThen_ok]
          by_cases hpq : p = q
          · subst hpq
            obtain ⟨st, hst, hres⟩ := ih (s + 1) a b (by simpa using ha) (by simpa using hb)
              (fun j n hj => by have := h1 (j + 1) n (by simpa using hj); rwa [show s + 1 + j = s + (j + 1) by omega])
              (fun j n hj => by have := h2 (j + 1) n (by simpa using hj); rwa [show s + 1 + j = s + (j + 1) by omega])
            refine ⟨st, ?_, by simpa using hres⟩
            simpa [Sem.run_pure] using hst
          · refine ⟨(some false, ()), ?_, by simp [hpq]⟩
            have : (p == q) = false := by simpa using hpq
            simp [this, Sem.run_pure]
  obtain ⟨st, hst, hres⟩ := key n 0 l l' hl hl' (fun j n hj => by simpa using hx j n hj) (fun j n hj => by simpa using hy j n hj)
  rw [hst, Result.andThen_ok]
  by_cases h : l = l'
  · rw [if_pos h] at hres
    simp [hres, h, Sem.run_pure]
  · rw [if_neg h] at hres
    have : (l == l') = false := by simpa using h
    simp [hres, this, Sem.run_pure]

/-- '==' of aggregates, when it is planned -/
theorem run_planAgg {ti : TypeId → TI} (hti : TIok P ti) {t : TypeId} {g g' : G} {c : C} {xs ys : Array Value} (hx : GRel ρ g xs) (hy : GRel ρ g' ys) (hp : planAgg arR ti t g g' = some c) (w : World) :
    ∃ r : Bool, (Op.equal t (.agg xs) (.agg ys)).run P w = .ok r w ∧ CRel ρ c (.bool r) ∧ CRel ρ (c.neg arR) (.bool (!r)) ∧ (∀ op X Y, (eqGuard op t X Y (.agg xs) (.agg ys)).run P w = .ok () w) := by
  unfold planAgg at hp
  split at hp
  · cases hp
  · rename_i hk
    have hk : (ti t).known = true ∧ (ti t).plain = true := by simpa using hk
    have T := hti t hk.1
    obtain ⟨d, hd, htd, _⟩ := T.und
    split at hp
    · rename_i n e htt
      split at hp
      · cases hp
      · rename_i hke
        have hke : ((ti e).known = true ∧ (ti e).size = 1) ∧ (ti e).agg = false := by simpa using hke
        split at hp
        · rename_i k hek
          have E := hti e hke.1.1
          obtain ⟨d', hd', htd', hag⟩ := E.und
          obtain ⟨i, hi, his, _⟩ := E.info
          rw [htt] at htd; cases d <;> simp only [TDRel] at htd
          rw [hek] at htd'; cases d' <;> simp only [TDRel] at htd'
          obtain ⟨rfl, rfl⟩ := htd
          subst htd'
          split at hp
          · rename_i l l' hl hl'
            split at hp
            · rename_i hlen
              simp only [Option.some.injEq] at hp
              subst hp
              refine ⟨_, run_equal_ints hd hd' hi (his.trans hke.1.2) (numsOf_rel hx hl).2 (numsOf_rel hy hl').2 hlen.1 hlen.2 w, ?_, ?_, ?_⟩
              · simp [CRel, arR]
              · simp [CRel, C.neg, arR]
              · intro op X Y
                have := T.plain hk.2
                cases op <;> simp [eqGuard, program, Sem.run_bind, Sem.run, this, Sem.run_pure]
            · cases hp
          · cases hp
        · cases hp
    · cases hp
end
end Go.Eng
