import Derived.Test.YtegcdnjihnpolaaEc
set_option linter.unusedSimpArgs false
set_option linter.unusedVariables false
namespace Go.Eng
open Go Go.RowKit

def res1 (ti : TypeId → TI) (tmps : List V) (h : Heap) : ResultVar → Option A
  | .tmp t => Aof (tmps.getD t (.tup []))
  | .cell a t => if !(ti t).known then none else match Cof (tmps.getD a (.tup [])) with
    | some (.ptr b off) => match perform arR (fun _ => true) 0 h (.load b off (ti t).size (ti t).agg) with
      | some (v, _, []) => Aof v
      | _ => none
    | _ => none

def resOf (ti : TypeId → TI) (tmps : List V) (h : Heap) (rs : List ResultVar) : Option V :=
  match rs.mapM (res1 ti tmps h) with
  | some [x] => some (.a x)
  | some l => some (.tup l)
  | none => none

section
variable {P : Program} {W0 : World} {m0 : Nat} {ρ : Ren}

theorem res1_sound {ti : TypeId → TI} (hti : TIok P ti) {tmps : List V} {arr : Array Value} {h : Heap} {w : World} (hT : TRel ρ tmps arr) (hH : HRel W0 m0 ρ h w) {r : ResultVar} {x : A} (hr : res1 ti tmps h r = some x) :
    ∃ u, (match r with
      | .tmp t => pure (arr.getD t undef)
      | .cell a t => do loadVar t (← asAddr (arr.getD a undef)) : Sem Value).run P w = .ok u w ∧ ARel ρ x u := by
  cases r with
  | tmp t => exact ⟨_, by simp only [Sem.run_pure], Aof_rel (hT.getD t) hr⟩
  | cell a t =>
    simp only [res1] at hr
    split at hr
    · cases hr
    · rename_i hk
      split at hr
      · rename_i b off hc
        have hp := Cof_rel (hT.getD a) hc
        split at hr
        · rename_i v h2 hf
          obtain ⟨-, v', hrun, hv⟩ := load_sound hti hH (by simpa using hk) hp hf (by simp)
          refine ⟨v', ?_, Aof_rel hv hr⟩
          obtain ⟨r, o, hρ, e⟩ := hp
          simp only [e] at hrun ⊢
          simpa [Instr.loadAt, Instr.sureAddr, asAddr, Sem.run_bind, Sem.run_pure] using hrun
        · cases hr
      · cases hr

theorem resList_sound {ti : TypeId → TI} (hti : TIok P ti) {tmps : List V} {arr : Array Value} {h : Heap} {w : World} (hT : TRel ρ tmps arr) (hH : HRel W0 m0 ρ h w) : ∀ {rs : List ResultVar} {xs : List A}, rs.mapM (res1 ti tmps h) = some xs →
    ∃ us : List Value, (rs.mapM (fun r => (match r with
      | .tmp t => pure (arr.getD t undef)
      | .cell a t => do loadVar t (← asAddr (arr.getD a undef)) : Sem Value))).run P w = .ok us w ∧ us.length = xs.length ∧ ∀ (j : Nat) (x : A), xs[j]? = some x → ∃ u : Value, us[j]? = some u ∧ ARel ρ x u
  | [], xs, hr => by
    simp at hr
    subst hr
    exact ⟨[], by simp [Sem.run_pure], rfl, fun j x hx => by simp at hx⟩
  | r :: rs, xs, hr => by
    simp only [List.mapM_cons, Option.bind_eq_bind, Option.pure_def] at hr
    cases hx : res1 ti tmps h r with
    | none => simp [hx] at hr
    | some x =>
      cases hl : rs.mapM (res1 ti tmps h) with
      | none => simp [hx, hl] at hr
      | some ys =>
        simp [hx, hl] at hr
        subst hr
        obtain ⟨u, h1, h2⟩ := res1_sound hti hT hH hx
        obtain ⟨us, g1, g2, g3⟩ := resList_sound hti hT hH hl
        refine ⟨u :: us, ?_, by simp [g2], fun j y hy => ?_⟩
        · simp only [List.mapM_cons, Sem.run_bind]
          rw [h1]
          simp only [Result.andThen_ok]
          rw [g1]
          simp only [Result.andThen_ok, Sem.run_pure]
        · cases j with
          | zero => simp at hy; subst hy; exact ⟨u, by simp, h2⟩
          | succ j => obtain ⟨u', a1, a2⟩ := g3 j y (by simpa using hy); exact ⟨u', by simpa using a1, a2⟩

theorem resOf_sound {ti : TypeId → TI} (hti : TIok P ti) {tmps : List V} {arr : Array Value} {h : Heap} {w : World} (hT : TRel ρ tmps arr) (hH : HRel W0 m0 ρ h w) {fn : Func} {v : V} (hr : resOf ti tmps h fn.results.toList = some v) :
    ∃ v', (results fn arr).run P w = .ok v' w ∧ VRel ρ v v' := by
  have key : ∀ xs, fn.results.toList.mapM (res1 ti tmps h) = some xs → ∃ us : List Value, us.length = xs.length ∧ (∀ (j : Nat) (x : A), xs[j]? = some x → ∃ u : Value, us[j]? = some u ∧ ARel ρ x u) ∧
      (results fn arr).run P w = .ok (if h : us.toArray.size = 1 then us.toArray[0] else .tuple us.toArray) w := by
    intro xs hxs
    obtain ⟨us, g1, g2, g3⟩ := resList_sound hti hT hH hxs
    refine ⟨us, g2, g3, ?_⟩
    unfold results
    rw [Sem.run_bind, Array.mapM_eq_mapM_toList]
    have : Sem.run P (List.toArray <$> fn.results.toList.mapM (fun r => (match r with
      | .tmp t => pure (arr.getD t undef)
      | .cell a t => do loadVar t (← asAddr (arr.getD a undef)) : Sem Value))) w = .ok us.toArray w := by
      change Sem.run P (List.mapM _ fn.results.toList >>= fun l => pure l.toArray) w = _
      rw [Sem.run_bind, g1]
      simp [Sem.run_pure]
    change (Sem.run P (List.toArray <$> fn.results.toList.mapM (fun r => (match r with
      | .tmp t => pure (arr.getD t undef)
      | .cell a t => do loadVar t (← asAddr (arr.getD a undef)) : Sem Value))) w).andThen _ = _
    rw [this]
    simp only [Result.andThen_ok, Sem.run_pure]
  unfold resOf at hr
  split at hr
  · rename_i x hx
    simp only [Option.some.injEq] at hr
    subst hr
    obtain ⟨us, h1, h2, h3⟩ := key _ hx
    obtain ⟨u, rfl⟩ : ∃ u, us = [u] := List.length_eq_one_iff.1 h1
    obtain ⟨u', a1, a2⟩ := h2 0 x rfl
    simp at a1
    subst a1
    exact ⟨u, by simpa using h3, a2⟩
  · rename_i l hne hx
    simp only [Option.some.injEq] at hr
    subst hr
    obtain ⟨us, h1, h2, h3⟩ := key _ hx
    have : us.length ≠ 1 := by
      intro e
      obtain ⟨x, rfl⟩ : ∃ x, l = [x] := List.length_eq_one_iff.1 (by omega)
      exact hne x rfl
    refine ⟨.tuple us.toArray, ?_, us.toArray, rfl, by simpa using h1, fun j x hx => ?_⟩
    · rw [h3, dif_neg (by simpa using this)]
    · obtain ⟨u, a1, a2⟩ := h2 j x hx
      exact ⟨u, by simpa using a1, a2⟩
  · cases hr

/-- the first names stand as they stood -/
def Agree (m0 : Nat) (ρ ρ' : Ren) : Prop := ∀ n p, n < m0 → ρ n = some p → ρ' n = some p
theorem Agree.refl (ρ : Ren) : Agree m0 ρ ρ := fun _ _ _ h => h
theorem Agree.ext {ρ ρ' ρ'' : Ren} (h : Ext ρ ρ') (k : Agree m0 ρ' ρ'') : Agree m0 ρ ρ'' := fun n p hn hp => k n p hn (h n p hp)

/-- what a call must come to -/
def Fin (P : Program) (W0 : World) (m0 : Nat) (fn : Func) (R : V → Heap → Prop) (ρ : Ren) (b : Frame) (cs : List Frame) (m : Machine) : Prop :=
  ∃ ρ' v v' h' w' tmps' todo', Steps P m (lone { b.at ⟨tmps', []⟩ todo' with mode := .returning } cs w') ∧ (results fn tmps').run P w' = .ok v' w' ∧ VRel ρ' v v' ∧ HRel W0 m0 ρ' h' w' ∧ R v h' ∧ Agree m0 ρ ρ'

/-- from this configuration on the call comes to what it must -/
def Run (P : Program) (hc : FuncId → Bool) (W0 : World) (m0 : Nat) (fn : Func) (R : V → Heap → Prop) (c : Cfg) : Prop :=
  itemsOk hc c.todo = true → m0 ≤ c.heap.length → ∀ (ρ : Ren) (tmps : Array Value) (w : World) (b : Frame) (cs : List Frame), TRel ρ c.tmps tmps → HRel W0 m0 ρ c.heap w → Fin P W0 m0 fn R ρ b cs (lone (b.at ⟨tmps, []⟩ c.todo) cs w)

theorem Fin.of_steps {fn : Func} {R : V → Heap → Prop} {b : Frame} {cs : List Frame} {m m' : Machine} (h : Steps P m m') (h' : Fin P W0 m0 fn R ρ b cs m') : Fin P W0 m0 fn R ρ b cs m :=
  let ⟨ρ', v, v', h'', w', tmps', todo', a, rest⟩ := h'; ⟨ρ', v, v', h'', w', tmps', todo', h.trans a, rest⟩

theorem Fin.ext {fn : Func} {R : V → Heap → Prop} {b : Frame} {cs : List Frame} {m : Machine} {ρ' : Ren} (h : Ext ρ ρ') (h' : Fin P W0 m0 fn R ρ' b cs m) : Fin P W0 m0 fn R ρ b cs m :=
  let ⟨ρ'', v, v', h'', w', tmps', todo', a1, a2, a3, a4, a5, a6⟩ := h'; ⟨ρ'', v, v', h'', w', tmps', todo', a1, a2, a3, a4, a5, a6.ext h⟩

theorem itemsOk_cons {hc : FuncId → Bool} {x : Item} {l : List Item} : itemsOk hc (x :: l) = (itemOk hc x && itemsOk hc l) := rfl

theorem exitTo_ok {hc : FuncId → Bool} {id : Nat} : ∀ {k k' : List Item}, exitTo id k = some k' → itemsOk hc k = true → itemsOk hc k' = true
  | [], k', h, _ => by cases h
  | x :: k, k', h, hok => by
    rw [itemsOk_cons, Bool.and_eq_true] at hok
    unfold exitTo at h
    split at h
    · rename_i id' k2 e
      simp only [List.cons.injEq] at e
      obtain ⟨rfl, rfl⟩ := e
      split at h
      · simp only [Option.some.injEq] at h; subst h; exact hok.2
      · exact exitTo_ok h hok.2
    · rename_i x' k2 _ e
      simp only [List.cons.injEq] at e
      obtain ⟨rfl, rfl⟩ := e
      exact exitTo_ok h hok.2
    · cases h

theorem region_len {ti : TypeId → TI} {tbl : Tbl} {ops : Array Oper} {draw : Bool} {c c' : Cfg} (hr : runRegion arR arR ti tbl ops draw c = some c') (hq : ∀ q ∈ c'.obs, q) : c.heap.length ≤ c'.heap.length := by
  unfold runRegion at hr
  split at hr
  · rename_i r hrun
    simp only [Option.some.injEq] at hr
    subst hr
    cases draw with
    | false => exact (runOps_len hrun (fun d h hm => by simp at hm) hq).2
    | true =>
      obtain ⟨-, c2, -⟩ := runDraw_chain (l := ops.toList) (i := 0) (by simp) rfl (runAny_draw hrun) (fun d h hm => by simp at hm) hq
      simp only at c2 ⊢
      rw [c2]
      exact pad_len _ _
  · cases hr

theorem region_obs {ti : TypeId → TI} {tbl : Tbl} {ops : Array Oper} {draw : Bool} {c c' : Cfg} (hr : runRegion arR arR ti tbl ops draw c = some c') : ∀ q ∈ c.obs, q ∈ c'.obs := by
  unfold runRegion at hr
  split at hr
  · rename_i r hrun
    simp only [Option.some.injEq] at hr
    subst hr
    cases draw with
    | false => exact runOps_obs hrun
    | true => exact runDraw_obs (runAny_draw hrun)
  · cases hr

theorem step_obs {ti : TypeId → TI} {tbl : Tbl} {c c' : Cfg} (h : Go.Eng.step arR arR ti tbl c = some c') : ∀ q ∈ c.obs, q ∈ c'.obs := by
  unfold Go.Eng.step at h
  split at h
  all_goals first
    | (cases h; done)
    | (simp only [Option.some.injEq] at h; subst h; exact fun q hq => hq)
    | skip
  · split at h
    · simp only [Option.some.injEq] at h; subst h; exact fun q hq => hq
    · split at h
      · simp only [Option.some.injEq] at h; subst h; exact fun q hq => List.mem_cons_of_mem _ hq
      · cases h
    · cases h
  · split at h
    · simp only [Option.some.injEq] at h; subst h; exact fun q hq => hq
    · cases h
  · split at h
    · rename_i c2 hr
      simp only [Option.some.injEq] at h; subst h; exact (region_obs hr : ∀ q ∈ c.obs, q ∈ c2.obs)
    · cases h

/-- ONE STEP -/
theorem step_run {ti : TypeId → TI} (hm : P.follows .mixedOrders = true) (hti : TIok P ti) {tbl : Tbl} (htbl : TblOk P tbl) {fn : Func} {R : V → Heap → Prop} {c c' : Cfg} (h : Go.Eng.step arR arR ti tbl c = some c') (hq : ∀ q ∈ c'.obs, q)
    (hc : Run P tbl.hc W0 m0 fn R c') : Run P tbl.hc W0 m0 fn R c := by
  obtain ⟨tmps0, heap0, todo0, obs0, hints0⟩ := c
  intro hok hm0 ρ tmps w b cs hT hH
  simp only at hok hm0 hT hH ⊢
  unfold Go.Eng.step at h
  simp only at h
  split at h
  all_goals first
    | (cases h; done)
    | skip
  case h_3 k => 
    simp only [Option.some.injEq] at h; subst h
    exact .of_steps (.one step_skip) (hc (by rw [itemsOk_cons, Bool.and_eq_true] at hok; exact hok.2) hm0 ρ tmps w b cs hT hH)
  case h_4 l k =>
    simp only [Option.some.injEq] at h; subst h
    exact .of_steps (.one step_label) (hc (by rw [itemsOk_cons, Bool.and_eq_true] at hok; exact hok.2) hm0 ρ tmps w b cs hT hH)
  case h_5 i k =>
    simp only [Option.some.injEq] at h; subst h
    exact .of_steps (.one step_inBlock) (hc (by rw [itemsOk_cons, Bool.and_eq_true] at hok; exact hok.2) hm0 ρ tmps w b cs hT hH)
  case h_6 x y k =>
    simp only [Option.some.injEq] at h; subst h
    refine .of_steps (.one step_seq) (hc ?_ hm0 ρ tmps w b cs hT hH)
    simp only [itemsOk_cons, itemOk, codeOk, Bool.and_eq_true] at hok ⊢
    exact ⟨hok.1.1, hok.1.2, hok.2⟩
  case h_7 x y z k =>
    simp only [itemsOk_cons, itemOk, codeOk, Bool.and_eq_true] at hok
    have fin : ∀ t : Bool, CRel ρ (.lbool t) ((⟨tmps, []⟩ : Act).eval x) → (∀ obs hints, Run P tbl.hc W0 m0 fn R ⟨tmps0, heap0, .code (if t then y else z) :: k, obs, hints⟩ → Fin P W0 m0 fn R ρ b cs (lone (b.at ⟨tmps, []⟩ (.code (.cond x y z) :: k)) cs w)) := by
      intro t ht obs hints hrun
      refine .of_steps (.one (step_cond (t := t) ht)) (hrun ?_ hm0 ρ tmps w b cs hT hH)
      cases t <;> simp only [itemsOk_cons, itemOk, Bool.and_eq_true]
      · exact ⟨hok.1.2, hok.2⟩
      · exact ⟨hok.1.1, hok.2⟩
    split at h
    · rename_i t ht
      simp only [Option.some.injEq] at h; subst h
      exact fin t (Cof_rel (VRel.opnd hT x ⟨tmps, []⟩ rfl) ht) _ _ hc
    · rename_i t ht
      split at h
      · rename_i hh hs
        simp only [Option.some.injEq] at h; subst h
        have he : t = hh := hq (arR.eqb t hh) (by simp)
        have hr := Cof_rel (VRel.opnd hT x ⟨tmps, []⟩ rfl) ht
        refine fin hh ?_ _ _ hc
        rw [← he]; exact hr
      · cases h
    · cases h
  case h_8 id y k =>
    simp only [Option.some.injEq] at h; subst h
    refine .of_steps (.one step_block) (hc ?_ hm0 ρ tmps w b cs hT hH)
    simp only [itemsOk_cons, itemOk, codeOk, Bool.and_eq_true] at hok ⊢
    exact ⟨hok.1, trivial, hok.2⟩
  case h_9 y k =>
    simp only [Option.some.injEq] at h; subst h
    refine .of_steps (.one step_loop) (hc ?_ hm0 ρ tmps w b cs hT hH)
    simp only [itemsOk_cons, itemOk, codeOk, Bool.and_eq_true] at hok ⊢
    exact ⟨hok.1, hok.1, hok.2⟩
  case h_10 y k =>
    simp only [Option.some.injEq] at h; subst h
    refine .of_steps (.one step_inLoop) (hc ?_ hm0 ρ tmps w b cs hT hH)
    simp only [itemsOk_cons, itemOk, codeOk, Bool.and_eq_true] at hok ⊢
    exact ⟨hok.1, hok.1, hok.2⟩
  case h_11 id k =>
    split at h
    · rename_i k' hk
      simp only [Option.some.injEq] at h; subst h
      rw [itemsOk_cons, Bool.and_eq_true] at hok
      exact .of_steps (.one (step_exit hk)) (hc (exitTo_ok hk hok.2) hm0 ρ tmps w b cs hT hH)
    · cases h
  case h_12 id ops draw k =>
    split at h
    · rename_i c2 hr
      simp only [Option.some.injEq] at h; subst h
      simp only [itemsOk_cons, itemOk, codeOk, Bool.and_eq_true] at hok
      have hw := region_wp (P := P) (W0 := W0) (m0 := m0) (ρ := ρ) (id := id) (a := ⟨tmps, []⟩) (w := w) (Q := fun e a' w' => e = .normal ∧ Fin P W0 m0 fn R ρ b cs (lone (b.at a' k) cs w')) hm hti htbl hok.1 hr hq hm0 hT hH rfl
        (fun ρ' a' w' hx h1 h2 h3 => ⟨rfl, by
          obtain ⟨t', d'⟩ := a'
          simp only at h3
          subst h3
          exact .ext hx (hc hok.2 (Nat.le_trans hm0 (region_len hr hq)) ρ' t' w' b cs h1 h2)⟩)
      obtain ⟨e, a', w', ⟨rfl, hf⟩, harr⟩ := hw b k cs
      exact .of_steps harr hf
    · cases h

theorem exec_obs {ti : TypeId → TI} {tbl : Tbl} {d : Nat} {u : Bool} : ∀ {n : Nat} {c : Cfg}, ∀ q ∈ c.obs, q ∈ (exec arR arR ti tbl d u n c).obs
  | 0, c, q, h => h
  | n + 1, c, q, h => by
    unfold exec
    split
    · exact h
    · split
      · exact h
      · split
        · exact h
        · rename_i c' hs
          exact exec_obs q (step_obs hs q h)

/-- MANY STEPS -/
theorem exec_run {ti : TypeId → TI} (hm : P.follows .mixedOrders = true) (hti : TIok P ti) {tbl : Tbl} (htbl : TblOk P tbl) {fn : Func} {R : V → Heap → Prop} (d : Nat) (u : Bool) : ∀ (n : Nat) (c : Cfg),
    (∀ q ∈ (exec arR arR ti tbl d u n c).obs, q) ∧ Run P tbl.hc W0 m0 fn R (exec arR arR ti tbl d u n c) → Run P tbl.hc W0 m0 fn R c
  | 0, c, h => h.2
  | n + 1, c, h => by
    unfold exec at h
    split at h
    · exact h.2
    · split at h
      · exact h.2
      · split at h
        · exact h.2
        · rename_i c' hs
          refine step_run hm hti htbl hs (fun q hq => h.1 q (exec_obs q hq)) (exec_run hm hti htbl d u n c' h)

/-- the end -/
theorem Run.ret {tbl : Tbl} {ti : TypeId → TI} (hti : TIok P ti) {fn : Func} {R : V → Heap → Prop} {c : Cfg} {k : List Item} (hk : c.todo = .code .ret :: k) {v : V} (hr : resOf ti c.tmps c.heap fn.results.toList = some v) (hR : R v c.heap) : Run P tbl.hc W0 m0 fn R c := by
  intro _ _ ρ tmps w b cs hT hH
  obtain ⟨v', h1, h2⟩ := resOf_sound hti hT hH hr
  exact ⟨ρ, v, v', c.heap, w, tmps, c.todo, .one (by rw [hk]; exact step_ret), h1, h2, hH, hR, Agree.refl ρ⟩

theorem Run.fin {tbl : Tbl} {ti : TypeId → TI} (hti : TIok P ti) {fn : Func} {R : V → Heap → Prop} {c : Cfg} (hk : c.todo = []) {v : V} (hr : resOf ti c.tmps c.heap fn.results.toList = some v) (hR : R v c.heap) : Run P tbl.hc W0 m0 fn R c := by
  intro _ _ ρ tmps w b cs hT hH
  obtain ⟨v', h1, h2⟩ := resOf_sound hti hT hH hr
  exact ⟨ρ, v, v', c.heap, w, tmps, c.todo, .one (by rw [hk]; exact step_end), h1, h2, hH, hR, Agree.refl ρ⟩

end
end Go.Eng
