import Derived.Test.YtegcdnjihnpolaaE8
set_option linter.unusedSimpArgs false
set_option linter.unusedVariables false
namespace Go.Eng
open Go Go.RowKit

def res1 (ti : TypeId → TI) (tmps : List V) (h : Heap) : ResultVar → Option A
  | .tmp t => Aof (tmps.getD t (.tup []))
  | .cell a t => if !(ti t).known then none else match Cof (tmps.getD a (.tup [])) with
    | some (.ptr b off) => match perform arR (fun _ => true) 0 h (.load b off (ti t).size (ti t).agg) with
      | some (v, _, []) => Aof v
      | _ => none
    | _ => none

def resOf (ti : TypeId → TI) (tmps : List V) (h : Heap) (rs : List ResultVar) : Option V :=
  match rs.mapM (res1 ti tmps h) with
  | some [x] => some (.a x)
  | some l => some (.tup l)
  | none => none

section
variable {P : Program} {W0 : World} {m0 : Nat} {ρ : Ren}

theorem res1_sound {ti : TypeId → TI} (hti : TIok P ti) {tmps : List V} {arr : Array Value} {h : Heap} {w : World} (hT : TRel ρ tmps arr) (hH : HRel W0 m0 ρ h w) {r : ResultVar} {x : A} (hr : res1 ti tmps h r = some x) :
    ∃ u, (match r with
      | .tmp t => pure (arr.getD t undef)
      | .cell a t => do loadVar t (← asAddr (arr.getD a undef)) : Sem Value).run P w = .ok u w ∧ ARel ρ x u := by
  cases r with
  | tmp t => exact ⟨_, by simp only [Sem.run_pure], Aof_rel (hT.getD t) hr⟩
  | cell a t =>
    simp only [res1] at hr
    split at hr
    · cases hr
    · rename_i hk
      split at hr
      · rename_i b off hc
        have hp := Cof_rel (hT.getD a) hc
        split at hr
        · rename_i v h2 hf
          obtain ⟨-, v', hrun, hv⟩ := load_sound hti hH (by simpa using hk) hp hf (by simp)
          refine ⟨v', ?_, Aof_rel hv hr⟩
          obtain ⟨r, o, hρ, e⟩ := hp
          simp only [e] at hrun ⊢
          simpa [Instr.loadAt, Instr.sureAddr, asAddr, Sem.run_bind, Sem.run_pure] using hrun
        · cases hr
      · cases hr

theorem resList_sound {ti : TypeId → TI} (hti : TIok P ti) {tmps : List V} {arr : Array Value} {h : Heap} {w : World} (hT : TRel ρ tmps arr) (hH : HRel W0 m0 ρ h w) : ∀ {rs : List ResultVar} {xs : List A}, rs.mapM (res1 ti tmps h) = some xs →
    ∃ us : List Value, (rs.mapM (fun r => (match r with
      | .tmp t => pure (arr.getD t undef)
      | .cell a t => do loadVar t (← asAddr (arr.getD a undef)) : Sem Value))).run P w = .ok us w ∧ us.length = xs.length ∧ ∀ (j : Nat) (x : A), xs[j]? = some x → ∃ u : Value, us[j]? = some u ∧ ARel ρ x u
  | [], xs, hr => by
    simp at hr
    subst hr
    exact ⟨[], by simp [Sem.run_pure], rfl, fun j x hx => by simp at hx⟩
  | r :: rs, xs, hr => by
    simp only [List.mapM_cons, Option.bind_eq_bind, Option.pure_def] at hr
    cases hx : res1 ti tmps h r with
    | none => simp [hx] at hr
    | some x =>
      cases hl : rs.mapM (res1 ti tmps h) with
      | none => simp [hx, hl] at hr
      | some ys =>
        simp [hx, hl] at hr
        subst hr
        obtain ⟨u, h1, h2⟩ := res1_sound hti hT hH hx
        obtain ⟨us, g1, g2, g3⟩ := resList_sound hti hT hH hl
        refine ⟨u :: us, ?_, by simp [g2], fun j y hy => ?_⟩
        · simp only [List.mapM_cons, Sem.run_bind]
          rw [h1]
          simp only [Result.andThen_ok]
          rw [g1]
          simp only [Result.andThen_ok, Sem.run_pure]
        · cases j with
          | zero => simp at hy; subst hy; exact ⟨u, by simp, h2⟩
          | succ j => obtain ⟨u', a1, a2⟩ := g3 j y (by simpa using hy); exact ⟨u', by simpa using a1, a2⟩

theorem resOf_sound {ti : TypeId → TI} (hti : TIok P ti) {tmps : List V} {arr : Array Value} {h : Heap} {w : World} (hT : TRel ρ tmps arr) (hH : HRel W0 m0 ρ h w) {fn : Func} {v : V} (hr : resOf ti tmps h fn.results.toList = some v) :
    ∃ v', (results fn arr).run P w = .ok v' w ∧ VRel ρ v v' := by
  have key : ∀ xs, fn.results.toList.mapM (res1 ti tmps h) = some xs → ∃ us : List Value, us.length = xs.length ∧ (∀ (j : Nat) (x : A), xs[j]? = some x → ∃ u : Value, us[j]? = some u ∧ ARel ρ x u) ∧
      (results fn arr).run P w = .ok (if h : us.toArray.size = 1 then us.toArray[0] else .tuple us.toArray) w := by
    intro xs hxs
    obtain ⟨us, g1, g2, g3⟩ := resList_sound hti hT hH hxs
    refine ⟨us, g2, g3, ?_⟩
    unfold results
    rw [Sem.run_bind, Array.mapM_eq_mapM_toList]
    have : Sem.run P (List.toArray <$> fn.results.toList.mapM (fun r => (match r with
      | .tmp t => pure (arr.getD t undef)
      | .cell a t => do loadVar t (← asAddr (arr.getD a undef)) : Sem Value))) w = .ok us.toArray w := by
      change Sem.run P (List.mapM _ fn.results.toList >>= fun l => pure l.toArray) w = _
      rw [Sem.run_bind, g1]
      simp [Sem.run_pure]
    change (Sem.run P (List.toArray <$> fn.results.toList.mapM (fun r => (match r with
      | .tmp t => pure (arr.getD t undef)
      | .cell a t => do loadVar t (← asAddr (arr.getD a undef)) : Sem Value))) w).andThen _ = _
    rw [this]
    simp only [Result.andThen_ok, Sem.run_pure]
  unfold resOf at hr
  split at hr
  · rename_i x hx
    simp only [Option.some.injEq] at hr
    subst hr
    obtain ⟨us, h1, h2, h3⟩ := key _ hx
    obtain ⟨u, rfl⟩ : ∃ u, us = [u] := List.length_eq_one_iff.1 h1
    obtain ⟨u', a1, a2⟩ := h2 0 x rfl
    simp at a1
    subst a1
    exact ⟨u, by simpa using h3, a2⟩
  · rename_i l hne hx
    simp only [Option.some.injEq] at hr
    subst hr
    obtain ⟨us, h1, h2, h3⟩ := key _ hx
    have : us.length ≠ 1 := by
      intro e
      obtain ⟨x, rfl⟩ : ∃ x, l = [x] := List.length_eq_one_iff.1 (by omega)
      exact hne x rfl
    refine ⟨.tuple us.toArray, ?_, us.toArray, rfl, by simpa using h1, fun j x hx => ?_⟩
    · rw [h3, dif_neg (by simpa using this)]
    · obtain ⟨u, a1, a2⟩ := h2 j x hx
      exact ⟨u, by simpa using a1, a2⟩
  · cases hr

/-- the first names stand as they stood -/
def Agree (m0 : Nat) (ρ ρ' : Ren) : Prop := ∀ n p, n < m0 → ρ n = some p → ρ' n = some p
theorem Agree.refl (ρ : Ren) : Agree m0 ρ ρ := fun _ _ _ h => h
theorem Agree.ext {ρ ρ' ρ'' : Ren} (h : Ext ρ ρ') (k : Agree m0 ρ' ρ'') : Agree m0 ρ ρ'' := fun n p hn hp => k n p hn (h n p hp)

/-- what a call must come to -/
def Fin (P : Program) (W0 : World) (m0 : Nat) (fn : Func) (R : V → Heap → Prop) (ρ : Ren) (b : Frame) (cs : List Frame) (m : Machine) : Prop :=
  ∃ ρ' v v' h' w' tmps' todo', Steps P m (lone { b.at ⟨tmps', []⟩ todo' with mode := .returning } cs w') ∧ (results fn tmps').run P w' = .ok v' w' ∧ VRel ρ' v v' ∧ HRel W0 m0 ρ' h' w' ∧ R v h' ∧ Agree m0 ρ ρ'

/-- from this configuration on the call comes to what it must -/
def Run (P : Program) (hc : FuncId → Bool) (W0 : World) (m0 : Nat) (fn : Func) (R : V → Heap → Prop) (c : Cfg) : Prop :=
  itemsOk hc c.todo = true → m0 ≤ c.heap.length → ∀ (ρ : Ren) (tmps : Array Value) (w : World) (b : Frame) (cs : List Frame), TRel ρ c.tmps tmps → HRel W0 m0 ρ c.heap w → Fin P W0 m0 fn R ρ b cs (lone (b.at ⟨tmps, []⟩ c.todo) cs w)

theorem Fin.of_steps {fn : Func} {R : V → Heap → Prop} {b : Frame} {cs : List Frame} {m m' : Machine} (h : Steps P m m') (h' : Fin P W0 m0 fn R ρ b cs m') : Fin P W0 m0 fn R ρ b cs m :=
  let ⟨ρ', v, v', h'', w', tmps', todo', a, rest⟩ := h'; ⟨ρ', v, v', h'', w', tmps', todo', h.trans a, rest⟩

theorem Fin.ext {fn : Func} {R : V → Heap → Prop} {b : Frame} {cs : List Frame} {m : Machine} {ρ' : Ren} (h : Ext ρ ρ') (h' : Fin P W0 m0 fn R ρ' b cs m) : Fin P W0 m0 fn R ρ b cs m :=
  let ⟨ρ'', v, v', h'', w', tmps', todo', a1, a2, a3, a4, a5, a6⟩ := h'; ⟨ρ'', v, v', h'', w', tmps', todo', a1, a2, a3, a4, a5, a6.ext h⟩

theorem itemsOk_cons {hc : FuncId → Bool} {x : Item} {l : List Item} : itemsOk hc (x :: l) = (itemOk hc x && itemsOk hc l) := rfl

theorem exitTo_ok {hc : FuncId → Bool} {id : Nat} : ∀ {k k' : List Item}, exitTo id k = some k' → itemsOk hc k = true → itemsOk hc k' = true
  | [], k', h, _ => by cases h
  | x :: k, k', h, hok => by
    rw [itemsOk_cons, Bool.and_eq_true] at hok
    unfold exitTo at h
    split at h
    · rename_i id' k2 e
      simp only [List.cons.injEq] at e
      obtain ⟨rfl, rfl⟩ := e
      split at h
      · simp only [Option.some.injEq] at h; subst h; exact hok.2
      · exact exitTo_ok h hok.2
    · rename_i x' k2 _ e
      simp only [List.cons.injEq] at e
      obtain ⟨rfl, rfl⟩ := e
      exact exitTo_ok h hok.2
    · cases h

theorem region_len {ti : TypeId → TI} {tbl : Tbl} {ops : Array Oper} {draw : Bool} {c c' : Cfg} (hr : runRegion arR arR ti tbl ops draw c = some c') (hq : ∀ q ∈ c'.obs, q) : c.heap.length ≤ c'.heap.length := by
  unfold runRegion at hr
  split at hr
  · rename_i r hrun
    simp only [Option.some.injEq] at hr
    subst hr
    cases draw with
    | false => exact (runOps_len hrun (fun d h hm => by simp at hm) hq).2
    | true =>
      obtain ⟨-, c2, -⟩ := runDraw_chain (l := ops.toList) (i := 0) (by simp) rfl (runAny_draw hrun) (fun d h hm => by simp at hm) hq
      simp only at c2 ⊢
      rw [c2]
      exact pad_len _ _
  · cases hr

theorem region_obs {ti : TypeId → TI} {tbl : Tbl} {ops : Array Oper} {draw : Bool} {c c' : Cfg} (hr : runRegion arR arR ti tbl ops draw c = some c') : ∀ q ∈ c.obs, q ∈ c'.obs := by
  unfold runRegion at hr
  split at hr
  · rename_i r hrun
    simp only [Option.some.injEq] at hr
    subst hr
    cases draw with
    | false => exact runOps_obs hrun
    | true => exact runDraw_obs (runAny_draw hrun)
  · cases hr

theorem step_obs {ti : TypeId → TI} {tbl : Tbl} {c c' : Cfg} (h : Go.Eng.step arR arR ti tbl c = some c') : ∀ q ∈ c.obs, q ∈ c'.obs := by
  unfold Go.Eng.step at h
  split at h
  all_goals first
    | (cases h; done)
    | (simp only [Option.some.injEq] at h; subst h; exact fun q hq => hq)
    | skip
  · split at h
    · simp only [Option.some.injEq] at h; subst h; exact fun q hq => hq
    · split at h
      · simp only [Option.some.injEq] at h; subst h; exact fun q hq => List.mem_cons_of_mem _ hq
      · cases h
    · cases h
  · split at h
    · simp only [Option.some.injEq] at h; subst h; exact fun q hq => hq
    · cases h
  · split at h
    · rename_i c2 hr
      simp only [Option.some.injEq] at h; subst h; exact (region_obs hr : ∀ q ∈ c.obs, q ∈ c2.obs)
    · cases h

/-- ONE STEP -/
theorem step_run {ti : TypeId → TI} (hm : P.follows .mixedOrders = true) (hti : TIok P ti) {tbl : Tbl} (htbl : TblOk P tbl) {fn : Func} {R : V → Heap → Prop} {c c' : Cfg} (h : Go.Eng.step arR arR ti tbl c = some c') (hq : ∀ q ∈ c'.obs, q)
    (hc : Run P tbl.hc W0 m0 fn R c') : Run P tbl.hc W0 m0 fn R c := by
  obtain ⟨tmps0, heap0, todo0, obs0, hints0⟩ := c
  intro hok hm0 ρ tmps w b cs hT hH
  simp only at hok hm0 hT hH ⊢
  unfold Go.Eng.step at h
  simp only at h
  split at h
  all_goals first
    | (cases h; done)
    | skip
  case h_3 k => 
    simp only [Option.some.injEq] at h; subst h
    exact .of_steps (.one step_skip) (hc (by rw [itemsOk_cons, Bool.and_eq_true] at hok; exact hok.2) hm0 ρ tmps w b cs hT hH)
  case h_4 l k =>
    simp only [Option.some.injEq] at h; subst h
    exact .of_steps (.one step_label) (hc (by rw [itemsOk_cons, Bool.and_eq_true] at hok; exact hok.2) hm0 ρ tmps w b cs hT hH)
  case h_5 i k =>
    simp only [Option.some.injEq] at h; subst h
    exact .of_steps (.one step_inBlock) (hc (by rw [itemsOk_cons, Bool.and_eq_true] at hok; exact hok.2) hm0 ρ tmps w b cs hT hH)
  case h_6 x y k =>
    simp only [Option.some.injEq] at h; subst h
    refine .of_steps (.one step_seq) (hc ?_ hm0 ρ tmps w b cs hT hH)
    simp only [itemsOk_cons, itemOk, codeOk, Bool.and_eq_true] at hok ⊢
    exact ⟨hok.1.1, hok.1.2, hok.2⟩
  case h_7 x y z k =>
    simp only [itemsOk_cons, itemOk, codeOk, Bool.and_eq_true] at hok
    have fin : ∀ t : Bool, CRel ρ (.lbool t) ((⟨tmps, []⟩ : Act).eval x) → (∀ obs hints, Run P tbl.hc W0 m0 fn R ⟨tmps0, heap0, .code (if t then y else z) :: k, obs, hints⟩ → Fin P W0 m0 fn R ρ b cs (lone (b.at ⟨tmps, []⟩ (.code (.cond x y z) :: k)) cs w)) := by
      intro t ht obs hints hrun
      refine .of_steps (.one (step_cond (t := t) ht)) (hrun ?_ hm0 ρ tmps w b cs hT hH)
      cases t <;> simp only [itemsOk_cons, itemOk, Bool.and_eq_true]
      · exact ⟨hok.1.2, hok.2⟩
      · exact ⟨hok.1.1, hok.2⟩
    split at h
    · rename_i t ht
      simp only [Option.some.injEq] at h; subst h
      exact fin t (Cof_rel (VRel.opnd hT x ⟨tmps, []⟩ rfl) ht) _ _ hc
    · rename_i t ht
      split at h
      · rename_i hh hs
        simp only [Option.some.injEq] at h; subst h
        have he : t = hh := hq (arR.eqb t hh) (by simp)
        have hr := Cof_rel (VRel.opnd hT x ⟨tmps, []⟩ rfl) ht
        refine fin hh ?_ _ _ hc
        rw [← he]; exact hr
      · cases h
    · cases h
  case h_8 id y k =>
    simp only [Option.some.injEq] at h; subst h
    refine .of_steps (.one step_block) (hc ?_ hm0 ρ tmps w b cs hT hH)
    simp only [itemsOk_cons, itemOk, codeOk, Bool.and_eq_true] at hok ⊢
    exact ⟨hok.1, trivial, hok.2⟩
  case h_9 y k =>
    simp only [Option.some.injEq] at h; subst h
    refine .of_steps (.one step_loop) (hc ?_ hm0 ρ tmps w b cs hT hH)
    simp only [itemsOk_cons, itemOk, codeOk, Bool.and_eq_true] at hok ⊢
    exact ⟨hok.1, hok.1, hok.2⟩
  case h_10 y k =>
    simp only [Option.some.injEq] at h; subst h
    refine .of_steps (.one step_inLoop) (hc ?_ hm0 ρ tmps w b cs hT hH)
    simp only [itemsOk_cons, itemOk, codeOk, Bool.and_eq_true] at hok ⊢
    exact ⟨hok.1, hok.1, hok.2⟩
  case h_11 id k =>
    split at h
    · rename_i k' hk
      simp only [Option.some.injEq] at h; subst h
      rw [itemsOk_cons, Bool.and_eq_true] at hok
      exact .of_steps (.one (step_exit hk)) (hc (exitTo_ok hk hok.2) hm0 ρ tmps w b cs hT hH)
    · cases h
  case h_12 id ops draw k =>
    split at h
    · rename_i c2 hr
      simp only [Option.some.injEq] at h; subst h
      simp only [itemsOk_cons, itemOk, codeOk, Bool.and_eq_true] at hok
      have hw := region_wp (P := P) (W0 := W0) (m0 := m0) (ρ := ρ) (id := id) (a := ⟨tmps, []⟩) (w := w) (Q := fun e a' w' => e = .normal ∧ Fin P W0 m0 fn R ρ b cs (lone (b.at a' k) cs w')) hm hti htbl hok.1 hr hq hm0 hT hH rfl
        (fun ρ' a' w' hx h1 h2 h3 => ⟨rfl, by
          obtain ⟨t', d'⟩ := a'
          simp only at h3
          subst h3
          exact .ext hx (hc hok.2 (Nat.le_trans hm0 (region_len hr hq)) ρ' t' w' b cs h1 h2)⟩)
      obtain ⟨e, a', w', ⟨rfl, hf⟩, harr⟩ := hw b k cs
      exact .of_steps harr hf
    · cases h

theorem exec_obs {ti : TypeId → TI} {tbl : Tbl} {d : Nat} {u : Bool} : ∀ {n : Nat} {c : Cfg}, ∀ q ∈ c.obs, q ∈ (exec arR arR ti tbl d u n c).obs
  | 0, c, q, h => h
  | n + 1, c, q, h => by
    unfold exec
    split
    · exact h
    · split
      · exact h
      · split
        · exact h
        · rename_i c' hs
          exact exec_obs q (step_obs hs q h)

/-- MANY STEPS -/
theorem exec_run {ti : TypeId → TI} (hm : P.follows .mixedOrders = true) (hti : TIok P ti) {tbl : Tbl} (htbl : TblOk P tbl) {fn : Func} {R : V → Heap → Prop} (d : Nat) (u : Bool) : ∀ (n : Nat) (c : Cfg),
    (∀ q ∈ (exec arR arR ti tbl d u n c).obs, q) ∧ Run P tbl.hc W0 m0 fn R (exec arR arR ti tbl d u n c) → Run P tbl.hc W0 m0 fn R c
  | 0, c, h => h.2
  | n + 1, c, h => by
    unfold exec at h
    split at h
    · exact h.2
    · split at h
      · exact h.2
      · split at h
        · exact h.2
        · rename_i c' hs
          refine step_run hm hti htbl hs (fun q hq => h.1 q (exec_obs q hq)) (exec_run hm hti htbl d u n c' h)

/-- the end -/
theorem Run.ret {tbl : Tbl} {ti : TypeId → TI} (hti : TIok P ti) {fn : Func} {R : V → Heap → Prop} {c : Cfg} {k : List Item} (hk : c.todo = .code .ret :: k) {v : V} (hr : resOf ti c.tmps c.heap fn.results.toList = some v) (hR : R v c.heap) : Run P tbl.hc W0 m0 fn R c := by
  intro _ _ ρ tmps w b cs hT hH
  obtain ⟨v', h1, h2⟩ := resOf_sound hti hT hH hr
  exact ⟨ρ, v, v', c.heap, w, tmps, c.todo, .one (by rw [hk]; exact step_ret), h1, h2, hH, hR, Agree.refl ρ⟩

theorem Run.fin {tbl : Tbl} {ti : TypeId → TI} (hti : TIok P ti) {fn : Func} {R : V → Heap → Prop} {c : Cfg} (hk : c.todo = []) {v : V} (hr : resOf ti c.tmps c.heap fn.results.toList = some v) (hR : R v c.heap) : Run P tbl.hc W0 m0 fn R c := by
  intro _ _ ρ tmps w b cs hT hH
  obtain ⟨v', h1, h2⟩ := resOf_sound hti hT hH hr
  exact ⟨ρ, v, v', c.heap, w, tmps, c.todo, .one (by rw [hk]; exact step_end), h1, h2, hH, hR, Agree.refl ρ⟩

end
end Go.Eng

set_option linter.unusedSimpArgs false
set_option linter.unusedVariables false
namespace Go.Eng
open Go Go.RowKit

/-- the operations once more, under a name of their own: an evaluation keeps them folded -/
def arS : Ar := arR

def okC (n : Nat) : C → Bool
  | .ptr b _ => Nat.blt b n
  | .sl b _ _ _ => Nat.blt b n
  | _ => true
def okG (n : Nat) : G → Bool
  | .lst cs => cs.all (okC n)
  | .ints .. => true
def okA (n : Nat) : A → Bool
  | .one c => okC n c
  | .agg g => okG n g
def okV (n : Nat) : V → Bool
  | .a x => okA n x
  | .tup xs => xs.all (okA n)
  | .any => true
def okB (n : Nat) : Option Blk → Bool
  | some b => okG n b.g
  | none => true

/-- some slots alone are kept -/
def keepT (keep : List Nat) : Nat → List V → List V
  | _, [] => []
  | i, v :: l => (if keep.contains i then v else .any) :: keepT keep (i + 1) l

section
variable {P : Program} {W0 : World} {m0 : Nat} {ρ : Ren} {fn : Func} {R : V → Heap → Prop} {hc : FuncId → Bool}

theorem okC_rel {n : Nat} {c : C} {v : Value} (h : CRel ρ c v) (hk : okC n c = true) : CRel (fun k => if k < n then ρ k else none) c v := by
  cases c <;> try exact h
  case ptr b off =>
    obtain ⟨r, o, h1, h2⟩ := h
    have : b < n := by simpa [okC] using hk
    exact ⟨r, o, by simp [this, h1], h2⟩
  case sl b off len cap =>
    obtain ⟨r, o, h1, h2⟩ := h
    have : b < n := by simpa [okC] using hk
    exact ⟨r, o, by simp [this, h1], h2⟩

theorem okG_at {n : Nat} {g : G} (hk : okG n g = true) {j : Nat} {x : C} (hx : g.at j = some x) : okC n x = true := by
  cases g with
  | lst cs => exact List.all_eq_true.1 hk x (List.mem_of_getElem? hx)
  | ints k m f =>
    simp only [G.at] at hx
    split at hx
    · simp only [Option.some.injEq] at hx; subst hx; rfl
    · cases hx

theorem okA_rel {n : Nat} {x : A} {v : Value} (h : ARel ρ x v) (hk : okA n x = true) : ARel (fun k => if k < n then ρ k else none) x v := by
  cases x with
  | one c => exact okC_rel h hk
  | agg g =>
    obtain ⟨arr, e, h1, h2⟩ := h
    exact ⟨arr, e, h1, fun j x hx => let ⟨u, a, b⟩ := h2 j x hx; ⟨u, a, okC_rel b (okG_at hk hx)⟩⟩

theorem okV_rel {n : Nat} {x : V} {v : Value} (h : VRel ρ x v) (hk : okV n x = true) : VRel (fun k => if k < n then ρ k else none) x v := by
  cases x with
  | a x => exact okA_rel h hk
  | tup xs =>
    obtain ⟨arr, e, h1, h2⟩ := h
    exact ⟨arr, e, h1, fun j x hx => let ⟨u, a, b⟩ := h2 j x hx; ⟨u, a, okA_rel b (List.all_eq_true.1 hk x (List.mem_of_getElem? hx))⟩⟩
  | any => exact True.intro

theorem keepT_get {keep : List Nat} : ∀ {l : List V} {i j : Nat} {x : V}, (keepT keep i l)[j]? = some x → ∃ y, l[j]? = some y ∧ (x = y ∨ x = .any)
  | [], i, j, x, h => by simp [keepT] at h
  | v :: l, i, 0, x, h => by
    simp only [keepT, List.getElem?_cons_zero, Option.some.injEq] at h
    refine ⟨v, rfl, ?_⟩
    split at h <;> simp [← h]
  | v :: l, i, j + 1, x, h => by
    simp only [keepT, List.getElem?_cons_succ] at h
    simpa using keepT_get h
theorem keepT_len {keep : List Nat} : ∀ {l : List V} {i : Nat}, (keepT keep i l).length = l.length
  | [], _ => rfl
  | _ :: l, i => by simp [keepT, keepT_len (l := l)]

/-- FORGETTING: slots that are not kept, and what memory holds from n on -/
theorem Run.forget {c : Cfg} (keep : List Nat) (n : Nat) (hn : m0 ≤ n) (hT : (keepT keep 0 c.tmps).all (okV n) = true) (hB : (c.heap.take n).all (okB n) = true)
    (h : Run P hc W0 m0 fn R ⟨keepT keep 0 c.tmps, c.heap.take n, c.todo, [], []⟩) : Run P hc W0 m0 fn R c := by
  intro hok hm ρ tmps w b cs hTr hH
  have conv : Fin P W0 m0 fn R (fun k => if k < n then ρ k else none) b cs (lone (b.at ⟨tmps, []⟩ c.todo) cs w) → Fin P W0 m0 fn R ρ b cs (lone (b.at ⟨tmps, []⟩ c.todo) cs w) := by
    rintro ⟨ρ', v, v', h'', w', tmps', todo', a1, a2, a3, a4, a5, a6⟩
    exact ⟨ρ', v, v', h'', w', tmps', todo', a1, a2, a3, a4, a5, fun k p hk hp => a6 k p hk (by simp only; rw [if_pos (by omega)]; exact hp)⟩
  refine conv (h hok (by simp; omega) (fun k => if k < n then ρ k else none) tmps w b cs ⟨by simp [hTr.1, keepT_len], fun j x hx => ?_⟩ ?_)
  · have hox := List.all_eq_true.1 hT x (List.mem_of_getElem? hx)
    obtain ⟨y, hy, hxy⟩ := keepT_get hx
    obtain ⟨v, h1, h2⟩ := hTr.2 j y hy
    refine ⟨v, h1, ?_⟩
    rcases hxy with rfl | rfl
    · exact okV_rel h2 hox
    · exact True.intro
  · have hget : ∀ (k : Nat) (bb : Blk), (c.heap.take n)[k]? = some (some bb) → k < n ∧ c.heap[k]? = some (some bb) := by
      intro k bb hk
      have hlt : k < n := by
        have := (List.getElem?_eq_some_iff.1 hk).1
        simp at this; omega
      rw [List.getElem?_take_of_lt hlt] at hk
      exact ⟨hlt, hk⟩
    have hρ : ∀ k p, (if k < n then ρ k else none) = some p → k < n ∧ ρ k = some p := by
      intro k p hk
      split at hk
      · rename_i h; exact ⟨h, hk⟩
      · cases hk
    refine ⟨hH.os, hH.tape, hH.output, hH.size, fun k hk hno => ?_, fun k p hk => ?_, fun k bb hk => ?_, fun k m r o o' bb hne hk hro e1 e2 => ?_, fun k r o hk e => hH.new k r o hk (hρ _ _ e).2⟩
    · refine hH.frame k hk fun m bb o hm2 hro e => ?_
      by_cases hmn : m < n
      · exact hno m bb o (by simp only; rw [List.getElem?_take_of_lt hmn]; exact hm2) hro (by simp [hmn, e])
      · have := hH.new m k o (by omega) e
        omega
    · obtain ⟨hlt, e⟩ := hρ k p hk
      obtain ⟨bb, hb⟩ := hH.dom k p e
      exact ⟨bb, by simp only; rw [List.getElem?_take_of_lt hlt]; exact hb⟩
    · obtain ⟨hlt, e⟩ := hget k bb hk
      obtain ⟨r, o, h1, cc, ty, fz, h2, h3, h4⟩ := hH.blk k bb e
      refine ⟨r, o, by simp [hlt, h1], cc, ty, fz, h2, h3, fun j x hx => ?_⟩
      obtain ⟨v, a1, a2⟩ := h4 j x hx
      exact ⟨v, a1, okC_rel a2 (okG_at (List.all_eq_true.1 hB _ (List.mem_of_getElem? hk)) hx)⟩
    · obtain ⟨-, e⟩ := hget k bb hk
      exact hH.sep k m r o o' bb hne e hro (hρ _ _ e1).2 (hρ _ _ e2).2

theorem Run.same {t : List V} {h : Heap} {T : List Item} {o o' : List Prop} {s s' : List Bool} (hr : Run P hc W0 m0 fn R ⟨t, h, T, o, s⟩) : Run P hc W0 m0 fn R ⟨t, h, T, o', s'⟩ := hr

/-- A LOOP, from its head: S i: what the slots and the memory hold; the measure goes down -/
theorem Run.loop {ι : Type} (S : ι → List V × Heap) (μ : ι → Nat) {c : Code} {k : List Item} (i0 : ι)
    (round : ∀ i, (∀ j, μ j < μ i → ∀ o s, Run P hc W0 m0 fn R ⟨(S j).1, (S j).2, .inLoop c :: k, o, s⟩) → Run P hc W0 m0 fn R ⟨(S i).1, (S i).2, .code c :: .inLoop c :: k, [], []⟩) {o : List Prop} {s : List Bool} :
    Run P hc W0 m0 fn R ⟨(S i0).1, (S i0).2, .code (.loop c) :: k, o, s⟩ := by
  have body : ∀ n i, μ i = n → Run P hc W0 m0 fn R ⟨(S i).1, (S i).2, .code c :: .inLoop c :: k, [], []⟩ := by
    intro n
    induction n using Nat.strongRecOn with
    | _ n ih =>
      intro i hi
      refine round i fun j hj o s => ?_
      intro hok hm ρ tmps w b cs hT hH
      refine .of_steps (.one step_inLoop) (ih (μ j) (by omega) j rfl ?_ hm ρ tmps w b cs hT hH)
      simp only [itemsOk_cons, itemOk, Bool.and_eq_true] at hok ⊢
      exact ⟨hok.1, hok.1, hok.2⟩
  intro hok hm ρ tmps w b cs hT hH
  refine .of_steps (.one step_loop) (body _ i0 rfl ?_ hm ρ tmps w b cs hT hH)
  simp only [itemsOk_cons, itemOk, codeOk, Bool.and_eq_true] at hok ⊢
  exact ⟨hok.1, hok.1, hok.2⟩

theorem Run.exec {ti : TypeId → TI} (hm : P.follows .mixedOrders = true) (hti : TIok P ti) {tbl : Tbl} (htbl : TblOk P tbl) (d : Nat) (u : Bool) (n : Nat) (hints : List Bool) {t : List V} {h : Heap} {T : List Item} {o : List Prop} {s : List Bool} {c' : Cfg}
    (he : exec arR arR ti tbl d u n ⟨t, h, T, [], hints⟩ = c') (hq : ∀ q ∈ c'.obs, q) (hr : Run P tbl.hc W0 m0 fn R c') : Run P tbl.hc W0 m0 fn R ⟨t, h, T, o, s⟩ := by
  subst he
  exact exec_run hm hti htbl d u n ⟨t, h, T, [], hints⟩ ⟨hq, hr⟩

/-- a value says no more than another one -/
def VLe (x v : V) : Prop := ∀ ρ u, VRel ρ x u → VRel (fun _ => none) v u
def ALe (x v : A) : Prop := ∀ ρ u, ARel ρ x u → ARel (fun _ => none) v u

theorem VLe.a {x y : A} (h : ALe x y) : VLe (.a x) (.a y) := h
theorem VLe.tup2 {a b a' b' : A} (h1 : ALe a a') (h2 : ALe b b') : VLe (.tup [a, b]) (.tup [a', b']) := by
  rintro ρ u ⟨arr, e, hs, h⟩
  refine ⟨arr, e, hs, fun j x hx => ?_⟩
  match j with
  | 0 => simp at hx; subst hx; obtain ⟨v, a1, a2⟩ := h 0 a rfl; exact ⟨v, a1, h1 _ _ a2⟩
  | 1 => simp at hx; subst hx; obtain ⟨v, a1, a2⟩ := h 1 b rfl; exact ⟨v, a1, h2 _ _ a2⟩
  | j + 2 => simp at hx
theorem VLe.tup3 {a b c a' b' c' : A} (h1 : ALe a a') (h2 : ALe b b') (h3 : ALe c c') : VLe (.tup [a, b, c]) (.tup [a', b', c']) := by
  rintro ρ u ⟨arr, e, hs, h⟩
  refine ⟨arr, e, hs, fun j x hx => ?_⟩
  match j with
  | 0 => simp at hx; subst hx; obtain ⟨v, a1, a2⟩ := h 0 a rfl; exact ⟨v, a1, h1 _ _ a2⟩
  | 1 => simp at hx; subst hx; obtain ⟨v, a1, a2⟩ := h 1 b rfl; exact ⟨v, a1, h2 _ _ a2⟩
  | 2 => simp at hx; subst hx; obtain ⟨v, a1, a2⟩ := h 2 c rfl; exact ⟨v, a1, h3 _ _ a2⟩
  | j + 3 => simp at hx
theorem ALe.int {k : IntKind} {n m : Int} (h : n = m) : ALe (.one (.int k n)) (.one (.int k m)) := by
  intro ρ u hu; subst h; exact hu
theorem ALe.lit {k : IntKind} {n m : Int} (h : n = m) : ALe (.one (.lit k n)) (.one (.int k m)) := by
  intro ρ u hu; subst h; exact hu
theorem ALe.bool {a b : Bool} (h : a = b) : ALe (.one (.bool a)) (.one (.bool b)) := by
  intro ρ u hu; subst h; exact hu
theorem ALe.lbool {a b : Bool} (h : a = b) : ALe (.one (.lbool a)) (.one (.bool b)) := by
  intro ρ u hu; subst h; exact hu
theorem ALe.ints {k : IntKind} {n : N} {f g : Nat → Int} (h : ∀ j, j < n.val → f j = g j) : ALe (.agg (.ints k n f)) (.agg (.ints k n g)) := by
  rintro ρ u ⟨arr, e, h1, h2⟩
  refine ⟨arr, e, h1, fun j x hx => ?_⟩
  simp only [G.at] at hx
  by_cases hj : j < n.val
  · rw [if_pos hj] at hx
    simp only [Option.some.injEq] at hx
    subst hx
    obtain ⟨v, a1, a2⟩ := h2 j (.int k (f j)) (by simp only [G.at]; rw [if_pos hj])
    exact ⟨v, a1, by rw [← h j hj]; exact a2⟩
  · rw [if_neg hj] at hx; cases hx

/-- A CONTRACT, BY THE RUN OF ITS BODY -/
theorem CallOk.of_run {f : FuncId} {body : Code} (hf : P.funcs[f]? = some fn) (hb : fn.body = some body) (hname : (fn.name == "runtime.NumGoroutine") = false) (hok : codeOk hc body = true) {s : ESpec}
    (h : ∀ as v ps, s as = some (v, ps) → (∀ p ∈ ps, p) → ∀ w, Run P hc w 0 fn (fun x _ => VLe x v) ⟨as.map V.a ++ List.replicate (fn.ntmps - as.length) (.tup []), [], [.code body], [], []⟩) : CallOk P f s := by
  intro as v ps hs hp args w ha o a K Q hK
  have hcf : (callFunc f args).run P w = .ok (.enter f args) w := by
    have h1 : fn.name ≠ "runtime.NumGoroutine" := by simpa using hname
    simp [callFunc, program, Sem.run_bind, Sem.run, hf, h1, hb, Sem.run_pure]
  rw [hcf, Oper.upon_enter]
  intro cs
  let b : Frame := { (default : Frame) with fn := f, kind := .normal }
  have henter : Frame.enter P f args .normal = b.at { tmps := args ++ Array.replicate (fn.ntmps - args.size) undef, defers := [] } [.code body] := by
    simp [Frame.enter, Frame.at, hf, hb, b]
  have hT : TRel (fun _ => none) (as.map V.a ++ List.replicate (fn.ntmps - as.length) (.tup [])) (args ++ Array.replicate (fn.ntmps - args.size) undef) := by
    refine ⟨by simp [ha.1], fun j x hx => ?_⟩
    by_cases hj : j < as.length
    · rw [List.getElem?_append_left (by simpa using hj)] at hx
      simp only [List.getElem?_map, Option.map_eq_some_iff] at hx
      obtain ⟨y, hy, rfl⟩ := hx
      obtain ⟨u, h1, h2⟩ := ha.2 j y hy
      exact ⟨u, by rw [Array.getElem?_append_left (by rw [ha.1]; exact hj)]; exact h1, h2⟩
    · rw [List.getElem?_append_right (by simpa using hj)] at hx
      have hx' := List.mem_of_getElem? hx
      have hlt := (List.getElem?_eq_some_iff.1 hx).1
      simp at hlt
      obtain rfl : x = .tup [] := (List.mem_replicate.1 hx').2
      refine ⟨undef, ?_, undef_rel⟩
      rw [Array.getElem?_append_right (by rw [ha.1]; omega), Array.getElem?_replicate, if_pos (by rw [ha.1]; omega)]
  have hH : HRel w 0 (fun _ => none) [] w := ⟨rfl, rfl, rfl, Nat.le_refl _, fun _ _ _ => rfl, fun n p h => by simp at h, fun n b h => by simp at h, fun n m r o o' b _ h => by simp at h, fun n r o _ h => by simp at h⟩
  obtain ⟨ρ', x, v', h', w', tmps', todo', hst, hres, hv, hh, hR, -⟩ := h as v ps hs hp w (by simp [itemsOk, itemOk, hok]) (Nat.zero_le _) _ _ w b cs hT hH
  refine ⟨.returned v', w', { b.at ⟨tmps', []⟩ todo' with mode := .returning }, ?_, by rw [henter]; exact hst, rfl, rfl, rfl, rfl, fn, hf, hres⟩
  refine hK v' w' (hR ρ' v' hv) ⟨hh.os, hh.tape, hh.output, hh.size, fun k hk => hh.frame k hk fun n b o _ _ e => ?_⟩
  have := hh.new n k o (Nat.zero_le _) e
  omega

/-- a body's whole evaluation: what it hands back, what it owes -/
def evalFn (ar : Ar) (ti : TypeId → TI) (tbl : Tbl) (n : Nat) (hints : List Bool) (rs : List ResultVar) (t : List V) (h : Heap) (T : List Item) : Option (V × List Prop) :=
  let c := exec ar arR ti tbl 0 true n ⟨t, h, T, [], hints⟩
  match c.todo with
  | .code .ret :: _ | [] => match resOf ti c.tmps c.heap rs with
    | some v => some (v, c.obs)
    | none => none
  | _ => none

theorem Run.evalFn {ti : TypeId → TI} (hm : P.follows .mixedOrders = true) (hti : TIok P ti) {tbl : Tbl} (htbl : TblOk P tbl) {n : Nat} {hints : List Bool} {t : List V} {h : Heap} {T : List Item} {o : List Prop} {s : List Bool} {v : V} {ps : List Prop}
    (he : Go.Eng.evalFn arR ti tbl n hints fn.results.toList t h T = some (v, ps)) (hq : ∀ q ∈ ps, q) (hR : ∀ h', R v h') : Run P tbl.hc W0 m0 fn R ⟨t, h, T, o, s⟩ := by
  have main : Run P tbl.hc W0 m0 fn R ⟨t, h, T, [], hints⟩ := by
    unfold Go.Eng.evalFn at he
    simp only at he
    split at he
    · rename_i k hk
      split at he
      · rename_i v' hv
        simp only [Option.some.injEq, Prod.mk.injEq] at he
        obtain ⟨rfl, rfl⟩ := he
        exact exec_run hm hti htbl 0 true n _ ⟨hq, Run.ret hti hk hv (hR _)⟩
      · cases he
    · rename_i hk
      split at he
      · rename_i v' hv
        simp only [Option.some.injEq, Prod.mk.injEq] at he
        obtain ⟨rfl, rfl⟩ := he
        exact exec_run hm hti htbl 0 true n _ ⟨hq, Run.fin hti hk hv (hR _)⟩
      · cases he
    · cases he
  exact main

/-- a contract by one evaluation, where every loop is gone through -/
theorem CallOk.eval {Λ : Type} {ti : TypeId → TI} (hm : P.follows .mixedOrders = true) (hti : TIok P ti) {tb : Λ → Tbl} {l0 : Λ} (htbl : TblOk P (tb l0)) {f : FuncId} {body : Code} (hf : P.funcs[f]? = some fn) (hb : fn.body = some body) (hname : (fn.name == "runtime.NumGoroutine") = false) (hok : codeOk (tb l0).hc body = true) {s : ESpec}
    (h : ∀ as v ps, s as = some (v, ps) → (∀ p ∈ ps, p) → ∃ n hints, ∃ F : Ar → Λ → V × List Prop, (∀ ar l, Go.Eng.evalFn ar ti (tb l) n hints fn.results.toList (as.map V.a ++ List.replicate (fn.ntmps - as.length) (.tup [])) [] [.code body] = some (F ar l)) ∧
      (∀ q ∈ (F arR l0).2, q) ∧ VLe (F arR l0).1 v) : CallOk P f s := by
  refine .of_run hf hb hname hok fun as v ps hs hp w => ?_
  obtain ⟨n, hints, F, h1, h2, h3⟩ := h as v ps hs hp
  exact Run.evalFn hm hti htbl (h1 arR l0) h2 (fun _ => h3)

/-! contracts on memory -/
/-- a cell says no more than another one, its names below k -/
def CLe (k : Nat) (x y : C) : Prop := ∀ (ρ : Ren) u, CRel ρ x u → CRel (fun n => if n < k then ρ n else none) y u
def GLe (k : Nat) (g g' : G) : Prop := ∀ (j : Nat) y, g'.at j = some y → ∃ x, g.at j = some x ∧ CLe k x y
def VLeK (k : Nat) (x v : V) : Prop := ∀ (ρ : Ren) u, VRel ρ x u → VRel (fun n => if n < k then ρ n else none) v u
def BLe (k : Nat) : List Blk → Heap → Prop := fun bs h => ∀ (i : Nat) b', bs[i]? = some b' → ∃ b, h[i]? = some (some b) ∧ b.ro = b'.ro ∧ GLe k b.g b'.g

theorem CLe.refl {k : Nat} {x : C} (h : okC k x = true) : CLe k x x := fun ρ u hu => okC_rel hu h
theorem GLe.refl {k : Nat} {g : G} (h : okG k g = true) : GLe k g g := fun j y hy => ⟨y, hy, .refl (okG_at h hy)⟩
theorem GLe.ints {k : Nat} {kd : IntKind} {n : N} {f g : Nat → Int} (h : ∀ j, j < n.val → f j = g j) : GLe k (.ints kd n f) (.ints kd n g) := by
  intro j y hy
  simp only [G.at] at hy ⊢
  by_cases hj : j < n.val
  · rw [if_pos hj] at hy ⊢
    simp only [Option.some.injEq] at hy
    subst hy
    exact ⟨_, rfl, by rw [h j hj]; exact .refl rfl⟩
  · rw [if_neg hj] at hy; cases hy
theorem VLeK.refl {k : Nat} {x : V} (h : okV k x = true) : VLeK k x x := fun ρ u hu => okV_rel hu h
theorem VLeK.of {k : Nat} {x v : V} (h : VLe x v) : VLeK k x v := fun ρ u hu => (h ρ u hu).ext (fun _ _ e => by cases e)

/-- A CONTRACT ON MEMORY, BY THE RUN OF ITS BODY -/
theorem HOk.of_run {f : FuncId} {body : Code} (hf : P.funcs[f]? = some fn) (hb : fn.body = some body) (hname : (fn.name == "runtime.NumGoroutine") = false) (hok : codeOk hc body = true) {s : HSpec}
    (h : ∀ las lbs v lbs' ps, s las lbs = some (v, lbs', ps) → (∀ p ∈ ps, p) → lbs'.length = lbs.length ∧ ∀ w, Run P hc w lbs.length fn (fun x h' => VLeK lbs.length x v ∧ BLe lbs.length lbs' h') ⟨las.map V.a ++ List.replicate (fn.ntmps - las.length) (.tup []), lbs.map some, [.code body], [], []⟩) : HOk P f s := by
  intro as lbs v lbs' ps hs hp ρ args w ha hH o a K Q hK
  obtain ⟨hlen, hrun⟩ := h as lbs v lbs' ps hs hp
  have hcf : (callFunc f args).run P w = .ok (.enter f args) w := by
    have h1 : fn.name ≠ "runtime.NumGoroutine" := by simpa using hname
    simp [callFunc, program, Sem.run_bind, Sem.run, hf, h1, hb, Sem.run_pure]
  rw [hcf, Oper.upon_enter]
  intro cs
  let b : Frame := { (default : Frame) with fn := f, kind := .normal }
  have henter : Frame.enter P f args .normal = b.at { tmps := args ++ Array.replicate (fn.ntmps - args.size) undef, defers := [] } [.code body] := by
    simp [Frame.enter, Frame.at, hf, hb, b]
  have hT : TRel ρ (as.map V.a ++ List.replicate (fn.ntmps - as.length) (.tup [])) (args ++ Array.replicate (fn.ntmps - args.size) undef) := by
    refine ⟨by simp [ha.1], fun j x hx => ?_⟩
    by_cases hj : j < as.length
    · rw [List.getElem?_append_left (by simpa using hj)] at hx
      simp only [List.getElem?_map, Option.map_eq_some_iff] at hx
      obtain ⟨y, hy, rfl⟩ := hx
      obtain ⟨u, h1, h2⟩ := ha.2 j y hy
      exact ⟨u, by rw [Array.getElem?_append_left (by rw [ha.1]; exact hj)]; exact h1, h2⟩
    · rw [List.getElem?_append_right (by simpa using hj)] at hx
      have hx' := List.mem_of_getElem? hx
      have hlt := (List.getElem?_eq_some_iff.1 hx).1
      simp at hlt
      obtain rfl : x = .tup [] := (List.mem_replicate.1 hx').2
      refine ⟨undef, ?_, undef_rel⟩
      rw [Array.getElem?_append_right (by rw [ha.1]; omega), Array.getElem?_replicate, if_pos (by rw [ha.1]; omega)]
  obtain ⟨ρ', x, v', h', w', tmps', todo', hst, hres, hv, hh, ⟨hR1, hR2⟩, hag⟩ := hrun w (by simp [itemsOk, itemOk, hok]) (by simp) ρ _ w b cs hT hH
  have hρ : ρ = fun n => if n < lbs.length then ρ' n else none := by
    funext n
    by_cases hn : n < lbs.length
    · rw [if_pos hn]
      obtain ⟨r, o', e, -⟩ := hH.blk n lbs[n] (by simp [hn])
      rw [e, hag n _ hn e]
    · rw [if_neg hn]
      cases hx : ρ n with
      | none => rfl
      | some p =>
        obtain ⟨bb, hb'⟩ := hH.dom n p hx
        have := (List.getElem?_eq_some_iff.1 hb').1
        simp at this; omega
  refine ⟨.returned v', w', { b.at ⟨tmps', []⟩ todo' with mode := .returning }, ?_, by rw [henter]; exact hst, rfl, rfl, rfl, rfl, fn, hf, hres⟩
  have hv2 := hR1 ρ' v' hv
  rw [← hρ] at hv2
  refine hK v' w' hv2 ?_
  have hin : ∀ n r o, ρ n = some (r, o) → n < lbs.length ∧ ρ' n = some (r, o) := by
    intro n r o e
    rw [hρ] at e
    simp only at e
    split at e
    · rename_i hlt; exact ⟨hlt, e⟩
    · cases e
  have hblk : ∀ (n : Nat) bb, (lbs'.map some)[n]? = some (some bb) → ∃ b, h'[n]? = some (some b) ∧ b.ro = bb.ro ∧ GLe lbs.length b.g bb.g ∧ n < lbs.length := by
    intro n bb hn
    simp only [List.getElem?_map, Option.map_eq_some_iff] at hn
    obtain ⟨bb', hn, e⟩ := hn
    simp only [Option.some.injEq] at e
    subst e
    obtain ⟨b, h1, h2, h3⟩ := hR2 n bb' hn
    have := (List.getElem?_eq_some_iff.1 hn).1
    exact ⟨b, h1, h2, h3, by omega⟩
  refine ⟨hh.os, hh.tape, hh.output, hh.size, fun k hk hno => ?_, fun n p hn => ?_, fun n bb hn => ?_, fun n m r o1 o2 bb hnm hn hro e1 e2 => ?_, fun n r o hn e => by have := (hin n r o e).1; omega⟩
  · refine hh.frame k hk fun n b o hb' hro e => ?_
    by_cases hn : n < lbs.length
    · have hn' : n < lbs'.length := by omega
      obtain ⟨b2, g1, g2, g3, -⟩ := hblk n lbs'[n] (by simp [hn'])
      rw [hb'] at g1
      simp only [Option.some.injEq] at g1
      subst g1
      refine hno n lbs'[n] o (by simp [hn']) (by rw [← g2]; exact hro) ?_
      rw [hρ]; simp only [if_pos hn]; exact e
    · have := hh.new n k o (by omega) e
      omega
  · obtain ⟨hlt, -⟩ := hin n p.1 p.2 hn
    exact ⟨lbs'[n], by simp [show n < lbs'.length by omega]⟩
  · obtain ⟨b, h1, h2, h3, h4⟩ := hblk n bb hn
    obtain ⟨r, o, e, c, ty, fz, q1, q2, q3⟩ := hh.blk n b h1
    refine ⟨r, o, by rw [hρ]; simp only [if_pos h4]; exact e, c, ty, fz, q1, fun hr => q2 (by rw [h2]; exact hr), fun j y hy => ?_⟩
    obtain ⟨x, hx, hle⟩ := h3 j y hy
    obtain ⟨u, hu, hcu⟩ := q3 j x hx
    have := hle ρ' u hcu
    rw [← hρ] at this
    exact ⟨u, hu, this⟩
  · obtain ⟨b, h1, h2, h3, h4⟩ := hblk n bb hn
    exact hh.sep n m r o1 o2 b hnm h1 (by rw [h2]; exact hro) (hin _ _ _ e1).2 (hin _ _ _ e2).2

end
end Go.Eng

set_option linter.unusedSimpArgs false
set_option linter.unusedVariables false
namespace Go.Eng
open Go Go.RowKit

def cOf : Value → C
  | .int k n => .lit k n
  | .bool b => .lbool b
  | .string s => .str s
  | .pointer none => .nil
  | .slice none 0 0 => .nsl
  | v => .raw v

theorem cOf_rel {ρ : Ren} {v : Value} (h : one1 v = true) : CRel ρ (cOf v) v := by
  unfold cOf
  split <;> simp_all [CRel]

def mkTD : TypeDesc → TD
  | .int k => .int k
  | .slice e => .slice e
  | .array n e => .arr n e
  | .struct fs => .strct (fs.toList.map fun f => (f.offset, f.type))
  | .bool => .bool
  | .string => .str
  | .pointer e => .ptr e
  | _ => .other

theorem mkTD_rel (d : TypeDesc) : TDRel d (mkTD d) := by
  cases d <;> simp [TDRel, mkTD]

def isZ (k : IntKind) : Value → Bool
  | .int k' 0 => kindEq k k'
  | _ => false

/-- an array's zero: of integers, or of whatever -/
def mkG (arr : Bool) (cs : Array Value) : G :=
  match arr, cs.toList with
  | true, .int k n :: l => if (Value.int k n :: l).all (isZ k) then .ints k (.lit cs.size) (fun _ => 0) else .lst (cs.toList.map cOf)
  | _, _ => .lst (cs.toList.map cOf)

theorem isZ_eq {k : IntKind} {v : Value} (h : isZ k v = true) : v = .int k 0 := by
  unfold isZ at h
  split at h
  · rw [kindEq_eq h]
  · cases h

theorem mkG_rel {ρ : Ren} {arr : Bool} {cs : Array Value} (h : cs.toList.all one1 = true) : GRel ρ (mkG arr cs) cs := by
  have key : GRel ρ (.lst (cs.toList.map cOf)) cs := by
    refine ⟨by simp [G.len], fun j x hx => ?_⟩
    simp only [G.at, List.getElem?_map, Option.map_eq_some_iff] at hx
    obtain ⟨v, hv, rfl⟩ := hx
    exact ⟨v, by simpa using hv, cOf_rel (List.all_eq_true.1 h v (List.mem_of_getElem? hv))⟩
  unfold mkG
  split
  · rename_i k n l e
    split
    · rename_i hz
      rw [← e] at hz
      refine ⟨rfl, fun j x hx => ?_⟩
      simp only [G.at] at hx
      by_cases hj : j < cs.size
      · rw [if_pos (show j < (N.lit cs.size).val from hj)] at hx
        simp only [Option.some.injEq] at hx
        subst hx
        refine ⟨cs[j], Array.getElem?_eq_getElem hj, ?_⟩
        rw [isZ_eq (List.all_eq_true.1 hz cs[j] (by simp))]
        rfl
      · rw [if_neg (show ¬ j < (N.lit cs.size).val from hj)] at hx; cases hx
    · exact key
  · exact key

def zOk : Value → Bool
  | .agg cs => cs.toList.all one1
  | .tuple _ => false
  | _ => true

def isArr : TypeDesc → Bool
  | .array _ _ => true
  | _ => false

def mkZero (d : TypeDesc) : Value → A
  | .agg cs => .agg (mkG (isArr d) cs)
  | v => .one (cOf v)

theorem mkZero_rel {ρ : Ren} {d : TypeDesc} {v : Value} (h : zOk v = true) : ARel ρ (mkZero d v) v := by
  unfold mkZero
  split
  · rename_i cs; exact ⟨cs, rfl, mkG_rel h⟩
  · rename_i hne
    refine cOf_rel ?_
    cases v <;> simp_all [zOk, one1]

def fieldsOk (P : Program) : TypeDesc → Bool
  | .struct fs => fs.all fun f => (P.info? f.type).isSome
  | _ => true

/-- a type's row, off the program -/
def mkTI (P : Program) (t : TypeId) : TI :=
  match P.info? t, P.underlying t with
  | some i, some d =>
    match i.zero with
    | some v => { known := zOk v && fieldsOk P d, td := mkTD d, size := i.size, agg := aggOf d, zero := some (mkZero d v), plain := !(P.eqGuardType P.depth t) }
    | none => { known := fieldsOk P d, td := mkTD d, size := i.size, agg := aggOf d, zero := none, plain := !(P.eqGuardType P.depth t) }
  | _, _ => { known := false, td := .other, size := 0, agg := false, zero := none, plain := false }

theorem mkTI_ok {P : Program} {t : TypeId} (h : (mkTI P t).known = true) : TOk P t (mkTI P t) := by
  unfold mkTI at h ⊢
  split at h
  · rename_i i d hi hd
    have hf : fieldsOk P d = true → ∀ fs, P.underlying t = some (.struct fs) → ∀ f ∈ fs, ∃ i, P.info? f.type = some i := by
      intro hf fs hds f hfm
      rw [hd] at hds
      simp only [Option.some.injEq] at hds
      subst hds
      simp only [fieldsOk, Array.all_eq_true_iff_forall_mem] at hf
      exact Option.isSome_iff_exists.1 (hf f hfm)
    split at h
    · rename_i v hv
      simp only [Bool.and_eq_true] at h
      refine ⟨⟨i, hi, rfl, fun z hz => ⟨v, hv, ?_⟩⟩, ⟨d, hd, mkTD_rel d, rfl⟩, hf h.2, fun hp => by simpa using hp⟩
      simp only [Option.some.injEq] at hz
      rw [← hz]; exact mkZero_rel h.1
    · rename_i hv
      exact ⟨⟨i, hi, rfl, fun z hz => by cases hz⟩, ⟨d, hd, mkTD_rel d, rfl⟩, hf h, fun hp => by simpa using hp⟩
  · cases h

def noTI : TI := { known := false, td := .other, size := 0, agg := false, zero := none, plain := false }

def tiOf (L : List (Nat × TI)) (t : Nat) : TI :=
  match L.lookup t with
  | some x => x
  | none => noTI

theorem lookup_mem' {α : Type} {t : Nat} {x : α} : ∀ {L : List (Nat × α)}, L.lookup t = some x → (t, x) ∈ L
  | [], e => by cases e
  | (y, z) :: l, e => by
    simp only [List.lookup] at e
    split at e
    · rename_i hb
      simp only [Option.some.injEq] at e
      have : t = y := by simpa using hb
      simp [this, e]
    · exact List.mem_cons_of_mem _ (lookup_mem' e)

theorem tiOf_ok {P : Program} {L : List (Nat × TI)} (h : ∀ p ∈ L, TOk P p.1 p.2) : TIok P (tiOf L) := by
  unfold TIok
  intro t hk
  unfold tiOf at hk ⊢
  split at hk
  · rename_i x hx
    exact h _ (lookup_mem' hx)
  · cases hk

theorem TOk.of_eq {P : Program} {t : TypeId} {x : TI} (h : mkTI P t = x) (hk : x.known = true) : TOk P t x := by
  subst h; exact mkTI_ok hk

end Go.Eng

set_option linter.unusedSimpArgs false
set_option linter.unusedVariables false
namespace Go.Eng
open Go
theorem runCalm_append {ar real : Ar} {ti : TypeId → TI} {tbl : Tbl} {ops : Array Oper} {n0 : Nat} : ∀ {l1 : List Oper} {l2 : List Oper} {i : Nat} {r r1 : RS}, runCalm ar real ti tbl ops n0 i l1 r = some r1 →
    runCalm ar real ti tbl ops n0 i (l1 ++ l2) r = runCalm ar real ti tbl ops n0 (i + l1.length) l2 r1
  | [], l2, i, r, r1, h => by
    simp only [runCalm, Option.some.injEq] at h
    subst h; rfl
  | o :: l1, l2, i, r, r1, h => by
    simp only [runCalm] at h
    simp only [List.cons_append, runCalm, List.length_cons]
    cases hg : guardAt ar ops r o with
    | none => rw [hg] at h; cases h
    | some br =>
      obtain ⟨b, r2⟩ := br
      rw [hg] at h
      cases b with
      | false =>
        simp only at h ⊢
        rw [runCalm_append h, Nat.add_assoc, Nat.add_comm 1]
      | true =>
        simp only at h ⊢
        by_cases hl : Nat.ble (lab tbl.hc r2.tmps o.op).1 1 = true
        · rw [if_pos hl] at h
          rw [if_pos hl]
          cases h1 : evOp ar real ti tbl (fun n => decide (n < n0)) (n0 + i) o r2 r2.heap with
          | none => rw [h1] at h; cases h
          | some r3 =>
            rw [h1] at h
            simp only at h ⊢
            rw [runCalm_append h, Nat.add_assoc, Nat.add_comm 1]
        · rw [if_neg hl] at h; cases h

/-- a calm region in two parts: each is evaluated by itself -/
theorem exec_calm {ar real : Ar} {ti : TypeId → TI} {tbl : Tbl} {d n : Nat} {u : Bool} (k : Nat) {id : Nat} {ops : Array Oper} {K : List Item} {t : List V} {h : Heap} {o : List Prop} {hs : List Bool} {r1 r2 : RS} {c : Cfg}
    (hc : ops.toList.all (fun o => calmOp tbl.hc o.op) = true) (hk : (ops.toList.take k).length = k)
    (h1 : runCalm ar real ti tbl ops h.length 0 (ops.toList.take k) ⟨t, h, [], hs, o⟩ = some r1)
    (h2 : runCalm ar real ti tbl ops h.length k (ops.toList.drop k) r1 = some r2)
    (h3 : exec ar real ti tbl d u n ⟨applyDec r2.dec r2.tmps, r2.heap, K, r2.obs, r2.hints⟩ = c) :
    exec ar real ti tbl d u (n + 1) ⟨t, h, .code (.region id ops true) :: K, o, hs⟩ = c := by
  have e : runCalm ar real ti tbl ops h.length 0 ops.toList ⟨t, h, [], hs, o⟩ = some r2 := by
    have := runCalm_append (l2 := ops.toList.drop k) h1
    rw [List.take_append_drop] at this
    rw [this, hk, Nat.zero_add, h2]
  rw [← h3]
  simp only [exec, isBack, isLoop, Bool.and_false, Bool.false_eq_true, if_false, step, runRegion, runAny, if_pos hc, e]
theorem exec_add {ar real : Ar} {ti : TypeId → TI} {tbl : Tbl} {d : Nat} {u : Bool} (b : Nat) : ∀ (a : Nat) (c : Cfg), exec ar real ti tbl d u (a + b) c = exec ar real ti tbl d u b (exec ar real ti tbl d u a c)
  | 0, c => by rw [Nat.zero_add]; rfl
  | a + 1, c => by
    have stop : ∀ {c : Cfg}, (isBack d c.todo = true ∨ (!u && isLoop c.todo) = true ∨ step ar real ti tbl c = none) → ∀ n, exec ar real ti tbl d u n c = c := by
      intro c h n
      cases n with
      | zero => rfl
      | succ n =>
        simp only [exec]
        by_cases h1 : isBack d c.todo = true
        · rw [if_pos h1]
        · by_cases h2 : (!u && isLoop c.todo) = true
          · rw [if_neg h1, if_pos h2]
          · rw [if_neg h1, if_neg h2]
            rcases h with h | h | h
            · exact absurd h h1
            · exact absurd h h2
            · rw [h]
    rw [Nat.add_right_comm]
    by_cases h1 : isBack d c.todo = true
    · rw [stop (.inl h1), stop (.inl h1), stop (.inl h1)]
    · by_cases h2 : (!u && isLoop c.todo) = true
      · rw [stop (.inr (.inl h2)), stop (.inr (.inl h2)), stop (.inr (.inl h2))]
      · cases h3 : step ar real ti tbl c with
        | none => rw [stop (.inr (.inr h3)), stop (.inr (.inr h3)), stop (.inr (.inr h3))]
        | some c' =>
          have e : ∀ n, exec ar real ti tbl d u (n + 1) c = exec ar real ti tbl d u n c' := by
            intro n
            simp only [exec]
            rw [if_neg h1, if_neg h2, h3]
          rw [e, e, exec_add b a c']
/-- an evaluation in two parts -/
theorem exec_stage {ar real : Ar} {ti : TypeId → TI} {tbl : Tbl} {d a b : Nat} {u : Bool} {c c1 c2 : Cfg} (h1 : exec ar real ti tbl d u a c = c1) (h2 : exec ar real ti tbl d u b c1 = c2) : exec ar real ti tbl d u (a + b) c = c2 := by
  rw [exec_add, h1, h2]
end Go.Eng

