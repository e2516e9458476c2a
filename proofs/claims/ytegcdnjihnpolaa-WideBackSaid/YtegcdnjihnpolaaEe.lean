import Derived.Test.YtegcdnjihnpolaaEd
set_option linter.unusedSimpArgs false
set_option linter.unusedVariables false
namespace Go.Eng
open Go Go.RowKit

/-- the operations once more, under a name of their own: an evaluation keeps them folded -/
def arS : Ar := arR

def okC (n : Nat) : C → Bool
  | .ptr b _ => Nat.blt b n
  | .sl b _ _ _ => Nat.blt b n
  | _ => true
def okG (n : Nat) : G → Bool
  | .lst cs => cs.all (okC n)
  | .ints .. => true
def okA (n : Nat) : A → Bool
  | .one c => okC n c
  | .agg g => okG n g
def okV (n : Nat) : V → Bool
  | .a x => okA n x
  | .tup xs => xs.all (okA n)
  | .any => true
def okB (n : Nat) : Option Blk → Bool
  | some b => okG n b.g
  | none => true

/-- some slots alone are kept -/
def keepT (keep : List Nat) : Nat → List V → List V
  | _, [] => []
  | i, v :: l => (if keep.contains i then v else .any) :: keepT keep (i + 1) l

section
variable {P : Program} {W0 : World} {m0 : Nat} {ρ : Ren} {fn : Func} {R : V → Heap → Prop} {hc : FuncId → Bool}

theorem okC_rel {n : Nat} {c : C} {v : Value} (h : CRel ρ c v) (hk : okC n c = true) : CRel (fun k => if k < n then ρ k else none) c v := by
  cases c <;> try exact h
  case ptr b off =>
    obtain ⟨r, o, h1, h2⟩ := h
    have : b < n := by simpa [okC] using hk
    exact ⟨r, o, by simp [this, h1], h2⟩
  case sl b off len cap =>
    obtain ⟨r, o, h1, h2⟩ := h
    have : b < n := by simpa [okC] using hk
    exact ⟨r, o, by simp [this, h1], h2⟩

theorem okG_at {n : Nat} {g : G} (hk : okG n g = true) {j : Nat} {x : C} (hx : g.at j = some x) : okC n x = true := by
  cases g with
  | lst cs => exact List.all_eq_true.1 hk x (List.mem_of_getElem? hx)
  | ints k m f =>
    simp only [G.at] at hx
    split at hx
    · simp only [Option.some.injEq] at hx; subst hx; rfl
    · cases hx

theorem okA_rel {n : Nat} {x : A} {v : Value} (h : ARel ρ x v) (hk : okA n x = true) : ARel (fun k => if k < n then ρ k else none) x v := by
  cases x with
  | one c => exact okC_rel h hk
  | agg g =>
    obtain ⟨arr, e, h1, h2⟩ := h
    exact ⟨arr, e, h1, fun j x hx => let ⟨u, a, b⟩ := h2 j x hx; ⟨u, a, okC_rel b (okG_at hk hx)⟩⟩

theorem okV_rel {n : Nat} {x : V} {v : Value} (h : VRel ρ x v) (hk : okV n x = true) : VRel (fun k => if k < n then ρ k else none) x v := by
  cases x with
  | a x => exact okA_rel h hk
  | tup xs =>
    obtain ⟨arr, e, h1, h2⟩ := h
    exact ⟨arr, e, h1, fun j x hx => let ⟨u, a, b⟩ := h2 j x hx; ⟨u, a, okA_rel b (List.all_eq_true.1 hk x (List.mem_of_getElem? hx))⟩⟩
  | any => exact True.intro

theorem keepT_get {keep : List Nat} : ∀ {l : List V} {i j : Nat} {x : V}, (keepT keep i l)[j]? = some x → ∃ y, l[j]? = some y ∧ (x = y ∨ x = .any)
  | [], i, j, x, h => by simp [keepT] at h
  | v :: l, i, 0, x, h => by
    simp only [keepT, List.getElem?_cons_zero, Option.some.injEq] at h
    refine ⟨v, rfl, ?_⟩
    split at h <;> simp [← h]
  | v :: l, i, j + 1, x, h => by
    simp only [keepT, List.getElem?_cons_succ] at h
    simpa using keepT_get h
theorem keepT_len {keep : List Nat} : ∀ {l : List V} {i : Nat}, (keepT keep i l).length = l.length
  | [], _ => rfl
  | _ :: l, i => by simp [keepT, keepT_len (l := l)]

/-- FORGETTING: slots that are not kept, and what memory holds from n on -/
theorem Run.forget {c : Cfg} (keep : List Nat) (n : Nat) (hn : m0 ≤ n) (hT : (keepT keep 0 c.tmps).all (okV n) = true) (hB : (c.heap.take n).all (okB n) = true)
    (h : Run P hc W0 m0 fn R ⟨keepT keep 0 c.tmps, c.heap.take n, c.todo, [], []⟩) : Run P hc W0 m0 fn R c := by
  intro hok hm ρ tmps w b cs hTr hH
  have conv : Fin P W0 m0 fn R (fun k => if k < n then ρ k else none) b cs (lone (b.at ⟨tmps, []⟩ c.todo) cs w) → Fin P W0 m0 fn R ρ b cs (lone (b.at ⟨tmps, []⟩ c.todo) cs w) := by
    rintro ⟨ρ', v, v', h'', w', tmps', todo', a1, a2, a3, a4, a5, a6⟩
    exact ⟨ρ', v, v', h'', w', tmps', todo', a1, a2, a3, a4, a5, fun k p hk hp => a6 k p hk (by simp only; rw [if_pos (by omega)]; exact hp)⟩
  refine conv (h hok (by simp; omega) (fun k => if k < n then ρ k else none) tmps w b cs ⟨by simp [hTr.1, keepT_len], fun j x hx => ?_⟩ ?_)
  · have hox := List.all_eq_true.1 hT x (List.mem_of_getElem? hx)
    obtain ⟨y, hy, hxy⟩ := keepT_get hx
    obtain ⟨v, h1, h2⟩ := hTr.2 j y hy
    refine ⟨v, h1, ?_⟩
    rcases hxy with rfl | rfl
    · exact okV_rel h2 hox
    · exact True.intro
  · have hget : ∀ (k : Nat) (bb : Blk), (c.heap.take n)[k]? = some (some bb) → k < n ∧ c.heap[k]? = some (some bb) := by
      intro k bb hk
      have hlt : k < n := by
        have := (List.getElem?_eq_some_iff.1 hk).1
        simp at this; omega
      rw [List.getElem?_take_of_lt hlt] at hk
      exact ⟨hlt, hk⟩
    have hρ : ∀ k p, (if k < n then ρ k else none) = some p → k < n ∧ ρ k = some p := by
      intro k p hk
      split at hk
      · rename_i h; exact ⟨h, hk⟩
      · cases hk
    refine ⟨hH.os, hH.tape, hH.output, hH.size, fun k hk hno => ?_, fun k p hk => ?_, fun k bb hk => ?_, fun k m r o o' bb hne hk hro e1 e2 => ?_, fun k r o hk e => hH.new k r o hk (hρ _ _ e).2⟩
    · refine hH.frame k hk fun m bb o hm2 hro e => ?_
      by_cases hmn : m < n
      · exact hno m bb o (by simp only; rw [List.getElem?_take_of_lt hmn]; exact hm2) hro (by simp [hmn, e])
      · have := hH.new m k o (by omega) e
        omega
    · obtain ⟨hlt, e⟩ := hρ k p hk
      obtain ⟨bb, hb⟩ := hH.dom k p e
      exact ⟨bb, by simp only; rw [List.getElem?_take_of_lt hlt]; exact hb⟩
    · obtain ⟨hlt, e⟩ := hget k bb hk
      obtain ⟨r, o, h1, cc, ty, fz, h2, h3, h4⟩ := hH.blk k bb e
      refine ⟨r, o, by simp [hlt, h1], cc, ty, fz, h2, h3, fun j x hx => ?_⟩
      obtain ⟨v, a1, a2⟩ := h4 j x hx
      exact ⟨v, a1, okC_rel a2 (okG_at (List.all_eq_true.1 hB _ (List.mem_of_getElem? hk)) hx)⟩
    · obtain ⟨-, e⟩ := hget k bb hk
      exact hH.sep k m r o o' bb hne e hro (hρ _ _ e1).2 (hρ _ _ e2).2

theorem Run.same {t : List V} {h : Heap} {T : List Item} {o o' : List Prop} {s s' : List Bool} (hr : Run P hc W0 m0 fn R ⟨t, h, T, o, s⟩) : Run P hc W0 m0 fn R ⟨t, h, T, o', s'⟩ := hr

/-- A LOOP, from its head: S i: what the slots and the memory hold; the measure goes down -/
theorem Run.loop {ι : Type} (S : ι → List V × Heap) (μ : ι → Nat) {c : Code} {k : List Item} (i0 : ι)
    (round : ∀ i, (∀ j, μ j < μ i → ∀ o s, Run P hc W0 m0 fn R ⟨(S j).1, (S j).2, .inLoop c :: k, o, s⟩) → Run P hc W0 m0 fn R ⟨(S i).1, (S i).2, .code c :: .inLoop c :: k, [], []⟩) {o : List Prop} {s : List Bool} :
    Run P hc W0 m0 fn R ⟨(S i0).1, (S i0).2, .code (.loop c) :: k, o, s⟩ := by
  have body : ∀ n i, μ i = n → Run P hc W0 m0 fn R ⟨(S i).1, (S i).2, .code c :: .inLoop c :: k, [], []⟩ := by
    intro n
    induction n using Nat.strongRecOn with
    | _ n ih =>
      intro i hi
      refine round i fun j hj o s => ?_
      intro hok hm ρ tmps w b cs hT hH
      refine .of_steps (.one step_inLoop) (ih (μ j) (by omega) j rfl ?_ hm ρ tmps w b cs hT hH)
      simp only [itemsOk_cons, itemOk, Bool.and_eq_true] at hok ⊢
      exact ⟨hok.1, hok.1, hok.2⟩
  intro hok hm ρ tmps w b cs hT hH
  refine .of_steps (.one step_loop) (body _ i0 rfl ?_ hm ρ tmps w b cs hT hH)
  simp only [itemsOk_cons, itemOk, codeOk, Bool.and_eq_true] at hok ⊢
  exact ⟨hok.1, hok.1, hok.2⟩

theorem Run.exec {ti : TypeId → TI} (hm : P.follows .mixedOrders = true) (hti : TIok P ti) {tbl : Tbl} (htbl : TblOk P tbl) (d : Nat) (u : Bool) (n : Nat) (hints : List Bool) {t : List V} {h : Heap} {T : List Item} {o : List Prop} {s : List Bool} {c' : Cfg}
    (he : exec arR arR ti tbl d u n ⟨t, h, T, [], hints⟩ = c') (hq : ∀ q ∈ c'.obs, q) (hr : Run P tbl.hc W0 m0 fn R c') : Run P tbl.hc W0 m0 fn R ⟨t, h, T, o, s⟩ := by
  subst he
  exact exec_run hm hti htbl d u n ⟨t, h, T, [], hints⟩ ⟨hq, hr⟩

/-- a value says no more than another one -/
def VLe (x v : V) : Prop := ∀ ρ u, VRel ρ x u → VRel (fun _ => none) v u
def ALe (x v : A) : Prop := ∀ ρ u, ARel ρ x u → ARel (fun _ => none) v u

theorem VLe.a {x y : A} (h : ALe x y) : VLe (.a x) (.a y) := h
theorem VLe.tup2 {a b a' b' : A} (h1 : ALe a a') (h2 : ALe b b') : VLe (.tup [a, b]) (.tup [a', b']) := by
  rintro ρ u ⟨arr, e, hs, h⟩
  refine ⟨arr, e, hs, fun j x hx => ?_⟩
  match j with
  | 0 => simp at hx; subst hx; obtain ⟨v, a1, a2⟩ := h 0 a rfl; exact ⟨v, a1, h1 _ _ a2⟩
  | 1 => simp at hx; subst hx; obtain ⟨v, a1, a2⟩ := h 1 b rfl; exact ⟨v, a1, h2 _ _ a2⟩
  | j + 2 => simp at hx
theorem VLe.tup3 {a b c a' b' c' : A} (h1 : ALe a a') (h2 : ALe b b') (h3 : ALe c c') : VLe (.tup [a, b, c]) (.tup [a', b', c']) := by
  rintro ρ u ⟨arr, e, hs, h⟩
  refine ⟨arr, e, hs, fun j x hx => ?_⟩
  match j with
  | 0 => simp at hx; subst hx; obtain ⟨v, a1, a2⟩ := h 0 a rfl; exact ⟨v, a1, h1 _ _ a2⟩
  | 1 => simp at hx; subst hx; obtain ⟨v, a1, a2⟩ := h 1 b rfl; exact ⟨v, a1, h2 _ _ a2⟩
  | 2 => simp at hx; subst hx; obtain ⟨v, a1, a2⟩ := h 2 c rfl; exact ⟨v, a1, h3 _ _ a2⟩
  | j + 3 => simp at hx
theorem ALe.int {k : IntKind} {n m : Int} (h : n = m) : ALe (.one (.int k n)) (.one (.int k m)) := by
  intro ρ u hu; subst h; exact hu
theorem ALe.lit {k : IntKind} {n m : Int} (h : n = m) : ALe (.one (.lit k n)) (.one (.int k m)) := by
  intro ρ u hu; subst h; exact hu
theorem ALe.bool {a b : Bool} (h : a = b) : ALe (.one (.bool a)) (.one (.bool b)) := by
  intro ρ u hu; subst h; exact hu
theorem ALe.lbool {a b : Bool} (h : a = b) : ALe (.one (.lbool a)) (.one (.bool b)) := by
  intro ρ u hu; subst h; exact hu
theorem ALe.ints {k : IntKind} {n : N} {f g : Nat → Int} (h : ∀ j, j < n.val → f j = g j) : ALe (.agg (.ints k n f)) (.agg (.ints k n g)) := by
  rintro ρ u ⟨arr, e, h1, h2⟩
  refine ⟨arr, e, h1, fun j x hx => ?_⟩
  simp only [G.at] at hx
  by_cases hj : j < n.val
  · rw [if_pos hj] at hx
    simp only [Option.some.injEq] at hx
    subst hx
    obtain ⟨v, a1, a2⟩ := h2 j (.int k (f j)) (by simp only [G.at]; rw [if_pos hj])
    exact ⟨v, a1, by rw [← h j hj]; exact a2⟩
  · rw [if_neg hj] at hx; cases hx

/-- A CONTRACT, BY THE RUN OF ITS BODY -/
theorem CallOk.of_run {f : FuncId} {body : Code} (hf : P.funcs[f]? = some fn) (hb : fn.body = some body) (hname : (fn.name == "runtime.NumGoroutine") = false) (hok : codeOk hc body = true) {s : ESpec}
    (h : ∀ as v ps, s as = some (v, ps) → (∀ p ∈ ps, p) → ∀ w, Run P hc w 0 fn (fun x _ => VLe x v) ⟨as.map V.a ++ List.replicate (fn.ntmps - as.length) (.tup []), [], [.code body], [], []⟩) : CallOk P f s := by
  intro as v ps hs hp args w ha o a K Q hK
  have hcf : (callFunc f args).run P w = .ok (.enter f args) w := by
    have h1 : fn.name ≠ "runtime.NumGoroutine" := by simpa using hname
    simp [callFunc, program, Sem.run_bind, Sem.run, hf, h1, hb, Sem.run_pure]
  rw [hcf, Oper.upon_enter]
  intro cs
  let b : Frame := { (default : Frame) with fn := f, kind := .normal }
  have henter : Frame.enter P f args .normal = b.at { tmps := args ++ Array.replicate (fn.ntmps - args.size) undef, defers := [] } [.code body] := by
    simp [Frame.enter, Frame.at, hf, hb, b]
  have hT : TRel (fun _ => none) (as.map V.a ++ List.replicate (fn.ntmps - as.length) (.tup [])) (args ++ Array.replicate (fn.ntmps - args.size) undef) := by
    refine ⟨by simp [ha.1], fun j x hx => ?_⟩
    by_cases hj : j < as.length
    · rw [List.getElem?_append_left (by simpa using hj)] at hx
      simp only [List.getElem?_map, Option.map_eq_some_iff] at hx
      obtain ⟨y, hy, rfl⟩ := hx
      obtain ⟨u, h1, h2⟩ := ha.2 j y hy
      exact ⟨u, by rw [Array.getElem?_append_left (by rw [ha.1]; exact hj)]; exact h1, h2⟩
    · rw [List.getElem?_append_right (by simpa using hj)] at hx
      have hx' := List.mem_of_getElem? hx
      have hlt := (List.getElem?_eq_some_iff.1 hx).1
      simp at hlt
      obtain rfl : x = .tup [] := (List.mem_replicate.1 hx').2
      refine ⟨undef, ?_, undef_rel⟩
      rw [Array.getElem?_append_right (by rw [ha.1]; omega), Array.getElem?_replicate, if_pos (by rw [ha.1]; omega)]
  have hH : HRel w 0 (fun _ => none) [] w := ⟨rfl, rfl, rfl, Nat.le_refl _, fun _ _ _ => rfl, fun n p h => by simp at h, fun n b h => by simp at h, fun n m r o o' b _ h => by simp at h, fun n r o _ h => by simp at h⟩
  obtain ⟨ρ', x, v', h', w', tmps', todo', hst, hres, hv, hh, hR, -⟩ := h as v ps hs hp w (by simp [itemsOk, itemOk, hok]) (Nat.zero_le _) _ _ w b cs hT hH
  refine ⟨.returned v', w', { b.at ⟨tmps', []⟩ todo' with mode := .returning }, ?_, by rw [henter]; exact hst, rfl, rfl, rfl, rfl, fn, hf, hres⟩
  refine hK v' w' (hR ρ' v' hv) ⟨hh.os, hh.tape, hh.output, hh.size, fun k hk => hh.frame k hk fun n b o _ _ e => ?_⟩
  have := hh.new n k o (Nat.zero_le _) e
  omega

/-- a body's whole evaluation: what it hands back, what it owes -/
def evalFn (ar : Ar) (ti : TypeId → TI) (tbl : Tbl) (n : Nat) (hints : List Bool) (rs : List ResultVar) (t : List V) (h : Heap) (T : List Item) : Option (V × List Prop) :=
  let c := exec ar arR ti tbl 0 true n ⟨t, h, T, [], hints⟩
  match c.todo with
  | .code .ret :: _ | [] => match resOf ti c.tmps c.heap rs with
    | some v => some (v, c.obs)
    | none => none
  | _ => none

theorem Run.evalFn {ti : TypeId → TI} (hm : P.follows .mixedOrders = true) (hti : TIok P ti) {tbl : Tbl} (htbl : TblOk P tbl) {n : Nat} {hints : List Bool} {t : List V} {h : Heap} {T : List Item} {o : List Prop} {s : List Bool} {v : V} {ps : List Prop}
    (he : Go.Eng.evalFn arR ti tbl n hints fn.results.toList t h T = some (v, ps)) (hq : ∀ q ∈ ps, q) (hR : ∀ h', R v h') : Run P tbl.hc W0 m0 fn R ⟨t, h, T, o, s⟩ := by
  have main : Run P tbl.hc W0 m0 fn R ⟨t, h, T, [], hints⟩ := by
    unfold Go.Eng.evalFn at he
    simp only at he
    split at he
    · rename_i k hk
      split at he
      · rename_i v' hv
        simp only [Option.some.injEq, Prod.mk.injEq] at he
        obtain ⟨rfl, rfl⟩ := he
        exact exec_run hm hti htbl 0 true n _ ⟨hq, Run.ret hti hk hv (hR _)⟩
      · cases he
    · rename_i hk
      split at he
      · rename_i v' hv
        simp only [Option.some.injEq, Prod.mk.injEq] at he
        obtain ⟨rfl, rfl⟩ := he
        exact exec_run hm hti htbl 0 true n _ ⟨hq, Run.fin hti hk hv (hR _)⟩
      · cases he
    · cases he
  exact main

/-- a contract by one evaluation, where every loop is gone through -/
theorem CallOk.eval {Λ : Type} {ti : TypeId → TI} (hm : P.follows .mixedOrders = true) (hti : TIok P ti) {tb : Λ → Tbl} {l0 : Λ} (htbl : TblOk P (tb l0)) {f : FuncId} {body : Code} (hf : P.funcs[f]? = some fn) (hb : fn.body = some body) (hname : (fn.name == "runtime.NumGoroutine") = false) (hok : codeOk (tb l0).hc body = true) {s : ESpec}
    (h : ∀ as v ps, s as = some (v, ps) → (∀ p ∈ ps, p) → ∃ n hints, ∃ F : Ar → Λ → V × List Prop, (∀ ar l, Go.Eng.evalFn ar ti (tb l) n hints fn.results.toList (as.map V.a ++ List.replicate (fn.ntmps - as.length) (.tup [])) [] [.code body] = some (F ar l)) ∧
      (∀ q ∈ (F arR l0).2, q) ∧ VLe (F arR l0).1 v) : CallOk P f s := by
  refine .of_run hf hb hname hok fun as v ps hs hp w => ?_
  obtain ⟨n, hints, F, h1, h2, h3⟩ := h as v ps hs hp
  exact Run.evalFn hm hti htbl (h1 arR l0) h2 (fun _ => h3)

/-! contracts on memory -/
/-- a cell says no more than another one, its names below k -/
def CLe (k : Nat) (x y : C) : Prop := ∀ (ρ : Ren) u, CRel ρ x u → CRel (fun n => if n < k then ρ n else none) y u
def GLe (k : Nat) (g g' : G) : Prop := ∀ (j : Nat) y, g'.at j = some y → ∃ x, g.at j = some x ∧ CLe k x y
def VLeK (k : Nat) (x v : V) : Prop := ∀ (ρ : Ren) u, VRel ρ x u → VRel (fun n => if n < k then ρ n else none) v u
def BLe (k : Nat) : List Blk → Heap → Prop := fun bs h => ∀ (i : Nat) b', bs[i]? = some b' → ∃ b, h[i]? = some (some b) ∧ b.ro = b'.ro ∧ GLe k b.g b'.g

theorem CLe.refl {k : Nat} {x : C} (h : okC k x = true) : CLe k x x := fun ρ u hu => okC_rel hu h
theorem GLe.refl {k : Nat} {g : G} (h : okG k g = true) : GLe k g g := fun j y hy => ⟨y, hy, .refl (okG_at h hy)⟩
theorem GLe.ints {k : Nat} {kd : IntKind} {n : N} {f g : Nat → Int} (h : ∀ j, j < n.val → f j = g j) : GLe k (.ints kd n f) (.ints kd n g) := by
  intro j y hy
  simp only [G.at] at hy ⊢
  by_cases hj : j < n.val
  · rw [if_pos hj] at hy ⊢
    simp only [Option.some.injEq] at hy
    subst hy
    exact ⟨_, rfl, by rw [h j hj]; exact .refl rfl⟩
  · rw [if_neg hj] at hy; cases hy
theorem VLeK.refl {k : Nat} {x : V} (h : okV k x = true) : VLeK k x x := fun ρ u hu => okV_rel hu h
theorem VLeK.of {k : Nat} {x v : V} (h : VLe x v) : VLeK k x v := fun ρ u hu => (h ρ u hu).ext (fun _ _ e => by cases e)

/-- A CONTRACT ON MEMORY, BY THE RUN OF ITS BODY -/
theorem HOk.of_run {f : FuncId} {body : Code} (hf : P.funcs[f]? = some fn) (hb : fn.body = some body) (hname : (fn.name == "runtime.NumGoroutine") = false) (hok : codeOk hc body = true) {s : HSpec}
    (h : ∀ las lbs v lbs' ps, s las lbs = some (v, lbs', ps) → (∀ p ∈ ps, p) → lbs'.length = lbs.length ∧ ∀ w, Run P hc w lbs.length fn (fun x h' => VLeK lbs.length x v ∧ BLe lbs.length lbs' h') ⟨las.map V.a ++ List.replicate (fn.ntmps - las.length) (.tup []), lbs.map some, [.code body], [], []⟩) : HOk P f s := by
  intro as lbs v lbs' ps hs hp ρ args w ha hH o a K Q hK
  obtain ⟨hlen, hrun⟩ := h as lbs v lbs' ps hs hp
  have hcf : (callFunc f args).run P w = .ok (.enter f args) w := by
    have h1 : fn.name ≠ "runtime.NumGoroutine" := by simpa using hname
    simp [callFunc, program, Sem.run_bind, Sem.run, hf, h1, hb, Sem.run_pure]
  rw [hcf, Oper.upon_enter]
  intro cs
  let b : Frame := { (default : Frame) with fn := f, kind := .normal }
  have henter : Frame.enter P f args .normal = b.at { tmps := args ++ Array.replicate (fn.ntmps - args.size) undef, defers := [] } [.code body] := by
    simp [Frame.enter, Frame.at, hf, hb, b]
  have hT : TRel ρ (as.map V.a ++ List.replicate (fn.ntmps - as.length) (.tup [])) (args ++ Array.replicate (fn.ntmps - args.size) undef) := by
    refine ⟨by simp [ha.1], fun j x hx => ?_⟩
    by_cases hj : j < as.length
    · rw [List.getElem?_append_left (by simpa using hj)] at hx
      simp only [List.getElem?_map, Option.map_eq_some_iff] at hx
      obtain ⟨y, hy, rfl⟩ := hx
      obtain ⟨u, h1, h2⟩ := ha.2 j y hy
      exact ⟨u, by rw [Array.getElem?_append_left (by rw [ha.1]; exact hj)]; exact h1, h2⟩
    · rw [List.getElem?_append_right (by simpa using hj)] at hx
      have hx' := List.mem_of_getElem? hx
      have hlt := (List.getElem?_eq_some_iff.1 hx).1
      simp at hlt
      obtain rfl : x = .tup [] := (List.mem_replicate.1 hx').2
      refine ⟨undef, ?_, undef_rel⟩
      rw [Array.getElem?_append_right (by rw [ha.1]; omega), Array.getElem?_replicate, if_pos (by rw [ha.1]; omega)]
  obtain ⟨ρ', x, v', h', w', tmps', todo', hst, hres, hv, hh, ⟨hR1, hR2⟩, hag⟩ := hrun w (by simp [itemsOk, itemOk, hok]) (by simp) ρ _ w b cs hT hH
  have hρ : ρ = fun n => if n < lbs.length then ρ' n else none := by
    funext n
    by_cases hn : n < lbs.length
    · rw [if_pos hn]
      obtain ⟨r, o', e, -⟩ := hH.blk n lbs[n] (by simp [hn])
      rw [e, hag n _ hn e]
    · rw [if_neg hn]
      cases hx : ρ n with
      | none => rfl
      | some p =>
        obtain ⟨bb, hb'⟩ := hH.dom n p hx
        have := (List.getElem?_eq_some_iff.1 hb').1
        simp at this; omega
  refine ⟨.returned v', w', { b.at ⟨tmps', []⟩ todo' with mode := .returning }, ?_, by rw [henter]; exact hst, rfl, rfl, rfl, rfl, fn, hf, hres⟩
  have hv2 := hR1 ρ' v' hv
  rw [← hρ] at hv2
  refine hK v' w' hv2 ?_
  have hin : ∀ n r o, ρ n = some (r, o) → n < lbs.length ∧ ρ' n = some (r, o) := by
    intro n r o e
    rw [hρ] at e
    simp only at e
    split at e
    · rename_i hlt; exact ⟨hlt, e⟩
    · cases e
  have hblk : ∀ (n : Nat) bb, (lbs'.map some)[n]? = some (some bb) → ∃ b, h'[n]? = some (some b) ∧ b.ro = bb.ro ∧ GLe lbs.length b.g bb.g ∧ n < lbs.length := by
    intro n bb hn
    simp only [List.getElem?_map, Option.map_eq_some_iff] at hn
    obtain ⟨bb', hn, e⟩ := hn
    simp only [Option.some.injEq] at e
    subst e
    obtain ⟨b, h1, h2, h3⟩ := hR2 n bb' hn
    have := (List.getElem?_eq_some_iff.1 hn).1
    exact ⟨b, h1, h2, h3, by omega⟩
  refine ⟨hh.os, hh.tape, hh.output, hh.size, fun k hk hno => ?_, fun n p hn => ?_, fun n bb hn => ?_, fun n m r o1 o2 bb hnm hn hro e1 e2 => ?_, fun n r o hn e => by have := (hin n r o e).1; omega⟩
  · refine hh.frame k hk fun n b o hb' hro e => ?_
    by_cases hn : n < lbs.length
    · have hn' : n < lbs'.length := by omega
      obtain ⟨b2, g1, g2, g3, -⟩ := hblk n lbs'[n] (by simp [hn'])
      rw [hb'] at g1
      simp only [Option.some.injEq] at g1
      subst g1
      refine hno n lbs'[n] o (by simp [hn']) (by rw [← g2]; exact hro) ?_
      rw [hρ]; simp only [if_pos hn]; exact e
    · have := hh.new n k o (by omega) e
      omega
  · obtain ⟨hlt, -⟩ := hin n p.1 p.2 hn
    exact ⟨lbs'[n], by simp [show n < lbs'.length by omega]⟩
  · obtain ⟨b, h1, h2, h3, h4⟩ := hblk n bb hn
    obtain ⟨r, o, e, c, ty, fz, q1, q2, q3⟩ := hh.blk n b h1
    refine ⟨r, o, by rw [hρ]; simp only [if_pos h4]; exact e, c, ty, fz, q1, fun hr => q2 (by rw [h2]; exact hr), fun j y hy => ?_⟩
    obtain ⟨x, hx, hle⟩ := h3 j y hy
    obtain ⟨u, hu, hcu⟩ := q3 j x hx
    have := hle ρ' u hcu
    rw [← hρ] at this
    exact ⟨u, hu, this⟩
  · obtain ⟨b, h1, h2, h3, h4⟩ := hblk n bb hn
    exact hh.sep n m r o1 o2 b hnm h1 (by rw [h2]; exact hro) (hin _ _ _ e1).2 (hin _ _ _ e2).2

end
end Go.Eng
