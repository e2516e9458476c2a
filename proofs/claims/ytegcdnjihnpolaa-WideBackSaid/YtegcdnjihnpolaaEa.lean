import Derived.Test.YtegcdnjihnpolaaE9
set_option linter.unusedSimpArgs false
set_option linter.unusedVariables false
namespace Go.Eng
open Go Go.RowKit
section
variable {P : Program} {W0 : World} {m0 : Nat} {ρ : Ren}

theorem planOp_congr {ti : TypeId → TI} {tbl : Tbl} {ev ev' : Operand → V} {op : Op} (h : ∀ x ∈ op.operands.toList, ev x = ev' x) : planOp arR arR ti tbl ev op = planOp arR arR ti tbl ev' op := by
  unfold planOp
  split
  · rename_i f args T
    rw [argsOf_congr (ev' := ev') (fun x hx => h x (by simp only [Op.operands, Call.operands]; simp; exact .inr (by simpa using hx)))]
  · exact plan_congr h

theorem looks_op {ops : Array Oper} {o : Oper} {t : Tmp} (h : t ∉ o.looksAt ops) : ∀ x ∈ o.op.operands.toList, x ≠ .tmp t := by
  intro x hx e
  subst e
  exact h (List.mem_append_left _ (List.mem_filterMap.2 ⟨.tmp t, hx, rfl⟩))

theorem stepOp_put {ti : TypeId → TI} {tbl : Tbl} {ops : Array Oper} {al : Nat → Bool} {nm : Nat} {o : Oper} {tmps : List V} {h : Heap} {dst : Option Tmp} {v : V} (hd : ∀ d, dst = some d → d ∉ o.looksAt ops) :
    stepOp arR arR ti tbl al nm o.op (putV tmps dst v) h = stepOp arR arR ti tbl al nm o.op tmps h := by
  unfold stepOp
  rw [planOp_congr (ev' := opnd tmps) (fun x hx => opnd_putV (fun d e => looks_op (hd d e) x hx))]

theorem wantedA_put {ops : Array Oper} {o : Oper} {tmps : List V} {dst : Option Tmp} {v : V} (hd : ∀ d, dst = some d → d ∉ o.looksAt ops) : wantedA ops (putV tmps dst v) o = wantedA ops tmps o := by
  unfold wantedA
  cases hg : o.guard with
  | none => rfl
  | some g =>
    obtain ⟨j, want⟩ := g
    simp only
    cases ht : (ops[j]?).bind (·.dst) with
    | none => rfl
    | some t =>
      simp only
      rw [getD_putV]
      intro d e hdt
      subst hdt
      refine hd d e (List.mem_append_right _ ?_)
      simp [hg, ht]

theorem putV_comm {tmps : List V} {a b : Option Tmp} {u v : V} (h : ∀ d, a = some d → b ≠ some d) : putV (putV tmps a u) b v = putV (putV tmps b v) a u := by
  cases a with
  | none => rfl
  | some d =>
    cases b with
    | none => rfl
    | some e =>
      have : d ≠ e := fun x => h d rfl (by rw [x])
      simp only [putV]
      exact List.set_comm _ _ this

def plab : Plan → Nat × Nat
  | .callh .. => (4, 0)
  | .val _ => (0, 0)
  | .load b .. => (1, b)
  | .store b .. => (2, b)
  | .alloc _ => (3, 0)

theorem lab_plain {hc : FuncId → Bool} {ti : TypeId → TI} {tmps : List V} {p : Plan} {qs : List Prop} {op : Op} (h : kindOk ti (opnd tmps) p qs op) (hne : ∀ f args T, op ≠ .call { callee := .value (.func f), args := args, argTypes := T }) : plab p = lab hc tmps op := by
  cases op <;> simp only [kindOk] at h
  case load => obtain ⟨b, off, hc, _, rfl⟩ := h; simp only [plab, lab, hc]
  case store => obtain ⟨b, off, v, hc, _, _, rfl⟩ := h; simp only [plab, lab, hc]
  case alloc => obtain ⟨_, _, _, rfl⟩ := h; rfl
  case box => obtain ⟨_, _, rfl⟩ := h; rfl
  case call c =>
    obtain ⟨v, rfl⟩ := h
    obtain ⟨callee, args, T⟩ := c
    unfold lab
    split
    all_goals first | rfl | (rename_i e; simp only [Op.call.injEq, Call.mk.injEq] at e; obtain ⟨rfl, -, -⟩ := e; exact absurd rfl (hne _ _ _)) | (rename_i e; cases e)
  all_goals (obtain ⟨v, rfl⟩ := h; rfl)

theorem planOp_lab {ti : TypeId → TI} {tbl : Tbl} {tmps : List V} {op : Op} {p : Plan} {qs : List Prop} (h : planOp arR arR ti tbl (opnd tmps) op = some (p, qs)) : plab p = lab tbl.hc tmps op := by
  unfold planOp at h
  split at h
  · rename_i f args T
    split at h
    · split at h
      · rename_i hh
        split at h
        · simp only [Option.some.injEq, Prod.mk.injEq] at h
          rw [← h.1]
          simp [plab, lab, hh]
        · cases h
      · rename_i hh
        have hh : tbl.hc f = false := by simpa using hh
        (repeat' split at h) <;> first | (cases h; done) | (simp only [Option.some.injEq, Prod.mk.injEq] at h; rw [← h.1]; simp [plab, lab, hh])
    · cases h
  · rename_i hne
    exact lab_plain (plan_kind h) hne

theorem lab_put {hc : FuncId → Bool} {ops : Array Oper} {o : Oper} {tmps : List V} {dst : Option Tmp} {v : V} (hd : ∀ d, dst = some d → d ∉ o.looksAt ops) : lab hc (putV tmps dst v) o.op = lab hc tmps o.op := by
  have key : ∀ x ∈ o.op.operands.toList, opnd (putV tmps dst v) x = opnd tmps x := fun x hx => opnd_putV (fun d e => looks_op (hd d e) x hx)
  unfold lab
  split
  · rename_i t x e
    rw [key x (by rw [e]; simp [Op.operands])]
  · rename_i t x y e
    rw [key x (by rw [e]; simp [Op.operands])]
  all_goals rfl

theorem addAll_sub : ∀ {xs ns : List Nat} {n : Nat}, n ∈ ns → n ∈ addAll ns xs
  | [], ns, n, h => h
  | x :: xs, ns, n, h => by
    simp only [addAll]
    split
    · exact addAll_sub h
    · exact addAll_sub (by simp [h])
theorem clo_sub {h : Heap} : ∀ {k : Nat} {ns : List Nat} {n : Nat}, n ∈ ns → n ∈ clo h k ns
  | 0, ns, n, hn => hn
  | k + 1, ns, n, hn => by simp only [clo]; exact clo_sub (addAll_sub hn)
theorem clo_congr {h h' : Heap} : ∀ {k : Nat} {ns : List Nat}, (∀ n ∈ clo h k ns, h'[n]? = h[n]?) → clo h' k ns = clo h k ns
  | 0, ns, _ => rfl
  | k + 1, ns, hall => by
    simp only [clo] at hall ⊢
    have e : ns.flatMap (namesAt h') = ns.flatMap (namesAt h) := by
      have : ∀ n ∈ ns, namesAt h' n = namesAt h n := fun n hn => by
        unfold namesAt
        rw [hall n (clo_sub (addAll_sub hn))]
      clear hall
      induction ns with
      | nil => rfl
      | cons a l ih => simp only [List.flatMap_cons]; rw [this a (by simp), ih (fun n hn => this n (by simp [hn]))]
    rw [e]
    exact clo_congr hall

theorem setMany_set {nm : Nat} {B : Option Blk} : ∀ {ns : List Nat} {bs : List Blk} {h : Heap}, nm ∉ ns → setMany (h.set nm B) ns bs = (setMany h ns bs).set nm B
  | [], bs, h, _ => by cases bs <;> rfl
  | n :: ns, [], h, _ => rfl
  | n :: ns, b :: bs, h, hn => by
    simp only [setMany]
    rw [List.set_comm _ _ (fun e => hn (by simp [e])), setMany_set (fun e => hn (by simp [e]))]

theorem mapM_congr2 {α β : Type} {f g : α → Option β} {l : List α} (h : ∀ x ∈ l, f x = g x) : l.mapM f = l.mapM g := mapM_congr' h

theorem perform_callh {al : Nat → Bool} {nm : Nat} {h h1 : Heap} {s : HSpec} {args : List A} {v : V} {rs : List Prop} (hf : perform arR al nm h (.callh s args) = some (v, h1, rs)) :
    (∀ n ∈ reach h args, al n = true ∧ ∃ b, h[n]? = some (some b)) ∧ ∃ bs, h1 = setMany h (reach h args) bs ∧ ∀ h', (∀ n ∈ reach h args, h'[n]? = h[n]?) → perform arR al nm h' (.callh s args) = some (v, setMany h' (reach h args) bs, rs) := by
  simp only [perform] at hf
  split at hf
  · rename_i v' bs ps hp
    simp only [Option.some.injEq, Prod.mk.injEq] at hf
    obtain ⟨rfl, rfl, rfl⟩ := hf
    refine ⟨fun n hn => ?_, bs, rfl, fun h' hag => ?_⟩
    · unfold performH at hp
      split at hp
      · rename_i hall
        refine ⟨List.all_eq_true.1 hall n hn, ?_⟩
        split at hp
        · rename_i bb hbs
          obtain ⟨i, hi, e⟩ := List.getElem_of_mem hn
          obtain ⟨b, hb, -⟩ := mapM_some_get hbs i n (by rw [← e]; exact List.getElem?_eq_getElem hi)
          exact ⟨b, blkAt_eq hb⟩
        · cases hp
      · cases hp
    · have hr : reach h' args = reach h args := clo_congr hag
      have hpe : performH al h' (reach h args) s args = performH al h (reach h args) s args := by
        unfold performH
        rw [mapM_congr2 (g := blkAt h) (fun n hn => by unfold blkAt; rw [hag n hn])]
      simp only [perform, hr, hpe, hp]
  · cases hf

theorem perform_load {al : Nat → Bool} {nm : Nat} {h h1 : Heap} {b : Nat} {off : N} {s : Nat} {ag : Bool} {v : V} {rs : List Prop} (hf : perform arR al nm h (.load b off s ag) = some (v, h1, rs)) :
    al b = true ∧ h1 = h ∧ ∀ h', h'[b]? = h[b]? → perform arR al nm h' (.load b off s ag) = some (v, h', rs) := by
  unfold perform at hf
  simp only at hf
  split at hf
  · rename_i hal
    split at hf
    · rename_i blk hb
      split at hf
      · rename_i ha
        split at hf
        · rename_i g ps hc
          simp only [Option.some.injEq, Prod.mk.injEq] at hf
          obtain ⟨rfl, rfl, rfl⟩ := hf
          exact ⟨hal, rfl, fun h' e => by simp [perform, hal, e, hb, ha, hc]⟩
        · cases hf
      · rename_i ha
        split at hf
        · rename_i c ps hc
          simp only [Option.some.injEq, Prod.mk.injEq] at hf
          obtain ⟨rfl, rfl, rfl⟩ := hf
          exact ⟨hal, rfl, fun h' e => by simp [perform, hal, e, hb, ha, hc]⟩
        · cases hf
    · cases hf
  · cases hf

theorem perform_store {al : Nat → Bool} {nm : Nat} {h h1 : Heap} {b : Nat} {off : N} {x : A} {s : Nat} {v : V} {rs : List Prop} (hf : perform arR al nm h (.store b off x s) = some (v, h1, rs)) :
    al b = true ∧ ∃ B, h1 = h.set b B ∧ ∀ h', h'[b]? = h[b]? → perform arR al nm h' (.store b off x s) = some (v, h'.set b B, rs) := by
  unfold perform at hf
  simp only at hf
  split at hf
  · rename_i hal
    split at hf
    · rename_i blk hb
      split at hf
      · cases hf
      · rename_i hro
        split at hf
        · rename_i c
          split at hf
          · rename_i hs
            split at hf
            · rename_i g ps hc
              simp only [Option.some.injEq, Prod.mk.injEq] at hf
              obtain ⟨rfl, rfl, rfl⟩ := hf
              exact ⟨hal, _, rfl, fun h' e => by simp [perform, hal, e, hb, hro, hs, hc]⟩
            · cases hf
          · cases hf
        · rename_i g0
          split at hf
          · rename_i n hn
            split at hf
            · rename_i hs
              split at hf
              · rename_i g ps hc
                simp only [Option.some.injEq, Prod.mk.injEq] at hf
                obtain ⟨rfl, rfl, rfl⟩ := hf
                exact ⟨hal, _, rfl, fun h' e => by simp [perform, hal, e, hb, hro, hn, hs, hc]⟩
              · cases hf
            · cases hf
          · cases hf
    · cases hf
  · cases hf

theorem perform_comm {ai aj : Nat → Bool} {ni nj : Nat} {h h1 h2 : Heap} {pi pj : Plan} {vi vj : V} {ri rj : List Prop} (hi : perform arR ai ni h pi = some (vi, h1, ri)) (hj : perform arR aj nj h1 pj = some (vj, h2, rj))
    (hc : clsOk2 (plab pi) (plab pj) = true) (h3 : ai nj = false) (h4 : aj ni = false) (h5 : ni ≠ nj) :
    ∃ h1', perform arR aj nj h pj = some (vj, h1', rj) ∧ perform arR ai ni h1' pi = some (vi, h2, ri) := by
  cases pi with
  | callh s args =>
    obtain ⟨hal, bs, rfl, hl⟩ := perform_callh hi
    cases pj with
    | callh => simp [plab, clsOk2] at hc
    | load => simp [plab, clsOk2] at hc
    | store => simp [plab, clsOk2] at hc
    | val v =>
      simp only [perform, Option.some.injEq, Prod.mk.injEq] at hj
      obtain ⟨rfl, rfl, rfl⟩ := hj
      exact ⟨h, rfl, hi⟩
    | alloc g =>
      simp only [perform, Option.some.injEq, Prod.mk.injEq] at hj
      obtain ⟨rfl, rfl, rfl⟩ := hj
      have hne : nj ∉ reach h args := fun e => by rw [(hal nj e).1] at h3; cases h3
      refine ⟨_, rfl, ?_⟩
      rw [hl _ (fun n hn => by rw [List.getElem?_set_ne (fun e : nj = n => by subst e; exact hne hn)]), setMany_set hne]
  | val v =>
    simp only [perform, Option.some.injEq, Prod.mk.injEq] at hi
    obtain ⟨rfl, rfl, rfl⟩ := hi
    exact ⟨h2, hj, rfl⟩
  | load b off s ag =>
    obtain ⟨hal, rfl, hl⟩ := perform_load hi
    cases pj with
    | callh => simp [plab, clsOk2] at hc
    | val v =>
      simp only [perform, Option.some.injEq, Prod.mk.injEq] at hj
      obtain ⟨rfl, rfl, rfl⟩ := hj
      exact ⟨h1, rfl, hi⟩
    | load b' off' s' ag' =>
      obtain ⟨_, rfl, _⟩ := perform_load hj
      exact ⟨h2, hj, hi⟩
    | store b' off' x' s' =>
      obtain ⟨hal', B', rfl, hl'⟩ := perform_store hj
      have hne : b ≠ b' := by intro e; subst e; simp [plab, clsOk2] at hc
      exact ⟨_, hj, hl _ (List.getElem?_set_ne (Ne.symm hne))⟩
    | alloc g =>
      simp only [perform, Option.some.injEq, Prod.mk.injEq] at hj
      obtain ⟨rfl, rfl, rfl⟩ := hj
      refine ⟨_, rfl, hl _ ?_⟩
      rw [List.getElem?_set_ne]
      intro e; rw [e, hal] at h3; cases h3
  | store b off x s =>
    obtain ⟨hal, B, rfl, hl⟩ := perform_store hi
    cases pj with
    | callh => simp [plab, clsOk2] at hc
    | val v =>
      simp only [perform, Option.some.injEq, Prod.mk.injEq] at hj
      obtain ⟨rfl, rfl, rfl⟩ := hj
      exact ⟨h, rfl, hi⟩
    | load b' off' s' ag' =>
      obtain ⟨hal', rfl, hl'⟩ := perform_load hj
      have hne : b ≠ b' := by intro e; subst e; simp [plab, clsOk2] at hc
      exact ⟨h, hl' h (List.getElem?_set_ne hne).symm, hi⟩
    | store b' off' x' s' =>
      obtain ⟨hal', B', rfl, hl'⟩ := perform_store hj
      have hne : b ≠ b' := by intro e; subst e; simp [plab, clsOk2] at hc
      refine ⟨_, hl' h (List.getElem?_set_ne hne).symm, ?_⟩
      rw [hl _ (List.getElem?_set_ne (Ne.symm hne)), List.set_comm _ _ hne]
    | alloc g =>
      simp only [perform, Option.some.injEq, Prod.mk.injEq] at hj
      obtain ⟨rfl, rfl, rfl⟩ := hj
      have hne : nj ≠ b := by intro e; rw [e, hal] at h3; cases h3
      refine ⟨_, rfl, ?_⟩
      rw [hl _ (by rw [List.getElem?_set_ne hne]), List.set_comm _ _ hne]
  | alloc g =>
    simp only [perform, Option.some.injEq, Prod.mk.injEq] at hi
    obtain ⟨rfl, rfl, rfl⟩ := hi
    cases pj with
    | callh s args =>
      obtain ⟨hal, bs, e, hl⟩ := perform_callh hj
      have hne : ni ∉ reach (h.set ni (some { ro := false, g := g })) args := fun e => by rw [(hal ni e).1] at h4; cases h4
      have hag : ∀ n ∈ reach (h.set ni (some { ro := false, g := g })) args, h[n]? = (h.set ni (some { ro := false, g := g }))[n]? := fun n hn => by rw [List.getElem?_set_ne (fun e : ni = n => by subst e; exact hne hn)]
      refine ⟨_, hl h hag, ?_⟩
      subst e
      simp only [perform]
      rw [setMany_set hne]
    | val v =>
      simp only [perform, Option.some.injEq, Prod.mk.injEq] at hj
      obtain ⟨rfl, rfl, rfl⟩ := hj
      exact ⟨h, rfl, rfl⟩
    | load b off s ag =>
      obtain ⟨hal, rfl, hl⟩ := perform_load hj
      have hne : ni ≠ b := by intro e; rw [e, hal] at h4; cases h4
      exact ⟨h, hl h (by rw [List.getElem?_set_ne hne]), rfl⟩
    | store b off x s =>
      obtain ⟨hal, B, rfl, hl⟩ := perform_store hj
      have hne : ni ≠ b := by intro e; rw [e, hal] at h4; cases h4
      refine ⟨h.set b B, hl h (by rw [List.getElem?_set_ne hne]), ?_⟩
      simp only [perform]
      rw [List.set_comm _ _ (Ne.symm hne)]
    | alloc g' =>
      simp only [perform, Option.some.injEq, Prod.mk.injEq] at hj
      obtain ⟨rfl, rfl, rfl⟩ := hj
      refine ⟨_, rfl, ?_⟩
      simp only [perform]
      rw [List.set_comm _ _ (Ne.symm h5)]

theorem stepOp_comm {ti : TypeId → TI} {tbl : Tbl} {ai aj : Nat → Bool} {ni nj : Nat} {h h1 h2 : Heap} {oi oj : Op} {ti' tj' : List V} {vi vj : V} {qi qj : List Prop}
    (hi : stepOp arR arR ti tbl ai ni oi ti' h = some (vi, h1, qi)) (hj : stepOp arR arR ti tbl aj nj oj tj' h1 = some (vj, h2, qj))
    (hc : clsOk2 (lab tbl.hc ti' oi) (lab tbl.hc tj' oj) = true) (h3 : ai nj = false) (h4 : aj ni = false) (h5 : ni ≠ nj) :
    ∃ h1', stepOp arR arR ti tbl aj nj oj tj' h = some (vj, h1', qj) ∧ stepOp arR arR ti tbl ai ni oi ti' h1' = some (vi, h2, qi) := by
  unfold stepOp at hi hj
  split at hi
  · cases hi
  · rename_i pi qi1 hpi
    split at hi
    · cases hi
    · rename_i v1 x1 r1 hfi
      simp only [Option.some.injEq, Prod.mk.injEq] at hi
      obtain ⟨rfl, rfl, rfl⟩ := hi
      split at hj
      · cases hj
      · rename_i pj qj1 hpj
        split at hj
        · cases hj
        · rename_i v2 x2 r2 hfj
          simp only [Option.some.injEq, Prod.mk.injEq] at hj
          obtain ⟨rfl, rfl, rfl⟩ := hj
          obtain ⟨h1', a1, a2⟩ := perform_comm hfi hfj (by rw [planOp_lab hpi, planOp_lab hpj]; exact hc) h3 h4 h5
          exact ⟨h1', by simp only [stepOp, hpj, a1], by simp only [stepOp, hpi, a2]⟩

/-- TWO OPERATIONS THAT NEITHER WAITS FOR THE OTHER MAY CHANGE PLACES -/
theorem Eff.comm {ti : TypeId → TI} {tbl : Tbl} {ops : Array Oper} {ws : Array Nat} {n0 i j : Nat} {ei ej : Nat × Nat} {oi oj : Oper} {s s1 s2 : St} (hi : Eff ti tbl ops ws n0 ei i oi s s1) (hj : Eff ti tbl ops ws n0 ej j oj s1 s2)
    (hap : oi.apart ops oj = true) (hc : clsOk2 ei ej = true) (h1 : (ws.getD i 0).testBit j = false) (h2 : (ws.getD j 0).testBit i = false) (h3 : i ≠ j) :
    ∃ s1', Eff ti tbl ops ws n0 ej j oj s s1' ∧ Eff ti tbl ops ws n0 ei i oi s1' s2 := by
  obtain ⟨a1, a2, a3⟩ := Oper.apart_spec hap
  have a2' : ∀ d, oj.dst = some d → oi.dst ≠ some d := fun d e1 e2 => a2 d e2 e1
  have al1 : alOf ws n0 i (n0 + j) = false := by simp only [alOf, Nat.add_sub_cancel_left, h1, Bool.or_false, decide_eq_false_iff_not]; omega
  have al2 : alOf ws n0 j (n0 + i) = false := by simp only [alOf, Nat.add_sub_cancel_left, h2, Bool.or_false, decide_eq_false_iff_not]; omega
  rcases hi with ⟨wi, li, vi, hhi, qi, ei, oki, rfl⟩ | ⟨wi, li, rfl⟩ <;> rcases hj with ⟨wj, lj, vj, hhj, qj, ej, okj, rfl⟩ | ⟨wj, lj, rfl⟩
  · simp only [wantedA_put a1, stepOp_put a1] at wj ej
    rw [lab_put a1] at lj
    rw [li, lj] at hc
    obtain ⟨h1', b1, b2⟩ := stepOp_comm ei ej hc al1 al2 (by omega)
    refine ⟨⟨putV s.tmps oj.dst vj, h1'⟩, .inl ⟨wj, lj, vj, h1', qj, b1, okj, rfl⟩, .inl ⟨?_, ?_, vi, hhj, qi, ?_, oki, ?_⟩⟩
    · rw [wantedA_put a3]; exact wi
    · rw [lab_put a3]; exact li
    · rw [stepOp_put a3]; exact b2
    · simp only [putV_comm a2]
  · simp only [wantedA_put a1] at wj
    refine ⟨⟨putV s.tmps oj.dst (.tup []), s.heap⟩, .inr ⟨wj, lj, rfl⟩, .inl ⟨?_, ?_, vi, hhi, qi, ?_, oki, ?_⟩⟩
    · rw [wantedA_put a3]; exact wi
    · rw [lab_put a3]; exact li
    · rw [stepOp_put a3]; exact ei
    · simp only [putV_comm a2]
  · simp only [wantedA_put a1, stepOp_put a1] at wj ej
    rw [lab_put a1] at lj
    refine ⟨⟨putV s.tmps oj.dst vj, hhj⟩, .inl ⟨wj, lj, vj, hhj, qj, ej, okj, rfl⟩, .inr ⟨?_, li, ?_⟩⟩
    · rw [wantedA_put a3]; exact wi
    · simp only [putV_comm a2]
  · simp only [wantedA_put a1] at wj
    refine ⟨⟨putV s.tmps oj.dst (.tup []), s.heap⟩, .inr ⟨wj, lj, rfl⟩, .inr ⟨?_, li, ?_⟩⟩
    · rw [wantedA_put a3]; exact wi
    · simp only [putV_comm a2]
end
end Go.Eng
