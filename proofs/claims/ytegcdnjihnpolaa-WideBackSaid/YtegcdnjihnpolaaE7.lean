import Derived.Test.YtegcdnjihnpolaaEg
set_option linter.unusedSimpArgs false
set_option linter.unusedVariables false
namespace Go.Eng
open Go Go.RowKit
section
variable {P : Program} {W0 : World} {m0 : Nat} {ρ : Ren}

/-- a contract: what a call hands back, of its arguments alone, where what it asks holds -/
def CallOk (P : Program) (f : FuncId) (s : ESpec) : Prop :=
  ∀ args v ps, s args = some (v, ps) → (∀ p ∈ ps, p) → ∀ (args' : Array Value) (w : World), AsRel (fun _ => none) args args' →
    ∀ (o : Oper) (a : Act) (K : Act → World → Prop) (Q : Exit → Act → World → Prop), (∀ v' w', VRel (fun _ => none) v v' → Below w.heap.size w w' → K (a.put o.dst v') w') → o.upon P a K Q ((callFunc f args').run P w)

theorem pureC_rel {ρ' : Ren} {c : C} {v : Value} (h : CRel ρ c v) (hp : pureC c = true) : CRel ρ' c v := by
  cases c <;> first | exact h | cases hp
theorem pureA_rel {ρ' : Ren} {x : A} {v : Value} (h : ARel ρ x v) (hp : pureA x = true) : ARel ρ' x v := by
  cases x with
  | one c => exact pureC_rel h hp
  | agg g =>
    obtain ⟨arr, e, h1, h2⟩ := h
    refine ⟨arr, e, h1, fun j x hx => ?_⟩
    obtain ⟨u, a, b⟩ := h2 j x hx
    refine ⟨u, a, pureC_rel b ?_⟩
    cases g with
    | lst cs =>
      simp only [pureA, List.all_eq_true] at hp
      exact hp x (List.mem_of_getElem? hx)
    | ints k n f =>
      simp only [G.at] at hx
      split at hx
      · simp only [Option.some.injEq] at hx; subst hx; rfl
      · cases hx
theorem AsRel.pure {ρ' : Ren} {args : List A} {args' : Array Value} (h : AsRel ρ args args') (hp : args.all pureA = true) : AsRel ρ' args args' :=
  ⟨h.1, fun j x hx => let ⟨u, a, b⟩ := h.2 j x hx; ⟨u, a, pureA_rel b (List.all_eq_true.1 hp x (List.mem_of_getElem? hx))⟩⟩

/-- a contract on the blocks that the arguments reach -/
def HOk (P : Program) (f : FuncId) (s : HSpec) : Prop :=
  ∀ las lbs v lbs' ps, s las lbs = some (v, lbs', ps) → (∀ p ∈ ps, p) → ∀ (ρ : Ren) (args' : Array Value) (w : World), AsRel ρ las args' → HRel w lbs.length ρ (lbs.map some) w →
    ∀ (o : Oper) (a : Act) (K : Act → World → Prop) (Q : Exit → Act → World → Prop), (∀ v' w', VRel ρ v v' → HRel w lbs.length ρ (lbs'.map some) w' → K (a.put o.dst v') w') → o.upon P a K Q ((callFunc f args').run P w)

structure TblOk (P : Program) (tbl : Tbl) : Prop where
  p : ∀ f s, tbl.p f = some s → CallOk P f s
  h : ∀ f s, tbl.h f = some s → HOk P f s

theorem HRel.keep {h : Heap} {w w' : World} (hH : HRel W0 m0 ρ h w) (hb : Below w.heap.size w w') : HRel W0 m0 ρ h w' := by
  refine ⟨hb.os.trans hH.os, hb.tape.trans hH.tape, hb.output.trans hH.output, Nat.le_trans hH.size hb.size, fun k hk hn => ?_, hH.dom, fun n b hn => ?_, hH.sep, hH.new⟩
  · rw [hb.block k (by have := hH.size; omega)]; exact hH.frame k hk hn
  · obtain ⟨r, o, hr, c, ty, fz, hw, hz, hc⟩ := hH.blk n b hn
    exact ⟨r, o, hr, c, ty, fz, by rw [hb.block r (hH.low hr)]; exact hw, hz, hc⟩

theorem HRel.drew {h : Heap} {w : World} (hH : HRel W0 m0 ρ h w) (n : Nat) : HRel W0 m0 ρ h { w with drawn := n } :=
  ⟨hH.os, hH.tape, hH.output, hH.size, hH.frame, hH.dom, hH.blk, hH.sep, hH.new⟩

theorem argsOf_rel {ev : Operand → V} {eu : Operand → Value} (hev : ∀ x, VRel ρ (ev x) (eu x)) : ∀ {l : List Operand} {as : List A}, argsOf ev l = some as → AsRel ρ as (l.map eu).toArray
  | [], as, h => by
    simp only [argsOf, Option.some.injEq] at h
    subst h
    exact ⟨rfl, fun j x hx => by simp at hx⟩
  | x :: l, as, h => by
    simp only [argsOf] at h
    split at h
    · rename_i a as' ha has
      simp only [Option.some.injEq] at h
      subst h
      obtain ⟨h1, h2⟩ := argsOf_rel hev has
      refine ⟨by simpa using h1, fun j y hy => ?_⟩
      cases j with
      | zero =>
        simp at hy; subst hy
        exact ⟨eu x, by simp, Aof_rel (hev x) ha⟩
      | succ j =>
        obtain ⟨u, hu, hr⟩ := h2 j y (by simpa using hy)
        exact ⟨u, by simpa using hu, hr⟩
    · cases h

/-- which plans come of which operations -/
def kindOk (ti : TypeId → TI) (ev : Operand → V) (p : Plan) (qs : List Prop) : Op → Prop
  | .load t x => ∃ b off, Cof (ev x) = some (.ptr b off) ∧ (ti t).known = true ∧ p = .load b off (ti t).size (ti t).agg
  | .store t x y => ∃ b off v, Cof (ev x) = some (.ptr b off) ∧ Aof (ev y) = some v ∧ (ti t).known = true ∧ p = .store b off v (ti t).size
  | .alloc e => ∃ z, (ti e).known = true ∧ (ti e).zero = some z ∧ p = .alloc z.gr
  | .box _ x => ∃ z, Aof (ev x) = some z ∧ p = .alloc z.gr
  | _ => ∃ v, p = .val v

theorem ok_val {v : V} {p : Plan} {qs : List Prop} (h : ok v = some (p, qs)) : ∃ v, p = .val v := by
  simp only [ok, Option.some.injEq, Prod.mk.injEq] at h
  exact ⟨v, h.1.symm⟩

theorem planBin_val {op : BinOp} {x y : C} {p : Plan} {qs : List Prop} (h : planBin arR arR op x y = some (p, qs)) : ∃ v, p = .val v := by
  unfold planBin at h
  (repeat' split at h) <;> first | exact ok_val h | (cases h; done) | (simp only [Option.some.injEq, Prod.mk.injEq] at h; exact ⟨_, h.1.symm⟩)

theorem planStr_kind {op : BinOp} {a b : ByteArray} {p : Plan} {qs : List Prop} (h : planStr arR op a b = some (p, qs)) : ∃ v, p = .val v := by
  unfold planStr at h
  split at h <;> first | exact ok_val h | (cases h; done) | (simp only [Option.some.injEq, Prod.mk.injEq] at h; exact ⟨_, h.1.symm⟩)
theorem planSlice_kind {ti : TypeId → TI} {ev : Operand → V} {t : TypeId} {x : Operand} {lo hi : Option Operand} {p : Plan} {qs : List Prop} (h : planSlice arR ti ev t x lo hi = some (p, qs)) : ∃ v, p = .val v := by
  unfold planSlice at h
  (repeat' split at h) <;> first | (cases h; done) | (simp only [Option.some.injEq, Prod.mk.injEq] at h; exact ⟨_, h.1.symm⟩)
theorem planCall_kind {ti : TypeId → TI} {ev : Operand → V} {c : Call} {p : Plan} {qs : List Prop} (h : planCall arR arR ti ev c = some (p, qs)) : ∃ v, p = .val v := by
  unfold planCall at h
  split at h
  · unfold planLen at h
    (repeat' split at h) <;> first | exact ok_val h | (cases h; done)
  · unfold planMin at h
    (repeat' split at h) <;> first | exact ok_val h | (cases h; done)
  · unfold planMin at h
    (repeat' split at h) <;> first | exact ok_val h | (cases h; done)
  · cases h

theorem plan_kind {ti : TypeId → TI} {ev : Operand → V} {p : Plan} {qs : List Prop} : ∀ {op : Op}, plan arR arR ti ev op = some (p, qs) → kindOk ti ev p qs op := by
  intro op h
  cases op <;> simp only [plan] at h <;> simp only [kindOk]
  case load t x =>
    split at h
    · cases h
    · rename_i hk
      split at h
      · rename_i b off hc
        simp only [Option.some.injEq, Prod.mk.injEq] at h
        exact ⟨b, off, hc, by simpa using hk, h.1.symm⟩
      · cases h
  case store t x y =>
    split at h
    · cases h
    · rename_i hk
      split at h
      · rename_i b off v hc hv
        simp only [Option.some.injEq, Prod.mk.injEq] at h
        exact ⟨b, off, v, hc, hv, by simpa using hk, h.1.symm⟩
      · cases h
  case alloc e =>
    split at h
    · cases h
    · rename_i hk
      split at h
      · rename_i z hz
        simp only [Option.some.injEq, Prod.mk.injEq] at h
        exact ⟨z, by simpa using hk, hz, h.1.symm⟩
      · cases h
  case box e x =>
    split at h
    · rename_i z hz
      simp only [Option.some.injEq, Prod.mk.injEq] at h
      exact ⟨z, hz, h.1.symm⟩
    · cases h
  all_goals first
    | exact ok_val h
    | exact planCall_kind h
    | (cases h; done)
    | ((repeat' split at h) <;> first | exact ok_val h | exact planBin_val h | exact planStr_kind h | exact planSlice_kind h | exact planCall_kind h | (cases h; done) | (simp only [Option.some.injEq, Prod.mk.injEq] at h; exact ⟨_, h.1.symm⟩))

theorem ext_none {x : A} {u : Value} (h : ARel (fun _ => none) x u) : ARel ρ x u := h.ext (fun _ _ h => by cases h)

/-- AN OPERATION, CARRIED OUT -/
theorem stepOp_wp {ti : TypeId → TI} (hti : TIok P ti) {tbl : Tbl} (htbl : TblOk P tbl) {o : Oper} {a : Act} {w : World} {tmps : List V} {h h' : Heap} (hT : TRel ρ tmps a.tmps) (hH : HRel W0 m0 ρ h w)
    {al : Nat → Bool} {nm : Nat} {v : V} {qs : List Prop} (hs : stepOp arR arR ti tbl al nm o.op tmps h = some (v, h', qs)) (hq : ∀ q ∈ qs, q) (hn : isAlloc o.op = true → h[nm]? = some none ∧ m0 ≤ nm)
    {K : Act → World → Prop} {Q : Exit → Act → World → Prop} (hK : ∀ ρ' v' w', Ext ρ ρ' → HRel W0 m0 ρ' h' w' → VRel ρ' v v' → K (a.put o.dst v') w') : o.wp P a w K Q := by
  have hev : ∀ x, VRel ρ (opnd tmps x) (a.eval x) := fun x => VRel.opnd hT x a rfl
  unfold stepOp at hs
  split at hs
  · cases hs
  · rename_i p qs1 hp
    split at hs
    · cases hs
    · rename_i v1 h1 rs1 hf
      simp only [Option.some.injEq, Prod.mk.injEq] at hs
      obtain ⟨rfl, rfl, rfl⟩ := hs
      have hq1 : ∀ q ∈ qs1, q := fun q hx => hq q (by simp [hx])
      have hr1 : ∀ q ∈ rs1, q := fun q hx => hq q (by simp [hx])
      unfold Oper.wp
      unfold planOp at hp
      split at hp
      · rename_i f args T hop
        split at hp
        · rename_i l hl
          have hargs := argsOf_rel hev hl
          have e : (execOp a.eval o).run P w = (callFunc f (args.toList.map a.eval).toArray).run P w := by
            have : args.map a.eval = (args.toList.map a.eval).toArray := by rw [← Array.toList_map]
            simp [execOp, hop, resolve, Deferred.ofValue, Act.eval, invoke, Sem.run_bind, Sem.run_pure, this]
          rw [e]
          split at hp
          · split at hp
            · rename_i s hs
              simp only [Option.some.injEq, Prod.mk.injEq] at hp
              obtain ⟨rfl, rfl⟩ := hp
              simp only [perform] at hf
              split at hf
              · rename_i v2 bs ps hperf
                simp only [Option.some.injEq, Prod.mk.injEq] at hf
                obtain ⟨rfl, rfl, rfl⟩ := hf
                obtain ⟨las, lbs, v0, lbs', g1, g2, g3, g4⟩ := performH_sound (reach_nodup h l) hH hargs hperf
                exact htbl.h f s hs las lbs v0 lbs' _ g1 hr1 _ _ w g2 g3 o a K Q fun v' w' hv' hh' => by
                  obtain ⟨k1, k2⟩ := g4 v' w' hv' hh'
                  exact hK ρ v' w' (Ext.refl ρ) k2 k1
              · cases hf
            · cases hp
          · split at hp
            · rename_i s hs
              split at hp
              · rename_i hpure
                split at hp
                · rename_i v2 ps hv
                  simp only [Option.some.injEq, Prod.mk.injEq] at hp
                  obtain ⟨rfl, rfl⟩ := hp
                  simp only [perform, Option.some.injEq, Prod.mk.injEq] at hf
                  obtain ⟨rfl, rfl, rfl⟩ := hf
                  exact htbl.p f s hs l v2 ps hv hq1 _ w (hargs.pure hpure) o a K Q fun v' w' hv' hb => hK ρ v' w' (Ext.refl ρ) (hH.keep hb) (hv'.ext (fun _ _ h => by cases h))
                · cases hp
              · cases hp
            · cases hp
        · cases hp
      · have hk := plan_kind hp
        have fin : ∀ {v' w' ρ'}, Res ((execOp a.eval o).run P w) v' w' → Ext ρ ρ' → HRel W0 m0 ρ' h1 w' → VRel ρ' v1 v' → o.upon P a K Q ((execOp a.eval o).run P w) := by
          intro v' w' ρ' hres he hh hv
          rcases hres with e | ⟨e, rfl⟩
          · rw [e]; exact hK ρ' v' w' he hh hv
          · rw [e]; exact hK ρ' undef w' he hh hv
        cases hop : o.op <;> rw [hop] at hk
        case load t x =>
          obtain ⟨b, off, hc, hkn, rfl⟩ := hk
          obtain ⟨rfl, v', hrun, hv⟩ := load_sound hti hH hkn (Cof_rel (hev x) hc) hf hr1
          exact fin (.inl (by simp [execOp, hop, Sem.run_bind, hrun, Sem.run_pure])) (Ext.refl ρ) hH hv
        case store t x y =>
          obtain ⟨b, off, z, hc, hz, hkn, rfl⟩ := hk
          obtain ⟨rfl, w', hrun, hh⟩ := store_sound hti hH hkn (Cof_rel (hev x) hc) (Aof_rel (hev y) hz) hf hr1
          exact fin (.inr ⟨by simp [execOp, hop, Sem.run_bind, hrun, Sem.run_pure], rfl⟩) (Ext.refl ρ) hh ⟨#[], rfl, rfl, fun j x hx => by simp at hx⟩
        case alloc e =>
          obtain ⟨z, hkn, hz, rfl⟩ := hk
          obtain ⟨i, hi, -, hzero⟩ := (hti e hkn).info
          obtain ⟨zv, hzv, hzr⟩ := hzero z hz
          simp only [perform, Option.some.injEq, Prod.mk.injEq] at hf
          obtain ⟨rfl, rfl, rfl⟩ := hf
          obtain ⟨hn1, hn2⟩ := hn (by rw [hop]; rfl)
          obtain ⟨ρ', he, hnm, hh⟩ := hH.alloc (ty := e) hn1 hn2 (gr_rel (ext_none (ρ := ρ) hzr))
          exact fin (v' := .pointer (some ⟨w.heap.size, 0, none⟩)) (.inl (by simp [execOp, hop, Instr.alloc, Sem.run_bind, zeroValue, run_typeInfo hi, hzv, newVar, newRow, newObj, Sem.run, Sem.run_pure])) he hh ⟨w.heap.size, 0, hnm, rfl⟩
        case box e x =>
          obtain ⟨z, hz, rfl⟩ := hk
          simp only [perform, Option.some.injEq, Prod.mk.injEq] at hf
          obtain ⟨rfl, rfl, rfl⟩ := hf
          obtain ⟨hn1, hn2⟩ := hn (by rw [hop]; rfl)
          obtain ⟨ρ', he, hnm, hh⟩ := hH.alloc (ty := e) hn1 hn2 (gr_rel (Aof_rel (hev x) hz))
          exact fin (v' := .pointer (some ⟨w.heap.size, 0, none⟩)) (.inl (by simp [execOp, hop, Instr.box, Sem.run_bind, newVar, newRow, newObj, Sem.run, Sem.run_pure])) he hh ⟨w.heap.size, 0, hnm, rfl⟩
        all_goals
          obtain ⟨v2, rfl⟩ := hk
          simp only [perform, Option.some.injEq, Prod.mk.injEq] at hf
          obtain ⟨rfl, rfl, rfl⟩ := hf
          obtain ⟨v', hrun, hv⟩ := plan_val hti hev hp hq1 w
          exact fin (.inl hrun) (Ext.refl ρ) hH hv
end
end Go.Eng
