import Derived.Test.YtegcdnjihnpolaaE1
set_option linter.unusedSimpArgs false
set_option linter.unusedVariables false
namespace Go.Eng
open Go

def TDRel : TypeDesc → TD → Prop
  | .int k, .int k' => k = k'
  | .slice e, .slice e' => e = e'
  | .array n e, .arr n' e' => n = n' ∧ e = e'
  | .struct fs, .strct l => fs.toList.map (fun f => (f.offset, f.type)) = l
  | .bool, .bool => True
  | .string, .str => True
  | .pointer e, .ptr e' => e = e'
  | _, .other => True
  | _, _ => False

def aggOf : TypeDesc → Bool
  | .struct _ | .array _ _ => true
  | _ => false

structure TOk (P : Program) (t : TypeId) (x : TI) : Prop where
  info : ∃ i, P.info? t = some i ∧ i.size = x.size ∧ ∀ z, x.zero = some z → ∃ v, i.zero = some v ∧ ARel (fun _ => none) z v
  und : ∃ d, P.underlying t = some d ∧ TDRel d x.td ∧ x.agg = aggOf d
  fields : ∀ fs, P.underlying t = some (.struct fs) → ∀ f ∈ fs, ∃ i, P.info? f.type = some i
  plain : x.plain = true → P.eqGuardType P.depth t = false

def TIok (P : Program) (ti : TypeId → TI) : Prop := ∀ t, (ti t).known = true → TOk P t (ti t)

theorem Cof_rel {ρ : Ren} {v : V} {u : Value} {c : C} (h : VRel ρ v u) (hc : Cof v = some c) : CRel ρ c u := by
  unfold Cof at hc
  split at hc
  · cases hc; exact h
  · cases hc
theorem Aof_rel {ρ : Ren} {v : V} {u : Value} {c : A} (h : VRel ρ v u) (hc : Aof v = some c) : ARel ρ c u := by
  unfold Aof at hc
  split at hc
  · cases hc; exact h
  · cases hc

section
variable {P : Program} {ρ : Ren}

theorem run_underlying {t : TypeId} {d : TypeDesc} (h : P.underlying t = some d) (w : World) : (underlying t).run P w = .ok d w := by
  simp [underlying, program, Sem.run, h]
theorem run_typeInfo {t : TypeId} {i : TypeInfo} (h : P.info? t = some i) (w : World) : (typeInfo t).run P w = .ok i w := by
  simp [typeInfo, program, Sem.run, h]
theorem run_sizeOf {t : TypeId} {i : TypeInfo} (h : P.info? t = some i) (w : World) : (sizeOf t).run P w = .ok i.size w := by
  simp [sizeOf, run_typeInfo h]
theorem run_isAgg {t : TypeId} {d : TypeDesc} (h : P.underlying t = some d) (w : World) : (isAgg t).run P w = .ok (aggOf d) w := by
  simp [isAgg, Sem.run_bind, run_underlying h]
  cases d <;> simp [aggOf]

/-- what an operation must do: it yields the value, in the world w' -/
def Res (r : Result Next) (v : Value) (w' : World) : Prop := r = .ok (.value v) w' ∨ (r = .ok .skip w' ∧ v = undef)

def Does (P : Program) (W0 : World) (m0 : Nat) (ρ : Ren) (s : Sem Next) (w : World) (v : V) (h' : Heap) : Prop :=
  ∃ ρ' v' w', Res (s.run P w) v' w' ∧ Ext ρ ρ' ∧ HRel W0 m0 ρ' h' w' ∧ VRel ρ' v v'

/-- a pure one -/
def Pur (P : Program) (ρ : Ren) (s : Sem Next) (v : V) : Prop := ∀ w, ∃ v', s.run P w = .ok (.value v') w ∧ VRel ρ v v'

theorem Pur.of {s : Sem Next} {v : V} {v' : Value} (h : ∀ w, s.run P w = .ok (.value v') w) (hv : VRel ρ v v') : Pur P ρ s v := fun w => ⟨v', h w, hv⟩

theorem ok_inv {v u : V} {qs : List Prop} (h : ok v = some (.val u, qs)) : u = v := by
  simp only [ok, Option.some.injEq, Prod.mk.injEq, Plan.val.injEq] at h; exact h.1.symm

theorem pur_bin {op : BinOp} {T T' : TypeId} {x y : C} {a b : Value} {v : V} {qs : List Prop} {X Y : Operand} {ev : Operand → Value} {o : Oper}
    (ho : o.op = .binOp op T X Y T') (ha : ev X = a) (hb : ev Y = b) (hx : CRel ρ x a) (hy : CRel ρ y b)
    (hp : planBin arR arR op x y = some (.val v, qs)) (hq : ∀ q ∈ qs, q) : Pur P ρ (execOp ev o) v := by
  subst ha hb
  unfold planBin at hp
  split at hp
  · rename_i k n la k' m lb hn hm
    have e1 := hx.of_num hn
    have e2 := hy.of_num hm
    have hl : ∀ (l : Bool) (op : BinOp), VRel ρ (binInt arR op k n m l arR) (.int k (rbin op k n m)) := by
      intro l op; cases l <;> rfl
    have hc : ∀ (l : Bool) (op : BinOp), VRel ρ (cmpInt arR op n m l arR) (.bool (rcmp op n m)) := by
      intro l op; cases l <;> rfl
    have hg : ∀ w, (eqGuard op T X Y (ev X) (ev Y)).run P w = .ok () w := by
      intro w; rw [e1, e2]; cases op <;> simp [eqGuard, Sem.run_pure]
    have key : ∀ u, (∀ w, (binOp op T (ev X) (ev Y)).run P w = .ok u w) → VRel ρ v u → Pur P ρ (execOp ev o) v := by
      intro u hu hv
      refine .of (v' := u) (fun w => ?_) hv
      simp [execOp, ho, Sem.run_bind, hg, hu]
    split at hp
    · -- shl
      split at hp
      · split at hp
        · cases hp
        · rename_i hb
          obtain rfl := ok_inv hp
          refine key _ (fun w => ?_) (hl _ _)
          rw [e1, e2]; simp [binOp, Op.shift, hb, rbin, Sem.run_pure]
      · simp only [Option.some.injEq, Prod.mk.injEq, Plan.val.injEq] at hp
        obtain ⟨rfl, rfl⟩ := hp
        have hb : ¬ m < 0 := by have : (0 : Int) ≤ m := hq (arR.nneg m) (by simp); omega
        refine key _ (fun w => ?_) (hl _ _)
        rw [e1, e2]; simp [binOp, Op.shift, hb, rbin, Sem.run_pure]
    · split at hp
      · split at hp
        · cases hp
        · rename_i hb
          obtain rfl := ok_inv hp
          refine key _ (fun w => ?_) (hl _ _)
          rw [e1, e2]; simp [binOp, Op.shift, hb, rbin, Sem.run_pure]
      · simp only [Option.some.injEq, Prod.mk.injEq, Plan.val.injEq] at hp
        obtain ⟨rfl, rfl⟩ := hp
        have hb : ¬ m < 0 := by have : (0 : Int) ≤ m := hq (arR.nneg m) (by simp); omega
        refine key _ (fun w => ?_) (hl _ _)
        rw [e1, e2]; simp [binOp, Op.shift, hb, rbin, Sem.run_pure]
    · split at hp
      · rename_i hk
        have hk := kindEq_eq hk
        subst hk
        split at hp
        case h_8 | h_9 =>
          split at hp
          · split at hp
            · cases hp
            · rename_i hb
              obtain rfl := ok_inv hp
              refine key _ (fun w => ?_) (hl _ _)
              rw [e1, e2]; simp [binOp, Op.intDiv, hb, rbin, Sem.run_pure]
          · simp only [Option.some.injEq, Prod.mk.injEq, Plan.val.injEq] at hp
            obtain ⟨rfl, rfl⟩ := hp
            have hb : ¬ m = 0 := hq (arR.nz m) (by simp)
            refine key _ (fun w => ?_) (hl _ _)
            rw [e1, e2]; simp [binOp, Op.intDiv, hb, rbin, Sem.run_pure]
        case h_10 n1 n2 n3 n4 n5 n6 n7 n8 n9 =>
          obtain rfl := ok_inv hp
          refine key _ (fun w => ?_) (hc _ _)
          rw [e1, e2]
          cases op <;> simp_all [binOp, Op.intCmp, rcmp, Sem.run_pure]
        all_goals
          obtain rfl := ok_inv hp
          refine key _ (fun w => ?_) (hl _ _)
          rw [e1, e2]; simp [binOp, Op.intArith, Op.intBits, rbin, Sem.run_pure]
      · cases hp
  · cases hp
--END
end
end Go.Eng
