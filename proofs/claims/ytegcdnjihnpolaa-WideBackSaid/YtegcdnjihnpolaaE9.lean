import Derived.Test.YtegcdnjihnpolaaE8
set_option linter.unusedSimpArgs false
set_option linter.unusedVariables false
namespace Go.Eng
open Go Go.RowKit

def commB (hc : FuncId → Bool) (ops : Array Oper) (j i : Nat) : Bool :=
  match ops[j]?, ops[i]? with
  | some oj, some oi => oj.apart ops oi
  | _, _ => false

def drawOkW (hc : FuncId → Bool) (ops : Array Oper) (ws : Array Nat) : Bool :=
  (List.range ops.size).all fun i => match ops[i]? with
    | some oi => oi.after.all (fun e => !Region.binds .any e || decide (e.on < i)) &&
      (List.range i).all (fun j => !(ws.getD j 0).testBit i && (if (ws.getD i 0).testBit j then oi.after.any (fun e => Region.binds .any e && (e.on == j || (ws.getD e.on 0).testBit j)) else commB hc ops j i))
    | none => false

/-- may its operations come in any order that the edges allow? -/
def drawOk (hc : FuncId → Bool) (ops : Array Oper) : Bool := drawOkW hc ops (waits ops)

section
variable {P : Program} {W0 : World} {m0 : Nat} {ρ : Ren}

def alOf (ws : Array Nat) (n0 i : Nat) : Nat → Bool := fun n => decide (n < n0) || (ws.getD i 0).testBit (n - n0)

def Eff (ti : TypeId → TI) (tbl : Tbl) (ops : Array Oper) (ws : Array Nat) (n0 : Nat) (e : Nat × Nat) (i : Nat) (o : Oper) (s s' : St) : Prop :=
  (wantedA ops s.tmps o = some true ∧ e = lab tbl.hc s.tmps o.op ∧ ∃ v h' qs, stepOp arR arR ti tbl (alOf ws n0 i) (n0 + i) o.op s.tmps s.heap = some (v, h', qs) ∧ (∀ q ∈ qs, q) ∧ s' = ⟨putV s.tmps o.dst v, h'⟩) ∨
  (wantedA ops s.tmps o = some false ∧ e = (0, 0) ∧ s' = ⟨putV s.tmps o.dst (.tup []), s.heap⟩)

def Chain (ti : TypeId → TI) (tbl : Tbl) (ops : Array Oper) (ws : Array Nat) (n0 : Nat) (L : Nat → Nat × Nat) : List Nat → St → St → Prop
  | [], s, s' => s = s'
  | i :: l, s, s' => ∃ o s1, ops[i]? = some o ∧ Eff ti tbl ops ws n0 (L i) i o s s1 ∧ Chain ti tbl ops ws n0 L l s1 s'

/-! ### locality -/
theorem getD_putV {tmps : List V} {dst : Option Tmp} {v : V} {t : Tmp} (h : ∀ d, dst = some d → d ≠ t) : (putV tmps dst v).getD t (.tup []) = tmps.getD t (.tup []) := by
  cases dst with
  | none => rfl
  | some d =>
    simp only [putV, List.getD_eq_getElem?_getD]
    rw [List.getElem?_set_ne (h d rfl)]

theorem opnd_putV {tmps : List V} {dst : Option Tmp} {v : V} {x : Operand} (h : ∀ d, dst = some d → x ≠ .tmp d) : opnd (putV tmps dst v) x = opnd tmps x := by
  cases x with
  | tmp t =>
    simp only [opnd]
    exact getD_putV (fun d hd e => h d hd (by rw [e]))
  | _ => rfl

theorem mapM_congr' {α β : Type} {f g : α → Option β} : ∀ {l : List α}, (∀ x ∈ l, f x = g x) → l.mapM f = l.mapM g
  | [], _ => rfl
  | x :: l, h => by
    simp only [List.mapM_cons, h x (by simp), mapM_congr' (l := l) (fun y hy => h y (by simp [hy]))]

theorem argsOf_congr {ev ev' : Operand → V} : ∀ {l : List Operand}, (∀ x ∈ l, ev x = ev' x) → argsOf ev l = argsOf ev' l
  | [], _ => rfl
  | x :: l, h => by simp only [argsOf, h x (by simp), argsOf_congr (l := l) (fun y hy => h y (by simp [hy]))]

theorem hiOf_congr {ev ev' : Operand → V} {hi : Option Operand} {a b : N} (h : ∀ x ∈ hi.toList, ev x = ev' x) : hiOf arR ev hi a b = hiOf arR ev' hi a b := by
  cases hi with
  | none => rfl
  | some x => simp only [hiOf, h x (by simp)]
theorem loOf_congr {ev ev' : Operand → V} {lo : Option Operand} {a : N} (h : ∀ x ∈ lo.toList, ev x = ev' x) : loOf arR ev lo a = loOf arR ev' lo a := by
  cases lo with
  | none => rfl
  | some x => simp only [loOf, h x (by simp)]
theorem planSlice_congr {ti : TypeId → TI} {ev ev' : Operand → V} {t : TypeId} {x : Operand} {lo hi : Option Operand} (h1 : ev x = ev' x) (h2 : ∀ x ∈ lo.toList, ev x = ev' x) (h3 : ∀ x ∈ hi.toList, ev x = ev' x) : planSlice arR ti ev t x lo hi = planSlice arR ti ev' t x lo hi := by
  simp only [planSlice, h1, hiOf_congr h3, loOf_congr h2]
theorem planCall_congr {ti : TypeId → TI} {ev ev' : Operand → V} {c : Call} (h : ∀ x ∈ c.args.toList, ev x = ev' x) : planCall arR arR ti ev c = planCall arR arR ti ev' c := by
  unfold planCall
  split
  · rename_i x t _ hx _
    simp only [planLen, h x (by rw [hx]; simp)]
  · rename_i x y _ hx
    rw [h x (by rw [hx]; simp), h y (by rw [hx]; simp)]
  · rename_i x y _ hx
    rw [h x (by rw [hx]; simp), h y (by rw [hx]; simp)]
  · rfl

theorem plan_congr {ti : TypeId → TI} {ev ev' : Operand → V} {op : Op} (h : ∀ x ∈ op.operands.toList, ev x = ev' x) : plan arR arR ti ev op = plan arR arR ti ev' op := by
  cases op
  case build t parts =>
    have hp : ∀ p ∈ parts.toList, ev p.2 = ev' p.2 := fun p hp => h p.2 (by simp only [Op.operands]; simp; exact ⟨p.1, by simpa using hp⟩)
    have e1 : (parts.toList.map fun p => (p.1, ev p.2)) = (parts.toList.map fun p => (p.1, ev' p.2)) := List.map_congr_left (fun p hq => by rw [hp p hq])
    have e2 : ∀ fs, parts.toList.mapM (fun p => partOf ti fs p.1 (ev p.2)) = parts.toList.mapM (fun p => partOf ti fs p.1 (ev' p.2)) := fun fs => mapM_congr' (fun p hq => by rw [hp p hq])
    simp only [plan, e1, e2]
  case slice t x lo hi mx =>
    simp only [plan]
    cases mx with
    | none => exact planSlice_congr (h x (by simp [Op.operands])) (fun y hy => h y (by simp [Op.operands] at hy ⊢; exact .inr (.inl hy))) (fun y hy => h y (by simp [Op.operands] at hy ⊢; exact .inr (.inr hy)))
    | some m => rfl
  case call c => exact planCall_congr (fun x hx => h x (by simp only [Op.operands, Call.operands]; simp; exact .inr (by simpa using hx)))
  all_goals first
    | rfl
    | (simp only [Op.operands, Call.operands] at h; simp at h; simp only [plan]; first | rw [h] | rw [h.1, h.2] | rw [h.1, h.2.1, h.2.2] | (simp only [h]; done) | rfl)
end
end Go.Eng
