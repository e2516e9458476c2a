import Derived.Test.YtegcdnjihnpolaaE3
set_option linter.unusedSimpArgs false
set_option linter.unusedVariables false
namespace Go.Eng
open Go
section
variable {P : Program} {ρ : Ren}

@[simp] theorem N.val_lit (n : Nat) : (N.lit n).val = n := rfl
@[simp] theorem N.val_sym (n : Nat) : (N.sym n).val = n := rfl

theorem addr_add (r o n : Nat) : (⟨r, o, none⟩ : Addr).add n = ⟨r, o + n, none⟩ := by
  unfold Addr.add
  split
  · rename_i h; subst h; rfl
  · rfl

theorem leq_ok {a b : N} {d : Nat} {ps : List Prop} (h : leq arR a d b = some ps) (hq : ∀ q ∈ ps, q) : a.val + d ≤ b.val := by
  unfold leq at h
  split at h
  · split at h
    · simpa [N.val]
    · cases h
  · simp only [Option.some.injEq] at h
    subst h
    exact hq (arR.leN _ _) (by simp)

theorem get_at {g : G} {off : N} {c : C} {ps : List Prop} (h : g.get? arR off = some (c, ps)) (hq : ∀ q ∈ ps, q) : g.at off.val = some c := by
  unfold G.get? at h
  split at h
  · split at h
    · rename_i e
      simp only [Option.some.injEq, Prod.mk.injEq] at h
      simp only [G.at, N.val, e, h.1]
    · cases h
  · cases h
  · split at h
    · rename_i e
      simp only [Option.some.injEq, Prod.mk.injEq] at h
      obtain ⟨rfl, rfl⟩ := h
      have := leq_ok e hq
      simp only [G.at]
      rw [if_pos (by omega)]
    · cases h

theorem cut_at {g g' : G} {off : N} {n : Nat} {ps : List Prop} (h : g.cut arR off n = some (g', ps)) (hq : ∀ q ∈ ps, q) :
    g'.len = n ∧ off.val + n ≤ g.len ∧ ∀ (j : Nat) x, g'.at j = some x → j < n ∧ g.at (off.val + j) = some x := by
  unfold G.cut at h
  split at h
  · rename_i cs off
    split at h
    · rename_i hlen
      simp only [Option.some.injEq, Prod.mk.injEq] at h
      obtain ⟨rfl, rfl⟩ := h
      refine ⟨by simp [G.len]; omega, by simpa [G.len, N.val] using hlen, fun j x hx => ?_⟩
      simp only [G.at, N.val] at hx ⊢
      have hj : j < n := by
        have := (List.getElem?_eq_some_iff.1 hx).1
        simp at this; omega
      rw [List.getElem?_take_of_lt hj, List.getElem?_drop] at hx
      exact ⟨hj, hx⟩
    · cases h
  · cases h
  · rename_i k m f
    split at h
    · rename_i e
      simp only [Option.some.injEq, Prod.mk.injEq] at h
      obtain ⟨rfl, rfl⟩ := h
      have hl := leq_ok e hq
      refine ⟨rfl, by simpa [G.len, N.val] using hl, fun j x hx => ?_⟩
      simp only [G.at] at hx ⊢
      simp only [N.val_lit] at hl
      by_cases hj : j < n
      · rw [if_pos (show j < (N.lit n).val from hj)] at hx
        refine ⟨hj, ?_⟩
        rw [if_pos (show (N.lit 0).val + j < m.val by simp only [N.val_lit]; omega), show (N.lit 0).val + j = j from Nat.zero_add j]
        exact hx
      · rw [if_neg (show ¬ j < (N.lit n).val from hj)] at hx; cases hx
    · cases h
  · split at h
    · rename_i e
      simp only [Option.some.injEq, Prod.mk.injEq] at h
      obtain ⟨rfl, rfl⟩ := h
      have hl := leq_ok e hq
      refine ⟨rfl, by simpa [G.len] using hl, fun j x hx => ?_⟩
      simp only [G.at] at hx ⊢
      by_cases hj : j < n
      · rw [if_pos (show j < (N.lit n).val from hj)] at hx
        refine ⟨hj, ?_⟩
        rw [if_pos (by omega)]
        rw [shfN_eq] at hx
        exact hx
      · rw [if_neg (show ¬ j < (N.lit n).val from hj)] at hx; cases hx
    · cases h

theorem inR_ok {len : N} {j : Int} {lt : Bool} {ps : List Prop} (h : inR arR len j lt = some ps) (hq : ∀ q ∈ ps, q) : 0 ≤ j ∧ j < (len.val : Int) := by
  unfold inR at h
  split at h
  · split at h
    · rename_i e; simpa [N.val] using e
    · cases h
  · simp only [Option.some.injEq] at h
    subst h
    exact hq (arR.inb _ _) (by simp)

theorem addN_val (off : N) (j : Int) (lt : Bool) (s : Nat) : (addN arR off j lt s).val = off.val + j.toNat * s := by
  unfold addN
  split <;> simp [N.val, arR]

/-- the cut of an aggregate's cells -/
theorem cut_rel {g g' : G} {off : N} {n : Nat} {ps : List Prop} {arr : Array Value} (hg : GRel ρ g arr) (h : g.cut arR off n = some (g', ps)) (hq : ∀ q ∈ ps, q) : GRel ρ g' (arr.extract off.val (off.val + n)) := by
  obtain ⟨h1, h2, h3⟩ := cut_at h hq
  refine ⟨by simp [h1, hg.1]; omega, fun j x hx => ?_⟩
  obtain ⟨hj, hx⟩ := h3 j x hx
  obtain ⟨v, hv, hc⟩ := hg.2 _ _ hx
  refine ⟨v, ?_, hc⟩
  rw [Array.getElem?_extract]
  rw [if_pos (by rw [hg.1]; omega)]
  exact hv

theorem fold_set (off : Nat) : ∀ (l : List Value) (s : Nat) (c : Array Value), off + s + l.length ≤ c.size →
    ((l.zipIdx s).foldl (fun (cs : Array Value) (x : Value × Nat) => cs.setIfInBounds (off + x.2) x.1) c).size = c.size ∧
    ∀ k : Nat, ((l.zipIdx s).foldl (fun (cs : Array Value) (x : Value × Nat) => cs.setIfInBounds (off + x.2) x.1) c)[k]? = if off + s ≤ k ∧ k < off + s + l.length then l[k - (off + s)]? else c[k]?
  | [], s, c, h => by
    refine ⟨rfl, fun k => ?_⟩
    rw [if_neg (by simp)]; rfl
  | x :: l, s, c, h => by
    simp only [List.length_cons] at h
    obtain ⟨h1, h2⟩ := fold_set off l (s + 1) (c.setIfInBounds (off + s) x) (by simp; omega)
    simp only [List.zipIdx_cons, List.foldl_cons]
    refine ⟨by rw [h1]; simp, fun k => ?_⟩
    rw [h2]
    simp only [List.length_cons]
    by_cases hk : k = off + s
    · subst hk
      rw [if_neg (by omega), if_pos (by omega), Nat.sub_self, List.getElem?_cons_zero, Array.getElem?_setIfInBounds, if_pos rfl, if_pos (by omega)]
    · by_cases hk2 : off + (s + 1) ≤ k ∧ k < off + (s + 1) + l.length
      · rw [if_pos hk2, if_pos (by omega)]
        rw [show k - (off + s) = (k - (off + (s + 1))) + 1 by omega]
        simp
      · rw [if_neg hk2, if_neg (by omega)]
        rw [Array.getElem?_setIfInBounds_ne (by omega)]

theorem fill_step (c v : Array Value) (off : Nat) (h : off + v.size ≤ c.size) :
    (v.zipIdx.foldl (fun (cs : Array Value) (x : Value × Nat) => cs.setIfInBounds (off + x.2) x.1) c).size = c.size ∧
    ∀ k : Nat, (v.zipIdx.foldl (fun (cs : Array Value) (x : Value × Nat) => cs.setIfInBounds (off + x.2) x.1) c)[k]? = if off ≤ k ∧ k < off + v.size then v[k - off]? else c[k]? := by
  have := fold_set off v.toList 0 c (by simpa using h)
  rw [← Array.foldl_toList, Array.toList_zipIdx]
  simpa using this

/-- a list of cells -/
def LRel (ρ : Ren) (l : List C) (arr : Array Value) : Prop := arr.size = l.length ∧ ∀ (j : Nat) x, l[j]? = some x → ∃ v : Value, arr[j]? = some v ∧ CRel ρ x v

theorem LRel_iff {l : List C} {arr : Array Value} : LRel ρ l arr ↔ GRel ρ (.lst l) arr := Iff.rfl

theorem list_rel {g : G} {l : List C} {arr : Array Value} (h : GRel ρ g arr) (hl : g.list = some l) : LRel ρ l arr := by
  cases g with
  | lst cs => simp only [G.list, Option.some.injEq] at hl; subst hl; exact h
  | ints k n f =>
    cases n with
    | lit n =>
      simp only [G.list, Option.some.injEq] at hl
      subst hl
      refine ⟨by rw [h.1]; simp [G.len], fun j x hx => h.2 j x ?_⟩
      have hj : j < n := by
        have := (List.getElem?_eq_some_iff.1 hx).1; simpa using this
      simp [hj] at hx
      subst hx
      simp [G.at, hj]
    | sym n => cases hl

theorem gr_rel {x : A} {u : Value} (h : ARel ρ x u) : GRel ρ x.gr u.cells := by
  cases x with
  | one c =>
    have h' : CRel ρ c u := h
    rw [h'.cells]
    refine ⟨rfl, fun j y hy => ?_⟩
    cases j with
    | zero => simp [A.gr, G.at] at hy; subst hy; exact ⟨u, rfl, h'⟩
    | succ j => simp [A.gr, G.at] at hy
  | agg g =>
    obtain ⟨arr, rfl, hg⟩ := h
    exact hg

theorem splice_rel {l m : List C} {c v : Array Value} {off : Nat} (hc : LRel ρ l c) (hv : LRel ρ m v) (h : off + m.length ≤ l.length) :
    LRel ρ (l.take off ++ m ++ l.drop (off + m.length)) (v.zipIdx.foldl (fun (cs : Array Value) (x : Value × Nat) => cs.setIfInBounds (off + x.2) x.1) c) := by
  obtain ⟨h1, h2⟩ := fill_step c v off (by rw [hc.1, hv.1]; exact h)
  refine ⟨by rw [h1, hc.1]; simp; omega, fun j x hx => ?_⟩
  rw [h2]
  by_cases hj : j < off
  · rw [if_neg (by omega)]
    rw [List.append_assoc, List.getElem?_append_left (by simp; omega), List.getElem?_take_of_lt hj] at hx
    exact hc.2 j x hx
  · by_cases hj2 : j < off + m.length
    · rw [if_pos (by rw [hv.1]; omega)]
      rw [List.append_assoc, List.getElem?_append_right (by simp; omega), List.getElem?_append_left (by simp; omega)] at hx
      rw [show j - (l.take off).length = j - off by simp; omega] at hx
      exact hv.2 _ x hx
    · rw [if_neg (by rw [hv.1]; omega)]
      rw [List.append_assoc, List.getElem?_append_right (by simp; omega), List.getElem?_append_right (by simp; omega), List.getElem?_drop] at hx
      rw [show off + m.length + (j - (l.take off).length - m.length) = j by simp; omega] at hx
      exact hc.2 j x hx

theorem fill_rel {place : Nat → Option (Nat × Nat)} : ∀ {ps : List (Nat × List C)} {parts : List (Nat × Value)} {cs r : List C} {c : Array Value},
    ps.length = parts.length → (∀ (j : Nat) off l i v, ps[j]? = some (off, l) → parts[j]? = some (i, v) → place i = some (off, l.length) ∧ LRel ρ l v.cells) → LRel ρ cs c → fillL cs ps = some r →
    ∃ c', Instr.fill place c parts = some c' ∧ LRel ρ r c'
  | [], [], cs, r, c, _, _, hc, h => by
    simp only [fillL, Option.some.injEq] at h
    subst h
    exact ⟨c, rfl, hc⟩
  | (off, l) :: ps, (i, v) :: parts, cs, r, c, hlen, hall, hc, h => by
    obtain ⟨hp, hv⟩ := hall 0 off l i v rfl rfl
    simp only [fillL] at h
    split at h
    · rename_i hoff
      have hs := splice_rel hc hv hoff
      obtain ⟨c', h1, h2⟩ := fill_rel (ps := ps) (parts := parts) (by simpa using hlen) (fun j off l i v a b => hall (j + 1) off l i v (by simpa using a) (by simpa using b)) hs h
      refine ⟨c', ?_, h2⟩
      simp only [Instr.fill, hp]
      rw [if_neg]
      · exact h1
      · have e1 := hv.1
        have e2 := hc.1
        simp [e1, e2]; omega
    · cases h
  | [], _ :: _, _, _, _, hlen, _, _, _ => by simp at hlen
  | _ :: _, [], _, _, _, hlen, _, _, _ => by simp at hlen

theorem fillI_rel {k : IntKind} {n : Nat} {ev : Operand → V} {eu : Operand → Value} (hev : ∀ x, VRel ρ (ev x) (eu x)) : ∀ {ps : List (Nat × Operand)} {f f' : Nat → Int} {c : Array Value},
    GRel ρ (.ints k (.lit n) f) c → fillI arR k n f (ps.map fun p => (p.1, ev p.2)) = some f' →
    ∃ c', Instr.fill (fun i => some (i * 1, 1)) c (ps.map fun p => (p.1, eu p.2)) = some c' ∧ GRel ρ (.ints k (.lit n) f') c'
  | [], f, f', c, hc, h => by
    simp only [List.map_nil, fillI, Option.some.injEq] at h
    subst h
    exact ⟨c, rfl, hc⟩
  | (i, x) :: ps, f, f', c, hc, h => by
    simp only [List.map_cons, fillI] at h
    split at h
    · rename_i cx hcx
      split at h
      · rename_i k' z l hnum
        split at h
        · rename_i hk
          simp only [Bool.and_eq_true, decide_eq_true_eq] at hk
          have hkk := kindEq_eq hk.1
          subst hkk
          have hv := Cof_rel (hev x) hcx
          have hcells := hv.cells
          have hev' := hv.of_num hnum
          have hsz : c.size = n := hc.1
          obtain ⟨h1, h2⟩ := fill_step c #[eu x] i (by simp; omega)
          obtain ⟨c', e1, e2⟩ := fillI_rel hev (ps := ps) (c := ((#[eu x] : Array Value).zipIdx.foldl (fun (cs : Array Value) (x : Value × Nat) => cs.setIfInBounds (i + x.2) x.1) c)) (f := updF f i z) (by
            refine ⟨by rw [h1]; exact hc.1, fun j y hy => ?_⟩
            simp only [G.at] at hy
            have hjn : j < n := by
              by_cases hjn : j < n
              · exact hjn
              · rw [if_neg (show ¬ j < (N.lit n).val from hjn)] at hy; cases hy
            rw [if_pos (show j < (N.lit n).val from hjn)] at hy
            simp only [Option.some.injEq] at hy
            subst hy
            rw [h2]
            by_cases hji : j = i
            · subst hji
              rw [if_pos (by simp)]
              exact ⟨eu x, by simp, by rw [hev']; simp [CRel, updF]⟩
            · rw [if_neg (by simp; omega)]
              obtain ⟨u, hu, hr⟩ := hc.2 j (.int k (f j)) (by simp only [G.at]; rw [if_pos (show j < (N.lit n).val from hjn)])
              exact ⟨u, hu, by simpa [CRel, updF, hji] using hr⟩) h
          refine ⟨c', ?_, e2⟩
          simp only [List.map_cons, Instr.fill, Nat.mul_one, hcells]
          rw [if_neg (by simp; omega)]
          simpa only [Nat.mul_one] using e1
        · cases h
      · cases h
    · cases h

theorem run_mapM_list {α β : Type} {f : α → Sem β} {g : α → β} {w : World} : ∀ (l : List α), (∀ x ∈ l, (f x).run P w = .ok (g x) w) → (l.mapM f).run P w = .ok (l.map g) w
  | [], _ => by simp [Sem.run_pure]
  | x :: l, h => by
    simp only [List.mapM_cons, Sem.run_bind, h x (by simp), Result.andThen_ok, run_mapM_list l (fun y hy => h y (by simp [hy])), Sem.run_pure, List.map_cons]
theorem run_mapM {α β : Type} {f : α → Sem β} {g : α → β} {w : World} (xs : Array α) (h : ∀ x ∈ xs, (f x).run P w = .ok (g x) w) : (xs.mapM f).run P w = .ok (xs.map g) w := by
  rw [Array.mapM_eq_mapM_toList]
  have := run_mapM_list (P := P) xs.toList (fun x hx => h x (by simpa using hx))
  change Sem.run P (List.mapM f xs.toList >>= fun l => pure l.toArray) w = _
  rw [Sem.run_bind, this]
  simp [Sem.run_pure, ← Array.toList_map]

theorem of_val {p q : V} {ps qs : List Prop} (h : some (Plan.val p, ps) = some (Plan.val q, qs)) : p = q ∧ ps = qs := by
  simpa using h

theorem leI_ok {x : Int} {lt : Bool} {n : N} {ps : List Prop} (h : leI arR x lt n = some ps) (hq : ∀ q ∈ ps, q) : 0 ≤ x ∧ x ≤ (n.val : Int) := by
  unfold leI at h
  split at h
  · split at h
    · rename_i e; simpa using e
    · cases h
  · simp only [Option.some.injEq] at h
    subst h
    exact hq (arR.le0 _ _) (by simp)

theorem intN_val (x : Int) (lt : Bool) : (intN arR x lt).val = x.toNat := by cases lt <;> rfl
theorem sofN_val (off cap : N) (lo : Int) (lt : Bool) (es : Nat) : (sofN arR off cap lo lt es).val = if cap.val = lo.toNat then off.val else off.val + lo.toNat * es := by
  unfold sofN
  split
  · split <;> simp_all
  · rfl
theorem subN_val (a : N) (lo : Int) (lt : Bool) : (subN arR a lo lt).val = a.val - lo.toNat := by
  unfold subN
  split <;> simp [arR]

theorem hiOf_ok {ev : Operand → V} {eu : Operand → Value} (hev : ∀ x, VRel ρ (ev x) (eu x)) {hi : Option Operand} {len cap h : N} {ps : List Prop} (e : hiOf arR ev hi len cap = some (h, ps)) (hq : ∀ q ∈ ps, q) :
    (hi = none ∧ h = len) ∨ ∃ x k n, hi = some x ∧ eu x = .int k n ∧ 0 ≤ n ∧ n ≤ (cap.val : Int) ∧ h.val = n.toNat := by
  unfold hiOf at e
  split at e
  · simp only [Option.some.injEq, Prod.mk.injEq] at e; exact .inl ⟨rfl, e.1.symm⟩
  · rename_i x
    split at e
    · rename_i c hc
      split at e
      · rename_i k n lt hnum
        split at e
        · rename_i ps' hle
          simp only [Option.some.injEq, Prod.mk.injEq] at e
          obtain ⟨rfl, rfl⟩ := e
          obtain ⟨h1, h2⟩ := leI_ok hle hq
          exact .inr ⟨x, k, n, rfl, (Cof_rel (hev x) hc).of_num hnum, h1, h2, intN_val n lt⟩
        · cases e
      · cases e
    · cases e
theorem loOf_ok {ev : Operand → V} {eu : Operand → Value} (hev : ∀ x, VRel ρ (ev x) (eu x)) {lo : Option Operand} {h : N} {l : Int} {lt : Bool} {ps : List Prop} (e : loOf arR ev lo h = some (l, lt, ps)) (hq : ∀ q ∈ ps, q) :
    (lo = none ∧ l = 0) ∨ ∃ x k, lo = some x ∧ eu x = .int k l ∧ 0 ≤ l ∧ l ≤ (h.val : Int) := by
  unfold loOf at e
  split at e
  · simp only [Option.some.injEq, Prod.mk.injEq] at e; exact .inl ⟨rfl, e.1.symm⟩
  · rename_i x
    split at e
    · rename_i c hc
      split at e
      · rename_i k n lt' hnum
        split at e
        · rename_i ps' hle
          simp only [Option.some.injEq, Prod.mk.injEq] at e
          obtain ⟨rfl, rfl, rfl⟩ := e
          obtain ⟨h1, h2⟩ := leI_ok hle hq
          exact .inr ⟨x, k, rfl, (Cof_rel (hev x) hc).of_num hnum, h1, h2⟩
        · cases e
      · cases e
    · cases e

theorem run_bounds {isS : Bool} {len cap : Nat} {lo hi : Option Operand} {eu : Operand → Value} {h : Nat} {l : Int} (hh : (hi = none ∧ h = len) ∨ ∃ x k n, hi = some x ∧ eu x = .int k n ∧ 0 ≤ n ∧ n ≤ (cap : Int) ∧ h = n.toNat)
    (hl : (lo = none ∧ l = 0) ∨ ∃ x k, lo = some x ∧ eu x = .int k l ∧ 0 ≤ l ∧ l ≤ (h : Int)) (w : World) : (Instr.sliceBounds isS len cap (lo.map eu) (hi.map eu) none).run P w = .ok (l.toNat, h, cap) w := by
  rcases hh with ⟨rfl, rfl⟩ | ⟨x, k, n, rfl, e1, e2, e3, rfl⟩ <;> rcases hl with ⟨rfl, rfl⟩ | ⟨y, k', rfl, f1, f2, f3⟩
  · simp [Instr.sliceBounds, Sem.run_bind, Sem.run_pure]
  · simp [Instr.sliceBounds, Instr.sliceBound, asIntOf, Sem.run_bind, Sem.run_pure, f1, f2, f3]
  · simp [Instr.sliceBounds, Instr.sliceBound, asIntOf, Sem.run_bind, Sem.run_pure, e1, e2, e3]
  · generalize hm : n.toNat = m at *
    simp [Instr.sliceBounds, Instr.sliceBound, asIntOf, Sem.run_bind, Sem.run_pure, e1, e2, e3, f1, f2, f3, hm]

theorem slice_addr (r o c : Nat) (l : Int) (es : Nat) : (if c = l.toNat then (⟨r, o, none⟩ : Addr) else Addr.add ⟨r, o, none⟩ (l.toNat * es)) = ⟨r, if c = l.toNat then o else o + l.toNat * es, none⟩ := by
  split
  · rfl
  · rw [addr_add]

theorem planSlice_val {ti : TypeId → TI} (hti : TIok P ti) {o : Oper} {ev : Operand → V} {eu : Operand → Value} (hev : ∀ x, VRel ρ (ev x) (eu x)) {t : TypeId} {x : Operand} {lo hi : Option Operand} (ho : o.op = .slice t x lo hi none) {v : V} {qs : List Prop}
    (hp : planSlice arR ti ev t x lo hi = some (.val v, qs)) (hq : ∀ q ∈ qs, q) : Pur P ρ (execOp eu o) v := by
  unfold planSlice at hp
  split at hp
  · cases hp
  · rename_i hk
    have hk : (ti t).known = true := by simpa using hk
    obtain ⟨d, hd, ht, -⟩ := (hti t hk).und
    split at hp
    · rename_i n e b off htd hc
      rw [htd] at ht; cases d <;> simp only [TDRel] at ht
      rename_i n' e'
      obtain ⟨rfl, rfl⟩ := ht
      obtain ⟨r, oo, hr, ex⟩ := Cof_rel (hev x) hc
      split at hp
      · cases hp
      · rename_i hke
        obtain ⟨i, hi', his, -⟩ := (hti _ (by simpa using hke)).info
        split at hp
        · rename_i h ps hh
          split at hp
          · rename_i l lt qs' hl
            obtain ⟨rfl, rfl⟩ := of_val hp
            have h1 := hiOf_ok (ρ := ρ) hev hh (fun q hx => hq q (by simp [hx]))
            have h2 := loOf_ok (ρ := ρ) hev hl (fun q hx => hq q (by simp [hx]))
            refine fun w => ⟨.slice (some ⟨r, if n' = l.toNat then oo + off.val else oo + off.val + l.toNat * (ti e').size, none⟩) (h.val - l.toNat) (n' - l.toNat), ?_, r, oo, hr, ?_⟩
            · have hb := run_bounds (P := P) (isS := false) (len := n') (cap := n') (lo := lo) (hi := hi) (eu := eu) (h := h.val) (l := l) (by
                rcases h1 with ⟨a, b⟩ | h1
                · exact .inl ⟨a, by rw [b]; rfl⟩
                · exact .inr h1) h2 w
              simp only [execOp, ho, ex, Instr.sliceAt, Sem.run_bind, Go.Eng.run_underlying hd, Result.andThen_ok, Instr.sureAddr, Sem.run_pure, Option.map_none, hb, run_sizeOf hi', his, slice_addr]
            · simp only [sofN_val, subN_val, N.val_lit]
              by_cases hnl : n' = l.toNat
              · simp [hnl]
              · simp [hnl, Nat.add_assoc]
          · cases hp
        · cases hp
    · rename_i e b off len cap htd hc
      rw [htd] at ht; cases d <;> simp only [TDRel] at ht
      rename_i el
      subst ht
      obtain ⟨r, oo, hr, ex⟩ := Cof_rel (hev x) hc
      split at hp
      · cases hp
      · rename_i hke
        obtain ⟨i, hi', his, -⟩ := (hti _ (by simpa using hke)).info
        split at hp
        · rename_i h ps hh
          split at hp
          · rename_i l lt qs' hl
            obtain ⟨rfl, rfl⟩ := of_val hp
            have h1 := hiOf_ok (ρ := ρ) hev hh (fun q hx => hq q (by simp [hx]))
            have h2 := loOf_ok (ρ := ρ) hev hl (fun q hx => hq q (by simp [hx]))
            refine fun w => ⟨.slice (some ⟨r, if cap.val = l.toNat then oo + off.val else oo + off.val + l.toNat * (ti el).size, none⟩) (h.val - l.toNat) (cap.val - l.toNat), ?_, r, oo, hr, ?_⟩
            · have hb := run_bounds (P := P) (isS := true) (len := len.val) (cap := cap.val) (lo := lo) (hi := hi) (eu := eu) (h := h.val) (l := l) (by
                rcases h1 with ⟨a, b⟩ | h1
                · exact .inl ⟨a, by rw [b]⟩
                · exact .inr h1) h2 w
              simp only [execOp, ho, ex, Instr.sliceAt, Instr.slice, Sem.run_bind, Go.Eng.run_underlying hd, Result.andThen_ok, Instr.sureAddr, Sem.run_pure, Option.map_none, hb, run_sizeOf hi', his]
              by_cases hnl : cap.val = l.toNat
              · simp [hnl]
              · simp [hnl, addr_add]
            · simp only [sofN_val, subN_val]
              by_cases hnl : cap.val = l.toNat
              · simp [hnl]
              · simp [hnl, Nat.add_assoc]
          · cases hp
        · cases hp
    · cases hp

theorem run_builtin {o : Oper} {b : Builtin} {args : Array Operand} {T : Array TypeId} (ho : o.op = .call { callee := .builtin b, args := args, argTypes := T }) {eu : Operand → Value} {v : Value} {w : World} (hb : ∀ cs, (builtin b T o.type cs (args.map eu)).run P w = .ok (.value v) w) : (execOp eu o).run P w = .ok (.value v) w := by
  simp only [execOp, ho, resolve, Sem.run_bind, Sem.run_pure, Result.andThen_ok, invoke]
  exact hb _

theorem planMin_rel {mx : Bool} {x y : V} {a b : Value} (hx : VRel ρ x a) (hy : VRel ρ y b) {v : V} {qs : List Prop} (hp : planMin arR arR mx x y = some (.val v, qs)) : ∃ k n k' m, a = .int k n ∧ b = .int k' m ∧ VRel ρ v (.int k (if mx then (if m > n then m else n) else (if m < n then m else n))) := by
  unfold planMin at hp
  split at hp
  · rename_i c d hc hd
    split at hp
    · rename_i k n la k' m lb h1 h2
      refine ⟨k, n, k', m, (Cof_rel hx hc).of_num h1, (Cof_rel hy hd).of_num h2, ?_⟩
      split at hp <;> (obtain rfl := ok_inv hp; cases mx <;> rfl)
    · cases hp
  · cases hp

/-- the operations that only reckon -/
theorem plan_val {ti : TypeId → TI} (hti : TIok P ti) {o : Oper} {ev : Operand → V} {eu : Operand → Value} (hev : ∀ x, VRel ρ (ev x) (eu x)) {v : V} {qs : List Prop}
    (hp : plan arR arR ti ev o.op = some (.val v, qs)) (hq : ∀ q ∈ qs, q) : Pur P ρ (execOp eu o) v := by
  cases ho : o.op <;> rw [ho] at hp <;> simp only [plan] at hp
  case move x => obtain rfl := ok_inv hp; exact .of (fun w => by simp [execOp, ho, Sem.run_pure]) (hev x)
  case assign x => obtain rfl := ok_inv hp; exact .of (fun w => by simp [execOp, ho, Sem.run_pure]) (hev x)
  case pick c a b =>
    split at hp
    · rename_i t hc
      obtain rfl := ok_inv hp
      have h := Cof_rel (hev c) hc
      simp only [CRel] at h
      cases t
      · exact .of (fun w => by simp [execOp, ho, h, asBool, Sem.run_bind, Sem.run_pure]) (hev b)
      · exact .of (fun w => by simp [execOp, ho, h, asBool, Sem.run_bind, Sem.run_pure]) (hev a)
    · rename_i t hc
      obtain rfl := ok_inv hp
      have h := Cof_rel (hev c) hc
      simp only [CRel] at h
      cases t
      · exact .of (fun w => by simp [execOp, ho, h, asBool, Sem.run_bind, Sem.run_pure]) (hev b)
      · exact .of (fun w => by simp [execOp, ho, h, asBool, Sem.run_bind, Sem.run_pure]) (hev a)
    · cases hp
  case alloc e => (repeat' split at hp) <;> simp at hp
  case box e x => (repeat' split at hp) <;> simp at hp
  case load t x => (repeat' split at hp) <;> simp at hp
  case store t x y => (repeat' split at hp) <;> simp at hp
  case nilCheck x =>
    split at hp
    · rename_i b off hc
      obtain rfl := ok_inv hp
      have h := Cof_rel (hev x) hc
      obtain ⟨r, oo, hr, e⟩ := h
      exact .of (v' := eu x) (fun w => by simp [execOp, ho, e, Sem.run_pure]) ⟨r, oo, hr, e⟩
    · cases hp
  case unOp op T x =>
    split at hp
    all_goals first | (cases hp; done) | (rename_i hc; obtain rfl := ok_inv hp; have h := Cof_rel (hev x) hc; simp only [CRel] at h)
    all_goals exact fun w => ⟨_, by simp only [execOp, ho, h, Op.unary, Op.intArith, Op.intBits, Sem.run_bind, Sem.run_pure, Result.andThen_ok] <;> rfl, rfl⟩
  case binOp op T x y T' =>
    split at hp
    · rename_i a b hx hy
      have ex : eu x = .string a := Aof_rel (hev x) hx
      have ey : eu y = .string b := Aof_rel (hev y) hy
      unfold planStr at hp
      split at hp
      · obtain rfl := ok_inv hp
        exact fun w => ⟨.bool (a.toList == b.toList), by simp [execOp, ho, ex, ey, eqGuard, binOp, Op.stringOp, Sem.run_bind, Sem.run_pure], rfl⟩
      · obtain rfl := ok_inv hp
        exact fun w => ⟨.bool (!(a.toList == b.toList)), by simp [execOp, ho, ex, ey, eqGuard, binOp, Op.stringOp, Sem.run_bind, Sem.run_pure], rfl⟩
      · obtain rfl := ok_inv hp
        exact fun w => ⟨.bool (Op.bytesLess a.toList b.toList), by simp [execOp, ho, ex, ey, eqGuard, binOp, Op.stringOp, Sem.run_bind, Sem.run_pure], rfl⟩
      · obtain ⟨rfl, rfl⟩ := of_val hp
        have hfit : ((a.size + b.size : Nat) : Int) ≤ 9223372036854775807 := hq (arR.sfit a b) (by simp)
        have hfit : ¬ ((a.size + b.size : Nat) : Int) > IntKind.i64.max := by
          have : IntKind.i64.max = 9223372036854775807 := rfl
          omega
        exact fun w => ⟨.string (a ++ b), by simp only [execOp, ho, ex, ey, eqGuard, binOp, Op.stringOp, if_neg hfit]; simp [Sem.run_bind, Sem.run_pure], rfl⟩
      · cases hp
    · rename_i x' y' hx hy
      have rx := Aof_rel (hev x) hx
      have ry := Aof_rel (hev y) hy
      split at hp
      · exact pur_bin ho rfl rfl rx ry hp hq
      · split at hp
        · rename_i c hc
          obtain rfl := ok_inv hp
          refine fun w => ?_
          obtain ⟨r, h1, h2, h3, h4, h5, h6⟩ := run_planEq (hti T) rx ry hc w
          exact ⟨.bool r, by simp [execOp, ho, Sem.run_bind, h4, h5, h1, Sem.run_pure], h2⟩
        · rename_i c hc
          obtain rfl := ok_inv hp
          refine fun w => ?_
          obtain ⟨r, h1, h2, h3, h4, h5, h6⟩ := run_planEq (hti T) rx ry hc w
          exact ⟨.bool (!r), by simp [execOp, ho, Sem.run_bind, h4, h6, h1, Sem.run_pure], h3⟩
        · cases hp
    · rename_i x' y' hx hy
      obtain ⟨xs, ex, rx⟩ := Aof_rel (hev x) hx
      obtain ⟨ys, ey, ry⟩ := Aof_rel (hev y) hy
      split at hp
      · rename_i c hc
        obtain rfl := ok_inv hp
        refine fun w => ?_
        obtain ⟨r, h1, h2, h3, h4⟩ := run_planAgg hti rx ry hc w
        exact ⟨.bool r, by rw [execOp]; simp [ho, ex, ey, Sem.run_bind, h4, binOp, h1, Sem.run_pure], h2⟩
      · rename_i c hc
        obtain rfl := ok_inv hp
        refine fun w => ?_
        obtain ⟨r, h1, h2, h3, h4⟩ := run_planAgg hti rx ry hc w
        exact ⟨.bool (!r), by rw [execOp]; simp [ho, ex, ey, Sem.run_bind, h4, binOp, h1, Sem.run_pure], h3⟩
      · cases hp
    · cases hp
  case extract t i =>
    split at hp
    · rename_i l hl
      split at hp
      · rename_i x hx
        obtain rfl := ok_inv hp
        have h := hev t
        rw [hl] at h
        obtain ⟨arr, e, -, h⟩ := h
        obtain ⟨u, hu, hr⟩ := h i x hx
        exact .of (v' := u) (fun w => by simp [execOp, ho, e, Instr.extract, hu, Sem.run_bind, Sem.run_pure]) hr
      · cases hp
    · cases hp
  case convert src dst x =>
    split at hp
    · cases hp
    · rename_i hk
      have hk : (ti src).known = true ∧ (ti dst).known = true := by simpa using hk
      obtain ⟨d1, hd1, ht1, -⟩ := (hti src hk.1).und
      obtain ⟨d2, hd2, ht2, -⟩ := (hti dst hk.2).und
      split at hp
      all_goals first | (cases hp; done) | (rename_i hc htd; obtain rfl := ok_inv hp; have h := Cof_rel (hev x) hc; simp only [CRel] at h; rw [htd] at ht2; cases d2 <;> simp only [TDRel] at ht2; subst ht2)
      all_goals exact .of (v' := .int _ _) (fun w => by simp [execOp, ho, h, convert, Sem.run_bind, Go.Eng.run_underlying hd1, Go.Eng.run_underlying hd2, Conv.intToInt, Sem.run_pure]; rfl) rfl
  case fieldAddr st x f =>
    split at hp
    · cases hp
    · rename_i hk
      have hk : (ti st).known = true := by simpa using hk
      obtain ⟨d, hd, ht, -⟩ := (hti st hk).und
      split at hp
      · rename_i b off fs hc htd
        split at hp
        · rename_i o' ft hf
          split at hp
          · rename_i hkf
            have hkf : (ti ft).known = true ∧ (ti ft).size ≠ 0 := by simpa using hkf
            obtain ⟨i, hi, his, -⟩ := (hti ft hkf.1).info
            obtain rfl := ok_inv hp
            obtain ⟨r, oo, hr, e⟩ := Cof_rel (hev x) hc
            rw [htd] at ht; cases d <;> simp only [TDRel] at ht
            rename_i fields
            subst ht
            simp only [List.getElem?_map, Array.getElem?_toList, Option.map_eq_some_iff, Prod.mk.injEq] at hf
            obtain ⟨fd, hfd, rfl, rfl⟩ := hf
            refine fun w => ⟨_, by simp only [execOp, ho, e, Instr.fieldAt, Sem.run_bind, Go.Eng.run_underlying hd, Result.andThen_ok, hfd, Instr.sureAddr, Sem.run_pure, fieldPlace, run_sizeOf hi, his, hkf.2, if_false, addr_add] <;> rfl, r, oo, hr, ?_⟩
            simp only [N.val_lit, Nat.add_assoc]
          · cases hp
        · cases hp
      · cases hp
  case field st x f =>
    split at hp
    · cases hp
    · rename_i hk
      have hk : (ti st).known = true := by simpa using hk
      obtain ⟨d, hd, ht, -⟩ := (hti st hk).und
      split at hp
      · rename_i g fs hc htd
        obtain ⟨arr, e, hg⟩ := Aof_rel (hev x) hc
        rw [htd] at ht; cases d <;> simp only [TDRel] at ht
        rename_i fields
        subst ht
        split at hp
        · rename_i o' ft hf
          simp only [List.getElem?_map, Array.getElem?_toList, Option.map_eq_some_iff, Prod.mk.injEq] at hf
          obtain ⟨fd, hfd, rfl, rfl⟩ := hf
          split at hp
          · cases hp
          · rename_i hkf
            have hkf : (ti fd.type).known = true := by simpa using hkf
            obtain ⟨i, hi, his, -⟩ := (hti _ hkf).info
            obtain ⟨d', hd', -, hag⟩ := (hti _ hkf).und
            split at hp
            · rename_i ha
              rw [hag] at ha
              split at hp
              · rename_i g' ps hcut
                obtain ⟨rfl, rfl⟩ := of_val hp
                have := cut_rel hg hcut hq
                refine fun w => ⟨_, by simp only [execOp, ho, e, Instr.field, Sem.run_bind, Go.Eng.run_underlying hd, Result.andThen_ok, hfd, asAgg, part, run_isAgg hd', ha, if_true, run_sizeOf hi, his, Sem.run_pure] <;> rfl, _, rfl, this⟩
              · cases hp
            · rename_i ha
              have ha : aggOf d' = false := by rw [← hag]; simpa using ha
              split at hp
              · rename_i c ps hget
                obtain ⟨rfl, rfl⟩ := of_val hp
                obtain ⟨u, hu, hc⟩ := hg.2 _ _ (get_at hget hq)
                simp only [N.val_lit] at hu
                refine fun w => ⟨u, by simp [execOp, ho, e, Instr.field, Sem.run_bind, Go.Eng.run_underlying hd, Result.andThen_ok, hfd, asAgg, part, run_isAgg hd', ha, hu, Sem.run_pure], hc⟩
              · cases hp
        · cases hp
      · cases hp
  case indexAddr t x i =>
    split at hp
    · cases hp
    · rename_i hk
      have hk : (ti t).known = true := by simpa using hk
      obtain ⟨d, hd, ht, -⟩ := (hti t hk).und
      split at hp
      · rename_i cj hcj
        split at hp
        · rename_i k j lt hnum
          have ei := (Cof_rel (hev i) hcj).of_num hnum
          split at hp
          · rename_i b off len el hc htd
            obtain ⟨r, oo, hr, e⟩ := Cof_rel (hev x) hc
            rw [htd] at ht; cases d <;> simp only [TDRel] at ht
            obtain ⟨rfl, rfl⟩ := ht
            split at hp
            · cases hp
            · rename_i hke
              obtain ⟨i', hi, his, -⟩ := (hti _ (by simpa using hke)).info
              split at hp
              · rename_i ps hin
                obtain ⟨rfl, rfl⟩ := of_val hp
                have hb := inR_ok hin hq
                simp only [N.val_lit] at hb
                refine fun w => ⟨_, by simp only [execOp, ho, e, ei, Instr.indexAt, asIntOf, Sem.run_bind, Sem.run_pure, Go.Eng.run_underlying hd, Result.andThen_ok, Instr.sureAddr, if_pos hb, run_sizeOf hi, his, addr_add] <;> rfl, r, oo, hr, ?_⟩
                rw [addN_val, Nat.add_assoc]
              · cases hp
          · rename_i b off len cap el hc htd
            obtain ⟨r, oo, hr, e⟩ := Cof_rel (hev x) hc
            rw [htd] at ht; cases d <;> simp only [TDRel] at ht
            subst ht
            split at hp
            · cases hp
            · rename_i hke
              obtain ⟨i', hi, his, -⟩ := (hti _ (by simpa using hke)).info
              split at hp
              · rename_i ps hin
                obtain ⟨rfl, rfl⟩ := of_val hp
                have hb := inR_ok hin hq
                refine fun w => ⟨_, by simp only [execOp, ho, e, ei, Instr.indexAt, asIntOf, Sem.run_bind, Sem.run_pure, Go.Eng.run_underlying hd, Result.andThen_ok, if_pos hb, run_sizeOf hi, his, addr_add] <;> rfl, r, oo, hr, ?_⟩
                rw [addN_val, Nat.add_assoc]
              · cases hp
          · cases hp
        · cases hp
      · cases hp
  case index t x i =>
    split at hp
    · cases hp
    · rename_i hk
      have hk : (ti t).known = true := by simpa using hk
      obtain ⟨d, hd, ht, -⟩ := (hti t hk).und
      split at hp
      · rename_i cj hcj
        split at hp
        · rename_i k j lt hnum
          have ei := (Cof_rel (hev i) hcj).of_num hnum
          split at hp
          · rename_i g len el hc htd
            obtain ⟨arr, e, hg⟩ := Aof_rel (hev x) hc
            rw [htd] at ht; cases d <;> simp only [TDRel] at ht
            rename_i len' el'
            obtain ⟨rfl, rfl⟩ := ht
            split at hp
            · cases hp
            · rename_i hke
              have hke : ((ti el').known = true ∧ (ti el').agg = false) ∧ (ti el').size = 1 := by simpa using hke
              obtain ⟨i', hi, his, -⟩ := (hti _ hke.1.1).info
              obtain ⟨d', hd', -, hag⟩ := (hti _ hke.1.1).und
              have ha : aggOf d' = false := by rw [← hag]; exact hke.1.2
              split at hp
              · rename_i ps hin
                split at hp
                · rename_i c qs' hget
                  obtain ⟨rfl, rfl⟩ := of_val hp
                  have hb := inR_ok hin (fun q h => hq q (by simp [h]))
                  simp only [N.val_lit] at hb
                  obtain ⟨u, hu, hc⟩ := hg.2 _ _ (get_at hget (fun q h => hq q (by simp [h])))
                  simp only [addN_val, N.val_lit, Nat.mul_one, Nat.zero_add] at hu
                  refine fun w => ⟨u, by simp [execOp, ho, e, ei, Instr.index, asIntOf, Sem.run_bind, Sem.run_pure, Go.Eng.run_underlying hd, Result.andThen_ok, hb, run_sizeOf hi, his, hke.2, part, run_isAgg hd', ha, hu], hc⟩
                · cases hp
              · cases hp
          · rename_i s hc htd
            have e : eu x = .string s := Aof_rel (hev x) hc
            rw [htd] at ht; cases d <;> simp only [TDRel] at ht
            obtain ⟨rfl, rfl⟩ := of_val hp
            have hb : 0 ≤ j ∧ j < (s.size : Int) := hq (arR.inb j (arR.sz s)) (by simp)
            have hlt : j.toNat < s.size := by omega
            refine fun w => ⟨.int .u8 ((s[j.toNat]?.getD 0).toNat : Nat), ?_, rfl⟩
            simp only [execOp, ho, e, ei, Sem.run_bind, run_index_string w t s k j hd, dif_pos hb, Result.andThen_ok, Sem.run_pure]
            rw [ByteArray.getElem?_lt' s _ hlt]; rfl
          · cases hp
        · cases hp
      · cases hp
  case build t parts =>
    split at hp
    · cases hp
    · rename_i hk
      have hk : (ti t).known = true := by simpa using hk
      obtain ⟨d, hd, ht, -⟩ := (hti t hk).und
      obtain ⟨i0, hi0, -, hz⟩ := (hti t hk).info
      split at hp
      · rename_i fs z htd hzero
        obtain ⟨zv, hzv, zr⟩ := hz _ hzero
        obtain ⟨zarr, rfl, zg⟩ := zr
        rw [htd] at ht; cases d <;> simp only [TDRel] at ht
        rename_i fields
        subst ht
        split at hp
        · rename_i ps hps
          split at hp
          · rename_i r hr
            obtain rfl := ok_inv hp
            have hfi : ∀ f ∈ fields, ∀ w, (do pure (f.offset, ← sizeOf f.type) : Sem (Nat × Nat)).run P w = .ok (f.offset, ((P.info? f.type).map (·.size)).getD 0) w := by
              intro f hf w
              obtain ⟨i, hi⟩ := (hti t hk).fields _ hd f hf
              simp [Sem.run_bind, run_sizeOf hi, hi, Sem.run_pure]
            have hpl := mapM_some_length hps
            obtain ⟨c', hc1, hc2⟩ := fill_rel (place := fun n => (fields.map fun f => (f.offset, ((P.info? f.type).map (·.size)).getD 0))[n]?) (ps := ps) (parts := (parts.map fun (i, x) => (i, eu x)).toList) (cs := z) (r := r) (c := zarr)
              (by rw [hpl]; simp) (by
                intro j off l i v h1 h2
                have hj : j < parts.toList.length := by
                  have := (List.getElem?_eq_some_iff.1 h1).1; omega
                obtain ⟨y, hy, hr'⟩ := mapM_some_get hps j _ (List.getElem?_eq_getElem hj)
                simp only [Array.toList_map, List.getElem?_map, List.getElem?_eq_getElem hj, Option.map_some, Option.some.injEq] at h2
                rw [h1] at hr'
                simp only [Option.some.injEq] at hr'
                subst hr'
                generalize parts.toList[j] = q at hy h2
                obtain ⟨qi, qx⟩ := q
                simp only [Prod.mk.injEq] at h2
                obtain ⟨rfl, rfl⟩ := h2
                unfold partOf at hy
                split at hy
                · rename_i off' ft v' hf hA
                  split at hy
                  · cases hy
                  · rename_i hkf
                    have hkf : (ti ft).known = true := by simpa using hkf
                    obtain ⟨i1, hi1, his1, -⟩ := (hti _ hkf).info
                    split at hy
                    · rename_i l' hl'
                      split at hy
                      · rename_i hlen
                        simp only [Option.some.injEq, Prod.mk.injEq] at hy
                        obtain ⟨rfl, rfl⟩ := hy
                        simp only [List.getElem?_map, Array.getElem?_toList, Option.map_eq_some_iff, Prod.mk.injEq] at hf
                        obtain ⟨fd, hfd, rfl, rfl⟩ := hf
                        refine ⟨by simp [hfd, hi1, his1, hlen], list_rel (gr_rel (Aof_rel (hev qx) hA)) hl'⟩
                      · cases hy
                    · cases hy
                · cases hy) (GRel.ext (fun _ _ h => by cases h) zg) hr
            refine fun w => ⟨.agg c', ?_, c', rfl, hc2⟩
            simp only [execOp, ho, Instr.build, Sem.run_bind, zeroValue, run_typeInfo hi0, Result.andThen_ok, hzv, Sem.run_pure, Go.Eng.run_underlying hd, Value.cells]
            rw [run_mapM fields (fun f hf => hfi f hf w)]
            simp only [Result.andThen_ok]
            rw [hc1]
            simp only [Sem.run_pure, Result.andThen_ok]
          · cases hp
        · cases hp
      · rename_i n' el0 k n f htd hzero
        obtain ⟨zv, hzv, zr⟩ := hz _ hzero
        obtain ⟨zarr, rfl, zg⟩ := zr
        rw [htd] at ht; cases d <;> simp only [TDRel] at ht
        rename_i n'' el
        obtain ⟨rfl, rfl⟩ := ht
        split at hp
        · rename_i hke
          have hke : (ti el).known = true ∧ (ti el).size = 1 := by simpa using hke
          split at hp
          · rename_i f' hf'
            obtain rfl := ok_inv hp
            obtain ⟨i1, hi1, his1, -⟩ := (hti _ hke.1).info
            obtain ⟨c', e1, e2⟩ := fillI_rel hev (ps := parts.toList) (GRel.ext (fun _ _ h => by cases h) zg) hf'
            refine fun w => ⟨.agg c', ?_, c', rfl, e2⟩
            simp only [execOp, ho, Instr.build, Sem.run_bind, zeroValue, run_typeInfo hi0, Result.andThen_ok, hzv, Sem.run_pure, Go.Eng.run_underlying hd, Value.cells, run_sizeOf hi1, his1, hke.2, Array.toList_map]
            rw [e1]
            simp only [Sem.run_pure, Result.andThen_ok]
          · cases hp
        · cases hp
      · cases hp
  case slice t x lo hi mx =>
    split at hp
    · rename_i hm
      exact planSlice_val hti hev ho hp hq
    · cases hp
  case sliceToArrayPointer t x =>
    split at hp
    · cases hp
    · rename_i hk
      have hk : (ti t).known = true := by simpa using hk
      obtain ⟨d, hd, ht, -⟩ := (hti t hk).und
      split at hp
      · rename_i n e b off len cap htd hc
        rw [htd] at ht; cases d <;> simp only [TDRel] at ht
        obtain ⟨rfl, rfl⟩ := ht
        obtain ⟨r, oo, hr, ex⟩ := Cof_rel (hev x) hc
        split at hp
        · rename_i hle
          obtain rfl := ok_inv hp
          refine fun w => ⟨.pointer (some ⟨r, oo + off.val, none⟩), ?_, r, oo, hr, rfl⟩
          simp [execOp, ho, ex, Instr.arrayAt, Sem.run_bind, Go.Eng.run_underlying hd, Sem.run_pure, Nat.not_lt.2 hle]
        · cases hp
      · rename_i n e b off len cap htd hc
        rw [htd] at ht; cases d <;> simp only [TDRel] at ht
        obtain ⟨rfl, rfl⟩ := ht
        obtain ⟨r, oo, hr, ex⟩ := Cof_rel (hev x) hc
        obtain ⟨rfl, rfl⟩ := of_val hp
        have hle := hq _ (List.mem_singleton.2 rfl)
        simp only [arR] at hle
        refine fun w => ⟨.pointer (some ⟨r, oo + off.val, none⟩), ?_, r, oo, hr, rfl⟩
        simp [execOp, ho, ex, Instr.arrayAt, Sem.run_bind, Go.Eng.run_underlying hd, Sem.run_pure, Nat.not_lt.2 hle]
      · cases hp
  case call c =>
    obtain ⟨callee, args, T⟩ := c
    unfold planCall at hp
    simp only at hp
    split at hp
    · rename_i x t hx ht'
      have hargs : args = #[x] := by rw [← Array.toList_inj, hx]
      have hts : T = #[t] := by rw [← Array.toList_inj, ht']
      subst hargs hts
      unfold planLen at hp
      split at hp
      · cases hp
      · rename_i hk
        have hk : (ti t).known = true := by simpa using hk
        obtain ⟨d, hd, ht, -⟩ := (hti t hk).und
        split at hp
        all_goals first | (cases hp; done) | rename_i htd hc
        all_goals
          obtain rfl := ok_inv hp
          rw [htd] at ht; cases d <;> simp only [TDRel] at ht
          have hr := Cof_rel (hev x) hc
        · obtain ⟨r, oo, hr, ex⟩ := hr
          exact fun w => ⟨_, run_builtin ho (fun cs => by simp [builtin, Builtin.len_, Sem.run_bind, Go.Eng.run_underlying hd, ex, Sem.run_pure]; rfl), rfl⟩
        · obtain ⟨r, oo, hr, ex⟩ := hr
          exact fun w => ⟨_, run_builtin ho (fun cs => by simp [builtin, Builtin.len_, Sem.run_bind, Go.Eng.run_underlying hd, ex, Sem.run_pure]; rfl), rfl⟩
        · simp only [CRel] at hr
          exact fun w => ⟨_, run_builtin ho (fun cs => by simp [builtin, Builtin.len_, Sem.run_bind, Go.Eng.run_underlying hd, hr, Sem.run_pure]; rfl), rfl⟩
        · simp only [CRel] at hr
          exact fun w => ⟨_, run_builtin ho (fun cs => by simp [builtin, Builtin.len_, Sem.run_bind, Go.Eng.run_underlying hd, hr, Sem.run_pure]; rfl), rfl⟩
    · rename_i x y hx
      have hargs : args = #[x, y] := by rw [← Array.toList_inj, hx]
      subst hargs
      obtain ⟨k, n, k', m, e1, e2, hv⟩ := planMin_rel (hev x) (hev y) hp
      exact fun w => ⟨_, run_builtin ho (fun cs => by simp [builtin, Builtin.min_, Builtin.min2, Sem.run_bind, e1, e2, Sem.run_pure]), hv⟩
    · rename_i x y hx
      have hargs : args = #[x, y] := by rw [← Array.toList_inj, hx]
      subst hargs
      obtain ⟨k, n, k', m, e1, e2, hv⟩ := planMin_rel (hev x) (hev y) hp
      exact fun w => ⟨_, run_builtin ho (fun cs => by simp [builtin, Builtin.max_, Builtin.max2, Sem.run_bind, e1, e2, Sem.run_pure]), hv⟩
    · cases hp
  all_goals first | (cases hp; done) | ((repeat' split at hp) <;> cases hp)
end
end Go.Eng
