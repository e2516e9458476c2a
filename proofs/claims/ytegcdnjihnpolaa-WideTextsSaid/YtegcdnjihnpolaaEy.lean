import Derived.Test.YtegcdnjihnpolaaEd
import Derived.Laws.AppendOwn
import Derived.Laws.BytesString
import Derived.Laws.MakeOwn
set_option linter.unusedSimpArgs false
set_option linter.unusedVariables false
namespace Go.Eng
open Go Go.RowKit
section
variable {P : Program} {W0 : World} {m0 : Nat}
theorem Agree.trans {a b c : Ren} (h : Agree m0 a b) (k : Agree m0 b c) : Agree m0 a c := fun n p hn hp => k n p hn (h n p hn hp)
theorem Fin.agree {fn : Func} {R : V → Heap → Prop} {b : Frame} {cs : List Frame} {m : Machine} {ρ ρ' : Ren} (h : Agree m0 ρ ρ') (h' : Fin P W0 m0 fn R ρ' b cs m) : Fin P W0 m0 fn R ρ b cs m :=
  let ⟨ρ'', v, v', h'', w', tmps', todo', a1, a2, a3, a4, a5, a6⟩ := h'; ⟨ρ'', v, v', h'', w', tmps', todo', a1, a2, a3, a4, a5, h.trans a6⟩

/-- in the midst of a region whose operations go one behind the other: i of them are done -/
def Mid (P : Program) (hc : FuncId → Bool) (W0 : World) (m0 : Nat) (fn : Func) (R : V → Heap → Prop) (ops : Array Oper) (i : Nat) (K : List Item) (r : RS) : Prop :=
  itemsOk hc K = true → m0 ≤ r.heap.length → DecOk r → ∀ (ρ0 ρ : Ren) (a : Act) (w : World) (b : Frame) (cs : List Frame), Agree m0 ρ0 ρ → TRel ρ r.tmps a.tmps → HRel W0 m0 ρ r.heap w → a.defers = [] →
    wpOps P ops (fun e a' w' => e = .normal ∧ Fin P W0 m0 fn R ρ0 b cs (lone (b.at a' K) cs w')) (List.range' i (ops.size - i)) a w

theorem Mid.start {hc : FuncId → Bool} {fn : Func} {R : V → Heap → Prop} {id : Nat} {ops : Array Oper} {K : List Item} {t : List V} {h : Heap} {o o' : List Prop} {s s' : List Bool}
    (hmid : Mid P hc W0 m0 fn R ops 0 K ⟨t, h, [], s', o'⟩) : Run P hc W0 m0 fn R ⟨t, h, .code (.region id ops false) :: K, o, s⟩ := by
  intro hok hm0 ρ tmps w b cs hT hH
  simp only [itemsOk_cons, Bool.and_eq_true] at hok
  have h1 := hmid hok.2 hm0 (fun d h hm => by simp at hm) ρ ρ ⟨tmps, []⟩ w b cs (Agree.refl ρ) hT hH rfl
  rw [Nat.sub_zero, ← List.range_eq_range'] at h1
  obtain ⟨e, a', w', ⟨rfl, hf⟩, harr⟩ := wp_region (id := id) h1 b K cs
  exact .of_steps harr hf

theorem Mid.done {hc : FuncId → Bool} {fn : Func} {R : V → Heap → Prop} {ops : Array Oper} {i : Nat} {K : List Item} {r : RS} (hi : ops.size ≤ i)
    (h : Run P hc W0 m0 fn R ⟨applyDec r.dec r.tmps, r.heap, K, [], []⟩) : Mid P hc W0 m0 fn R ops i K r := by
  intro hok hm hd ρ0 ρ a w b cs hag hT hH hdef
  rw [show ops.size - i = 0 by omega]
  obtain ⟨t', d'⟩ := a
  simp only at hdef
  subst hdef
  exact ⟨rfl, .agree hag (h hok hm ρ t' w b cs (applyDec_of hd hT) hH)⟩

/-- some of the operations, by the evaluator -/
theorem Mid.ops {hc : FuncId → Bool} {fn : Func} {R : V → Heap → Prop} {ops : Array Oper} {K : List Item} {ti : TypeId → TI} (hti : TIok P ti) {tbl : Tbl} (htbl : TblOk P tbl) :
    ∀ (l : List Oper) (i : Nat) (r r' : RS), (ops.toList.drop i).take l.length = l → runOps arR arR ti tbl ops l r = some r' → (∀ q ∈ r'.obs, q) →
      Mid P hc W0 m0 fn R ops (i + l.length) K r' → Mid P hc W0 m0 fn R ops i K r
  | [], i, r, r', hl, hr, hq, hm => by
    simp only [runOps, Option.some.injEq] at hr
    subst hr
    exact hm
  | o :: l, i, r, r', hl, hr, hq, hmid => by
    intro hok hm hd ρ0 ρ a w b cs hag hT hH hdef
    have h0 : (ops.toList.drop i)[0]? = some o := by
      have e : ((ops.toList.drop i).take (o :: l).length)[0]? = some o := by rw [hl]; rfl
      rwa [List.getElem?_take_of_lt (by simp)] at e
    have hoi : ops[i]? = some o := by
      rw [List.getElem?_drop] at h0
      simpa using h0
    have hlt : i < ops.size := (Array.getElem?_eq_some_iff.1 hoi).1
    have hl' : (ops.toList.drop (i + 1)).take l.length = l := by
      have e : ops.toList.drop i = o :: ops.toList.drop (i + 1) := by
        rw [List.drop_eq_getElem_cons (by simpa using hlt)]
        congr 1
        have := (Array.getElem?_eq_some_iff.1 hoi).2
        simpa using this
      rw [e, List.length_cons, List.take_succ_cons] at hl
      exact (List.cons.inj hl).2
    have hsplit : List.range' i (ops.size - i) = i :: List.range' (i + 1) (ops.size - (i + 1)) := by
      rw [show ops.size - i = (ops.size - (i + 1)) + 1 by omega, List.range'_succ]
    have hdefp : ∀ (v : Value), (a.put o.dst v).defers = [] := by
      intro v; cases o.dst <;> exact hdef
    have hmid' : Mid P hc W0 m0 fn R ops ((i + 1) + l.length) K r' := by
      rw [show i + 1 + l.length = i + (o :: l).length by simp; omega]; exact hmid
    rw [hsplit, wpOps_cons]
    simp only [runOps] at hr
    split at hr
    · cases hr
    · rename_i r2 hg
      have hq2 : ∀ q ∈ r2.obs, q := fun q h => hq q (runOps_obs hr q (List.mem_append_right _ h))
      obtain ⟨h1, h2, h3, h4⟩ := guardAt_sem hg hd hq2
      have hw := wanted_of hT h1
      unfold wpOp
      simp only [hoi, hw, Bool.false_eq_true, if_false]
      refine Mid.ops hti htbl l (i + 1) _ r' hl' hr hq hmid' hok ?_ (put_later h4 _ _ _ _) ρ0 ρ _ w b cs hag ?_ ?_ (hdefp _)
      · simp only [RS.put]; rw [h3]; exact hm
      · simp only [RS.put]; rw [h2]; exact hT.put undef_rel
      · simp only [RS.put]; rw [h3]; exact hH
    · rename_i r2 hg
      split at hr
      · rename_i r3 he
        have hq3 : ∀ q ∈ r3.obs, q := fun q h => hq q (runOps_obs hr q h)
        have hq2 : ∀ q ∈ r2.obs, q := fun q h => hq3 q (evOp_obs he q h)
        obtain ⟨h1, h2, h3, h4⟩ := guardAt_sem hg hd hq2
        obtain ⟨v, h', qs, e1, e2, e3, e4, e5⟩ := evOp_sem he h4 hq3
        have hw := wanted_of hT h1
        unfold wpOp
        simp only [hoi, hw, if_true]
        refine .inl (stepOp_wp (W0 := W0) (m0 := m0) (ρ := ρ) hti htbl (by rw [h2]; exact hT) (h := if isAlloc o.op then r2.heap ++ [none] else r2.heap) ?_ e1 e2 ?_ ?_)
        · rw [h3]
          split
          · exact hH.pad 1
          · exact hH
        · intro hal
          rw [if_pos hal, h3]
          exact ⟨by simp, hm⟩
        · intro ρ' v' w' hx hh hv
          refine Mid.ops hti htbl l (i + 1) r3 r' hl' hr hq hmid' hok ?_ e5 ρ0 ρ' (a.put o.dst v') w' b cs (hag.trans fun n p _ hp => hx n p hp) (by rw [e3, h2]; exact (hT.ext hx).put hv) (by rw [e4]; exact hh) (hdefp _)
          have := stepOp_len e1
          rw [e4, this]
          split
          · rw [h3]; simp; omega
          · rw [h3]; exact hm
      · cases hr
end
end Go.Eng

set_option linter.unusedSimpArgs false
set_option linter.unusedVariables false
namespace Go.Eng
open Go Go.RowKit
section
variable {P : Program} {W0 : World} {m0 : Nat}
/-- one operation in the midst of a region, by what it may come to -/
theorem Mid.op {hc : FuncId → Bool} {fn : Func} {R : V → Heap → Prop} {ops : Array Oper} {i : Nat} {K : List Item} {r : RS} {o : Oper} (hoi : ops[i]? = some o) (hgd : o.guard = none) (Next : RS → Prop)
    (h : ∀ (ρ : Ren) (a : Act) (w : World), TRel ρ r.tmps a.tmps → HRel W0 m0 ρ r.heap w → ∀ (Kk : Act → World → Prop) (Q : Exit → Act → World → Prop),
      (∀ (ρ' : Ren) (v : Value) (w' : World) (r' : RS), Agree m0 ρ ρ' → TRel ρ' r'.tmps (a.put o.dst v).tmps → HRel W0 m0 ρ' r'.heap w' → Next r' → Kk (a.put o.dst v) w') → o.wp P a w Kk Q)
    (hn : ∀ r', Next r' → DecOk r' ∧ m0 ≤ r'.heap.length ∧ Mid P hc W0 m0 fn R ops (i + 1) K r') : Mid P hc W0 m0 fn R ops i K r := by
  intro hok hm hd ρ0 ρ a w b cs hag hT hH hdef
  have hlt : i < ops.size := (Array.getElem?_eq_some_iff.1 hoi).1
  have hsplit : List.range' i (ops.size - i) = i :: List.range' (i + 1) (ops.size - (i + 1)) := by
    rw [show ops.size - i = (ops.size - (i + 1)) + 1 by omega, List.range'_succ]
  have hdefp : ∀ (v : Value), (a.put o.dst v).defers = [] := by
    intro v; cases o.dst <;> exact hdef
  rw [hsplit, wpOps_cons]
  unfold wpOp
  have hw : Region.wanted o (yielded ops a.tmps) = true := by unfold Region.wanted; rw [hgd]
  simp only [hoi, hw, if_true]
  refine .inl (h ρ a w hT hH _ _ fun ρ' v w' r' hag' hT' hH' hnx => ?_)
  obtain ⟨n1, n2, n3⟩ := hn r' hnx
  exact n3 hok n2 n1 ρ0 ρ' _ w' b cs (hag.trans hag') hT' hH' (hdefp v)

/-- an append that finds room, at any place of a block -/
theorem run_append_roomAt (w : World) (t ty e : TypeId) (i : TypeInfo) (ht : P.underlying t = some (.slice e)) (hi : P.info? e = some i)
    (g o sLen sCap : Nat) (cur : Array Value) (ct : TypeId) (hg : w.heap[g]? = some (.cells cur ct (0, 0)))
    (a : Addr) (m c : Nat) (news : List Value) (hl : news.length = m * i.size) (hnews : ∀ j u, news[j]? = some u → w.cell? (a.add j) = some u) (h1 : ∀ u ∈ news, u.oneCell' = true)
    (hroom : sLen + m ≤ sCap) (hfit : o + sLen * i.size + news.length ≤ cur.size) :
    (Builtin.append_ #[t, t] ty #[.slice (some ⟨g, o, none⟩) sLen sCap, .slice (some a) m c]).run P w =
      .ok (.slice (some ⟨g, o, none⟩) (sLen + m) sCap) (w.setRow g (cur.toList.take (o + sLen * i.size) ++ news ++ cur.toList.drop (o + sLen * i.size + news.length)).toArray) := by
  have hf := run_firstCells_some (P := P) w i.size m a m c news hl hnews
  have hadd : (⟨g, o, none⟩ : Addr).add (sLen * i.size) = ⟨g, o + sLen * i.size, none⟩ := by unfold Addr.add; split <;> simp_all
  have hst := run_storeCells_at P g (o + sLen * i.size) ct news 0 cur w hg (by simpa using hfit) h1
  simp only [Nat.add_zero] at hst
  simp [Builtin.append_, run_underlying ht, sizeOf, typeInfo, hi, Builtin.lenOf, hroom, hf, hadd, hst]
end
end Go.Eng

set_option linter.unusedSimpArgs false
set_option linter.unusedVariables false
namespace Go.Eng
open Go Go.RowKit
def menA (b : Nat) (x : A) : Bool := (namesA x).contains b
def menV (b : Nat) : V → Bool
  | .a x => menA b x
  | .tup xs => xs.any (menA b)
  | .any => false
/-- what names a block that is to move is forgotten -/
def kill (b : Nat) (v : V) : V := if menV b v then .any else v
/-- no other block names it -/
def aloneB (b : Nat) : Nat → Heap → Bool
  | _, [] => true
  | i, none :: h => aloneB b (i + 1) h
  | i, some x :: h => (Nat.beq i b || !(namesG x.g).contains b) && aloneB b (i + 1) h
theorem aloneB_sem {b : Nat} : ∀ {h : Heap} {i : Nat}, aloneB b i h = true → ∀ n x, h[n]? = some (some x) → i + n ≠ b → b ∉ namesG x.g
  | [], i, _, n, x, hx, _ => by simp at hx
  | none :: h, i, ha, n, x, hx, hne => by
    cases n with
    | zero => simp at hx
    | succ n => exact aloneB_sem (i := i + 1) ha n x (by simpa using hx) (by omega)
  | some y :: h, i, ha, n, x, hx, hne => by
    simp only [aloneB, Bool.and_eq_true, Bool.or_eq_true, Bool.not_eq_true'] at ha
    cases n with
    | zero =>
      simp only [List.getElem?_cons_zero, Option.some.injEq] at hx
      subst hx
      rcases ha.1 with h1 | h1
      · exact absurd (Nat.eq_of_beq_eq_true h1) (by omega)
      · intro hm
        rw [List.contains_iff_mem.2 hm] at h1
        cases h1
    | succ n => exact aloneB_sem (i := i + 1) ha.2 n x (by simpa using hx) (by omega)
section
variable {P : Program} {W0 : World} {m0 : Nat}
/-- the renaming without a name -/
def cutR (ρ : Ren) (b : Nat) : Ren := fun n => if n = b then none else ρ n
theorem CRel.cut {ρ : Ren} {b : Nat} {c : C} {v : Value} (h : CRel ρ c v) (hb : b ∉ namesC c) : CRel (cutR ρ b) c v := by
  cases c <;> simp only [CRel] at h ⊢ <;> try exact h
  · rename_i n off
    obtain ⟨r, o, h1, h2⟩ := h
    have : n ≠ b := fun e => hb (by simp [namesC, e])
    exact ⟨r, o, by simp [cutR, this, h1], h2⟩
  · rename_i n off len cap
    obtain ⟨r, o, h1, h2⟩ := h
    have : n ≠ b := fun e => hb (by simp [namesC, e])
    exact ⟨r, o, by simp [cutR, this, h1], h2⟩
theorem at_names {g : G} {j : Nat} {x : C} (h : g.at j = some x) : ∀ n ∈ namesC x, n ∈ namesG g := by
  cases g with
  | lst cs =>
    intro n hn
    simp only [G.at] at h
    exact List.mem_flatMap.2 ⟨x, List.mem_of_getElem? h, hn⟩
  | ints k n f =>
    simp only [G.at] at h
    split at h
    · simp only [Option.some.injEq] at h
      subst h
      intro n hn
      simp [namesC] at hn
    · cases h
theorem GRel.cut {ρ : Ren} {b : Nat} {g : G} {arr : Array Value} (h : GRel ρ g arr) (hb : b ∉ namesG g) : GRel (cutR ρ b) g arr :=
  ⟨h.1, fun j x hx => let ⟨v, h1, h2⟩ := h.2 j x hx; ⟨v, h1, h2.cut fun hm => hb (at_names hx b hm)⟩⟩
theorem ARel.cut {ρ : Ren} {b : Nat} {x : A} {v : Value} (h : ARel ρ x v) (hb : b ∉ namesA x) : ARel (cutR ρ b) x v := by
  cases x with
  | one c => exact CRel.cut h hb
  | agg g =>
    obtain ⟨arr, e, h1⟩ := h
    exact ⟨arr, e, h1.cut hb⟩
theorem not_men {b : Nat} {x : A} (h : menA b x = false) : b ∉ namesA x := by
  intro hm
  unfold menA at h
  rw [List.contains_iff_mem.2 hm] at h
  cases h
theorem VRel.kill {ρ : Ren} {b : Nat} {v : V} {u : Value} (h : VRel ρ v u) : VRel (cutR ρ b) (Go.Eng.kill b v) u := by
  unfold Go.Eng.kill
  split
  · trivial
  · rename_i hm
    cases v with
    | a x => exact ARel.cut h (not_men (by simpa [menV] using hm))
    | tup xs =>
      obtain ⟨arr, e, hs, hx⟩ := h
      refine ⟨arr, e, hs, fun j x hj => ?_⟩
      obtain ⟨u', h1, h2⟩ := hx j x hj
      refine ⟨u', h1, h2.cut (not_men ?_)⟩
      simp only [menV, Bool.not_eq_true, List.any_eq_false] at hm
      simpa using hm x (List.mem_of_getElem? hj)
    | any => trivial
theorem TRel.kill {ρ : Ren} {b : Nat} {t : List V} {arr : Array Value} (h : TRel ρ t arr) : TRel (cutR ρ b) (t.map (Go.Eng.kill b)) arr := by
  refine ⟨by rw [h.1]; simp, fun j x hx => ?_⟩
  rw [List.getElem?_map, Option.map_eq_some_iff] at hx
  obtain ⟨y, hy, rfl⟩ := hx
  obtain ⟨v, h1, h2⟩ := h.2 j y hy
  exact ⟨v, h1, h2.kill⟩
/-- a block of the call's own is let go -/
theorem HRel.letgo {ρ : Ren} {h : Heap} {w : World} (hH : HRel W0 m0 ρ h w) {b : Nat} (hb : m0 ≤ b) (ha : aloneB b 0 h = true) : HRel W0 m0 (cutR ρ b) (h.set b none) w := by
  have hset : ∀ (n : Nat) (x : Blk), (h.set b none)[n]? = some (some x) → n ≠ b ∧ h[n]? = some (some x) := by
    intro n x hx
    rw [List.getElem?_set] at hx
    by_cases hbn : b = n
    · rw [if_pos hbn] at hx
      split at hx <;> simp at hx
    · rw [if_neg hbn] at hx
      exact ⟨Ne.symm hbn, hx⟩
  have hget : ∀ n p, cutR ρ b n = some p → n ≠ b ∧ ρ n = some p := by
    intro n p hp
    unfold cutR at hp
    split at hp
    · cases hp
    · rename_i hne; exact ⟨hne, hp⟩
  refine ⟨hH.os, hH.tape, hH.output, hH.size, fun k hk hn => ?_, fun n p hp => ?_, fun n x hx => ?_, fun n m r o o' x hnm hx hxr h1 h2 => ?_, fun n r o hn hp => hH.new n r o hn (hget n _ hp).2⟩
  · refine hH.frame k hk fun n x o hx hxr hp => ?_
    by_cases hbn : n = b
    · subst hbn
      have := hH.new n k o hb hp
      omega
    · refine hn n x o ?_ hxr (by simp [cutR, hbn, hp])
      rw [List.getElem?_set_ne (Ne.symm hbn)]; exact hx
  · obtain ⟨hne, hp⟩ := hget n p hp
    obtain ⟨x, hx⟩ := hH.dom n p hp
    exact ⟨x, by rw [List.getElem?_set_ne (Ne.symm hne)]; exact hx⟩
  · obtain ⟨hne, hx⟩ := hset n x hx
    obtain ⟨r, o, hp, c, ty, fz, hw, hz, hc⟩ := hH.blk n x hx
    refine ⟨r, o, by simp [cutR, hne, hp], c, ty, fz, hw, hz, fun j y hy => ?_⟩
    obtain ⟨v, h1, h2⟩ := hc j y hy
    exact ⟨v, h1, h2.cut fun hm => aloneB_sem ha n x hx (by omega) (at_names hy b hm)⟩
  · exact hH.sep n m r o o' x hnm (hset n x hx).2 hxr (hget n _ h1).2 (hget m _ h2).2
theorem Agree.cut {ρ : Ren} {b : Nat} (hb : m0 ≤ b) : Agree m0 ρ (cutR ρ b) := fun n p hn hp => by
  have : n ≠ b := by omega
  simp [cutR, this, hp]
end
end Go.Eng

set_option linter.unusedSimpArgs false
set_option linter.unusedVariables false
namespace Go.Eng
open Go Go.RowKit
section
variable {P : Program} {W0 : World} {m0 : Nat}
/-- a slice type of integers' cells: so many cells an element, so many bytes -/
structure AppT (P : Program) (T e : TypeId) (k : IntKind) (size bytes : Nat) : Prop where
  ht : P.underlying T = some (.slice e)
  ex : ∃ i z, P.info? e = some i ∧ i.zero = some z ∧ i.size = size ∧ i.bytes = bytes ∧ z.cells = Array.replicate size (.int k 0)
  pos : 0 < size
theorem addr_plus (g o n : Nat) : (⟨g, o, none⟩ : Addr).add n = ⟨g, o + n, none⟩ := by unfold Addr.add; split <;> simp_all
/-- integers that stand in a row -/
def intsL (k : IntKind) (f : Nat → Int) (n : Nat) : List Value := (List.range n).map fun j => .int k (f j)
theorem intsL_length (k : IntKind) (f : Nat → Int) (n : Nat) : (intsL k f n).length = n := by simp [intsL]
theorem intsL_get {k : IntKind} {f : Nat → Int} {n j : Nat} {v : Value} (h : (intsL k f n)[j]? = some v) : j < n ∧ v = .int k (f j) := by
  unfold intsL at h
  rw [List.getElem?_map, Option.map_eq_some_iff] at h
  obtain ⟨x, h1, rfl⟩ := h
  have hj : j < n := by
    have := (List.getElem?_eq_some_iff.1 h1).1
    simpa using this
  rw [List.getElem?_range hj] at h1
  simp only [Option.some.injEq] at h1
  subst h1
  exact ⟨hj, rfl⟩
theorem intsL_at (k : IntKind) (f : Nat → Int) {n j : Nat} (h : j < n) : (intsL k f n)[j]? = some (.int k (f j)) := by
  unfold intsL
  rw [List.getElem?_map, List.getElem?_range h]; rfl
theorem intsL_one (k : IntKind) (f : Nat → Int) (n : Nat) : ∀ u ∈ intsL k f n, u.oneCell' = true := by
  intro u hu
  unfold intsL at hu
  rw [List.mem_map] at hu
  obtain ⟨j, -, rfl⟩ := hu
  rfl
theorem zeroCells_at {k : IntKind} {size n j : Nat} (hs : 0 < size) (h : j < n * size) : (Builtin.zeroCells (Array.replicate size (.int k 0)) n)[j]? = some (.int k 0) := by
  unfold Builtin.zeroCells
  rw [Array.getElem?_map, Array.size_replicate, Array.getElem?_range, if_pos h]
  simp only [Option.map_some]
  congr 1
  have hm : j % size < size := Nat.mod_lt _ hs
  simp [hm]

/-- APPEND, to a slice of the call's own block, of what stands in another one: wherever it then lies -/
theorem Mid.append {hc : FuncId → Bool} {fn : Func} {R : V → Heap → Prop} {ops : Array Oper} {i : Nat} {K : List Item} {r : RS} {o : Oper} {s x d : Nat} {T e : TypeId} {k : IntKind} {size bytes : Nat}
    (hoi : ops[i]? = some o) (hgd : o.guard = none) (hop : o.op = .call { callee := .builtin .append, args := #[.tmp s, .tmp x], argTypes := #[T, T] }) (hd : o.dst = some d)
    (ht : AppT P T e k size bytes) {b : Nat} {n c : N} {M : N} {f : Nat → Int} (hs : r.tmps.getD s (.tup []) = .a (.one (.sl b (.lit 0) n c))) (hb : r.heap[b]? = some (some ⟨false, .ints k M f⟩)) (hbm : m0 ≤ b) (hM : M.val = size * c.val) (hal : aloneB b 0 r.heap = true)
    {bx : Nat} {offx m cx : N} {rox : Bool} {Mx : N} {fx : Nat → Int} (hx : r.tmps.getD x (.tup []) = .a (.one (.sl bx offx m cx))) (hbx : r.heap[bx]? = some (some ⟨rox, .ints k Mx fx⟩)) (hmx : offx.val + size * m.val ≤ Mx.val) (hm0 : 0 < m.val) (hn : n.val ≤ c.val)
    (hml : m0 ≤ r.heap.length) (h63 : n.val + m.val ≤ maxLen) (hbig : (n.val + m.val) * bytes ≤ 140737488355328)
    (next : ∀ (c' : Nat) (f' : Nat → Int), n.val + m.val ≤ c' → (∀ j, j < size * n.val → f' j = f j) → (∀ j, j < size * m.val → f' (size * n.val + j) = fx (offx.val + j)) →
      Mid P hc W0 m0 fn R ops (i + 1) K { tmps := (r.tmps.map (Go.Eng.kill b)).set d (.a (.one (.sl b (.lit 0) (.sym (n.val + m.val)) (.sym c')))), heap := r.heap.set b (some ⟨false, .ints k (.sym (size * c')) f'⟩), dec := [], hints := r.hints, obs := [] }) :
    Mid P hc W0 m0 fn R ops i K r := by
  obtain ⟨inf, z, hi, hz, hsize, hbytes, hzc⟩ := ht.ex
  have hpos := ht.pos
  subst hsize hbytes
  refine Mid.op hoi hgd (fun r' => ∃ (c' : Nat) (f' : Nat → Int), n.val + m.val ≤ c' ∧ (∀ j, j < inf.size * n.val → f' j = f j) ∧ (∀ j, j < inf.size * m.val → f' (inf.size * n.val + j) = fx (offx.val + j)) ∧
      r' = { tmps := (r.tmps.map (Go.Eng.kill b)).set d (.a (.one (.sl b (.lit 0) (.sym (n.val + m.val)) (.sym c')))), heap := r.heap.set b (some ⟨false, .ints k (.sym (inf.size * c')) f'⟩), dec := [], hints := r.hints, obs := [] }) ?_ ?_
  · intro ρ a w hT hH Kk Q hK
    have h1 := VRel.opnd hT (.tmp s) a rfl
    have h2 := VRel.opnd hT (.tmp x) a rfl
    simp only [Go.Eng.opnd, hs, hx] at h1 h2
    obtain ⟨r0, o0, hρ, hv1⟩ := h1
    obtain ⟨rx, ox, hρx, hv2⟩ := h2
    replace hv1 : a.eval (.tmp s) = .slice (some ⟨r0, o0, none⟩) n.val c.val := hv1
    obtain ⟨r1, o1, hρ1, cur, ty, fz, hw, hfz, hcells⟩ := hH.blk b _ hb
    rw [hρ] at hρ1
    simp only [Option.some.injEq, Prod.mk.injEq] at hρ1
    obtain ⟨rfl, rfl⟩ := hρ1
    obtain rfl := hfz rfl
    obtain ⟨r2, o2, hρ2, curx, tyx, fzx, hwx, -, hcellsx⟩ := hH.blk bx _ hbx
    rw [hρx] at hρ2
    simp only [Option.some.injEq, Prod.mk.injEq] at hρ2
    obtain ⟨rfl, rfl⟩ := hρ2
    have hM1 : ∀ j, j < inf.size * c.val → cur[o0 + j]? = some (.int k (f j)) := by
      intro j hj
      obtain ⟨v, e1, e2⟩ := hcells j (.int k (f j)) (by simp only [G.at]; rw [if_pos (by omega)])
      rw [e1, show v = .int k (f j) from e2]
    have hnews : ∀ j u, (intsL k (fun j => fx (offx.val + j)) (inf.size * m.val))[j]? = some u → w.cell? ((⟨rx, ox + offx.val, none⟩ : Addr).add j) = some u := by
      intro j u hu
      obtain ⟨hj, rfl⟩ := intsL_get hu
      obtain ⟨v, e1, e2⟩ := hcellsx (offx.val + j) (.int k (fx (offx.val + j))) (by simp only [G.at]; rw [if_pos (by omega)])
      rw [addr_plus, cell_of hwx, Nat.add_assoc, e1, show v = .int k (fx (offx.val + j)) from e2]
    have hlen : (intsL k (fun j => fx (offx.val + j)) (inf.size * m.val)).length = m.val * inf.size := by rw [intsL_length, Nat.mul_comm]
    have hput : ∀ (u : Value), (a.put o.dst u).tmps = (a.put (some d) u).tmps := fun u => by rw [hd]
    by_cases hroom : n.val + m.val ≤ c.val
    · have hszle : inf.size * (n.val + m.val) ≤ inf.size * c.val := Nat.mul_le_mul_left _ hroom
      rw [Nat.mul_add] at hszle
      have hposm : 0 < inf.size * m.val := Nat.mul_pos hpos hm0
      have hfit0 : o0 + inf.size * c.val ≤ cur.size := by
        have hl := hM1 (inf.size * c.val - 1) (by omega)
        have := (Array.getElem?_eq_some_iff.1 hl).1
        omega
      have hrun := run_append_roomAt (P := P) w T o.type e inf ht.ht hi r0 o0 n.val c.val cur ty hw ⟨rx, ox + offx.val, none⟩ m.val cx.val _ hlen hnews (intsL_one _ _ _) hroom (by rw [intsL_length, Nat.mul_comm n.val]; omega)
      have hu : Upd cur (cur.toList.take (o0 + n.val * inf.size) ++ intsL k (fun j => fx (offx.val + j)) (inf.size * m.val) ++ cur.toList.drop (o0 + n.val * inf.size + (intsL k (fun j => fx (offx.val + j)) (inf.size * m.val)).length)).toArray (o0 + n.val * inf.size) (intsL k (fun j => fx (offx.val + j)) (inf.size * m.val)).toArray := by
        have := upd_of (c := cur) (a := o0 + n.val * inf.size) (vs := (intsL k (fun j => fx (offx.val + j)) (inf.size * m.val)).toArray) (by simp only [List.size_toArray]; rw [intsL_length, Nat.mul_comm n.val]; omega)
        simpa using this
      generalize hcur' : (cur.toList.take (o0 + n.val * inf.size) ++ intsL k (fun j => fx (offx.val + j)) (inf.size * m.val) ++ cur.toList.drop (o0 + n.val * inf.size + (intsL k (fun j => fx (offx.val + j)) (inf.size * m.val)).length)).toArray = cur' at *
      unfold Oper.wp execOp
      simp only [hop, resolve, invoke, builtin, Sem.run_bind, Sem.run_pure, Result.andThen_ok, List.map_toArray, List.map_cons, List.map_nil, hv1, hv2, hrun]
      have hext : Ext (cutR ρ b) ρ := by
        intro q p hp
        unfold cutR at hp
        split at hp
        · cases hp
        · exact hp
      refine hK ρ _ _ _ (Agree.refl ρ) ?_ ?_ ⟨c.val, fun j => if inf.size * n.val ≤ j ∧ j < inf.size * n.val + inf.size * m.val then fx (offx.val + (j - inf.size * n.val)) else f j, hroom, fun j hj => ?_, fun j hj => ?_, rfl⟩
      · rw [hput]
        exact TRel.put (dst := some d) ((hT.kill (b := b)).ext hext) ⟨r0, o0, hρ, rfl⟩
      · refine hH.write hb rfl rfl hρ rfl rfl rfl (by simp [World.setRow]) (fun q hq => setRow_other w r0 cur' q hq) ⟨cur', ty, (0, 0), setRow_heap w r0 cur cur' ty _ hw, fun _ => rfl, fun j y hy => ?_⟩
        simp only [G.at] at hy
        split at hy
        · rename_i hj
          have hj : j < inf.size * c.val := hj
          simp only [Option.some.injEq] at hy
          subst hy
          refine ⟨_, ?_, rfl⟩
          by_cases hin : inf.size * n.val ≤ j ∧ j < inf.size * n.val + inf.size * m.val
          · have e1 := hu.at_in (j - inf.size * n.val) (by simp only [List.size_toArray]; rw [intsL_length]; omega)
            rw [show o0 + n.val * inf.size + (j - inf.size * n.val) = o0 + j by rw [Nat.mul_comm n.val]; omega] at e1
            have e0 : (intsL k (fun j => fx (offx.val + j)) (inf.size * m.val)).toArray[j - inf.size * n.val]? = some (Value.int k (fx (offx.val + (j - inf.size * n.val)))) := by
              rw [List.getElem?_toArray]; exact intsL_at k _ (by omega)
            rw [e1, if_pos hin]
            exact e0
          · have e1 := hu.at_out (o0 + j) (by simp only [List.size_toArray]; rw [intsL_length, Nat.mul_comm n.val]; omega)
            rw [e1, hM1 j hj, if_neg hin]
        · cases hy
      · simp only
        rw [if_neg (by omega)]
      · simp only
        rw [if_pos (by omega), show inf.size * n.val + j - inf.size * n.val = j by omega]
    · have holds : ∀ j u, (intsL k f (inf.size * n.val))[j]? = some u → w.cell? ((⟨r0, o0, none⟩ : Addr).add j) = some u := by
        intro j u hu
        obtain ⟨hj, rfl⟩ := intsL_get hu
        have := Nat.mul_le_mul_left inf.size hn
        rw [addr_plus, cell_of hw, hM1 j (by omega)]
      have hmax : maxLen = 9223372036854775807 := by decide
      have hrun := run_append_grow (P := P) w T o.type e inf z ht.ht hi hz ⟨r0, o0, none⟩ n.val c.val (intsL k f (inf.size * n.val)) (by rw [intsL_length, Nat.mul_comm]) holds ⟨rx, ox + offx.val, none⟩ m.val cx.val _ hlen hnews (by omega) (by omega) (growslice_fits (by omega) hbig)
      generalize hcap : grownCap w (n.val + m.val) c.val e = cap at *
      have hge : n.val + m.val ≤ cap := by rw [← hcap]; exact grownCap_ge w _ _ e
      have hszle : inf.size * (n.val + m.val) ≤ inf.size * cap := Nat.mul_le_mul_left _ hge
      have hmul := Nat.mul_add inf.size n.val m.val
      let f' : Nat → Int := fun j => if j < inf.size * n.val then f j else if j < inf.size * n.val + inf.size * m.val then fx (offx.val + (j - inf.size * n.val)) else 0
      have hG : GRel (cutR ρ b) (.ints k (.sym (inf.size * cap)) f') ((intsL k f (inf.size * n.val)).toArray ++ (intsL k (fun j => fx (offx.val + j)) (inf.size * m.val)).toArray ++ Builtin.zeroCells z.cells (cap - (n.val + m.val))) := by
        have hzs : (Builtin.zeroCells z.cells (cap - (n.val + m.val))).size = (cap - (n.val + m.val)) * inf.size := by rw [size_zeroCells, hzc, Array.size_replicate]
        have hsub : inf.size * (cap - (n.val + m.val)) = inf.size * cap - inf.size * (n.val + m.val) := Nat.mul_sub ..
        refine ⟨?_, fun j y hy => ?_⟩
        · show Array.size _ = inf.size * cap
          simp only [Array.size_append, List.size_toArray, intsL_length, hzs]
          rw [Nat.mul_comm (cap - _)]
          omega
        · simp only [G.at] at hy
          split at hy
          · rename_i hj
            have hj : j < inf.size * cap := hj
            simp only [Option.some.injEq] at hy
            subst hy
            refine ⟨_, ?_, rfl⟩
            show _ = some (Value.int k (if j < inf.size * n.val then f j else if j < inf.size * n.val + inf.size * m.val then fx (offx.val + (j - inf.size * n.val)) else 0))
            by_cases h1 : j < inf.size * n.val
            · rw [if_pos h1, Array.append_assoc, Array.getElem?_append_left (by simp only [List.size_toArray]; rw [intsL_length]; exact h1), List.getElem?_toArray, intsL_at k _ h1]
            · rw [if_neg h1]
              by_cases h2 : j < inf.size * n.val + inf.size * m.val
              · rw [if_pos h2, Array.append_assoc, Array.getElem?_append_right (by simp only [List.size_toArray]; rw [intsL_length]; omega), Array.getElem?_append_left (by simp only [List.size_toArray]; rw [intsL_length, intsL_length]; omega), List.getElem?_toArray]
                simp only [List.size_toArray]
                rw [intsL_length, intsL_at k _ (by omega)]
              · rw [if_neg h2, Array.getElem?_append_right (by simp only [Array.size_append, List.size_toArray]; rw [intsL_length, intsL_length]; omega), hzc]
                refine zeroCells_at hpos ?_
                simp only [Array.size_append, List.size_toArray]
                rw [intsL_length, intsL_length, Nat.mul_comm (cap - _)]
                omega
          · cases hy
      obtain ⟨ρ', x1, x2, x3⟩ := HRel.alloc (ty := e) ((hH.letgo hbm hal).drew (w.drawn + 1)) (nm := b) (by rw [List.getElem?_set]; simp [(List.getElem?_eq_some_iff.1 hb).1]) hbm hG
      unfold Oper.wp execOp
      simp only [hop, resolve, invoke, builtin, Sem.run_bind, Sem.run_pure, Result.andThen_ok, List.map_toArray, List.map_cons, List.map_nil, hv1, hv2, hrun]
      refine hK ρ' _ _ _ ((Agree.cut hbm).trans fun q p _ hp => x1 q p hp) ?_ ?_ ⟨cap, f', hge, fun j hj => ?_, fun j hj => ?_, rfl⟩
      · rw [hput]
        exact TRel.put (dst := some d) ((hT.kill (b := b)).ext x1) ⟨w.heap.size, 0, x2, rfl⟩
      · rw [List.set_set] at x3
        exact x3
      · show (if j < inf.size * n.val then f j else _) = f j
        rw [if_pos hj]
      · show (if inf.size * n.val + j < inf.size * n.val then f _ else if inf.size * n.val + j < inf.size * n.val + inf.size * m.val then fx (offx.val + (inf.size * n.val + j - inf.size * n.val)) else 0) = _
        rw [if_neg (by omega), if_pos (by omega), show inf.size * n.val + j - inf.size * n.val = j by omega]
  · rintro r' ⟨c', f', h1, h2, h3, rfl⟩
    exact ⟨fun q h hm => by simp at hm, by simpa using hml, next c' f' h1 h2 h3⟩
end
end Go.Eng

set_option linter.unusedSimpArgs false
set_option linter.unusedVariables false
namespace Go.Eng
open Go Go.RowKit
section
variable {P : Program} {W0 : World} {m0 : Nat}
/-- APPEND to no slice at all -/
theorem Mid.append_nil {hc : FuncId → Bool} {fn : Func} {R : V → Heap → Prop} {ops : Array Oper} {i : Nat} {K : List Item} {r : RS} {o : Oper} {s x d : Nat} {T e : TypeId} {k : IntKind} {size bytes : Nat}
    (hoi : ops[i]? = some o) (hgd : o.guard = none) (hop : o.op = .call { callee := .builtin .append, args := #[.tmp s, .tmp x], argTypes := #[T, T] }) (hd : o.dst = some d)
    (ht : AppT P T e k size bytes) (hs : r.tmps.getD s (.tup []) = .a (.one .nsl))
    {bx : Nat} {offx m cx : N} {rox : Bool} {Mx : N} {fx : Nat → Int} (hx : r.tmps.getD x (.tup []) = .a (.one (.sl bx offx m cx))) (hbx : r.heap[bx]? = some (some ⟨rox, .ints k Mx fx⟩)) (hmx : offx.val + size * m.val ≤ Mx.val) (hm0 : 0 < m.val)
    (hdec : r.dec = []) (hml : m0 ≤ r.heap.length) (h63 : m.val ≤ maxLen) (hbig : m.val * bytes ≤ 140737488355328)
    (next : ∀ (c' : Nat) (f' : Nat → Int), m.val ≤ c' → (∀ j, j < size * m.val → f' j = fx (offx.val + j)) →
      Mid P hc W0 m0 fn R ops (i + 1) K { tmps := r.tmps.set d (.a (.one (.sl r.heap.length (.lit 0) (.sym m.val) (.sym c')))), heap := r.heap ++ [some ⟨false, .ints k (.sym (size * c')) f'⟩], dec := [], hints := r.hints, obs := [] }) :
    Mid P hc W0 m0 fn R ops i K r := by
  obtain ⟨inf, z, hi, hz, hsize, hbytes, hzc⟩ := ht.ex
  have hpos := ht.pos
  subst hsize hbytes
  refine Mid.op hoi hgd (fun r' => ∃ (c' : Nat) (f' : Nat → Int), m.val ≤ c' ∧ (∀ j, j < inf.size * m.val → f' j = fx (offx.val + j)) ∧
      r' = { tmps := r.tmps.set d (.a (.one (.sl r.heap.length (.lit 0) (.sym m.val) (.sym c')))), heap := r.heap ++ [some ⟨false, .ints k (.sym (inf.size * c')) f'⟩], dec := [], hints := r.hints, obs := [] }) ?_ ?_
  · intro ρ a w hT hH Kk Q hK
    have h1 := VRel.opnd hT (.tmp s) a rfl
    have h2 := VRel.opnd hT (.tmp x) a rfl
    simp only [Go.Eng.opnd, hs, hx] at h1 h2
    replace h1 : a.eval (.tmp s) = .slice none 0 0 := h1
    obtain ⟨rx, ox, hρx, hv2⟩ := h2
    obtain ⟨r2, o2, hρ2, curx, tyx, fzx, hwx, -, hcellsx⟩ := hH.blk bx _ hbx
    rw [hρx] at hρ2
    simp only [Option.some.injEq, Prod.mk.injEq] at hρ2
    obtain ⟨rfl, rfl⟩ := hρ2
    have hnews : ∀ j u, (intsL k (fun j => fx (offx.val + j)) (inf.size * m.val))[j]? = some u → w.cell? ((⟨rx, ox + offx.val, none⟩ : Addr).add j) = some u := by
      intro j u hu
      obtain ⟨hj, rfl⟩ := intsL_get hu
      obtain ⟨v, e1, e2⟩ := hcellsx (offx.val + j) (.int k (fx (offx.val + j))) (by simp only [G.at]; rw [if_pos (by omega)])
      rw [addr_plus, cell_of hwx, Nat.add_assoc, e1, show v = .int k (fx (offx.val + j)) from e2]
    have hlen : (intsL k (fun j => fx (offx.val + j)) (inf.size * m.val)).length = m.val * inf.size := by rw [intsL_length, Nat.mul_comm]
    have hput : ∀ (u : Value), (a.put o.dst u).tmps = (a.put (some d) u).tmps := fun u => by rw [hd]
    have hmax : maxLen = 9223372036854775807 := by decide
    have hrun := run_append_nil (P := P) w T o.type e inf z ht.ht hi hz ⟨rx, ox + offx.val, none⟩ m.val cx.val _ hlen hnews hm0 (by omega) (by omega)
    generalize hcap : grownCap w m.val 0 e = cap at *
    have hge : m.val ≤ cap := by rw [← hcap]; exact grownCap_ge w _ _ e
    have hszle : inf.size * m.val ≤ inf.size * cap := Nat.mul_le_mul_left _ hge
    let f' : Nat → Int := fun j => if j < inf.size * m.val then fx (offx.val + j) else 0
    have hG : GRel ρ (.ints k (.sym (inf.size * cap)) f') ((intsL k (fun j => fx (offx.val + j)) (inf.size * m.val)).toArray ++ Builtin.zeroCells z.cells (cap - m.val)) := by
      have hzs : (Builtin.zeroCells z.cells (cap - m.val)).size = (cap - m.val) * inf.size := by rw [size_zeroCells, hzc, Array.size_replicate]
      have hsub : inf.size * (cap - m.val) = inf.size * cap - inf.size * m.val := Nat.mul_sub ..
      refine ⟨?_, fun j y hy => ?_⟩
      · show Array.size _ = inf.size * cap
        simp only [Array.size_append, List.size_toArray, intsL_length, hzs]
        rw [Nat.mul_comm (cap - _)]
        omega
      · simp only [G.at] at hy
        split at hy
        · rename_i hj
          have hj : j < inf.size * cap := hj
          simp only [Option.some.injEq] at hy
          subst hy
          refine ⟨_, ?_, rfl⟩
          show _ = some (Value.int k (if j < inf.size * m.val then fx (offx.val + j) else 0))
          by_cases h1 : j < inf.size * m.val
          · rw [if_pos h1, Array.getElem?_append_left (by simp only [List.size_toArray]; rw [intsL_length]; exact h1), List.getElem?_toArray, intsL_at k _ h1]
          · rw [if_neg h1, Array.getElem?_append_right (by simp only [List.size_toArray]; rw [intsL_length]; omega), hzc]
            refine zeroCells_at hpos ?_
            simp only [List.size_toArray]
            rw [intsL_length, Nat.mul_comm (cap - _)]
            omega
        · cases hy
    obtain ⟨ρ', x1, x2, x3⟩ := HRel.alloc (ty := e) ((hH.pad 1).drew (w.drawn + 1)) (nm := r.heap.length) (by simp) hml hG
    unfold Oper.wp execOp
    simp only [hop, resolve, invoke, builtin, Sem.run_bind, Sem.run_pure, Result.andThen_ok, List.map_toArray, List.map_cons, List.map_nil, h1, hv2, hrun]
    refine hK ρ' _ _ _ (fun q p _ hp => x1 q p hp) ?_ ?_ ⟨cap, f', hge, fun j hj => ?_, rfl⟩
    · rw [hput]
      exact TRel.put (dst := some d) (hT.ext x1) ⟨w.heap.size, 0, x2, rfl⟩
    · have e : (r.heap ++ List.replicate 1 none).set r.heap.length (some ⟨false, .ints k (.sym (inf.size * cap)) f'⟩) = r.heap ++ [some ⟨false, .ints k (.sym (inf.size * cap)) f'⟩] := by
        rw [List.set_append_right _ _ (Nat.le_refl _), Nat.sub_self]; rfl
      rw [e] at x3
      exact x3
    · show (if j < inf.size * m.val then fx (offx.val + j) else 0) = _
      rw [if_pos hj]
  · rintro r' ⟨c', f', h1, h2, rfl⟩
    exact ⟨fun q h hm => by simp at hm, by simp; omega, next c' f' h1 h2⟩

/-- the bytes as a text -/
def strOf (f : Nat → Int) (n : Nat) : ByteArray := ⟨((List.range n).map fun j => UInt8.ofNat (f j).toNat).toArray⟩
theorem push_mk (l : List UInt8) (b : UInt8) : (ByteArray.mk l.toArray).push b = ByteArray.mk (l ++ [b]).toArray := by
  show ByteArray.mk (l.toArray.push b) = _
  simp
theorem foldl_push (ns : List Int) : ∀ l : List UInt8, ns.foldl (fun r n => r.push (UInt8.ofNat n.toNat)) (ByteArray.mk l.toArray) = ByteArray.mk (l ++ ns.map fun n => UInt8.ofNat n.toNat).toArray := by
  induction ns with
  | nil => intro l; simp
  | cons n ns ih =>
    intro l
    rw [List.foldl_cons, push_mk, ih]
    simp
/-- BYTES TO A TEXT -/
theorem Mid.toStr {hc : FuncId → Bool} {fn : Func} {R : V → Heap → Prop} {ops : Array Oper} {i : Nat} {K : List Item} {r : RS} {o : Oper} {x d : Nat} {T U e : TypeId}
    (hoi : ops[i]? = some o) (hgd : o.guard = none) (hop : o.op = .convert T U (.tmp x)) (hd : o.dst = some d)
    (hT0 : P.underlying T = some (.slice e)) (he : P.underlying e = some (.int .u8)) (hU : P.underlying U = some .string)
    {bx : Nat} {offx m cx : N} {rox : Bool} {Mx : N} {fx : Nat → Int} (hx : r.tmps.getD x (.tup []) = .a (.one (.sl bx offx m cx))) (hbx : r.heap[bx]? = some (some ⟨rox, .ints .u8 Mx fx⟩)) (hmx : offx.val + m.val ≤ Mx.val) (hm0 : 0 < Mx.val)
    (hdec : r.dec = []) (hml : m0 ≤ r.heap.length)
    (next : Mid P hc W0 m0 fn R ops (i + 1) K { tmps := r.tmps.set d (.a (.one (.str (strOf (fun j => fx (offx.val + j)) m.val)))), heap := r.heap, dec := [], hints := r.hints, obs := [] }) :
    Mid P hc W0 m0 fn R ops i K r := by
  refine Mid.op hoi hgd (fun r' => r' = { tmps := r.tmps.set d (.a (.one (.str (strOf (fun j => fx (offx.val + j)) m.val)))), heap := r.heap, dec := [], hints := r.hints, obs := [] }) ?_ ?_
  · intro ρ a w hT hH Kk Q hK
    have h2 := VRel.opnd hT (.tmp x) a rfl
    simp only [Go.Eng.opnd, hx] at h2
    obtain ⟨rx, ox, hρx, hv2⟩ := h2
    obtain ⟨r2, o2, hρ2, curx, tyx, fzx, hwx, -, hcellsx⟩ := hH.blk bx _ hbx
    rw [hρx] at hρ2
    simp only [Option.some.injEq, Prod.mk.injEq] at hρ2
    obtain ⟨rfl, rfl⟩ := hρ2
    have hget : ∀ j, j < m.val → curx[ox + offx.val + j]? = some (.int .u8 (fx (offx.val + j))) := by
      intro j hj
      obtain ⟨v, e1, e2⟩ := hcellsx (offx.val + j) (.int .u8 (fx (offx.val + j))) (by simp only [G.at]; rw [if_pos (by omega)])
      rw [Nat.add_assoc, e1, show v = .int .u8 (fx (offx.val + j)) from e2]
    have hld : (loadCells ⟨rx, ox + offx.val, none⟩ m.val).run P w = .ok ((((List.range m.val).map fun j => fx (offx.val + j)).map (Value.int .u8)).toArray) w := by
      have := run_loadCells_list (P := P) w ⟨rx, ox + offx.val, none⟩ (((List.range m.val).map fun j => fx (offx.val + j)).map (Value.int .u8)) (fun j v hv => by
        rw [List.map_map, List.getElem?_map, Option.map_eq_some_iff] at hv
        obtain ⟨y, h1, rfl⟩ := hv
        have hj : j < m.val := by
          have := (List.getElem?_eq_some_iff.1 h1).1
          simpa using this
        rw [List.getElem?_range hj] at h1
        simp only [Option.some.injEq] at h1
        subst h1
        rw [addr_plus, cell_of hwx]
        exact hget j hj)
      simpa using this
    have hrun := run_bytesToString (P := P) w ⟨rx, ox + offx.val, none⟩ m.val cx.val ((List.range m.val).map fun j => fx (offx.val + j)) hld
    have hstr : ((List.range m.val).map fun j => fx (offx.val + j)).foldl (fun r n => r.push (UInt8.ofNat n.toNat)) ByteArray.empty = strOf (fun j => fx (offx.val + j)) m.val := by
      have := foldl_push ((List.range m.val).map fun j => fx (offx.val + j)) []
      rw [show ByteArray.empty = ByteArray.mk ([] : List UInt8).toArray from rfl, this]
      simp [strOf]
    rw [hstr] at hrun
    have hconv := run_convert_bytes_string (P := P) w T U e (some ⟨rx, ox + offx.val, none⟩) m.val cx.val hT0 he hU
    rw [hrun] at hconv
    unfold Oper.wp execOp
    simp only [hop, Sem.run_bind, Sem.run_pure, Result.andThen_ok, hv2, hconv]
    refine hK ρ _ _ { tmps := r.tmps.set d (.a (.one (.str (strOf (fun j => fx (offx.val + j)) m.val)))), heap := r.heap, dec := [], hints := r.hints, obs := [] } (Agree.refl ρ) ?_ hH rfl
    rw [hd]
    exact TRel.put (dst := some d) hT rfl
  · rintro r' rfl
    exact ⟨fun q h hm => by simp at hm, hml, next⟩
end
end Go.Eng

set_option linter.unusedSimpArgs false
set_option linter.unusedVariables false
namespace Go.Eng
open Go Go.RowKit
section
variable {P : Program} {W0 : World} {m0 : Nat}
theorem run_buildSlice1 (w : World) {T e : TypeId} {k : IntKind} {bytes : Nat} (ht : AppT P T e k 1 bytes) (n : Int) :
    (Instr.buildSlice T 1 #[(0, .int k n)]).run P w = .ok (.slice (some ⟨w.heap.size, 0, none⟩) 1 1) (w.alloc (.cells #[.int k n] e)) := by
  obtain ⟨inf, z, hi, hz, hsize, hbytes, hzc⟩ := ht.ex
  simp [Instr.buildSlice, run_underlying ht.ht, sizeOf, typeInfo, zeroValue, hi, hz, hsize, hzc, Instr.fill, Value.cells, newRow]
  have key : ∀ g : Nat → Value, (Array.map g (Array.range 1)).setIfInBounds 0 (.int k n) = #[.int k n] := by
    intro g
    have hr : Array.range 1 = #[0] := by apply Array.ext'; simp
    rw [hr]; simp
  rw [key]
theorem run_buildSlice0 (w : World) {T e : TypeId} {k : IntKind} {size bytes : Nat} (ht : AppT P T e k size bytes) :
    (Instr.buildSlice T 0 #[]).run P w = .ok (.slice (some ⟨w.heap.size, 0, none⟩) 0 0) (w.alloc (.cells #[] e)) := by
  obtain ⟨inf, z, hi, hz, hsize, hbytes, hzc⟩ := ht.ex
  simp [Instr.buildSlice, run_underlying ht.ht, sizeOf, typeInfo, zeroValue, hi, hz, hsize, hzc, Instr.fill, Value.cells, newRow]
  have hr : Array.range 0 = #[] := by apply Array.ext'; simp
  rw [hr]; simp
/-- A SLICE OF ONE NUMBER -/
theorem Mid.slice1 {hc : FuncId → Bool} {fn : Func} {R : V → Heap → Prop} {ops : Array Oper} {i : Nat} {K : List Item} {r : RS} {o : Oper} {x d : Nat} {T e : TypeId} {k : IntKind} {bytes : Nat}
    (hoi : ops[i]? = some o) (hgd : o.guard = none) (hop : o.op = .buildSlice T 1 #[(0, .tmp x)]) (hd : o.dst = some d) (ht : AppT P T e k 1 bytes) {n : Int} (hx : r.tmps.getD x (.tup []) = .a (.one (.int k n)))
    (hml : m0 ≤ r.heap.length)
    (next : Mid P hc W0 m0 fn R ops (i + 1) K { tmps := r.tmps.set d (.a (.one (.sl r.heap.length (.lit 0) (.lit 1) (.lit 1)))), heap := r.heap ++ [some ⟨false, .ints k (.lit 1) (fun _ => n)⟩], dec := [], hints := r.hints, obs := [] }) :
    Mid P hc W0 m0 fn R ops i K r := by
  refine Mid.op hoi hgd (fun r' => r' = { tmps := r.tmps.set d (.a (.one (.sl r.heap.length (.lit 0) (.lit 1) (.lit 1)))), heap := r.heap ++ [some ⟨false, .ints k (.lit 1) (fun _ => n)⟩], dec := [], hints := r.hints, obs := [] }) ?_ ?_
  · intro ρ a w hT hH Kk Q hK
    have h2 := VRel.opnd hT (.tmp x) a rfl
    simp only [Go.Eng.opnd, hx] at h2
    replace h2 : a.eval (.tmp x) = .int k n := h2
    have hG : GRel ρ (.ints k (.lit 1) (fun _ => n)) #[.int k n] := by
      refine ⟨rfl, fun j y hy => ?_⟩
      simp only [G.at] at hy
      split at hy
      · rename_i hj
        have hj : j < 1 := hj
        simp only [Option.some.injEq] at hy
        subst hy
        obtain rfl : j = 0 := by omega
        exact ⟨_, rfl, rfl⟩
      · cases hy
    obtain ⟨ρ', x1, x2, x3⟩ := HRel.alloc (ty := e) (hH.pad 1) (nm := r.heap.length) (by simp) hml hG
    have hrun := run_buildSlice1 (P := P) w ht n
    unfold Oper.wp execOp
    simp only [hop, Sem.run_bind, Sem.run_pure, Result.andThen_ok, List.map_toArray, List.map_cons, List.map_nil, h2, hrun]
    refine hK ρ' _ _ { tmps := r.tmps.set d (.a (.one (.sl r.heap.length (.lit 0) (.lit 1) (.lit 1)))), heap := r.heap ++ [some ⟨false, .ints k (.lit 1) (fun _ => n)⟩], dec := [], hints := r.hints, obs := [] } (fun q p _ hp => x1 q p hp) ?_ ?_ rfl
    · rw [hd]
      exact TRel.put (dst := some d) (hT.ext x1) ⟨w.heap.size, 0, x2, rfl⟩
    · have e' : (r.heap ++ List.replicate 1 none).set r.heap.length (some ⟨false, .ints k (.lit 1) (fun _ => n)⟩) = r.heap ++ [some ⟨false, .ints k (.lit 1) (fun _ => n)⟩] := by
        rw [List.set_append_right _ _ (Nat.le_refl _), Nat.sub_self]; rfl
      rw [e'] at x3
      exact x3
  · rintro r' rfl
    exact ⟨fun q h hm => by simp at hm, by simp; omega, next⟩
end
end Go.Eng

set_option linter.unusedSimpArgs false
set_option linter.unusedVariables false
namespace Go.Eng
open Go Go.RowKit
section
variable {P : Program} {W0 : World} {m0 : Nat}
theorem Mid.bare {hc : FuncId → Bool} {fn : Func} {R : V → Heap → Prop} {ops : Array Oper} {i : Nat} {K : List Item} {r : RS}
    (h : Mid P hc W0 m0 fn R ops i K { tmps := r.tmps, heap := r.heap, dec := r.dec, hints := [], obs := [] }) : Mid P hc W0 m0 fn R ops i K r :=
  fun hok hm hd ρ0 ρ a w b cs hag hT hH hdef => h hok hm hd ρ0 ρ a w b cs hag hT hH hdef
/-- so many operations by the evaluator, where arithmetic and leaf functions stay folded -/
theorem Mid.eval {hc : FuncId → Bool} {fn : Func} {R : V → Heap → Prop} {ops : Array Oper} {i : Nat} {K : List Item} {r : RS} {Λ : Type} {ti : TypeId → TI} (hti : TIok P ti) {tb : Λ → Tbl} {l0 : Λ} (htbl : TblOk P (tb l0)) (k : Nat) {G : Ar → Λ → RS}
    (hk : ((ops.toList.drop i).take k).length = k) (he : ∀ ar l, runOps ar arR ti (tb l) ops ((ops.toList.drop i).take k) r = some (G ar l)) (hq : ∀ q ∈ (G arR l0).obs, q)
    (next : Mid P hc W0 m0 fn R ops (i + k) K { tmps := (G arR l0).tmps, heap := (G arR l0).heap, dec := (G arR l0).dec, hints := [], obs := [] }) : Mid P hc W0 m0 fn R ops i K r := by
  refine Mid.ops hti htbl ((ops.toList.drop i).take k) i r (G arR l0) (by rw [hk]) (he arR l0) hq ?_
  rw [hk]
  exact Mid.bare next
/-- the state as one of a family, in the midst -/
theorem Mid.fam {hc : FuncId → Bool} {fn : Func} {R : V → Heap → Prop} {ops : Array Oper} {i : Nat} {K : List Item} {ι : Type} (S : ι → List V × Heap) (i0 : ι)
    (h : ∀ x, Mid P hc W0 m0 fn R ops i K { tmps := (S x).1, heap := (S x).2, dec := [], hints := [], obs := [] }) : Mid P hc W0 m0 fn R ops i K { tmps := (S i0).1, heap := (S i0).2, dec := [], hints := [], obs := [] } := h i0
end
end Go.Eng

set_option linter.unusedSimpArgs false
set_option linter.unusedVariables false
namespace Go.Eng
open Go Go.RowKit
/-- slots by new names of the blocks; what names another one is forgotten -/
def packV (ns : List Nat) (v : V) : V := match mapV (renC ns) v with
  | some x => x
  | none => .any
def packH (ns : List Nat) (h : Heap) : Option (List Blk) := match ns.mapM (blkAt h) with
  | some bs => bs.mapM (mapB (renC ns))
  | none => none
def preB : Nat → List Nat → Nat → Bool
  | 0, _, _ => true
  | m + 1, n :: ns, i => Nat.beq n i && preB m ns (i + 1)
  | _ + 1, [], _ => false
theorem preB_sem : ∀ {m : Nat} {ns : List Nat} {i : Nat}, preB m ns i = true → ∀ j, j < m → ns[j]? = some (i + j)
  | 0, _, _, _, j, hj => by omega
  | m + 1, [], i, h, j, hj => by cases h
  | m + 1, n :: ns, i, h, j, hj => by
    simp only [preB, Bool.and_eq_true] at h
    cases j with
    | zero => simp [Nat.eq_of_beq_eq_true h.1]
    | succ j =>
      have := preB_sem (i := i + 1) h.2 j (by omega)
      simp only [List.getElem?_cons_succ]
      rw [this]; congr 1; omega
section
variable {P : Program} {hc : FuncId → Bool} {W0 : World} {m0 : Nat} {fn : Func} {R : V → Heap → Prop}
/-- NEW NAMES for the blocks that are kept; all others are let go -/
theorem Run.pack {c : Cfg} (ns : List Nat) (keep : List Nat) {bs : List Blk} (hnd : ns.Nodup) (hpre : preB m0 ns 0 = true) (hB : packH ns c.heap = some bs)
    (h : Run P hc W0 m0 fn R ⟨(keepT keep 0 c.tmps).map (packV ns), bs.map some, c.todo, [], []⟩) : Run P hc W0 m0 fn R c := by
  have hp := preB_sem hpre
  simp only [Nat.zero_add] at hp
  unfold packH at hB
  split at hB
  · rename_i bs0 hB0
    intro hok hm ρ tmps w b cs hTr hH
    have back : ∀ (n : Nat) (b' : Blk), bs[n]? = some b' → ∃ q b0, ns[n]? = some q ∧ c.heap[q]? = some (some b0) ∧ mapB (renC ns) b0 = some b' := by
      intro n b' hb
      obtain ⟨b0, h1, h2⟩ := mapM_back hB n b' hb
      obtain ⟨q, h3, h4⟩ := mapM_back hB0 n b0 h1
      exact ⟨q, b0, h3, blkAt_eq h4, h2⟩
    have forth : ∀ (n q : Nat), ns[n]? = some q → ∃ b', bs[n]? = some b' := by
      intro n q hq
      obtain ⟨b0, h1, h2⟩ := mapM_some_get hB0 n q hq
      obtain ⟨b', h3, h4⟩ := mapM_some_get hB n b0 h2
      exact ⟨b', h4⟩
    have hget : ∀ (k : Nat) (bb : Blk), (bs.map some)[k]? = some (some bb) → bs[k]? = some bb := by
      intro k bb hk
      rw [List.getElem?_map, Option.map_eq_some_iff] at hk
      obtain ⟨x, h1, h2⟩ := hk
      cases h2; exact h1
    have hsm : ∀ n p, small ρ ns n = some p → ∃ q, ns[n]? = some q ∧ ρ q = some p := by
      intro n p hn
      unfold small at hn
      cases hq : ns[n]? with
      | none => rw [hq] at hn; cases hn
      | some q => rw [hq] at hn; exact ⟨q, rfl, hn⟩
    have hlen : m0 ≤ bs.length := by
      cases hm1 : m0 with
      | zero => omega
      | succ m1 =>
        obtain ⟨b', hb'⟩ := forth m1 m1 (hp m1 (by omega))
        have := (List.getElem?_eq_some_iff.1 hb').1
        omega
    have hin : ∀ q, q < m0 → ns[q]? = some q := fun q hq => hp q hq
    have conv : Fin P W0 m0 fn R (small ρ ns) b cs (lone (b.at ⟨tmps, []⟩ c.todo) cs w) → Fin P W0 m0 fn R ρ b cs (lone (b.at ⟨tmps, []⟩ c.todo) cs w) := by
      rintro ⟨ρ', v, v', h'', w', tmps', todo', a1, a2, a3, a4, a5, a6⟩
      exact ⟨ρ', v, v', h'', w', tmps', todo', a1, a2, a3, a4, a5, fun k p hk hp2 => a6 k p hk (by unfold small; rw [hp k hk]; exact hp2)⟩
    refine conv (h hok (by simpa using hlen) (small ρ ns) tmps w b cs ⟨by simp [hTr.1, keepT_len], fun j x hx => ?_⟩ ?_)
    · simp only at hx
      rw [List.getElem?_map, Option.map_eq_some_iff] at hx
      obtain ⟨y, hy, rfl⟩ := hx
      obtain ⟨y0, hy0, hxy⟩ := keepT_get hy
      obtain ⟨v, h1, h2⟩ := hTr.2 j y0 hy0
      refine ⟨v, h1, ?_⟩
      unfold packV
      split
      · rename_i x' hx'
        refine mapV_rel (fun c c' v => renC_rel) hx' ?_
        rcases hxy with rfl | rfl
        · exact h2
        · exact True.intro
      · exact True.intro
    · refine ⟨hH.os, hH.tape, hH.output, hH.size, fun k hk hno => ?_, fun k p hk => ?_, fun k bb hk => ?_, fun k m r o o' bb hne hk hro e1 e2 => ?_, fun k r o hk e => ?_⟩
      · refine hH.frame k hk fun q bb o hq hro e => ?_
        by_cases hmem : q ∈ ns
        · obtain ⟨n, hn⟩ := List.getElem?_of_mem hmem
          obtain ⟨b', hb'⟩ := forth n q hn
          obtain ⟨q2, b0, e1, e2, e3⟩ := back n b' hb'
          rw [hn] at e1
          simp only [Option.some.injEq] at e1
          subst e1
          rw [hq] at e2
          simp only [Option.some.injEq] at e2
          subst e2
          obtain ⟨r1, o1, f1, f2⟩ := hH.blk q bb hq
          have hro' := (mapB_rel (fun c c' v => renC_rel) e3 f2).1
          exact hno n b' o (by simp only; rw [List.getElem?_map, hb']; rfl) (hro'.trans hro) (by unfold small; rw [hn]; exact e)
        · have hge : m0 ≤ q := by
            apply Decidable.byContradiction
            intro hlt
            exact hmem (List.mem_of_getElem? (hin q (by omega)))
          have := hH.new q k o hge e
          omega
      · obtain ⟨q, hq, e⟩ := hsm k p hk
        obtain ⟨b', hb'⟩ := forth k q hq
        exact ⟨b', by simp only; rw [List.getElem?_map, hb']; rfl⟩
      · obtain ⟨q, b0, e1, e2, e3⟩ := back k bb (hget k bb hk)
        obtain ⟨r1, o1, f1, f2⟩ := hH.blk q b0 e2
        exact ⟨r1, o1, by unfold small; rw [e1]; exact f1, (mapB_rel (fun c c' v => renC_rel) e3 f2).2⟩
      · obtain ⟨q, b0, f1, f2, f3⟩ := back k bb (hget k bb hk)
        obtain ⟨q1, g1, g2⟩ := hsm k _ e1
        obtain ⟨q2, g3, g4⟩ := hsm m _ e2
        rw [f1] at g1
        simp only [Option.some.injEq] at g1
        subst g1
        have hqq : q ≠ q2 := fun e => hne (by subst e; exact nodup_idx hnd f1 g3)
        obtain ⟨r1, o1, z1, z2⟩ := hH.blk q b0 f2
        have hro' := (mapB_rel (fun c c' v => renC_rel) f3 z2).1
        exact hH.sep q q2 r o o' b0 hqq f2 (hro'.symm.trans hro) g2 g4
      · obtain ⟨q, hq, e1⟩ := hsm k _ e
        refine hH.new q r o ?_ e1
        apply Decidable.byContradiction
        intro hlt
        have := nodup_idx hnd hq (hin q (by omega))
        omega
  · cases hB
end
end Go.Eng

set_option linter.unusedSimpArgs false
set_option linter.unusedVariables false
namespace Go.Eng
open Go Go.RowKit
section
variable {P : Program} {W0 : World} {m0 : Nat}
/-- A SLOT's VALUE, taken over -/
theorem Mid.assign {hc : FuncId → Bool} {fn : Func} {R : V → Heap → Prop} {ops : Array Oper} {i : Nat} {K : List Item} {r : RS} {o : Oper} {x d : Nat} {Λ : Type} {ti : TypeId → TI} (hti : TIok P ti) {tb : Λ → Tbl} {l0 : Λ} (htbl : TblOk P (tb l0))
    (hoi : ops[i]? = some o) (hgd : o.guard = none) (hop : o.op = .assign (.tmp x) ∨ o.op = .move (.tmp x)) (hd : o.dst = some d)
    (hdec : r.dec = []) (next : Mid P hc W0 m0 fn R ops (i + 1) K { tmps := r.tmps.set d (r.tmps.getD x (.tup [])), heap := r.heap, dec := [], hints := [], obs := [] }) : Mid P hc W0 m0 fn R ops i K r := by
  have hlt : i < ops.size := (Array.getElem?_eq_some_iff.1 hoi).1
  have hl : (ops.toList.drop i).take ([o] : List Oper).length = [o] := by
    have e : ops.toList.drop i = o :: ops.toList.drop (i + 1) := by
      rw [List.drop_eq_getElem_cons (by simpa using hlt)]
      congr 1
      have := (Array.getElem?_eq_some_iff.1 hoi).2
      simpa using this
    rw [e]; rfl
  refine Mid.bare ?_
  refine Mid.ops hti htbl [o] i _ { tmps := r.tmps.set d (r.tmps.getD x (.tup [])), heap := r.heap, dec := [], hints := [], obs := [] } hl ?_ (fun q hq => by simp at hq) next
  rw [hdec]
  rcases hop with hop | hop <;> simp [runOps, guardAt, hgd, hop, evOp, stepOp, planOp, plan, Go.Eng.ok, Go.Eng.opnd, perform, RS.put, hd, putV, isAlloc]
end
end Go.Eng

set_option linter.unusedSimpArgs false
set_option linter.unusedVariables false
namespace Go.Eng
open Go Go.RowKit
section
variable {P : Program} {W0 : World} {m0 : Nat}
/-- only some slots are kept, in the midst -/
theorem Mid.keep {hc : FuncId → Bool} {fn : Func} {R : V → Heap → Prop} {ops : Array Oper} {i : Nat} {K : List Item} {r : RS} (keep : List Nat) (hdec : r.dec = [])
    (h : Mid P hc W0 m0 fn R ops i K { tmps := keepT keep 0 r.tmps, heap := r.heap, dec := [], hints := [], obs := [] }) : Mid P hc W0 m0 fn R ops i K r := by
  intro hok hm hd ρ0 ρ a w b cs hag hT hH hdef
  refine h hok hm (fun d h hm => by simp at hm) ρ0 ρ a w b cs hag ⟨by simp only [keepT_len]; exact hT.1, fun j x hx => ?_⟩ hH hdef
  obtain ⟨y0, hy0, hxy⟩ := keepT_get hx
  obtain ⟨v, h1, h2⟩ := hT.2 j y0 hy0
  refine ⟨v, h1, ?_⟩
  rcases hxy with rfl | rfl
  · exact h2
  · exact True.intro
/-- what is shared by more than one way -/
theorem share {P : Program} {hc : FuncId → Bool} {W0 : World} {m0 : Nat} {fn : Func} {R : V → Heap → Prop} (X : Item) (T : List Item) {ι : Type} (S : ι → List V × Heap) {c : Cfg}
    (rest : (∀ i, Run P hc W0 m0 fn R ⟨(S i).1, (S i).2, X :: T, [], []⟩) → Run P hc W0 m0 fn R c) (tail : ∀ i, Run P hc W0 m0 fn R ⟨(S i).1, (S i).2, X :: T, [], []⟩) : Run P hc W0 m0 fn R c := rest tail
/-- the state as one of a family -/
theorem Run.fam3 {P : Program} {hc : FuncId → Bool} {W0 : World} {m0 : Nat} {fn : Func} {R : V → Heap → Prop} {ι : Type} (S : ι → List V × Heap) {x : Item} {T : List Item} (i0 : ι)
    (h : ∀ i, Run P hc W0 m0 fn R ⟨(S i).1, (S i).2, x :: T, [], []⟩) : Run P hc W0 m0 fn R ⟨(S i0).1, (S i0).2, x :: T, [], []⟩ := h i0
theorem ALe.str {a b : ByteArray} (h : a = b) : ALe (.one (.str a)) (.one (.str b)) := by
  subst h
  exact fun ρ u hu => hu
theorem strOf_congr {f g : Nat → Int} {n : Nat} (h : ∀ j, j < n → f j = g j) : strOf f n = strOf g n := by
  unfold strOf
  congr 2
  apply List.map_congr_left
  intro j hj
  rw [h j (by simpa using hj)]
theorem strOf_size (f : Nat → Int) (n : Nat) : (strOf f n).size = n := by
  unfold strOf
  rw [ByteArray.size]
  simp
theorem strOf_zero (f : Nat → Int) : strOf f 0 = ⟨#[]⟩ := rfl
theorem strOf_cat {f g : Nat → Int} {m n : Nat} : strOf f m ++ strOf g n = strOf (fun j => if j < m then f j else g (j - m)) (m + n) := by
  apply ByteArray.ext
  rw [ByteArray.data_append]
  unfold strOf
  simp only [List.append_toArray]
  congr 1
  rw [List.range_add, List.map_append]
  congr 1
  · apply List.map_congr_left
    intro j hj
    rw [if_pos (by simpa using hj)]
  · rw [List.map_map]
    apply List.map_congr_left
    intro j hj
    simp only [Function.comp_apply]
    rw [if_neg (by omega), show m + j - m = j by omega]
end
end Go.Eng

set_option linter.unusedSimpArgs false
set_option linter.unusedVariables false
namespace Go.Eng
open Go Go.RowKit
section
variable {P : Program} {W0 : World} {m0 : Nat} {ρ : Ren}
/-- from k on each operation waits for all that stand before it -/
def tailB (ws : Array Nat) (size k : Nat) : Bool := (List.range size).all fun i => decide (i < k) || (List.range i).all fun j => (ws.getD i 0).testBit j
theorem tailB_sem {ws : Array Nat} {size k : Nat} (h : tailB ws size k = true) : ∀ i, k ≤ i → i < size → ∀ j, j < i → (ws.getD i 0).testBit j = true := by
  intro i hk hi j hj
  unfold tailB at h
  rw [List.all_eq_true] at h
  have h1 := h i (List.mem_range.2 hi)
  simp only [Bool.or_eq_true, decide_eq_true_eq] at h1
  rcases h1 with h1 | h1
  · omega
  · rw [List.all_eq_true] at h1
    exact h1 j (List.mem_range.2 hj)
/-- the first ones of a drawn region -/
theorem runDraw_chainK {ti : TypeId → TI} {tbl : Tbl} {ops : Array Oper} {ws : Array Nat} {n0 k : Nat} (hk : k ≤ ops.size) : ∀ {l : List Oper} {i : Nat} {evs : List (Nat × Nat)} {r r' : RS}, (ops.toList.drop i).take l.length = l → i + l.length = k → evs.length = i → runDraw arR arR ti tbl ops ws n0 evs i l r = some r' → DecOk r → (∀ q ∈ r'.obs, q) →
    DecOk r' ∧ r'.heap.length = r.heap.length ∧ ∃ L : Nat → Nat × Nat, (∀ j, j < i → L j = evs.getD (i - 1 - j) (0, 0)) ∧ (∀ m j, i ≤ m → j < m → m < k → (ws.getD m 0).testBit j = false → clsOk2 (L j) (L m) = true) ∧ Chain ti tbl ops ws n0 L (List.range' i (k - i)) ⟨r.tmps, r.heap⟩ ⟨r'.tmps, r'.heap⟩
  | [], i, evs, r, r', hl, hik, hev, hr, hd, hq => by
    simp only [runDraw, Option.some.injEq] at hr
    subst hr
    have : k - i = 0 := by simp at hik; omega
    rw [this]
    exact ⟨hd, rfl, fun j => evs.getD (i - 1 - j) (0, 0), fun j _ => rfl, fun m j h1 h2 h3 => by simp at hik; omega, rfl⟩
  | o :: l, i, evs, r, r', hl, hik, hev, hr, hd, hq => by
    simp only [List.length_cons] at hik
    have hlt : i < ops.size := by omega
    have h0 : (ops.toList.drop i)[0]? = some o := by
      have e : ((ops.toList.drop i).take (o :: l).length)[0]? = some o := by rw [hl]; rfl
      rwa [List.getElem?_take_of_lt (by simp)] at e
    have hoi : ops[i]? = some o := by
      rw [List.getElem?_drop] at h0
      simpa using h0
    have hl' : (ops.toList.drop (i + 1)).take l.length = l := by
      have e : ops.toList.drop i = o :: ops.toList.drop (i + 1) := by
        rw [List.drop_eq_getElem_cons (by simpa using hlt)]
        congr 1
        have := (Array.getElem?_eq_some_iff.1 hoi).2
        simpa using this
      rw [e, List.length_cons, List.take_succ_cons] at hl
      exact (List.cons.inj hl).2
    have hsplit : List.range' i (k - i) = i :: List.range' (i + 1) (k - (i + 1)) := by
      rw [show k - i = (k - (i + 1)) + 1 by omega, List.range'_succ]
    rw [hsplit]
    have hback : ∀ (L : Nat → Nat × Nat) (e : Nat × Nat), (∀ j, j < i + 1 → L j = (e :: evs).getD (i + 1 - 1 - j) (0, 0)) → L i = e ∧ ∀ j, j < i → L j = evs.getD (i - 1 - j) (0, 0) := by
      intro L e h
      refine ⟨by rw [h i (by omega)]; simp, fun j hj => ?_⟩
      rw [h j (by omega), show i + 1 - 1 - j = (i - 1 - j) + 1 by omega, List.getD_cons_succ]
    simp only [runDraw] at hr
    split at hr
    · cases hr
    · rename_i r2 hg
      have hq2 : ∀ q ∈ r2.obs, q := fun q h => hq q (runDraw_obs hr q (List.mem_append_right _ h))
      obtain ⟨h1, h2, h3, h4⟩ := guardAt_sem hg hd hq2
      obtain ⟨c1, c2, L, l1, l2, c3⟩ := runDraw_chainK hk hl' (by omega) (by simp [hev]) hr (put_later h4 _ _ _ _) hq
      obtain ⟨b1, b2⟩ := hback L _ l1
      refine ⟨c1, ?_, L, b2, fun m j hm hj hms hw => ?_, o, _, hoi, .inr ⟨h1, b1, rfl⟩, ?_⟩
      · rw [c2]; simp only [RS.put]; rw [h3]
      · by_cases hki : m = i
        · subst hki
          rw [b1]
          exact clsOk2_zero _
        · exact l2 m j (by omega) hj hms hw
      · simp only [RS.put, h2, h3] at c3
        exact c3
    · rename_i r2 hg
      split at hr
      · cases hr
      rename_i hoke
      have hoke : okEv (ws.getD i 0) (lab tbl.hc r2.tmps o.op) evs i = true := by simpa using hoke
      split at hr
      · rename_i r3 he
        have hq3 : ∀ q ∈ r3.obs, q := fun q h => hq q (runDraw_obs hr q h)
        have hq2 : ∀ q ∈ r2.obs, q := fun q h => hq3 q (evOp_obs he q h)
        obtain ⟨h1, h2, h3, h4⟩ := guardAt_sem hg hd hq2
        obtain ⟨v, h', qs, e1, e2, e3, e4, e5⟩ := evOp_sem he h4 hq3
        obtain ⟨c1, c2, L, l1, l2, c3⟩ := runDraw_chainK hk hl' (by omega) (by simp [hev]) hr e5 hq
        obtain ⟨b1, b2⟩ := hback L _ l1
        rw [h2, h3] at e1
        rw [h2] at e3
        refine ⟨c1, ?_, L, b2, fun m j hm hj hms hw => ?_, o, ⟨putV r.tmps o.dst v, h'⟩, hoi, .inl ⟨h1, by rw [b1, h2], v, h', qs, e1, e2, rfl⟩, ?_⟩
        · rw [c2, e4, stepOp_len e1]
        · by_cases hki : m = i
          · subst hki
            rw [b1, b2 j hj]
            exact okEv_spec hev hoke j hj hw
          · exact l2 m j (by omega) hj hms hw
        · rw [e3, e4] at c3; exact c3
      · cases hr

theorem unl_splitK {n : Nat} {listed : Array Bool} {i : Nat} (hs : n ≤ listed.size) (hi : i ∈ unl n listed) : ∃ pre post, unl n listed = pre ++ i :: post ∧ (∀ j ∈ pre, j < i ∧ j ∈ unl n listed) ∧ i ∉ pre ++ post ∧ unl n (listed.setIfInBounds i true) = pre ++ post := by
  obtain ⟨hin, hil⟩ := mem_unl.1 hi
  have hr : List.range n = List.range i ++ i :: (List.range' (i + 1) (n - (i + 1))) := by
    rw [List.range_eq_range', List.range_eq_range', show n = i + (n - i) by omega, ← List.range'_append]
    congr 1
    rw [show n - i = (n - (i + 1)) + 1 by omega, Nat.zero_add, Nat.one_mul, List.range'_succ]
    congr 2
    omega
  have hset : ∀ j, j ≠ i → (listed.setIfInBounds i true).getD j true = listed.getD j true := fun j hj => getD_set_ne true (Ne.symm hj)
  refine ⟨(List.range i).filter fun i => !listed.getD i true, (List.range' (i + 1) (n - (i + 1))).filter fun i => !listed.getD i true, ?_, ?_, ?_, ?_⟩
  · unfold unl
    rw [hr, List.filter_append, List.filter_cons_of_pos (by simp only [hil, Bool.not_false])]
  · intro j hj
    rw [List.mem_filter, List.mem_range] at hj
    refine ⟨hj.1, mem_unl.2 ⟨by omega, by simpa only [Bool.not_eq_true'] using hj.2⟩⟩
  · intro hm
    rcases List.mem_append.1 hm with hm | hm
    · rw [List.mem_filter, List.mem_range] at hm; omega
    · rw [List.mem_filter, List.mem_range'] at hm
      obtain ⟨⟨k, hk, e⟩, -⟩ := hm
      omega
  · unfold unl
    rw [hr, List.filter_append, List.filter_cons_of_neg (by
      have : (listed.setIfInBounds i true).getD i true = true := by
        have hlt : i < listed.size := by omega
        simp [hlt]
      simp only [this, Bool.not_true, Bool.false_eq_true, not_false_eq_true])]
    congr 1
    · apply List.filter_congr
      intro j hj
      rw [List.mem_range] at hj
      rw [hset j (by omega)]
    · apply List.filter_congr
      intro j hj
      rw [List.mem_range'] at hj
      obtain ⟨k, hk, e⟩ := hj
      rw [hset j (by omega)]

theorem getD_high {listed : Array Bool} {i : Nat} (h : listed.getD i true = true) (hi : i < listed.size) : listed.getD i false = true := by
  simp [hi] at h ⊢; exact h

/-- the tail of a drawn region comes one behind the other -/
theorem wpAny_tail {L : Nat → Nat × Nat} {ops : Array Oper} {ws : Array Nat} (hD : DrawInv L ops ws) {k : Nat} (htl : ∀ i, k ≤ i → i < ops.size → ∀ j, j < i → (ws.getD i 0).testBit j = true) {Q : Exit → Act → World → Prop} :
    ∀ (fuel m : Nat) (listed : Array Bool) (a : Act) (w : World), k ≤ m → m ≤ ops.size → listed.size = ops.size → (∀ i, i < m → listed.getD i true = true) → (∀ i, m ≤ i → i < ops.size → listed.getD i true = false) → ops.size - m ≤ fuel →
      wpOps P ops Q (List.range' m (ops.size - m)) a w → wpAny P .any ops Q fuel listed a w := by
  intro fuel
  induction fuel with
  | zero =>
    intro m listed a w hkm hm hs h1 h2 hf hw
    rw [show ops.size - m = 0 by omega] at hw
    refine ⟨?_, hw⟩
    cases hr : Region.ready .any ops listed with
    | nil => rfl
    | cons i l =>
      have hi : i ∈ Region.ready .any ops listed := by rw [hr]; simp
      obtain ⟨g1, o, ho, -⟩ := mem_ready.1 hi
      have hin : i < ops.size := (Array.getElem?_eq_some_iff.1 ho).1
      rw [h1 i (by omega)] at g1; cases g1
  | succ fuel ih =>
    intro m listed a w hkm hm hs h1 h2 hf hw
    have hcl : Closed ops listed := by
      intro j oj hj hl e he hb
      have hjm : j < m := by
        rcases Nat.lt_or_ge j m with h | h
        · exact h
        · have hjs : j < ops.size := (Array.getElem?_eq_some_iff.1 hj).1
          rw [getD_low (h2 j h hjs)] at hl; cases hl
      have := hD.back j oj hj e he hb
      exact getD_high (h1 e.on (by omega)) (by omega)
    by_cases hms : m = ops.size
    · subst hms
      rw [Nat.sub_self] at hw
      refine ⟨fun _ => hw, fun i hi => ?_⟩
      obtain ⟨g1, o, ho, -⟩ := mem_ready.1 hi
      have hin : i < ops.size := (Array.getElem?_eq_some_iff.1 ho).1
      rw [h1 i hin] at g1; cases g1
    · have hlt : m < ops.size := by omega
      rw [show ops.size - m = (ops.size - (m + 1)) + 1 by omega, List.range'_succ, wpOps_cons] at hw
      refine ⟨fun hr => ?_, fun i hi => ?_⟩
      · have : m ∈ Region.ready .any ops listed := mem_ready.2 ⟨h2 m (Nat.le_refl _) hlt, ops[m], Array.getElem?_eq_getElem hlt, fun e he hb => by
          have := hD.back m _ (Array.getElem?_eq_getElem hlt) e he hb
          exact getD_high (h1 e.on this) (by omega)⟩
        rw [hr] at this; cases this
      · obtain ⟨g1, o, ho, hall⟩ := mem_ready.1 hi
        have hin : i < ops.size := (Array.getElem?_eq_some_iff.1 ho).1
        have him : i = m := by
          rcases Nat.lt_trichotomy i m with h | h | h
          · rw [h1 i h] at g1; cases g1
          · exact h
          · have hb := htl i (by omega) hin m h
            have := waits_listed hD hcl i i rfl h hin hb (fun oi hoi => by rw [ho] at hoi; simp only [Option.some.injEq] at hoi; subst hoi; exact hall)
            rw [getD_low (h2 m (Nat.le_refl _) hlt)] at this; cases this
        subst him
        refine wpOp_mono (fun a' w' hh => ?_) hw
        refine ih (i + 1) _ a' w' (by omega) (by omega) (by simp [hs]) (fun j hj => ?_) (fun j hj hjs => ?_) (by omega) hh
        · by_cases hji : i = j
          · subst hji; simp [hs, hlt]
          · rw [getD_set_ne true hji]; exact h1 j (by omega)
        · rw [getD_set_ne true (by omega)]; exact h2 j (by omega) hjs

/-- WHATEVER ORDER IS DRAWN, where the last ones come one behind the other -/
theorem wpAny_of_chainK {ti : TypeId → TI} (hti : TIok P ti) {tbl : Tbl} (htbl : TblOk P tbl) {ops : Array Oper} {ws : Array Nat} {n0 : Nat} {L : Nat → Nat × Nat} (hD : DrawInv L ops ws) {k : Nat} (hk : k ≤ ops.size)
    (htl : ∀ i, k ≤ i → i < ops.size → ∀ j, j < i → (ws.getD i 0).testBit j = true) {sn : St} {ρ0 : Ren} {Q : Exit → Act → World → Prop}
    (hQ : ∀ ρ' a' w', Ext ρ0 ρ' → TRel ρ' sn.tmps a'.tmps → HRel W0 m0 ρ' sn.heap w' → a'.defers = [] → wpOps P ops Q (List.range' k (ops.size - k)) a' w') :
    ∀ (fuel : Nat) (listed : Array Bool) (ρ : Ren) (s : St) (a : Act) (w : World), Ext ρ0 ρ → listed.size = ops.size → Closed ops listed → (∀ i, k ≤ i → i < ops.size → listed.getD i true = false) → (unl k listed).length + (ops.size - k) ≤ fuel → Fresh ops n0 m0 (unl k listed) s →
      Chain ti tbl ops ws n0 L (unl k listed) s sn → TRel ρ s.tmps a.tmps → HRel W0 m0 ρ s.heap w → a.defers = [] → wpAny P .any ops Q fuel listed a w := by
  have fromTail : ∀ (fuel : Nat) (listed : Array Bool) (ρ : Ren) (s : St) (a : Act) (w : World), unl k listed = [] → Ext ρ0 ρ → listed.size = ops.size → (∀ i, k ≤ i → i < ops.size → listed.getD i true = false) → (unl k listed).length + (ops.size - k) ≤ fuel →
      Chain ti tbl ops ws n0 L (unl k listed) s sn → TRel ρ s.tmps a.tmps → HRel W0 m0 ρ s.heap w → a.defers = [] → wpAny P .any ops Q fuel listed a w := by
    intro fuel listed ρ s a w hu hρ hs hl hf hch hT hH hd
    rw [hu] at hch
    have hch : s = sn := hch
    subst hch
    refine wpAny_tail hD htl fuel k listed a w (Nat.le_refl _) hk hs (fun i hi => ?_) hl (by omega) (hQ ρ a w hρ hT hH hd)
    cases hg : listed.getD i true with
    | true => rfl
    | false =>
      have : i ∈ unl k listed := mem_unl.2 ⟨hi, hg⟩
      rw [hu] at this; cases this
  intro fuel
  induction fuel with
  | zero =>
    intro listed ρ s a w hρ hs hc hl hf hfr hch hT hH hd
    exact fromTail 0 listed ρ s a w (List.length_eq_zero_iff.1 (by omega)) hρ hs hl hf hch hT hH hd
  | succ fuel ih =>
    intro listed ρ s a w hρ hs hc hl hf hfr hch hT hH hd
    by_cases hu : unl k listed = []
    · exact fromTail (fuel + 1) listed ρ s a w hu hρ hs hl hf hch hT hH hd
    · have hex : ∃ x, x ∈ unl k listed := by
        cases h : unl k listed with
        | nil => exact absurd h hu
        | cons x l => exact ⟨x, by simp⟩
      refine ⟨fun hr => ?_, fun i hi => ?_⟩
      · exfalso
        cases hu2 : unl k listed with
        | nil => exact hu hu2
        | cons i l =>
          have hi : i ∈ unl k listed := by rw [hu2]; simp
          obtain ⟨hin, hil⟩ := mem_unl.1 hi
          have hmin : ∀ m, m < i → listed.getD m false = true := by
            intro m hm
            cases hml : listed.getD m true with
            | false =>
              exfalso
              have hmm : m ∈ unl k listed := mem_unl.2 ⟨by omega, hml⟩
              have hp : (unl k listed).Pairwise (· < ·) := List.Pairwise.filter _ List.pairwise_lt_range
              rw [hu2] at hmm hp
              rcases List.mem_cons.1 hmm with h | h
              · omega
              · have := (List.pairwise_cons.1 hp).1 m h; omega
            | true => exact getD_high hml (by omega)
          have : i ∈ Region.ready .any ops listed := mem_ready.2 ⟨hil, ops[i], Array.getElem?_eq_getElem (by omega), fun e he hb => hmin _ (hD.back i _ (Array.getElem?_eq_getElem (by omega)) e he hb)⟩
          rw [hr] at this; cases this
      · obtain ⟨h1, o, ho, hall⟩ := mem_ready.1 hi
        have hin : i < ops.size := (Array.getElem?_eq_some_iff.1 ho).1
        have hik : i < k := by
          rcases Nat.lt_or_ge i k with h | h
          · exact h
          · exfalso
            obtain ⟨x, hx⟩ := hex
            obtain ⟨hx1, hx2⟩ := mem_unl.1 hx
            have hb := htl i h hin x (by omega)
            have := waits_listed hD hc i i rfl (by omega) hin hb (fun oi hoi => by rw [ho] at hoi; simp only [Option.some.injEq] at hoi; subst hoi; exact hall)
            rw [getD_low hx2] at this; cases this
        have him : i ∈ unl k listed := mem_unl.2 ⟨hik, h1⟩
        obtain ⟨pre, post, e1, e2, e3, e4⟩ := unl_splitK (by omega) him
        rw [e1] at hch
        have hfront := Chain.front (fun j hj => by
          obtain ⟨hji, hjm⟩ := e2 j hj
          refine ⟨by omega, ?_⟩
          rcases (hD.pair i j hji hin).2 with ⟨hw, -⟩ | ha
          · exfalso
            have := waits_listed hD hc i i rfl hji hin hw (fun oi hoi => by rw [ho] at hoi; simp only [Option.some.injEq] at hoi; subst hoi; exact hall)
            have h2 := (mem_unl.1 hjm).2
            rw [getD_low h2] at this; cases this
          · exact ha) hch
        obtain ⟨o', s1, ho', heff, hrest⟩ := hfront
        rw [ho] at ho'
        simp only [Option.some.injEq] at ho'
        subst ho'
        refine Eff.wp (W0 := W0) (m0 := m0) (ρ := ρ) hti htbl ho heff (fun ha => hfr i him o ho ha) hT hH hd ?_
        intro ρ' a' w' hx' hT' hH' hd'
        have hsz : (listed.setIfInBounds i true).size = ops.size := by simp [hs]
        refine ih _ ρ' s1 a' w' (hρ.trans hx') hsz ?_ (fun j hj hjs => ?_) ?_ ?_ ?_ hT' hH' hd'
        · intro j oj hj hl e he hb
          by_cases hij : i = j
          · subst hij
            rw [ho] at hj
            simp only [Option.some.injEq] at hj
            subst hj
            exact getD_set_true (hall e he hb)
          · rw [getD_set_ne false hij] at hl
            exact getD_set_true (hc j oj hj hl e he hb)
        · rw [getD_set_ne true (by omega)]; exact hl j hj hjs
        · rw [e4]
          rw [e1] at hf
          simp at hf ⊢; omega
        · rw [e4]
          exact heff.fresh (fun j hj => hfr j (by rw [e1]; rcases List.mem_append.1 hj with h | h <;> simp [h])) e3
        · rw [e4]; exact hrest

/-- the operations of a drawn region, and what each does to memory -/
def runDrawE (ar real : Ar) (ti : TypeId → TI) (tbl : Tbl) (ops : Array Oper) (ws : Array Nat) (n0 : Nat) : List (Nat × Nat) → Nat → List Oper → RS → Option (List (Nat × Nat) × RS)
  | evs, _, [], r => some (evs, r)
  | evs, i, o :: rest, r => match guardAt ar ops r o with
    | none => none
    | some (false, r) => runDrawE ar real ti tbl ops ws n0 ((0, 0) :: evs) (i + 1) rest (r.put o.dst (.tup []) r.heap [])
    | some (true, r) => if !(okEv (ws.getD i 0) (lab tbl.hc r.tmps o.op) evs i) then none else
      match evOp ar real ti tbl (fun n => decide (n < n0) || (ws.getD i 0).testBit (n - n0)) (n0 + i) o r r.heap with
      | some r' => runDrawE ar real ti tbl ops ws n0 (lab tbl.hc r.tmps o.op :: evs) (i + 1) rest r'
      | none => none
theorem runDraw_cat {ar real : Ar} {ti : TypeId → TI} {tbl : Tbl} {ops : Array Oper} {ws : Array Nat} {n0 : Nat} {l2 : List Oper} : ∀ {l1 : List Oper} {evs evs' : List (Nat × Nat)} {i : Nat} {r r' : RS}, runDrawE ar real ti tbl ops ws n0 evs i l1 r = some (evs', r') →
    runDraw ar real ti tbl ops ws n0 evs i (l1 ++ l2) r = runDraw ar real ti tbl ops ws n0 evs' (i + l1.length) l2 r'
  | [], evs, evs', i, r, r', h => by
    simp only [runDrawE, Option.some.injEq, Prod.mk.injEq] at h
    obtain ⟨rfl, rfl⟩ := h
    rfl
  | o :: l1, evs, evs', i, r, r', h => by
    simp only [runDrawE] at h
    simp only [List.cons_append, runDraw]
    split at h
    · cases h
    · rename_i r2 hg
      simp only [hg]
      rw [runDraw_cat h]
      congr 1
      simp only [List.length_cons]; omega
    · rename_i r2 hg
      simp only [hg]
      split at h
      · cases h
      · rename_i hok
        rw [if_neg hok]
        split at h
        · rename_i r3 he
          simp only [he]
          rw [runDraw_cat h]
          congr 1
          simp only [List.length_cons]; omega
        · cases h
/-- in two stages -/
theorem runDraw_stage (k : Nat) {ar real : Ar} {ti : TypeId → TI} {tbl : Tbl} {ops : Array Oper} {ws : Array Nat} {n0 : Nat} {l : List Oper} {evs evs' : List (Nat × Nat)} {i : Nat} {r r' : RS} {x : Option RS} (h1 : runDrawE ar real ti tbl ops ws n0 evs i (l.take k) r = some (evs', r'))
    (h2 : runDraw ar real ti tbl ops ws n0 evs' (i + (l.take k).length) (l.drop k) r' = x) : runDraw ar real ti tbl ops ws n0 evs i l r = x := by
  rw [← h2, ← runDraw_cat h1, List.take_append_drop]

/-- INTO A DRAWN REGION, as far as its order is open: the rest one behind the other -/
theorem Mid.startDraw {hc : FuncId → Bool} {fn : Func} {R : V → Heap → Prop} (hm : P.follows .mixedOrders = true) {Λ : Type} {ti : TypeId → TI} (hti : TIok P ti) {tb : Λ → Tbl} {l0 : Λ} (htbl : TblOk P (tb l0)) (hhc : hc = (tb l0).hc) {id : Nat} {ops : Array Oper} {K : List Item} {t : List V} {h : Heap} {o : List Prop} {s : List Bool} (k : Nat) (hints : List Bool)
    (hk : Nat.ble k ops.size = true) (htl : tailB (waits ops) ops.size k = true) {ws : Array Nat} (hws : waits ops = ws) {G : Ar → Λ → RS} (hl : ((ops.toList.drop 0).take k).length = k)
    (he : ∀ ar l, runDraw ar arR ti (tb l) ops ws h.length [] 0 ((ops.toList.drop 0).take k) ⟨t, Go.Eng.pad ops h, [], hints, []⟩ = some (G ar l)) (hq : ∀ q ∈ (G arR l0).obs, q)
    (next : Mid P hc W0 m0 fn R ops k K { tmps := (G arR l0).tmps, heap := (G arR l0).heap, dec := (G arR l0).dec, hints := [], obs := [] }) : Run P hc W0 m0 fn R ⟨t, h, .code (.region id ops true) :: K, o, s⟩ := by
  subst hhc hws
  intro hok hm0 ρ tmps w b cs hT hH
  have hm0 : m0 ≤ h.length := hm0
  have hk := Nat.le_of_ble_eq_true hk
  simp only [itemsOk_cons, Bool.and_eq_true] at hok
  have hdraw : drawOk (tb l0).hc ops = true := by
    have := hok.1
    simpa [itemOk, codeOk] using this
  obtain ⟨c1, c2, L, l1, l2, c3⟩ := runDraw_chainK hk (l := (ops.toList.drop 0).take k) (i := 0) (by rw [hl]) (by rw [hl]; omega) rfl (he arR l0) (fun d h hm => by simp at hm) hq
  have htl' := tailB_sem htl
  have hD := drawInv_of (ws := waits ops) (L := L) (by simpa [drawOk] using hdraw) (fun i j hj hi hw => by
    rcases Nat.lt_or_ge i k with h1 | h1
    · exact l2 i j (Nat.zero_le _) hj h1 hw
    · rw [htl' i h1 hi j hj] at hw; cases hw)
  have hlen : m0 ≤ (G arR l0).heap.length := by rw [c2]; exact Nat.le_trans hm0 (pad_len ops h)
  have hwp : (Code.region id ops true).wp P (fun e a' w' => e = .normal ∧ Fin P W0 m0 fn R ρ b cs (lone (b.at a' K) cs w')) ⟨tmps, []⟩ w := by
    refine wp_region_any hm ?_
    refine wpAny_of_chainK (W0 := W0) (m0 := m0) (n0 := h.length) hti htbl hD hk htl' (sn := ⟨(G arR l0).tmps, (G arR l0).heap⟩) (ρ0 := ρ) (fun ρ' a' w' hx h1 h2 h3 => ?_) ops.size (Array.replicate ops.size false) ρ ⟨t, Go.Eng.pad ops h⟩ ⟨tmps, []⟩ _ (Ext.refl ρ) (by simp) ?_ ?_ ?_ ?_ ?_ hT ((hH.padOps ops).drew _) rfl
    · exact next hok.2 hlen (fun d h hm => c1 d h hm) ρ ρ' a' w' b cs (fun n p _ hp => hx n p hp) h1 h2 h3
    · intro j oj hj hl
      by_cases h : j < ops.size <;> simp [h] at hl
    · intro i _ hi
      simp [hi]
    · have : unl k (Array.replicate ops.size false) = List.range k := by
        unfold unl
        rw [List.filter_eq_self]
        intro i hi
        rw [List.mem_range] at hi
        simp [show i < ops.size by omega]
      rw [this]; simp; omega
    · intro j hj oj ho ha
      have hjk := (mem_unl.1 hj).1
      refine ⟨?_, by omega⟩
      have hany : ops.any (fun o => isAlloc o.op) = true := by
        rw [Array.any_eq_true']
        exact ⟨oj, Array.mem_of_getElem? ho, ha⟩
      unfold Go.Eng.pad
      rw [if_pos hany, List.getElem?_append_right (by omega)]
      simp [show j < ops.size by omega]
    · have : unl k (Array.replicate ops.size false) = List.range k := by
        unfold unl
        rw [List.filter_eq_self]
        intro i hi
        rw [List.mem_range] at hi
        simp [show i < ops.size by omega]
      rw [this, List.range_eq_range']
      simpa using c3
  obtain ⟨e, a', w', ⟨rfl, hf⟩, harr⟩ := hwp b K cs
  exact .of_steps harr hf
end
end Go.Eng

set_option linter.unusedSimpArgs false
set_option linter.unusedVariables false
namespace Go.Eng
open Go Go.RowKit
section
variable {P : Program} {W0 : World} {m0 : Nat}
/-- AN EMPTY SLICE WITH ROOM -/
theorem Mid.make {hc : FuncId → Bool} {fn : Func} {R : V → Heap → Prop} {ops : Array Oper} {i : Nat} {K : List Item} {r : RS} {o : Oper} {x d : Nat} {T e : TypeId} {k kc : IntKind} {size bytes : Nat}
    (hoi : ops[i]? = some o) (hgd : o.guard = none) (hop : o.op = .makeSlice T (.const (.int .i64 0)) (.tmp x)) (hd : o.dst = some d) (ht : AppT P T e k size bytes) {n : Int} (hx : r.tmps.getD x (.tup []) = .a (.one (.int kc n)))
    (h0 : 0 ≤ n) (hb : (bytes : Int) * n ≤ 281474976710656) (h63 : n ≤ 9223372036854775807) (hml : m0 ≤ r.heap.length)
    (next : Mid P hc W0 m0 fn R ops (i + 1) K { tmps := r.tmps.set d (.a (.one (.sl r.heap.length (.lit 0) (.sym 0) (.sym n.toNat)))), heap := r.heap ++ [some ⟨false, .ints k (.sym (size * n.toNat)) (fun _ => 0)⟩], dec := [], hints := r.hints, obs := [] }) :
    Mid P hc W0 m0 fn R ops i K r := by
  obtain ⟨inf, z, hi, hz, hsize, hbytes, hzc⟩ := ht.ex
  have hpos := ht.pos
  subst hsize hbytes
  refine Mid.op hoi hgd (fun r' => r' = { tmps := r.tmps.set d (.a (.one (.sl r.heap.length (.lit 0) (.sym 0) (.sym n.toNat)))), heap := r.heap ++ [some ⟨false, .ints k (.sym (inf.size * n.toNat)) (fun _ => 0)⟩], dec := [], hints := r.hints, obs := [] }) ?_ ?_
  · intro ρ a w hT hH Kk Q hK
    have h2 := VRel.opnd hT (.tmp x) a rfl
    simp only [Go.Eng.opnd, hx] at h2
    replace h2 : a.eval (.tmp x) = .int kc n := h2
    have hG : GRel ρ (.ints k (.sym (inf.size * n.toNat)) (fun _ => 0)) (madeCells z.cells (n.toNat * inf.size)) := by
      refine ⟨by rw [size_madeCells, Nat.mul_comm]; rfl, fun j y hy => ?_⟩
      simp only [G.at] at hy
      split at hy
      · rename_i hj
        have hj : j < inf.size * n.toNat := hj
        simp only [Option.some.injEq] at hy
        subst hy
        refine ⟨_, ?_, rfl⟩
        have := zeroCells_at (k := k) (size := inf.size) (n := n.toNat) (j := j) hpos (by rw [Nat.mul_comm]; exact hj)
        unfold Builtin.zeroCells at this
        unfold madeCells
        rw [hzc]
        simp only [Array.size_replicate] at this ⊢
        exact this
      · cases hy
    obtain ⟨ρ', x1, x2, x3⟩ := HRel.alloc (ty := e) (hH.pad 1) (nm := r.heap.length) (by simp) hml hG
    have hrun := run_make (P := P) w T e inf z ht.ht hi hz .i64 kc 0 n (Int.le_refl _) h0 hb h63
    unfold Oper.wp execOp
    simp only [hop, Sem.run_bind, Sem.run_pure, Result.andThen_ok, Act.eval, h2]
    have h2' : (match (Operand.tmp x) with | .const v => v | _ => a.eval (.tmp x)) = .int kc n := h2
    rw [show (Instr.makeSlice T (Value.int .i64 0) (a.tmps.getD x undef)) = Instr.makeSlice T (.int .i64 0) (.int kc n) from by rw [show a.tmps.getD x undef = .int kc n from h2], hrun]
    refine hK ρ' _ _ { tmps := r.tmps.set d (.a (.one (.sl r.heap.length (.lit 0) (.sym 0) (.sym n.toNat)))), heap := r.heap ++ [some ⟨false, .ints k (.sym (inf.size * n.toNat)) (fun _ => 0)⟩], dec := [], hints := r.hints, obs := [] } (fun q p _ hp => x1 q p hp) ?_ ?_ rfl
    · rw [hd]
      exact TRel.put (dst := some d) (hT.ext x1) ⟨w.heap.size, 0, x2, rfl⟩
    · have e' : (r.heap ++ List.replicate 1 none).set r.heap.length (some ⟨false, .ints k (.sym (inf.size * n.toNat)) (fun _ => 0)⟩) = r.heap ++ [some ⟨false, .ints k (.sym (inf.size * n.toNat)) (fun _ => 0)⟩] := by
        rw [List.set_append_right _ _ (Nat.le_refl _), Nat.sub_self]; rfl
      rw [e'] at x3
      exact x3
  · rintro r' rfl
    exact ⟨fun q h hm => by simp at hm, by simp; omega, next⟩
/-- AN EMPTY SLICE WITHOUT ROOM -/
theorem Mid.slice0 {hc : FuncId → Bool} {fn : Func} {R : V → Heap → Prop} {ops : Array Oper} {i : Nat} {K : List Item} {r : RS} {o : Oper} {d : Nat} {T e : TypeId} {k : IntKind} {size bytes : Nat}
    (hoi : ops[i]? = some o) (hgd : o.guard = none) (hop : o.op = .buildSlice T 0 #[]) (hd : o.dst = some d) (ht : AppT P T e k size bytes) (hml : m0 ≤ r.heap.length)
    (next : Mid P hc W0 m0 fn R ops (i + 1) K { tmps := r.tmps.set d (.a (.one (.sl r.heap.length (.lit 0) (.sym 0) (.sym 0)))), heap := r.heap ++ [some ⟨false, .ints k (.sym 0) (fun _ => 0)⟩], dec := [], hints := r.hints, obs := [] }) :
    Mid P hc W0 m0 fn R ops i K r := by
  refine Mid.op hoi hgd (fun r' => r' = { tmps := r.tmps.set d (.a (.one (.sl r.heap.length (.lit 0) (.sym 0) (.sym 0)))), heap := r.heap ++ [some ⟨false, .ints k (.sym 0) (fun _ => 0)⟩], dec := [], hints := r.hints, obs := [] }) ?_ ?_
  · intro ρ a w hT hH Kk Q hK
    have hG : GRel ρ (.ints k (.sym 0) (fun _ => 0)) #[] := by
      refine ⟨rfl, fun j y hy => ?_⟩
      simp only [G.at] at hy
      split at hy
      · rename_i hj
        exact absurd hj (Nat.not_lt_zero j)
      · cases hy
    obtain ⟨ρ', x1, x2, x3⟩ := HRel.alloc (ty := e) (hH.pad 1) (nm := r.heap.length) (by simp) hml hG
    have hrun := run_buildSlice0 (P := P) w ht
    unfold Oper.wp execOp
    simp only [hop, Sem.run_bind, Sem.run_pure, Result.andThen_ok, List.map_toArray, List.map_nil, hrun]
    refine hK ρ' _ _ { tmps := r.tmps.set d (.a (.one (.sl r.heap.length (.lit 0) (.sym 0) (.sym 0)))), heap := r.heap ++ [some ⟨false, .ints k (.sym 0) (fun _ => 0)⟩], dec := [], hints := r.hints, obs := [] } (fun q p _ hp => x1 q p hp) ?_ ?_ rfl
    · rw [hd]
      exact TRel.put (dst := some d) (hT.ext x1) ⟨w.heap.size, 0, x2, rfl⟩
    · have e' : (r.heap ++ List.replicate 1 none).set r.heap.length (some ⟨false, .ints k (.sym 0) (fun _ => 0)⟩) = r.heap ++ [some ⟨false, .ints k (.sym 0) (fun _ => 0)⟩] := by
        rw [List.set_append_right _ _ (Nat.le_refl _), Nat.sub_self]; rfl
      rw [e'] at x3
      exact x3
  · rintro r' rfl
    exact ⟨fun q h hm => by simp at hm, by simp; omega, next⟩
end
end Go.Eng

