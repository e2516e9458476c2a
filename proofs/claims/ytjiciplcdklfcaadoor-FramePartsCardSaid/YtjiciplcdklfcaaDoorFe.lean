import Derived.Test.YtjiciplcdklfcaaDoorFd
set_option linter.unusedSimpArgs false
set_option linter.unusedVariables false
namespace Go.Eng
open Go
def tbL (l : List (Nat × ESpec)) (hs : List (Nat × HSpec)) : Tbl := ⟨fun f => l.lookup f, fun f => (hs.lookup f).isSome, fun f => hs.lookup f⟩
theorem tbL_ok {P : Program} {l : List (Nat × ESpec)} {hs : List (Nat × HSpec)} (h1 : ∀ p ∈ l, CallOk P p.1 p.2) (h2 : ∀ p ∈ hs, HOk P p.1 p.2) : TblOk P (tbL l hs) :=
  ⟨fun f s h => h1 (f, s) (lookup_mem' h), fun f s h => h2 (f, s) (lookup_mem' h)⟩
def conj : List Prop → Prop
  | [] => True
  | p :: l => p ∧ conj l
theorem allP : ∀ {l : List Prop}, conj l → ∀ q ∈ l, q
  | [], _, q, h => by simp at h
  | p :: l, ⟨h1, h2⟩, q, h => by
    rcases List.mem_cons.1 h with rfl | h
    · exact h1
    · exact allP h2 q h
theorem run_ex {P : Program} {W0 : World} {m0 : Nat} {fn : Func} {R : V → Heap → Prop} {Λ : Type} {ti : TypeId → TI} (hm : P.follows .mixedOrders = true) (hti : TIok P ti) {tb : Λ → Tbl} {l0 : Λ} (htbl : TblOk P (tb l0)) (d : Nat) (u : Bool) (n : Nat) (hints : List Bool) {t : List V} {h : Heap} {T : List Item} {o : List Prop} {s : List Bool} {F : Ar → Λ → Cfg}
    (he : ∀ ar l, exec ar arR ti (tb l) d u n ⟨t, h, T, [], hints⟩ = F ar l) (hq : ∀ q ∈ (F arR l0).obs, q) (hr : Run P (tb l0).hc W0 m0 fn R (F arR l0)) : Run P (tb l0).hc W0 m0 fn R ⟨t, h, T, o, s⟩ :=
  Run.exec hm hti htbl d u n hints (he arR l0) hq hr

/-- a numeral taken as a number -/
def C.norm : C → C
  | .lit k n => .int k n
  | .lbool b => .bool b
  | c => c
def A.norm : A → A
  | .one c => .one c.norm
  | .agg g => .agg g
theorem A.norm_norm (x : A) : x.norm.norm = x.norm := by
  cases x with
  | one c => cases c <;> rfl
  | agg g => rfl
theorem C.norm_rel {ρ : Ren} {x : C} {v : Value} (h : CRel ρ x v) : CRel ρ x.norm v := by
  cases x <;> exact h
theorem A.norm_rel {ρ : Ren} {x : A} {v : Value} (h : ARel ρ x v) : ARel ρ x.norm v := by
  cases x with
  | one c => exact C.norm_rel h
  | agg g => exact h
def V.norm : V → V
  | .a x => .a x.norm
  | v => v
theorem V.norm_rel {ρ : Ren} {x : V} {v : Value} (h : VRel ρ x v) : VRel ρ x.norm v := by
  cases x with
  | a x => exact A.norm_rel h
  | tup xs => exact h
  | any => exact h
def normT (ns : List Nat) : Nat → List V → List V
  | _, [] => []
  | i, v :: l => (if ns.contains i then v.norm else v) :: normT ns (i + 1) l
theorem normT_get {ns : List Nat} : ∀ {l : List V} {i j : Nat} {x : V}, (normT ns i l)[j]? = some x → ∃ y, l[j]? = some y ∧ (x = y ∨ x = y.norm)
  | [], i, j, x, h => by simp [normT] at h
  | v :: l, i, 0, x, h => by
    simp only [normT, List.getElem?_cons_zero, Option.some.injEq] at h
    refine ⟨v, rfl, ?_⟩
    split at h
    · exact .inr h.symm
    · exact .inl h.symm
  | v :: l, i, j + 1, x, h => by
    simp only [normT, List.getElem?_cons_succ] at h
    exact normT_get (l := l) (i := i + 1) (j := j) h
theorem normT_len {ns : List Nat} : ∀ {l : List V} {i : Nat}, (normT ns i l).length = l.length
  | [], _ => rfl
  | v :: l, i => by simp [normT, normT_len]
def Pt.norm : Pt → Pt
  | .c x => .c x.norm
  | .v s d => .v s d
theorem normP_at {ρ : Ren} : ∀ {ps : List Pt}, (cellsP arR (ps.map Pt.norm)).length = (cellsP arR ps).length ∧ ∀ (j : Nat) x', (cellsP arR (ps.map Pt.norm))[j]? = some x' → ∃ x, (cellsP arR ps)[j]? = some x ∧ ∀ v, CRel ρ x v → CRel ρ x' v := by
  intro ps
  induction ps with
  | nil => exact ⟨rfl, fun j x' hx => by simp [cellsP] at hx⟩
  | cons p l ih =>
    obtain ⟨h1, h2⟩ := ih
    cases p with
    | c x =>
      refine ⟨by simp [cellsP, Pt.norm, h1], fun j x' hx => ?_⟩
      cases j with
      | zero =>
        have hx : some x.norm = some x' := hx
        simp only [Option.some.injEq] at hx
        subst hx
        exact ⟨x, rfl, fun v hv => C.norm_rel hv⟩
      | succ j => exact h2 j x' hx
    | v s d =>
      refine ⟨by simp [cellsP, Pt.norm, h1], fun j x' hx => ?_⟩
      simp only [List.map_cons, Pt.norm, cellsP] at hx ⊢
      rw [List.getElem?_append] at hx ⊢
      split
      · rename_i hj
        rw [if_pos hj] at hx
        exact ⟨x', hx, fun v hv => hv⟩
      · rename_i hj
        rw [if_neg hj] at hx
        exact h2 _ x' hx
def G.norm : G → G
  | .lst cs => .lst (cs.map C.norm)
  | .prt ps => .prt (ps.map Pt.norm)
  | g => g
def normH : Heap → Heap := List.map (Option.map fun b => { b with g := b.g.norm })
theorem G.norm_kind (g : G) : g.norm.cells = g.cells ∧ (g.norm = .tail ↔ g = .tail) ∧ (g.norm = .dead ↔ g = .dead) := by
  cases g <;> simp [G.norm, G.cells]
section
variable {P : Program} {hc : FuncId → Bool} {W0 : World} {m0 : Nat} {fn : Func} {R : V → Heap → Prop}
theorem normH_get {h : Heap} {n : Nat} {b : Blk} (hb : (normH h)[n]? = some (some b)) : ∃ b', h[n]? = some (some b') ∧ b.ro = b'.ro ∧ b.g = b'.g.norm := by
  simp only [normH, List.getElem?_map, Option.map_eq_some_iff] at hb
  obtain ⟨x, h1, h2⟩ := hb
  obtain ⟨b', rfl, h3⟩ := h2
  exact ⟨b', h1, by rw [← h3], by rw [← h3]⟩
theorem normH_of {h : Heap} {n : Nat} {b : Blk} (hb : h[n]? = some (some b)) : (normH h)[n]? = some (some { b with g := b.g.norm }) := by
  simp only [normH, List.getElem?_map, hb, Option.map_some]
theorem HRel.norm {ρ : Ren} {h : Heap} {w : World} (hH : HRel W0 m0 ρ h w) : HRel W0 m0 ρ (normH h) w := by
  have hown : ∀ r, Owned m0 ρ h r → Owned m0 ρ (normH h) r := by
    rintro r ⟨n, b, o, h1, h2, h3, h4⟩
    exact ⟨n, _, o, h1, normH_of h2, h3.imp id (fun e => b.g.norm_kind.2.2.2 e), h4⟩
  refine ⟨hH.os, hH.tape, hH.output, hH.size, fun k hk hno => hH.frame k hk (fun ho => hno (hown k ho)), fun k p hk => ?_, fun k b hk hc => ?_, fun k m r o o' b b' hne hk hro hm hnd e1 e2 => ?_, fun k r o hk e => (hH.new k r o hk e).imp id (hown r), hH.low, fun k b hk hg => ?_, fun k b hk hg => ?_, fun k hv => ?_, fun k b hk hp => ?_, hH.zok, fun k b r o i hk hro hp hi => ?_, fun r i v hv hr => (hH.zold r i v hv hr).imp id (hown r), hH.yok⟩
  · obtain ⟨b, hb⟩ := hH.dom k p hk
    exact ⟨_, normH_of hb⟩
  · obtain ⟨b', h1, h2, h3⟩ := normH_get hk
    rw [h3] at hc
    obtain ⟨r, o, e, c, ty, fz, q1, q2, q3⟩ := hH.blk k b' h1 (by rw [← b'.g.norm_kind.1]; exact hc)
    refine ⟨r, o, e, c, ty, fz, q1, fun hr => q2 (by rw [← h2]; exact hr), fun j x hx => ?_⟩
    rw [h3] at hx
    cases hg : b'.g with
    | lst l =>
      rw [hg] at hx q3
      simp only [G.norm, G.at, List.getElem?_map, Option.map_eq_some_iff] at hx
      obtain ⟨y, hy, rfl⟩ := hx
      obtain ⟨v, a1, a2⟩ := q3 j y hy
      exact ⟨v, a1, C.norm_rel a2⟩
    | prt ps =>
      rw [hg] at hx q3
      obtain ⟨y, hy, hyx⟩ := (normP_at (ρ := ρ)).2 j x hx
      obtain ⟨v, a1, a2⟩ := q3 j y hy
      exact ⟨v, a1, hyx v a2⟩
    | ints k n f => rw [hg] at hx q3; exact q3 j x hx
    | col s n f => rw [hg] at hx q3; exact q3 j x hx
    | tail => rw [hg] at hx; cases hx
    | dead => rw [hg] at hx; cases hx
  · obtain ⟨b1, h1, h2, h3⟩ := normH_get hk
    obtain ⟨b2, g1, g2, g3⟩ := normH_get hm
    exact hH.sep k m r o o' b1 b2 hne h1 (by rw [← h2]; exact hro) g1 (fun e => hnd (by rw [g3]; exact b2.g.norm_kind.2.2.2 e)) e1 e2
  · obtain ⟨b', h1, h2, h3⟩ := normH_get hk
    rw [h2]
    exact hH.tails k b' h1 (by rw [h3] at hg; exact b'.g.norm_kind.2.1.1 hg)
  · obtain ⟨b', h1, h2, h3⟩ := normH_get hk
    rw [h2]
    exact hH.deadRo k b' h1 (by rw [h3] at hg; exact b'.g.norm_kind.2.2.1 hg)
  · obtain ⟨e, b, hb⟩ := hH.vd1 k hv
    exact ⟨e, _, normH_of hb⟩
  · obtain ⟨b', h1, h2, h3⟩ := normH_get hk
    exact hH.vd2 k b' h1 hp
  · obtain ⟨b', h1, h2, h3⟩ := normH_get hk
    exact hH.zsep k b' r o i h1 (by rw [← h2]; exact hro) hp (fun e => hi (by rw [h3]; exact b'.g.norm_kind.2.1.2 e))
theorem Run.norm {t : List V} {h : Heap} {T : List Item} {o o' : List Prop} {s s' : List Bool} (ns : List Nat) (hr : Run P hc W0 m0 fn R ⟨normT ns 0 t, normH h, T, o, s⟩) : Run P hc W0 m0 fn R ⟨t, h, T, o', s'⟩ := by
  intro hok hm ρ tmps w b cs hT hH
  refine hr hok (by simpa [normH] using hm) ρ tmps w b cs ⟨by rw [hT.1]; simp [normT_len], fun j x hx => ?_⟩ hH.norm
  obtain ⟨y, hy, hxy⟩ := normT_get hx
  obtain ⟨v, h1, h2⟩ := hT.2 j y hy
  rcases hxy with rfl | rfl
  · exact ⟨v, h1, h2⟩
  · exact ⟨v, h1, V.norm_rel h2⟩
/-- packing, and numerals taken as numbers -/
theorem Run.cut {c : Cfg} (blocks keep ns : List Nat) {bs : List Blk} (hnd : blocks.Nodup) (hpre : preB m0 blocks 0 = true) (hB : packH blocks c.heap = some bs)
    (h : Run P hc W0 m0 fn R ⟨normT ns 0 ((keepT keep 0 c.tmps).map (packV blocks)), normH (bs.map some), c.todo, [], []⟩) : Run P hc W0 m0 fn R c :=
  Run.pack blocks keep hnd hpre hB (Run.norm ns h)
def nodupB : List Nat → Bool
  | [] => true
  | x :: l => !(l.contains x) && nodupB l
theorem nodupB_sem : ∀ {l : List Nat}, nodupB l = true → l.Nodup
  | [], _ => List.nodup_nil
  | x :: l, h => by
    simp only [nodupB, Bool.and_eq_true, Bool.not_eq_true'] at h
    exact List.nodup_cons.2 ⟨by simpa using h.1, nodupB_sem h.2⟩
def packC (m0 : Nat) (blocks keep ns : List Nat) (c : Cfg) : Option Cfg :=
  if preB m0 blocks 0 && nodupB blocks then match packH blocks c.heap with
    | some bs => some ⟨normT ns 0 ((keepT keep 0 c.tmps).map (packV blocks)), normH (bs.map some), c.todo, c.obs, c.hints⟩
    | none => none
  else none
/-- an evaluation, and what is kept of its end -/
theorem run_pk {Λ : Type} {ti : TypeId → TI} (hm : P.follows .mixedOrders = true) (hti : TIok P ti) {tb : Λ → Tbl} {l0 : Λ} (htbl : TblOk P (tb l0)) (d : Nat) (u : Bool) (n : Nat) (hints : List Bool) (blocks keep ns : List Nat) {t : List V} {h : Heap} {T : List Item} {o : List Prop} {s : List Bool} {F : Ar → Λ → Cfg}
    (he : ∀ ar l, packC m0 blocks keep ns (exec ar arR ti (tb l) d u n ⟨t, h, T, [], hints⟩) = some (F ar l)) (hq : ∀ q ∈ (F arR l0).obs, q) (hr : Run P (tb l0).hc W0 m0 fn R ⟨(F arR l0).tmps, (F arR l0).heap, (F arR l0).todo, [], []⟩) : Run P (tb l0).hc W0 m0 fn R ⟨t, h, T, o, s⟩ := by
  have he := he arR l0
  unfold packC at he
  split at he
  · rename_i hb
    simp only [Bool.and_eq_true] at hb
    split at he
    · rename_i bs hB
      simp only [Option.some.injEq] at he
      rw [← he] at hq hr
      exact Run.exec hm hti htbl d u n hints rfl hq (Run.cut blocks keep ns (nodupB_sem hb.2) hb.1 hB hr)
    · cases he
  · cases he
/-- the state as one of a family -/
theorem Run.fam3 {ι : Type} (S : ι → List V × Heap) {x : Item} {T : List Item} (i0 : ι)
    (h : ∀ i, Run P hc W0 m0 fn R ⟨(S i).1, (S i).2, x :: T, [], []⟩) : Run P hc W0 m0 fn R ⟨(S i0).1, (S i0).2, x :: T, [], []⟩ := h i0
/-- what comes behind, once for all that come there -/
theorem share (X : Item) (T : List Item) {ι : Type} (S : ι → List V × Heap) {c : Cfg}
    (rest : (∀ i, Run P hc W0 m0 fn R ⟨(S i).1, (S i).2, X :: T, [], []⟩) → Run P hc W0 m0 fn R c) (tail : ∀ i, Run P hc W0 m0 fn R ⟨(S i).1, (S i).2, X :: T, [], []⟩) : Run P hc W0 m0 fn R c := rest tail
end
section
variable {P : Program} {fn : Func}
open Classical in
theorem CallOk.nrm {f : FuncId} {s : ESpec} (hs : ∀ l r, s l = some r → s (l.map A.norm) = some r) (h : CallOk P f (fun l => if l.map A.norm = l then s l else none)) : CallOk P f s := by
  unfold CallOk at h ⊢
  intro l v ps hl hp z args w hz ha
  have e : (l.map A.norm).map A.norm = l.map A.norm := by
    rw [List.map_map]; exact List.map_congr_left (fun x _ => A.norm_norm x)
  refine h (l.map A.norm) v ps ?_ hp z args w hz ?_
  · simp only [if_pos e]; exact hs l _ hl
  · refine ⟨by rw [ha.1]; simp, fun j x hx => ?_⟩
    simp only [List.getElem?_map, Option.map_eq_some_iff] at hx
    obtain ⟨y, hy, rfl⟩ := hx
    obtain ⟨u, h1, h2⟩ := ha.2 j y hy
    exact ⟨u, h1, A.norm_rel h2⟩
/-- a contract, by the form of the arguments' values -/
theorem CallOk.via {f : FuncId} {s s' : ESpec} (h : CallOk P f s') (hs : ∀ as v ps, s as = some (v, ps) → (∀ p ∈ ps, p) → ∃ as', (∀ z (args : Array Value), (AsRel (Ren.none z) as args) → AsRel (Ren.none z) as' args) ∧ ∃ v' ps', s' as' = some (v', ps') ∧ (∀ p ∈ ps', p) ∧ ∀ z u, VRel (Ren.none z) v' u → VRel (Ren.none z) v u) : CallOk P f s := by
  unfold CallOk at h ⊢
  intro as v ps hl hp z args w hz ha o a K Q hK
  obtain ⟨as', h1, v', ps', h2, h3, h4⟩ := hs as v ps hl hp
  exact h as' v' ps' h2 h3 z args w hz (h1 z args ha) o a K Q fun z' v2 w' k1 k2 k3 k4 k5 => hK z' v2 w' k1 k2 k3 (h4 z' v2 k4) k5
end
/-- a numeral or not: the cell by its two forms -/
theorem num_cases {c : C} {k : IntKind} {n : Int} {l : Bool} (h : c.num? = some (k, n, l)) : c = .int k n ∨ c = .lit k n := by
  cases c <;> simp only [C.num?] at h <;> first | (cases h; simp; done) | cases h
theorem rcmp_geq (x y : Int) : rcmp .geq x y = decide (x ≥ y) := by unfold rcmp; rfl
theorem rcmp_lss (x y : Int) : rcmp .lss x y = decide (x < y) := by unfold rcmp; rfl
theorem rcmp_gtr (x y : Int) : rcmp .gtr x y = decide (x > y) := by unfold rcmp; rfl
theorem rcmp_leq (x y : Int) : rcmp .leq x y = decide (x ≤ y) := by unfold rcmp; rfl
theorem rcmp_eql (x y : Int) : rcmp .eql x y = decide (x = y) := by unfold rcmp; rw [Bool.eq_iff_iff, beq_iff_eq, decide_eq_true_eq]
theorem rcmp_neq (x y : Int) : rcmp .neq x y = decide (x ≠ y) := by unfold rcmp; rw [Bool.eq_iff_iff, bne_iff_ne, decide_eq_true_eq]
theorem wrap_i64 {n : Int} (h0 : -9223372036854775808 ≤ n) (h1 : n < 9223372036854775808) : IntKind.i64.wrap n = n := by
  unfold IntKind.wrap; simp [IntKind.bits, IntKind.signed]; omega
theorem wrap_u64 (n : Int) : IntKind.u64.wrap n = n % (18446744073709551616 : Int) := by simp [IntKind.wrap, IntKind.bits, IntKind.signed]
theorem wrap_u32 (n : Int) : IntKind.u32.wrap n = n % (4294967296 : Int) := by simp [IntKind.wrap, IntKind.bits, IntKind.signed]
theorem wrap_u8 (n : Int) : IntKind.u8.wrap n = n % 256 := by simp [IntKind.wrap, IntKind.bits, IntKind.signed]
theorem addi {x y : Int} (h0 : -9223372036854775808 ≤ x + y) (h1 : x + y < 9223372036854775808) : rbin .add .i64 x y = x + y := wrap_i64 h0 h1
theorem subi {x y : Int} (h0 : -9223372036854775808 ≤ x - y) (h1 : x - y < 9223372036854775808) : rbin .sub .i64 x y = x - y := wrap_i64 h0 h1
theorem muli {x y : Int} (h0 : -9223372036854775808 ≤ x * y) (h1 : x * y < 9223372036854775808) : rbin .mul .i64 x y = x * y := wrap_i64 h0 h1
end Go.Eng
