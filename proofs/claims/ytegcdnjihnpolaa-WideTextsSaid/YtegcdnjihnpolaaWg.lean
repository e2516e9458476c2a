import Derived.Test.YtegcdnjihnpolaaWf
set_option linter.unusedSimpArgs false
set_option linter.unusedVariables false
namespace Go.Eng
open Go
def V.norm : V → V
  | .a x => .a x.norm
  | v => v
theorem V.norm_rel {ρ : Ren} {x : V} {v : Value} (h : VRel ρ x v) : VRel ρ x.norm v := by
  cases x with
  | a x => exact A.norm_rel h
  | tup xs => exact h
  | any => exact h
def normT (ns : List Nat) : Nat → List V → List V
  | _, [] => []
  | i, v :: l => (if ns.contains i then v.norm else v) :: normT ns (i + 1) l
theorem normT_get {ns : List Nat} : ∀ {l : List V} {i j : Nat} {x : V}, (normT ns i l)[j]? = some x → ∃ y, l[j]? = some y ∧ (x = y ∨ x = y.norm)
  | [], i, j, x, h => by simp [normT] at h
  | v :: l, i, 0, x, h => by
    simp only [normT, List.getElem?_cons_zero, Option.some.injEq] at h
    refine ⟨v, rfl, ?_⟩
    split at h
    · exact .inr h.symm
    · exact .inl h.symm
  | v :: l, i, j + 1, x, h => by
    simp only [normT, List.getElem?_cons_succ] at h
    exact normT_get (l := l) (i := i + 1) (j := j) h
theorem normT_len {ns : List Nat} : ∀ {l : List V} {i : Nat}, (normT ns i l).length = l.length
  | [], _ => rfl
  | v :: l, i => by simp [normT, normT_len]
def G.norm : G → G
  | .lst cs => .lst (cs.map C.norm)
  | g => g
theorem C.norm_rel {ρ : Ren} {x : C} {v : Value} (h : CRel ρ x v) : CRel ρ x.norm v := by
  cases x <;> exact h
def normH : Heap → Heap := List.map (Option.map fun b => { b with g := b.g.norm })
section
variable {P : Program} {hc : FuncId → Bool} {W0 : World} {m0 : Nat} {fn : Func} {R : V → Heap → Prop}
theorem normH_get {h : Heap} {n : Nat} {b : Blk} (hb : (normH h)[n]? = some (some b)) : ∃ b', h[n]? = some (some b') ∧ b.ro = b'.ro ∧ b.g = b'.g.norm := by
  simp only [normH, List.getElem?_map, Option.map_eq_some_iff] at hb
  obtain ⟨x, h1, h2⟩ := hb
  obtain ⟨b', rfl, h3⟩ := h2
  exact ⟨b', h1, by rw [← h3], by rw [← h3]⟩
theorem Run.norm {t : List V} {h : Heap} {T : List Item} {o o' : List Prop} {s s' : List Bool} (ns : List Nat) (hr : Run P hc W0 m0 fn R ⟨normT ns 0 t, normH h, T, o, s⟩) : Run P hc W0 m0 fn R ⟨t, h, T, o', s'⟩ := by
  intro hok hm ρ tmps w b cs hT hH
  refine hr hok (by simpa [normH] using hm) ρ tmps w b cs ⟨by rw [hT.1]; simp [normT_len], fun j x hx => ?_⟩ ?_
  · obtain ⟨y, hy, hxy⟩ := normT_get hx
    obtain ⟨v, h1, h2⟩ := hT.2 j y hy
    rcases hxy with rfl | rfl
    · exact ⟨v, h1, h2⟩
    · exact ⟨v, h1, V.norm_rel h2⟩
  · refine ⟨hH.os, hH.tape, hH.output, hH.size, fun k hk hno => ?_, fun k p hk => ?_, fun k bb hk => ?_, fun k m r oo oo' bb hne hk hro e1 e2 => ?_, fun k r oo hk e => hH.new k r oo hk e⟩
    · refine hH.frame k hk fun n bb oo hn hro e => ?_
      exact hno n { bb with g := bb.g.norm } oo (by simp only [normH, List.getElem?_map]; simp only at hn; rw [hn]; rfl) hro e
    · obtain ⟨bb, hb⟩ := hH.dom k p hk
      exact ⟨{ bb with g := bb.g.norm }, by simp only [normH, List.getElem?_map]; simp only at hb; rw [hb]; rfl⟩
    · obtain ⟨b', h1, h2, h3⟩ := normH_get hk
      obtain ⟨r, oo, e, c, ty, fz, q1, q2, q3⟩ := hH.blk k b' h1
      refine ⟨r, oo, e, c, ty, fz, q1, fun hr => q2 (by rw [← h2]; exact hr), fun j x hx => ?_⟩
      rw [h3] at hx
      cases hg : b'.g with
      | lst l =>
        rw [hg] at hx q3
        simp only [G.norm, G.at, List.getElem?_map, Option.map_eq_some_iff] at hx
        obtain ⟨y, hy, rfl⟩ := hx
        obtain ⟨v, a1, a2⟩ := q3 j y hy
        exact ⟨v, a1, C.norm_rel a2⟩
      | ints k n f =>
        rw [hg] at hx q3
        exact q3 j x hx
    · obtain ⟨b', h1, h2, h3⟩ := normH_get hk
      exact hH.sep k m r oo oo' b' hne h1 (by rw [← h2]; exact hro) e1 e2
/-- forgetting, and numerals taken as numbers -/
theorem Run.cut {c : Cfg} (keep ns : List Nat) (n : Nat) (hn : m0 ≤ n) (hT : (keepT keep 0 c.tmps).all (okV n) = true) (hB : (c.heap.take n).all (okB n) = true)
    (h : Run P hc W0 m0 fn R ⟨normT ns 0 (keepT keep 0 c.tmps), normH (c.heap.take n), c.todo, [], []⟩) : Run P hc W0 m0 fn R c :=
  Run.forget keep n hn hT hB (Run.norm ns h)
end
end Go.Eng
namespace Go.Proofs.Ytegcdnjihnpolaa
open Go Go.Eng Go.Proofs Go.RowKit
attribute [local irreducible] CallOk HOk Run TIok rbin rcmp run1 words val updF shfF blitF
theorem wbit_t {f : F} {n : Int} (h0 : 0 ≤ n) (h1 : n < 256) : lfR.wbit f n = true ↔ val f / p2 n.toNat % 2 = 1 := by
  show decide _ = true ↔ _
  rw [decide_eq_true_eq]
  exact ⟨fun h => h.2.2, fun h => ⟨h0, h1, h⟩⟩
theorem rcmp_geq (x y : Int) : rcmp .geq x y = decide (x ≥ y) := by unfold rcmp; rfl
theorem rcmp_lss (x y : Int) : rcmp .lss x y = decide (x < y) := by unfold rcmp; rfl
theorem rcmp_gtr (x y : Int) : rcmp .gtr x y = decide (x > y) := by unfold rcmp; rfl
theorem rcmp_leq (x y : Int) : rcmp .leq x y = decide (x ≤ y) := by unfold rcmp; rfl
theorem rcmp_eql (x y : Int) : rcmp .eql x y = decide (x = y) := by unfold rcmp; rw [Bool.eq_iff_iff, beq_iff_eq, decide_eq_true_eq]
theorem rcmp_neq (x y : Int) : rcmp .neq x y = decide (x ≠ y) := by unfold rcmp; rw [Bool.eq_iff_iff, bne_iff_ne, decide_eq_true_eq]

/-- under 2 to the n, where bit n is not there -/
theorem bit_clear {v : Int} {n : Nat} (h0 : 0 ≤ v) (h1 : v < p2 (n + 1)) (hb : ¬ v / p2 n % 2 = 1) : v < p2 n := by
  have hp := p2_pos n
  rw [p2_succ] at h1
  have h2 : v / p2 n < 2 := Int.ediv_lt_of_lt_mul hp (by omega)
  have h3 : 0 ≤ v / p2 n := Int.ediv_nonneg h0 (by omega)
  have h4 : v / p2 n = 0 := by omega
  have e := Int.emod_add_mul_ediv v (p2 n)
  have := Int.emod_lt_of_pos v hp
  rw [h4] at e
  omega
theorem bit_set {v : Int} {n : Nat} (h0 : 0 ≤ v) (hb : v / p2 n % 2 = 1) : p2 n ≤ v := by
  have hp := p2_pos n
  by_cases h : v < p2 n
  · rw [Int.ediv_eq_zero_of_lt h0 h] at hb; omega
  · omega

theorem rbits_ok : CallOk Try.prog 19 (sBits lfR) := by
  refine .of_run (hc := (tb2 lfR).hc) Try.func19 rfl (by kernel_rfl) (by kernel_rfl) fun xs v ps hs hp w => ?_
  unfold sBits at hs
  split at hs
  · rename_i f h
    obtain rfl := arr1_some h
    cases hs
    have hf : bd f := hp (lfR.bd f) (by simp)
    have hv := val_bd hf
    clear hp h
    refine run_ex hmix ti_ok tb2_ok 0 false 400 [] (fun ar lf => by conv => lhs; cbv) (allP ?_) ?_
    · trivial
    · refine Run.cut [1, 3] [3] 1 (by decide) rfl rfl ?_
      refine Run.loop (ι := {n : Int // -1 ≤ n ∧ n ≤ 255 ∧ val f < p2 (n + 1).toNat})
        (fun i => ([.any, .a (.one (.ptr 0 (.lit 0))), .any, .a (.one (.int .i64 i.1)), .any, .any, .any, .any, .any, .any, .any, .any, .any], [some ⟨false, .ints .u64 (.lit 4) f⟩]))
        (fun i => (i.1 + 1).toNat) ⟨255, by decide, by decide, by rw [show (255 + 1 : Int).toNat = 256 from rfl, p2_256]; exact hv.2⟩ ?_
      rintro ⟨n, h0, h1, h2⟩ ih
      by_cases hn : 0 ≤ n
      · have en : (n + 1).toNat = n.toNat + 1 := by omega
        rw [en] at h2
        by_cases hb : lfR.wbit f n = true
        · refine run_ex hmix ti_ok tb2_ok 2 false 400 [true, true] (fun ar lf => by conv => lhs; cbv) (allP ?_) ?_
          · simp only [conj, arR, rcmp_geq, decide_eq_true_eq]
            exact ⟨hb, hf, ⟨by omega, by omega⟩, by omega, trivial⟩
          · refine Run.ret ti_ok rfl rfl ?_
            refine .a (.int ?_)
            rw [wbit_t hn (by omega)] at hb
            show rbin _ _ _ _ = ((bitLen (val f).toNat : Nat) : Int)
            rw [bitLen_of (bit_set hv.1 hb) h2, rbin_addi (by omega)]
            omega
        · refine run_ex hmix ti_ok tb2_ok 2 false 400 [true, false] (fun ar lf => by conv => lhs; cbv) (allP ?_) ?_
          · simp only [conj, arR, rcmp_geq, decide_eq_true_eq]
            exact ⟨by simpa using hb, hf, ⟨by omega, by omega⟩, by omega, trivial⟩
          · refine Run.cut [1, 3] [] 1 (by decide) rfl rfl ?_
            rw [wbit_t hn (by omega)] at hb
            refine ih ⟨_, ?_⟩ ?_ _ _
            · rw [rbin_subi (by omega)]
              refine ⟨by omega, by omega, ?_⟩
              rw [show n - 1 + 1 = n by omega]
              exact bit_clear hv.1 h2 hb
            · show (rbin .sub .i64 n 1 + 1).toNat < (n + 1).toNat
              rw [rbin_subi (by omega)]; omega
      · obtain rfl : n = -1 := by omega
        refine run_ex hmix ti_ok tb2_ok 2 false 400 [false] (fun ar lf => by conv => lhs; cbv) (allP ?_) ?_
        · simp only [conj, arR, rcmp_geq]
          decide
        · refine Run.ret ti_ok rfl rfl ?_
          refine .a (.lit ?_)
          have e : val f = 0 := by
            have : p2 (-1 + 1 : Int).toNat = 1 := rfl
            omega
          show 0 = ((bitLen (val f).toNat : Nat) : Int)
          rw [e]; rfl
  · cases hs
end Go.Proofs.Ytegcdnjihnpolaa
