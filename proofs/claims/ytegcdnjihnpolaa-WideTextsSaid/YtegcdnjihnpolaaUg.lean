import Derived.Test.YtegcdnjihnpolaaUf
set_option linter.unusedSimpArgs false
set_option linter.unusedVariables false
namespace Go.Proofs.Ytegcdnjihnpolaa
open Go Go.Eng Go.Proofs Go.RowKit
theorem pv_at (β : Int) (f : F) (k : Nat) : pv β f (k + 1) = pv β f k + f k * β ^ k := rfl
attribute [local irreducible] CallOk HOk Run TIok rbin rcmp run1 words val updF shfF blitF pv V40 nb
theorem pv_upd_ge {β : Int} {p : F} {n j : Nat} {y : Int} (h : n ≤ j) : pv β (updF p j y) n = pv β p n :=
  pv_congr fun i hi => by unfold updF; rw [if_neg (by omega)]

theorem updF_at {p : F} {i j : Nat} {x : Int} : updF p i x j = if j = i then x else p j := by unfold updF; rfl
set_option maxRecDepth 100000 in
theorem ntimes_ok : CallOk Try.prog 74 (sNTimes lnR) := by
  refine .nrm (narI_spec_norm (g := fun f n => (.a (N40 (lnR.ntimes f n)), [lnR.bn f, lnR.ntm n])) (fun l => rfl)) (.of_run (hc := (tn0 lnR).hc) Try.func74 rfl (by kernel_rfl) (by kernel_rfl) fun xs v ps hs hp w => ?_)
  split at hs
  case isFalse => cases hs
  rename_i hnm
  unfold sNTimes at hs
  split at hs
  · rename_i f n h
    obtain rfl := narI_int h hnm
    cases hs
    have hf : bd40 f := hp (lnR.bn f) (by simp)
    have hi : 0 ≤ n ∧ n ≤ 1099511627776 := hp (lnR.ntm n) (by simp)
    clear hp h hnm
    unfold bd40 at hf
    refine run_ex hmix ti_ok tn0_ok 0 false 800 [] (fun ar lf => by conv => lhs; cbv) (allP ?_) ?_
    · trivial
    refine Run.cut [1, 2, 4, 5, 6] [1, 5, 6] 2 (by decide) rfl rfl ?_
    refine Run.loop (ι := {p : Int × F × Int // 0 ≤ p.1 ∧ p.1 ≤ 40 ∧ 0 ≤ p.2.2 ∧ p.2.2 ≤ n ∧ (∀ j, j < p.1.toNat → 0 ≤ p.2.1 j ∧ p.2.1 j < 256) ∧ (∀ j, p.1.toNat ≤ j → p.2.1 j = f j) ∧ pv 256 p.2.1 p.1.toNat + p.2.2 * 256 ^ p.1.toNat = pv 256 f p.1.toNat * n})
      (fun i => ([.any, .a (.one (.int .i64 n)), .a (.one (.ptr 0 (.lit 0))), .any, .a (.one (.ptr 1 (.lit 0))), .a (.one (.int .i64 i.1.2.2)), .a (.one (.int .i64 i.1.1))] ++ List.replicate 18 .any, [some (KN i.1.2.1), some (KN fun _ => 0)]))
      (fun i => (40 - i.1.1).toNat) ⟨(0, f, 0), Int.le_refl 0, show (0 : Int) ≤ 40 by decide, Int.le_refl 0, hi.1, fun j hj => by omega, fun j _ => rfl, ?_⟩ ?_
    · show pv 256 f 0 + 0 * 256 ^ 0 = pv 256 f 0 * n
      unfold pv; omega
    rintro ⟨⟨i, p, c⟩, h0, h1, hc0, hc1, hp1, hp2, hv⟩ ih
    simp only at h0 h1 hc0 hc1 hp1 hp2 hv
    by_cases hn : i < 40
    · have ei : 0 + i.toNat * 1 = i.toNat := by omega
      have eadd : rbin .add .i64 i 1 = i + 1 := rbin_addi (by omega)
      have eni : (i + 1).toNat = i.toNat + 1 := by omega
      have emu : (40 - rbin .add .i64 i 1).toNat < (40 - i).toNat := by rw [eadd]; omega
      have hfi := hf i.toNat (by omega)
      have hpi := hp2 i.toNat (Nat.le_refl _)
      have hm0 : 0 ≤ f i.toNat * n := Int.mul_nonneg hfi.1 hi.1
      have hm1 : f i.toNat * n ≤ 255 * n := Int.mul_le_mul_of_nonneg_right (by omega) hi.1
      have emul : rbin .mul .i64 (p i.toNat) n = f i.toNat * n := by rw [hpi]; exact rbin_muli (by omega)
      have esum : rbin .add .i64 c (f i.toNat * n) = c + f i.toNat * n := rbin_addi (by omega)
      have eT : ∀ x, x = 0 + i.toNat * 1 → rbin .add .i64 c (rbin .mul .i64 (p x) n) = c + f i.toNat * n := by
        intro x hx; rw [hx, ei, emul, esum]
      have erem : rbin .rem .i64 (c + f i.toNat * n) 256 = (c + f i.toNat * n) % 256 := rbin_remi (by omega)
      have equo : rbin .quo .i64 (c + f i.toNat * n) 256 = (c + f i.toNat * n) / 256 := rbin_quoi (by omega) (by omega) (by decide)
      refine run_ex hmix ti_ok tn0_ok 2 false 800 [true] (fun ar lf => by conv => lhs; cbv) (allP ?_) ?_
      · simp only [conj, arR, N.val, rcmp_lss', ei, decide_eq_true_eq]
        and_intros <;> first | trivial | omega
      · refine Run.cut [1, 2, 4, 5, 6] [1, 5, 6] 2 (by decide) rfl rfl ?_
        refine ih ⟨(_, _, _), ?_, ?_, ?_, ?_, ?_, ?_, ?_⟩ emu _ _
        · simp only [eadd]; omega
        · simp only [eadd]; omega
        · simp only [arR, N.val, ei, emul, esum, equo]; omega
        · simp only [arR, N.val, ei, emul, esum, equo]; omega
        · simp only [arR, N.val, ei, emul, esum, erem, eadd, eni]
          intro j hj
          rw [updF_at]
          split
          · omega
          · exact hp1 j (by omega)
        · simp only [arR, N.val, ei, emul, esum, erem, eadd, eni]
          intro j hj
          rw [updF_at, if_neg (by omega)]
          exact hp2 j (by omega)
        · simp only [arR, N.val, ei, emul, esum, erem, equo, eadd, eni]
          rw [pv_at, pv_upd_ge (Nat.le_refl _), updF_same, pv_at, Int.add_mul, ← hv, Int.pow_succ]
          have hT := Int.emod_add_mul_ediv (c + f i.toNat * n) 256
          generalize (c + f i.toNat * n) % 256 = r at *
          generalize (c + f i.toNat * n) / 256 = q at *
          grind
    · obtain rfl : i = 40 := by omega
      refine run_ex hmix ti_ok tn0_ok 2 false 800 [false] (fun ar lf => by conv => lhs; cbv) (allP ?_) ?_
      · simp only [conj, arR, rcmp_lss']
        decide
      · refine Run.ret ti_ok rfl rfl (.a (.ints fun j hj => ?_))
        show p j = nb (V40 f * n) j
        have e : V40 f * n = V40 p + c * 256 ^ 40 := by unfold V40; exact hv.symm
        have hj : j < 40 := hj
        rw [e, nb_add _ _ hj]
        exact nb_V40 (by unfold bd40; exact hp1) j hj
  · cases hs

set_option maxRecDepth 100000 in
theorem nminus_ok : CallOk Try.prog 75 (sNMinus lnR) := by
  refine .of_run (hc := (tn0 lnR).hc) Try.func75 rfl (by kernel_rfl) (by kernel_rfl) fun xs v ps hs hp w => ?_
  unfold sNMinus at hs
  split at hs
  · rename_i f g h
    obtain rfl := nar2_some h
    cases hs
    have hf : bd40 f := hp (lnR.bn f) (by simp)
    have hg : bd40 g := hp (lnR.bn g) (by simp)
    have hle : V40 g ≤ V40 f := hp (lnR.nle g f) (by simp)
    clear hp h
    have hfb := V40_bd hf
    have hgb := V40_bd hg
    unfold bd40 at hf hg
    refine run_ex hmix ti_ok tn0_ok 0 false 800 [] (fun ar lf => by conv => lhs; cbv) (allP ?_) ?_
    · trivial
    refine Run.cut [2, 3, 4, 5, 6] [5, 6] 3 (by decide) rfl rfl ?_
    refine Run.loop (ι := {p : Int × F × Int // 0 ≤ p.1 ∧ p.1 ≤ 40 ∧ 0 ≤ p.2.2 ∧ p.2.2 ≤ 1 ∧ (∀ j, j < p.1.toNat → 0 ≤ p.2.1 j ∧ p.2.1 j < 256) ∧ (∀ j, p.1.toNat ≤ j → p.2.1 j = f j) ∧ pv 256 p.2.1 p.1.toNat - p.2.2 * 256 ^ p.1.toNat = pv 256 f p.1.toNat - pv 256 g p.1.toNat})
      (fun i => ([.any, .any, .a (.one (.ptr 0 (.lit 0))), .a (.one (.ptr 1 (.lit 0))), .a (.one (.ptr 2 (.lit 0))), .a (.one (.int .i64 i.1.2.2)), .a (.one (.int .i64 i.1.1))] ++ List.replicate 24 .any, [some (KN i.1.2.1), some (KN g), some (KN fun _ => 0)]))
      (fun i => (40 - i.1.1).toNat) ⟨(0, f, 0), Int.le_refl 0, show (0 : Int) ≤ 40 by decide, Int.le_refl 0, show (0 : Int) ≤ 1 by decide, fun j hj => by omega, fun j _ => rfl, ?_⟩ ?_
    · show pv 256 f 0 - 0 * 256 ^ 0 = pv 256 f 0 - pv 256 g 0
      unfold pv; omega
    rintro ⟨⟨i, p, c⟩, h0, h1, hc0, hc1, hp1, hp2, hv⟩ ih
    simp only at h0 h1 hc0 hc1 hp1 hp2 hv
    by_cases hn : i < 40
    · have ei : 0 + i.toNat * 1 = i.toNat := by omega
      have eadd : rbin .add .i64 i 1 = i + 1 := rbin_addi (by omega)
      have eni : (i + 1).toNat = i.toNat + 1 := by omega
      have emu : (40 - rbin .add .i64 i 1).toNat < (40 - i).toNat := by rw [eadd]; omega
      have hfi := hf i.toNat (by omega)
      have hgi := hg i.toNat (by omega)
      have hpi := hp2 i.toNat (Nat.le_refl _)
      have es : rbin .add .i64 (g i.toNat) c = g i.toNat + c := rbin_addi (by omega)
      have ed : rbin .sub .i64 (p i.toNat) (g i.toNat + c) = f i.toNat - (g i.toNat + c) := by rw [hpi]; exact rbin_subi (by omega)
      by_cases hx : f i.toNat - (g i.toNat + c) < 0
      · have ea : rbin .add .i64 (f i.toNat - (g i.toNat + c)) 256 = f i.toNat - (g i.toNat + c) + 256 := rbin_addi (by omega)
        refine run_ex hmix ti_ok tn0_ok 2 false 800 [true, true] (fun ar lf => by conv => lhs; cbv) (allP ?_) ?_
        · simp only [conj, arR, N.val, rcmp_lss', ei, es, ed, updF_same, decide_eq_true_eq]
          and_intros <;> first | trivial | omega
        · refine Run.cut [2, 3, 4, 5, 6] [5, 6] 3 (by decide) rfl rfl ?_
          refine ih ⟨(_, _, _), ?_, ?_, ?_, ?_, ?_, ?_, ?_⟩ emu _ _
          · simp only [eadd]; omega
          · simp only [eadd]; omega
          · exact Int.zero_le_ofNat 1
          · exact Int.le_refl 1
          · simp only [arR, N.val, ei, es, ed, ea, eadd, eni, updF_same]
            intro j hj
            rw [updF_at]
            split
            · omega
            · rw [updF_at, if_neg (by omega)]; exact hp1 j (by omega)
          · simp only [arR, N.val, ei, es, ed, ea, eadd, eni, updF_same]
            intro j hj
            rw [updF_at, if_neg (by omega), updF_at, if_neg (by omega)]
            exact hp2 j (by omega)
          · simp only [arR, N.val, ei, es, ed, ea, eadd, eni, updF_same]
            rw [pv_at, pv_upd_ge (Nat.le_refl _), pv_upd_ge (Nat.le_refl _), updF_same, pv_at, pv_at, Int.pow_succ]
            grind
      · refine run_ex hmix ti_ok tn0_ok 2 false 800 [true, false] (fun ar lf => by conv => lhs; cbv) (allP ?_) ?_
        · simp only [conj, arR, N.val, rcmp_lss', ei, es, ed, updF_same, decide_eq_true_eq, decide_eq_false_iff_not]
          and_intros <;> first | trivial | omega
        · refine Run.cut [2, 3, 4, 5, 6] [5, 6] 3 (by decide) rfl rfl ?_
          refine ih ⟨(_, _, _), ?_, ?_, ?_, ?_, ?_, ?_, ?_⟩ emu _ _
          · simp only [eadd]; omega
          · simp only [eadd]; omega
          · exact Int.le_refl 0
          · exact Int.zero_le_ofNat 1
          · simp only [arR, N.val, ei, es, ed, eadd, eni, updF_same]
            intro j hj
            rw [updF_at]
            split
            · omega
            · exact hp1 j (by omega)
          · simp only [arR, N.val, ei, es, ed, eadd, eni, updF_same]
            intro j hj
            rw [updF_at, if_neg (by omega)]
            exact hp2 j (by omega)
          · simp only [arR, N.val, ei, es, ed, eadd, eni, updF_same]
            rw [pv_at, pv_upd_ge (Nat.le_refl _), updF_same, pv_at, pv_at, Int.pow_succ]
            grind
    · obtain rfl : i = 40 := by omega
      refine run_ex hmix ti_ok tn0_ok 2 false 800 [false] (fun ar lf => by conv => lhs; cbv) (allP ?_) ?_
      · simp only [conj, arR, rcmp_lss']
        decide
      · refine Run.ret ti_ok rfl rfl (.a (.ints fun j hj => ?_))
        show p j = nb (V40 f - V40 g) j
        have hj : j < 40 := hj
        have hpb : bd40 p := by unfold bd40; exact hp1
        have hpv := V40_bd hpb
        have e : V40 p - c * 256 ^ 40 = V40 f - V40 g := by unfold V40; exact hv
        have hc : c = 0 := by
          have e2 : (256 : Int) ^ 40 = p2 320 := pow256 40
          have : c = 0 ∨ c = 1 := by omega
          rcases this with h | h
          · exact h
          · rw [h, e2] at e; omega
        rw [hc] at e
        rw [show V40 f - V40 g = V40 p by omega]
        exact nb_V40 hpb j hj
  · cases hs
end Go.Proofs.Ytegcdnjihnpolaa
