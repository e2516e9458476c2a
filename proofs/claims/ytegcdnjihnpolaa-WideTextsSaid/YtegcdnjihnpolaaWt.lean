import Derived.Test.YtegcdnjihnpolaaWn
set_option linter.unusedSimpArgs false
set_option linter.unusedVariables false
namespace Go.Proofs.Ytegcdnjihnpolaa
open Go Go.Eng Go.Proofs Go.RowKit
attribute [local irreducible] CallOk HOk Run TIok rbin rcmp run1 words val updF shfF blitF

/-- the carries of a sum -/
def cf (f g : F) : Nat → Int
  | 0 => 0
  | j + 1 => (f j + g j + cf f g j) / (18446744073709551616 : Int)
theorem cf_01 {f g : F} (hf : bd f) (hg : bd g) : ∀ j, j ≤ 4 → 0 ≤ cf f g j ∧ cf f g j ≤ 1
  | 0, _ => ⟨Int.le_refl 0, show (0 : Int) ≤ 1 by decide⟩
  | j + 1, h => by
    have h1 := cf_01 hf hg j (by omega)
    have h2 := hf j (by omega)
    have h3 := hg j (by omega)
    simp only [cf]
    omega
theorem sum_words {f g : F} (hf : bd f) (hg : bd g) : (∀ j, j < 4 → words (val f + val g) j = (f j + g j + cf f g j) % (18446744073709551616 : Int)) ∧ (cf f g 4 ≠ 0 ↔ (115792089237316195423570985008687907853269984665640564039457584007913129639936 : Int) ≤ val f + val g) := by
  obtain ⟨⟨e0, e1, e2, e3⟩, -, -, -, b3⟩ := add_words hf hg _ _ _ _ rfl rfl rfl rfl
  exact ⟨four e0 e1 e2 e3, b3⟩

set_option maxRecDepth 100000 in
theorem radd_ok : CallOk Try.prog 27 (sAdd lfR) := by
  refine .of_run (hc := (tb1 lfR).hc) Try.func27 rfl (by kernel_rfl) (by kernel_rfl) fun xs v ps hs hp w => ?_
  unfold sAdd at hs
  split at hs
  · rename_i f g h
    obtain rfl := arr2_some h
    cases hs
    have hf : bd f := hp (lfR.bd f) (by simp)
    have hg : bd g := hp (lfR.bd g) (by simp)
    clear hp h
    obtain ⟨hw, hov⟩ := sum_words hf hg
    refine run_ex hmix ti_ok tb1_ok 0 false 800 [] (fun ar lf => by conv => lhs; cbv) (allP ?_) ?_
    · trivial
    refine Run.cut [2, 3, 4, 6, 7, 8] [7, 8] 4 (by decide) rfl rfl ?_
    refine Run.loop (ι := {p : Int × F × Int // 0 ≤ p.1 ∧ p.1 ≤ 4 ∧ (∀ j, j < p.1.toNat → p.2.1 j = (f j + g j + cf f g j) % (18446744073709551616 : Int)) ∧ p.2.2 = cf f g p.1.toNat})
      (fun i => ([.any, .any, .a (.one (.ptr 0 (.lit 0))), .a (.one (.ptr 1 (.lit 0))), .a (.one (.ptr 2 (.lit 0))), .any, .a (.one (.ptr 3 (.lit 0))), .a (.one (.int .u64 i.1.2.2)), .a (.one (.int .i64 i.1.1))] ++ List.replicate 33 .any,
        [some (K4 f), some (K4 g), some (K4 fun _ => 0), some (K4 i.1.2.1)]))
      (fun i => (4 - i.1.1).toNat) ⟨(0, fun _ => 0, 0), by decide, by decide, fun j hj => by simp at hj, rfl⟩ ?_
    rintro ⟨⟨i, q, c⟩, h0, h1, hq, hc⟩ ih
    simp only at h0 h1 hq hc
    by_cases hn : i < 4
    · have en : (i + 1).toNat = i.toNat + 1 := by omega
      have hfi := hf i.toNat (by omega)
      have hgi := hg i.toNat (by omega)
      have hc1 := cf_01 hf hg i.toNat (by omega)
      rw [← hc] at hc1
      have eadd : rbin .add .i64 i 1 = i + 1 := rbin_addi (by omega)
      have emu : (4 - rbin .add .i64 i 1).toNat < (4 - i).toNat := by rw [eadd]; omega
      have hcf : cf f g (i.toNat + 1) = (f i.toNat + g i.toNat + c) / (18446744073709551616 : Int) := by rw [hc]; rfl
      have hout : ∀ n y, n = i.toNat → y = (f i.toNat + g i.toNat + c) % (18446744073709551616 : Int) → ∀ j, j < i.toNat + 1 → updF q n y j = (f j + g j + cf f g j) % (18446744073709551616 : Int) := by
        intro n y hni hy j hj
        subst hni
        unfold updF
        split
        · rename_i e; subst e; rw [hy, hc]
        · exact hq j (by omega)
      have ei : (0 + i.toNat * 1) = i.toNat := by omega
      by_cases hx : (f i.toNat + c) % (18446744073709551616 : Int) < f i.toNat
      · refine run_ex hmix ti_ok tb1_ok 2 false 800 [true, true] (fun ar lf => by conv => lhs; cbv) (allP ?_) ?_
        · simp only [conj, arR, N.val, ei, rcmp_lss, rbin_add, decide_eq_true_eq]
          and_intros <;> first | trivial | omega
        · refine Run.cut [2, 3, 4, 6, 7, 8] [7] 4 (by decide) rfl rfl ?_
          refine ih ⟨(_, _, _), ?_, ?_, ?_, ?_⟩ emu _ _
          · simp only [eadd]; omega
          · simp only [eadd]; omega
          · simp only [eadd, en]
            refine hout _ _ ei ?_
            simp only [arR, N.val, ei, rbin_add]
            omega
          · simp only [eadd, en, hcf]; omega
      · by_cases hy : ((f i.toNat + c) % (18446744073709551616 : Int) + g i.toNat) % (18446744073709551616 : Int) < (f i.toNat + c) % (18446744073709551616 : Int)
        · refine run_ex hmix ti_ok tb1_ok 2 false 800 [true, false, true] (fun ar lf => by conv => lhs; cbv) (allP ?_) ?_
          · simp only [conj, arR, N.val, ei, rcmp_lss, rbin_add, decide_eq_true_eq, decide_eq_false_iff_not]
            and_intros <;> first | trivial | omega
          · refine Run.cut [2, 3, 4, 6, 7, 8] [7] 4 (by decide) rfl rfl ?_
            refine ih ⟨(_, _, _), ?_, ?_, ?_, ?_⟩ emu _ _
            · simp only [eadd]; omega
            · simp only [eadd]; omega
            · simp only [eadd, en]
              refine hout _ _ ei ?_
              simp only [arR, N.val, ei, rbin_add]
              omega
            · simp only [eadd, en, hcf]; omega
        · refine run_ex hmix ti_ok tb1_ok 2 false 800 [true, false, false] (fun ar lf => by conv => lhs; cbv) (allP ?_) ?_
          · simp only [conj, arR, N.val, ei, rcmp_lss, rbin_add, decide_eq_true_eq, decide_eq_false_iff_not]
            and_intros <;> first | trivial | omega
          · refine Run.cut [2, 3, 4, 6, 7, 8] [7] 4 (by decide) rfl rfl ?_
            refine ih ⟨(_, _, _), ?_, ?_, ?_, ?_⟩ emu _ _
            · simp only [eadd]; omega
            · simp only [eadd]; omega
            · simp only [eadd, en]
              refine hout _ _ ei ?_
              simp only [arR, N.val, ei, rbin_add]
              omega
            · simp only [eadd, en, hcf]; omega
    · obtain rfl : i = 4 := by omega
      have hc1 := cf_01 hf hg 4 (by omega)
      rw [show (4 : Int).toNat = 4 from rfl] at hq hc
      refine run_ex hmix ti_ok tb1_ok 2 false 800 [false] (fun ar lf => by conv => lhs; cbv) (allP ?_) ?_
      · simp only [conj, arR, rcmp_lss]
        decide
      · refine Run.ret ti_ok rfl rfl (.tup2 (.ints fun j hj => ?_) (.bool ?_))
        · rw [hq j hj]; exact (hw j hj).symm
        · show rcmp .eql c 1 = decide _
          rw [rcmp_eql, Bool.eq_iff_iff, decide_eq_true_eq, decide_eq_true_eq, ← hov, hc]
          omega
  · cases hs

theorem rnot_ok : CallOk Try.prog 54 (sNot lfR) := by
  refine .eval (tb := tb1) hmix ti_ok tb1_ok Try.func54 rfl (by kernel_rfl) (by kernel_rfl) fun xs v ps hs hp => ?_
  unfold sNot at hs
  split at hs
  · rename_i f h
    obtain rfl := arr1_some h
    cases hs
    have hf : bd f := hp (lfR.bd f) (by simp)
    obtain ⟨e0, e1, e2, e3⟩ := not_words hf
    have := hf.at
    refine ⟨400, [], _, fun ar lf => by conv => lhs; cbv, ?_, ?_⟩
    · refine allP ?_
      simp only [conj]
    · refine .a (.ints (four ?_ ?_ ?_ ?_))
      · show rbin .sub .u64 18446744073709551615 (f 0) = words _ 0
        rw [rbin_sub, e0]; omega
      · show rbin .sub .u64 18446744073709551615 (f 1) = words _ 1
        rw [rbin_sub, e1]; omega
      · show rbin .sub .u64 18446744073709551615 (f 2) = words _ 2
        rw [rbin_sub, e2]; omega
      · show rbin .sub .u64 18446744073709551615 (f 3) = words _ 3
        rw [rbin_sub, e3]; omega
  · cases hs

theorem wcmp_lt {f g : F} (h : val f < val g) : lfR.wcmp f g = -1 := by
  show (if val f < val g then (-1 : Int) else if val g < val f then 1 else 0) = -1
  rw [if_pos h]
theorem wcmp_gt {f g : F} (h : val g < val f) : lfR.wcmp f g = 1 := by
  show (if val f < val g then (-1 : Int) else if val g < val f then 1 else 0) = 1
  rw [if_neg (by omega), if_pos h]
theorem wcmp_eq {f g : F} (h : val g = val f) : lfR.wcmp f g = 0 := by
  show (if val f < val g then (-1 : Int) else if val g < val f then 1 else 0) = 0
  rw [if_neg (by omega), if_neg (by omega)]

set_option maxRecDepth 100000 in
theorem rcmp_ok : CallOk Try.prog 52 (sCmp lfR) := by
  refine .eval (tb := tb1) hmix ti_ok tb1_ok Try.func52 rfl (by kernel_rfl) (by kernel_rfl) fun xs v ps hs hp => ?_
  unfold sCmp at hs
  split at hs
  · rename_i f g h
    obtain rfl := arr2_some h
    cases hs
    have hf : bd f := hp (lfR.bd f) (by simp)
    have hg : bd g := hp (lfR.bd g) (by simp)
    have b1 := hf.at
    have b2 := hg.at
    have hv : ∀ f : F, val f = f 0 + 18446744073709551616 * (f 1 + 18446744073709551616 * (f 2 + 18446744073709551616 * f 3)) := fun f => by unfold val; rfl
    by_cases l3 : f 3 < g 3
    · refine ⟨800, [true], _, fun ar lf => by conv => lhs; cbv, allP ?_, .a (.lit (wcmp_lt ?_).symm)⟩
      · simp only [conj, arR, N.val, rcmp_lss, rcmp_gtr, decide_eq_true_eq, decide_eq_false_iff_not]
        and_intros <;> first | trivial | omega
      · rw [hv, hv]; omega
    by_cases g3 : g 3 < f 3
    · refine ⟨800, [false, true], _, fun ar lf => by conv => lhs; cbv, allP ?_, .a (.lit (wcmp_gt ?_).symm)⟩
      · simp only [conj, arR, N.val, rcmp_lss, rcmp_gtr, decide_eq_true_eq, decide_eq_false_iff_not]
        and_intros <;> first | trivial | omega
      · rw [hv, hv]; omega
    by_cases l2 : f 2 < g 2
    · refine ⟨800, [false, false, true], _, fun ar lf => by conv => lhs; cbv, allP ?_, .a (.lit (wcmp_lt ?_).symm)⟩
      · simp only [conj, arR, N.val, rcmp_lss, rcmp_gtr, decide_eq_true_eq, decide_eq_false_iff_not]
        and_intros <;> first | trivial | omega
      · rw [hv, hv]; omega
    by_cases g2 : g 2 < f 2
    · refine ⟨800, [false, false, false, true], _, fun ar lf => by conv => lhs; cbv, allP ?_, .a (.lit (wcmp_gt ?_).symm)⟩
      · simp only [conj, arR, N.val, rcmp_lss, rcmp_gtr, decide_eq_true_eq, decide_eq_false_iff_not]
        and_intros <;> first | trivial | omega
      · rw [hv, hv]; omega
    by_cases l1 : f 1 < g 1
    · refine ⟨800, [false, false, false, false, true], _, fun ar lf => by conv => lhs; cbv, allP ?_, .a (.lit (wcmp_lt ?_).symm)⟩
      · simp only [conj, arR, N.val, rcmp_lss, rcmp_gtr, decide_eq_true_eq, decide_eq_false_iff_not]
        and_intros <;> first | trivial | omega
      · rw [hv, hv]; omega
    by_cases g1 : g 1 < f 1
    · refine ⟨800, [false, false, false, false, false, true], _, fun ar lf => by conv => lhs; cbv, allP ?_, .a (.lit (wcmp_gt ?_).symm)⟩
      · simp only [conj, arR, N.val, rcmp_lss, rcmp_gtr, decide_eq_true_eq, decide_eq_false_iff_not]
        and_intros <;> first | trivial | omega
      · rw [hv, hv]; omega
    by_cases l0 : f 0 < g 0
    · refine ⟨800, [false, false, false, false, false, false, true], _, fun ar lf => by conv => lhs; cbv, allP ?_, .a (.lit (wcmp_lt ?_).symm)⟩
      · simp only [conj, arR, N.val, rcmp_lss, rcmp_gtr, decide_eq_true_eq, decide_eq_false_iff_not]
        and_intros <;> first | trivial | omega
      · rw [hv, hv]; omega
    by_cases g0 : g 0 < f 0
    · refine ⟨800, [false, false, false, false, false, false, false, true], _, fun ar lf => by conv => lhs; cbv, allP ?_, .a (.lit (wcmp_gt ?_).symm)⟩
      · simp only [conj, arR, N.val, rcmp_lss, rcmp_gtr, decide_eq_true_eq, decide_eq_false_iff_not]
        and_intros <;> first | trivial | omega
      · rw [hv, hv]; omega
    · refine ⟨800, [false, false, false, false, false, false, false, false], _, fun ar lf => by conv => lhs; cbv, allP ?_, .a (.lit (wcmp_eq ?_).symm)⟩
      · simp only [conj, arR, N.val, rcmp_lss, rcmp_gtr, decide_eq_true_eq, decide_eq_false_iff_not]
        and_intros <;> first | trivial | omega
      · rw [hv, hv]; omega
  · cases hs

def tb11 (lf : LF) : Tbl := tbL [(27, sAdd lf), (54, sNot lf), (52, sCmp lf)] []
theorem tb11_ok : TblOk Try.prog (tb11 lfR) := tbL_ok (by simpa using ⟨radd_ok, rnot_ok, rcmp_ok⟩) (by simp)
theorem wsub_eq {f g one : F} (h1 : val one = 1) : ∀ j, j < 4 → lfR.wadd (lfR.wadd f (lfR.wnot g)) one j = lfR.wsub f g j := by
  show ∀ j, j < 4 → words (val (words (val f + val (words (-1 - val g)))) + val one) j = words (val f - val g) j
  rw [h1, val_words, val_words]
  exact words_congr (by omega)

set_option maxRecDepth 100000 in
theorem rsub_ok : CallOk Try.prog 48 (sSub lfR) := by
  refine .eval (tb := tb11) hmix ti_ok tb11_ok Try.func48 rfl (by kernel_rfl) (by kernel_rfl) fun xs v ps hs hp => ?_
  unfold sSub at hs
  split at hs
  · rename_i f g h
    obtain rfl := arr2_some h
    cases hs
    have hf : bd f := hp (lfR.bd f) (by simp)
    have hg : bd g := hp (lfR.bd g) (by simp)
    have hb1 : bd (fun j => if j = 0 then 1 else 0) := bd.of ⟨by decide, by decide⟩ ⟨by decide, by decide⟩ ⟨by decide, by decide⟩ ⟨by decide, by decide⟩
    refine ⟨800, [], _, fun ar lf => by conv => lhs; cbv, allP ?_, .tup2 (.ints ?_) (.bool ?_)⟩
    · simp only [conj]
      and_intros <;> first | exact hf | exact hg | exact hb1 | exact words_bd _ | trivial
    · exact wsub_eq (by unfold val; rfl)
    · show rcmp .lss (lfR.wcmp f g) 0 = decide (val f < val g)
      rw [rcmp_lss]
      show decide ((if val f < val g then (-1 : Int) else if val g < val f then 1 else 0) < 0) = _
      rw [Bool.eq_iff_iff, decide_eq_true_eq, decide_eq_true_eq]
      split
      · omega
      · split <;> omega
  · cases hs
end Go.Proofs.Ytegcdnjihnpolaa
