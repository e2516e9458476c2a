import Derived.Test.YtegcdnjihnpolaaVd
set_option linter.unusedSimpArgs false
set_option linter.unusedVariables false
namespace Go.Eng
open Go
def hLawL (l : LFl) : HSpec := fun las lbs => match slW las lbs with
  | some (some (n, m, f)) => some (.a (.one (.lbool true)), lbs, [l.okw f n m])
  | some none => some (.a (.one (.lbool true)), lbs, [])
  | none => none
end Go.Eng
namespace Go.Proofs.Ytegcdnjihnpolaa
open Go Go.Eng Go.Proofs Go.RowKit
attribute [local irreducible] CallOk HOk Run TIok rbin rcmp run1 words val updF shfF blitF
def tb20 (l : LFl) : Tbl := tbL [(27, sAdd l.lf), (17, sAwake)] [(26, hSum l)]
theorem tb20_ok : TblOk Try.prog (tb20 lflR) := tbL_ok (by simpa using ⟨radd_ok, awake_ok⟩) (by simpa using sum_ok)

set_option maxRecDepth 100000 in
theorem lists_ok : HOk Try.prog 4 (hLawL lflR) := by
  refine .of_run (hc := (tb20 lflR).hc) Try.func4 rfl (by kernel_rfl) (by kernel_rfl) fun las lbs v lbs' ps hs hp => ?_
  unfold hLawL at hs
  split at hs
  · rename_i n m f h
    obtain ⟨cc, rfl, rfl⟩ := slW_some h
    cases hs
    have hok : lflR.okw f n m := hp _ (by simp)
    clear hp h
    refine ⟨rfl, fun w => ?_⟩
    refine run_ex hmix ti_ok tb20_ok 0 false 800 [] (fun ar lf => by conv => lhs; cbv) (allP ?_) ?_
    · simp only [conj]
      exact ⟨hok, trivial⟩
    refine Run.cut [3, 4, 5, 6, 17, 18, 19] [6, 19] 3 (Nat.le_of_ble_eq_true rfl) rfl rfl ?_
    refine Run.loop (ι := {p : Int × F × Bool × F × Bool // 0 ≤ p.1 ∧ p.1 ≤ n ∧ (∀ j, j < 4 → p.2.1 j = sumF f p.1.toNat j) ∧ p.2.2.1 = sumB f p.1.toNat ∧ (∀ j, j < 4 → p.2.2.2.1 j = sumF f n j) ∧ p.2.2.2.2 = sumB f n})
      (fun i => ([.any, .any, .any, .a (.one (.ptr 1 (.lit 0))), .a (.one (.bool i.1.2.2.2.2)), .a (.one (.ptr 2 (.lit 0))), .a (.one (.bool i.1.2.2.1)), .any, .any, .any, .any, .any, .any, .any, .any, .any, .any, .a (.one (.sl 0 (.lit 0) (.sym n) cc)), .a (.one (.int .i64 n)), .a (.one (.int .i64 i.1.1))] ++ List.replicate 26 .any,
        [some ⟨true, .ints .u64 (.sym m) f⟩, some (K4 i.1.2.2.2.1), some (K4 i.1.2.1)]))
      (fun i => (n - i.1.1).toNat) ⟨(0, fun _ => 0, false, lflR.wsum f n, lflR.wsumB f n), Int.le_refl 0, Int.natCast_nonneg n, fun j _ => rfl, rfl, fun j _ => rfl, rfl⟩ ?_
    rintro ⟨⟨i, q, b, X, xb⟩, h00, h0, h1, h2, h3, h4⟩ ih
    simp only at h00 h0 h1 h2 h3 h4
    have hN := hok.1
    have hM := hok.2.1
    by_cases hk : i < n
    · have hel := el_bd hok (k := i.toNat) (by omega)
      have hqb : bd q := bd.congr (fun j hj => (h1 j hj).symm) (sumF_bd _ _)
      have eadd : rbin .add .i64 i 1 = i + 1 := rbin_addi (by omega)
      have emu : ((n : Int) - rbin .add .i64 i 1).toNat < ((n : Int) - i).toNat := by rw [eadd]; omega
      have eni : (i + 1).toNat = i.toNat + 1 := by omega
      have hvq : val q = val (sumF f i.toNat) := val_congr h1
      have ho : 0 + i.toNat * 4 = 4 * i.toNat := by omega
      have hsb : bd (shfF f (0 + i.toNat * 4)) := bd.congr (fun j hj => (el_shf ho j hj).symm) hel
      obtain ⟨w1, w2⟩ := add_like h1 (el_shf (f := f) ho)
      have hlt : decide (i < Int.ofNat n) = true := decide_eq_true hk
      by_cases hb : b = true
      · refine run_ex hmix ti_ok tb20_ok 2 false 800 [true, true] (fun ar lf => by conv => lhs; cbv) (allP ?_) ?_
        · simp only [conj, arR, N.val, rcmp_lss]
          exact ⟨hb, hqb, hsb, by omega, ⟨h00, hk⟩, hlt, trivial⟩
        · refine Run.cut [3, 4, 5, 6, 17, 18, 19] [6, 19] 3 (Nat.le_of_ble_eq_true rfl) rfl rfl ?_
          refine ih ⟨(_, _, _, _, _), ?_, ?_, ?_, ?_, h3, h4⟩ emu _ _
          · simp only [eadd]; omega
          · simp only [eadd]; omega
          · simp only [eadd, eni]
            exact fun j _ => congrFun w1 j
          · simp only [eadd, eni, sumB, ← h2, hb, Bool.true_or]
      · have hbf : b = false := by simpa using hb
        refine run_ex hmix ti_ok tb20_ok 2 false 800 [true, false] (fun ar lf => by conv => lhs; cbv) (allP ?_) ?_
        · simp only [conj, arR, N.val, rcmp_lss]
          exact ⟨hbf, hqb, hsb, by omega, ⟨h00, hk⟩, hlt, trivial⟩
        · refine Run.cut [3, 4, 5, 6, 17, 18, 19] [6, 19] 3 (Nat.le_of_ble_eq_true rfl) rfl rfl ?_
          refine ih ⟨(_, _, _, _, _), ?_, ?_, ?_, ?_, h3, h4⟩ emu _ _
          · simp only [eadd]; omega
          · simp only [eadd]; omega
          · simp only [eadd, eni]
            exact fun j _ => congrFun w1 j
          · simp only [eadd, eni, sumB, ← h2, hbf, Bool.false_or]
            exact w2
    · obtain rfl : i = n := by omega
      rw [Int.toNat_natCast] at h1 h2
      refine run_ex hmix ti_ok tb20_ok 2 false 800 [false, true] (fun ar lf => by conv => lhs; cbv) (allP ?_) ?_
      · simp only [conj, arR, N.val, rcmp_lss]
        exact ⟨lEq4 (fun j hj => (h3 j hj).trans (h1 j hj).symm), decide_eq_false (by omega), trivial⟩
      · refine Run.ret ti_ok rfl rfl ⟨.of (VLe.yes ?_), fun i b hb => ?_⟩
        · show (xb == b) = true
          rw [h2, h4, beq_self_eq_true]
        · match i with
          | 0 => simp only [List.getElem?_cons_zero, Option.some.injEq] at hb; subst hb; exact ⟨_, rfl, rfl, .refl rfl⟩
          | i + 1 => simp at hb
  · rename_i h
    obtain ⟨rfl, rfl⟩ := slW_nil h
    cases hs
    refine ⟨rfl, fun w => ?_⟩
    refine run_ex hmix ti_ok tb20_ok 99 true 800 [true] (fun ar lf => by conv => lhs; cbv) (allP ?_) ?_
    · simp only [conj]
      exact ⟨lEq4 (fun j hj => rfl), trivial⟩
    · refine Run.ret ti_ok rfl rfl ⟨.of (VLe.yes rfl), fun i b hb => by simp at hb⟩
  · cases hs
end Go.Proofs.Ytegcdnjihnpolaa
