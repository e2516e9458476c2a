import Derived.Test.YtegcdnjihnpolaaUs
set_option linter.unusedSimpArgs false
set_option linter.unusedVariables false
namespace Go.Proofs.Ytegcdnjihnpolaa
open Go Go.Eng Go.Proofs Go.RowKit
theorem work_mono {a b : Int} (hb : tgood b = true) (ha : tgood a = true) (h : tval a < tval b) : ¬ workOf a < workOf b := by
  have h1 := (tval_lt a).1
  unfold workOf
  rw [if_pos ha, if_pos hb]
  have hq : 0 ≤ p2 256 / (tval b + 1) := Int.ediv_nonneg (Int.le_of_lt (p2_pos _)) (by omega)
  have h2 : p2 256 / (tval b + 1) * (tval b + 1) ≤ p2 256 := Int.ediv_mul_le _ (by omega)
  have h3 : p2 256 / (tval b + 1) * (tval a + 1) ≤ p2 256 / (tval b + 1) * (tval b + 1) := Int.mul_le_mul_of_nonneg_left (by omega) hq
  have h4 : p2 256 / (tval b + 1) ≤ p2 256 / (tval a + 1) := (Int.le_ediv_iff_mul_le (by omega)).2 (by omega)
  omega
theorem words_small {n : Int} (h0 : 0 ≤ n) (h1 : n < (18446744073709551616 : Int)) : words n 0 = n ∧ words n 1 = 0 ∧ words n 2 = 0 ∧ words n 3 = 0 := by
  refine ⟨by rw [words0]; omega, by rw [words1]; omega, by rw [words2]; omega, by rw [words3]; omega⟩
theorem words_large {n : Int} (h0 : 0 ≤ n) (h1 : n < (115792089237316195423570985008687907853269984665640564039457584007913129639936 : Int)) (h2 : ¬ n < (18446744073709551616 : Int)) : words n 1 ≠ 0 ∨ words n 2 ≠ 0 ∨ words n 3 ≠ 0 := by
  apply Decidable.byContradiction
  intro h
  have e1 : words n 1 = 0 := Decidable.byContradiction fun h3 => h (.inl h3)
  have e2 : words n 2 = 0 := Decidable.byContradiction fun h3 => h (.inr (.inl h3))
  have e3 : words n 3 = 0 := Decidable.byContradiction fun h3 => h (.inr (.inr h3))
  have hv := val_words_of h0 h1
  have hl := words_lo n 0
  unfold val at hv
  rw [e1, e2, e3] at hv
  omega
attribute [local irreducible] CallOk HOk Run TIok rbin rcmp run1 words val updF shfF blitF pv V40 nb wq tgt rb tlim tgood tval cmant bytesOf gk workOf cpt
def tw3 (l : LN) : Tbl := tbL [(66, sAwake), (83, sWork l), (84, sNWork l), (63, sNExpand l), (85, sTries l), (86, sHarder l), (67, sNWords l), (73, sNLess l), (64, sNFrom l)] []
theorem tw3_ok : TblOk Try.prog (tw3 lnR) := tbL_ok (by simpa using ⟨awake5_ok, work_ok, nwork_ok, nexpand_ok, tries_ok, harder_ok, nwords_ok, nless_ok, nfrom_ok⟩) (by simp)
set_option maxHeartbeats 6400000 in
set_option maxRecDepth 100000 in
theorem works_law : CallOk Try.prog 13 (sLawW lnR) := by
  refine .nrm (num32b_spec_norm (g := fun x y => (.a (.one (.lbool true)), [lnR.l5.u32 x, lnR.l5.u32 y])) (fun l => rfl)) (.of_run (hc := (tw3 lnR).hc) Try.func13 rfl (by kernel_rfl) (by kernel_rfl) fun xs v ps hs hp w => ?_)
  split at hs
  case isFalse => cases hs
  rename_i hnm
  unfold sLawW at hs
  split at hs
  · rename_i a b h
    obtain rfl := num32b_int h hnm
    cases hs
    have ha : 0 ≤ a ∧ a < 4294967296 := hp (l5R.u32 a) (by simp [lnR])
    have hb : 0 ≤ b ∧ b < 4294967296 := hp (l5R.u32 b) (by simp [lnR])
    clear hp h hnm
    have h320 := lim320
    have hl := tlim_lt
    have hwa := workOf_lt a
    have hwb := workOf_lt b
    have hVa : V40 (lnR.nww a) = workOf a := V40_nb hwa.1 (by omega)
    have hVw : val (lnR.ww b) = workOf b := val_words_of hwb.1 hwb.2
    have hVf : V40 (lnR.nfrom (lnR.ww b)) = workOf b := by
      show V40 (nb (val (lnR.ww b))) = _
      rw [hVw]; exact V40_nb hwb.1 (by omega)
    have hna : V40 (lnR.nexp a) = tval a := V40_nb (tval_lt a).1 (by have := (tval_lt a).2; omega)
    have hnb : V40 (lnR.nexp b) = tval b := V40_nb (tval_lt b).1 (by have := (tval_lt b).2; omega)
    have o3 : (!(arR.lEq [lnR.ww a 0, lnR.ww a 1, lnR.ww a 2, lnR.ww a 3] [lnR.nwords (lnR.nww a) 0, lnR.nwords (lnR.nww a) 1, lnR.nwords (lnR.nww a) 2, lnR.nwords (lnR.nww a) 3])) = false := by
      have e : lnR.nwords (lnR.nww a) = lnR.ww a := by show words (V40 (lnR.nww a)) = words (workOf a); rw [hVa]
      rw [e]; exact nl_self _
    have o4 : (!(rcmp .eql (l5R.te a) 0 == tgood a)) = false := by
      cases hg : tgood a with
      | true => rw [te_good hg, eql_yes rfl]; rfl
      | false => rw [eql_te hg]; rfl
    by_cases hga : tgood a = true
    · by_cases hgb : tgood b = true
      · have o6 : (!(lnR.harder a b == lnR.nless (lnR.nexp a) (lnR.nexp b))) = false := by
          have e : lnR.harder a b = lnR.nless (lnR.nexp a) (lnR.nexp b) := by
            show (tgood a && tgood b && decide (tval a < tval b)) = decide (V40 (lnR.nexp a) < V40 (lnR.nexp b))
            rw [hga, hgb, hna, hnb]; rfl
          rw [e]; exact nn_self _
        refine run_ex hmix ti_ok tw3_ok 99 false (20 + 780) [false, false, false, false, true, true, false] (fun ar lf => exec_stage (by conv => lhs; cbv) (by conv => lhs; cbv)) (allP ?_) ?_
        · simp only [conj]
          exact ⟨o6, nb_bd _, nb_bd _, hgb, hga, ha, hb, o4, o3, nb_bd _, congrArg (fun b => !b) hga, o4, ha, hb, ha, hb, ha, ha, trivial⟩
        refine Run.cut [0, 1, 5, 6, 7, 8, 9, 10, 15, 17] [17] 3 (by decide) rfl rfl ?_
        refine Run.fam (ι := {p : F × F × F × Int × Int × Int × Int × Bool // p.1 = lnR.ww a ∧ p.2.1 = lnR.nww a ∧ p.2.2.1 = lnR.ww b ∧ p.2.2.2.1 = l5R.te a ∧ p.2.2.2.2.1 = l5R.te b ∧ p.2.2.2.2.2.1 = lnR.tries a ∧ p.2.2.2.2.2.2.1 = words (workOf a) 0 ∧ p.2.2.2.2.2.2.2 = tgood a})
          (fun i => ([.a (U32 a), .a (U32 b), .any, .any, .any, .a (.one (.ptr 0 (.lit 0))), .a (.one (.int .i64 i.1.2.2.2.1)), .a (.one (.ptr 1 (.lit 0))), .a (.one (.bool i.1.2.2.2.2.2.2.2)), .a (.one (.ptr 2 (.lit 0))), .a (.one (.int .i64 i.1.2.2.2.2.1)), .any, .any, .any, .any, .a (.one (.int .u64 i.1.2.2.2.2.2.1)), .any, .a (.one (.int .u64 i.1.2.2.2.2.2.2.1))] ++ List.replicate 121 .any,
            [some (K4 i.1.1), some (KN i.1.2.1), some (K4 i.1.2.2.1)])) ⟨(_, _, _, _, _, _, _, _), rfl, rfl, rfl, rfl, rfl, rfl, rfl, rfl⟩ ?_
        rintro ⟨⟨Wa, X, Wb, ea, eb, n, u, ok⟩, f1, f2, f3, f4, f5, f6, f7, f8⟩
        simp only at f1 f2 f3 f4 f5 f6 f7 f8
        have z : ∀ x : Int, x = 0 → rcmp .neq x 0 = false := fun x h => by rw [h]; exact neq_self 0
        by_cases hs : workOf a < (18446744073709551616 : Int)
        · have e1 : Wa 1 = 0 := by rw [f1]; exact (words_small hwa.1 hs).2.1
          have e2 : Wa 2 = 0 := by rw [f1]; exact (words_small hwa.1 hs).2.2.1
          have e3 : Wa 3 = 0 := by rw [f1]; exact (words_small hwa.1 hs).2.2.2
          have e0 : u = lnR.tries a := by rw [f7, (words_small hwa.1 hs).1]; exact (if_pos hs).symm
          refine run_ex hmix ti_ok tw3_ok 99 false 400 [false, false, false] (fun ar lf => by conv => lhs; cbv) (allP ?_) ?_
          · simp only [conj]
            exact ⟨z _ e3, z _ e2, z _ e1, trivial⟩
          refine Run.cut [0, 1, 5, 6, 7, 8, 9, 10, 15, 17] [17] 3 (by decide) rfl rfl ?_
          refine Run.fam (ι := {p : F × F × F × Int × Int × Int × Int × Bool // p.1 = lnR.ww a ∧ p.2.1 = lnR.nww a ∧ p.2.2.1 = lnR.ww b ∧ p.2.2.2.1 = l5R.te a ∧ p.2.2.2.2.1 = l5R.te b ∧ p.2.2.2.2.2.1 = lnR.tries a ∧ p.2.2.2.2.2.2.1 = lnR.tries a ∧ p.2.2.2.2.2.2.2 = tgood a})
            (fun i => ([.a (U32 a), .a (U32 b), .any, .any, .any, .a (.one (.ptr 0 (.lit 0))), .a (.one (.int .i64 i.1.2.2.2.1)), .a (.one (.ptr 1 (.lit 0))), .a (.one (.bool i.1.2.2.2.2.2.2.2)), .a (.one (.ptr 2 (.lit 0))), .a (.one (.int .i64 i.1.2.2.2.2.1)), .any, .any, .any, .any, .a (.one (.int .u64 i.1.2.2.2.2.2.1)), .any, .a (.one (.int .u64 i.1.2.2.2.2.2.2.1))] ++ List.replicate 121 .any,
              [some (K4 i.1.1), some (KN i.1.2.1), some (K4 i.1.2.2.1)])) ⟨(_, _, _, _, _, _, _, _), f1, f2, f3, f4, f5, f6, e0, f8⟩ ?_
          rintro ⟨⟨Wa, X, Wb, ea, eb, n, u, ok⟩, f1, f2, f3, f4, f5, f6, f7, f8⟩
          simp only at f1 f2 f3 f4 f5 f6 f7 f8
          have k1 : ok = true := f8.trans hga
          have k2 : rcmp .neq n u = false := by rw [f6, f7]; exact neq_self _
          by_cases hlt : tval a < tval b
          · have hh : lnR.harder a b = true := by show (tgood a && tgood b && decide (tval a < tval b)) = true; rw [hga, hgb, decide_eq_true hlt]; rfl
            have e1 : rcmp .eql ea 0 = true := by rw [f4, te_good hga]; exact eql_yes rfl
            have e2 : rcmp .eql eb 0 = true := by rw [f5, te_good hgb]; exact eql_yes rfl
            have e3 : lnR.nless X (lnR.nfrom Wb) = false := by rw [f2, f3]; exact decide_eq_false (by rw [hVa, hVf]; exact work_mono hgb hga hlt)
            have xb : bd40 X := by rw [f2]; exact nb_bd _
            have wbb : bd Wb := by rw [f3]; exact words_bd _
            refine run_ex hmix ti_ok tw3_ok 99 false 400 [true, false, false, false, true, true] (fun ar lf => by conv => lhs; cbv) (allP ?_) ?_
            · simp only [conj]
              exact ⟨xb, nb_bd _, wbb, e2, e1, congrArg (fun b => !b) hh, ha, hb, congrArg (fun b => !b) k1, k2, k1, trivial⟩
            · refine Run.ret ti_ok rfl rfl (VLe.yes ?_)
              exact congrArg (fun b => !b) e3
          · have hh : lnR.harder a b = false := by show (tgood a && tgood b && decide (tval a < tval b)) = false; rw [decide_eq_false hlt, Bool.and_false]
            refine run_ex hmix ti_ok tw3_ok 99 false 400 [true, false, false, true] (fun ar lf => by conv => lhs; cbv) (allP ?_) ?_
            · simp only [conj]
              exact ⟨congrArg (fun b => !b) hh, ha, hb, congrArg (fun b => !b) k1, k2, k1, trivial⟩
            · exact Run.ret ti_ok rfl rfl (VLe.yes' rfl)
        · have e0 : (18446744073709551615 : Int) = lnR.tries a := (if_neg hs).symm
          have hlg := words_large hwa.1 hwa.2 hs
          by_cases h1 : Wa 1 = 0
          · by_cases h2 : Wa 2 = 0
            · have h3 : Wa 3 ≠ 0 := by
                rw [f1] at h1 h2 ⊢
                rcases hlg with h | h | h
                · exact absurd h1 h
                · exact absurd h2 h
                · exact h
              refine run_ex hmix ti_ok tw3_ok 99 false 400 [false, false, true] (fun ar lf => by conv => lhs; cbv) (allP ?_) ?_
              · simp only [conj]
                exact ⟨neq_yes h3, z _ h2, z _ h1, trivial⟩
              refine Run.cut [0, 1, 5, 6, 7, 8, 9, 10, 15, 17] [17] 3 (by decide) rfl rfl ?_
              refine Run.fam (ι := {p : F × F × F × Int × Int × Int × Int × Bool // p.1 = lnR.ww a ∧ p.2.1 = lnR.nww a ∧ p.2.2.1 = lnR.ww b ∧ p.2.2.2.1 = l5R.te a ∧ p.2.2.2.2.1 = l5R.te b ∧ p.2.2.2.2.2.1 = lnR.tries a ∧ p.2.2.2.2.2.2.1 = lnR.tries a ∧ p.2.2.2.2.2.2.2 = tgood a})
                (fun i => ([.a (U32 a), .a (U32 b), .any, .any, .any, .a (.one (.ptr 0 (.lit 0))), .a (.one (.int .i64 i.1.2.2.2.1)), .a (.one (.ptr 1 (.lit 0))), .a (.one (.bool i.1.2.2.2.2.2.2.2)), .a (.one (.ptr 2 (.lit 0))), .a (.one (.int .i64 i.1.2.2.2.2.1)), .any, .any, .any, .any, .a (.one (.int .u64 i.1.2.2.2.2.2.1)), .any, .a (.one (.int .u64 i.1.2.2.2.2.2.2.1))] ++ List.replicate 121 .any,
                  [some (K4 i.1.1), some (KN i.1.2.1), some (K4 i.1.2.2.1)])) ⟨(_, _, _, _, _, _, _, _), f1, f2, f3, f4, f5, f6, e0, f8⟩ ?_
              rintro ⟨⟨Wa, X, Wb, ea, eb, n, u, ok⟩, f1, f2, f3, f4, f5, f6, f7, f8⟩
              simp only at f1 f2 f3 f4 f5 f6 f7 f8
              have k1 : ok = true := f8.trans hga
              have k2 : rcmp .neq n u = false := by rw [f6, f7]; exact neq_self _
              by_cases hlt : tval a < tval b
              · have hh : lnR.harder a b = true := by show (tgood a && tgood b && decide (tval a < tval b)) = true; rw [hga, hgb, decide_eq_true hlt]; rfl
                have e1 : rcmp .eql ea 0 = true := by rw [f4, te_good hga]; exact eql_yes rfl
                have e2 : rcmp .eql eb 0 = true := by rw [f5, te_good hgb]; exact eql_yes rfl
                have e3 : lnR.nless X (lnR.nfrom Wb) = false := by rw [f2, f3]; exact decide_eq_false (by rw [hVa, hVf]; exact work_mono hgb hga hlt)
                have xb : bd40 X := by rw [f2]; exact nb_bd _
                have wbb : bd Wb := by rw [f3]; exact words_bd _
                refine run_ex hmix ti_ok tw3_ok 99 false 400 [true, false, false, false, true, true] (fun ar lf => by conv => lhs; cbv) (allP ?_) ?_
                · simp only [conj]
                  exact ⟨xb, nb_bd _, wbb, e2, e1, congrArg (fun b => !b) hh, ha, hb, congrArg (fun b => !b) k1, k2, k1, trivial⟩
                · refine Run.ret ti_ok rfl rfl (VLe.yes ?_)
                  exact congrArg (fun b => !b) e3
              · have hh : lnR.harder a b = false := by show (tgood a && tgood b && decide (tval a < tval b)) = false; rw [decide_eq_false hlt, Bool.and_false]
                refine run_ex hmix ti_ok tw3_ok 99 false 400 [true, false, false, true] (fun ar lf => by conv => lhs; cbv) (allP ?_) ?_
                · simp only [conj]
                  exact ⟨congrArg (fun b => !b) hh, ha, hb, congrArg (fun b => !b) k1, k2, k1, trivial⟩
                · exact Run.ret ti_ok rfl rfl (VLe.yes' rfl)
            · refine run_ex hmix ti_ok tw3_ok 99 false 400 [false, true] (fun ar lf => by conv => lhs; cbv) (allP ?_) ?_
              · simp only [conj]
                exact ⟨neq_yes h2, z _ h1, trivial⟩
              refine Run.cut [0, 1, 5, 6, 7, 8, 9, 10, 15, 17] [17] 3 (by decide) rfl rfl ?_
              refine Run.fam (ι := {p : F × F × F × Int × Int × Int × Int × Bool // p.1 = lnR.ww a ∧ p.2.1 = lnR.nww a ∧ p.2.2.1 = lnR.ww b ∧ p.2.2.2.1 = l5R.te a ∧ p.2.2.2.2.1 = l5R.te b ∧ p.2.2.2.2.2.1 = lnR.tries a ∧ p.2.2.2.2.2.2.1 = lnR.tries a ∧ p.2.2.2.2.2.2.2 = tgood a})
                (fun i => ([.a (U32 a), .a (U32 b), .any, .any, .any, .a (.one (.ptr 0 (.lit 0))), .a (.one (.int .i64 i.1.2.2.2.1)), .a (.one (.ptr 1 (.lit 0))), .a (.one (.bool i.1.2.2.2.2.2.2.2)), .a (.one (.ptr 2 (.lit 0))), .a (.one (.int .i64 i.1.2.2.2.2.1)), .any, .any, .any, .any, .a (.one (.int .u64 i.1.2.2.2.2.2.1)), .any, .a (.one (.int .u64 i.1.2.2.2.2.2.2.1))] ++ List.replicate 121 .any,
                  [some (K4 i.1.1), some (KN i.1.2.1), some (K4 i.1.2.2.1)])) ⟨(_, _, _, _, _, _, _, _), f1, f2, f3, f4, f5, f6, e0, f8⟩ ?_
              rintro ⟨⟨Wa, X, Wb, ea, eb, n, u, ok⟩, f1, f2, f3, f4, f5, f6, f7, f8⟩
              simp only at f1 f2 f3 f4 f5 f6 f7 f8
              have k1 : ok = true := f8.trans hga
              have k2 : rcmp .neq n u = false := by rw [f6, f7]; exact neq_self _
              by_cases hlt : tval a < tval b
              · have hh : lnR.harder a b = true := by show (tgood a && tgood b && decide (tval a < tval b)) = true; rw [hga, hgb, decide_eq_true hlt]; rfl
                have e1 : rcmp .eql ea 0 = true := by rw [f4, te_good hga]; exact eql_yes rfl
                have e2 : rcmp .eql eb 0 = true := by rw [f5, te_good hgb]; exact eql_yes rfl
                have e3 : lnR.nless X (lnR.nfrom Wb) = false := by rw [f2, f3]; exact decide_eq_false (by rw [hVa, hVf]; exact work_mono hgb hga hlt)
                have xb : bd40 X := by rw [f2]; exact nb_bd _
                have wbb : bd Wb := by rw [f3]; exact words_bd _
                refine run_ex hmix ti_ok tw3_ok 99 false 400 [true, false, false, false, true, true] (fun ar lf => by conv => lhs; cbv) (allP ?_) ?_
                · simp only [conj]
                  exact ⟨xb, nb_bd _, wbb, e2, e1, congrArg (fun b => !b) hh, ha, hb, congrArg (fun b => !b) k1, k2, k1, trivial⟩
                · refine Run.ret ti_ok rfl rfl (VLe.yes ?_)
                  exact congrArg (fun b => !b) e3
              · have hh : lnR.harder a b = false := by show (tgood a && tgood b && decide (tval a < tval b)) = false; rw [decide_eq_false hlt, Bool.and_false]
                refine run_ex hmix ti_ok tw3_ok 99 false 400 [true, false, false, true] (fun ar lf => by conv => lhs; cbv) (allP ?_) ?_
                · simp only [conj]
                  exact ⟨congrArg (fun b => !b) hh, ha, hb, congrArg (fun b => !b) k1, k2, k1, trivial⟩
                · exact Run.ret ti_ok rfl rfl (VLe.yes' rfl)
          · refine run_ex hmix ti_ok tw3_ok 99 false 400 [true] (fun ar lf => by conv => lhs; cbv) (allP ?_) ?_
            · simp only [conj]
              exact ⟨neq_yes h1, trivial⟩
            refine Run.cut [0, 1, 5, 6, 7, 8, 9, 10, 15, 17] [17] 3 (by decide) rfl rfl ?_
            refine Run.fam (ι := {p : F × F × F × Int × Int × Int × Int × Bool // p.1 = lnR.ww a ∧ p.2.1 = lnR.nww a ∧ p.2.2.1 = lnR.ww b ∧ p.2.2.2.1 = l5R.te a ∧ p.2.2.2.2.1 = l5R.te b ∧ p.2.2.2.2.2.1 = lnR.tries a ∧ p.2.2.2.2.2.2.1 = lnR.tries a ∧ p.2.2.2.2.2.2.2 = tgood a})
              (fun i => ([.a (U32 a), .a (U32 b), .any, .any, .any, .a (.one (.ptr 0 (.lit 0))), .a (.one (.int .i64 i.1.2.2.2.1)), .a (.one (.ptr 1 (.lit 0))), .a (.one (.bool i.1.2.2.2.2.2.2.2)), .a (.one (.ptr 2 (.lit 0))), .a (.one (.int .i64 i.1.2.2.2.2.1)), .any, .any, .any, .any, .a (.one (.int .u64 i.1.2.2.2.2.2.1)), .any, .a (.one (.int .u64 i.1.2.2.2.2.2.2.1))] ++ List.replicate 121 .any,
                [some (K4 i.1.1), some (KN i.1.2.1), some (K4 i.1.2.2.1)])) ⟨(_, _, _, _, _, _, _, _), f1, f2, f3, f4, f5, f6, e0, f8⟩ ?_
            rintro ⟨⟨Wa, X, Wb, ea, eb, n, u, ok⟩, f1, f2, f3, f4, f5, f6, f7, f8⟩
            simp only at f1 f2 f3 f4 f5 f6 f7 f8
            have k1 : ok = true := f8.trans hga
            have k2 : rcmp .neq n u = false := by rw [f6, f7]; exact neq_self _
            by_cases hlt : tval a < tval b
            · have hh : lnR.harder a b = true := by show (tgood a && tgood b && decide (tval a < tval b)) = true; rw [hga, hgb, decide_eq_true hlt]; rfl
              have e1 : rcmp .eql ea 0 = true := by rw [f4, te_good hga]; exact eql_yes rfl
              have e2 : rcmp .eql eb 0 = true := by rw [f5, te_good hgb]; exact eql_yes rfl
              have e3 : lnR.nless X (lnR.nfrom Wb) = false := by rw [f2, f3]; exact decide_eq_false (by rw [hVa, hVf]; exact work_mono hgb hga hlt)
              have xb : bd40 X := by rw [f2]; exact nb_bd _
              have wbb : bd Wb := by rw [f3]; exact words_bd _
              refine run_ex hmix ti_ok tw3_ok 99 false 400 [true, false, false, false, true, true] (fun ar lf => by conv => lhs; cbv) (allP ?_) ?_
              · simp only [conj]
                exact ⟨xb, nb_bd _, wbb, e2, e1, congrArg (fun b => !b) hh, ha, hb, congrArg (fun b => !b) k1, k2, k1, trivial⟩
              · refine Run.ret ti_ok rfl rfl (VLe.yes ?_)
                exact congrArg (fun b => !b) e3
            · have hh : lnR.harder a b = false := by show (tgood a && tgood b && decide (tval a < tval b)) = false; rw [decide_eq_false hlt, Bool.and_false]
              refine run_ex hmix ti_ok tw3_ok 99 false 400 [true, false, false, true] (fun ar lf => by conv => lhs; cbv) (allP ?_) ?_
              · simp only [conj]
                exact ⟨congrArg (fun b => !b) hh, ha, hb, congrArg (fun b => !b) k1, k2, k1, trivial⟩
              · exact Run.ret ti_ok rfl rfl (VLe.yes' rfl)
      · replace hgb : tgood b = false := by simpa using hgb
        have o6 : (!(lnR.harder a b == tgood b)) = false := by
          have e : lnR.harder a b = tgood b := by show (tgood a && tgood b && decide (tval a < tval b)) = tgood b; rw [hgb, Bool.and_false, Bool.false_and]
          rw [e]; exact nn_self _
        have o7 : (!(lnR.harder a b == false)) = false := by rw [hgb] at o6; exact o6
        refine run_ex hmix ti_ok tw3_ok 99 false (20 + 780) [false, false, false, false, true, false, false] (fun ar lf => exec_stage (by conv => lhs; cbv) (by conv => lhs; cbv)) (allP ?_) ?_
        · simp only [conj]
          exact ⟨o7, hgb, hga, ha, hb, o4, o3, nb_bd _, congrArg (fun b => !b) hga, o4, ha, hb, ha, hb, ha, ha, trivial⟩
        refine Run.cut [0, 1, 5, 6, 7, 8, 9, 10, 15, 17] [17] 3 (by decide) rfl rfl ?_
        refine Run.fam (ι := {p : F × F × F × Int × Int × Int × Int × Bool // p.1 = lnR.ww a ∧ p.2.1 = lnR.nww a ∧ p.2.2.1 = lnR.ww b ∧ p.2.2.2.1 = l5R.te a ∧ p.2.2.2.2.1 = l5R.te b ∧ p.2.2.2.2.2.1 = lnR.tries a ∧ p.2.2.2.2.2.2.1 = words (workOf a) 0 ∧ p.2.2.2.2.2.2.2 = tgood a})
          (fun i => ([.a (U32 a), .a (U32 b), .any, .any, .any, .a (.one (.ptr 0 (.lit 0))), .a (.one (.int .i64 i.1.2.2.2.1)), .a (.one (.ptr 1 (.lit 0))), .a (.one (.bool i.1.2.2.2.2.2.2.2)), .a (.one (.ptr 2 (.lit 0))), .a (.one (.int .i64 i.1.2.2.2.2.1)), .any, .any, .any, .any, .a (.one (.int .u64 i.1.2.2.2.2.2.1)), .any, .a (.one (.int .u64 i.1.2.2.2.2.2.2.1))] ++ List.replicate 121 .any,
            [some (K4 i.1.1), some (KN i.1.2.1), some (K4 i.1.2.2.1)])) ⟨(_, _, _, _, _, _, _, _), rfl, rfl, rfl, rfl, rfl, rfl, rfl, rfl⟩ ?_
        rintro ⟨⟨Wa, X, Wb, ea, eb, n, u, ok⟩, f1, f2, f3, f4, f5, f6, f7, f8⟩
        simp only at f1 f2 f3 f4 f5 f6 f7 f8
        have z : ∀ x : Int, x = 0 → rcmp .neq x 0 = false := fun x h => by rw [h]; exact neq_self 0
        by_cases hs : workOf a < (18446744073709551616 : Int)
        · have e1 : Wa 1 = 0 := by rw [f1]; exact (words_small hwa.1 hs).2.1
          have e2 : Wa 2 = 0 := by rw [f1]; exact (words_small hwa.1 hs).2.2.1
          have e3 : Wa 3 = 0 := by rw [f1]; exact (words_small hwa.1 hs).2.2.2
          have e0 : u = lnR.tries a := by rw [f7, (words_small hwa.1 hs).1]; exact (if_pos hs).symm
          refine run_ex hmix ti_ok tw3_ok 99 false 400 [false, false, false] (fun ar lf => by conv => lhs; cbv) (allP ?_) ?_
          · simp only [conj]
            exact ⟨z _ e3, z _ e2, z _ e1, trivial⟩
          refine Run.cut [0, 1, 5, 6, 7, 8, 9, 10, 15, 17] [17] 3 (by decide) rfl rfl ?_
          refine Run.fam (ι := {p : F × F × F × Int × Int × Int × Int × Bool // p.1 = lnR.ww a ∧ p.2.1 = lnR.nww a ∧ p.2.2.1 = lnR.ww b ∧ p.2.2.2.1 = l5R.te a ∧ p.2.2.2.2.1 = l5R.te b ∧ p.2.2.2.2.2.1 = lnR.tries a ∧ p.2.2.2.2.2.2.1 = lnR.tries a ∧ p.2.2.2.2.2.2.2 = tgood a})
            (fun i => ([.a (U32 a), .a (U32 b), .any, .any, .any, .a (.one (.ptr 0 (.lit 0))), .a (.one (.int .i64 i.1.2.2.2.1)), .a (.one (.ptr 1 (.lit 0))), .a (.one (.bool i.1.2.2.2.2.2.2.2)), .a (.one (.ptr 2 (.lit 0))), .a (.one (.int .i64 i.1.2.2.2.2.1)), .any, .any, .any, .any, .a (.one (.int .u64 i.1.2.2.2.2.2.1)), .any, .a (.one (.int .u64 i.1.2.2.2.2.2.2.1))] ++ List.replicate 121 .any,
              [some (K4 i.1.1), some (KN i.1.2.1), some (K4 i.1.2.2.1)])) ⟨(_, _, _, _, _, _, _, _), f1, f2, f3, f4, f5, f6, e0, f8⟩ ?_
          rintro ⟨⟨Wa, X, Wb, ea, eb, n, u, ok⟩, f1, f2, f3, f4, f5, f6, f7, f8⟩
          simp only at f1 f2 f3 f4 f5 f6 f7 f8
          have k1 : ok = true := f8.trans hga
          have k2 : rcmp .neq n u = false := by rw [f6, f7]; exact neq_self _
          have hh : lnR.harder a b = false := by show (tgood a && tgood b && decide (tval a < tval b)) = false; rw [hgb, Bool.and_false, Bool.false_and]
          refine run_ex hmix ti_ok tw3_ok 99 false 400 [true, false, false, true] (fun ar lf => by conv => lhs; cbv) (allP ?_) ?_
          · simp only [conj]
            exact ⟨congrArg (fun b => !b) hh, ha, hb, congrArg (fun b => !b) k1, k2, k1, trivial⟩
          · exact Run.ret ti_ok rfl rfl (VLe.yes' rfl)
        · have e0 : (18446744073709551615 : Int) = lnR.tries a := (if_neg hs).symm
          have hlg := words_large hwa.1 hwa.2 hs
          by_cases h1 : Wa 1 = 0
          · by_cases h2 : Wa 2 = 0
            · have h3 : Wa 3 ≠ 0 := by
                rw [f1] at h1 h2 ⊢
                rcases hlg with h | h | h
                · exact absurd h1 h
                · exact absurd h2 h
                · exact h
              refine run_ex hmix ti_ok tw3_ok 99 false 400 [false, false, true] (fun ar lf => by conv => lhs; cbv) (allP ?_) ?_
              · simp only [conj]
                exact ⟨neq_yes h3, z _ h2, z _ h1, trivial⟩
              refine Run.cut [0, 1, 5, 6, 7, 8, 9, 10, 15, 17] [17] 3 (by decide) rfl rfl ?_
              refine Run.fam (ι := {p : F × F × F × Int × Int × Int × Int × Bool // p.1 = lnR.ww a ∧ p.2.1 = lnR.nww a ∧ p.2.2.1 = lnR.ww b ∧ p.2.2.2.1 = l5R.te a ∧ p.2.2.2.2.1 = l5R.te b ∧ p.2.2.2.2.2.1 = lnR.tries a ∧ p.2.2.2.2.2.2.1 = lnR.tries a ∧ p.2.2.2.2.2.2.2 = tgood a})
                (fun i => ([.a (U32 a), .a (U32 b), .any, .any, .any, .a (.one (.ptr 0 (.lit 0))), .a (.one (.int .i64 i.1.2.2.2.1)), .a (.one (.ptr 1 (.lit 0))), .a (.one (.bool i.1.2.2.2.2.2.2.2)), .a (.one (.ptr 2 (.lit 0))), .a (.one (.int .i64 i.1.2.2.2.2.1)), .any, .any, .any, .any, .a (.one (.int .u64 i.1.2.2.2.2.2.1)), .any, .a (.one (.int .u64 i.1.2.2.2.2.2.2.1))] ++ List.replicate 121 .any,
                  [some (K4 i.1.1), some (KN i.1.2.1), some (K4 i.1.2.2.1)])) ⟨(_, _, _, _, _, _, _, _), f1, f2, f3, f4, f5, f6, e0, f8⟩ ?_
              rintro ⟨⟨Wa, X, Wb, ea, eb, n, u, ok⟩, f1, f2, f3, f4, f5, f6, f7, f8⟩
              simp only at f1 f2 f3 f4 f5 f6 f7 f8
              have k1 : ok = true := f8.trans hga
              have k2 : rcmp .neq n u = false := by rw [f6, f7]; exact neq_self _
              have hh : lnR.harder a b = false := by show (tgood a && tgood b && decide (tval a < tval b)) = false; rw [hgb, Bool.and_false, Bool.false_and]
              refine run_ex hmix ti_ok tw3_ok 99 false 400 [true, false, false, true] (fun ar lf => by conv => lhs; cbv) (allP ?_) ?_
              · simp only [conj]
                exact ⟨congrArg (fun b => !b) hh, ha, hb, congrArg (fun b => !b) k1, k2, k1, trivial⟩
              · exact Run.ret ti_ok rfl rfl (VLe.yes' rfl)
            · refine run_ex hmix ti_ok tw3_ok 99 false 400 [false, true] (fun ar lf => by conv => lhs; cbv) (allP ?_) ?_
              · simp only [conj]
                exact ⟨neq_yes h2, z _ h1, trivial⟩
              refine Run.cut [0, 1, 5, 6, 7, 8, 9, 10, 15, 17] [17] 3 (by decide) rfl rfl ?_
              refine Run.fam (ι := {p : F × F × F × Int × Int × Int × Int × Bool // p.1 = lnR.ww a ∧ p.2.1 = lnR.nww a ∧ p.2.2.1 = lnR.ww b ∧ p.2.2.2.1 = l5R.te a ∧ p.2.2.2.2.1 = l5R.te b ∧ p.2.2.2.2.2.1 = lnR.tries a ∧ p.2.2.2.2.2.2.1 = lnR.tries a ∧ p.2.2.2.2.2.2.2 = tgood a})
                (fun i => ([.a (U32 a), .a (U32 b), .any, .any, .any, .a (.one (.ptr 0 (.lit 0))), .a (.one (.int .i64 i.1.2.2.2.1)), .a (.one (.ptr 1 (.lit 0))), .a (.one (.bool i.1.2.2.2.2.2.2.2)), .a (.one (.ptr 2 (.lit 0))), .a (.one (.int .i64 i.1.2.2.2.2.1)), .any, .any, .any, .any, .a (.one (.int .u64 i.1.2.2.2.2.2.1)), .any, .a (.one (.int .u64 i.1.2.2.2.2.2.2.1))] ++ List.replicate 121 .any,
                  [some (K4 i.1.1), some (KN i.1.2.1), some (K4 i.1.2.2.1)])) ⟨(_, _, _, _, _, _, _, _), f1, f2, f3, f4, f5, f6, e0, f8⟩ ?_
              rintro ⟨⟨Wa, X, Wb, ea, eb, n, u, ok⟩, f1, f2, f3, f4, f5, f6, f7, f8⟩
              simp only at f1 f2 f3 f4 f5 f6 f7 f8
              have k1 : ok = true := f8.trans hga
              have k2 : rcmp .neq n u = false := by rw [f6, f7]; exact neq_self _
              have hh : lnR.harder a b = false := by show (tgood a && tgood b && decide (tval a < tval b)) = false; rw [hgb, Bool.and_false, Bool.false_and]
              refine run_ex hmix ti_ok tw3_ok 99 false 400 [true, false, false, true] (fun ar lf => by conv => lhs; cbv) (allP ?_) ?_
              · simp only [conj]
                exact ⟨congrArg (fun b => !b) hh, ha, hb, congrArg (fun b => !b) k1, k2, k1, trivial⟩
              · exact Run.ret ti_ok rfl rfl (VLe.yes' rfl)
          · refine run_ex hmix ti_ok tw3_ok 99 false 400 [true] (fun ar lf => by conv => lhs; cbv) (allP ?_) ?_
            · simp only [conj]
              exact ⟨neq_yes h1, trivial⟩
            refine Run.cut [0, 1, 5, 6, 7, 8, 9, 10, 15, 17] [17] 3 (by decide) rfl rfl ?_
            refine Run.fam (ι := {p : F × F × F × Int × Int × Int × Int × Bool // p.1 = lnR.ww a ∧ p.2.1 = lnR.nww a ∧ p.2.2.1 = lnR.ww b ∧ p.2.2.2.1 = l5R.te a ∧ p.2.2.2.2.1 = l5R.te b ∧ p.2.2.2.2.2.1 = lnR.tries a ∧ p.2.2.2.2.2.2.1 = lnR.tries a ∧ p.2.2.2.2.2.2.2 = tgood a})
              (fun i => ([.a (U32 a), .a (U32 b), .any, .any, .any, .a (.one (.ptr 0 (.lit 0))), .a (.one (.int .i64 i.1.2.2.2.1)), .a (.one (.ptr 1 (.lit 0))), .a (.one (.bool i.1.2.2.2.2.2.2.2)), .a (.one (.ptr 2 (.lit 0))), .a (.one (.int .i64 i.1.2.2.2.2.1)), .any, .any, .any, .any, .a (.one (.int .u64 i.1.2.2.2.2.2.1)), .any, .a (.one (.int .u64 i.1.2.2.2.2.2.2.1))] ++ List.replicate 121 .any,
                [some (K4 i.1.1), some (KN i.1.2.1), some (K4 i.1.2.2.1)])) ⟨(_, _, _, _, _, _, _, _), f1, f2, f3, f4, f5, f6, e0, f8⟩ ?_
            rintro ⟨⟨Wa, X, Wb, ea, eb, n, u, ok⟩, f1, f2, f3, f4, f5, f6, f7, f8⟩
            simp only at f1 f2 f3 f4 f5 f6 f7 f8
            have k1 : ok = true := f8.trans hga
            have k2 : rcmp .neq n u = false := by rw [f6, f7]; exact neq_self _
            have hh : lnR.harder a b = false := by show (tgood a && tgood b && decide (tval a < tval b)) = false; rw [hgb, Bool.and_false, Bool.false_and]
            refine run_ex hmix ti_ok tw3_ok 99 false 400 [true, false, false, true] (fun ar lf => by conv => lhs; cbv) (allP ?_) ?_
            · simp only [conj]
              exact ⟨congrArg (fun b => !b) hh, ha, hb, congrArg (fun b => !b) k1, k2, k1, trivial⟩
            · exact Run.ret ti_ok rfl rfl (VLe.yes' rfl)
    · replace hga : tgood a = false := by simpa using hga
      have o6 : (!(lnR.harder a b == false)) = false := by
        have e : lnR.harder a b = false := by show (tgood a && tgood b && decide (tval a < tval b)) = false; rw [hga, Bool.false_and, Bool.false_and]
        rw [e]; rfl
      have o5 : rcmp .neq (l5R.te a) 50 = false := by rw [te_bad hga]; exact neq_self _
      have hw0 : workOf a = 0 := by unfold workOf; rw [hga]; rfl
      have ht0 : lnR.tries a = 0 := by show (if workOf a < (18446744073709551616 : Int) then workOf a else 18446744073709551615) = 0; rw [hw0]; rfl
      refine run_ex hmix ti_ok tw3_ok 99 false (20 + 780) [false, true, false, false, false, false, false] (fun ar lf => exec_stage (by conv => lhs; cbv) (by conv => lhs; cbv)) (allP ?_) ?_
      · simp only [conj]
        exact ⟨o6, hga, ha, hb, o4, o3, nb_bd _, o5, congrArg (fun b => !b) hga, o4, ha, hb, ha, hb, ha, ha, trivial⟩
      refine Run.cut [0, 1, 5, 6, 7, 8, 9, 10, 15, 17] [17] 3 (by decide) rfl rfl ?_
      refine Run.fam (ι := {p : F × F × F × Int × Int × Int × Int × Bool // p.1 = lnR.ww a ∧ p.2.1 = lnR.nww a ∧ p.2.2.1 = lnR.ww b ∧ p.2.2.2.1 = l5R.te a ∧ p.2.2.2.2.1 = l5R.te b ∧ p.2.2.2.2.2.1 = lnR.tries a ∧ p.2.2.2.2.2.2.1 = words (workOf a) 0 ∧ p.2.2.2.2.2.2.2 = tgood a})
        (fun i => ([.a (U32 a), .a (U32 b), .any, .any, .any, .a (.one (.ptr 0 (.lit 0))), .a (.one (.int .i64 i.1.2.2.2.1)), .a (.one (.ptr 1 (.lit 0))), .a (.one (.bool i.1.2.2.2.2.2.2.2)), .a (.one (.ptr 2 (.lit 0))), .a (.one (.int .i64 i.1.2.2.2.2.1)), .any, .any, .any, .any, .a (.one (.int .u64 i.1.2.2.2.2.2.1)), .any, .a (.one (.int .u64 i.1.2.2.2.2.2.2.1))] ++ List.replicate 121 .any,
          [some (K4 i.1.1), some (KN i.1.2.1), some (K4 i.1.2.2.1)])) ⟨(_, _, _, _, _, _, _, _), rfl, rfl, rfl, rfl, rfl, rfl, rfl, rfl⟩ ?_
      rintro ⟨⟨Wa, X, Wb, ea, eb, n, u, ok⟩, f1, f2, f3, f4, f5, f6, f7, f8⟩
      simp only at f1 f2 f3 f4 f5 f6 f7 f8
      have z : ∀ x : Int, x = 0 → rcmp .neq x 0 = false := fun x h => by rw [h]; exact neq_self 0
      have hs : workOf a < (18446744073709551616 : Int) := by rw [hw0]; decide
      have e1 : Wa 1 = 0 := by rw [f1]; exact (words_small hwa.1 hs).2.1
      have e2 : Wa 2 = 0 := by rw [f1]; exact (words_small hwa.1 hs).2.2.1
      have e3 : Wa 3 = 0 := by rw [f1]; exact (words_small hwa.1 hs).2.2.2
      have e0 : u = lnR.tries a := by rw [f7, (words_small hwa.1 hs).1]; exact (if_pos hs).symm
      refine run_ex hmix ti_ok tw3_ok 99 false 400 [false, false, false] (fun ar lf => by conv => lhs; cbv) (allP ?_) ?_
      · simp only [conj]
        exact ⟨z _ e3, z _ e2, z _ e1, trivial⟩
      refine Run.cut [0, 1, 5, 6, 7, 8, 9, 10, 15, 17] [17] 3 (by decide) rfl rfl ?_
      refine Run.fam (ι := {p : F × F × F × Int × Int × Int × Int × Bool // p.1 = lnR.ww a ∧ p.2.1 = lnR.nww a ∧ p.2.2.1 = lnR.ww b ∧ p.2.2.2.1 = l5R.te a ∧ p.2.2.2.2.1 = l5R.te b ∧ p.2.2.2.2.2.1 = lnR.tries a ∧ p.2.2.2.2.2.2.1 = lnR.tries a ∧ p.2.2.2.2.2.2.2 = tgood a})
        (fun i => ([.a (U32 a), .a (U32 b), .any, .any, .any, .a (.one (.ptr 0 (.lit 0))), .a (.one (.int .i64 i.1.2.2.2.1)), .a (.one (.ptr 1 (.lit 0))), .a (.one (.bool i.1.2.2.2.2.2.2.2)), .a (.one (.ptr 2 (.lit 0))), .a (.one (.int .i64 i.1.2.2.2.2.1)), .any, .any, .any, .any, .a (.one (.int .u64 i.1.2.2.2.2.2.1)), .any, .a (.one (.int .u64 i.1.2.2.2.2.2.2.1))] ++ List.replicate 121 .any,
          [some (K4 i.1.1), some (KN i.1.2.1), some (K4 i.1.2.2.1)])) ⟨(_, _, _, _, _, _, _, _), f1, f2, f3, f4, f5, f6, e0, f8⟩ ?_
      rintro ⟨⟨Wa, X, Wb, ea, eb, n, u, ok⟩, f1, f2, f3, f4, f5, f6, f7, f8⟩
      simp only at f1 f2 f3 f4 f5 f6 f7 f8
      have k1 : ok = false := f8.trans hga
      have k2 : rcmp .neq n 0 = false := by rw [f6, ht0]; exact neq_self _
      have hh : lnR.harder a b = false := by show (tgood a && tgood b && decide (tval a < tval b)) = false; rw [hga, Bool.false_and, Bool.false_and]
      refine run_ex hmix ti_ok tw3_ok 99 false 400 [false, true, false, true] (fun ar lf => by conv => lhs; cbv) (allP ?_) ?_
      · simp only [conj]
        exact ⟨congrArg (fun b => !b) hh, ha, hb, k2, congrArg (fun b => !b) k1, k1, trivial⟩
      · exact Run.ret ti_ok rfl rfl (VLe.yes' rfl)
  · cases hs
end Go.Proofs.Ytegcdnjihnpolaa
