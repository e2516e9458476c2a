import Derived.Test.YtegcdnjihnpolaaUw
set_option linter.unusedSimpArgs false
set_option linter.unusedVariables false
namespace Go.Proofs.Ytegcdnjihnpolaa
open Go Go.Eng Go.Proofs Go.RowKit
theorem span_facts (x y : Int) : 120 ≤ spanOf x y ∧ spanOf x y ≤ 1920 := by
  unfold spanOf
  split
  · omega
  · split <;> omega
theorem rcmp_gtr' (x y : Int) : rcmp .gtr x y = decide (x > y) := by unfold rcmp; rfl
theorem lim_big : tlim * 2 < (115792089237316195423570985008687907853269984665640564039457584007913129639936 : Int) := by unfold tlim; decide +kernel
/-- what 'over' says of a product -/
theorem over_val {P : Int} (h0 : 0 ≤ P) (h1 : P < (115792089237316195423570985008687907853269984665640564039457584007913129639936 : Int) * 4096) :
    (P / 480 < (115792089237316195423570985008687907853269984665640564039457584007913129639936 : Int) ∧ ovm (P / (115792089237316195423570985008687907853269984665640564039457584007913129639936 : Int)) (P % (115792089237316195423570985008687907853269984665640564039457584007913129639936 : Int)) 480 = P / 480) ∨
    (¬ P / 480 < (115792089237316195423570985008687907853269984665640564039457584007913129639936 : Int) ∧ ovm (P / (115792089237316195423570985008687907853269984665640564039457584007913129639936 : Int)) (P % (115792089237316195423570985008687907853269984665640564039457584007913129639936 : Int)) 480 = -1) := by
  by_cases hz : P / (115792089237316195423570985008687907853269984665640564039457584007913129639936 : Int) / 480 = 0
  · left
    refine ⟨by omega, ?_⟩
    rw [ovm_zero hz]
    congr 1
    omega
  · right
    refine ⟨by omega, ovm_big hz⟩
attribute [local irreducible] CallOk HOk Run TIok rbin rcmp run1 words val updF shfF blitF pv V40 nb wq tgt rb tlim tgood tval cmant bytesOf gk workOf cpt ovm spanOf nextVal
def tx2 (l : LX) : Tbl := tbL [(62, sExpand l.ln.l5), (93, sFrom l.ln.l5.lf), (49, sMul l.ln.l5.lf), (120, sOver l), (70, sLimit l.ln.l5), (51, sCmp l.ln.l5.lf), (55, sZero l.ln.l5.lf), (65, sCompact l.ln.l5)] []
theorem tx2_ok : TblOk Try.prog (tx2 lxR) := tbL_ok (by simpa [lxln, lxl5, lnl5, l5lf] using ⟨expand_ok, from_ok, mul_ok, over_ok, limit_ok, wcmp_ok, zero_ok, compact_ok⟩) (by simp)
set_option maxRecDepth 100000 in
theorem next_ok : CallOk Try.prog 96 (sNext lxR) := by
  refine .evalN (tb := tx2) hmix ti_ok tx2_ok Try.func96 rfl (by kernel_rfl) (by kernel_rfl) (num32t_spec_norm (g := fun b x y => (.tup [U32 (lxR.nx b x y), I (lxR.ln.l5.te b)], [lxR.ln.l5.u32 b, lxR.ln.l5.u32 x, lxR.ln.l5.u32 y])) (fun l => rfl)) fun xs v ps hn hs hp => ?_
  unfold sNext at hs
  split at hs
  · rename_i b x y h
    obtain rfl := num32t_int h hn
    cases hs
    have hb : 0 ≤ b ∧ b < 4294967296 := hp (l5R.u32 b) (by simp [lxR, lnR])
    have hx : 0 ≤ x ∧ x < 4294967296 := hp (l5R.u32 x) (by simp [lxR, lnR])
    have hy : 0 ≤ y ∧ y < 4294967296 := hp (l5R.u32 y) (by simp [lxR, lnR])
    clear hp h hn
    have hl := tlim_lt
    have hl2 := lim_big
    have htv := tval_lt b
    by_cases hg : tgood b = true
    · have hnx : lxR.nx b x y = cpt (nextVal b x y) := if_pos hg
      have hte := te_g hg
      have hte2 : rcmp .neq (l5R.te b) 0 = false := by rw [hte]; exact neq_self 0
      have sp := span_facts x y
      have cx : IntKind.i64.wrap x = x := wrap_i64 (by omega)
      have cy : IntKind.i64.wrap y = y := wrap_i64 (by omega)
      have es : rbin .sub .i64 (IntKind.i64.wrap y) (IntKind.i64.wrap x) = y - x := by rw [cx, cy]; exact rbin_subi (by omega)
      have esp : IntKind.u64.wrap (arR.mn (arR.mx (rbin .sub .i64 (IntKind.i64.wrap y) (IntKind.i64.wrap x)) 120) 1920) = spanOf x y := by
        rw [es]
        have e : arR.mn (arR.mx (y - x) 120) 1920 = spanOf x y := by
          show (if (1920 : Int) < (if (120 : Int) > y - x then 120 else y - x) then (1920 : Int) else (if (120 : Int) > y - x then 120 else y - x)) = spanOf x y
          unfold spanOf
          split <;> split <;> first | omega | (split <;> omega)
        rw [e, wrap_u64]; omega
      have hvw : val (l5R.tw b) = tval b := val_words_of htv.1 (by omega)
      have hvs : val (lfR.wfrom (spanOf x y)) = spanOf x y := val_words_of (by omega) (by omega)
      have hP0 : 0 ≤ tval b * spanOf x y := Int.mul_nonneg htv.1 (by omega)
      have hP1 : tval b * spanOf x y ≤ tval b * 1920 := Int.mul_le_mul_of_nonneg_left sp.2 htv.1
      have hP2 : tval b * spanOf x y < (115792089237316195423570985008687907853269984665640564039457584007913129639936 : Int) * 4096 := by omega
      have hvl : val (lfR.wmulL (l5R.tw b) (lfR.wfrom (spanOf x y))) = tval b * spanOf x y % (115792089237316195423570985008687907853269984665640564039457584007913129639936 : Int) := by
        show val (words (val (l5R.tw b) * val (lfR.wfrom (spanOf x y)))) = _
        rw [hvw, hvs, val_words]
      have hvh : val (lfR.wmulH (l5R.tw b) (lfR.wfrom (spanOf x y))) = tval b * spanOf x y / (115792089237316195423570985008687907853269984665640564039457584007913129639936 : Int) := by
        show val (words (val (l5R.tw b) * val (lfR.wfrom (spanOf x y)) / (115792089237316195423570985008687907853269984665640564039457584007913129639936 : Int))) = _
        rw [hvw, hvs, val_words_of (by omega) (by omega)]
      have hO : lxR.ov (lfR.wmulH (l5R.tw b) (lfR.wfrom (spanOf x y))) (lfR.wmulL (l5R.tw b) (lfR.wfrom (spanOf x y))) 480 = words (ovm (tval b * spanOf x y / (115792089237316195423570985008687907853269984665640564039457584007913129639936 : Int)) (tval b * spanOf x y % (115792089237316195423570985008687907853269984665640564039457584007913129639936 : Int)) 480) := by
        show words (ovm (val _) (val _) 480) = _
        rw [hvh, hvl]
      have hov := over_val hP0 hP2
      have hnv : nextVal b x y = if tlim < tval b * spanOf x y / 480 then tlim else if tval b * spanOf x y / 480 = 0 then 1 else tval b * spanOf x y / 480 := by unfold nextVal; rfl
      generalize tval b * spanOf x y = P at *
      have hcmp : rcmp .gtr (lfR.wcmp (lxR.ov (lfR.wmulH (l5R.tw b) (lfR.wfrom (spanOf x y))) (lfR.wmulL (l5R.tw b) (lfR.wfrom (spanOf x y))) 480) l5R.lim) 0 = decide (tlim < P / 480) := by
        rw [cmp_gt0, vlim, hO, decide_eq_decide, val_words]
        rcases hov with ⟨o1, o2⟩ | ⟨o1, o2⟩
        · rw [o2]; omega
        · rw [o2]; omega
      have hsq : ∀ s, s = spanOf x y → lxR.ov (lfR.wmulH (l5R.tw b) (lfR.wfrom s)) (lfR.wmulL (l5R.tw b) (lfR.wfrom s)) 480 = words (ovm (P / (115792089237316195423570985008687907853269984665640564039457584007913129639936 : Int)) (P % (115792089237316195423570985008687907853269984665640564039457584007913129639936 : Int)) 480) := by
        intro s hs; rw [hs]; exact hO
      have hu : ∀ s, s = spanOf x y → lfR.u64 s := by
        intro s hs; rw [hs]; exact ⟨by omega, by omega⟩
      have h480 : lxR.nlit 480 := ⟨by decide, by decide⟩
      have hcmp2 : ∀ s, s = spanOf x y → rcmp .gtr (lfR.wcmp (lxR.ov (lfR.wmulH (l5R.tw b) (lfR.wfrom s)) (lfR.wmulL (l5R.tw b) (lfR.wfrom s)) 480) l5R.lim) 0 = decide (tlim < P / 480) := by
        intro s hs; rw [hs]; exact hcmp
      have tl0 : 0 < tlim := by unfold tlim; decide +kernel
      by_cases hbig : tlim < P / 480
      · rw [if_pos hbig] at hnv
        have hz : lfR.wzero l5R.lim = false := decide_eq_false (by rw [vlim]; omega)
        refine ⟨800, [false, true, false], _, fun ar lf => by conv => lhs; cbv, allP ?_, .tup2 (.int ?_) (.lit hte.symm)⟩
        · simp only [conj]
          and_intros <;> first | exact words_bd _ | exact hte2 | exact hb | exact hb.1 | exact hb.2 | exact hz | exact h480 | exact h480.1 | exact h480.2 | exact (hcmp2 _ esp).trans (decide_eq_true hbig) | exact (hcmp2 _ esp).trans (decide_eq_false hbig) | exact hu _ esp | exact (hu _ esp).1 | exact (hu _ esp).2 | trivial | exact (show (0 : Int) ≤ 1 by decide) | exact (show (1 : Int) < 18446744073709551616 by decide)
        · rw [hnx, hnv]
          show cpt (val l5R.lim) = _
          rw [vlim]
      · rw [if_neg hbig] at hnv
        have hfit : P / 480 < (115792089237316195423570985008687907853269984665640564039457584007913129639936 : Int) := by omega
        have hov2 : ovm (P / (115792089237316195423570985008687907853269984665640564039457584007913129639936 : Int)) (P % (115792089237316195423570985008687907853269984665640564039457584007913129639936 : Int)) 480 = P / 480 := by
          rcases hov with ⟨_, o2⟩ | ⟨o1, _⟩
          · exact o2
          · exact absurd hfit o1
        have hvo : ∀ s, s = spanOf x y → val (lxR.ov (lfR.wmulH (l5R.tw b) (lfR.wfrom s)) (lfR.wmulL (l5R.tw b) (lfR.wfrom s)) 480) = P / 480 := by
          intro s hs
          rw [hsq s hs, hov2, val_words_of (by omega) hfit]
        by_cases hz0 : P / 480 = 0
        · rw [if_pos hz0] at hnv
          have hz : lfR.wzero (lxR.ov (lfR.wmulH (l5R.tw b) (lfR.wfrom _)) (lfR.wmulL (l5R.tw b) (lfR.wfrom _)) 480) = true := decide_eq_true ((hvo _ esp).trans hz0)
          refine ⟨800, [false, false, true], _, fun ar lf => by conv => lhs; cbv, allP ?_, .tup2 (.int ?_) (.lit hte.symm)⟩
          · simp only [conj]
            and_intros <;> first | exact words_bd _ | exact hte2 | exact hb | exact hb.1 | exact hb.2 | exact hz | exact h480 | exact h480.1 | exact h480.2 | exact (hcmp2 _ esp).trans (decide_eq_true hbig) | exact (hcmp2 _ esp).trans (decide_eq_false hbig) | exact hu _ esp | exact (hu _ esp).1 | exact (hu _ esp).2 | trivial | exact (show (0 : Int) ≤ 1 by decide) | exact (show (1 : Int) < 18446744073709551616 by decide)
          · rw [hnx, hnv]
            show cpt (val (lfR.wfrom 1)) = _
            rw [show val (lfR.wfrom 1) = 1 from val_words_of (by decide) (by decide)]
        · rw [if_neg hz0] at hnv
          have hz : lfR.wzero (lxR.ov (lfR.wmulH (l5R.tw b) (lfR.wfrom _)) (lfR.wmulL (l5R.tw b) (lfR.wfrom _)) 480) = false := decide_eq_false (by rw [hvo _ esp]; exact hz0)
          refine ⟨800, [false, false, false], _, fun ar lf => by conv => lhs; cbv, allP ?_, .tup2 (.int ?_) (.lit hte.symm)⟩
          · simp only [conj]
            and_intros <;> first | exact words_bd _ | exact hte2 | exact hb | exact hb.1 | exact hb.2 | exact hz | exact h480 | exact h480.1 | exact h480.2 | exact (hcmp2 _ esp).trans (decide_eq_true hbig) | exact (hcmp2 _ esp).trans (decide_eq_false hbig) | exact hu _ esp | exact (hu _ esp).1 | exact (hu _ esp).2 | trivial | exact (show (0 : Int) ≤ 1 by decide) | exact (show (1 : Int) < 18446744073709551616 by decide)
          · rw [hnx, hnv]
            exact congrArg cpt (hvo _ esp)
    · have hg0 : tgood b = false := by simpa using hg
      have hte2 : rcmp .neq (l5R.te b) 0 = true := by rw [te_b hg0]; exact neq_y (by decide)
      refine ⟨800, [true], _, fun ar lf => by conv => lhs; cbv, allP ?_, .tup2 (.lit ?_) (.int rfl)⟩
      · simp only [conj]
        exact ⟨hte2, hb, trivial⟩
      · exact (if_neg hg).symm
  · cases hs
end Go.Proofs.Ytegcdnjihnpolaa
