import Derived.Test.YtegcdnjihnpolaaUv
set_option linter.unusedSimpArgs false
set_option linter.unusedVariables false
namespace Go.Proofs.Ytegcdnjihnpolaa
open Go Go.Eng Go.Proofs Go.RowKit
theorem ovm_zero {h lo n : Int} (hz : h / n = 0) : ovm h lo n = (h * (115792089237316195423570985008687907853269984665640564039457584007913129639936 : Int) + lo) / n := by unfold ovm; rw [if_pos hz]
theorem ovm_big {h lo n : Int} (hz : h / n ≠ 0) : ovm h lo n = -1 := by unfold ovm; rw [if_neg hz]
theorem wfrom_val {n : Int} (h0 : 0 ≤ n) (h1 : n < 4294967296) : val (lfR.wfrom n) = n := val_words_of h0 (by omega)
/-- two halves as one word -/
theorem halves {a y : Int} (ha0 : 0 ≤ a) (ha1 : a < 4294967296) (hy0 : 0 ≤ y) (hy1 : y < 4294967296) : rbin .or .u64 (rbin .shl .u64 a 32) y = a * 4294967296 + y := by
  have e : p2 32 = 4294967296 := by decide
  rw [rbin_shl (m := 32) a rfl]
  have := (or_add (a := a) (y := y) (s := 32) (by decide) ⟨hy0, by rw [e]; exact hy1⟩).1
  rw [this, e]
  omega
theorem words_def (n : Int) (j : Nat) : words n j = n / (18446744073709551616 : Int) ^ j % (18446744073709551616 : Int) := rfl
attribute [local irreducible] CallOk HOk Run TIok rbin rcmp run1 words val updF shfF blitF pv V40 nb wq tgt rb tlim tgood tval cmant bytesOf gk workOf cpt ovm
def tx1 (l : LX) : Tbl := tbL [(93, sFrom l.ln.l5.lf), (56, sDiv l.ln.l5.lf), (55, sZero l.ln.l5.lf), (53, sNot l.ln.l5.lf), (94, sLow l.ln.l5)] []
theorem tx1_ok : TblOk Try.prog (tx1 lxR) := tbL_ok (by simpa [lxln, lxl5, lnl5, l5lf] using ⟨from_ok, div_ok, zero_ok, not_ok, low_ok⟩) (by simp)
set_option maxRecDepth 100000 in
theorem over_ok : CallOk Try.prog 120 (sOver lxR) := by
  refine .nrm (wwn_spec_norm (k := fun f g n => (.a (W (lxR.ov f g n)), [lxR.ln.l5.lf.bd f, lxR.ln.l5.lf.bd g, lxR.nlit n])) (fun l => rfl)) (.of_run (hc := (tx1 lxR).hc) Try.func120 rfl (by kernel_rfl) (by kernel_rfl) fun xs v ps hs hp w => ?_)
  split at hs
  case isFalse => cases hs
  rename_i hnm
  unfold sOver at hs
  split at hs
  · rename_i f g n h
    obtain rfl := wwn_int h hnm
    cases hs
    have hf : bd f := hp (lfR.bd f) (by simp [lxR, lnR, l5R])
    have hg : bd g := hp (lfR.bd g) (by simp [lxR, lnR, l5R])
    have hi : 0 < n ∧ n < 4294967296 := hp (lxR.nlit n) (by simp)
    clear hp h hnm
    have hvf := val_bd hf
    have hvg := val_bd hg
    have hfn := wfrom_val (n := n) (by omega) (by omega)
    have hu : lfR.u64 n := ⟨by omega, by omega⟩
    have hq0 : 0 ≤ val f / n := Int.ediv_nonneg hvf.1 (by omega)
    have hq1 := Int.ediv_le_self n hvf.1
    have hvq : val (lfR.wdivQ f (lfR.wfrom n)) = val f / n := by
      show val (words (val f / val (lfR.wfrom n))) = _
      rw [hfn, val_words_of hq0 (by omega)]
    by_cases hz : val f / n = 0
    · have hzz : lfR.wzero (lfR.wdivQ f (lfR.wfrom n)) = true := decide_eq_true (hvq.trans hz)
      have hH : val f < n := by
        have := Int.emod_add_mul_ediv (val f) n
        rw [hz, Int.mul_zero, Int.add_zero] at this
        rw [← this]; exact Int.emod_lt_of_pos _ hi.1
      have hvr : val (lfR.wdivR f (lfR.wfrom n)) = val f := by
        show val (words (if val (lfR.wfrom n) = 0 then 0 else val f % val (lfR.wfrom n))) = _
        rw [hfn, if_neg (by omega), Int.emod_eq_of_lt hvf.1 hH, val_words_of hvf.1 hvf.2]
      have hlow : l5R.low (lfR.wdivR f (lfR.wfrom n)) = val f := by
        show (if val (lfR.wdivR f (lfR.wfrom n)) < (18446744073709551616 : Int) then val (lfR.wdivR f (lfR.wfrom n)) else 0) = _
        rw [hvr, if_pos (by omega)]
      have hov := ovm_zero (lo := val g) hz
      generalize hVV : val f * (115792089237316195423570985008687907853269984665640564039457584007913129639936 : Int) + val g = VV at *
      have hV0 : 0 ≤ VV := by rw [← hVV]; omega
      refine run_ex hmix ti_ok tx1_ok 0 false 800 [false] (fun ar lf => by conv => lhs; cbv) (allP ?_) ?_
      · simp only [conj]
        exact ⟨words_bd _, congrArg (fun b => !b) hzz, words_bd _, hf, words_bd _, hu, trivial⟩
      refine Run.cut [2, 4, 6, 11, 12, 14] [2, 14] 7 (by decide) rfl rfl ?_
      refine Run.loop (ι := {p : Int × Int × F × F × F × F // -1 ≤ p.1 ∧ p.1 ≤ 3 ∧ p.2.1 = VV / p2 (64 * (p.1 + 1).toNat) % n ∧ (∀ k : Nat, k < 4 → p.1 < k → p.2.2.1 k = words (VV / n) k)})
        (fun i => ([.any, .any, .a (.one (.int .u64 n)), .any, .a (.one (.ptr 1 (.lit 0))), .any, .a (.one (.ptr 2 (.lit 0))), .any, .any, .any, .any, .a (.one (.ptr 6 (.lit 0))), .a (.one (.int .u64 i.1.2.1)), .any, .a (.one (.int .i64 i.1.1))] ++ List.replicate 57 .any,
          [some (K4 f), some (K4 g), some (K4 fun _ => 0), some (K4 i.1.2.2.2.1), some (K4 i.1.2.2.2.2.1), some (K4 i.1.2.2.2.2.2), some (K4 i.1.2.2.1)]))
        (fun i => (i.1.1 + 1).toNat) ⟨(3, l5R.low (lfR.wdivR f (lfR.wfrom n)), fun _ => 0, lfR.wfrom n, lfR.wdivQ f (lfR.wfrom n), lfR.wdivR f (lfR.wfrom n)), show (-1 : Int) ≤ 3 by decide, show (3 : Int) ≤ 3 by decide, ?_, ?_⟩ ?_
      · show l5R.low (lfR.wdivR f (lfR.wfrom n)) = VV / p2 256 % n
        rw [hlow, ← hVV, p2_256, Int.add_comm, Int.add_mul_ediv_right _ _ (by decide), Int.ediv_eq_zero_of_lt hvg.1 hvg.2, Int.zero_add, Int.emod_eq_of_lt hvf.1 hH]
      · intro k hk hk2
        have : (3 : Int) < k := hk2
        omega
      rintro ⟨⟨i, r, q, g3, g4, g5⟩, h0, h1, hr, hq⟩ ih
      simp only at h0 h1 hr hq
      by_cases hn : 0 ≤ i
      · have en : (i + 1).toNat = i.toNat + 1 := by omega
        rw [en] at hr
        have ei : 0 + i.toNat * 1 = i.toNat := by omega
        have esub : rbin .sub .i64 i 1 = i - 1 := rbin_subi (by omega)
        have emu : (rbin .sub .i64 i 1 + 1).toNat < (i + 1).toNat := by rw [esub]; omega
        have esub1 : rbin .sub .i64 i 1 + 1 = i := by rw [esub]; omega
        have hX := hg i.toNat (by omega)
        have hwi : words VV i.toNat = g i.toNat := by
          rw [← words_val hg i.toNat (by omega)]
          exact words_congr (by rw [← hVV, Int.add_comm, Int.add_mul_emod_self_right]) _ (by omega)
        have hA : VV / p2 (64 * (i.toNat + 1)) * (18446744073709551616 : Int) + g i.toNat = VV / p2 (64 * i.toNat) := by
          rw [← hwi, show 64 * (i.toNat + 1) = 64 * i.toNat + 64 by omega, p2_add, ← Int.ediv_ediv_of_nonneg (Int.le_of_lt (p2_pos _)), p2_64]
          rw [words_def, m64_pow]
          generalize VV / p2 (64 * i.toNat) = Y
          omega
        obtain ⟨d1, d2, d3⟩ := over_digit (A := VV / p2 (64 * (i.toNat + 1))) (x := g i.toNat) hi.1 (show (0 : Int) < 18446744073709551616 by decide) hX.1 hX.2
        rw [← hr, hA] at d1 d2
        have hr0 : 0 ≤ r := by rw [hr]; exact Int.emod_nonneg _ (Int.ne_of_gt hi.1)
        have hr1 : r < n := by rw [hr]; exact Int.emod_lt_of_pos _ hi.1
        obtain ⟨v1, v2⟩ := over_half (x := g i.toNat) hi.1 hr0 hr1 hX.1 hX.2
        rw [d1] at v1
        rw [d2] at v2
        have hdig : VV / p2 (64 * i.toNat) / n % (18446744073709551616 : Int) = words (VV / n) i.toNat := by
          rw [words_def, m64_pow, Int.ediv_ediv_of_nonneg (Int.le_of_lt (p2_pos _)), Int.ediv_ediv_of_nonneg (Int.le_of_lt hi.1), Int.mul_comm]
        rw [hdig] at v1
        have x1 : rbin .shr .u64 (g i.toNat) 32 = g i.toNat / 4294967296 := by rw [rbin_shr (m := 32) _ rfl, show p2 32 = 4294967296 by decide]
        have x2 : rbin .and .u64 (g i.toNat) 4294967295 = g i.toNat % 4294967296 := rbin_and32 _ hX.1 hX.2
        have y1 : rbin .or .u64 (rbin .shl .u64 r 32) (g i.toNat / 4294967296) = r * 4294967296 + g i.toNat / 4294967296 := halves hr0 (by omega) (by omega) (by omega)
        generalize hup : r * 4294967296 + g i.toNat / 4294967296 = up at *
        have up0 : 0 ≤ up := by omega
        have up1 : up < 4294967296 * n := by omega
        have y2 : rbin .rem .u64 up n = up % n := rbin_rem up0
        have y3 : rbin .quo .u64 up n = up / n := rbin_quo up0 (by omega) hi.1
        have um0 := Int.emod_nonneg up (Int.ne_of_gt hi.1)
        have um1 := Int.emod_lt_of_pos up hi.1
        have y4 : rbin .or .u64 (rbin .shl .u64 (up % n) 32) (g i.toNat % 4294967296) = up % n * 4294967296 + g i.toNat % 4294967296 := halves um0 (by omega) (by omega) (by omega)
        generalize hlo : up % n * 4294967296 + g i.toNat % 4294967296 = lo at *
        have lo0 : 0 ≤ lo := by omega
        have lo1 : lo < 4294967296 * n := by omega
        have y5 : rbin .rem .u64 lo n = lo % n := rbin_rem lo0
        have y6 : rbin .quo .u64 lo n = lo / n := rbin_quo lo0 (by omega) hi.1
        have y7 : rbin .or .u64 (rbin .shl .u64 (up / n) 32) (lo / n) = up / n * 4294967296 + lo / n := halves (Int.ediv_nonneg up0 (by omega)) (Int.ediv_lt_of_lt_mul hi.1 up1) (Int.ediv_nonneg lo0 (by omega)) (Int.ediv_lt_of_lt_mul hi.1 lo1)
        refine run_ex hmix ti_ok tx1_ok 2 false 800 [true] (fun ar lf => by conv => lhs; cbv) (allP ?_) ?_
        · simp only [conj, arR, N.val, rcmp_geq, ei, decide_eq_true_eq]
          and_intros <;> first | trivial | omega
        · refine Run.cut [2, 4, 6, 11, 12, 14] [2, 14] 7 (by decide) rfl rfl ?_
          refine ih ⟨(_, _, _, _, _, _), ?_, ?_, ?_, ?_⟩ emu _ _
          · simp only [esub]; omega
          · simp only [esub]; omega
          · simp only [arR, N.val, ei, x1, x2, y1, y2, y4, y5, esub1]
            exact v2
          · simp only [arR, N.val, ei, x1, x2, y1, y2, y3, y4, y5, y6, y7, esub]
            intro k hk hik
            rw [updF_at]
            split
            · rename_i h; rw [h]; exact v1
            · exact hq k hk (by omega)
      · obtain rfl : i = -1 := by omega
        refine run_ex hmix ti_ok tx1_ok 2 false 800 [false] (fun ar lf => by conv => lhs; cbv) (allP ?_) ?_
        · simp only [conj, arR, rcmp_geq]
          decide
        · refine Run.ret ti_ok rfl rfl (.a (.ints fun j hj => ?_))
          show q j = words (ovm (val f) (val g) n) j
          rw [hov]
          exact hq j hj (by omega)
    · have hzz : lfR.wzero (lfR.wdivQ f (lfR.wfrom n)) = false := decide_eq_false (by rw [hvq]; exact hz)
      refine run_ex hmix ti_ok tx1_ok 0 false 800 [true] (fun ar lf => by conv => lhs; cbv) (allP ?_) ?_
      · simp only [conj]
        exact ⟨fun j _ => ⟨Int.le_refl 0, show (0 : Int) < 18446744073709551616 by decide⟩, congrArg (fun b => !b) hzz, words_bd _, hf, words_bd _, hu, trivial⟩
      · refine Run.ret ti_ok rfl rfl (.a (.ints fun j hj => ?_))
        show words (-1 - val (fun _ => 0)) j = words (ovm (val f) (val g) n) j
        rw [ovm_big hz]
        have e : val (fun _ => 0) = 0 := by unfold val; rfl
        rw [e]; rfl
  · cases hs
end Go.Proofs.Ytegcdnjihnpolaa
