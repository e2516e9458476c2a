import Derived.Test.YtegcdnjihnpolaaUk
set_option linter.unusedSimpArgs false
set_option linter.unusedVariables false
namespace Go.Proofs.Ytegcdnjihnpolaa
open Go Go.Eng Go.Proofs Go.RowKit
/-- what the one form of a number says is the number but for its lowest part -/
theorem cpt_form {n : Int} (h0 : 0 < n) (h1 : n < (115792089237316195423570985008687907853269984665640564039457584007913129639936 : Int)) :
    0 ≤ cpt n ∧ cpt n < 4294967296 ∧ cpt n / 8388608 % 2 = 0 ∧ ∃ e : Nat, tgt (cpt n) = n / 256 ^ e * 256 ^ e ∧ (e = 0 ∨ 256 ^ e * 32768 ≤ n) := by
  obtain ⟨b0, b1, b2⟩ := bytesOf_facts (Int.le_of_lt h0) h1
  obtain ⟨-, c1, c2⟩ := cmant_facts (Int.le_of_lt h0) h1
  have hlow : p2 (8 * (bytesOf n - 1)).toNat ≤ n ∧ 1 ≤ bytesOf n := by
    have hne : ¬ bitLen n.toNat ≤ 0 := fun h => by
      have := (bitLen_gt (n := 0) (Int.le_of_lt h0)).1 h
      rw [show p2 0 = 1 by decide] at this
      omega
    have hb : 1 ≤ bytesOf n := by unfold bytesOf; omega
    refine ⟨?_, hb⟩
    apply Decidable.byContradiction
    intro h
    have := (bitLen_gt (n := (8 * (bytesOf n - 1)).toNat) (Int.le_of_lt h0)).2 (by omega)
    unfold bytesOf at *
    omega
  obtain ⟨hl, hb1⟩ := hlow
  have hm : cmant n = if bytesOf n ≤ 3 then n * p2 (8 * (3 - bytesOf n)).toNat else n / p2 (8 * (bytesOf n - 3)).toNat := rfl
  unfold cpt
  generalize hs : bytesOf n = s at *
  generalize hmm : cmant n = m at *
  by_cases hbit : m / 8388608 % 2 = 1
  · rw [if_pos hbit]
    have e1 : ((s + 1) * 16777216 + m / 256) / 16777216 = s + 1 := by omega
    have e2 : ((s + 1) * 16777216 + m / 256) % 8388608 = m / 256 := by omega
    refine ⟨by omega, by omega, by omega, ?_⟩
    unfold tgt
    rw [e1, e2]
    by_cases h3 : s ≤ 2
    · rw [if_pos (by omega)] at hm ⊢
      refine ⟨0, ?_, .inl rfl⟩
      have e3 : p2 (8 * (3 - s)).toNat = 256 * p2 (8 * (3 - (s + 1))).toNat := by
        rw [show (256 : Int) = p2 8 by decide, ← p2_add]; congr 1; omega
      have hp := p2_pos (8 * (3 - (s + 1))).toNat
      rw [hm, e3, show n * (256 * p2 (8 * (3 - (s + 1))).toNat) = 256 * (n * p2 (8 * (3 - (s + 1))).toNat) by grind, Int.mul_ediv_cancel_left _ (by decide), Int.mul_ediv_cancel _ (Int.ne_of_gt hp), Int.pow_zero, Int.ediv_one, Int.mul_one]
    · rw [if_neg (by omega)]
      have hm2 : m = n / p2 (8 * (s - 3)).toNat := by
        split at hm
        · rw [hm, show (8 * (3 - s)).toNat = 0 by omega, show (8 * (s - 3)).toNat = 0 by omega, show p2 0 = 1 by decide, Int.mul_one, Int.ediv_one]
        · exact hm
      have e3 : p2 (8 * (s + 1 - 3)).toNat = p2 (8 * (s - 3)).toNat * 256 := by
        rw [show (256 : Int) = p2 8 by decide, ← p2_add]; congr 1; omega
      have e4 : (256 : Int) ^ (s - 2).toNat = p2 (8 * (s - 3)).toNat * 256 := by
        rw [pow256, ← e3]; congr 1; omega
      have hp := p2_pos (8 * (s - 3)).toNat
      refine ⟨(s - 2).toNat, ?_, .inr ?_⟩
      · rw [e3, e4, hm2, Int.ediv_ediv_of_nonneg (Int.le_of_lt hp)]
      · rw [e4, Int.mul_assoc]
        have h5 : 8388608 ≤ n / p2 (8 * (s - 3)).toNat := by rw [← hm2]; omega
        have h6 := (Int.le_ediv_iff_mul_le hp).1 h5
        omega
  · rw [if_neg hbit]
    have e1 : (s * 16777216 + m) / 16777216 = s := by omega
    have e2 : (s * 16777216 + m) % 8388608 = m := by omega
    refine ⟨by omega, by omega, by omega, ?_⟩
    unfold tgt
    rw [e1, e2]
    by_cases h3 : s ≤ 3
    · rw [if_pos h3] at hm ⊢
      refine ⟨0, ?_, .inl rfl⟩
      rw [hm, Int.mul_ediv_cancel _ (Int.ne_of_gt (p2_pos _)), Int.pow_zero, Int.ediv_one, Int.mul_one]
    · rw [if_neg h3] at hm ⊢
      have e4 : (256 : Int) ^ (s - 3).toNat = p2 (8 * (s - 3)).toNat := by rw [pow256]; congr 1; omega
      refine ⟨(s - 3).toNat, by rw [e4, hm], .inr ?_⟩
      have e5 : p2 (8 * (s - 1)).toNat = p2 (8 * (s - 3)).toNat * 65536 := by
        rw [show (65536 : Int) = p2 16 by decide, ← p2_add]; congr 1; omega
      have hp := p2_pos (8 * (s - 3)).toNat
      rw [e4]
      omega
theorem cpt_near {n : Int} (h0 : 0 < n) (h1 : n ≤ tlim) :
    0 ≤ cpt n ∧ cpt n < 4294967296 ∧ tgood (cpt n) = true ∧ tval (cpt n) ≤ n ∧ (n - tval (cpt n)) * 32768 < n := by
  have hl := tlim_lt
  obtain ⟨a0, a1, a2, e, a3, a4⟩ := cpt_form h0 (by omega)
  have hp := pow256_pos e
  have hem := Int.emod_add_mul_ediv n (256 ^ e)
  have h2 := Int.emod_nonneg n (Int.ne_of_gt hp)
  have h3 := Int.emod_lt_of_pos n hp
  rw [Int.mul_comm] at hem
  have hge : 256 ^ e ≤ n := by
    rcases a4 with a4 | a4
    · subst a4; rw [Int.pow_zero]; omega
    · omega
  have hq : 0 < n / 256 ^ e * 256 ^ e := by omega
  have hg : tgood (cpt n) = true := by
    unfold tgood
    exact decide_eq_true ⟨a2, by rw [a3]; exact hq, by rw [a3]; omega⟩
  have hv : tval (cpt n) = n / 256 ^ e * 256 ^ e := by unfold tval; rw [if_pos hg, a3]
  refine ⟨a0, a1, hg, by rw [hv]; omega, ?_⟩
  rw [hv]
  rcases a4 with a4 | a4
  · subst a4
    rw [Int.pow_zero] at *
    omega
  · have : (n % 256 ^ e + 1) * 32768 ≤ 256 ^ e * 32768 := Int.mul_le_mul_of_nonneg_right (by omega) (by decide)
    omega
theorem work_eq {t : Int} (h0 : 0 ≤ t) (h1 : t < (115792089237316195423570985008687907853269984665640564039457584007913129639936 : Int)) :
    ((115792089237316195423570985008687907853269984665640564039457584007913129639936 : Int) - 1 - t) / (t + 1) + 1 = p2 256 / (t + 1) := by
  rw [p2_256]
  have : (115792089237316195423570985008687907853269984665640564039457584007913129639936 : Int) = (115792089237316195423570985008687907853269984665640564039457584007913129639936 - 1 - t) + 1 * (t + 1) := by omega
  conv => rhs; rw [this]
  rw [Int.add_mul_ediv_right _ _ (by omega)]
theorem workOf_lt (b : Int) : 0 ≤ workOf b ∧ workOf b < (115792089237316195423570985008687907853269984665640564039457584007913129639936 : Int) := by
  unfold workOf
  split
  · rename_i hg
    have ht : 0 < tval b := by
      unfold tval; rw [if_pos hg]; unfold tgood at hg; rw [decide_eq_true_eq] at hg; exact hg.2.1
    rw [p2_256]
    refine ⟨Int.ediv_nonneg (by decide) (by omega), Int.ediv_lt_of_lt_mul (by omega) ?_⟩
    have : (115792089237316195423570985008687907853269984665640564039457584007913129639936 : Int) * 2 ≤ 115792089237316195423570985008687907853269984665640564039457584007913129639936 * (tval b + 1) := Int.mul_le_mul_of_nonneg_left (by omega) (by decide)
    omega
  · exact ⟨Int.le_refl _, by decide⟩
attribute [local irreducible] CallOk HOk Run TIok rbin rcmp run1 words val updF shfF blitF pv V40 nb wq tgt rb tlim tgood tval cmant bytesOf gk workOf
def tn4 (l : LN) : Tbl := tbL [(62, sExpand l.l5), (93, sFrom l.l5.lf), (46, sAdd l.l5.lf), (53, sNot l.l5.lf), (56, sDiv l.l5.lf)] []
theorem tn4_ok : TblOk Try.prog (tn4 lnR) := tbL_ok (by simpa [lnl5, l5lf] using ⟨expand_ok, from_ok, add_ok, not_ok, div_ok⟩) (by simp)
set_option maxRecDepth 100000 in
theorem work_ok : CallOk Try.prog 83 (sWork lnR) := by
  refine .evalN (tb := tn4) hmix ti_ok tn4_ok Try.func83 rfl (by kernel_rfl) (by kernel_rfl) (num32_spec_norm (g := fun b => (.tup [W (lnR.ww b), I (lnR.l5.te b)], [lnR.l5.u32 b])) (fun l => rfl)) fun xs v ps hn hs hp => ?_
  unfold sWork at hs
  split at hs
  · rename_i b h
    obtain rfl := num32_int h hn
    cases hs
    have hb : 0 ≤ b ∧ b < 4294967296 := hp (l5R.u32 b) (by simp [lnR])
    clear hp h hn
    have htv := tval_lt b
    have hl := tlim_lt
    have hvw : val (l5R.tw b) = tval b := val_words_of htv.1 (by omega)
    have h1w : val (lfR.wfrom 1) = 1 := val_words_of (by decide) (by decide)
    cases hg : tgood b with
    | true =>
      have hte : l5R.te b = 0 := by show (if tgood b = true then (0 : Int) else 50) = 0; rw [hg]; rfl
      have hte2 : rcmp .neq (l5R.te b) 0 = false := by rw [hte]; exact neq_self 0
      have hlim : tlim + 1 < (115792089237316195423570985008687907853269984665640564039457584007913129639936 : Int) := by unfold tlim; decide +kernel
      refine ⟨800, [false], _, fun ar lf => by conv => lhs; cbv, allP ?_, .tup2 (.ints ?_) (.lit hte.symm)⟩
      · simp only [conj]
        and_intros <;> first | exact words_bd _ | exact hte2 | exact hb.1 | exact hb.2 | trivial | exact (show (0 : Int) ≤ 1 by decide) | exact (show (1 : Int) < 18446744073709551616 by decide)
      · intro j hj
        show words (val (words (val (words (-1 - val (l5R.tw b))) / val (words (val (l5R.tw b) + val (lfR.wfrom 1))))) + val (lfR.wfrom 1)) j = words (workOf b) j
        have e1 : val (words (-1 - tval b)) = (115792089237316195423570985008687907853269984665640564039457584007913129639936 : Int) - 1 - tval b := by
          rw [val_words]; omega
        have e2 : val (words (tval b + 1)) = tval b + 1 := val_words_of (by omega) (by omega)
        have e3 := work_eq htv.1 (by omega)
        have hw := workOf_lt b
        have e4 : workOf b = p2 256 / (tval b + 1) := by unfold workOf; rw [if_pos hg]
        have e5 : 0 ≤ ((115792089237316195423570985008687907853269984665640564039457584007913129639936 : Int) - 1 - tval b) / (tval b + 1) := Int.ediv_nonneg (by omega) (by omega)
        rw [hvw, h1w, e1, e2, val_words_of e5 (by omega), e3, ← e4]
    | false =>
      have hte : l5R.te b = 50 := by show (if tgood b = true then (0 : Int) else 50) = 50; rw [hg]; rfl
      have hte2 : rcmp .neq (l5R.te b) 0 = true := by rw [hte, rcmp_neq]; rfl
      refine ⟨800, [true], _, fun ar lf => by conv => lhs; cbv, allP ?_, .tup2 (.ints ?_) (.int ?_)⟩
      · simp only [conj]
        exact ⟨hte2, hb, trivial⟩
      · intro j hj
        show 0 = words (workOf b) j
        rw [show workOf b = 0 by unfold workOf; rw [hg]; rfl]
        exact zero_words j hj
      · rfl
  · cases hs

def tn5 (l : LN) : Tbl := tbL [(83, sWork l), (70, sLimit l.l5), (65, sCompact l.l5)] []
theorem tn5_ok : TblOk Try.prog (tn5 lnR) := tbL_ok (by simpa [lnl5] using ⟨work_ok, limit_ok, compact_ok⟩) (by simp)
theorem good_limit : tgood 545259519 = true := by
  unfold tgood
  rw [tgt_limit]
  unfold tlim
  decide +kernel
theorem work_limit : workOf 545259519 = 2 := by
  unfold workOf tval
  rw [if_pos good_limit, if_pos good_limit, tgt_limit]
  unfold tlim
  decide +kernel
theorem cpt_limit : cpt tlim = 545259519 := by
  have hb : bytesOf tlim = 32 := bytesOf_eq (s := 32) (by unfold tlim; decide +kernel) (by unfold tlim; decide +kernel) (.inr (by unfold tlim; decide +kernel))
  have hm : cmant tlim = 8388607 := by
    rw [gk_cmant (s := 32) hb]
    unfold gk tlim
    decide +kernel
  unfold cpt
  rw [hb, hm]
  decide
set_option maxRecDepth 100000 in
theorem awake5_ok : CallOk Try.prog 66 sAwake := by
  refine .eval (tb := tn5) hmix ti_ok tn5_ok Try.func66 rfl (by kernel_rfl) (by kernel_rfl) fun xs v ps hs hp => ?_
  unfold sAwake at hs
  split at hs
  · cases hs
    have hte : l5R.te 545259519 = 0 := by show (if tgood 545259519 = true then (0 : Int) else 50) = 0; rw [good_limit]; rfl
    refine ⟨800, [true, true], _, fun ar lf => by conv => lhs; cbv, allP ?_, VLe.yes ?_⟩
    · simp only [conj]
      refine ⟨words_bd _, eql_yes hte, ?_, ⟨by decide, by decide⟩, trivial⟩
      show arR.lEq [words (workOf 545259519) 0, words (workOf 545259519) 1, words (workOf 545259519) 2, words (workOf 545259519) 3] [2, 0, 0, 0] = true
      rw [work_limit]
      decide +kernel
    · refine eql_yes ?_
      show cpt (val l5R.lim) = _
      rw [vlim]; exact cpt_limit
  · cases hs
end Go.Proofs.Ytegcdnjihnpolaa
