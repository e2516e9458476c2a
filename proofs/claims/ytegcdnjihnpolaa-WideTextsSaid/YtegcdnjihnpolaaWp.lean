import Derived.Test.YtegcdnjihnpolaaWm
set_option linter.unusedSimpArgs false
set_option linter.unusedVariables false
namespace Go.Eng
open Go
theorem mod_bit (x : Int) (k : Nat) : x % p2 (k + 1) = x % p2 k + p2 k * (x / p2 k % 2) := by
  have hp := p2_pos k
  have e := Int.emod_add_mul_ediv x (p2 k)
  have h0 := Int.emod_nonneg x (Int.ne_of_gt hp)
  have h1 := Int.emod_lt_of_pos x hp
  generalize x % p2 k = r at *
  generalize x / p2 k = q at *
  have hq : q = q % 2 + 2 * (q / 2) := by omega
  have e2 : x = (r + p2 k * (q % 2)) + (2 * p2 k) * (q / 2) := by
    rw [← e]
    conv => lhs; rw [hq, Int.mul_add]
    rw [Int.mul_assoc, ← Int.mul_left_comm]
    omega
  rw [p2_succ, e2, Int.add_mul_emod_self_left]
  have : q % 2 = 0 ∨ q % 2 = 1 := by omega
  rcases this with h | h
  · rw [h, Int.mul_zero, Int.add_zero]; exact Int.emod_eq_of_lt h0 (by omega)
  · rw [h, Int.mul_one]; exact Int.emod_eq_of_lt (by omega) (by omega)
end Go.Eng
namespace Go.Proofs.Ytegcdnjihnpolaa
open Go Go.Eng Go.Proofs Go.RowKit
attribute [local irreducible] CallOk HOk Run TIok rbin rcmp run1 words val updF shfF blitF

def tb8 (lf : LF) : Tbl := tbL [(21, sBit lf)] []
theorem tb8_ok : TblOk Try.prog (tb8 lfR) := tbL_ok (by simpa using rbit_ok) (by simp)
theorem wbit_f {f : F} {n : Int} (h0 : 0 ≤ n) (h1 : n < 256) : lfR.wbit f n = decide (val f / p2 n.toNat % 2 = 1) := by
  rw [Bool.eq_iff_iff, wbit_t h0 h1, decide_eq_true_eq]
theorem zero_words : ∀ j, j < 4 → (0 : Int) = words 0 j := four (by decide +kernel) (by decide +kernel) (by decide +kernel) (by decide +kernel)

set_option maxRecDepth 100000 in
theorem rleft_ok : CallOk Try.prog 24 (sLeft0 lfR) := by
  refine .nrm (arrI_spec_norm (g := fun lf f n => (.tup [W (lf.wleft f n), B (lf.wleftB f n)], [lf.bd f, lf.nn n])) (fun l => rfl)) ?_
  refine .of_run (hc := (tb8 lfR).hc) Try.func24 rfl (by kernel_rfl) (by kernel_rfl) fun xs v ps hs hp w => ?_
  split at hs
  case isFalse => cases hs
  rename_i hnorm
  unfold sLeft0 at hs
  split at hs
  · rename_i f n h
    obtain rfl := arrI_int h hnorm
    cases hs
    have hf : bd f := hp (lfR.bd f) (by simp)
    have hi : 0 ≤ n ∧ n ≤ 9223372036854775807 := hp (lfR.nn n) (by simp)
    clear hp hnorm h
    have hv := val_bd hf
    by_cases h256 : 256 ≤ n
    · obtain ⟨m, hm⟩ := Int.eq_ofNat_of_zero_le hi.1
      have em : p2 m = p2 (m - 256) * (115792089237316195423570985008687907853269984665640564039457584007913129639936 : Int) := by rw [← p2_256, ← p2_add]; congr 1; omega
      refine run_ex hmix ti_ok tb8_ok 0 false 800 [true] (fun ar lf => by conv => lhs; cbv) (allP ?_) ?_
      · simp only [conj, arR, rcmp_geq, decide_eq_true_eq]
        exact ⟨h256, trivial⟩
      · refine Run.ret ti_ok rfl rfl (.tup2 (.ints fun j hj => ?_) (.bool ?_))
        · rw [wleft_pos hm]
          exact (mul_min (show 256 ≤ m by omega) j hj).symm
        · rw [wleftB_pos hm, em, Bool.eq_iff_iff]
          have hp := p2_pos (m - 256)
          have hvz := val_zero hf
          have hx : ((!([f 0, f 1, f 2, f 3] == [0, 0, 0, 0])) = true) ↔ ¬ val f = 0 := by
            rw [hvz]
            simp only [Bool.not_eq_true', beq_eq_false_iff_ne, ne_eq, List.cons.injEq, and_true]
          refine Iff.trans hx ?_
          rw [decide_eq_true_eq]
          constructor
          · intro h1
            have := Int.mul_le_mul (show 1 ≤ val f by omega) (show (115792089237316195423570985008687907853269984665640564039457584007913129639936 : Int) ≤ p2 (m - 256) * (115792089237316195423570985008687907853269984665640564039457584007913129639936 : Int) by
              have := Int.mul_le_mul_of_nonneg_right (show 1 ≤ p2 (m - 256) by omega) (show (0 : Int) ≤ (115792089237316195423570985008687907853269984665640564039457584007913129639936 : Int) by decide)
              omega) (by decide) hv.1
            omega
          · intro h1 h2
            rw [h2] at h1; omega
    · obtain ⟨m, hm⟩ := Int.eq_ofNat_of_zero_le hi.1
      refine run_ex hmix ti_ok tb8_ok 0 false 800 [false] (fun ar lf => by conv => lhs; cbv) (allP ?_) ?_
      · simp only [conj, arR, rcmp_geq, decide_eq_false_iff_not]
        exact ⟨h256, trivial⟩
      refine Run.cut [1, 2, 4, 6, 7, 8] [7, 8] 3 (by decide) rfl rfl ?_
      refine Run.loop (ι := {p : Int × F × Bool // 0 ≤ p.1 ∧ p.1 ≤ 256 ∧ (∀ j, j < 4 → p.2.1 j = words (val f % p2 p.1.toNat * p2 m) j) ∧ p.2.2 = decide ((115792089237316195423570985008687907853269984665640564039457584007913129639936 : Int) ≤ val f % p2 p.1.toNat * p2 m)})
        (fun i => ([.any, .a (.one (.int .i64 n)), .a (.one (.ptr 0 (.lit 0))), .any, .a (.one (.ptr 1 (.lit 0))), .any, .a (.one (.ptr 2 (.lit 0))), .a (.one (.bool i.1.2.2)), .a (.one (.int .i64 i.1.1))] ++ List.replicate 34 .any,
          [some (K4 f), some (K4 fun _ => 0), some (K4 i.1.2.1)]))
        (fun i => (256 - i.1.1).toNat) ⟨(0, fun _ => 0, false), by decide, by decide, ?_, ?_⟩ ?_
      · show ∀ j, j < 4 → 0 = words (val f % p2 0 * p2 m) j
        rw [show p2 0 = 1 from rfl, Int.emod_one, Int.zero_mul]; exact zero_words
      · show false = decide ((115792089237316195423570985008687907853269984665640564039457584007913129639936 : Int) ≤ val f % p2 0 * p2 m)
        rw [show p2 0 = 1 from rfl, Int.emod_one, Int.zero_mul]; rfl
      rintro ⟨⟨i, q, lo⟩, h0, h1, hq, hlo⟩ ih
      simp only at h0 h1 hq hlo
      by_cases hn : i < 256
      · have en : (i + 1).toNat = i.toNat + 1 := by omega
        have hmb := mod_bit (val f) i.toNat
        have hx0 := Int.emod_nonneg (val f) (Int.ne_of_gt (p2_pos i.toNat))
        have hx1 := Int.emod_lt_of_pos (val f) (p2_pos i.toNat)
        have hbit := wbit_f (f := f) h0 hn
        have eadd : rbin .add .i64 i 1 = i + 1 := rbin_addi (by omega)
        have esum : rbin .add .i64 i n = i + n := rbin_addi (by omega)
        have emu : (256 - rbin .add .i64 i 1).toNat < (256 - i).toNat := by rw [eadd]; omega
        by_cases hbb : val f / p2 i.toNat % 2 = 1
        · have hbv : lfR.wbit f i = true := by rw [hbit]; exact decide_eq_true hbb
          rw [hbb, Int.mul_one] at hmb
          have hX : (val f % p2 i.toNat + p2 i.toNat) * p2 m = val f % p2 i.toNat * p2 m + p2 (i + n).toNat := by
            rw [Int.add_mul, ← p2_add, show i.toNat + m = (i + n).toNat by omega]
          have hXlt : val f % p2 i.toNat * p2 m < p2 (i + n).toNat := by
            rw [show (i + n).toNat = i.toNat + m by omega, p2_add]
            exact Int.mul_lt_mul_of_pos_right hx1 (p2_pos m)
          have hX0 : 0 ≤ val f % p2 i.toNat * p2 m := Int.mul_nonneg hx0 (Int.le_of_lt (p2_pos m))
          by_cases hov : 256 ≤ i + n
          · have hle : p2 256 ≤ p2 (i + n).toNat := p2_le (by omega)
            rw [p2_256] at hle
            refine run_ex hmix ti_ok tb8_ok 2 false 800 [true, false, true] (fun ar lf => by conv => lhs; cbv) (allP ?_) ?_
            · simp only [conj, arR, rcmp_geq, rcmp_lss, esum, decide_eq_true_eq]
              and_intros <;> first | exact hf | trivial | (show (!lfR.wbit f i) = false; rw [hbv]; rfl) | exact ⟨by omega, by omega⟩ | omega
            · refine Run.cut [1, 2, 4, 6, 7, 8] [7] 3 (by decide) rfl rfl ?_
              refine ih ⟨(_, _, _), ?_, ?_, ?_, ?_⟩ emu _ _
              · simp only [eadd]; omega
              · simp only [eadd]; omega
              · simp only [eadd, en, hmb, hX]
                intro j hj
                rw [hq j hj]
                refine words_congr ?_ j hj
                have e2 : p2 (i + n).toNat = (115792089237316195423570985008687907853269984665640564039457584007913129639936 : Int) * p2 ((i + n).toNat - 256) := by rw [← p2_256, ← p2_add]; congr 1; omega
                rw [e2, Int.add_mul_emod_self_left]
              · simp only [eadd, en, hmb, hX]
                exact (decide_eq_true (by omega)).symm
          · have hle : p2 ((i + n).toNat + 1) ≤ p2 256 := p2_le (by omega)
            rw [p2_256, p2_succ] at hle
            have hquo : rbin .quo .i64 (i + n) 64 = (i + n) / 64 := rbin_quoi (by omega) (by omega) (by decide)
            have hrem : rbin .rem .i64 (i + n) 64 = (i + n) % 64 := rbin_remi (by omega)
            have hu := (upd_bit hq (n := i + n) (by omega) (by omega) (by rw [Int.ediv_eq_zero_of_lt hX0 hXlt]; rfl)).2
            refine run_ex hmix ti_ok tb8_ok 2 false 800 [true, false, false] (fun ar lf => by conv => lhs; cbv) (allP ?_) ?_
            · simp only [conj, arR, N.val, rcmp_geq, rcmp_lss, esum, hquo, hrem, decide_eq_true_eq, decide_eq_false_iff_not]
              and_intros <;> first | exact hf | trivial | (show (!lfR.wbit f i) = false; rw [hbv]; rfl) | exact ⟨by omega, by omega⟩ | omega
            · refine Run.cut [1, 2, 4, 6, 7, 8] [] 3 (by decide) rfl rfl ?_
              refine ih ⟨(_, _, _), ?_, ?_, ?_, ?_⟩ emu _ _
              · simp only [eadd]; omega
              · simp only [eadd]; omega
              · simp only [eadd, en, hmb, hX]
                intro j hj
                rw [← hu j hj]; simp only [N.val, arR, esum, hquo, hrem, Nat.zero_add, Nat.mul_one]
              · simp only [eadd, en, hmb, hX]
                rw [hlo, decide_eq_false (by omega), decide_eq_false (by omega)]
        · have hbv : lfR.wbit f i = false := by rw [hbit]; exact decide_eq_false hbb
          rw [show val f / p2 i.toNat % 2 = 0 by omega, Int.mul_zero, Int.add_zero] at hmb
          refine run_ex hmix ti_ok tb8_ok 2 false 800 [true, true] (fun ar lf => by conv => lhs; cbv) (allP ?_) ?_
          · simp only [conj, arR, rcmp_geq, rcmp_lss, decide_eq_true_eq]
            and_intros <;> first | exact hf | trivial | (show (!lfR.wbit f i) = true; rw [hbv]; rfl) | exact ⟨by omega, by omega⟩ | omega
          · refine Run.cut [1, 2, 4, 6, 7, 8] [] 3 (by decide) rfl rfl ?_
            refine ih ⟨(_, _, _), ?_, ?_, ?_, ?_⟩ emu _ _
            · simp only [eadd]; omega
            · simp only [eadd]; omega
            · simp only [eadd, en, hmb]; exact hq
            · simp only [eadd, en, hmb]; exact hlo
      · obtain rfl : i = 256 := by omega
        rw [show (256 : Int).toNat = 256 from rfl, p2_256, Int.emod_eq_of_lt hv.1 hv.2] at hq hlo
        refine run_ex hmix ti_ok tb8_ok 2 false 800 [false] (fun ar lf => by conv => lhs; cbv) (allP ?_) ?_
        · simp only [conj, arR, rcmp_lss]
          decide
        · refine Run.ret ti_ok rfl rfl (.tup2 (.ints ?_) (.bool ?_))
          · rw [wleft_pos hm]; exact hq
          · rw [wleftB_pos hm]; exact hlo
  · cases hs

set_option maxRecDepth 100000 in
theorem rright_ok : CallOk Try.prog 25 (sRight0 lfR) := by
  refine .nrm (arrI_spec_norm (g := fun lf f n => (.a (W (lf.wright f n)), [lf.bd f, lf.nn n])) (fun l => rfl)) ?_
  refine .of_run (hc := (tb8 lfR).hc) Try.func25 rfl (by kernel_rfl) (by kernel_rfl) fun xs v ps hs hp w => ?_
  split at hs
  case isFalse => cases hs
  rename_i hnorm
  unfold sRight0 at hs
  split at hs
  · rename_i f n h
    obtain rfl := arrI_int h hnorm
    cases hs
    have hf : bd f := hp (lfR.bd f) (by simp)
    have hi : 0 ≤ n ∧ n ≤ 9223372036854775807 := hp (lfR.nn n) (by simp)
    clear hp hnorm h
    have hv := val_bd hf
    obtain ⟨m, hm⟩ := Int.eq_ofNat_of_zero_le hi.1
    have hD0 : 0 ≤ val f / p2 m := Int.ediv_nonneg hv.1 (Int.le_of_lt (p2_pos m))
    refine run_ex hmix ti_ok tb8_ok 0 false 800 [] (fun ar lf => by conv => lhs; cbv) (allP ?_) ?_
    · trivial
    refine Run.cut [1, 2, 4, 5, 6] [] 3 (by decide) rfl rfl ?_
    refine Run.loop (ι := {p : Int × F // n ≤ p.1 ∧ (p.1 ≤ 256 ∨ p.1 = n) ∧ (∀ j, j < 4 → p.2 j = words (val f / p2 m % p2 (p.1 - n).toNat) j)})
      (fun i => ([.any, .a (.one (.int .i64 n)), .a (.one (.ptr 0 (.lit 0))), .any, .a (.one (.ptr 1 (.lit 0))), .a (.one (.ptr 2 (.lit 0))), .a (.one (.int .i64 i.1.1))] ++ List.replicate 23 .any,
        [some (K4 f), some (K4 fun _ => 0), some (K4 i.1.2)]))
      (fun i => (256 - i.1.1).toNat) ⟨(n, fun _ => 0), Int.le_refl _, .inr rfl, ?_⟩ ?_
    · show ∀ j, j < 4 → 0 = words (val f / p2 m % p2 (n - n).toNat) j
      rw [Int.sub_self, show p2 (0 : Int).toNat = 1 from rfl, Int.emod_one]; exact zero_words
    rintro ⟨⟨i, q⟩, h0, h1, hq⟩ ih
    simp only at h0 h1 hq
    by_cases hn : i < 256
    · have en : (i + 1 - n).toNat = (i - n).toNat + 1 := by omega
      have hmb := mod_bit (val f / p2 m) (i - n).toNat
      have hx0 := Int.emod_nonneg (val f / p2 m) (Int.ne_of_gt (p2_pos (i - n).toNat))
      have hx1 := Int.emod_lt_of_pos (val f / p2 m) (p2_pos (i - n).toNat)
      have hbit := wbit_f (f := f) (n := i) (by omega) hn
      have eadd : rbin .add .i64 i 1 = i + 1 := rbin_addi (by omega)
      have esum : rbin .sub .i64 i n = i - n := rbin_subi (by omega)
      have emu : (256 - rbin .add .i64 i 1).toNat < (256 - i).toNat := by rw [eadd]; omega
      have ebb : val f / p2 m / p2 (i - n).toNat = val f / p2 i.toNat := by
        rw [Int.ediv_ediv_of_nonneg (Int.le_of_lt (p2_pos m)), ← p2_add]; congr 2; omega
      rw [ebb] at hmb
      by_cases hbb : val f / p2 i.toNat % 2 = 1
      · have hbv : lfR.wbit f i = true := by rw [hbit]; exact decide_eq_true hbb
        rw [hbb, Int.mul_one] at hmb
        have hquo : rbin .quo .i64 (i - n) 64 = (i - n) / 64 := rbin_quoi (by omega) (by omega) (by decide)
        have hrem : rbin .rem .i64 (i - n) 64 = (i - n) % 64 := rbin_remi (by omega)
        have hu := (upd_bit hq (n := i - n) (by omega) (by omega) (by rw [Int.ediv_eq_zero_of_lt hx0 hx1]; rfl)).2
        refine run_ex hmix ti_ok tb8_ok 2 false 800 [true, true] (fun ar lf => by conv => lhs; cbv) (allP ?_) ?_
        · simp only [conj, arR, N.val, rcmp_geq, rcmp_lss, esum, hquo, hrem, decide_eq_true_eq, decide_eq_false_iff_not]
          and_intros <;> first | exact hf | trivial | exact hbv | exact ⟨by omega, by omega⟩ | omega
        · refine Run.cut [1, 2, 4, 5, 6] [] 3 (by decide) rfl rfl ?_
          refine ih ⟨(_, _), ?_, ?_, ?_⟩ emu _ _
          · simp only [eadd]; omega
          · simp only [eadd]; omega
          · simp only [eadd, en, hmb]
            intro j hj
            rw [← hu j hj]; simp only [N.val, arR, esum, hquo, hrem, Nat.zero_add, Nat.mul_one]
      · have hbv : lfR.wbit f i = false := by rw [hbit]; exact decide_eq_false hbb
        rw [show val f / p2 i.toNat % 2 = 0 by omega, Int.mul_zero, Int.add_zero] at hmb
        refine run_ex hmix ti_ok tb8_ok 2 false 800 [true, false] (fun ar lf => by conv => lhs; cbv) (allP ?_) ?_
        · simp only [conj, arR, rcmp_geq, rcmp_lss, decide_eq_true_eq]
          and_intros <;> first | exact hf | trivial | exact hbv | exact ⟨by omega, by omega⟩ | omega
        · refine Run.cut [1, 2, 4, 5, 6] [] 3 (by decide) rfl rfl ?_
          refine ih ⟨(_, _), ?_, ?_, ?_⟩ emu _ _
          · simp only [eadd]; omega
          · simp only [eadd]; omega
          · simp only [eadd, en, hmb]; exact hq
    · have hlast : val f / p2 m % p2 (i - n).toNat = val f / p2 m := by
        refine Int.emod_eq_of_lt hD0 (Int.ediv_lt_of_lt_mul (p2_pos m) ?_)
        rw [← p2_add]
        have : p2 256 ≤ p2 ((i - n).toNat + m) := p2_le (by omega)
        rw [p2_256] at this
        omega
      rw [hlast] at hq
      refine run_ex hmix ti_ok tb8_ok 2 false 800 [false] (fun ar lf => by conv => lhs; cbv) (allP ?_) ?_
      · simp only [conj, arR, rcmp_lss, decide_eq_false_iff_not]
        exact ⟨hn, trivial⟩
      · refine Run.ret ti_ok rfl rfl (.a (.ints ?_))
        rw [wright_pos hm]; exact hq
  · cases hs
end Go.Proofs.Ytegcdnjihnpolaa
