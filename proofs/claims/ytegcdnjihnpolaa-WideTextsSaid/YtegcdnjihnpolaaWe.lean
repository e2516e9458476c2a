import Derived.Test.YtegcdnjihnpolaaWd
set_option linter.unusedSimpArgs false
set_option linter.unusedVariables false
namespace Go.Eng
open Go
theorem wrap_i64 {n : Int} (h : -9223372036854775808 ≤ n ∧ n ≤ 9223372036854775807) : IntKind.i64.wrap n = n := by
  unfold IntKind.wrap; simp [IntKind.bits, IntKind.signed]; omega
theorem rbin_addi {x y : Int} (h : -9223372036854775808 ≤ x + y ∧ x + y ≤ 9223372036854775807) : rbin .add .i64 x y = x + y := wrap_i64 h
theorem rbin_subi {x y : Int} (h : -9223372036854775808 ≤ x - y ∧ x - y ≤ 9223372036854775807) : rbin .sub .i64 x y = x - y := wrap_i64 h
theorem rbin_muli {x y : Int} (h : -9223372036854775808 ≤ x * y ∧ x * y ≤ 9223372036854775807) : rbin .mul .i64 x y = x * y := wrap_i64 h
theorem rbin_quoi {x y : Int} (h0 : 0 ≤ x) (h1 : x ≤ 9223372036854775807) (hy : 0 < y) : rbin .quo .i64 x y = x / y := by
  show IntKind.i64.wrap (x.tdiv y) = _
  rw [Int.tdiv_eq_ediv_of_nonneg h0]
  have := Int.ediv_le_self y h0
  have := Int.ediv_nonneg h0 (Int.le_of_lt hy)
  exact wrap_i64 (by omega)
theorem rbin_remi {x y : Int} (h0 : 0 ≤ x) : rbin .rem .i64 x y = x % y := by
  show x.tmod y = _
  rw [Int.tmod_eq_emod_of_nonneg h0]

theorem bit_eq {f : F} (hf : bd f) {n : Int} (h0 : 0 ≤ n) (h1 : n < 256) :
    rcmp .eql (rbin .and .u64 (rbin .shr .u64 (f (n / 64).toNat) (n % 64)) 1) 1 = decide (val f / p2 n.toNat % 2 = 1) := by
  have hr : min (n % 64).toNat 64 = (n % 64).toNat := by omega
  have hb := words_bit (val f) (n / 64).toNat (n % 64).toNat (by omega)
  rw [words_val hf _ (by omega), show 64 * (n / 64).toNat + (n % 64).toNat = n.toNat by omega] at hb
  rw [rbin_shr _ hr]
  have hfj := hf (n / 64).toNat (by omega)
  have hp := p2_pos (n % 64).toNat
  have hq0 : 0 ≤ f (n / 64).toNat / p2 (n % 64).toNat := Int.ediv_nonneg hfj.1 (Int.le_of_lt hp)
  have hq1 : f (n / 64).toNat / p2 (n % 64).toNat ≤ f (n / 64).toNat := Int.ediv_le_self _ hfj.1
  rw [rbin_and1 _ hq0 (by omega), hb]
  show (_ == _) = decide _
  rw [Bool.eq_iff_iff, beq_iff_eq, decide_eq_true_eq]
end Go.Eng
namespace Go.Proofs.Ytegcdnjihnpolaa
open Go Go.Eng Go.Proofs Go.RowKit
attribute [local irreducible] CallOk HOk Run TIok

theorem bit_ok : CallOk Try.prog 20 (sBit lfR) := by
  refine .evalN (tb := tb1) hmix ti_ok tb1_ok Try.func20 rfl (by kernel_rfl) (by kernel_rfl) (sBit_norm _) fun xs v ps hn hs hp => ?_
  unfold sBit at hs
  split at hs
  · rename_i f n h
    obtain rfl := arrI_int h hn
    cases hs
    have hf : bd f := hp (lfR.bd f) (by simp)
    have hi : -9223372036854775808 ≤ n ∧ n ≤ 9223372036854775807 := hp (lfR.i64 n) (by simp)
    by_cases h0 : 0 ≤ n
    · by_cases h1 : n < 256
      · refine ⟨400, [true, true], _, fun ar lf => by conv => lhs; cbv, ?_, ?_⟩
        · refine allP ?_
          simp only [conj, lfR, arR, N.val, rcmp, rbin_quoi h0 hi.2 (by decide : (0 : Int) < 64), rbin_remi (y := 64) h0, and_true, decide_eq_true_eq]
          omega
        · refine .a (.bool ?_)
          simp only [lfR, arR, N.val, rbin_quoi h0 hi.2 (by decide : (0 : Int) < 64), rbin_remi (y := 64) h0]
          rw [show 0 + (n / 64).toNat * 1 = (n / 64).toNat by omega, bit_eq hf h0 h1]
          simp [h0, h1]
      · refine ⟨400, [true, false], _, fun ar lf => by conv => lhs; cbv, ?_, ?_⟩
        · refine allP ?_
          simp only [conj, lfR, arR, N.val, rcmp, and_true, decide_eq_true_eq, decide_eq_false_iff_not]
          omega
        · refine .a (.lbool ?_)
          simp [lfR, h1]
    · refine ⟨400, [false], _, fun ar lf => by conv => lhs; cbv, ?_, ?_⟩
      · refine allP ?_
        simp only [conj, lfR, arR, N.val, rcmp, and_true, decide_eq_true_eq, decide_eq_false_iff_not]
        omega
      · refine .a (.lbool ?_)
        simp [lfR, h0]
  · cases hs

theorem rbit_ok : CallOk Try.prog 21 (sBit lfR) := by
  refine .evalN (tb := tb1) hmix ti_ok tb1_ok Try.func21 rfl (by kernel_rfl) (by kernel_rfl) (sBit_norm _) fun xs v ps hn hs hp => ?_
  unfold sBit at hs
  split at hs
  · rename_i f n h
    obtain rfl := arrI_int h hn
    cases hs
    have hf : bd f := hp (lfR.bd f) (by simp)
    have hi : -9223372036854775808 ≤ n ∧ n ≤ 9223372036854775807 := hp (lfR.i64 n) (by simp)
    by_cases h0 : 0 ≤ n
    · by_cases h1 : n < 256
      · refine ⟨400, [true, true], _, fun ar lf => by conv => lhs; cbv, ?_, ?_⟩
        · refine allP ?_
          simp only [conj, lfR, arR, N.val, rcmp, rbin_quoi h0 hi.2 (by decide : (0 : Int) < 64), rbin_remi (y := 64) h0, and_true, decide_eq_true_eq]
          omega
        · refine .a (.bool ?_)
          simp only [lfR, arR, N.val, rbin_quoi h0 hi.2 (by decide : (0 : Int) < 64), rbin_remi (y := 64) h0]
          rw [show 0 + (n / 64).toNat * 1 = (n / 64).toNat by omega, bit_eq hf h0 h1]
          simp [h0, h1]
      · refine ⟨400, [true, false], _, fun ar lf => by conv => lhs; cbv, ?_, ?_⟩
        · refine allP ?_
          simp only [conj, lfR, arR, N.val, rcmp, and_true, decide_eq_true_eq, decide_eq_false_iff_not]
          omega
        · refine .a (.lbool ?_)
          simp [lfR, h1]
    · refine ⟨400, [false], _, fun ar lf => by conv => lhs; cbv, ?_, ?_⟩
      · refine allP ?_
        simp only [conj, lfR, arR, N.val, rcmp, and_true, decide_eq_true_eq, decide_eq_false_iff_not]
        omega
      · refine .a (.lbool ?_)
        simp [lfR, h0]
  · cases hs
end Go.Proofs.Ytegcdnjihnpolaa
