import Derived.Test.YtegcdnjihnpolaaWy
set_option linter.unusedSimpArgs false
set_option linter.unusedVariables false
namespace Go.Eng
open Go
/-- the root by its bits, from the highest down: so many of them -/
def rtk (a : Int) : Nat → Int
  | 0 => 0
  | k + 1 => if (rtk a k + p2 (127 - k)) * (rtk a k + p2 (127 - k)) ≤ a then rtk a k + p2 (127 - k) else rtk a k
/-- the root but for its lowest bits -/
def rt (a : Int) (m : Nat) : Int := rtk a (128 - m)
theorem rtk_form (a : Int) : ∀ k, k ≤ 128 → ∃ t, rtk a k = t * p2 (128 - k) ∧ 0 ≤ t ∧ t < p2 k
  | 0, _ => ⟨0, by simp [rtk], Int.le_refl _, by decide⟩
  | k + 1, h => by
    obtain ⟨t, h1, h2, h3⟩ := rtk_form a k (by omega)
    have e1 : p2 (128 - k) = 2 * p2 (127 - k) := by rw [← p2_succ]; congr 1; omega
    have e2 : 128 - (k + 1) = 127 - k := by omega
    have e3 := p2_succ k
    rw [e2]
    simp only [rtk]
    split
    · exact ⟨2 * t + 1, by rw [h1, e1]; grind, by omega, by omega⟩
    · exact ⟨2 * t, by rw [h1, e1]; grind, by omega, by omega⟩
theorem rt_step (a : Int) {n : Nat} (h : n ≤ 127) : rt a n = (if (rt a (n + 1) + p2 n) * (rt a (n + 1) + p2 n) ≤ a then rt a (n + 1) + p2 n else rt a (n + 1)) := by
  unfold rt
  rw [show 128 - n = (128 - (n + 1)) + 1 by omega]
  simp only [rtk]
  rw [show 127 - (128 - (n + 1)) = n by omega]
theorem rt_facts (a : Int) {n : Nat} (h : n ≤ 127) : rt a (n + 1) / p2 n % 2 = 0 ∧ 0 ≤ rt a (n + 1) + p2 n ∧ rt a (n + 1) + p2 n < p2 128 := by
  obtain ⟨t, h1, h2, h3⟩ := rtk_form a (128 - (n + 1)) (by omega)
  have e : rt a (n + 1) = t * p2 (n + 1) := by unfold rt; rw [h1]; congr 2; omega
  have hp := p2_pos n
  rw [e, p2_succ]
  refine ⟨?_, ?_, ?_⟩
  · rw [← Int.mul_assoc, Int.mul_ediv_cancel _ (Int.ne_of_gt hp)]; omega
  · have := Int.mul_nonneg h2 (Int.le_of_lt (p2_pos (n + 1)))
    rw [p2_succ] at this; omega
  · have e2 : p2 128 = p2 (128 - (n + 1)) * (2 * p2 n) := by rw [← p2_succ, ← p2_add]; congr 1; omega
    rw [e2]
    have h4 : (t + 1) * (2 * p2 n) ≤ p2 (128 - (n + 1)) * (2 * p2 n) := Int.mul_le_mul_of_nonneg_right (by omega) (by omega)
    rw [Int.add_mul] at h4
    omega
structure LFr where
  lf : LF
  wroot : F → F
def lfrR : LFr := ⟨lfR, fun f => words (rt (val f) 0)⟩
def sRoot (l : LFr) : ESpec := fun a => match arr1 a with
  | some f => some (.a (W (l.wroot f)), [l.lf.bd f])
  | none => none
theorem square_fits {Y : Int} (h0 : 0 ≤ Y) (h1 : Y < p2 128) : 0 ≤ Y * Y ∧ Y * Y < (115792089237316195423570985008687907853269984665640564039457584007913129639936 : Int) := by
  refine ⟨Int.mul_nonneg h0 h0, ?_⟩
  have e : (115792089237316195423570985008687907853269984665640564039457584007913129639936 : Int) = p2 128 * p2 128 := by decide
  rw [e]
  exact Int.mul_lt_mul' (Int.le_of_lt h1) h1 h0 (p2_pos 128)
end Go.Eng
namespace Go.Proofs.Ytegcdnjihnpolaa
open Go Go.Eng Go.Proofs Go.RowKit
theorem square_no {y : F} {Y : Int} (hy : ∀ j, j < 4 → y j = words Y j) (h0 : 0 ≤ Y) (h1 : Y < p2 128) : val (lfR.wmulH y y) = 0 := by
  have hv : val y = Y := by
    rw [val_congr hy, val_words_of h0]
    have : p2 128 < (115792089237316195423570985008687907853269984665640564039457584007913129639936 : Int) := by decide
    omega
  obtain ⟨s1, s2⟩ := square_fits h0 h1
  show val (words (val y * val y / (115792089237316195423570985008687907853269984665640564039457584007913129639936 : Int))) = 0
  rw [hv, Int.ediv_eq_zero_of_lt s1 s2]
  exact val_words_of (by decide) (by decide)
theorem square_low {y : F} {Y : Int} (hy : ∀ j, j < 4 → y j = words Y j) (h0 : 0 ≤ Y) (h1 : Y < p2 128) : val (lfR.wmulL y y) = Y * Y := by
  have hv : val y = Y := by
    rw [val_congr hy, val_words_of h0]
    have : p2 128 < (115792089237316195423570985008687907853269984665640564039457584007913129639936 : Int) := by decide
    omega
  obtain ⟨s1, s2⟩ := square_fits h0 h1
  show val (words (val y * val y)) = _
  rw [hv, val_words_of s1 s2]
theorem leq_zero {f g : F} : rcmp .leq (lfR.wcmp f g) 0 = decide (val f ≤ val g) := by
  show decide ((if val f < val g then (-1 : Int) else if val g < val f then 1 else 0) ≤ 0) = _
  rw [decide_eq_decide]
  split
  · omega
  · split <;> omega
attribute [local irreducible] CallOk HOk Run TIok rbin rcmp run1 words val updF shfF blitF rt

def tb16 (lf : LF) : Tbl := tbL [(49, sMul lf), (55, sZero lf), (51, sCmp lf)] []
theorem tb16_ok : TblOk Try.prog (tb16 lfR) := tbL_ok (by simpa using ⟨mul_ok, zero_ok, wcmp_ok⟩) (by simp)
def tb17 (lf : LF) : Tbl := tbL [(50, sMul lf), (52, sCmp lf)] []
theorem tb17_ok : TblOk Try.prog (tb17 lfR) := tbL_ok (by simpa using ⟨rmul_ok, rcmp_ok⟩) (by simp)

set_option maxRecDepth 100000 in
theorem root_ok : CallOk Try.prog 58 (sRoot lfrR) := by
  refine .of_run (hc := (tb16 lfR).hc) Try.func58 rfl (by kernel_rfl) (by kernel_rfl) fun xs v ps hs hp w => ?_
  unfold sRoot at hs
  split at hs
  · rename_i f h
    obtain rfl := arr1_some h
    cases hs
    have hf : bd f := hp (lfR.bd f) (by simp [lfrR])
    clear hp h
    have hvf := val_bd hf
    refine run_ex hmix ti_ok tb16_ok 0 false 800 [] (fun ar lf => by conv => lhs; cbv) (allP ?_) ?_
    · trivial
    refine Run.cut [1, 2, 3, 4] [4] 3 (by decide) rfl rfl ?_
    refine Run.loop (ι := {p : Int × F // -1 ≤ p.1 ∧ p.1 ≤ 127 ∧ (∀ j, j < 4 → p.2 j = words (rt (val f) (p.1 + 1).toNat) j)})
      (fun i => ([.any, .a (.one (.ptr 0 (.lit 0))), .a (.one (.ptr 1 (.lit 0))), .a (.one (.ptr 2 (.lit 0))), .a (.one (.int .i64 i.1.1))] ++ List.replicate 33 .any,
        [some (K4 f), some (K4 fun _ => 0), some (K4 i.1.2)]))
      (fun i => (i.1.1 + 1).toNat) ⟨(127, fun _ => 0), by decide, by decide, ?_⟩ ?_
    · show ∀ j, j < 4 → 0 = words (rt (val f) 128) j
      rw [show rt (val f) 128 = 0 by unfold rt; rfl]
      exact zero_words
    rintro ⟨⟨n, x⟩, h0, h1, hx⟩ ih
    simp only at h0 h1 hx
    by_cases hn : 0 ≤ n
    · have en : (n + 1).toNat = n.toNat + 1 := by omega
      rw [en] at hx
      obtain ⟨b1, b2, b3⟩ := rt_facts (val f) (n := n.toNat) (by omega)
      have hst := rt_step (val f) (n := n.toNat) (by omega)
      have hquo : rbin .quo .i64 n 64 = n / 64 := rbin_quoi hn (by omega) (by decide)
      have hrem : rbin .rem .i64 n 64 = n % 64 := rbin_remi hn
      have hu := (upd_bit hx hn (by omega) b1).1
      have hub : bd _ := bd.congr (fun j hj => (hu j hj).symm) (words_bd _)
      have hno := decide_eq_true (square_no hu b2 b3)
      have hlow := square_low hu b2 b3
      have esub : rbin .sub .i64 n 1 = n - 1 := rbin_subi (by omega)
      have emu : (rbin .sub .i64 n 1 + 1).toNat < (n + 1).toNat := by rw [esub]; omega
      have esub1 : rbin .sub .i64 n 1 + 1 = n := by rw [esub]; omega
      by_cases hle : (rt (val f) (n.toNat + 1) + p2 n.toNat) * (rt (val f) (n.toNat + 1) + p2 n.toNat) ≤ val f
      · rw [if_pos hle] at hst
        have hcm := (leq_zero (f := lfR.wmulL (updF x (n / 64).toNat (rbin .or .u64 (x (n / 64).toNat) (rbin .shl .u64 1 (n % 64)))) (updF x (n / 64).toNat (rbin .or .u64 (x (n / 64).toNat) (rbin .shl .u64 1 (n % 64))))) (g := f)).trans (decide_eq_true (by rw [hlow]; exact hle))
        refine run_ex hmix ti_ok tb16_ok 2 false 800 [true, true, true] (fun ar lf => by conv => lhs; cbv) (allP ?_) ?_
        · simp only [conj, arR, N.val, hquo, hrem, rcmp_geq n, Nat.zero_add, Nat.mul_one]
          and_intros <;> first | exact hf | exact hub | trivial | exact hno | exact hcm | exact words_bd _ | exact ⟨by omega, by omega⟩ | omega | (simp only [decide_eq_true_eq]; omega)
        · refine Run.cut [1, 2, 3, 4] [] 3 (by decide) rfl rfl ?_
          refine ih ⟨(_, _), ?_, ?_, ?_⟩ emu _ _
          · simp only [esub]; omega
          · simp only [esub]; omega
          · simp only [esub1]
            rw [hst]
            intro j hj; rw [← hu j hj]; simp only [N.val, arR, hquo, hrem, Nat.zero_add, Nat.mul_one]
      · rw [if_neg hle] at hst
        have hcm := (leq_zero (f := lfR.wmulL (updF x (n / 64).toNat (rbin .or .u64 (x (n / 64).toNat) (rbin .shl .u64 1 (n % 64)))) (updF x (n / 64).toNat (rbin .or .u64 (x (n / 64).toNat) (rbin .shl .u64 1 (n % 64))))) (g := f)).trans (decide_eq_false (by rw [hlow]; exact hle))
        refine run_ex hmix ti_ok tb16_ok 2 false 800 [true, true, false] (fun ar lf => by conv => lhs; cbv) (allP ?_) ?_
        · simp only [conj, arR, N.val, hquo, hrem, rcmp_geq n, Nat.zero_add, Nat.mul_one]
          and_intros <;> first | exact hf | exact hub | trivial | exact hno | exact hcm | exact words_bd _ | exact ⟨by omega, by omega⟩ | omega | (simp only [decide_eq_true_eq]; omega)
        · refine Run.cut [1, 2, 3, 4] [] 3 (by decide) rfl rfl ?_
          refine ih ⟨(_, _), ?_, ?_, ?_⟩ emu _ _
          · simp only [esub]; omega
          · simp only [esub]; omega
          · simp only [esub1]
            rw [hst]
            exact hx
    · obtain rfl : n = -1 := by omega
      refine run_ex hmix ti_ok tb16_ok 2 false 800 [false] (fun ar lf => by conv => lhs; cbv) (allP ?_) ?_
      · simp only [conj, arR, rcmp_geq]
        decide
      · exact Run.ret ti_ok rfl rfl (.a (.ints hx))
  · cases hs
end Go.Proofs.Ytegcdnjihnpolaa
