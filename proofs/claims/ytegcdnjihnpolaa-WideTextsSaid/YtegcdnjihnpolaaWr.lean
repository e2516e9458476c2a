import Derived.Test.YtegcdnjihnpolaaWq
set_option linter.unusedSimpArgs false
set_option linter.unusedVariables false
namespace Go.Eng
open Go
def sLawI (lf : LF) : ESpec := fun l => match arrI l with
  | some (f, n) => some (.a (.one (.lbool true)), [lf.bd f, lf.i64 n])
  | none => none
theorem lEq4 {f g : F} (h : ∀ j, j < 4 → f j = g j) : arR.lEq [f 0, f 1, f 2, f 3] [g 0, g 1, g 2, g 3] = true := by
  rw [h 0 (by decide), h 1 (by decide), h 2 (by decide), h 3 (by decide)]
  exact beq_self_eq_true _
end Go.Eng
namespace Go.Proofs.Ytegcdnjihnpolaa
open Go Go.Eng Go.Proofs Go.RowKit
attribute [local irreducible] CallOk HOk Run TIok rbin rcmp run1 words val updF shfF blitF

def tb10 (lf : LF) : Tbl := tbL [(17, sAwake), (18, sBits lf), (19, sBits lf), (20, sBit lf), (21, sBit lf), (22, sLeft lf), (23, sRight lf), (24, sLeft0 lf), (25, sRight0 lf)] []
theorem tb10_ok : TblOk Try.prog (tb10 lfR) := tbL_ok (by simpa using ⟨awake_ok, bits_ok, rbits_ok, bit_ok, rbit_ok, left_ok, right_ok, rleft_ok, rright_ok⟩) (by simp)

theorem neq_self (x : Int) : rcmp .neq x x = false := by rw [rcmp_neq]; simp
theorem mirror_r {f : F} (hf : bd f) {n : Int} {m : Int} (h0 : n < 0) (hm : m = if n > -256 then -n else 256) : ∀ j, j < 4 → lfR.wleft f n j = lfR.wright f m j := by
  intro j hj
  have hv := val_bd hf
  obtain ⟨k, hk⟩ : ∃ k : Nat, n = -(k : Int) := ⟨(-n).toNat, by omega⟩
  split at hm
  · rw [wleft_neg hk (by omega), wright_pos (m := k) (by omega)]
  · rw [wleft_neg hk (by omega), wright_pos (m := 256) (by omega), div_min hv.1 hv.2 (show 256 ≤ k by omega), div_min hv.1 hv.2 (Nat.le_refl _)]
theorem mirror_l {f : F} {n : Int} {m : Int} (h0 : n < 0) (hm : m = if n > -256 then -n else 256) : ∀ j, j < 4 → lfR.wright f n j = lfR.wleft f m j := by
  intro j hj
  obtain ⟨k, hk⟩ : ∃ k : Nat, n = -(k : Int) := ⟨(-n).toNat, by omega⟩
  split at hm
  · rw [wright_neg hk (by omega), wleft_pos (m := k) (by omega)]
  · rw [wright_neg hk (by omega), wleft_pos (m := 256) (by omega), mul_min (show 256 ≤ k by omega) j hj, mul_min (Nat.le_refl _) j hj]
theorem nolost {f : F} (hf : bd f) {n : Int} (h0 : n < 0) : lfR.wleftB f n = false := by
  have hv := val_bd hf
  show decide ((115792089237316195423570985008687907853269984665640564039457584007913129639936 : Int) ≤ shl _ _) = false
  unfold shl
  rw [if_neg (by omega), decide_eq_false_iff_not]
  have := Int.ediv_le_self (p2 (-n).toNat) hv.1
  omega

set_option maxRecDepth 100000 in
theorem shifts_ok : CallOk Try.prog 3 (sLawI lfR) := by
  refine .evalN (tb := tb10) hmix ti_ok tb10_ok Try.func3 rfl (by kernel_rfl) (by kernel_rfl) (arrI_spec_norm (g := fun lf f n => (.a (.one (.lbool true)), [lf.bd f, lf.i64 n])) (fun l => rfl)) fun xs v ps hn hs hp => ?_
  unfold sLawI at hs
  split at hs
  · rename_i f n h
    obtain rfl := arrI_int h hn
    cases hs
    have hf : bd f := hp (lfR.bd f) (by simp)
    have hi : -9223372036854775808 ≤ n ∧ n ≤ 9223372036854775807 := hp (lfR.i64 n) (by simp)
    clear hp hn h
    by_cases h0 : 0 ≤ n
    · refine ⟨800, [false, false, true, true, true], _, fun ar lf => by conv => lhs; cbv, allP ?_, VLe.yes ?_⟩
      · simp only [conj, arR, rcmp_geq]
        and_intros <;> first | exact hf | trivial | exact beq_self_eq_true _ | exact neq_self _ | exact hi.1 | exact hi.2 | exact h0 | exact decide_eq_true h0 | (simp only [beq_self_eq_true, Bool.not_true]; done)
      · exact lEq4 (fun j _ => rfl)
    · have hneg : decide (n ≥ 0) = false := decide_eq_false h0
      by_cases h1 : n > -256
      · have en : run1 .neg .i64 n = -n := neg_i64 (by omega)
        have hm : run1 .neg .i64 n = if n > -256 then -n else 256 := by rw [if_pos h1]; exact en
        have hnn : lfR.nn (run1 .neg .i64 n) := by rw [en]; exact ⟨by omega, by omega⟩
        refine ⟨800, [false, false, false, true, true, true], _, fun ar lf => by conv => lhs; cbv, allP ?_, VLe.yes ?_⟩
        · simp only [conj, rcmp_geq]
          and_intros <;> first | exact hf | trivial | exact neq_self _ | exact hi.1 | exact hi.2 | exact hnn.1 | exact hnn.2 | exact lEq4 (mirror_r hf (by omega) hm) | exact lEq4 (mirror_l (by omega) hm) | (show rcmp _ _ _ = false; rw [rcmp_geq]; exact hneg) | (show rcmp _ _ _ = true; rw [rcmp_gtr]; exact decide_eq_true h1) | (show (!(_ == _)) = false; simp only [beq_self_eq_true, Bool.not_true]; done) | (show (!(lfR.wleftB f n)) = true; rw [nolost hf (by omega)]; rfl)
        · exact lEq4 (mirror_l (by omega) hm)
      · have hm : (256 : Int) = if n > -256 then -n else 256 := by rw [if_neg h1]
        have hnn : lfR.nn 256 := ⟨by decide, by decide⟩
        refine ⟨800, [false, false, false, false, true, true], _, fun ar lf => by conv => lhs; cbv, allP ?_, VLe.yes ?_⟩
        · simp only [conj, rcmp_geq]
          and_intros <;> first | exact hf | trivial | exact neq_self _ | exact hi.1 | exact hi.2 | exact hnn.1 | exact hnn.2 | exact lEq4 (mirror_r hf (by omega) hm) | exact lEq4 (mirror_l (by omega) hm) | (show rcmp _ _ _ = false; rw [rcmp_geq]; exact hneg) | (show rcmp _ _ _ = false; rw [rcmp_gtr]; exact decide_eq_false h1) | (show (!(_ == _)) = false; simp only [beq_self_eq_true, Bool.not_true]; done) | (show (!(lfR.wleftB f n)) = true; rw [nolost hf (by omega)]; rfl)
        · exact lEq4 (mirror_l (by omega) hm)
  · cases hs
end Go.Proofs.Ytegcdnjihnpolaa
