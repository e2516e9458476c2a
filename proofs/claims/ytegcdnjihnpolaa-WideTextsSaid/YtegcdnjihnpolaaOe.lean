import Derived.Test.YtegcdnjihnpolaaOd
import Derived.Test.YtegcdnjihnpolaaEd
import Derived.Test.YtegcdnjihnpolaaWr
set_option linter.unusedSimpArgs false
set_option linter.unusedVariables false
namespace Go.Eng
open Go
structure LW where
  t : LT
  p : LP
def lwR : LW := ⟨ltR, lpR⟩
def sLaw2I (l : LW) : ESpec := fun a => match a with
  | [.agg (.ints .u64 (.lit 4) f), .agg (.ints .u64 (.lit 4) g), .one (.int .i64 n)] => some (.a (.one (.lbool true)), [l.t.lf.bd f, l.t.lf.bd g, l.t.lf.i64 n])
  | _ => none
end Go.Eng
namespace Go.Proofs.Ytegcdnjihnpolaa
open Go Go.Eng Go.Proofs Go.RowKit
theorem and511 (n : Int) : 0 ≤ rbin .and .i64 n 511 ∧ rbin .and .i64 n 511 ≤ 511 := by
  have h : (BitVec.ofInt 64 n &&& BitVec.ofInt 64 511).toNat ≤ 511 := by
    rw [BitVec.toNat_and]
    exact Nat.le_trans Nat.and_le_right (by decide)
  generalize hX : (BitVec.ofInt 64 n &&& BitVec.ofInt 64 511).toNat = X at h
  have e : rbin .and .i64 n 511 = (X : Int) := by
    rw [← hX]
    unfold rbin
    show IntKind.i64.wrap (((BitVec.ofInt 64 n &&& BitVec.ofInt 64 511).toNat : Nat) : Int) = _
    rw [hX]
    exact wrap_i64 ⟨by omega, by omega⟩
  rw [e]
  omega
attribute [local irreducible] CallOk HOk Run Mid TIok rbin rcmp run1 words val updF shfF blitF strOf textOf ndig goP parseP pdig
theorem back_y {f g : F} (hf : bd f) : ∀ j, j < 4 → lfR.wsub (lfR.wadd f g) g j = f j := by
  intro j hj
  show words (val (words (val f + val g)) - val g) j = f j
  rw [← words_val hf j hj, val_words]
  exact words_congr (by omega) j hj
theorem back_under {f g : F} (hf : bd f) (hg : bd g) : lfR.wsubB (lfR.wadd f g) g = lfR.waddB f g := by
  have h1 := val_bd hf
  have h2 := val_bd hg
  show decide (val (words (val f + val g)) < val g) = decide ((115792089237316195423570985008687907853269984665640564039457584007913129639936 : Int) ≤ val f + val g)
  rw [val_words]
  exact decide_eq_decide.2 (by omega)
theorem back_cmp {f g : F} (hf : bd f) (hg : bd g) : rcmp .lss (lfR.wcmp (lfR.wadd f g) f) 0 = lfR.waddB f g := by
  have h1 := val_bd hf
  have h2 := val_bd hg
  rw [rcmp_lss]
  show decide ((if val (words (val f + val g)) < val f then -1 else if val f < val (words (val f + val g)) then 1 else 0 : Int) < 0) = decide ((115792089237316195423570985008687907853269984665640564039457584007913129639936 : Int) ≤ val f + val g)
  rw [val_words]
  refine decide_eq_decide.2 ?_
  split
  · omega
  · split <;> omega
theorem back_pv {f : F} (hf : bd f) : ∀ j, j < 4 → lpR.pv (ltR.text f) j = f j := by
  intro j hj
  have h1 := val_bd hf
  show words (parseP (textOf (val f))).1 j = f j
  rw [parse_text h1.1 h1.2, words_val hf j hj]
theorem back_pe {f : F} (hf : bd f) : lpR.pe (ltR.text f) = 0 := by
  have h1 := val_bd hf
  show (if (parseP (textOf (val f))).2 = -1 then 0 else 41) = 0
  rw [parse_text h1.1 h1.2]; rfl
theorem back_fit {f : F} (hf : bd f) : lpR.sfits (ltR.text f) := by
  have h1 := val_bd hf
  obtain ⟨k, a, b, c⟩ := ndig_spec h1.1 h1.2
  have hk : k < 78 := by
    rcases c with c | c
    · omega
    · exact few_digits h1.2 h1.1 c
  show (textOf (val f)).size ≤ _
  unfold textOf
  rw [strOf_size, a]
  omega
theorem quo_hi {f g : F} (hf : bd f) (h0 : val g ≠ 0) (hg : bd g) : ∀ j, j < 4 → lfR.wmulH (lfR.wdivQ f g) g j = (0 : Int) := by
  intro j hj
  have h1 := val_bd hf
  have h2 := val_bd hg
  have hq0 : 0 ≤ val f / val g := Int.ediv_nonneg h1.1 h2.1
  have hq1 : val f / val g ≤ val f := Int.ediv_le_self _ h1.1
  have hm : val f / val g * val g ≤ val f := Int.ediv_mul_le _ h0
  show words (val (words (val f / val g)) * val g / (115792089237316195423570985008687907853269984665640564039457584007913129639936 : Int)) j = 0
  rw [val_words_of hq0 (by omega), Int.ediv_eq_zero_of_lt (Int.mul_nonneg hq0 h2.1) (by omega)]
  exact (zero_words j hj).symm
theorem quo_lo {f g : F} (hf : bd f) (h0 : val g ≠ 0) (hg : bd g) : val (lfR.wmulL (lfR.wdivQ f g) g) = val f / val g * val g := by
  have h1 := val_bd hf
  have h2 := val_bd hg
  have hq0 : 0 ≤ val f / val g := Int.ediv_nonneg h1.1 h2.1
  have hq1 : val f / val g ≤ val f := Int.ediv_le_self _ h1.1
  have hm : val f / val g * val g ≤ val f := Int.ediv_mul_le _ h0
  show val (words (val (words (val f / val g)) * val g)) = _
  rw [val_words_of hq0 (by omega)]
  exact val_words_of (Int.mul_nonneg hq0 h2.1) (by omega)
theorem quo_r {f g : F} (hf : bd f) (h0 : val g ≠ 0) (hg : bd g) : val (lfR.wdivR f g) = val f % val g := by
  have h1 := val_bd hf
  have h2 := val_bd hg
  have hr0 : 0 ≤ val f % val g := Int.emod_nonneg _ h0
  have hr1 : val f % val g < val g := Int.emod_lt_of_pos _ (by omega)
  show val (words (if val g = 0 then 0 else val f % val g)) = _
  rw [if_neg h0]
  exact val_words_of hr0 (by omega)
theorem quo_more {f g : F} (hf : bd f) (h0 : val g ≠ 0) (hg : bd g) : lfR.waddB (lfR.wmulL (lfR.wdivQ f g) g) (lfR.wdivR f g) = false := by
  have h1 := val_bd hf
  show decide ((115792089237316195423570985008687907853269984665640564039457584007913129639936 : Int) ≤ val (lfR.wmulL (lfR.wdivQ f g) g) + val (lfR.wdivR f g)) = false
  rw [quo_lo hf h0 hg, quo_r hf h0 hg]
  have := Int.mul_ediv_add_emod (val f) (val g)
  rw [Int.mul_comm] at this
  exact decide_eq_false (by omega)
theorem quo_sum {f g : F} (hf : bd f) (h0 : val g ≠ 0) (hg : bd g) : ∀ j, j < 4 → lfR.wadd (lfR.wmulL (lfR.wdivQ f g) g) (lfR.wdivR f g) j = f j := by
  intro j hj
  show words (val (lfR.wmulL (lfR.wdivQ f g) g) + val (lfR.wdivR f g)) j = f j
  rw [quo_lo hf h0 hg, quo_r hf h0 hg]
  have := Int.mul_ediv_add_emod (val f) (val g)
  rw [Int.mul_comm] at this
  rw [this, words_val hf j hj]
theorem quo_cmp {f g : F} (hf : bd f) (h0 : val g ≠ 0) (hg : bd g) : rcmp .geq (lfR.wcmp (lfR.wdivR f g) g) 0 = false := by
  have h2 := val_bd hg
  have hr1 : val f % val g < val g := Int.emod_lt_of_pos _ (by omega)
  rw [rcmp_geq]
  show decide ((if val (lfR.wdivR f g) < val g then -1 else if val g < val (lfR.wdivR f g) then 1 else 0 : Int) ≥ 0) = false
  rw [quo_r hf h0 hg, if_pos hr1]
  decide
theorem back_shift {f : F} (hf : bd f) {n : Int} (h0 : 0 ≤ n) (hl : lfR.wleftB f n = false) : ∀ j, j < 4 → lfR.wright (lfR.wleft f n) n j = f j := by
  intro j hj
  have h1 := val_bd hf
  obtain ⟨m, hm⟩ : ∃ m : Nat, n = m := ⟨n.toNat, by omega⟩
  rw [wleftB_pos hm, decide_eq_false_iff_not] at hl
  have hp := p2_pos m
  have hval : val (lfR.wleft f n) = val f * p2 m := by
    rw [wleft_pos hm]
    exact val_words_of (Int.mul_nonneg h1.1 (Int.le_of_lt hp)) (by omega)
  rw [wright_pos hm, hval, Int.mul_ediv_cancel _ (by omega), words_val hf j hj]
def tow (l : LW) : Tbl := tbL [(17, sAwake), (46, sAdd l.t.lf), (47, sSub l.t.lf), (60, sParse l.p), (61, sText l.t), (51, sCmp l.t.lf), (56, sDiv l.t.lf), (49, sMul l.t.lf), (22, sLeft l.t.lf), (23, sRight l.t.lf)] []
theorem lwt : lwR.t = ltR := rfl
theorem lwp : lwR.p = lpR := rfl
theorem tow_ok : TblOk Try.prog (tow lwR) := tbL_ok (by simpa [lwt, lwp, ltlf] using ⟨awake_ok, add_ok, sub_ok, parse_ok, text_ok, wcmp_ok, div_ok, mul_ok, left_ok, right_ok⟩) (by simp)
set_option maxRecDepth 100000 in
theorem back_ok : CallOk Try.prog 9 (sLaw2I lwR) := by
  refine .of_run (hc := (tow lwR).hc) Try.func9 rfl (by kernel_rfl) (by kernel_rfl) fun xs v ps hs hp w => ?_
  unfold sLaw2I at hs
  split at hs
  · rename_i f g n
    cases hs
    have hf : bd f := hp (lfR.bd f) (by simp [lwt, ltlf])
    have hg : bd g := hp (lfR.bd g) (by simp [lwt, ltlf])
    clear hp
    have hm := and511 n
    have oi : -9223372036854775808 ≤ rbin .and .i64 n 511 ∧ rbin .and .i64 n 511 ≤ 9223372036854775807 := by omega
    have o1 := back_fit hf
    have o2 : (!arR.lEq [lfR.wsub (lfR.wadd f g) g 0, lfR.wsub (lfR.wadd f g) g 1, lfR.wsub (lfR.wadd f g) g 2, lfR.wsub (lfR.wadd f g) g 3] [f 0, f 1, f 2, f 3]) = false := by rw [lEq4 (back_y hf)]; rfl
    have o3 : (!(lfR.wsubB (lfR.wadd f g) g == lfR.waddB f g)) = false := by rw [back_under hf hg]; exact nn_self _
    have o4 : (!arR.lEq [lpR.pv (ltR.text f) 0, lpR.pv (ltR.text f) 1, lpR.pv (ltR.text f) 2, lpR.pv (ltR.text f) 3] [f 0, f 1, f 2, f 3]) = false := by rw [lEq4 (back_pv hf)]; rfl
    have o5 : rcmp .neq (lpR.pe (ltR.text f)) 0 = false := by rw [back_pe hf]; exact neq_self _
    have o6 : (!(rcmp .lss (lfR.wcmp (lfR.wadd f g) f) 0 == lfR.waddB f g)) = false := by rw [back_cmp hf hg]; exact nn_self _
    have oA : ∀ F : F, bd (words 0) → True := fun _ _ => trivial
    by_cases h0 : val g = 0
    · have oE : rcmp .eql (lfR.wdivE g) 0 = false := by rw [rcmp_eql]; exact decide_eq_false (by show ¬ (if val g = 0 then (40 : Int) else 0) = 0; rw [if_pos h0]; decide)
      cases hl : lfR.wleftB f (rbin .and .i64 n 511) with
      | true =>
        refine run_ex hmix ti_ok tow_ok 99 false (26 + 774) [false, false, false, false, false, false, true, true] (fun ar lf => exec_stage (by conv => lhs; cbv) (by conv => lhs; cbv)) (allP ?_) ?_
        · simp only [conj]
          repeat (first | exact trivial | refine ⟨by first | exact hf | exact hg | exact words_bd _ | exact oi | exact o1 | exact o2 | exact o3 | exact o4 | exact o5 | exact o6 | exact oE | exact hl, ?_⟩)
        · exact Run.ret ti_ok rfl rfl (VLe.yes rfl)
      | false =>
        have oS := lEq4 (back_shift hf hm.1 hl)
        refine run_ex hmix ti_ok tow_ok 99 false (26 + 774) [false, false, false, false, false, false, false, true] (fun ar lf => exec_stage (by conv => lhs; cbv) (by conv => lhs; cbv)) (allP ?_) ?_
        · simp only [conj]
          repeat (first | exact trivial | refine ⟨by first | exact hf | exact hg | exact words_bd _ | exact oi | exact o1 | exact o2 | exact o3 | exact o4 | exact o5 | exact o6 | exact oE | exact hl | exact oS, ?_⟩)
        · exact Run.ret ti_ok rfl rfl (VLe.yes rfl)
    · have oE : rcmp .eql (lfR.wdivE g) 0 = true := by rw [rcmp_eql]; exact decide_eq_true (by show (if val g = 0 then (40 : Int) else 0) = 0; rw [if_neg h0])
      have q1 : (!arR.lEq [lfR.wmulH (lfR.wdivQ f g) g 0, lfR.wmulH (lfR.wdivQ f g) g 1, lfR.wmulH (lfR.wdivQ f g) g 2, lfR.wmulH (lfR.wdivQ f g) g 3] [0, 0, 0, 0]) = false := by rw [lEq4 (g := fun _ => 0) (quo_hi hf h0 hg)]; rfl
      have q2 := quo_more hf h0 hg
      have q3 : (!arR.lEq [lfR.wadd (lfR.wmulL (lfR.wdivQ f g) g) (lfR.wdivR f g) 0, lfR.wadd (lfR.wmulL (lfR.wdivQ f g) g) (lfR.wdivR f g) 1, lfR.wadd (lfR.wmulL (lfR.wdivQ f g) g) (lfR.wdivR f g) 2, lfR.wadd (lfR.wmulL (lfR.wdivQ f g) g) (lfR.wdivR f g) 3] [f 0, f 1, f 2, f 3]) = false := by rw [lEq4 (quo_sum hf h0 hg)]; rfl
      have q4 := quo_cmp hf h0 hg
      cases hl : lfR.wleftB f (rbin .and .i64 n 511) with
      | true =>
        refine run_ex hmix ti_ok tow_ok 99 false (26 + 774) [false, false, false, false, false, true, false, false, false, false, true, true] (fun ar lf => exec_stage (by conv => lhs; cbv) (by conv => lhs; cbv)) (allP ?_) ?_
        · simp only [conj]
          repeat (first | exact trivial | refine ⟨by first | exact hf | exact hg | exact words_bd _ | exact oi | exact o1 | exact o2 | exact o3 | exact o4 | exact o5 | exact o6 | exact oE | exact hl | exact q1 | exact q2 | exact q3 | exact q4, ?_⟩)
        · exact Run.ret ti_ok rfl rfl (VLe.yes rfl)
      | false =>
        have oS := lEq4 (back_shift hf hm.1 hl)
        refine run_ex hmix ti_ok tow_ok 99 false (26 + 774) [false, false, false, false, false, true, false, false, false, false, false, true] (fun ar lf => exec_stage (by conv => lhs; cbv) (by conv => lhs; cbv)) (allP ?_) ?_
        · simp only [conj]
          repeat (first | exact trivial | refine ⟨by first | exact hf | exact hg | exact words_bd _ | exact oi | exact o1 | exact o2 | exact o3 | exact o4 | exact o5 | exact o6 | exact oE | exact hl | exact oS | exact q1 | exact q2 | exact q3 | exact q4, ?_⟩)
        · exact Run.ret ti_ok rfl rfl (VLe.yes rfl)
  · cases hs
end Go.Proofs.Ytegcdnjihnpolaa
