import Derived.Test.YtegcdnjihnpolaaWm
set_option linter.unusedSimpArgs false
set_option linter.unusedVariables false
namespace Go.Eng
open Go
def sDiv (lf : LF) : ESpec := fun l => match arr2 l with
  | some (f, g) => some (.tup [W (lf.wdivQ f g), W (lf.wdivR f g), I (lf.wdivE g)], [lf.bd f, lf.bd g])
  | none => none
theorem over_t {r : F} (h0 : 0 ≤ val r) (h1 : val r < (115792089237316195423570985008687907853269984665640564039457584007913129639936 : Int)) : lfR.wbit r 255 = decide (p2 255 ≤ val r) := by
  show decide (0 ≤ (255 : Int) ∧ (255 : Int) < 256 ∧ val r / p2 (255 : Int).toNat % 2 = 1) = _
  rw [Bool.eq_iff_iff, decide_eq_true_eq, decide_eq_true_eq]
  have hp := p2_pos 255
  have e : (115792089237316195423570985008687907853269984665640564039457584007913129639936 : Int) = 2 * p2 255 := by rw [← p2_256, ← p2_succ]
  have h2 : val r / p2 255 < 2 := Int.ediv_lt_of_lt_mul hp (by omega)
  have h3 : 0 ≤ val r / p2 255 := Int.ediv_nonneg h0 (by omega)
  constructor
  · rintro ⟨-, -, h⟩
    exact Go.Proofs.Ytegcdnjihnpolaa.bit_set h0 h
  · intro h
    refine ⟨by decide, by decide, ?_⟩
    have : 1 ≤ val r / p2 255 := by
      have := Int.le_ediv_of_mul_le hp (show 1 * p2 255 ≤ val r by omega); exact this
    show val r / p2 255 % 2 = 1
    omega
theorem cmp_ge {f g : F} : rcmp .geq (lfR.wcmp f g) 0 = decide (val g ≤ val f) := by
  rw [Go.Proofs.Ytegcdnjihnpolaa.rcmp_geq]
  show decide ((if val f < val g then (-1 : Int) else if val g < val f then 1 else 0) ≥ 0) = _
  rw [Bool.eq_iff_iff, decide_eq_true_eq, decide_eq_true_eq]
  split
  · omega
  · split <;> omega
/-- what is left, twice -/
theorem twice {r : F} {v : Int} (hv : val r = v) : ∀ j, j < 4 → lfR.wleft r 1 j = words (2 * v) j := by
  intro j _
  rw [Go.Proofs.Ytegcdnjihnpolaa.wleft_pos (n := 1) (m := 1) rfl, hv, show p2 1 = 2 from rfl, Int.mul_comm]
theorem odd {L : F} {v : Int} (hL : ∀ j, j < 4 → L j = words (2 * v) j) : ∀ j, j < 4 → (if j = 0 then rbin .or .u64 (L 0) 1 else L j) = words (2 * v + 1) j := by
  intro j hj
  have hb : (2 * v) / p2 (64 * 0 + 0) % 2 = 0 := by rw [show p2 (64 * 0 + 0) = 1 from rfl]; omega
  obtain ⟨a1, a2⟩ := add_bit (n := 2 * v) (j := 0) (r := 0) (by decide) hb
  have hw := words_bit (2 * v) 0 0 (by decide)
  rw [hb] at hw
  have hlo := words_lo (2 * v) 0
  have e : rbin .or .u64 (words (2 * v) 0) 1 = words (2 * v) 0 + 1 := or_bit (t := 0) hlo.1 a1 hw
  have a2 := a2 j
  rw [show p2 (64 * 0 + 0) = 1 from rfl] at a2
  try rw [show p2 0 = 1 from rfl] at a2
  rw [a2, hL 0 (by decide), e]
  split
  · rfl
  · exact hL j hj
theorem odd' {L : F} {v : Int} (hL : ∀ j, j < 4 → L j = words (2 * v) j) : ∀ j, j < 4 → (if j = 0 then rbin .add .u64 (L 0) 1 else L j) = words (2 * v + 1) j := by
  intro j hj
  have hb : (2 * v) / p2 (64 * 0 + 0) % 2 = 0 := by rw [show p2 (64 * 0 + 0) = 1 from rfl]; omega
  obtain ⟨a1, a2⟩ := add_bit (n := 2 * v) (j := 0) (r := 0) (by decide) hb
  have hlo := words_lo (2 * v) 0
  rw [show p2 0 = 1 from rfl] at a1
  have e : rbin .add .u64 (words (2 * v) 0) 1 = words (2 * v) 0 + 1 := by rw [rbin_add, Int.emod_eq_of_lt (by omega) a1]
  have a2 := a2 j
  rw [show p2 (64 * 0 + 0) = 1 from rfl] at a2
  try rw [show p2 0 = 1 from rfl] at a2
  rw [a2, hL 0 (by decide), e]
  split
  · rfl
  · exact hL j hj
/-- whether it is taken away: by the bit that is lost, or by the comparison -/
theorem take_iff {r1 g : F} {v y X : Int} (hv0 : 0 ≤ v) (hv1 : v < val g) (hg : val g < (115792089237316195423570985008687907853269984665640564039457584007913129639936 : Int)) (hy : 0 ≤ y ∧ y ≤ 1) (hX : X = 2 * v + y) (h1 : ∀ j, j < 4 → r1 j = words X j) :
    (p2 255 ≤ v → val g ≤ X) ∧ (¬ p2 255 ≤ v → (val g ≤ val r1 ↔ val g ≤ X)) ∧ (val g ≤ X → ∀ j, j < 4 → lfR.wsub r1 g j = words (X - val g) j) := by
  have e : (115792089237316195423570985008687907853269984665640564039457584007913129639936 : Int) = 2 * p2 255 := by rw [← p2_256, ← p2_succ]
  have er : val r1 = X % (115792089237316195423570985008687907853269984665640564039457584007913129639936 : Int) := by rw [← val_words]; exact val_congr h1
  refine ⟨fun h => by omega, fun h => ?_, fun h j hj => ?_⟩
  · rw [er, Int.emod_eq_of_lt (by omega) (by omega)]
  · show words (val r1 - val g) j = _
    rw [er]
    refine words_congr ?_ j hj
    rw [Int.sub_emod, Int.emod_emod, ← Int.sub_emod]
end Go.Eng
namespace Go.Proofs.Ytegcdnjihnpolaa
open Go Go.Eng Go.Proofs Go.RowKit
attribute [local irreducible] CallOk HOk Run TIok rbin rcmp run1 words val updF shfF blitF

def tb7 (lf : LF) : Tbl := tbL [(55, sZero lf), (20, sBit lf), (22, sLeft lf), (51, sCmp lf), (47, sSub lf)] []
theorem tb7_ok : TblOk Try.prog (tb7 lfR) := tbL_ok (by simpa using ⟨zero_ok, bit_ok, left_ok, wcmp_ok, sub_ok⟩) (by simp)

set_option maxRecDepth 100000 in
theorem div_ok : CallOk Try.prog 56 (sDiv lfR) := by
  refine .of_run (hc := (tb7 lfR).hc) Try.func56 rfl (by kernel_rfl) (by kernel_rfl) fun xs v ps hs hp w => ?_
  unfold sDiv at hs
  split at hs
  · rename_i f g h
    obtain rfl := arr2_some h
    cases hs
    have hf : bd f := hp (lfR.bd f) (by simp)
    have hg : bd g := hp (lfR.bd g) (by simp)
    clear hp h
    have hvf := val_bd hf
    have hvg := val_bd hg
    by_cases hz : val g = 0
    · refine run_ex hmix ti_ok tb7_ok 0 false 800 [true] (fun ar lf => by conv => lhs; cbv) (allP ?_) ?_
      · simp only [conj]
        exact ⟨decide_eq_true hz, hg, trivial⟩
      · refine Run.ret ti_ok rfl rfl (.tup3 (.ints (four ?_ ?_ ?_ ?_)) (.ints (four ?_ ?_ ?_ ?_)) (.lit ?_))
        · show 0 = words (val f / val g) 0; rw [hz, Int.ediv_zero]; decide +kernel
        · show 0 = words (val f / val g) 1; rw [hz, Int.ediv_zero]; decide +kernel
        · show 0 = words (val f / val g) 2; rw [hz, Int.ediv_zero]; decide +kernel
        · show 0 = words (val f / val g) 3; rw [hz, Int.ediv_zero]; decide +kernel
        · show 0 = words (if val g = 0 then 0 else _) 0; rw [if_pos hz]; decide +kernel
        · show 0 = words (if val g = 0 then 0 else _) 1; rw [if_pos hz]; decide +kernel
        · show 0 = words (if val g = 0 then 0 else _) 2; rw [if_pos hz]; decide +kernel
        · show 0 = words (if val g = 0 then 0 else _) 3; rw [if_pos hz]; decide +kernel
        · show 40 = if val g = 0 then (40 : Int) else 0; rw [if_pos hz]
    · have hb : 0 < val g := by omega
      refine run_ex hmix ti_ok tb7_ok 0 false 800 [false] (fun ar lf => by conv => lhs; cbv) (allP ?_) ?_
      · simp only [conj]
        exact ⟨decide_eq_false hz, hg, trivial⟩
      refine Run.cut [2, 3, 4, 5, 7, 8, 9] [9] 6 (by decide) rfl rfl ?_
      refine Run.loop (ι := {p : Int × F × F // -1 ≤ p.1 ∧ p.1 ≤ 255 ∧ (∀ j, j < 4 → p.2.1 j = words (val f / p2 (p.1 + 1).toNat / val g * p2 (p.1 + 1).toNat) j) ∧ (∀ j, j < 4 → p.2.2 j = words (val f / p2 (p.1 + 1).toNat % val g) j)})
        (fun i => ([.any, .any, .a (.one (.ptr 0 (.lit 0))), .a (.one (.ptr 1 (.lit 0))), .a (.one (.ptr 2 (.lit 0))), .a (.one (.ptr 3 (.lit 0))), .any, .a (.one (.ptr 4 (.lit 0))), .a (.one (.ptr 5 (.lit 0))), .a (.one (.int .i64 i.1.1))] ++ List.replicate 47 .any,
          [some (K4 f), some (K4 g), some (K4 fun _ => 0), some (K4 fun _ => 0), some (K4 i.1.2.1), some (K4 i.1.2.2)]))
        (fun i => (i.1.1 + 1).toNat) ⟨(255, fun _ => 0, fun _ => 0), by decide, by decide, ?_, ?_⟩ ?_
      · show ∀ j, j < 4 → 0 = words (val f / p2 256 / val g * p2 256) j
        rw [p2_256, Int.ediv_eq_zero_of_lt hvf.1 hvf.2, Int.zero_ediv, Int.zero_mul]
        exact four (by decide +kernel) (by decide +kernel) (by decide +kernel) (by decide +kernel)
      · show ∀ j, j < 4 → 0 = words (val f / p2 256 % val g) j
        rw [p2_256, Int.ediv_eq_zero_of_lt hvf.1 hvf.2, Int.zero_emod]
        exact four (by decide +kernel) (by decide +kernel) (by decide +kernel) (by decide +kernel)
      rintro ⟨⟨n, q, r⟩, h0, h1, hq, hr⟩ ih
      simp only at h0 h1 hq hr
      by_cases hn : 0 ≤ n
      · have en : (n + 1).toNat = n.toNat + 1 := by omega
        rw [en] at hq hr
        obtain ⟨d1, d2⟩ := div_round (a := val f) hb (n := n.toNat)
        have hv0 := Int.emod_nonneg (val f / p2 (n.toNat + 1)) (Int.ne_of_gt hb)
        have hv1 := Int.emod_lt_of_pos (val f / p2 (n.toNat + 1)) hb
        have hvr : val r = val f / p2 (n.toNat + 1) % val g := by rw [val_congr hr, val_words_of hv0 (by omega)]
        have hrb : bd r := bd.congr (fun j hj => (hr j hj).symm) (words_bd _)
        have hL := twice hvr
        have hLb : bd (lfR.wleft r 1) := words_bd _
        have hquo : rbin .quo .i64 n 64 = n / 64 := rbin_quoi hn (by omega) (by decide)
        have hrem : rbin .rem .i64 n 64 = n % 64 := rbin_remi hn
        have hov := over_t (r := r) (by omega) (by omega)
        rw [hvr] at hov
        have hQ : val f / p2 (n.toNat + 1) / val g * p2 (n.toNat + 1) / p2 n.toNat % 2 = 0 := by
          rw [p2_succ, ← Int.mul_assoc, Int.mul_ediv_cancel _ (Int.ne_of_gt (p2_pos _))]; omega
        have hu := (upd_bit hq hn (by omega) hQ).1
        have hQ1 : val f / p2 (n.toNat + 1) / val g * p2 (n.toNat + 1) + p2 n.toNat = (2 * (val f / p2 (n.toNat + 1) / val g) + 1) * p2 n.toNat := by
          rw [Int.add_mul, Int.one_mul, p2_succ, ← Int.mul_assoc, Int.mul_comm _ 2]
        have hQ0 : val f / p2 (n.toNat + 1) / val g * p2 (n.toNat + 1) = (2 * (val f / p2 (n.toNat + 1) / val g) + 0) * p2 n.toNat := by
          rw [Int.add_zero, p2_succ, ← Int.mul_assoc, Int.mul_comm _ 2]
        have hbit : lfR.wbit f n = decide (val f / p2 n.toNat % 2 = 1) := by
          rw [Bool.eq_iff_iff, wbit_t hn (by omega), decide_eq_true_eq]
        have hy : 0 ≤ val f / p2 n.toNat % 2 ∧ val f / p2 n.toNat % 2 ≤ 1 := by omega
        have esub : rbin .sub .i64 n 1 = n - 1 := rbin_subi (by omega)
        have emu : (rbin .sub .i64 n 1 + 1).toNat < (n + 1).toNat := by rw [esub]; omega
        have esub1 : rbin .sub .i64 n 1 + 1 = n := by rw [esub]; omega
        have hnat : n.toNat = n.toNat := rfl
        by_cases hbb : val f / p2 n.toNat % 2 = 1
        · have hbv : lfR.wbit f n = true := by rw [hbit]; exact decide_eq_true hbb
          have hr1 : ∀ j, j < 4 → (fun j => if j = 0 then rbin .or .u64 (lfR.wleft r 1 0) 1 else lfR.wleft r 1 j) j = words (2 * (val f / p2 (n.toNat + 1) % val g) + val f / p2 n.toNat % 2) j := by rw [hbb]; exact odd hL
          have hr1b := bd.congr (fun j hj => (hr1 j hj).symm) (words_bd _)
          obtain ⟨t1, t2, t3⟩ := take_iff hv0 hv1 hvg.2 hy rfl hr1
          by_cases hoo : p2 255 ≤ val f / p2 (n.toNat + 1) % val g
          · have hovv : lfR.wbit r 255 = true := by rw [hov]; exact decide_eq_true hoo
            have hle := t1 hoo
            refine run_ex hmix ti_ok tb7_ok 2 false 800 [true, true, true] (fun ar lf => by conv => lhs; cbv) (allP ?_) ?_
            · simp only [conj, arR, N.val, hquo, hrem, rcmp_geq n]
              and_intros <;> first | exact hf | exact hg | exact hrb | exact hLb | exact hr1b | trivial | exact hbv | exact hovv | exact hgev | exact ⟨by decide, by decide⟩ | exact ⟨by omega, by omega⟩ | omega | (simp only [decide_eq_true_eq]; omega)
            · refine Run.cut [2, 3, 4, 5, 7, 8, 9] [] 6 (by decide) rfl rfl ?_
              refine ih ⟨(_, _, _), ?_, ?_, ?_, ?_⟩ emu _ _
              · simp only [esub]; omega
              · simp only [esub]; omega
              · simp only [esub1]
                rw [d2, if_pos hle, ← hQ1]
                intro j hj; rw [← hu j hj]; simp only [N.val, arR, hquo, hrem, Nat.zero_add, Nat.mul_one]
              · simp only [esub1]
                rw [d1, if_pos hle]
                exact t3 hle
          · have hovv : lfR.wbit r 255 = false := by rw [hov]; exact decide_eq_false hoo
            by_cases hle : val g ≤ 2 * (val f / p2 (n.toNat + 1) % val g) + val f / p2 n.toNat % 2
            · have hgev := (cmp_ge.trans (decide_eq_true ((t2 hoo).2 hle)))
              refine run_ex hmix ti_ok tb7_ok 2 false 800 [true, true, false, true] (fun ar lf => by conv => lhs; cbv) (allP ?_) ?_
              · simp only [conj, arR, N.val, hquo, hrem, rcmp_geq n]
                and_intros <;> first | exact hf | exact hg | exact hrb | exact hLb | exact hr1b | trivial | exact hbv | exact hovv | exact hgev | exact ⟨by decide, by decide⟩ | exact ⟨by omega, by omega⟩ | omega | (simp only [decide_eq_true_eq]; omega)
              · refine Run.cut [2, 3, 4, 5, 7, 8, 9] [] 6 (by decide) rfl rfl ?_
                refine ih ⟨(_, _, _), ?_, ?_, ?_, ?_⟩ emu _ _
                · simp only [esub]; omega
                · simp only [esub]; omega
                · simp only [esub1]
                  rw [d2, if_pos hle, ← hQ1]
                  intro j hj; rw [← hu j hj]; simp only [N.val, arR, hquo, hrem, Nat.zero_add, Nat.mul_one]
                · simp only [esub1]
                  rw [d1, if_pos hle]
                  exact t3 hle
            · have hgev := (cmp_ge.trans (decide_eq_false (fun h => hle ((t2 hoo).1 h))))
              refine run_ex hmix ti_ok tb7_ok 2 false 800 [true, true, false, false] (fun ar lf => by conv => lhs; cbv) (allP ?_) ?_
              · simp only [conj, arR, N.val, hquo, hrem, rcmp_geq n]
                and_intros <;> first | exact hf | exact hg | exact hrb | exact hLb | exact hr1b | trivial | exact hbv | exact hovv | exact hgev | exact ⟨by decide, by decide⟩ | exact ⟨by omega, by omega⟩ | omega | (simp only [decide_eq_true_eq]; omega)
              · refine Run.cut [2, 3, 4, 5, 7, 8, 9] [] 6 (by decide) rfl rfl ?_
                refine ih ⟨(_, _, _), ?_, ?_, ?_, ?_⟩ emu _ _
                · simp only [esub]; omega
                · simp only [esub]; omega
                · simp only [esub1]
                  rw [d2, if_neg hle, ← hQ0]; exact hq
                · simp only [esub1]
                  rw [d1, if_neg hle]
                  exact hr1
        · have hbv : lfR.wbit f n = false := by rw [hbit]; exact decide_eq_false hbb
          have hr1 : ∀ j, j < 4 → lfR.wleft r 1 j = words (2 * (val f / p2 (n.toNat + 1) % val g) + val f / p2 n.toNat % 2) j := by rw [show val f / p2 n.toNat % 2 = 0 by omega, Int.add_zero]; exact hL
          have hr1b := bd.congr (fun j hj => (hr1 j hj).symm) (words_bd _)
          obtain ⟨t1, t2, t3⟩ := take_iff hv0 hv1 hvg.2 hy rfl hr1
          by_cases hoo : p2 255 ≤ val f / p2 (n.toNat + 1) % val g
          · have hovv : lfR.wbit r 255 = true := by rw [hov]; exact decide_eq_true hoo
            have hle := t1 hoo
            refine run_ex hmix ti_ok tb7_ok 2 false 800 [true, false, true] (fun ar lf => by conv => lhs; cbv) (allP ?_) ?_
            · simp only [conj, arR, N.val, hquo, hrem, rcmp_geq n]
              and_intros <;> first | exact hf | exact hg | exact hrb | exact hLb | exact hr1b | trivial | exact hbv | exact hovv | exact hgev | exact ⟨by decide, by decide⟩ | exact ⟨by omega, by omega⟩ | omega | (simp only [decide_eq_true_eq]; omega)
            · refine Run.cut [2, 3, 4, 5, 7, 8, 9] [] 6 (by decide) rfl rfl ?_
              refine ih ⟨(_, _, _), ?_, ?_, ?_, ?_⟩ emu _ _
              · simp only [esub]; omega
              · simp only [esub]; omega
              · simp only [esub1]
                rw [d2, if_pos hle, ← hQ1]
                intro j hj; rw [← hu j hj]; simp only [N.val, arR, hquo, hrem, Nat.zero_add, Nat.mul_one]
              · simp only [esub1]
                rw [d1, if_pos hle]
                exact t3 hle
          · have hovv : lfR.wbit r 255 = false := by rw [hov]; exact decide_eq_false hoo
            by_cases hle : val g ≤ 2 * (val f / p2 (n.toNat + 1) % val g) + val f / p2 n.toNat % 2
            · have hgev := (cmp_ge.trans (decide_eq_true ((t2 hoo).2 hle)))
              refine run_ex hmix ti_ok tb7_ok 2 false 800 [true, false, false, true] (fun ar lf => by conv => lhs; cbv) (allP ?_) ?_
              · simp only [conj, arR, N.val, hquo, hrem, rcmp_geq n]
                and_intros <;> first | exact hf | exact hg | exact hrb | exact hLb | exact hr1b | trivial | exact hbv | exact hovv | exact hgev | exact ⟨by decide, by decide⟩ | exact ⟨by omega, by omega⟩ | omega | (simp only [decide_eq_true_eq]; omega)
              · refine Run.cut [2, 3, 4, 5, 7, 8, 9] [] 6 (by decide) rfl rfl ?_
                refine ih ⟨(_, _, _), ?_, ?_, ?_, ?_⟩ emu _ _
                · simp only [esub]; omega
                · simp only [esub]; omega
                · simp only [esub1]
                  rw [d2, if_pos hle, ← hQ1]
                  intro j hj; rw [← hu j hj]; simp only [N.val, arR, hquo, hrem, Nat.zero_add, Nat.mul_one]
                · simp only [esub1]
                  rw [d1, if_pos hle]
                  exact t3 hle
            · have hgev := (cmp_ge.trans (decide_eq_false (fun h => hle ((t2 hoo).1 h))))
              refine run_ex hmix ti_ok tb7_ok 2 false 800 [true, false, false, false] (fun ar lf => by conv => lhs; cbv) (allP ?_) ?_
              · simp only [conj, arR, N.val, hquo, hrem, rcmp_geq n]
                and_intros <;> first | exact hf | exact hg | exact hrb | exact hLb | exact hr1b | trivial | exact hbv | exact hovv | exact hgev | exact ⟨by decide, by decide⟩ | exact ⟨by omega, by omega⟩ | omega | (simp only [decide_eq_true_eq]; omega)
              · refine Run.cut [2, 3, 4, 5, 7, 8, 9] [] 6 (by decide) rfl rfl ?_
                refine ih ⟨(_, _, _), ?_, ?_, ?_, ?_⟩ emu _ _
                · simp only [esub]; omega
                · simp only [esub]; omega
                · simp only [esub1]
                  rw [d2, if_neg hle, ← hQ0]; exact hq
                · simp only [esub1]
                  rw [d1, if_neg hle]
                  exact hr1
      · obtain rfl : n = -1 := by omega
        have e1 : p2 (-1 + 1 : Int).toNat = 1 := rfl
        rw [e1, Int.ediv_one, Int.mul_one] at hq
        rw [e1, Int.ediv_one] at hr
        refine run_ex hmix ti_ok tb7_ok 2 false 800 [false] (fun ar lf => by conv => lhs; cbv) (allP ?_) ?_
        · simp only [conj, arR, rcmp_geq]
          decide
        · refine Run.ret ti_ok rfl rfl (.tup3 (.ints ?_) (.ints ?_) (.lit ?_))
          · exact hq
          · intro j hj
            show r j = words (if val g = 0 then 0 else val f % val g) j
            rw [if_neg hz]; exact hr j hj
          · show 0 = if val g = 0 then (40 : Int) else 0
            rw [if_neg hz]
  · cases hs
end Go.Proofs.Ytegcdnjihnpolaa
