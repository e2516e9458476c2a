import Derived.Test.YtegcdnjihnpolaaWt
import Derived.Test.YtegcdnjihnpolaaWq
set_option linter.unusedSimpArgs false
set_option linter.unusedVariables false
namespace Go.Eng
open Go
def sDiv2 (lf : LF) : ESpec := fun l => match arr2 l with
  | some (f, g) => some (.tup [W (lf.wdivQ f g), W (lf.wdivR f g)], [lf.bd f, lf.bd g, lf.nz g])
  | none => none
theorem twice2 {r : F} {v : Int} (hv : val r = v) : ∀ j, j < 4 → lfR.wadd r r j = words (2 * v) j := by
  intro j _
  show words (val r + val r) j = _
  rw [hv, show v + v = 2 * v by omega]
theorem over2 {r : F} (hr : bd r) : rcmp .geq (r 3) 9223372036854775808 = decide (p2 255 ≤ val r) := by
  rw [Go.Proofs.Ytegcdnjihnpolaa.rcmp_geq, Bool.eq_iff_iff, decide_eq_true_eq, decide_eq_true_eq, show p2 255 = 57896044618658097711785492504343953926634992332820282019728792003956564819968 from by decide +kernel]
  have := hr.at
  unfold val
  omega
end Go.Eng
namespace Go.Proofs.Ytegcdnjihnpolaa
open Go Go.Eng Go.Proofs Go.RowKit
attribute [local irreducible] CallOk HOk Run TIok rbin rcmp run1 words val updF shfF blitF

def tb12 (lf : LF) : Tbl := tbL [(21, sBit lf), (27, sAdd lf), (48, sSub lf), (52, sCmp lf)] []
theorem tb12_ok : TblOk Try.prog (tb12 lfR) := tbL_ok (by simpa using ⟨rbit_ok, radd_ok, rsub_ok, rcmp_ok⟩) (by simp)

set_option maxRecDepth 100000 in
theorem rdiv_ok : CallOk Try.prog 57 (sDiv2 lfR) := by
  refine .of_run (hc := (tb12 lfR).hc) Try.func57 rfl (by kernel_rfl) (by kernel_rfl) fun xs v ps hs hp w => ?_
  unfold sDiv2 at hs
  split at hs
  · rename_i f g h
    obtain rfl := arr2_some h
    cases hs
    have hf : bd f := hp (lfR.bd f) (by simp)
    have hg : bd g := hp (lfR.bd g) (by simp)
    have hz : ¬ val g = 0 := hp (lfR.nz g) (by simp)
    clear hp h
    have hvf := val_bd hf
    have hvg := val_bd hg
    have hb : 0 < val g := by omega
    · refine run_ex hmix ti_ok tb12_ok 0 false 800 [] (fun ar lf => by conv => lhs; cbv) (allP ?_) ?_
      · trivial
      refine Run.cut [2, 3, 4, 5, 6, 7, 8] [8] 6 (by decide) rfl rfl ?_
      refine Run.loop (ι := {p : Int × F × F // -1 ≤ p.1 ∧ p.1 ≤ 255 ∧ (∀ j, j < 4 → p.2.1 j = words (val f / p2 (p.1 + 1).toNat / val g * p2 (p.1 + 1).toNat) j) ∧ (∀ j, j < 4 → p.2.2 j = words (val f / p2 (p.1 + 1).toNat % val g) j)})
        (fun i => ([.any, .any, .a (.one (.ptr 0 (.lit 0))), .a (.one (.ptr 1 (.lit 0))), .a (.one (.ptr 2 (.lit 0))), .a (.one (.ptr 3 (.lit 0))), .a (.one (.ptr 4 (.lit 0))), .a (.one (.ptr 5 (.lit 0))), .a (.one (.int .i64 i.1.1))] ++ List.replicate 47 .any,
          [some (K4 f), some (K4 g), some (K4 fun _ => 0), some (K4 fun _ => 0), some (K4 i.1.2.1), some (K4 i.1.2.2)]))
        (fun i => (i.1.1 + 1).toNat) ⟨(255, fun _ => 0, fun _ => 0), by decide, by decide, ?_, ?_⟩ ?_
      · show ∀ j, j < 4 → 0 = words (val f / p2 256 / val g * p2 256) j
        rw [p2_256, Int.ediv_eq_zero_of_lt hvf.1 hvf.2, Int.zero_ediv, Int.zero_mul]
        exact four (by decide +kernel) (by decide +kernel) (by decide +kernel) (by decide +kernel)
      · show ∀ j, j < 4 → 0 = words (val f / p2 256 % val g) j
        rw [p2_256, Int.ediv_eq_zero_of_lt hvf.1 hvf.2, Int.zero_emod]
        exact four (by decide +kernel) (by decide +kernel) (by decide +kernel) (by decide +kernel)
      rintro ⟨⟨n, q, r⟩, h0, h1, hq, hr⟩ ih
      simp only at h0 h1 hq hr
      by_cases hn : 0 ≤ n
      · have en : (n + 1).toNat = n.toNat + 1 := by omega
        rw [en] at hq hr
        obtain ⟨d1, d2⟩ := div_round (a := val f) hb (n := n.toNat)
        have hv0 := Int.emod_nonneg (val f / p2 (n.toNat + 1)) (Int.ne_of_gt hb)
        have hv1 := Int.emod_lt_of_pos (val f / p2 (n.toNat + 1)) hb
        have hvr : val r = val f / p2 (n.toNat + 1) % val g := by rw [val_congr hr, val_words_of hv0 (by omega)]
        have hrb : bd r := bd.congr (fun j hj => (hr j hj).symm) (words_bd _)
        have hL := twice2 hvr
        have hLb : bd (lfR.wadd r r) := words_bd _
        have hquo : rbin .quo .i64 n 64 = n / 64 := rbin_quoi hn (by omega) (by decide)
        have hrem : rbin .rem .i64 n 64 = n % 64 := rbin_remi hn
        have hov := over2 hrb
        rw [hvr] at hov
        have hQ : val f / p2 (n.toNat + 1) / val g * p2 (n.toNat + 1) / p2 n.toNat % 2 = 0 := by
          rw [p2_succ, ← Int.mul_assoc, Int.mul_ediv_cancel _ (Int.ne_of_gt (p2_pos _))]; omega
        have hu := (upd_bit hq hn (by omega) hQ).2
        have hQ1 : val f / p2 (n.toNat + 1) / val g * p2 (n.toNat + 1) + p2 n.toNat = (2 * (val f / p2 (n.toNat + 1) / val g) + 1) * p2 n.toNat := by
          rw [Int.add_mul, Int.one_mul, p2_succ, ← Int.mul_assoc, Int.mul_comm _ 2]
        have hQ0 : val f / p2 (n.toNat + 1) / val g * p2 (n.toNat + 1) = (2 * (val f / p2 (n.toNat + 1) / val g) + 0) * p2 n.toNat := by
          rw [Int.add_zero, p2_succ, ← Int.mul_assoc, Int.mul_comm _ 2]
        have hbit : lfR.wbit f n = decide (val f / p2 n.toNat % 2 = 1) := by
          rw [Bool.eq_iff_iff, wbit_t hn (by omega), decide_eq_true_eq]
        have hy : 0 ≤ val f / p2 n.toNat % 2 ∧ val f / p2 n.toNat % 2 ≤ 1 := by omega
        have esub : rbin .sub .i64 n 1 = n - 1 := rbin_subi (by omega)
        have emu : (rbin .sub .i64 n 1 + 1).toNat < (n + 1).toNat := by rw [esub]; omega
        have esub1 : rbin .sub .i64 n 1 + 1 = n := by rw [esub]; omega
        have hnat : n.toNat = n.toNat := rfl
        by_cases hbb : val f / p2 n.toNat % 2 = 1
        · have hbv : lfR.wbit f n = true := by rw [hbit]; exact decide_eq_true hbb
          have hr1 : ∀ j, j < 4 → (fun j => if j = 0 then rbin .add .u64 (lfR.wadd r r 0) 1 else lfR.wadd r r j) j = words (2 * (val f / p2 (n.toNat + 1) % val g) + val f / p2 n.toNat % 2) j := by rw [hbb]; exact odd' hL
          have hr1b := bd.congr (fun j hj => (hr1 j hj).symm) (words_bd _)
          obtain ⟨t1, t2, t3⟩ := take_iff hv0 hv1 hvg.2 hy rfl hr1
          by_cases hoo : p2 255 ≤ val f / p2 (n.toNat + 1) % val g
          · have hovv : rcmp .geq (r 3) 9223372036854775808 = true := by rw [hov]; exact decide_eq_true hoo
            have hle := t1 hoo
            refine run_ex hmix ti_ok tb12_ok 2 false 800 [true, true, true] (fun ar lf => by conv => lhs; cbv) (allP ?_) ?_
            · simp only [conj, arR, N.val, hquo, hrem, rcmp_geq n]
              and_intros <;> first | exact hf | exact hg | exact hrb | exact hLb | exact hr1b | trivial | exact hbv | exact hovv | exact hgev | exact ⟨by decide, by decide⟩ | exact ⟨by omega, by omega⟩ | omega | (simp only [decide_eq_true_eq]; omega)
            · refine Run.cut [2, 3, 4, 5, 6, 7, 8] [] 6 (by decide) rfl rfl ?_
              refine ih ⟨(_, _, _), ?_, ?_, ?_, ?_⟩ emu _ _
              · simp only [esub]; omega
              · simp only [esub]; omega
              · simp only [esub1]
                rw [d2, if_pos hle, ← hQ1]
                intro j hj; rw [← hu j hj]; simp only [N.val, arR, hquo, hrem, Nat.zero_add, Nat.mul_one]
              · simp only [esub1]
                rw [d1, if_pos hle]
                exact t3 hle
          · have hovv : rcmp .geq (r 3) 9223372036854775808 = false := by rw [hov]; exact decide_eq_false hoo
            by_cases hle : val g ≤ 2 * (val f / p2 (n.toNat + 1) % val g) + val f / p2 n.toNat % 2
            · have hgev := (cmp_ge.trans (decide_eq_true ((t2 hoo).2 hle)))
              refine run_ex hmix ti_ok tb12_ok 2 false 800 [true, true, false, true] (fun ar lf => by conv => lhs; cbv) (allP ?_) ?_
              · simp only [conj, arR, N.val, hquo, hrem, rcmp_geq n]
                and_intros <;> first | exact hf | exact hg | exact hrb | exact hLb | exact hr1b | trivial | exact hbv | exact hovv | exact hgev | exact ⟨by decide, by decide⟩ | exact ⟨by omega, by omega⟩ | omega | (simp only [decide_eq_true_eq]; omega)
              · refine Run.cut [2, 3, 4, 5, 6, 7, 8] [] 6 (by decide) rfl rfl ?_
                refine ih ⟨(_, _, _), ?_, ?_, ?_, ?_⟩ emu _ _
                · simp only [esub]; omega
                · simp only [esub]; omega
                · simp only [esub1]
                  rw [d2, if_pos hle, ← hQ1]
                  intro j hj; rw [← hu j hj]; simp only [N.val, arR, hquo, hrem, Nat.zero_add, Nat.mul_one]
                · simp only [esub1]
                  rw [d1, if_pos hle]
                  exact t3 hle
            · have hgev := (cmp_ge.trans (decide_eq_false (fun h => hle ((t2 hoo).1 h))))
              refine run_ex hmix ti_ok tb12_ok 2 false 800 [true, true, false, false] (fun ar lf => by conv => lhs; cbv) (allP ?_) ?_
              · simp only [conj, arR, N.val, hquo, hrem, rcmp_geq n]
                and_intros <;> first | exact hf | exact hg | exact hrb | exact hLb | exact hr1b | trivial | exact hbv | exact hovv | exact hgev | exact ⟨by decide, by decide⟩ | exact ⟨by omega, by omega⟩ | omega | (simp only [decide_eq_true_eq]; omega)
              · refine Run.cut [2, 3, 4, 5, 6, 7, 8] [] 6 (by decide) rfl rfl ?_
                refine ih ⟨(_, _, _), ?_, ?_, ?_, ?_⟩ emu _ _
                · simp only [esub]; omega
                · simp only [esub]; omega
                · simp only [esub1]
                  rw [d2, if_neg hle, ← hQ0]; exact hq
                · simp only [esub1]
                  rw [d1, if_neg hle]
                  exact hr1
        · have hbv : lfR.wbit f n = false := by rw [hbit]; exact decide_eq_false hbb
          have hr1 : ∀ j, j < 4 → lfR.wadd r r j = words (2 * (val f / p2 (n.toNat + 1) % val g) + val f / p2 n.toNat % 2) j := by rw [show val f / p2 n.toNat % 2 = 0 by omega, Int.add_zero]; exact hL
          have hr1b := bd.congr (fun j hj => (hr1 j hj).symm) (words_bd _)
          obtain ⟨t1, t2, t3⟩ := take_iff hv0 hv1 hvg.2 hy rfl hr1
          by_cases hoo : p2 255 ≤ val f / p2 (n.toNat + 1) % val g
          · have hovv : rcmp .geq (r 3) 9223372036854775808 = true := by rw [hov]; exact decide_eq_true hoo
            have hle := t1 hoo
            refine run_ex hmix ti_ok tb12_ok 2 false 800 [true, false, true] (fun ar lf => by conv => lhs; cbv) (allP ?_) ?_
            · simp only [conj, arR, N.val, hquo, hrem, rcmp_geq n]
              and_intros <;> first | exact hf | exact hg | exact hrb | exact hLb | exact hr1b | trivial | exact hbv | exact hovv | exact hgev | exact ⟨by decide, by decide⟩ | exact ⟨by omega, by omega⟩ | omega | (simp only [decide_eq_true_eq]; omega)
            · refine Run.cut [2, 3, 4, 5, 6, 7, 8] [] 6 (by decide) rfl rfl ?_
              refine ih ⟨(_, _, _), ?_, ?_, ?_, ?_⟩ emu _ _
              · simp only [esub]; omega
              · simp only [esub]; omega
              · simp only [esub1]
                rw [d2, if_pos hle, ← hQ1]
                intro j hj; rw [← hu j hj]; simp only [N.val, arR, hquo, hrem, Nat.zero_add, Nat.mul_one]
              · simp only [esub1]
                rw [d1, if_pos hle]
                exact t3 hle
          · have hovv : rcmp .geq (r 3) 9223372036854775808 = false := by rw [hov]; exact decide_eq_false hoo
            by_cases hle : val g ≤ 2 * (val f / p2 (n.toNat + 1) % val g) + val f / p2 n.toNat % 2
            · have hgev := (cmp_ge.trans (decide_eq_true ((t2 hoo).2 hle)))
              refine run_ex hmix ti_ok tb12_ok 2 false 800 [true, false, false, true] (fun ar lf => by conv => lhs; cbv) (allP ?_) ?_
              · simp only [conj, arR, N.val, hquo, hrem, rcmp_geq n]
                and_intros <;> first | exact hf | exact hg | exact hrb | exact hLb | exact hr1b | trivial | exact hbv | exact hovv | exact hgev | exact ⟨by decide, by decide⟩ | exact ⟨by omega, by omega⟩ | omega | (simp only [decide_eq_true_eq]; omega)
              · refine Run.cut [2, 3, 4, 5, 6, 7, 8] [] 6 (by decide) rfl rfl ?_
                refine ih ⟨(_, _, _), ?_, ?_, ?_, ?_⟩ emu _ _
                · simp only [esub]; omega
                · simp only [esub]; omega
                · simp only [esub1]
                  rw [d2, if_pos hle, ← hQ1]
                  intro j hj; rw [← hu j hj]; simp only [N.val, arR, hquo, hrem, Nat.zero_add, Nat.mul_one]
                · simp only [esub1]
                  rw [d1, if_pos hle]
                  exact t3 hle
            · have hgev := (cmp_ge.trans (decide_eq_false (fun h => hle ((t2 hoo).1 h))))
              refine run_ex hmix ti_ok tb12_ok 2 false 800 [true, false, false, false] (fun ar lf => by conv => lhs; cbv) (allP ?_) ?_
              · simp only [conj, arR, N.val, hquo, hrem, rcmp_geq n]
                and_intros <;> first | exact hf | exact hg | exact hrb | exact hLb | exact hr1b | trivial | exact hbv | exact hovv | exact hgev | exact ⟨by decide, by decide⟩ | exact ⟨by omega, by omega⟩ | omega | (simp only [decide_eq_true_eq]; omega)
              · refine Run.cut [2, 3, 4, 5, 6, 7, 8] [] 6 (by decide) rfl rfl ?_
                refine ih ⟨(_, _, _), ?_, ?_, ?_, ?_⟩ emu _ _
                · simp only [esub]; omega
                · simp only [esub]; omega
                · simp only [esub1]
                  rw [d2, if_neg hle, ← hQ0]; exact hq
                · simp only [esub1]
                  rw [d1, if_neg hle]
                  exact hr1
      · obtain rfl : n = -1 := by omega
        have e1 : p2 (-1 + 1 : Int).toNat = 1 := rfl
        rw [e1, Int.ediv_one, Int.mul_one] at hq
        rw [e1, Int.ediv_one] at hr
        refine run_ex hmix ti_ok tb12_ok 2 false 800 [false] (fun ar lf => by conv => lhs; cbv) (allP ?_) ?_
        · simp only [conj, arR, rcmp_geq]
          decide
        · refine Run.ret ti_ok rfl rfl (.tup2 (.ints ?_) (.ints ?_))
          · exact hq
          · intro j hj
            show r j = words (if val g = 0 then 0 else val f % val g) j
            rw [if_neg hz]; exact hr j hj
  · cases hs
end Go.Proofs.Ytegcdnjihnpolaa
