import Derived.Test.YtegcdnjihnpolaaUg
set_option linter.unusedSimpArgs false
set_option linter.unusedVariables false
namespace Go.Eng
open Go
theorem mod_div_mod (x : Int) {r : Nat} (hr : r + 8 ≤ 64) : x % (18446744073709551616 : Int) / p2 r % 256 = x / p2 r % 256 := by
  have e1 := Int.emod_add_mul_ediv x (18446744073709551616 : Int)
  have e2 : (18446744073709551616 : Int) = p2 r * (p2 (56 - r) * 256) := by
    rw [show (256 : Int) = p2 8 by decide, ← p2_add, ← p2_add, ← p2_64]; congr 1; omega
  generalize hm : x % (18446744073709551616 : Int) = m at *
  generalize x / (18446744073709551616 : Int) = q at *
  have hp := p2_pos r
  have e3 : x = m + p2 r * (256 * (p2 (56 - r) * q)) := by
    rw [← e1, e2]; grind
  rw [e3, Int.add_mul_ediv_left _ _ (Int.ne_of_gt hp), Int.add_mul_emod_self_left]
theorem byte_of {f : F} (hf : bd f) {i : Nat} (hi : i < 32) : f (i / 8) / p2 (8 * (i % 8)) % 256 = nb (val f) i := by
  rw [← words_val hf (i / 8) (by omega)]
  show val f / (18446744073709551616 : Int) ^ (i / 8) % (18446744073709551616 : Int) / p2 (8 * (i % 8)) % 256 = val f / 256 ^ i % 256
  rw [mod_div_mod _ (by omega), m64_pow, Int.ediv_ediv_of_nonneg (Int.le_of_lt (p2_pos _)), ← p2_add, pow256]
  congr 3
  omega
/-- one more byte below -/
theorem low_step (X : Int) (m : Nat) : X / 256 % 256 ^ m * 256 + X % 256 = X % 256 ^ (m + 1) := by
  have hp := pow256_pos m
  have e1 := Int.emod_add_mul_ediv (X / 256) (256 ^ m)
  have h1 := Int.emod_nonneg (X / 256) (Int.ne_of_gt hp)
  have h2 := Int.emod_lt_of_pos (X / 256) hp
  generalize X / 256 % 256 ^ m = r at *
  generalize X / 256 / 256 ^ m = q at *
  have e2 := Int.emod_add_mul_ediv X 256
  have e3 : X = (r * 256 + X % 256) + (256 ^ m * 256) * q := by grind
  have h3 : 0 ≤ X % 256 := Int.emod_nonneg _ (by decide)
  have h4 : X % 256 < 256 := Int.emod_lt_of_pos _ (by decide)
  generalize X % 256 = d at *
  rw [Int.pow_succ, e3, Int.add_mul_emod_self_left, Int.emod_eq_of_lt (by omega) (by omega)]
/-- a word of which the bytes from j on stand there -/
def wq (N : Int) (j k : Nat) : Int := if j ≤ 8 * k then N / 256 ^ (8 * k) % 256 ^ 8 else N / 256 ^ j % 256 ^ (8 * k + 8 - j)
theorem wq_lo (N : Int) (j k : Nat) : 0 ≤ wq N j k ∧ (8 * k < j → wq N j k < 256 ^ (8 * k + 8 - j)) := by
  unfold wq
  split
  · exact ⟨Int.emod_nonneg _ (Int.ne_of_gt (pow256_pos _)), fun h => by omega⟩
  · exact ⟨Int.emod_nonneg _ (Int.ne_of_gt (pow256_pos _)), fun h => Int.emod_lt_of_pos _ (pow256_pos _)⟩
theorem wq_step (N : Int) {i k : Nat} (h1 : 8 * k ≤ i) (h2 : i < 8 * k + 8) : wq N (i + 1) k * 256 + nb N i = wq N i k := by
  unfold wq nb
  rw [if_neg (by omega)]
  have e : N / 256 ^ (i + 1) = N / 256 ^ i / 256 := by
    rw [Int.pow_succ, Int.ediv_ediv_of_nonneg (Int.le_of_lt (pow256_pos i))]
  rw [e, low_step, show 8 * k + 8 - (i + 1) + 1 = 8 * k + 8 - i by omega]
  split
  · rw [show i = 8 * k by omega, show 8 * k + 8 - 8 * k = 8 by omega]
  · rfl
theorem wq_other (N : Int) {i k : Nat} (h : i / 8 ≠ k) : wq N (i + 1) k = wq N i k := by
  unfold wq
  by_cases h1 : i + 1 ≤ 8 * k
  · rw [if_pos h1, if_pos (by omega)]
  · rw [if_neg h1, if_neg (by omega), show 8 * k + 8 - (i + 1) = 0 by omega, show 8 * k + 8 - i = 0 by omega]
    simp [Int.emod_one]
theorem wq_zero (N : Int) (k : Nat) : wq N 0 k = words N k := by
  unfold wq
  rw [if_pos (Nat.zero_le _)]
  show _ = N / (18446744073709551616 : Int) ^ k % (18446744073709551616 : Int)
  rw [m64_pow, pow256, show 8 * (8 * k) = 64 * k by omega, pow256, show 8 * 8 = 64 from rfl, p2_64]
theorem wq_top (N : Int) {k : Nat} (h : k < 4) : wq N 32 k = 0 := by
  unfold wq
  rw [if_neg (by omega), show 8 * k + 8 - 32 = 0 by omega]
  simp [Int.emod_one]
end Go.Eng
namespace Go.Proofs.Ytegcdnjihnpolaa
open Go Go.Eng Go.Proofs Go.RowKit
attribute [local irreducible] CallOk HOk Run TIok rbin rcmp run1 words val updF shfF blitF pv V40 nb wq
set_option maxRecDepth 100000 in
theorem nfrom_ok : CallOk Try.prog 64 (sNFrom lnR) := by
  refine .of_run (hc := (tn0 lnR).hc) Try.func64 rfl (by kernel_rfl) (by kernel_rfl) fun xs v ps hs hp w => ?_
  unfold sNFrom at hs
  split at hs
  · rename_i f h
    obtain rfl := arr1_some h
    cases hs
    have hf : bd f := hp (lfR.bd f) (by simp [lnR, l5R])
    clear hp h
    have hvf := val_bd hf
    refine run_ex hmix ti_ok tn0_ok 0 false 800 [] (fun ar lf => by conv => lhs; cbv) (allP ?_) ?_
    · trivial
    refine Run.cut [1, 2, 3, 4] [4] 3 (by decide) rfl rfl ?_
    refine Run.loop (ι := {p : Int × F // 0 ≤ p.1 ∧ p.1 ≤ 32 ∧ (∀ j, j < p.1.toNat → p.2 j = nb (val f) j) ∧ (∀ j, p.1.toNat ≤ j → p.2 j = 0)})
      (fun i => ([.any, .a (.one (.ptr 0 (.lit 0))), .a (.one (.ptr 1 (.lit 0))), .a (.one (.ptr 2 (.lit 0))), .a (.one (.int .i64 i.1.1))] ++ List.replicate 19 .any, [some (K4 f), some (KN fun _ => 0), some (KN i.1.2)]))
      (fun i => (32 - i.1.1).toNat) ⟨(0, fun _ => 0), Int.le_refl 0, show (0 : Int) ≤ 32 by decide, fun j hj => by omega, fun j _ => rfl⟩ ?_
    rintro ⟨⟨i, p⟩, h0, h1, hp1, hp2⟩ ih
    simp only at h0 h1 hp1 hp2
    by_cases hn : i < 32
    · have ei : 0 + i.toNat * 1 = i.toNat := by omega
      have eadd : rbin .add .i64 i 1 = i + 1 := rbin_addi (by omega)
      have eni : (i + 1).toNat = i.toNat + 1 := by omega
      have emu : (32 - rbin .add .i64 i 1).toNat < (32 - i).toNat := by rw [eadd]; omega
      have equo : rbin .quo .i64 i 8 = i / 8 := rbin_quoi h0 (by omega) (by decide)
      have erem : rbin .rem .i64 i 8 = i % 8 := rbin_remi h0
      have emul : rbin .mul .i64 8 (i % 8) = 8 * (i % 8) := rbin_muli (by omega)
      have econ : IntKind.u64.wrap (8 * (i % 8)) = 8 * (i % 8) := by rw [wrap_u64]; omega
      have hfi := hf (i.toNat / 8) (by omega)
      have ev : ∀ x, x = i.toNat / 8 → IntKind.i64.wrap (rbin .rem .u64 (rbin .shr .u64 (f x) (8 * (i % 8))) 256) = nb (val f) i.toNat := by
        intro x hx
        rw [hx, rbin_shr (m := 8 * (i.toNat % 8)) _ (by omega), rbin_rem (Int.ediv_nonneg hfi.1 (Int.le_of_lt (p2_pos _))), byte_of hf (by omega)]
        have := nb_lo (val f) i.toNat
        exact wrap_i64 (by omega)
      refine run_ex hmix ti_ok tn0_ok 2 false 800 [true] (fun ar lf => by conv => lhs; cbv) (allP ?_) ?_
      · simp only [conj, arR, N.val, rcmp_lss', ei, equo, erem, emul, econ, decide_eq_true_eq]
        and_intros <;> first | trivial | omega
      · refine Run.cut [1, 2, 3, 4] [4] 3 (by decide) rfl rfl ?_
        refine ih ⟨(_, _), ?_, ?_, ?_, ?_⟩ emu _ _
        · simp only [eadd]; omega
        · simp only [eadd]; omega
        · simp only [arR, N.val, ei, equo, erem, emul, econ, eadd, eni]
          intro j hj
          rw [updF_at, ev _ (by omega)]
          split
          · rename_i h; rw [h]
          · exact hp1 j (by omega)
        · simp only [arR, N.val, ei, equo, erem, emul, econ, eadd, eni]
          intro j hj
          rw [updF_at, if_neg (by omega)]
          exact hp2 j (by omega)
    · obtain rfl : i = 32 := by omega
      refine run_ex hmix ti_ok tn0_ok 2 false 800 [false] (fun ar lf => by conv => lhs; cbv) (allP ?_) ?_
      · simp only [conj, arR, rcmp_lss']
        decide
      · refine Run.ret ti_ok rfl rfl (.a (.ints fun j hj => ?_))
        show p j = nb (val f) j
        by_cases hj2 : j < 32
        · exact hp1 j hj2
        · rw [hp2 j (by have : (32 : Int).toNat = 32 := rfl
                        omega)]
          unfold nb
          have e : (115792089237316195423570985008687907853269984665640564039457584007913129639936 : Int) = 256 ^ 32 := by decide
          have h32 : (256 : Int) ^ 32 ≤ 256 ^ j := by rw [pow256, pow256]; exact p2_le (by omega)
          rw [Int.ediv_eq_zero_of_lt hvf.1 (by omega)]; rfl
  · cases hs

set_option maxRecDepth 100000 in
theorem nwords_ok : CallOk Try.prog 67 (sNWords lnR) := by
  refine .of_run (hc := (tn0 lnR).hc) Try.func67 rfl (by kernel_rfl) (by kernel_rfl) fun xs v ps hs hp w => ?_
  unfold sNWords at hs
  split at hs
  · rename_i f h
    obtain rfl := nar1_some h
    cases hs
    have hf : bd40 f := hp (lnR.bn f) (by simp)
    clear hp h
    have hfn := nb_V40 hf
    unfold bd40 at hf
    refine run_ex hmix ti_ok tn0_ok 0 false 800 [] (fun ar lf => by conv => lhs; cbv) (allP ?_) ?_
    · trivial
    refine Run.cut [1, 2, 3, 4] [4] 3 (by decide) rfl rfl ?_
    refine Run.loop (ι := {p : Int × F // -1 ≤ p.1 ∧ p.1 ≤ 31 ∧ (∀ j, j < 4 → p.2 j = wq (V40 f) (p.1 + 1).toNat j)})
      (fun i => ([.any, .a (.one (.ptr 0 (.lit 0))), .a (.one (.ptr 1 (.lit 0))), .a (.one (.ptr 2 (.lit 0))), .a (.one (.int .i64 i.1.1))] ++ List.replicate 19 .any, [some (KN f), some (K4 fun _ => 0), some (K4 i.1.2)]))
      (fun i => (i.1.1 + 1).toNat) ⟨(31, fun _ => 0), by decide, by decide, fun j hj => (wq_top _ hj).symm⟩ ?_
    rintro ⟨⟨i, p⟩, h0, h1, hp1⟩ ih
    simp only at h0 h1 hp1
    by_cases hn : 0 ≤ i
    · have ei : 0 + i.toNat * 1 = i.toNat := by omega
      have esub : rbin .sub .i64 i 1 = i - 1 := rbin_subi (by omega)
      have emu : (rbin .sub .i64 i 1 + 1).toNat < (i + 1).toNat := by rw [esub]; omega
      have esub1 : rbin .sub .i64 i 1 + 1 = i := by rw [esub]; omega
      have eni : (i + 1).toNat = i.toNat + 1 := by omega
      rw [eni] at hp1
      have equo : rbin .quo .i64 i 8 = i / 8 := rbin_quoi hn (by omega) (by decide)
      have hfi := hf i.toNat (by omega)
      have econ : IntKind.u64.wrap (f i.toNat) = f i.toNat := by rw [wrap_u64]; omega
      have hk : (i / 8).toNat = i.toNat / 8 := by omega
      have hst := wq_step (V40 f) (i := i.toNat) (k := i.toNat / 8) (by omega) (by omega)
      rw [← hfn i.toNat (by omega)] at hst
      obtain ⟨w1, w2⟩ := wq_lo (V40 f) (i.toNat + 1) (i.toNat / 8)
      have w3 := w2 (by omega)
      have w4 : (256 : Int) ^ (8 * (i.toNat / 8) + 8 - (i.toNat + 1)) ≤ 256 ^ 7 := by rw [pow256, pow256]; exact p2_le (by omega)
      have w5 : (256 : Int) ^ 7 = 72057594037927936 := by decide
      have ev : ∀ x, x = i.toNat / 8 → rbin .add .u64 (rbin .mul .u64 (p x) 256) (f i.toNat) = wq (V40 f) i.toNat (i.toNat / 8) := by
        intro x hx
        rw [hx, hp1 _ (by omega), rbin_mul, rbin_add, ← hst]
        omega
      refine run_ex hmix ti_ok tn0_ok 2 false 800 [true] (fun ar lf => by conv => lhs; cbv) (allP ?_) ?_
      · simp only [conj, arR, N.val, rcmp_geq, ei, equo, econ, decide_eq_true_eq]
        and_intros <;> first | trivial | omega
      · refine Run.cut [1, 2, 3, 4] [4] 3 (by decide) rfl rfl ?_
        refine ih ⟨(_, _), ?_, ?_, ?_⟩ emu _ _
        · simp only [esub]; omega
        · simp only [esub]; omega
        · simp only [esub1, arR, N.val, ei, equo, econ]
          intro j hj
          rw [updF_at, ev _ (by omega)]
          split
          · rename_i h; rw [h, Nat.zero_add, Nat.mul_one, hk]
          · rw [hp1 j hj]; exact wq_other _ (by omega)
    · obtain rfl : i = -1 := by omega
      refine run_ex hmix ti_ok tn0_ok 2 false 800 [false] (fun ar lf => by conv => lhs; cbv) (allP ?_) ?_
      · simp only [conj, arR, rcmp_geq]
        decide
      · refine Run.ret ti_ok rfl rfl (.a (.ints fun j hj => ?_))
        show p j = words (V40 f) j
        rw [← wq_zero]
        exact hp1 j hj
  · cases hs
end Go.Proofs.Ytegcdnjihnpolaa
