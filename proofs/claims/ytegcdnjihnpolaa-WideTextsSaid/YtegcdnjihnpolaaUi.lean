import Derived.Test.YtegcdnjihnpolaaUh
set_option linter.unusedSimpArgs false
set_option linter.unusedVariables false
namespace Go.Eng
open Go
/-- a byte of what bits say, by its place -/
def rb (b : Int) (j : Nat) : Int := if (j : Int) < b / 16777216 - 3 then 0 else b % 8388608 / 256 ^ (j - (b / 16777216 - 3)).toNat % 256
theorem nb_tgt {b : Int} (h0 : 0 ≤ b) (h1 : b < 4294967296) (j : Nat) : nb (tgt b) j = rb b j := by
  unfold nb rb tgt
  split
  · rename_i hs
    rw [if_neg (by omega), show (8 * (3 - b / 16777216)).toNat = 8 * (3 - b / 16777216).toNat by omega, ← pow256, Int.ediv_ediv_of_nonneg (Int.le_of_lt (pow256_pos _)), ← Int.pow_add]
    congr 3
    omega
  · rename_i hs
    rw [show (8 * (b / 16777216 - 3)).toNat = 8 * (b / 16777216 - 3).toNat by omega, ← pow256]
    generalize hk : (b / 16777216 - 3).toNat = k
    have hk2 : b / 16777216 - 3 = (k : Int) := by omega
    rw [hk2]
    by_cases hj : (j : Int) < k
    · rw [if_pos hj]
      have e : (256 : Int) ^ k = 256 ^ j * (256 * 256 ^ (k - j - 1)) := by
        rw [← Int.pow_succ', ← Int.pow_add]; congr 1; omega
      rw [e, show b % 8388608 * (256 ^ j * (256 * 256 ^ (k - j - 1))) = 256 ^ j * (256 * (b % 8388608 * 256 ^ (k - j - 1))) by grind, Int.mul_ediv_cancel_left _ (Int.ne_of_gt (pow256_pos j)), Int.mul_emod_right]
    · rw [if_neg hj]
      have e : (256 : Int) ^ j = 256 ^ k * 256 ^ ((j : Int) - k).toNat := by
        rw [← Int.pow_add]; congr 1; omega
      rw [e, Int.mul_comm, Int.mul_ediv_mul_of_pos _ _ (pow256_pos k)]
/-- the bytes from the place i of the three on that lie above 40 -/
theorem tgt_small {b : Int} (h0 : 0 ≤ b) (h1 : b < 4294967296) (h : ∀ i : Nat, i < 3 → 40 ≤ b / 16777216 - 3 + i → b % 8388608 / 256 ^ i % 256 = 0) : tgt b < p2 320 := by
  have e40 : p2 320 = 256 ^ 40 := (pow256 40).symm
  have hm0 : 0 ≤ b % 8388608 := by omega
  have hm1 : b % 8388608 < 8388608 := by omega
  unfold tgt
  rw [e40]
  split
  · have : b % 8388608 / p2 (8 * (3 - b / 16777216)).toNat ≤ b % 8388608 := Int.ediv_le_self _ hm0
    have : (256 : Int) ^ 3 ≤ 256 ^ 40 := by rw [pow256, pow256]; exact p2_le (by omega)
    have e3 : (256 : Int) ^ 3 = 16777216 := by decide
    omega
  · rename_i hs
    rw [show (8 * (b / 16777216 - 3)).toNat = 8 * (b / 16777216 - 3).toNat by omega, ← pow256]
    have a0 := h 0 (by omega)
    have a1 := h 1 (by omega)
    have a2 := h 2 (by omega)
    rw [show (256 : Int) ^ 0 = 1 from rfl, Int.ediv_one] at a0
    rw [show (256 : Int) ^ 1 = 256 by decide] at a1
    rw [show (256 : Int) ^ 2 = 65536 by decide] at a2
    have key : ∀ c : Nat, b % 8388608 < 256 ^ c → (b / 16777216 - 3).toNat + c ≤ 40 → b % 8388608 * 256 ^ (b / 16777216 - 3).toNat < 256 ^ 40 := by
      intro c hc hk
      have e : (256 : Int) ^ 40 = 256 ^ (40 - (b / 16777216 - 3).toNat) * 256 ^ (b / 16777216 - 3).toNat := by rw [← Int.pow_add]; congr 1; omega
      rw [e]
      refine Int.mul_lt_mul_of_pos_right ?_ (pow256_pos _)
      have : (256 : Int) ^ c ≤ 256 ^ (40 - (b / 16777216 - 3).toNat) := by rw [pow256, pow256]; exact p2_le (by omega)
      omega
    by_cases c3 : b / 16777216 ≤ 40
    · exact key 3 (by rw [show (256 : Int) ^ 3 = 16777216 by decide]; omega) (by omega)
    · by_cases c2 : b / 16777216 = 41
      · exact key 2 (by rw [show (256 : Int) ^ 2 = 65536 by decide]; omega) (by omega)
      · by_cases c1 : b / 16777216 = 42
        · exact key 1 (by rw [show (256 : Int) ^ 1 = 256 by decide]; omega) (by omega)
        · rw [show b % 8388608 = 0 by omega, Int.zero_mul]; exact pow256_pos 40
theorem tgt_big {b : Int} (h0 : 0 ≤ b) (h1 : b < 4294967296) {i : Nat} (hi : i < 3) (h40 : 40 ≤ b / 16777216 - 3 + i) (hb : b % 8388608 / 256 ^ i % 256 ≠ 0) : ¬ tgt b < p2 320 := by
  have e40 : p2 320 = 256 ^ 40 := (pow256 40).symm
  unfold tgt
  rw [e40, if_neg (by omega), show (8 * (b / 16777216 - 3)).toNat = 8 * (b / 16777216 - 3).toNat by omega, ← pow256]
  have hm : (256 : Int) ^ i ≤ b % 8388608 := by
    apply Decidable.byContradiction
    intro h
    rw [Int.ediv_eq_zero_of_lt (by omega) (by omega)] at hb
    exact hb rfl
  have h2 : (256 : Int) ^ i * 256 ^ (b / 16777216 - 3).toNat ≤ b % 8388608 * 256 ^ (b / 16777216 - 3).toNat := Int.mul_le_mul_of_nonneg_right hm (Int.le_of_lt (pow256_pos _))
  rw [← Int.pow_add] at h2
  have h3 : (256 : Int) ^ 40 ≤ 256 ^ (i + (b / 16777216 - 3).toNat) := by rw [pow256, pow256]; exact p2_le (by omega)
  omega
theorem byte_u32 {m : Int} (h0 : 0 ≤ m) (h1 : m < 4294967296) {i : Nat} (hi : i < 4) : m / p2 (8 * i) % 256 = m / 256 ^ i % 256 := by rw [pow256]
theorem rbin32_rem {x y : Int} (h0 : 0 ≤ x) : rbin .rem .u32 x y = x % y := by
  show x.tmod y = _
  rw [Int.tmod_eq_emod_of_nonneg h0]
end Go.Eng
namespace Go.Proofs.Ytegcdnjihnpolaa
open Go Go.Eng Go.Proofs Go.RowKit
attribute [local irreducible] CallOk HOk Run TIok rbin rcmp run1 words val updF shfF blitF pv V40 nb wq tgt rb tlim
set_option maxRecDepth 100000 in
theorem nraw_ok : CallOk Try.prog 111 (sNRaw lnR) := by
  refine .nrm (num32_spec_norm (g := fun b => (.tup [N40 (lnR.nraw b), B (lnR.nrawB b)], [lnR.l5.u32 b])) (fun l => rfl)) (.of_run (hc := (tn0 lnR).hc) Try.func111 rfl (by kernel_rfl) (by kernel_rfl) fun xs v ps hs hp w => ?_)
  split at hs
  case isFalse => cases hs
  rename_i hnm
  unfold sNRaw at hs
  split at hs
  · rename_i b h
    obtain rfl := num32_int h hnm
    cases hs
    have hb : 0 ≤ b ∧ b < 4294967296 := hp (l5R.u32 b) (by simp [lnR])
    clear hp h hnm
    have es : IntKind.i64.wrap (rbin .shr .u32 b 24) = b / 16777216 := by
      rw [rbin32_shr (m := 24) _ rfl, show p2 24 = 16777216 by decide]; exact wrap_i64 (by omega)
    have em : rbin .and .u32 b 8388607 = b % 8388608 := rbin32_mask b hb.1 hb.2
    have e3 : rbin .sub .i64 (b / 16777216) 3 = b / 16777216 - 3 := rbin_subi (by omega)
    have hnb := nb_tgt hb.1 hb.2
    refine run_ex hmix ti_ok tn0_ok 0 false 800 [] (fun ar lf => by conv => lhs; cbv) (allP ?_) ?_
    · trivial
    refine Run.cut [2, 4, 5, 6, 7] [7] 2 (by decide) rfl rfl ?_
    refine Run.loop (ι := {p : Int × F × Int × Int // 0 ≤ p.1 ∧ p.1 ≤ 3 ∧ p.2.2.1 = b / 16777216 ∧ p.2.2.2 = b % 8388608 ∧ (∀ j : Nat, j < 40 → p.2.1 j = if (j : Int) < b / 16777216 - 3 + p.1 then rb b j else 0) ∧ (∀ i : Nat, (i : Int) < p.1 → 40 ≤ b / 16777216 - 3 + i → b % 8388608 / 256 ^ i % 256 = 0)})
      (fun i => ([.any, .any, .a (.one (.ptr 0 (.lit 0))), .any, .a (.one (.int .i64 i.1.2.2.1)), .a (.one (.int .u32 i.1.2.2.2)), .a (.one (.ptr 1 (.lit 0))), .a (.one (.int .i64 i.1.1))] ++ List.replicate 40 .any, [some (KN fun _ => 0), some (KN i.1.2.1)]))
      (fun i => (3 - i.1.1).toNat) ⟨(0, fun _ => 0, arR.conv .i64 (arR.bin .shr .u32 b 24), arR.bin .and .u32 b 8388607), Int.le_refl 0, show (0 : Int) ≤ 3 by decide, es, em, ?_, fun i hi => by omega⟩ ?_
    · intro j hj
      split
      · rename_i h
        unfold rb
        rw [if_pos (by omega)]
      · rfl
    rintro ⟨⟨i, p, S, M⟩, h0, h1, hS, hM, hp1, hp2⟩ ih
    simp only at h0 h1 hS hM hp1 hp2
    have e3 : rbin .sub .i64 S 3 = b / 16777216 - 3 := by rw [hS]; exact rbin_subi (by omega)
    by_cases hn : i < 3
    · have eadd : rbin .add .i64 i 1 = i + 1 := rbin_addi (by omega)
      have emu : (3 - rbin .add .i64 i 1).toNat < (3 - i).toNat := by rw [eadd]; omega
      have eat : rbin .add .i64 (b / 16777216 - 3) i = b / 16777216 - 3 + i := rbin_addi (by omega)
      have emul : rbin .mul .i64 8 i = 8 * i := rbin_muli (by omega)
      have econ : IntKind.u64.wrap (8 * i) = 8 * i := by rw [wrap_u64]; omega
      have hby : 0 ≤ b % 8388608 / 256 ^ i.toNat % 256 ∧ b % 8388608 / 256 ^ i.toNat % 256 < 256 := by omega
      have ebyte : IntKind.i64.wrap (rbin .rem .u32 (rbin .shr .u32 M (8 * i)) 256) = b % 8388608 / 256 ^ i.toNat % 256 := by
        rw [hM, rbin32_shr (m := 8 * i.toNat) _ (by omega), rbin32_rem (Int.ediv_nonneg (by omega) (Int.le_of_lt (p2_pos _))), ← pow256]
        exact wrap_i64 (by omega)
      have erb : ∀ j : Nat, (j : Int) = b / 16777216 - 3 + i → rb b j = b % 8388608 / 256 ^ i.toNat % 256 := by
        intro j hj
        unfold rb
        rw [if_neg (by omega), show ((j : Int) - (b / 16777216 - 3)).toNat = i.toNat by omega]
      by_cases ha : b / 16777216 - 3 + i < 0
      · refine run_ex hmix ti_ok tn0_ok 2 false 800 [true, false, false] (fun ar lf => by conv => lhs; cbv) (allP ?_) ?_
        · simp only [conj, arR, N.val, rcmp_lss', rcmp_geq, e3, eat, emul, econ, ebyte, decide_eq_true_eq, decide_eq_false_iff_not]
          and_intros <;> first | trivial | omega
        · refine Run.cut [2, 4, 5, 6, 7] [7] 2 (by decide) rfl rfl ?_
          refine ih ⟨(_, _, _, _), ?_, ?_, hS, hM, ?_, ?_⟩ emu _ _
          · simp only [eadd]; omega
          · simp only [eadd]; omega
          · simp only [eadd]
            intro j hj
            rw [hp1 j hj, if_neg (by omega), if_neg (by omega)]
          · simp only [eadd]
            intro k hk h40
            exact hp2 k (by omega) h40
      · by_cases hb40 : b / 16777216 - 3 + i < 40
        · refine run_ex hmix ti_ok tn0_ok 2 false 800 [true, true, true, false] (fun ar lf => by conv => lhs; cbv) (allP ?_) ?_
          · simp only [conj, arR, N.val, rcmp_lss', rcmp_geq, e3, eat, emul, econ, ebyte, decide_eq_true_eq, decide_eq_false_iff_not]
            and_intros <;> first | trivial | omega
          · refine Run.cut [2, 4, 5, 6, 7] [7] 2 (by decide) rfl rfl ?_
            refine ih ⟨(_, _, _, _), ?_, ?_, hS, hM, ?_, ?_⟩ emu _ _
            · simp only [eadd]; omega
            · simp only [eadd]; omega
            · simp only [arR, N.val, e3, eat, emul, econ, ebyte, eadd]
              intro j hj
              rw [updF_at]
              split
              · rename_i hjj
                rw [if_pos (by omega), erb j (by omega)]
              · rename_i hjj
                rw [hp1 j hj]
                by_cases hlt : (j : Int) < b / 16777216 - 3 + i
                · rw [if_pos hlt, if_pos (by omega)]
                · rw [if_neg hlt, if_neg (by omega)]
            · simp only [eadd]
              intro k hk h40
              exact hp2 k (by omega) h40
        · by_cases hz : b % 8388608 / 256 ^ i.toNat % 256 = 0
          · refine run_ex hmix ti_ok tn0_ok 2 false 800 [true, true, false, true, false] (fun ar lf => by conv => lhs; cbv) (allP ?_) ?_
            · simp only [conj, arR, N.val, rcmp_lss', rcmp_geq, rcmp_neq, e3, eat, emul, econ, ebyte, decide_eq_true_eq, decide_eq_false_iff_not]
              and_intros <;> first | trivial | exact fun h => h hz | omega
            · refine Run.cut [2, 4, 5, 6, 7] [7] 2 (by decide) rfl rfl ?_
              refine ih ⟨(_, _, _, _), ?_, ?_, hS, hM, ?_, ?_⟩ emu _ _
              · simp only [eadd]; omega
              · simp only [eadd]; omega
              · simp only [eadd]
                intro j hj
                rw [hp1 j hj, if_pos (by omega), if_pos (by omega)]
              · simp only [eadd]
                intro k hk h40
                by_cases hki : (k : Int) < i
                · exact hp2 k hki h40
                · rw [show k = i.toNat by omega]; exact hz
          · refine run_ex hmix ti_ok tn0_ok 2 false 800 [true, true, false, true, true] (fun ar lf => by conv => lhs; cbv) (allP ?_) ?_
            · simp only [conj, arR, N.val, rcmp_lss', rcmp_geq, rcmp_neq, e3, eat, emul, econ, ebyte, decide_eq_true_eq, decide_eq_false_iff_not]
              and_intros <;> first | trivial | exact hz | omega
            · have ht := tgt_big hb.1 hb.2 (i := i.toNat) (by omega) (by omega) hz
              refine Run.ret ti_ok rfl rfl (.tup2 (.ints fun j hj => ?_) (.lbool ?_))
              · show 0 = nb (if tgt b < p2 320 then tgt b else 0) j
                rw [if_neg ht]; unfold nb; simp
              · exact (decide_eq_false ht).symm
    · obtain rfl : i = 3 := by omega
      have ht := tgt_small hb.1 hb.2 (fun k hk h40 => hp2 k (by omega) h40)
      refine run_ex hmix ti_ok tn0_ok 2 false 800 [false] (fun ar lf => by conv => lhs; cbv) (allP ?_) ?_
      · simp only [conj, arR, rcmp_lss']
        decide
      · refine Run.ret ti_ok rfl rfl (.tup2 (.ints fun j hj => ?_) (.lbool ?_))
        · show p j = nb (if tgt b < p2 320 then tgt b else 0) j
          rw [if_pos ht, hnb, hp1 j hj]
          split
          · rfl
          · rename_i hlt
            unfold rb
            rw [if_neg (by omega)]
            have h3 : (256 : Int) ^ 3 ≤ 256 ^ ((j : Int) - (b / 16777216 - 3)).toNat := by rw [pow256, pow256]; exact p2_le (by omega)
            have e3 : (256 : Int) ^ 3 = 16777216 := by decide
            rw [Int.ediv_eq_zero_of_lt (by omega) (by omega)]; rfl
        · exact (decide_eq_true ht).symm
  · cases hs
end Go.Proofs.Ytegcdnjihnpolaa
