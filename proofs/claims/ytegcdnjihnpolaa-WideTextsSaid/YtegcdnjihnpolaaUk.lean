import Derived.Test.YtegcdnjihnpolaaUj
set_option linter.unusedSimpArgs false
set_option linter.unusedVariables false
namespace Go.Proofs.Ytegcdnjihnpolaa
open Go Go.Eng Go.Proofs Go.RowKit
theorem bytesOf_eq {n : Int} {s : Nat} (h0 : 0 ≤ n) (h1 : n < 256 ^ s) (h2 : s = 0 ∨ 256 ^ (s - 1) ≤ n) : bytesOf n = s := by
  rw [pow256] at h1 h2
  have a := (bitLen_gt (n := 8 * s) h0).2 h1
  unfold bytesOf
  rcases h2 with h2 | h2
  · omega
  · have b : ¬ bitLen n.toNat ≤ 8 * (s - 1) := fun h => by
      have := (bitLen_gt (n := 8 * (s - 1)) h0).1 h
      omega
    omega
/-- the number's upper bytes, so many -/
def gk (V : Int) (s k : Nat) : Int := if k ≤ s then V / 256 ^ (s - k) else V * 256 ^ (k - s)
theorem gk_cmant {V : Int} {s : Nat} (h : bytesOf V = s) : cmant V = gk V s 3 := by
  unfold cmant gk
  rw [h]
  by_cases h3 : s ≤ 3
  · rw [if_pos (by omega)]
    by_cases h4 : 3 ≤ s
    · rw [if_pos h4, show s = 3 by omega]
      simp [p2]
    · rw [if_neg h4, pow256]; congr 2; omega
  · rw [if_neg (by omega), if_pos (by omega), pow256]; congr 2; omega
theorem gk_lt {V : Int} {s k : Nat} (h0 : 0 ≤ V) (h : V < 256 ^ s) : 0 ≤ gk V s k ∧ gk V s k < 256 ^ k := by
  unfold gk
  split
  · rename_i hk
    refine ⟨Int.ediv_nonneg h0 (Int.le_of_lt (pow256_pos _)), Int.ediv_lt_of_lt_mul (pow256_pos _) ?_⟩
    rw [← Int.pow_add, show k + (s - k) = s by omega]; exact h
  · rename_i hk
    refine ⟨Int.mul_nonneg h0 (Int.le_of_lt (pow256_pos _)), ?_⟩
    have := Int.mul_lt_mul_of_pos_right h (pow256_pos (k - s))
    rw [← Int.pow_add, show s + (k - s) = k by omega] at this
    exact this
theorem gk_in {V : Int} {s k : Nat} (hk : k < s) : gk V s (k + 1) = gk V s k * 256 + V / 256 ^ (s - (k + 1)) % 256 := by
  unfold gk
  rw [if_pos (by omega), if_pos (by omega), show s - k = (s - (k + 1)) + 1 by omega, Int.pow_succ, ← Int.ediv_ediv_of_nonneg (Int.le_of_lt (pow256_pos _))]
  generalize V / 256 ^ (s - (k + 1)) = X
  omega
theorem gk_out {V : Int} {s k : Nat} (hk : s ≤ k) : gk V s (k + 1) = gk V s k * 256 := by
  unfold gk
  rw [if_neg (by omega), show k + 1 - s = (k - s) + 1 by omega, Int.pow_succ, ← Int.mul_assoc]
  split
  · rw [show k = s by omega, show s - s = 0 by omega]
    simp
  · rfl
theorem gk_zero {V : Int} {s : Nat} (h0 : 0 ≤ V) (h : V < 256 ^ s) : gk V s 0 = 0 := by
  unfold gk
  rw [if_pos (Nat.zero_le _), Nat.sub_zero, Int.ediv_eq_zero_of_lt h0 h]
theorem rbin32_add (x y : Int) : rbin .add .u32 x y = (x + y) % 4294967296 := wrap_u32 _
theorem rbin32_mul (x y : Int) : rbin .mul .u32 x y = (x * y) % 4294967296 := wrap_u32 _
theorem rbin32_quo {x y : Int} (h0 : 0 ≤ x) (h1 : x < 4294967296) (hy : 0 < y) : rbin .quo .u32 x y = x / y := by
  have e : rbin .quo .u32 x y = (x.tdiv y) % 4294967296 := wrap_u32 _
  rw [e, Int.tdiv_eq_ediv_of_nonneg h0]
  have := Int.ediv_le_self y h0
  have := Int.ediv_nonneg h0 (Int.le_of_lt hy)
  exact Int.emod_eq_of_lt this (by omega)
attribute [local irreducible] CallOk HOk Run TIok rbin rcmp run1 words val updF shfF blitF pv V40 nb wq tgt rb tlim tgood tval cmant bytesOf gk
set_option maxRecDepth 100000 in
theorem ncompact_ok : CallOk Try.prog 69 (sNCompact lnR) := by
  refine .of_run (hc := (tn0 lnR).hc) Try.func69 rfl (by kernel_rfl) (by kernel_rfl) fun xs v ps hs hp w => ?_
  unfold sNCompact at hs
  split at hs
  · rename_i f h
    obtain rfl := nar1_some h
    cases hs
    have hf : bd40 f := hp (lnR.bn f) (by simp)
    have hV1 : V40 f < (115792089237316195423570985008687907853269984665640564039457584007913129639936 : Int) := hp (lnR.n256 f) (by simp)
    clear hp h
    have hV0 := (V40_bd hf).1
    have hfn := nb_V40 hf
    have hf' := hf
    unfold bd40 at hf'
    refine run_ex hmix ti_ok tn0_ok 0 false 800 [] (fun ar lf => by conv => lhs; cbv) (allP ?_) ?_
    · trivial
    refine Run.cut [1, 3] [3] 1 (by decide) rfl rfl ?_
    refine Run.loop (ι := {s : Int // 0 ≤ s ∧ s ≤ 40 ∧ ∀ j : Nat, s ≤ j → j < 40 → f j = 0})
      (fun i => ([.any, .a (.one (.ptr 0 (.lit 0))), .any, .a (.one (.int .i64 i.1))] ++ List.replicate 42 .any, [some (KN f)]))
      (fun i => i.1.toNat) ⟨40, by decide, by decide, fun j h1 h2 => by omega⟩ ?_
    rintro ⟨s, h0, h1, hz⟩ ih
    have ei : ∀ x : Int, 0 + x.toNat * 1 = x.toNat := fun x => by omega
    by_cases hx : 0 < s ∧ f (s - 1).toNat = 0
    · have esub : rbin .sub .i64 s 1 = s - 1 := rbin_subi (by omega)
      have emu : (rbin .sub .i64 s 1).toNat < s.toNat := by rw [esub]; omega
      refine run_ex hmix ti_ok tn0_ok 2 false 800 [true, true] (fun ar lf => by conv => lhs; cbv) (allP ?_) ?_
      · simp only [conj, arR, N.val, rcmp_gtr, rcmp_eql, esub, ei, decide_eq_true_eq]
        and_intros <;> first | trivial | exact hx.2 | omega
      · refine Run.cut [1, 3] [3] 1 (by decide) rfl rfl ?_
        refine ih ⟨_, ?_, ?_, ?_⟩ emu _ _
        · simp only [esub]; omega
        · simp only [esub]; omega
        · simp only [esub]
          intro j h2 h3
          by_cases hj : s ≤ j
          · exact hz j hj h3
          · rw [show j = (s - 1).toNat by omega]; exact hx.2
    · have hVs : V40 f < 256 ^ s.toNat := by
        have hb := pv_bd (f := f) (n := s.toNat) (fun j hj => hf' j (by omega))
        have key : ∀ k, s.toNat + k ≤ 40 → pv 256 f (s.toNat + k) = pv 256 f s.toNat := by
          intro k
          induction k with
          | zero => intro _; rfl
          | succ k ih2 =>
            intro hk
            rw [← Nat.add_assoc, pv_at, ih2 (by omega), hz _ (by omega) (by omega), Int.zero_mul, Int.add_zero]
        have := key (40 - s.toNat) (by omega)
        rw [show s.toNat + (40 - s.toNat) = 40 by omega] at this
        unfold V40
        rw [this]; exact hb.2
      have hbs : bytesOf (V40 f) = s.toNat := by
        refine bytesOf_eq hV0 hVs ?_
        by_cases hs0 : s = 0
        · left; omega
        · right
          apply Decidable.byContradiction
          intro hlt
          have hb := hfn (s - 1).toNat (by omega)
          have : nb (V40 f) (s - 1).toNat = 0 := by
            unfold nb
            rw [show (s - 1).toNat = s.toNat - 1 by omega, Int.ediv_eq_zero_of_lt hV0 (by omega)]; rfl
          exact hx ⟨by omega, by rw [hb, this]⟩
      obtain ⟨c0, c1, c2⟩ := cmant_facts hV0 hV1
      obtain ⟨d0, d1, d2⟩ := bytesOf_facts hV0 hV1
      have hcm := gk_cmant hbs
      by_cases hs0 : s = 0
      refine run_ex hmix ti_ok tn0_ok 2 false 800 [false] (fun ar lf => by conv => lhs; cbv) (allP ?_) ?_
      · simp only [conj, arR, rcmp_gtr, decide_eq_false_iff_not]
        and_intros <;> first | trivial | omega
      refine Run.cut [1, 3, 4, 5] [4, 5] 1 (by decide) rfl rfl ?_
      rotate_left
      have esub : rbin .sub .i64 s 1 = s - 1 := rbin_subi (by omega)
      refine run_ex hmix ti_ok tn0_ok 2 false 800 [true, false] (fun ar lf => by conv => lhs; cbv) (allP ?_) ?_
      · simp only [conj, arR, N.val, rcmp_gtr, rcmp_eql, esub, ei, decide_eq_true_eq, decide_eq_false_iff_not]
        and_intros <;> first | trivial | exact fun h => hx ⟨by omega, h⟩ | omega
      refine Run.cut [1, 3, 4, 5] [4, 5] 1 (by decide) rfl rfl ?_
      all_goals
        refine Run.loop (ι := {p : Int × Int // 1 ≤ p.1 ∧ p.1 ≤ 4 ∧ p.2 = gk (V40 f) s.toNat (p.1 - 1).toNat})
          (fun i => ([.any, .a (.one (.ptr 0 (.lit 0))), .any, .a (.one (.int .i64 s)), .a (.one (.int .u32 i.1.2)), .a (.one (.int .i64 i.1.1))] ++ List.replicate 40 .any, [some (KN f)]))
          (fun i => (4 - i.1.1).toNat) ⟨(1, 0), Int.le_refl 1, show (1 : Int) ≤ 4 by decide, (gk_zero hV0 hVs).symm⟩ ?_
        rintro ⟨⟨i, m⟩, i0, i1, hm⟩ ih2
        simp only at i0 i1 hm
        have hgl := gk_lt (k := (i - 1).toNat) hV0 hVs
        rw [← hm] at hgl
        by_cases hi : i ≤ 3
        · have eadd : rbin .add .i64 i 1 = i + 1 := rbin_addi (by omega)
          have emu2 : (4 - rbin .add .i64 i 1).toNat < (4 - i).toNat := by rw [eadd]; omega
          have esi : rbin .sub .i64 s i = s - i := rbin_subi (by omega)
          have h255 : (256 : Int) ^ (i - 1).toNat ≤ 65536 := by
            rw [show (65536 : Int) = 256 ^ 2 by decide, pow256, pow256]; exact p2_le (by omega)
          have em : rbin .mul .u32 m 256 = m * 256 := by rw [rbin32_mul]; omega
          have en1 : (i + 1 - 1).toNat = (i - 1).toNat + 1 := by omega
          by_cases hsi : 0 ≤ s - i
          · have hbyte := hf' (s - i).toNat (by omega)
            have ec : IntKind.u32.wrap (f (s - i).toNat) = f (s - i).toNat := by rw [wrap_u32]; omega
            have ea : rbin .add .u32 (m * 256) (f (s - i).toNat) = m * 256 + f (s - i).toNat := by rw [rbin32_add]; omega
            have hstep : m * 256 + f (s - i).toNat = gk (V40 f) s.toNat ((i - 1).toNat + 1) := by
              rw [gk_in (by omega), hm, hfn (s - i).toNat (by omega)]
              unfold nb
              rw [show s.toNat - ((i - 1).toNat + 1) = (s - i).toNat by omega]
            refine run_ex hmix ti_ok tn0_ok 2 false 800 [true, true] (fun ar lf => by conv => lhs; cbv) (allP ?_) ?_
            · simp only [conj, arR, N.val, rcmp_leq, rcmp_geq, esi, ei, decide_eq_true_eq]
              and_intros <;> first | trivial | omega
            · refine Run.cut [1, 3, 4, 5] [4, 5] 1 (by decide) rfl rfl ?_
              refine ih2 ⟨(_, _), ?_, ?_, ?_⟩ emu2 _ _
              · simp only [eadd]; omega
              · simp only [eadd]; omega
              · simp only [arR, N.val, esi, ei, em, ec, ea, eadd, en1]
                exact hstep
          · refine run_ex hmix ti_ok tn0_ok 2 false 800 [true, false] (fun ar lf => by conv => lhs; cbv) (allP ?_) ?_
            · simp only [conj, arR, N.val, rcmp_leq, rcmp_geq, esi, ei, decide_eq_true_eq, decide_eq_false_iff_not]
              and_intros <;> first | trivial | omega
            · refine Run.cut [1, 3, 4, 5] [4, 5] 1 (by decide) rfl rfl ?_
              refine ih2 ⟨(_, _), ?_, ?_, ?_⟩ emu2 _ _
              · simp only [eadd]; omega
              · simp only [eadd]; omega
              · simp only [arR, N.val, esi, ei, em, eadd, en1]
                rw [gk_out (by omega), hm]
        · obtain rfl : i = 4 := by omega
          have hmc : m = cmant (V40 f) := by rw [hcm]; exact hm
          have e24 : p2 24 = 16777216 := by decide
          have hsb : s = bytesOf (V40 f) := by omega
          have hshl : ∀ S x, S = x → 0 ≤ x → x ≤ 33 → rbin .shl .u32 (IntKind.u32.wrap S) 24 = x * p2 24 := by
            intro S x hS h0 h1
            rw [hS, wrap_u32, rbin32_shl (m := 24) _ rfl, e24]
            omega
          by_cases hb : m ≥ 8388608
          · have hbit : cmant (V40 f) / 8388608 % 2 = 1 := by omega
            have eadd : rbin .add .i64 s 1 = bytesOf (V40 f) + 1 := by rw [hsb]; exact rbin_addi (by omega)
            refine run_ex hmix ti_ok tn0_ok 2 false 800 [false, true] (fun ar lf => by conv => lhs; cbv) (allP ?_) ?_
            · simp only [conj, arR, rcmp_leq, rcmp_geq, decide_eq_true_eq, decide_eq_false_iff_not]
              and_intros <;> first | trivial | omega
            · refine Run.ret ti_ok rfl rfl (.a (.int ?_))
              show rbin .or .u32 (rbin .shl .u32 (IntKind.u32.wrap (rbin .add .i64 s 1)) 24) (rbin .quo .u32 m 256) = cpt (V40 f)
              rw [hshl _ _ eadd (by omega) (by omega), rbin32_quo (by omega) (by omega) (by decide), hmc, rbin32_or (by decide) (by omega) (by rw [e24]; omega) (by omega) (by rw [e24]; omega), e24]
              unfold cpt
              rw [if_pos hbit]
          · have hbit : ¬ cmant (V40 f) / 8388608 % 2 = 1 := by omega
            refine run_ex hmix ti_ok tn0_ok 2 false 800 [false, false] (fun ar lf => by conv => lhs; cbv) (allP ?_) ?_
            · simp only [conj, arR, rcmp_leq, rcmp_geq, decide_eq_true_eq, decide_eq_false_iff_not]
              and_intros <;> first | trivial | omega
            · refine Run.ret ti_ok rfl rfl (.a (.int ?_))
              show rbin .or .u32 (rbin .shl .u32 (IntKind.u32.wrap s) 24) m = cpt (V40 f)
              rw [hshl _ _ hsb (by omega) (by omega), hmc, rbin32_or (by decide) (by omega) (by rw [e24]; omega) (by omega) (by rw [e24]; omega), e24]
              unfold cpt
              rw [if_neg hbit]
  · cases hs
end Go.Proofs.Ytegcdnjihnpolaa
