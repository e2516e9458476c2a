import Derived.Test.YtegcdnjihnpolaaWw
import Derived.Test.YtegcdnjihnpolaaVh
set_option linter.unusedSimpArgs false
set_option linter.unusedVariables false
namespace Go.Eng
open Go
/-- the digits of 32 bits -/
def dg (f : F) : F := fun i => f (i / 2) / p2 (32 * (i % 2)) % 4294967296
theorem dg_lo (f : F) (i : Nat) : 0 ≤ dg f i ∧ dg f i < 4294967296 := ⟨Int.emod_nonneg _ (by decide), Int.emod_lt_of_pos _ (by decide)⟩
theorem dg_two (x : Int) (h0 : 0 ≤ x) (h1 : x < (18446744073709551616 : Int)) : x % 4294967296 + x / 4294967296 % 4294967296 * 4294967296 = x := by omega
theorem pv_dg {f : F} : ∀ {k : Nat}, (∀ j, j < k → 0 ≤ f j ∧ f j < (18446744073709551616 : Int)) → pv 4294967296 (dg f) (2 * k) = pv (18446744073709551616 : Int) f k
  | 0, _ => rfl
  | k + 1, h => by
    have ih := pv_dg (f := f) (k := k) (fun j hj => h j (by omega))
    have hk := h k (by omega)
    show pv 4294967296 (dg f) (2 * k) + dg f (2 * k) * 4294967296 ^ (2 * k) + dg f (2 * k + 1) * 4294967296 ^ (2 * k + 1) = pv (18446744073709551616 : Int) f k + f k * (18446744073709551616 : Int) ^ k
    rw [ih, Int.pow_succ, Int.pow_mul]
    have e1 : (4294967296 : Int) ^ 2 = (18446744073709551616 : Int) := by decide
    have e2 : dg f (2 * k) = f k % 4294967296 := by
      unfold dg
      rw [show 2 * k / 2 = k by omega, show 2 * k % 2 = 0 by omega, show p2 (32 * 0) = 1 by decide, Int.ediv_one]
    have e3 : dg f (2 * k + 1) = f k / 4294967296 % 4294967296 := by
      unfold dg
      rw [show (2 * k + 1) / 2 = k by omega, show (2 * k + 1) % 2 = 1 by omega, show p2 (32 * 1) = 4294967296 by decide]
    have e4 := dg_two (f k) hk.1 hk.2
    rw [e1, e2, e3, Int.add_assoc]
    congr 1
    have e5 : ∀ X Y B : Int, X * B + Y * (B * 4294967296) = (X + Y * 4294967296) * B := by intro X Y B; grind
    rw [e5, e4]
/-- the words out of the digits -/
def undg (q : F) : F := fun j => q (2 * j) + q (2 * j + 1) * 4294967296
theorem pv_undg (q : F) : ∀ k : Nat, pv (18446744073709551616 : Int) (undg q) k = pv 4294967296 q (2 * k)
  | 0 => rfl
  | k + 1 => by
    have ih := pv_undg q k
    show pv (18446744073709551616 : Int) (undg q) k + undg q k * (18446744073709551616 : Int) ^ k = pv 4294967296 q (2 * k) + q (2 * k) * 4294967296 ^ (2 * k) + q (2 * k + 1) * 4294967296 ^ (2 * k + 1)
    rw [ih, Int.pow_succ, Int.pow_mul]
    have e1 : (4294967296 : Int) ^ 2 = (18446744073709551616 : Int) := by decide
    rw [e1, Int.add_assoc]
    congr 1
    unfold undg
    have e5 : ∀ X Y B : Int, X * B + Y * (B * 4294967296) = (X + Y * 4294967296) * B := by intro X Y B; grind
    rw [e5]
theorem undg_lo {q : F} (hq : ∀ j, j < 16 → 0 ≤ q j ∧ q j < 4294967296) : ∀ j, j < 8 → 0 ≤ undg q j ∧ undg q j < (18446744073709551616 : Int) := by
  intro j hj
  have := hq (2 * j) (by omega)
  have := hq (2 * j + 1) (by omega)
  unfold undg; omega
theorem undg_add {x y : Int} (hx : 0 ≤ x ∧ x < 4294967296) (hy : 0 ≤ y ∧ y < 4294967296) : rbin .add .u64 x (rbin .shl .u64 y 32) = x + y * 4294967296 := by
  rw [rbin_shl (m := 32) y rfl, rbin_add, show p2 32 = 4294967296 by decide]
  omega
theorem dg_get {f : F} (hf : bd f) {i : Int} (h0 : 0 ≤ i) (h1 : i < 8) :
    rbin .rem .u64 (rbin .shr .u64 (f (0 + (rbin .quo .i64 i 2).toNat * 1)) (rbin .mul .i64 32 (rbin .rem .i64 i 2))) 4294967296 = dg f i.toNat := by
  rw [rbin_quoi h0 (by omega) (by decide), rbin_remi h0, rbin_muli (by omega), rbin_shr (m := 32 * (i.toNat % 2)) _ (by omega), show 0 + (i / 2).toNat * 1 = i.toNat / 2 by omega]
  have hfi := hf (i.toNat / 2) (by omega)
  rw [rbin_rem (Int.ediv_nonneg hfi.1 (Int.le_of_lt (p2_pos _)))]
  rfl
end Go.Eng
namespace Go.Proofs.Ytegcdnjihnpolaa
open Go Go.Eng Go.Proofs Go.RowKit
attribute [local irreducible] CallOk HOk Run TIok rbin rcmp run1 words val updF shfF blitF pv dg
abbrev K16 (f : F) : Blk := ⟨false, .ints .u64 (.lit 16) f⟩
def tb14 (lf : LF) : Tbl := tbL [] []
theorem tb14_ok : TblOk Try.prog (tb14 lfR) := tbL_ok (by simp) (by simp)

set_option maxRecDepth 100000 in
theorem rmul_ok : CallOk Try.prog 50 (sMul lfR) := by
  refine .of_run (hc := (tb14 lfR).hc) Try.func50 rfl (by kernel_rfl) (by kernel_rfl) fun xs v ps hs hp w => ?_
  unfold sMul at hs
  split at hs
  · rename_i f g h
    obtain rfl := arr2_some h
    cases hs
    have hf : bd f := hp (lfR.bd f) (by simp)
    have hg : bd g := hp (lfR.bd g) (by simp)
    clear hp h
    refine run_ex hmix ti_ok tb14_ok 0 false 800 [] (fun ar lf => by conv => lhs; cbv) (allP ?_) ?_
    · trivial
    refine Run.cut [2, 3, 4, 5, 6, 7] [7] 5 (by decide) rfl rfl ?_
    refine Run.loop (ι := {p : Int × F // 0 ≤ p.1 ∧ p.1 ≤ 8 ∧ (∀ j, j < 16 → 0 ≤ p.2 j ∧ p.2 j < (4294967296 : Int)) ∧ (∀ j, p.1.toNat + 8 ≤ j → j < 16 → p.2 j = 0) ∧ pv (4294967296 : Int) p.2 16 = pv (4294967296 : Int) (dg f) p.1.toNat * val g})
      (fun i => ([.any, .any, .a (.one (.ptr 0 (.lit 0))), .a (.one (.ptr 1 (.lit 0))), .a (.one (.ptr 2 (.lit 0))), .a (.one (.ptr 3 (.lit 0))), .a (.one (.ptr 4 (.lit 0))), .a (.one (.int .i64 i.1.1))] ++ List.replicate 93 .any,
        [some (K4 f), some (K4 g), some (K4 fun _ => 0), some (K4 fun _ => 0), some (K16 i.1.2)]))
      (fun i => (8 - i.1.1).toNat) ⟨(0, fun _ => 0), by decide, by decide, fun j hj => ⟨Int.le_refl 0, show (0 : Int) < 4294967296 by decide⟩, fun j _ _ => rfl, ?_⟩ ?_
    · show pv _ (fun _ => 0) 16 = pv _ (dg f) 0 * val g
      simp [pv]
    rintro ⟨⟨i, p⟩, h0, h1, hp, hz, hval⟩ ih
    simp only at h0 h1 hp hz hval
    by_cases hn : i < 8
    · have eqi : rbin .quo .i64 i 2 = i / 2 := rbin_quoi h0 (by omega) (by decide)
      have emi : rbin .mul .i64 32 (rbin .rem .i64 i 2) = 32 * (i % 2) := by rw [rbin_remi h0]; exact rbin_muli (by omega)
      have ex := dg_get hf h0 hn
      refine run_ex hmix ti_ok tb14_ok 2 false 800 [true] (fun ar lf => by conv => lhs; cbv) (allP ?_) ?_
      · simp only [conj, arR, rcmp_lss, decide_eq_true_eq, eqi, emi]
        and_intros <;> first | trivial | omega
      · refine Run.cut [2, 3, 4, 5, 6, 7, 8, 9, 10] [8, 10] 5 (by decide) rfl rfl ?_
        refine Run.loop (ι := {t : Int × F × Int // 0 ≤ t.1 ∧ t.1 ≤ 8 ∧ (∀ j, j < 16 → 0 ≤ t.2.1 j ∧ t.2.1 j < (4294967296 : Int)) ∧ (∀ j, i.toNat + 8 ≤ j → j < 16 → t.2.1 j = 0) ∧ (0 ≤ t.2.2 ∧ t.2.2 < (4294967296 : Int)) ∧
            pv (4294967296 : Int) t.2.1 16 + t.2.2 * (4294967296 : Int) ^ (i.toNat + t.1.toNat) = pv (4294967296 : Int) p 16 + dg f i.toNat * (4294967296 : Int) ^ i.toNat * pv (4294967296 : Int) (dg g) t.1.toNat})
          (fun t => ([.any, .any, .a (.one (.ptr 0 (.lit 0))), .a (.one (.ptr 1 (.lit 0))), .a (.one (.ptr 2 (.lit 0))), .a (.one (.ptr 3 (.lit 0))), .a (.one (.ptr 4 (.lit 0))), .a (.one (.int .i64 i)), .a (.one (.int .u64 t.1.2.2)), .a (.one (.int .u64 (arR.bin .rem .u64 (arR.bin .shr .u64 (f (arR.idx 0 (arR.bin .quo .i64 i 2) 1)) (arR.bin .mul .i64 32 (arR.bin .rem .i64 i 2))) 4294967296))), .a (.one (.int .i64 t.1.1))] ++ List.replicate 90 .any,
            [some (K4 f), some (K4 g), some (K4 fun _ => 0), some (K4 fun _ => 0), some (K16 t.1.2.1)]))
          (fun t => (8 - t.1.1).toNat) ⟨(0, p, 0), Int.le_refl 0, show (0 : Int) ≤ 8 by decide, hp, hz, ⟨Int.le_refl 0, show (0 : Int) < 4294967296 by decide⟩, ?_⟩ ?_
        · show pv _ p 16 + 0 * _ = pv _ p 16 + dg f i.toNat * _ * pv _ (dg g) 0
          simp [pv]
        rintro ⟨⟨k, q, c⟩, k0, k1, kq, kz, kc, kval⟩ ih2
        simp only at k0 k1 kq kz kc kval
        have ex' : arR.bin .rem .u64 (arR.bin .shr .u64 (f (arR.idx 0 (arR.bin .quo .i64 i 2) 1)) (arR.bin .mul .i64 32 (arR.bin .rem .i64 i 2))) 4294967296 = dg f i.toNat := ex
        generalize arR.bin .rem .u64 (arR.bin .shr .u64 (f (arR.idx 0 (arR.bin .quo .i64 i 2) 1)) (arR.bin .mul .i64 32 (arR.bin .rem .i64 i 2))) 4294967296 = x at ex' ih2 ⊢
        by_cases hk : k < 8
        · have ekq : rbin .quo .i64 k 2 = k / 2 := rbin_quoi k0 (by omega) (by decide)
          have ekm : rbin .mul .i64 32 (rbin .rem .i64 k 2) = 32 * (k % 2) := by rw [rbin_remi k0]; exact rbin_muli (by omega)
          have ey := dg_get hg k0 hk
          have esum : rbin .add .i64 i k = i + k := rbin_addi (by omega)
          have eik : 0 + (i + k).toNat * 1 = i.toNat + k.toNat := by omega
          have eadd : rbin .add .i64 k 1 = k + 1 := rbin_addi (by omega)
          have enk : (k + 1).toNat = k.toNat + 1 := by omega
          have emu2 : (8 - rbin .add .i64 k 1).toNat < (8 - k).toNat := by rw [eadd]; omega
          have hx := dg_lo f i.toNat
          have hy := dg_lo g k.toNat
          have hp0 := kq (i.toNat + k.toNat) (by omega)
          have hX := mul_lt hx hy
          have hT : rbin .add .u64 (rbin .add .u64 (q (i.toNat + k.toNat)) (rbin .mul .u64 (dg f i.toNat) (dg g k.toNat))) c = q (i.toNat + k.toNat) + dg f i.toNat * dg g k.toNat + c := by
            rw [rbin_mul, rbin_add, rbin_add]
            have := hX.2
            omega
          have hT0 : 0 ≤ q (i.toNat + k.toNat) + dg f i.toNat * dg g k.toNat + c := by omega
          have hT1 : q (i.toNat + k.toNat) + dg f i.toNat * dg g k.toNat + c < 18446744073709551616 := by have := hX.2; omega
          have hTe : rbin .add .u64 (rbin .add .u64 (q (0 + (rbin .add .i64 i k).toNat * 1)) (rbin .mul .u64 x (rbin .rem .u64 (rbin .shr .u64 (g (0 + (rbin .quo .i64 k 2).toNat * 1)) (rbin .mul .i64 32 (rbin .rem .i64 k 2))) 4294967296))) c = q (i.toNat + k.toNat) + dg f i.toNat * dg g k.toNat + c := by
            rw [esum, eik, ey, ex', hT]
          have eik' : arR.idx 0 (arR.bin .add .i64 i k) 1 = i.toNat + k.toNat := by
            show 0 + (rbin .add .i64 i k).toNat * 1 = _
            rw [esum]; exact eik
          have hY : ∀ T, T = q (i.toNat + k.toNat) + dg f i.toNat * dg g k.toNat + c → rbin .rem .u64 T 4294967296 = (q (i.toNat + k.toNat) + dg f i.toNat * dg g k.toNat + c) % 4294967296 := by
            intro T hTT; subst hTT; exact rbin_rem hT0
          have hC : ∀ T, T = q (i.toNat + k.toNat) + dg f i.toNat * dg g k.toNat + c → rbin .quo .u64 T 4294967296 = (q (i.toNat + k.toNat) + dg f i.toNat * dg g k.toNat + c) / 4294967296 := by
            intro T hTT; subst hTT; exact rbin_quo hT0 hT1 (by decide)
          have hup1 : ∀ n y, n = i.toNat + k.toNat → y = (q (i.toNat + k.toNat) + dg f i.toNat * dg g k.toNat + c) % (4294967296 : Int) → ∀ j, j < 16 → 0 ≤ updF q n y j ∧ updF q n y j < (4294967296 : Int) := by
            intro n y hn hy j hj
            unfold updF
            split
            · rw [hy]; exact ⟨Int.emod_nonneg _ (by decide), Int.emod_lt_of_pos _ (by decide)⟩
            · exact kq j hj
          have hup2 : ∀ n y, n = i.toNat + k.toNat → ∀ j, i.toNat + 8 ≤ j → j < 16 → updF q n y j = 0 := by
            intro n y hn j hj hj8
            unfold updF
            rw [if_neg (by omega)]
            exact kz j hj hj8
          have hup3 : ∀ z, z = (q (i.toNat + k.toNat) + dg f i.toNat * dg g k.toNat + c) / (4294967296 : Int) → 0 ≤ z ∧ z < (4294967296 : Int) := by
            intro z hz; subst hz; omega
          have hup4 : ∀ n y z, n = i.toNat + k.toNat → y = (q (i.toNat + k.toNat) + dg f i.toNat * dg g k.toNat + c) % (4294967296 : Int) → z = (q (i.toNat + k.toNat) + dg f i.toNat * dg g k.toNat + c) / (4294967296 : Int) →
              pv (4294967296 : Int) (updF q n y) 16 + z * (4294967296 : Int) ^ (i.toNat + (rbin .add .i64 k 1).toNat) = pv (4294967296 : Int) p 16 + dg f i.toNat * (4294967296 : Int) ^ i.toNat * pv (4294967296 : Int) (dg g) (rbin .add .i64 k 1).toNat := by
            intro n y z hn hy hz
            subst hn hz
            rw [eadd, enk, ← Nat.add_assoc]
            rw [pv_succ _ (dg g) k.toNat]
            refine mul_keep (e := 0) (p := q (i.toNat + k.toNat)) (y := dg g k.toNat) kval ?_ rfl
            rw [pv_upd (by omega), hy]
          refine run_ex hmix ti_ok tb14_ok 7 false 800 [true] (fun ar lf => by conv => lhs; cbv) (allP ?_) ?_
          · simp only [conj, arR, N.val, rcmp_lss, esum, ekq, ekm, decide_eq_true_eq]
            and_intros <;> first | trivial | omega
          · refine Run.cut [2, 3, 4, 5, 6, 7, 8, 9, 10] [] 5 (by decide) rfl rfl ?_
            refine ih2 ⟨(_, _, _), ?_, ?_, ?_, ?_, ?_, ?_⟩ ?_ _ _
            · simp only [eadd]; omega
            · simp only [eadd]; omega
            · exact fun j hj => hup1 _ _ eik' (hY _ hTe) j hj
            · exact fun j hj hj8 => hup2 _ _ eik' j hj hj8
            · exact hup3 _ (hC _ hTe)
            · exact hup4 _ _ _ eik' (hY _ hTe) (hC _ hTe)
            · exact emu2
        · obtain rfl : k = 8 := by omega
          have e8 : pv (4294967296 : Int) (dg g) 8 = val g := by rw [← pv_val]; exact pv_dg (k := 4) hg
          rw [show (8 : Int).toNat = 8 from rfl, e8, hval] at kval
          have ez := kz (i.toNat + 8) (by omega) (by omega)
          have esum : rbin .add .i64 i 8 = i + 8 := rbin_addi (by omega)
          have eadd : rbin .add .i64 i 1 = i + 1 := rbin_addi (by omega)
          have eni : (i + 1).toNat = i.toNat + 1 := by omega
          have emu : (8 - rbin .add .i64 i 1).toNat < (8 - i).toNat := by rw [eadd]; omega
          have eik' : arR.idx 0 (arR.bin .add .i64 i 8) 1 = i.toNat + 8 := by
            show 0 + (rbin .add .i64 i 8).toNat * 1 = _
            rw [esum]; omega
          have o1 : ∀ n, n = i.toNat + 8 → ∀ j, j < 16 → 0 ≤ updF q n c j ∧ updF q n c j < (4294967296 : Int) := by
            intro n hn j hj
            unfold updF
            split
            · exact kc
            · exact kq j hj
          have o2 : ∀ n, n = i.toNat + 8 → ∀ j, i.toNat + 1 + 8 ≤ j → j < 16 → updF q n c j = 0 := by
            intro n hn j hj hj8
            unfold updF
            rw [if_neg (by omega)]
            exact kz j (by omega) hj8
          have o3 : ∀ n, n = i.toNat + 8 → pv (4294967296 : Int) (updF q n c) 16 = pv (4294967296 : Int) (dg f) (i.toNat + 1) * val g := by
            intro n hn
            subst hn
            rw [pv_upd (by omega), ez, Int.sub_zero, kval, pv_succ _ (dg f) i.toNat, Int.add_mul]
          refine run_ex hmix ti_ok tb14_ok 2 false 800 [false] (fun ar lf => by conv => lhs; cbv) (allP ?_) ?_
          · simp only [conj, arR, N.val, rcmp_lss, esum, decide_eq_false_iff_not]
            and_intros <;> first | trivial | omega
          · refine Run.cut [2, 3, 4, 5, 6, 7] [] 5 (by decide) rfl rfl ?_
            refine ih ⟨(_, _), ?_, ?_, ?_, ?_, ?_⟩ emu _ _
            · simp only [eadd]; omega
            · simp only [eadd]; omega
            · exact fun j hj => o1 _ eik' j hj
            · simp only [eadd, eni]; exact fun j hj hj8 => o2 _ eik' j hj hj8
            · simp only [eadd, eni]; exact o3 _ eik'
    · obtain rfl : i = 8 := by omega
      have e8 : pv (4294967296 : Int) (dg f) 8 = val f := by rw [← pv_val]; exact pv_dg (k := 4) hf
      rw [show (8 : Int).toNat = 8 from rfl, e8] at hval
      obtain ⟨r1, r2⟩ := mul_ends (undg_lo hp) ((pv_undg p 8).trans hval)
      refine run_ex hmix ti_ok tb14_ok 99 true 800 [false] (fun ar lf => by conv => lhs; cbv) (allP ?_) ?_
      · simp only [conj, arR, rcmp_lss]
        decide
      · have u : ∀ j, j < 8 → rbin .add .u64 (p (2 * j)) (rbin .shl .u64 (p (2 * j + 1)) 32) = undg p j := fun j hj => undg_add (hp _ (by omega)) (hp _ (by omega))
        refine Run.ret ti_ok rfl rfl (.tup2 (.ints (four ?_ ?_ ?_ ?_)) (.ints (four ?_ ?_ ?_ ?_)))
        · exact (u 0 (by decide)).trans (r1 0 (by decide))
        · exact (u 1 (by decide)).trans (r1 1 (by decide))
        · exact (u 2 (by decide)).trans (r1 2 (by decide))
        · exact (u 3 (by decide)).trans (r1 3 (by decide))
        · exact (u 4 (by decide)).trans (r2 0 (by decide))
        · exact (u 5 (by decide)).trans (r2 1 (by decide))
        · exact (u 6 (by decide)).trans (r2 2 (by decide))
        · exact (u 7 (by decide)).trans (r2 3 (by decide))
  · cases hs
end Go.Proofs.Ytegcdnjihnpolaa
