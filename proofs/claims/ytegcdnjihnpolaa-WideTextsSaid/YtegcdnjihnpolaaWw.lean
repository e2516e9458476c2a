import Derived.Test.YtegcdnjihnpolaaWv
set_option linter.unusedSimpArgs false
set_option linter.unusedVariables false
namespace Go.Proofs.Ytegcdnjihnpolaa
open Go Go.Eng Go.Proofs Go.RowKit
theorem pv_succ (β : Int) (f : F) (k : Nat) : pv β f (k + 1) = pv β f k + f k * β ^ k := rfl
theorem pv8 (p : F) : pv (18446744073709551616 : Int) p 8 = val p + (115792089237316195423570985008687907853269984665640564039457584007913129639936 : Int) * val (fun j => p (4 + j)) := by
  unfold val
  simp only [pv]
  have e1 : (18446744073709551616 : Int) ^ 1 = 18446744073709551616 := by decide
  have e2 : (18446744073709551616 : Int) ^ 2 = 340282366920938463463374607431768211456 := by decide
  have e3 : (18446744073709551616 : Int) ^ 3 = 6277101735386680763835789423207666416102355444464034512896 := by decide
  have e4 : (18446744073709551616 : Int) ^ 4 = 115792089237316195423570985008687907853269984665640564039457584007913129639936 := by decide
  have e5 : (18446744073709551616 : Int) ^ 5 = 115792089237316195423570985008687907853269984665640564039457584007913129639936 * 18446744073709551616 := by decide
  have e6 : (18446744073709551616 : Int) ^ 6 = 115792089237316195423570985008687907853269984665640564039457584007913129639936 * 340282366920938463463374607431768211456 := by decide
  have e7 : (18446744073709551616 : Int) ^ 7 = 115792089237316195423570985008687907853269984665640564039457584007913129639936 * 6277101735386680763835789423207666416102355444464034512896 := by decide
  rw [e1, e2, e3, e4, e5, e6, e7, Int.pow_zero]
  simp only [Nat.add_zero, Nat.reduceAdd]
  omega
theorem mul_ends {p : F} (hp : ∀ j, j < 8 → 0 ≤ p j ∧ p j < (18446744073709551616 : Int)) {N : Int} (h : pv (18446744073709551616 : Int) p 8 = N) :
    (∀ j, j < 4 → p j = words N j) ∧ (∀ j, j < 4 → p (4 + j) = words (N / (115792089237316195423570985008687907853269984665640564039457584007913129639936 : Int)) j) := by
  have h1 : bd p := fun j hj => hp j (by omega)
  have h2 : bd (fun j => p (4 + j)) := fun j hj => hp (4 + j) (by omega)
  have v1 := val_bd h1
  rw [pv8] at h
  refine ⟨fun j hj => ?_, fun j hj => ?_⟩
  · rw [← h, ← words_val h1 j hj]
    exact words_congr (by rw [Int.add_mul_emod_self_left]) j hj
  · rw [← h, Int.add_mul_ediv_left _ _ (by decide), Int.ediv_eq_zero_of_lt v1.1 v1.2, Int.zero_add]
    exact (words_val h2 j hj).symm
attribute [local irreducible] CallOk HOk Run TIok rbin rcmp run1 words val updF shfF blitF pv
abbrev K8 (f : F) : Blk := ⟨false, .ints .u64 (.lit 8) f⟩
theorem words_like (n : Int) : 0 ≤ n % (18446744073709551616 : Int) ∧ n % (18446744073709551616 : Int) < (18446744073709551616 : Int) := ⟨Int.emod_nonneg _ (by decide), Int.emod_lt_of_pos _ (by decide)⟩
def tb13 (lf : LF) : Tbl := tbL [(104, sAdd64 lf), (106, sMul64 lf)] []
theorem tb13_ok : TblOk Try.prog (tb13 lfR) := tbL_ok (by simpa using ⟨add64_ok, mul64_ok⟩) (by simp)

set_option maxRecDepth 100000 in
theorem mul_ok : CallOk Try.prog 49 (sMul lfR) := by
  refine .of_run (hc := (tb13 lfR).hc) Try.func49 rfl (by kernel_rfl) (by kernel_rfl) fun xs v ps hs hp w => ?_
  unfold sMul at hs
  split at hs
  · rename_i f g h
    obtain rfl := arr2_some h
    cases hs
    have hf : bd f := hp (lfR.bd f) (by simp)
    have hg : bd g := hp (lfR.bd g) (by simp)
    clear hp h
    refine run_ex hmix ti_ok tb13_ok 0 false 800 [] (fun ar lf => by conv => lhs; cbv) (allP ?_) ?_
    · trivial
    refine Run.cut [2, 3, 4, 5, 6, 15, 16] [16] 5 (by decide) rfl rfl ?_
    refine Run.loop (ι := {p : Int × F // 0 ≤ p.1 ∧ p.1 ≤ 4 ∧ (∀ j, j < 8 → 0 ≤ p.2 j ∧ p.2 j < (18446744073709551616 : Int)) ∧ (∀ j, p.1.toNat + 4 ≤ j → j < 8 → p.2 j = 0) ∧ pv (18446744073709551616 : Int) p.2 8 = pv (18446744073709551616 : Int) f p.1.toNat * val g})
      (fun i => ([.any, .any, .a (.one (.ptr 0 (.lit 0))), .a (.one (.ptr 1 (.lit 0))), .a (.one (.ptr 2 (.lit 0))), .a (.one (.ptr 3 (.lit 0))), .a (.one (.ptr 4 (.lit 0))), .any, .any, .any, .any, .any, .any, .any, .any, .a (.agg (.ints .u64 (.lit 4) f)), .a (.one (.int .i64 i.1.1))] ++ List.replicate 52 .any,
        [some (K4 f), some (K4 g), some (K4 fun _ => 0), some (K4 fun _ => 0), some (K8 i.1.2)]))
      (fun i => (4 - i.1.1).toNat) ⟨(0, fun _ => 0), by decide, by decide, fun j hj => ⟨Int.le_refl 0, show (0 : Int) < 18446744073709551616 by decide⟩, fun j _ _ => rfl, ?_⟩ ?_
    · show pv _ (fun _ => 0) 8 = pv _ f 0 * val g
      simp [pv]
    rintro ⟨⟨i, p⟩, h0, h1, hp, hz, hval⟩ ih
    simp only at h0 h1 hp hz hval
    by_cases hn : i < 4
    · refine run_ex hmix ti_ok tb13_ok 2 false 800 [true] (fun ar lf => by conv => lhs; cbv) (allP ?_) ?_
      · simp only [conj, arR, rcmp_lss, decide_eq_true_eq]
        and_intros <;> first | trivial | omega
      · refine Run.cut [2, 3, 4, 5, 6, 7, 8, 9, 15, 16, 20, 21] [9, 21] 5 (by decide) rfl rfl ?_
        refine Run.loop (ι := {t : Int × F × Int // 0 ≤ t.1 ∧ t.1 ≤ 4 ∧ (∀ j, j < 8 → 0 ≤ t.2.1 j ∧ t.2.1 j < (18446744073709551616 : Int)) ∧ (∀ j, i.toNat + 4 ≤ j → j < 8 → t.2.1 j = 0) ∧ (0 ≤ t.2.2 ∧ t.2.2 < (18446744073709551616 : Int)) ∧
            pv (18446744073709551616 : Int) t.2.1 8 + t.2.2 * (18446744073709551616 : Int) ^ (i.toNat + t.1.toNat) = pv (18446744073709551616 : Int) p 8 + f i.toNat * (18446744073709551616 : Int) ^ i.toNat * pv (18446744073709551616 : Int) g t.1.toNat})
          (fun t => ([.any, .any, .a (.one (.ptr 0 (.lit 0))), .a (.one (.ptr 1 (.lit 0))), .a (.one (.ptr 2 (.lit 0))), .a (.one (.ptr 3 (.lit 0))), .a (.one (.ptr 4 (.lit 0))), .a (.one (.int .i64 i)), .a (.one (.int .u64 (f (arR.idx 0 i 1)))), .a (.one (.int .u64 t.1.2.2)), .any, .any, .any, .any, .any, .a (.agg (.ints .u64 (.lit 4) f)), .a (.one (.int .i64 i)), .any, .any, .any, .a (.agg (.ints .u64 (.lit 4) g)), .a (.one (.int .i64 t.1.1))] ++ List.replicate 47 .any,
            [some (K4 f), some (K4 g), some (K4 fun _ => 0), some (K4 fun _ => 0), some (K8 t.1.2.1)]))
          (fun t => (4 - t.1.1).toNat) ⟨(0, p, 0), Int.le_refl 0, show (0 : Int) ≤ 4 by decide, hp, hz, ⟨Int.le_refl 0, show (0 : Int) < 18446744073709551616 by decide⟩, ?_⟩ ?_
        · show pv _ p 8 + 0 * _ = pv _ p 8 + f i.toNat * _ * pv _ g 0
          simp [pv]
        rintro ⟨⟨k, q, c⟩, k0, k1, kq, kz, kc, kval⟩ ih2
        simp only at k0 k1 kq kz kc kval
        by_cases hk : k < 4
        · have esum : rbin .add .i64 i k = i + k := rbin_addi (by omega)
          have ei : 0 + i.toNat * 1 = i.toNat := by omega
          have ek : 0 + k.toNat * 1 = k.toNat := by omega
          have eik : 0 + (i + k).toNat * 1 = i.toNat + k.toNat := by omega
          have eadd : rbin .add .i64 k 1 = k + 1 := rbin_addi (by omega)
          have enk : (k + 1).toNat = k.toNat + 1 := by omega
          have emu2 : (4 - rbin .add .i64 k 1).toNat < (4 - k).toNat := by rw [eadd]; omega
          have hx := hf i.toNat (by omega)
          have hy := hg k.toNat (by omega)
          have hp0 := kq (i.toNat + k.toNat) (by omega)
          have hX := mul_lt hx hy
          obtain ⟨st1, st2⟩ := mul_step (X := f i.toNat * g k.toNat) (c := c) (p := q (i.toNat + k.toNat)) ⟨hX.1, by have := hX.2; omega⟩ kc hp0
          have hT0 : 0 ≤ q (i.toNat + k.toNat) + f i.toNat * g k.toNat + c := by omega
          have hT1 : q (i.toNat + k.toNat) + f i.toNat * g k.toNat + c < 18446744073709551616 * 18446744073709551616 := by have := hX.2; omega
          have hup1 : ∀ n y, n = i.toNat + k.toNat → y = (q (i.toNat + k.toNat) + f i.toNat * g k.toNat + c) % (18446744073709551616 : Int) → ∀ j, j < 8 → 0 ≤ updF q n y j ∧ updF q n y j < (18446744073709551616 : Int) := by
            intro n y hn hy j hj
            unfold updF
            split
            · rw [hy]; exact words_like _
            · exact kq j hj
          have hup2 : ∀ n y, n = i.toNat + k.toNat → y = (q (i.toNat + k.toNat) + f i.toNat * g k.toNat + c) % (18446744073709551616 : Int) → ∀ j, i.toNat + 4 ≤ j → j < 8 → updF q n y j = 0 := by
            intro n y hn hy j hj hj8
            unfold updF
            rw [if_neg (by omega)]
            exact kz j hj hj8
          have hup3 : ∀ z, z = (q (i.toNat + k.toNat) + f i.toNat * g k.toNat + c) / (18446744073709551616 : Int) → 0 ≤ z ∧ z < (18446744073709551616 : Int) := by
            intro z hz; subst hz; omega
          have hup4 : ∀ n y z, n = i.toNat + k.toNat → y = (q (i.toNat + k.toNat) + f i.toNat * g k.toNat + c) % (18446744073709551616 : Int) → z = (q (i.toNat + k.toNat) + f i.toNat * g k.toNat + c) / (18446744073709551616 : Int) →
              pv (18446744073709551616 : Int) (updF q n y) 8 + z * (18446744073709551616 : Int) ^ (i.toNat + (rbin .add .i64 k 1).toNat) = pv (18446744073709551616 : Int) p 8 + f i.toNat * (18446744073709551616 : Int) ^ i.toNat * pv (18446744073709551616 : Int) g (rbin .add .i64 k 1).toNat := by
            intro n y z hn hy hz
            subst hn hz
            rw [eadd, enk, ← Nat.add_assoc]
            rw [pv_succ _ g k.toNat]
            refine mul_keep (e := 0) (p := q (i.toNat + k.toNat)) (y := g k.toNat) kval ?_ rfl
            rw [pv_upd (by omega), hy]
          have eik' : arR.idx 0 (arR.bin .add .i64 i k) 1 = i.toNat + k.toNat := by
            show 0 + (rbin .add .i64 i k).toNat * 1 = _
            rw [esum]; exact eik
          have hY : (q (0 + (rbin .add .i64 i k).toNat * 1) + ((f (0 + i.toNat * 1) * g (0 + k.toNat * 1)) % (18446744073709551616 : Int) + c + 0) % (18446744073709551616 : Int) + 0) % (18446744073709551616 : Int) = (q (i.toNat + k.toNat) + f i.toNat * g k.toNat + c) % (18446744073709551616 : Int) := by
            rw [esum, ei, ek, eik]; exact st1
          have hC : rbin .add .u64 (rbin .add .u64 (f (0 + i.toNat * 1) * g (0 + k.toNat * 1) / (18446744073709551616 : Int)) (((f (0 + i.toNat * 1) * g (0 + k.toNat * 1)) % (18446744073709551616 : Int) + c + 0) / (18446744073709551616 : Int)))
              ((q (0 + (rbin .add .i64 i k).toNat * 1) + ((f (0 + i.toNat * 1) * g (0 + k.toNat * 1)) % (18446744073709551616 : Int) + c + 0) % (18446744073709551616 : Int) + 0) / (18446744073709551616 : Int)) = (q (i.toNat + k.toNat) + f i.toNat * g k.toNat + c) / (18446744073709551616 : Int) := by
            rw [rbin_add, rbin_add, esum, ei, ek, eik]; exact st2
          refine run_ex hmix ti_ok tb13_ok 7 false 800 [true] (fun ar lf => by conv => lhs; cbv) (allP ?_) ?_
          · simp only [conj, arR, N.val, rcmp_lss, esum, ei, ek, eik, decide_eq_true_eq]
            and_intros <;> first | trivial | exact hx.1 | exact hx.2 | exact hy.1 | exact hy.2 | exact kc.1 | exact kc.2 | exact (kq _ (by omega)).1 | exact (kq _ (by omega)).2 | exact (words_like _).1 | exact (words_like _).2 | exact Int.le_refl 0 | exact (show (0 : Int) ≤ 1 by decide) | omega
          · refine Run.cut [2, 3, 4, 5, 6, 7, 8, 9, 15, 16, 20, 21] [] 5 (by decide) rfl rfl ?_
            refine ih2 ⟨(_, _, _), ?_, ?_, ?_, ?_, ?_, ?_⟩ ?_ _ _
            · simp only [eadd]; omega
            · simp only [eadd]; omega
            · exact fun j hj => hup1 _ _ eik' hY j hj
            · exact fun j hj hj8 => hup2 _ _ eik' hY j hj hj8
            · exact hup3 _ hC
            · exact hup4 _ _ _ eik' hY hC
            · exact emu2
        · obtain rfl : k = 4 := by omega
          rw [show (4 : Int).toNat = 4 from rfl, pv_val, hval] at kval
          have ez := kz (i.toNat + 4) (by omega) (by omega)
          have esum : rbin .add .i64 i 4 = i + 4 := rbin_addi (by omega)
          have eadd : rbin .add .i64 i 1 = i + 1 := rbin_addi (by omega)
          have eni : (i + 1).toNat = i.toNat + 1 := by omega
          have emu : (4 - rbin .add .i64 i 1).toNat < (4 - i).toNat := by rw [eadd]; omega
          have eik' : arR.idx 0 (arR.bin .add .i64 i 4) 1 = i.toNat + 4 := by
            show 0 + (rbin .add .i64 i 4).toNat * 1 = _
            rw [esum]; omega
          have o1 : ∀ n, n = i.toNat + 4 → ∀ j, j < 8 → 0 ≤ updF q n c j ∧ updF q n c j < (18446744073709551616 : Int) := by
            intro n hn j hj
            unfold updF
            split
            · exact kc
            · exact kq j hj
          have o2 : ∀ n, n = i.toNat + 4 → ∀ j, i.toNat + 1 + 4 ≤ j → j < 8 → updF q n c j = 0 := by
            intro n hn j hj hj8
            unfold updF
            rw [if_neg (by omega)]
            exact kz j (by omega) hj8
          have o3 : ∀ n, n = i.toNat + 4 → pv (18446744073709551616 : Int) (updF q n c) 8 = pv (18446744073709551616 : Int) f (i.toNat + 1) * val g := by
            intro n hn
            subst hn
            rw [pv_upd (by omega), ez, Int.sub_zero, kval, pv_succ _ f i.toNat, Int.add_mul]
          refine run_ex hmix ti_ok tb13_ok 2 false 800 [false] (fun ar lf => by conv => lhs; cbv) (allP ?_) ?_
          · simp only [conj, arR, N.val, rcmp_lss, esum, decide_eq_false_iff_not]
            and_intros <;> first | trivial | omega
          · refine Run.cut [2, 3, 4, 5, 6, 15, 16] [] 5 (by decide) rfl rfl ?_
            refine ih ⟨(_, _), ?_, ?_, ?_, ?_, ?_⟩ emu _ _
            · simp only [eadd]; omega
            · simp only [eadd]; omega
            · exact fun j hj => o1 _ eik' j hj
            · simp only [eadd, eni]; exact fun j hj hj8 => o2 _ eik' j hj hj8
            · simp only [eadd, eni]; exact o3 _ eik'
    · obtain rfl : i = 4 := by omega
      rw [show (4 : Int).toNat = 4 from rfl, pv_val] at hval
      obtain ⟨r1, r2⟩ := mul_ends hp hval
      refine run_ex hmix ti_ok tb13_ok 2 false 800 [false] (fun ar lf => by conv => lhs; cbv) (allP ?_) ?_
      · simp only [conj, arR, rcmp_lss]
        decide
      · refine Run.ret ti_ok rfl rfl (.tup2 (.ints r1) (.ints r2))
  · cases hs
end Go.Proofs.Ytegcdnjihnpolaa
