import Derived.Test.YtegcdnjihnpolaaWe
set_option linter.unusedSimpArgs false
set_option linter.unusedVariables false
namespace Go.Eng
open Go
theorem run_ex {P : Program} {W0 : World} {m0 : Nat} {fn : Func} {R : V → Heap → Prop} {Λ : Type} {ti : TypeId → TI} (hm : P.follows .mixedOrders = true) (hti : TIok P ti) {tb : Λ → Tbl} {l0 : Λ} (htbl : TblOk P (tb l0)) (d : Nat) (u : Bool) (n : Nat) (hints : List Bool) {t : List V} {h : Heap} {T : List Item} {o : List Prop} {s : List Bool} {F : Ar → Λ → Cfg}
    (he : ∀ ar l, exec ar arR ti (tb l) d u n ⟨t, h, T, [], hints⟩ = F ar l) (hq : ∀ q ∈ (F arR l0).obs, q) (hr : Run P (tb l0).hc W0 m0 fn R (F arR l0)) : Run P (tb l0).hc W0 m0 fn R ⟨t, h, T, o, s⟩ :=
  Run.exec hm hti htbl d u n hints (he arR l0) hq hr

theorem bitLen_of {v : Int} {n : Nat} (h0 : p2 n ≤ v) (h1 : v < p2 (n + 1)) : bitLen v.toNat = n + 1 := by
  have hp := p2_pos n
  obtain ⟨k, rfl⟩ := Int.eq_ofNat_of_zero_le (show 0 ≤ v by omega)
  have e0 : p2 n = ((2 ^ n : Nat) : Int) := by unfold p2; norm_cast
  have e1 : p2 (n + 1) = ((2 ^ (n + 1) : Nat) : Int) := by unfold p2; norm_cast
  have hk : k ≠ 0 := by omega
  simp only [Int.toNat_natCast, bitLen, if_neg hk]
  rw [(Nat.log2_eq_iff (k := n) hk).2 ⟨by omega, by omega⟩]
theorem bitLen_val {f : F} (hf : bd f) : (f 3 ≠ 0 → bitLen (val f).toNat = 192 + bitLen (f 3).toNat) ∧ (f 3 = 0 → f 2 ≠ 0 → bitLen (val f).toNat = 128 + bitLen (f 2).toNat) ∧
    (f 3 = 0 → f 2 = 0 → f 1 ≠ 0 → bitLen (val f).toNat = 64 + bitLen (f 1).toNat) ∧ (f 3 = 0 → f 2 = 0 → f 1 = 0 → bitLen (val f).toNat = bitLen (f 0).toNat) := by
  have := hf.at
  have h0 := (val_bd hf).1
  refine ⟨fun h => ?_, fun h1 h => ?_, fun h2 h1 h => ?_, fun h3 h2 h1 => ?_⟩
  · have e : val f / 6277101735386680763835789423207666416102355444464034512896 = f 3 := by unfold val; omega
    rw [Go.Proofs.Ytegcdnjihnpolaa.len_sh (b := 192) (c := 6277101735386680763835789423207666416102355444464034512896) (by decide) h0 (by rw [e]; exact h), e]
  · have e : val f / 340282366920938463463374607431768211456 = f 2 := by unfold val; omega
    rw [Go.Proofs.Ytegcdnjihnpolaa.len_sh (b := 128) (c := 340282366920938463463374607431768211456) (by decide) h0 (by rw [e]; exact h), e]
  · have e : val f / 18446744073709551616 = f 1 := by unfold val; omega
    rw [Go.Proofs.Ytegcdnjihnpolaa.len_sh (b := 64) (c := 18446744073709551616) (by decide) h0 (by rw [e]; exact h), e]
  · have e : val f = f 0 := by unfold val; omega
    rw [e]
theorem bitLen_le (n : Nat) (x : Int) (h1 : x < p2 n) : bitLen x.toNat ≤ n := by
  unfold bitLen
  split
  · omega
  · rename_i h
    obtain ⟨k, rfl⟩ := Int.eq_ofNat_of_zero_le (show 0 ≤ x by omega)
    have e1 : p2 n = ((2 ^ n : Nat) : Int) := by unfold p2; norm_cast
    have := (Nat.log2_lt (n := k) (k := n) (by simpa using h)).2 (by omega)
    simp only [Int.toNat_natCast]
    omega
end Go.Eng
namespace Go.Proofs.Ytegcdnjihnpolaa
open Go Go.Eng Go.Proofs Go.RowKit
attribute [local irreducible] CallOk HOk Run TIok

def tb2 (lf : LF) : Tbl := tbL [(104, sAdd64 lf), (105, sSub64 lf), (106, sMul64 lf), (98, sLen64 lf), (93, sFrom lf), (55, sZero lf), (46, sAdd lf), (47, sSub lf), (53, sNot lf), (20, sBit lf), (21, sBit lf)] []
theorem tb2_ok : TblOk Try.prog (tb2 lfR) := tbL_ok (by simpa using ⟨add64_ok, sub64_ok, mul64_ok, len64_ok, from_ok, zero_ok, add_ok, sub_ok, not_ok, bit_ok, rbit_ok⟩) (by simp)

theorem bits_ok : CallOk Try.prog 18 (sBits lfR) := by
  refine .eval (tb := tb2) hmix ti_ok tb2_ok Try.func18 rfl (by kernel_rfl) (by kernel_rfl) fun xs v ps hs hp => ?_
  unfold sBits at hs
  split at hs
  · rename_i f h
    obtain rfl := arr1_some h
    cases hs
    have hf : bd f := hp (lfR.bd f) (by simp)
    have := hf.at
    obtain ⟨l3, l2, l1, l0⟩ := bitLen_val hf
    have m64' : p2 64 = (18446744073709551616 : Int) := p2_64
    by_cases h3 : f 3 = 0
    · by_cases h2 : f 2 = 0
      · by_cases h1 : f 1 = 0
        · by_cases h0 : f 0 = 0
          · refine ⟨400, [false, false, false, false], _, fun ar lf => by conv => lhs; cbv, ?_, ?_⟩
            · refine allP ?_
              simp only [conj, lfR, arR, N.val, rcmp, bne_iff_ne, and_true, bne_eq_false_iff_eq]
              omega
            · refine .a (.lit ?_)
              simp only [lfR]
              rw [l0 h3 h2 h1, h0]; rfl
          · refine ⟨400, [false, false, false, true], _, fun ar lf => by conv => lhs; cbv, ?_, ?_⟩
            · refine allP ?_
              simp only [conj, lfR, arR, N.val, rcmp, bne_iff_ne, and_true, bne_eq_false_iff_eq]
              omega
            · refine .a (.int ?_)
              have := bitLen_le 64 (f 0) (by omega)
              simp only [lfR, arR, N.val]
              rw [l0 h3 h2 h1, rbin_addi (by omega)]; omega
        · refine ⟨400, [false, false, true], _, fun ar lf => by conv => lhs; cbv, ?_, ?_⟩
          · refine allP ?_
            simp only [conj, lfR, arR, N.val, rcmp, bne_iff_ne, and_true, bne_eq_false_iff_eq]
            omega
          · refine .a (.int ?_)
            have := bitLen_le 64 (f 1) (by omega)
            simp only [lfR, arR, N.val]
            rw [l1 h3 h2 h1, rbin_addi (by omega)]; omega
      · refine ⟨400, [false, true], _, fun ar lf => by conv => lhs; cbv, ?_, ?_⟩
        · refine allP ?_
          simp only [conj, lfR, arR, N.val, rcmp, bne_iff_ne, and_true, bne_eq_false_iff_eq]
          omega
        · refine .a (.int ?_)
          have := bitLen_le 64 (f 2) (by omega)
          simp only [lfR, arR, N.val]
          rw [l2 h3 h2, rbin_addi (by omega)]; omega
    · refine ⟨400, [true], _, fun ar lf => by conv => lhs; cbv, ?_, ?_⟩
      · refine allP ?_
        simp only [conj, lfR, arR, N.val, rcmp, bne_iff_ne, and_true, bne_eq_false_iff_eq]
        omega
      · refine .a (.int ?_)
        have := bitLen_le 64 (f 3) (by omega)
        simp only [lfR, arR, N.val]
        rw [l3 h3, rbin_addi (by omega)]; omega
  · cases hs
end Go.Proofs.Ytegcdnjihnpolaa
