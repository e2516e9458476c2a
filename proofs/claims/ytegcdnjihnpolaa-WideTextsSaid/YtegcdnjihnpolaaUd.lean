import Derived.Test.YtegcdnjihnpolaaUc
set_option linter.unusedSimpArgs false
set_option linter.unusedVariables false
namespace Go.Proofs.Ytegcdnjihnpolaa
open Go Go.Eng Go.Proofs Go.RowKit
theorem bytesOf_facts {n : Int} (h0 : 0 ≤ n) (h1 : n < (115792089237316195423570985008687907853269984665640564039457584007913129639936 : Int)) :
    0 ≤ bytesOf n ∧ bytesOf n ≤ 32 ∧ n < p2 (8 * bytesOf n).toNat := by
  have hb : bitLen n.toNat ≤ 256 := (bitLen_gt h0).2 (by rw [p2_256]; exact h1)
  unfold bytesOf
  refine ⟨by omega, by omega, ?_⟩
  exact (bitLen_gt h0).1 (by omega)
theorem cmant_facts {n : Int} (h0 : 0 ≤ n) (h1 : n < (115792089237316195423570985008687907853269984665640564039457584007913129639936 : Int)) :
    cmant n = shl n (8 * (3 - bytesOf n)) ∧ 0 ≤ cmant n ∧ cmant n < 16777216 := by
  obtain ⟨b0, b1, b2⟩ := bytesOf_facts h0 h1
  have e24 : p2 24 = 16777216 := by decide
  unfold cmant
  split
  · rename_i h
    have hp := p2_pos (8 * (3 - bytesOf n)).toNat
    refine ⟨by unfold shl; rw [if_pos (by omega)], Int.mul_nonneg h0 (Int.le_of_lt hp), ?_⟩
    have e : p2 24 = p2 (8 * bytesOf n).toNat * p2 (8 * (3 - bytesOf n)).toNat := by rw [← p2_add]; congr 1; omega
    rw [← e24, e]
    exact Int.mul_lt_mul_of_pos_right b2 hp
  · rename_i h
    have hp := p2_pos (8 * (bytesOf n - 3)).toNat
    refine ⟨by unfold shl; rw [if_neg (by omega)]; congr 2; omega, Int.ediv_nonneg h0 (Int.le_of_lt hp), ?_⟩
    have e : p2 (8 * bytesOf n).toNat = p2 24 * p2 (8 * (bytesOf n - 3)).toNat := by rw [← p2_add]; congr 1; omega
    rw [e, e24] at b2
    exact Int.ediv_lt_of_lt_mul hp b2
attribute [local irreducible] CallOk HOk Run TIok rbin rcmp run1 words val updF shfF blitF tgt tlim tgood tval shl cmant bytesOf
def tc5 (l : L5) : Tbl := tbL [(18, sBits l.lf), (112, sShifted l), (94, sLow l)] []
theorem tc5_ok : TblOk Try.prog (tc5 l5R) := tbL_ok (by simpa [l5lf] using ⟨bits_ok, shifted_ok, low_ok⟩) (by simp)
set_option maxRecDepth 100000 in
theorem compact_ok : CallOk Try.prog 65 (sCompact l5R) := by
  refine .eval (tb := tc5) hmix ti_ok tc5_ok Try.func65 rfl (by kernel_rfl) (by kernel_rfl) fun xs v ps hs hp => ?_
  unfold sCompact at hs
  split at hs
  · rename_i f h
    obtain rfl := arr1_some h
    cases hs
    have hf : bd f := hp (lfR.bd f) (by simp [l5R])
    clear hp h
    have hv := val_bd hf
    obtain ⟨b0, b1, b2⟩ := bytesOf_facts hv.1 hv.2
    obtain ⟨c0, c1, c2⟩ := cmant_facts hv.1 hv.2
    have hw := wbits_le hf
    have e1 : rbin .add .i64 (lfR.wbits f) 8 = lfR.wbits f + 8 := rbin_addi (by omega)
    have e2 : rbin .sub .i64 (lfR.wbits f + 8) 1 = lfR.wbits f + 8 - 1 := rbin_subi (by omega)
    have e3 : rbin .quo .i64 (lfR.wbits f + 8 - 1) 8 = bytesOf (val f) := by
      rw [rbin_quoi (by omega) (by omega) (by decide)]
      unfold bytesOf
      show (lfR.wbits f + 8 - 1) / 8 = ((bitLen (val f).toNat : Int) + 7) / 8
      rw [show lfR.wbits f = (bitLen (val f).toNat : Int) from rfl]
      omega
    have es : rbin .quo .i64 (rbin .sub .i64 (rbin .add .i64 (lfR.wbits f) 8) 1) 8 = bytesOf (val f) := by rw [e1, e2, e3]
    have e4 : rbin .sub .i64 3 (bytesOf (val f)) = 3 - bytesOf (val f) := rbin_subi (by omega)
    have hsh : l5R.sh f (3 - bytesOf (val f)) = words (cmant (val f)) := by
      show words (shl (val f) (8 * (3 - bytesOf (val f)))) = _
      rw [c0]
    have hlo : l5R.low (l5R.sh f (3 - bytesOf (val f))) = cmant (val f) := by
      show (if val (l5R.sh f (3 - bytesOf (val f))) < (18446744073709551616 : Int) then _ else _) = _
      rw [hsh, val_words_of c1 (by omega), if_pos (by omega)]
    have hm : rbin .and .u64 (cmant (val f)) 8388608 = 8388608 * (cmant (val f) / 8388608 % 2) := rbin64_bit _ c1 (by omega)
    have hlo2 : l5R.low (l5R.sh f (rbin .sub .i64 3 (rbin .quo .i64 (rbin .sub .i64 (rbin .add .i64 (lfR.wbits f) 8) 1) 8))) = cmant (val f) := by rw [es, e4]; exact hlo
    have hsz : ∀ S, S = bytesOf (val f) → l5R.sz (rbin .sub .i64 3 S) := by
      intro S hS
      rw [hS, e4]
      show -300 ≤ 3 - bytesOf (val f) ∧ 3 - bytesOf (val f) ≤ 300
      omega
    have hne : ∀ L, L = cmant (val f) → rcmp .neq (rbin .and .u64 L 8388608) 0 = decide (cmant (val f) / 8388608 % 2 = 1) := by
      intro L hL
      rw [hL, hm, rcmp_neq, decide_eq_decide]
      omega
    have e24 : p2 24 = 16777216 := by decide
    have e8 : p2 8 = 256 := by decide
    have hshl : ∀ S x, S = x → 0 ≤ x → x ≤ 33 → rbin .shl .u32 (IntKind.u32.wrap S) 24 = x * p2 24 := by
      intro S x hS h0 h1
      rw [hS, wrap_u32, rbin32_shl (m := 24) _ rfl, e24]
      omega
    by_cases hb : cmant (val f) / 8388608 % 2 = 1
    · have key : ∀ S L, S = bytesOf (val f) → L = cmant (val f) → rbin .or .u32 (rbin .shl .u32 (IntKind.u32.wrap (rbin .add .i64 S 1)) 24) (IntKind.u32.wrap (rbin .shr .u64 L 8)) = cpt (val f) := by
        intro S L hS hL
        have e5 : rbin .add .i64 S 1 = bytesOf (val f) + 1 := by rw [hS]; exact rbin_addi (by omega)
        rw [hshl _ _ e5 (by omega) (by omega), hL, rbin_shr (m := 8) _ rfl, e8, wrap_u32, show cmant (val f) / 256 % 4294967296 = cmant (val f) / 256 by omega, rbin32_or (by decide) (by omega) (by rw [e24]; omega) (by omega) (by rw [e24]; omega), e24]
        unfold cpt
        rw [if_pos hb]
      refine ⟨800, [true], _, fun ar lf => by conv => lhs; cbv, allP ?_, .a (.int ?_)⟩
      · simp only [conj]
        exact ⟨(hne _ hlo2).trans (decide_eq_true hb), words_bd _, hf, hsz _ es, hf, trivial⟩
      · exact key _ _ es hlo2
    · have key : ∀ S L, S = bytesOf (val f) → L = cmant (val f) → rbin .or .u32 (rbin .shl .u32 (IntKind.u32.wrap S) 24) (IntKind.u32.wrap L) = cpt (val f) := by
        intro S L hS hL
        rw [hshl _ _ hS (by omega) (by omega), hL, wrap_u32, show cmant (val f) % 4294967296 = cmant (val f) by omega, rbin32_or (by decide) (by omega) (by rw [e24]; omega) (by omega) (by rw [e24]; omega), e24]
        unfold cpt
        rw [if_neg hb]
      refine ⟨800, [false], _, fun ar lf => by conv => lhs; cbv, allP ?_, .a (.int ?_)⟩
      · simp only [conj]
        exact ⟨(hne _ hlo2).trans (decide_eq_false hb), words_bd _, hf, hsz _ es, hf, trivial⟩
      · exact key _ _ es hlo2
  · cases hs
end Go.Proofs.Ytegcdnjihnpolaa
