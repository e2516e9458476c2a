import Derived.Test.YtegcdnjihnpolaaUb
set_option linter.unusedSimpArgs false
set_option linter.unusedVariables false
namespace Go.Eng
open Go
theorem pow23 {m : Int} {k : Nat} (h0 : 0 ≤ m) (h1 : m < 8388608) : m / p2 k < (115792089237316195423570985008687907853269984665640564039457584007913129639936 : Int) := by
  have := Int.ediv_le_self (p2 k) h0
  omega
theorem tgt_low {b : Int} (h : b / 16777216 ≤ 3) (h0 : 0 ≤ b) : tgt b = shl (b % 8388608) (8 * (b / 16777216 - 3)) ∧ tgt b < (115792089237316195423570985008687907853269984665640564039457584007913129639936 : Int) := by
  have e : tgt b = b % 8388608 / p2 (8 * (3 - b / 16777216)).toNat := if_pos h
  refine ⟨?_, by rw [e]; exact pow23 (by omega) (by omega)⟩
  rw [e]
  unfold shl
  split
  · rw [show (8 * (3 - b / 16777216)).toNat = 0 by omega, show (8 * (b / 16777216 - 3)).toNat = 0 by omega, show p2 0 = 1 by decide, Int.ediv_one, Int.mul_one]
  · rw [show (-(8 * (b / 16777216 - 3))).toNat = (8 * (3 - b / 16777216)).toNat by omega]
theorem tgt_high {b : Int} (h : ¬ b / 16777216 ≤ 3) : tgt b = b % 8388608 * p2 (8 * (b / 16777216 - 3)).toNat ∧ tgt b = shl (b % 8388608) (8 * (b / 16777216 - 3)) := by
  have e : tgt b = b % 8388608 * p2 (8 * (b / 16777216 - 3)).toNat := if_neg h
  refine ⟨e, ?_⟩
  rw [e]
  unfold shl
  rw [if_pos (by omega)]
end Go.Eng
namespace Go.Proofs.Ytegcdnjihnpolaa
open Go Go.Eng Go.Proofs Go.RowKit
theorem tgt_fits {b : Int} (h : ¬ b / 16777216 ≤ 3) (h0 : 0 ≤ b) (h1 : b < 4294967296) (hm : b % 8388608 ≠ 0) :
    (bitLen (b % 8388608).toNat : Int) + (b / 16777216 - 3) * 8 > 256 ↔ ¬ tgt b < (115792089237316195423570985008687907853269984665640564039457584007913129639936 : Int) := by
  rw [(tgt_high h).1, ← p2_256]
  have hs : (8 * (b / 16777216 - 3)).toNat = ((b / 16777216 - 3) * 8).toNat := by omega
  rw [hs]
  generalize hk : ((b / 16777216 - 3) * 8).toNat = k
  have hk2 : (b / 16777216 - 3) * 8 = (k : Int) := by omega
  rw [hk2]
  have hm0 : 0 ≤ b % 8388608 := by omega
  generalize b % 8388608 = m at *
  by_cases hk3 : k ≤ 256
  · have e : p2 256 = p2 (256 - k) * p2 k := by rw [← p2_add]; congr 1; omega
    have hp := p2_pos k
    rw [e]
    have := bitLen_gt (n := 256 - k) hm0
    constructor
    · intro h3 h4
      have h5 : m < p2 (256 - k) := Int.lt_of_mul_lt_mul_right h4 (Int.le_of_lt hp)
      have := this.2 h5
      omega
    · intro h3
      have h5 : ¬ m < p2 (256 - k) := fun h6 => h3 (Int.mul_lt_mul_of_pos_right h6 hp)
      have : ¬ bitLen m.toNat ≤ 256 - k := fun h7 => h5 (this.1 h7)
      omega
  · have h1 := p2_le (show 256 ≤ k by omega)
    have hp := p2_pos 256
    have : p2 k ≤ m * p2 k := by
      have := Int.mul_le_mul_of_nonneg_right (show (1 : Int) ≤ m by omega) (Int.le_of_lt (p2_pos k))
      omega
    constructor
    · intro _; omega
    · intro _; omega
attribute [local irreducible] CallOk HOk Run TIok rbin rcmp run1 words val updF shfF blitF tgt tlim tgood tval cpt shl

def tc2 (l : L5) : Tbl := tbL [(93, sFrom l.lf), (112, sShifted l), (55, sZero l.lf), (18, sBits l.lf)] []
theorem tc2_ok : TblOk Try.prog (tc2 l5R) := tbL_ok (by simpa [l5lf] using ⟨from_ok, shifted_ok, zero_ok, bits_ok⟩) (by simp)
set_option maxRecDepth 100000 in
theorem raw_ok : CallOk Try.prog 110 (sRaw l5R) := by
  refine .evalN (tb := tc2) hmix ti_ok tc2_ok Try.func110 rfl (by kernel_rfl) (by kernel_rfl) (num32_spec_norm (g := fun b => (.tup [W (l5R.rawW b), B (l5R.rawB b)], [l5R.u32 b])) (fun l => rfl)) fun xs v ps hn hs hp => ?_
  unfold sRaw at hs
  split at hs
  · rename_i b h
    obtain rfl := num32_int h hn
    cases hs
    have hb : 0 ≤ b ∧ b < 4294967296 := hp (l5R.u32 b) (by simp)
    clear hp h hn
    have es : IntKind.i64.wrap (rbin .shr .u32 b 24) = b / 16777216 := by
      rw [rbin32_shr (m := 24) _ rfl, show p2 24 = 16777216 by decide]; exact wrap_i64 (by omega)
    have em : IntKind.u64.wrap (rbin .and .u32 b 8388607) = b % 8388608 := by
      rw [rbin32_mask b hb.1 hb.2, wrap_u64]; omega
    have e3 : rbin .sub .i64 (b / 16777216) 3 = b / 16777216 - 3 := rbin_subi (by omega)
    have hmv : val (words (b % 8388608)) = b % 8388608 := val_words_of (by omega) (by omega)
    by_cases hs3 : b / 16777216 ≤ 3
    · obtain ⟨t1, t2⟩ := tgt_low hs3 hb.1
      refine ⟨800, [true], _, fun ar lf => by conv => lhs; cbv, allP ?_, .tup2 (.ints fun j _ => ?_) (.lbool ?_)⟩
      · simp only [conj, arR, es, em, e3, rcmp_leq]
        exact ⟨words_bd _, ⟨by omega, by omega⟩, decide_eq_true hs3, ⟨by omega, by omega⟩, trivial⟩
      · simp only [arR, es, em, e3]
        show words (shl (val (words (b % 8388608))) (8 * (b / 16777216 - 3))) j = words (if tgt b < (115792089237316195423570985008687907853269984665640564039457584007913129639936 : Int) then tgt b else 0) j
        rw [hmv, if_pos t2, t1]
      · exact (decide_eq_true t2).symm
    · obtain ⟨t1, t2⟩ := tgt_high hs3
      have e4 : rbin .mul .i64 (b / 16777216 - 3) 8 = (b / 16777216 - 3) * 8 := rbin_muli (by omega)
      have hbl := wbits_le (words_bd (b % 8388608))
      have hbe : lfR.wbits (words (b % 8388608)) = bitLen (b % 8388608).toNat := by
        show ((bitLen (val (words (b % 8388608))).toNat : Nat) : Int) = _
        rw [hmv]
      have e5 : rbin .add .i64 (lfR.wbits (words (b % 8388608))) ((b / 16777216 - 3) * 8) = (bitLen (b % 8388608).toNat : Int) + (b / 16777216 - 3) * 8 := by
        rw [← hbe]; exact rbin_addi (by omega)
      by_cases hm : b % 8388608 = 0
      · have ht : tgt b = 0 := by rw [t1, hm, Int.zero_mul]
        refine ⟨800, [false, true], _, fun ar lf => by conv => lhs; cbv, allP ?_, .tup2 (.ints fun j _ => ?_) (.lbool ?_)⟩
        · simp only [conj, arR, es, em, e3, rcmp_leq]
          exact ⟨decide_eq_true (hmv.trans hm), words_bd _, decide_eq_false hs3, ⟨by omega, by omega⟩, trivial⟩
        · simp only [arR, es, em, e3]
          show words (b % 8388608) j = words (if tgt b < (115792089237316195423570985008687907853269984665640564039457584007913129639936 : Int) then tgt b else 0) j
          rw [ht, hm, if_pos (by decide)]
        · exact (decide_eq_true (by rw [ht]; decide)).symm
      · have hz : lfR.wzero (words (b % 8388608)) = false := decide_eq_false (by rw [hmv]; exact hm)
        have hfit := tgt_fits hs3 hb.1 hb.2 hm
        by_cases hbig : (bitLen (b % 8388608).toNat : Int) + (b / 16777216 - 3) * 8 > 256
        · have ht := hfit.1 hbig
          refine ⟨800, [false, false, true], _, fun ar lf => by conv => lhs; cbv, allP ?_, .tup2 (.ints fun j hj => ?_) (.lbool ?_)⟩
          · simp only [conj, arR, es, em, e3, e4, rcmp_leq, rcmp_gtr]
            have e6 : rbin .add .i64 (lfR.wbits (words (b % 8388608))) ((b / 16777216 - 3) * 8) > 256 := by rw [e5]; exact hbig
            exact ⟨decide_eq_true e6, words_bd _, hz, words_bd _, decide_eq_false hs3, ⟨by omega, by omega⟩, trivial⟩
          · show 0 = words (if tgt b < (115792089237316195423570985008687907853269984665640564039457584007913129639936 : Int) then tgt b else 0) j
            rw [if_neg ht]; exact zero_words j hj
          · exact (decide_eq_false ht).symm
        · have ht : tgt b < (115792089237316195423570985008687907853269984665640564039457584007913129639936 : Int) := Decidable.byContradiction fun h => hbig (hfit.2 h)
          refine ⟨800, [false, false, false], _, fun ar lf => by conv => lhs; cbv, allP ?_, .tup2 (.ints fun j hj => ?_) (.lbool ?_)⟩
          · simp only [conj, arR, es, em, e3, e4, rcmp_leq, rcmp_gtr]
            have e6 : ¬ rbin .add .i64 (lfR.wbits (words (b % 8388608))) ((b / 16777216 - 3) * 8) > 256 := by rw [e5]; exact hbig
            exact ⟨words_bd _, ⟨by omega, by omega⟩, decide_eq_false e6, words_bd _, hz, words_bd _, decide_eq_false hs3, ⟨by omega, by omega⟩, trivial⟩
          · simp only [arR, es, em, e3]
            show words (shl (val (words (b % 8388608))) (8 * (b / 16777216 - 3))) j = words (if tgt b < (115792089237316195423570985008687907853269984665640564039457584007913129639936 : Int) then tgt b else 0) j
            rw [hmv, if_pos ht, t2]
          · exact (decide_eq_true ht).symm
  · cases hs

def tc3 (l : L5) : Tbl := tbL [(110, sRaw l)] []
theorem tc3_ok : TblOk Try.prog (tc3 l5R) := tbL_ok (by simpa [l5lf] using raw_ok) (by simp)
theorem vraw {b : Int} (h0 : 0 ≤ b) (h : tgt b < (115792089237316195423570985008687907853269984665640564039457584007913129639936 : Int)) : val (l5R.rawW b) = tgt b := by
  show val (words (if _ then _ else _)) = _
  rw [if_pos h, val_words_of (tgt_nonneg h0) h]
theorem vlim : val l5R.lim = tlim := val_words_of (by decide +kernel) tlim_lt
theorem tgt_limit : tgt 545259519 = tlim := by decide +kernel
set_option maxRecDepth 100000 in
theorem limit_ok : CallOk Try.prog 70 (sLimit l5R) := by
  refine .eval (tb := tc3) hmix ti_ok tc3_ok Try.func70 rfl (by kernel_rfl) (by kernel_rfl) fun xs v ps hs hp => ?_
  unfold sLimit at hs
  split at hs
  · cases hs
    refine ⟨800, [], _, fun ar lf => by conv => lhs; cbv, allP ?_, .a (.ints fun j _ => ?_)⟩
    · simp only [conj]
      exact ⟨⟨by decide, by decide⟩, trivial⟩
    · show words (if tgt 545259519 < (115792089237316195423570985008687907853269984665640564039457584007913129639936 : Int) then tgt 545259519 else 0) j = words tlim j
      rw [tgt_limit, if_pos tlim_lt]
  · cases hs
theorem cmp_gt0 {f g : F} : rcmp .gtr (lfR.wcmp f g) 0 = decide (val g < val f) := by
  rw [rcmp_gtr]
  show decide ((if val f < val g then (-1 : Int) else if val g < val f then 1 else 0) > 0) = _
  rw [decide_eq_decide]
  split
  · omega
  · split <;> omega
def tc4 (l : L5) : Tbl := tbL [(110, sRaw l), (55, sZero l.lf), (70, sLimit l), (51, sCmp l.lf)] []
theorem tc4_ok : TblOk Try.prog (tc4 l5R) := tbL_ok (by simpa [l5lf] using ⟨raw_ok, zero_ok, limit_ok, wcmp_ok⟩) (by simp)
set_option maxRecDepth 100000 in
theorem expand_ok : CallOk Try.prog 62 (sExpand l5R) := by
  refine .evalN (tb := tc4) hmix ti_ok tc4_ok Try.func62 rfl (by kernel_rfl) (by kernel_rfl) (num32_spec_norm (g := fun b => (.tup [W (l5R.tw b), I (l5R.te b)], [l5R.u32 b])) (fun l => rfl)) fun xs v ps hn hs hp => ?_
  unfold sExpand at hs
  split at hs
  · rename_i b h
    obtain rfl := num32_int h hn
    cases hs
    have hb : 0 ≤ b ∧ b < 4294967296 := hp (l5R.u32 b) (by simp)
    clear hp h hn
    have hT0 := tgt_nonneg hb.1
    have hsg : rbin .and .u32 b 8388608 = 8388608 * (b / 8388608 % 2) := rbin32_bit b hb.1 hb.2
    have bad : tgood b = false → (∀ j, j < 4 → (0 : Int) = l5R.tw b j) ∧ (50 : Int) = l5R.te b := by
      intro hg
      refine ⟨fun j hj => ?_, ?_⟩
      · show 0 = words (tval b) j
        rw [show tval b = 0 by unfold tval; rw [hg]; rfl]
        exact zero_words j hj
      · show 50 = if tgood b = true then (0 : Int) else 50
        rw [hg]; rfl
    by_cases hok : tgt b < (115792089237316195423570985008687907853269984665640564039457584007913129639936 : Int)
    · have hrb : l5R.rawB b = true := decide_eq_true hok
      have hv := vraw hb.1 hok
      by_cases hs : b / 8388608 % 2 = 0
      · have hs0 : rcmp .neq (rbin .and .u32 b 8388608) 0 = false := by rw [rcmp_neq, hsg, hs]; decide
        by_cases hz : tgt b = 0
        · have hzz : lfR.wzero (l5R.rawW b) = true := decide_eq_true (hv.trans hz)
          obtain ⟨b1, b2⟩ := bad (by unfold tgood; exact decide_eq_false (by omega))
          refine ⟨800, [false, false, true], _, fun ar lf => by conv => lhs; cbv, allP ?_, .tup2 (.ints ?_) (.lit b2)⟩
          simp only [conj]
          exact ⟨hzz, words_bd _, hs0, congrArg (fun b => !b) hrb, hb, trivial⟩
          exact b1
        · have hzz : lfR.wzero (l5R.rawW b) = false := decide_eq_false (by rw [hv]; exact hz)
          by_cases hl : tlim < tgt b
          · have hcm := (cmp_gt0 (f := l5R.rawW b) (g := l5R.lim)).trans (decide_eq_true (by rw [hv, vlim]; exact hl))
            obtain ⟨b1, b2⟩ := bad (by unfold tgood; exact decide_eq_false (by omega))
            refine ⟨800, [false, false, false, true], _, fun ar lf => by conv => lhs; cbv, allP ?_, .tup2 (.ints ?_) (.lit b2)⟩
            simp only [conj]
            exact ⟨hcm, words_bd _, words_bd _, hzz, words_bd _, hs0, congrArg (fun b => !b) hrb, hb, trivial⟩
            exact b1
          · have hcm := (cmp_gt0 (f := l5R.rawW b) (g := l5R.lim)).trans (decide_eq_false (by rw [hv, vlim]; exact hl))
            have hg : tgood b = true := by unfold tgood; exact decide_eq_true (by omega)
            refine ⟨800, [false, false, false, false], _, fun ar lf => by conv => lhs; cbv, allP ?_, .tup2 (.ints fun j _ => ?_) (.lit ?_)⟩
            · simp only [conj]
              exact ⟨hcm, words_bd _, words_bd _, hzz, words_bd _, hs0, congrArg (fun b => !b) hrb, hb, trivial⟩
            · show words (if tgt b < (115792089237316195423570985008687907853269984665640564039457584007913129639936 : Int) then tgt b else 0) j = words (tval b) j
              rw [if_pos hok, show tval b = tgt b by unfold tval; rw [hg]; rfl]
            · show 0 = if tgood b = true then (0 : Int) else 50
              rw [hg]; rfl
      · have hs0 : rcmp .neq (rbin .and .u32 b 8388608) 0 = true := by rw [rcmp_neq, hsg]; exact decide_eq_true (by omega)
        obtain ⟨b1, b2⟩ := bad (by unfold tgood; exact decide_eq_false (by omega))
        refine ⟨800, [false, true], _, fun ar lf => by conv => lhs; cbv, allP ?_, .tup2 (.ints ?_) (.lit b2)⟩
        simp only [conj]
        exact ⟨hs0, congrArg (fun b => !b) hrb, hb, trivial⟩
        exact b1
    · have hrb : l5R.rawB b = false := decide_eq_false hok
      obtain ⟨b1, b2⟩ := bad (by unfold tgood; exact decide_eq_false (by have := tlim_lt; omega))
      refine ⟨800, [true], _, fun ar lf => by conv => lhs; cbv, allP ?_, .tup2 (.ints ?_) (.lit b2)⟩
      simp only [conj]
      exact ⟨congrArg (fun b => !b) hrb, hb, trivial⟩
      exact b1
  · cases hs
end Go.Proofs.Ytegcdnjihnpolaa
