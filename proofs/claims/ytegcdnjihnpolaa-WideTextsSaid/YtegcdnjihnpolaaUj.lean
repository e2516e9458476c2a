import Derived.Test.YtegcdnjihnpolaaUi
set_option linter.unusedSimpArgs false
set_option linter.unusedVariables false
namespace Go.Proofs.Ytegcdnjihnpolaa
open Go Go.Eng Go.Proofs Go.RowKit
theorem lim320 : (115792089237316195423570985008687907853269984665640564039457584007913129639936 : Int) < p2 320 := by decide +kernel
theorem nb_zero (j : Nat) : nb 0 j = 0 := by unfold nb; simp
attribute [local irreducible] CallOk HOk Run TIok rbin rcmp run1 words val updF shfF blitF pv V40 nb wq tgt rb tlim tgood tval
def tn1 (l : LN) : Tbl := tbL [(111, sNRaw l)] []
theorem tn1_ok : TblOk Try.prog (tn1 lnR) := tbL_ok (by simpa using nraw_ok) (by simp)
set_option maxRecDepth 100000 in
theorem nlimit_ok : CallOk Try.prog 71 (sNLimit lnR) := by
  refine .eval (tb := tn1) hmix ti_ok tn1_ok Try.func71 rfl (by kernel_rfl) (by kernel_rfl) fun xs v ps hs hp => ?_
  unfold sNLimit at hs
  split at hs
  · cases hs
    refine ⟨800, [], _, fun ar lf => by conv => lhs; cbv, allP ?_, .a (.ints fun j _ => ?_)⟩
    · simp only [conj]
      exact ⟨⟨by decide, by decide⟩, trivial⟩
    · show nb (if tgt 545259519 < p2 320 then tgt 545259519 else 0) j = nb tlim j
      rw [tgt_limit, if_pos (Int.lt_trans tlim_lt lim320)]
  · cases hs
def tn2 (l : LN) : Tbl := tbL [(111, sNRaw l), (72, sNZero l), (71, sNLimit l), (73, sNLess l)] []
theorem tn2_ok : TblOk Try.prog (tn2 lnR) := tbL_ok (by simpa using ⟨nraw_ok, nzero_ok, nlimit_ok, nless_ok⟩) (by simp)
theorem vnraw {b : Int} (h0 : 0 ≤ b) (h : tgt b < p2 320) : V40 (lnR.nraw b) = tgt b := by
  show V40 (nb (if _ then _ else _)) = _
  rw [if_pos h, V40_nb (tgt_nonneg h0) h]
theorem vnlim : V40 lnR.nlim = tlim := V40_nb (by unfold tlim; decide +kernel) (Int.lt_trans tlim_lt lim320)
set_option maxRecDepth 100000 in
theorem nexpand_ok : CallOk Try.prog 63 (sNExpand lnR) := by
  refine .evalN (tb := tn2) hmix ti_ok tn2_ok Try.func63 rfl (by kernel_rfl) (by kernel_rfl) (num32_spec_norm (g := fun b => (.tup [N40 (lnR.nexp b), B (lnR.l5.tb b)], [lnR.l5.u32 b])) (fun l => rfl)) fun xs v ps hn hs hp => ?_
  unfold sNExpand at hs
  split at hs
  · rename_i b h
    obtain rfl := num32_int h hn
    cases hs
    have hb : 0 ≤ b ∧ b < 4294967296 := hp (l5R.u32 b) (by simp [lnR])
    clear hp h hn
    have hT0 := tgt_nonneg hb.1
    have hsg : rbin .and .u32 b 8388608 = 8388608 * (b / 8388608 % 2) := rbin32_bit b hb.1 hb.2
    have bad : tgood b = false → (∀ j, j < 40 → (0 : Int) = lnR.nexp b j) ∧ false = lnR.l5.tb b := by
      intro hg
      refine ⟨fun j hj => ?_, hg.symm⟩
      show 0 = nb (tval b) j
      rw [show tval b = 0 by unfold tval; rw [hg]; rfl, nb_zero]
    by_cases hok : tgt b < p2 320
    · have hrb : lnR.nrawB b = true := decide_eq_true hok
      have hv := vnraw hb.1 hok
      by_cases hs : b / 8388608 % 2 = 0
      · have hs0 : rcmp .neq (rbin .and .u32 b 8388608) 0 = false := by rw [rcmp_neq, hsg, hs]; decide
        by_cases hz : tgt b = 0
        · have hzz : lnR.nzero (lnR.nraw b) = true := decide_eq_true (hv.trans hz)
          obtain ⟨b1, b2⟩ := bad (by unfold tgood; exact decide_eq_false (by omega))
          refine ⟨800, [false, false, true], _, fun ar lf => by conv => lhs; cbv, allP ?_, .tup2 (.ints ?_) (.lbool b2)⟩
          simp only [conj]
          exact ⟨hzz, nb_bd _, hs0, congrArg (fun b => !b) hrb, hb, trivial⟩
          exact b1
        · have hzz : lnR.nzero (lnR.nraw b) = false := decide_eq_false (by rw [hv]; exact hz)
          by_cases hl : tlim < tgt b
          · have hcm : lnR.nless lnR.nlim (lnR.nraw b) = true := decide_eq_true (by rw [hv, vnlim]; exact hl)
            obtain ⟨b1, b2⟩ := bad (by unfold tgood; exact decide_eq_false (by omega))
            refine ⟨800, [false, false, false, true], _, fun ar lf => by conv => lhs; cbv, allP ?_, .tup2 (.ints ?_) (.lbool b2)⟩
            simp only [conj]
            exact ⟨hcm, nb_bd _, nb_bd _, hzz, nb_bd _, hs0, congrArg (fun b => !b) hrb, hb, trivial⟩
            exact b1
          · have hcm : lnR.nless lnR.nlim (lnR.nraw b) = false := decide_eq_false (by rw [hv, vnlim]; exact hl)
            have hg : tgood b = true := by unfold tgood; exact decide_eq_true (by omega)
            refine ⟨800, [false, false, false, false], _, fun ar lf => by conv => lhs; cbv, allP ?_, .tup2 (.ints fun j _ => ?_) (.lbool hg.symm)⟩
            · simp only [conj]
              exact ⟨hcm, nb_bd _, nb_bd _, hzz, nb_bd _, hs0, congrArg (fun b => !b) hrb, hb, trivial⟩
            · show nb (if tgt b < p2 320 then tgt b else 0) j = nb (tval b) j
              rw [if_pos hok, show tval b = tgt b by unfold tval; rw [hg]; rfl]
      · have hs0 : rcmp .neq (rbin .and .u32 b 8388608) 0 = true := by rw [rcmp_neq, hsg]; exact decide_eq_true (by omega)
        obtain ⟨b1, b2⟩ := bad (by unfold tgood; exact decide_eq_false (by omega))
        refine ⟨800, [false, true], _, fun ar lf => by conv => lhs; cbv, allP ?_, .tup2 (.ints ?_) (.lbool b2)⟩
        simp only [conj]
        exact ⟨hs0, congrArg (fun b => !b) hrb, hb, trivial⟩
        exact b1
    · have hrb : lnR.nrawB b = false := decide_eq_false hok
      obtain ⟨b1, b2⟩ := bad (by unfold tgood; exact decide_eq_false (by have := tlim_lt; have := lim320; omega))
      refine ⟨800, [true], _, fun ar lf => by conv => lhs; cbv, allP ?_, .tup2 (.ints ?_) (.lbool b2)⟩
      simp only [conj]
      exact ⟨congrArg (fun b => !b) hrb, hb, trivial⟩
      exact b1
  · cases hs
def tn3 (l : LN) : Tbl := tbL [(62, sExpand l.l5), (65, sCompact l.l5)] []
theorem tn3_ok : TblOk Try.prog (tn3 lnR) := tbL_ok (by simpa [lnl5] using ⟨expand_ok, compact_ok⟩) (by simp)
theorem form_ok : CallOk Try.prog 68 (sForm lnR) := by
  refine .evalN (tb := tn3) hmix ti_ok tn3_ok Try.func68 rfl (by kernel_rfl) (by kernel_rfl) (num32_spec_norm (g := fun b => (.a (B (lnR.form b)), [lnR.l5.u32 b])) (fun l => rfl)) fun xs v ps hn hs hp => ?_
  unfold sForm at hs
  split at hs
  · rename_i b h
    obtain rfl := num32_int h hn
    cases hs
    have hb : 0 ≤ b ∧ b < 4294967296 := hp (l5R.u32 b) (by simp [lnR])
    clear hp h hn
    have htv := tval_lt b
    have hvw : val (l5R.tw b) = tval b := val_words_of htv.1 (by have := tlim_lt; omega)
    cases hg : tgood b with
    | true =>
      have hte : l5R.te b = 0 := by show (if tgood b = true then (0 : Int) else 50) = 0; rw [hg]; rfl
      refine ⟨800, [true], _, fun ar lf => by conv => lhs; cbv, allP ?_, .a (.bool ?_)⟩
      · simp only [conj]
        exact ⟨words_bd _, eql_yes hte, hb, trivial⟩
      · show rcmp .eql (cpt (val (l5R.tw b))) b = (tgood b && decide (cpt (tval b) = b))
        rw [hvw, hg, rcmp_eql, Bool.true_and]
    | false =>
      have hte : l5R.te b = 50 := by show (if tgood b = true then (0 : Int) else 50) = 50; rw [hg]; rfl
      refine ⟨800, [false], _, fun ar lf => by conv => lhs; cbv, allP ?_, .a (.lbool ?_)⟩
      · simp only [conj]
        refine ⟨?_, hb, trivial⟩
        show rcmp .eql (l5R.te b) 0 = false
        rw [hte, rcmp_eql]; rfl
      · show false = (tgood b && decide (cpt (tval b) = b))
        rw [hg]; rfl
  · cases hs
end Go.Proofs.Ytegcdnjihnpolaa
