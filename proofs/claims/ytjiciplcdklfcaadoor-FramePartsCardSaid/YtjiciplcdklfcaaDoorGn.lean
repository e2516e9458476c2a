import Derived.Test.YtjiciplcdklfcaaDoorGk
set_option linter.unusedSimpArgs false
set_option linter.unusedVariables false
namespace Go.Eng
open Go
theorem VLe.tup5 {a b c d e a' b' c' d' e' : A} (h1 : ALe a a') (h2 : ALe b b') (h3 : ALe c c') (h4 : ALe d d') (h5 : ALe e e') : VLe (.tup [a, b, c, d, e]) (.tup [a', b', c', d', e']) := by
  rintro ρ u ⟨arr, e, hs, h⟩
  refine ⟨arr, e, hs, fun j x hx => ?_⟩
  match j with
  | 0 => simp at hx; subst hx; obtain ⟨v, a1, a2⟩ := h 0 _ rfl; exact ⟨v, a1, h1 ρ _ a2⟩
  | 1 => simp at hx; subst hx; obtain ⟨v, a1, a2⟩ := h 1 _ rfl; exact ⟨v, a1, h2 ρ _ a2⟩
  | 2 => simp at hx; subst hx; obtain ⟨v, a1, a2⟩ := h 2 _ rfl; exact ⟨v, a1, h3 ρ _ a2⟩
  | 3 => simp at hx; subst hx; obtain ⟨v, a1, a2⟩ := h 3 _ rfl; exact ⟨v, a1, h4 ρ _ a2⟩
  | 4 => simp at hx; subst hx; obtain ⟨v, a1, a2⟩ := h 4 _ rfl; exact ⟨v, a1, h5 ρ _ a2⟩
  | j + 5 => simp at hx
theorem feed_held {h s : ByteArray} {b : Int} (hh : h.size ≤ 32816) : (feedH h b s).size ≤ 32816 := by
  unfold feedH
  split
  · exact hh
  · rename_i hb
    rw [ByteArray.size_append, ByteArray.size_extract]
    unfold feedN
    rw [if_neg hb]
    omega
theorem next_held {m : Int} {h : ByteArray} {b t : Int} (hh : h.size ≤ 32816) : (nextF m h b t).h.size ≤ 32816 := by
  unfold nextF
  split
  · exact hh
  split
  · show (h.extract _ _).size ≤ _
    rw [ByteArray.size_extract]; omega
  split
  · exact hh
  split
  · show (h.extract _ _).size ≤ _
    rw [ByteArray.size_extract]; omega
  · show (0 : Nat) ≤ _; omega
end Go.Eng
namespace Go.Proofs.YtjiciplcdklfcaaDoor
open Go Go.Eng Go.Proofs Go.RowKit
attribute [local irreducible] CallOk HOk Run TIok rbin rcmp run1 updF shfF blitF
def tgo (lf : LG5) : Tbl := tbL [(39, sHead lf), (15, nP (sRDec lf))] []
theorem tgo_ok : TblOk Tryd.prog (tgo lg5) := tbL_ok (List.forall_mem_cons.2 ⟨head_ok, List.forall_mem_cons.2 ⟨rdec_ok.nP, nofun⟩⟩) nofun
attribute [local irreducible] hdE hdC hdN hdS deE deC deP deTo sumV
def sRFeed (lf : LG5) : ESpec := fun l => match l with
  | [.agg (.lst [.int .u32 m, .str h, .int .i64 b, .int .i64 t]), .one (.str s)] => some (.tup [.agg (.lst [.int .u32 m, .str (lf.fdH h b s), .int .i64 b, .int .i64 t]), .one (.int .i64 (lf.fdN h b s))], [lf.held h, lf.fit s])
  | _ => none
set_option maxHeartbeats 1000000 in
theorem rfeed_ok : CallOk Tryd.prog 22 (sRFeed lg5) := by
  refine .of_run (hc := (tgo lg5).hc) Tryd.func22 rfl (by kernel_rfl) (by kernel_rfl) fun xs v ps hs hp w => ?_
  unfold sRFeed at hs
  split at hs
  · rename_i m h b t s
    cases hs
    have hh : h.size ≤ 32816 := hp (lg5.held h) (by simp)
    have hz : s.size ≤ 9223372036854775807 := hp (lg5.fit s) (by simp)
    clear hp
    by_cases hb : b = 0
    · subst hb
      have f1 : rbin .sub .i64 32816 (h.size : Nat) = 32816 - (h.size : Nat) := subi (by omega) (by omega)
      have g1 : feedN h 0 s = min (s.size : Int) (32816 - h.size) := if_neg (by simp)
      have g2 : feedH h 0 s = h ++ s.extract 0 (feedN h 0 s).toNat := if_neg (by simp)
      have hsz : (s.extract 0 (feedN h 0 s).toNat).size ≤ 32816 := by rw [ByteArray.size_extract, g1]; omega
      by_cases hc : (32816 - (h.size : Nat) : Int) > s.size
      · have g3 : feedN h 0 s = (s.size : Nat) := by rw [g1]; omega
        refine run_ex hmix ti_ok tgo_ok 999 false 400 [false, true] (fun ar lf => by conv => lhs; cbv) (allP ?_) ?_
        · simp only [conj, and_true, Int.ofNat_eq_natCast, arR, rcmp_lss, rcmp_gtr, rcmp_geq, rcmp_leq, rcmp_eql, rcmp_neq, decide_eq_true_eq, decide_eq_false_iff_not, ne_eq, not_true_eq_false, not_false_eq_true, Int.toNat_natCast, List.length_cons, List.length_nil]
          rw [g3, Int.toNat_natCast] at hsz
          rw [f1]
          have hsz' : (s.extract (Int.toNat 0) s.size).size ≤ 32816 := hsz
          exact ⟨by omega, by omega, hc⟩
        · refine Run.ret ti_ok rfl rfl (VLe.tup2 (ALe.lst ⟨.int rfl, .str ?_, .int rfl, .int rfl, trivial⟩) (.int ?_))
          · show h ++ s.extract 0 ((s.size : Nat) : Int).toNat = feedH h 0 s
            rw [g2, g3]
          · exact g3.symm
      · have g3 : feedN h 0 s = rbin .sub .i64 32816 (h.size : Nat) := by rw [g1, f1]; omega
        refine run_ex hmix ti_ok tgo_ok 999 false 400 [false, false] (fun ar lf => by conv => lhs; cbv) (allP ?_) ?_
        · simp only [conj, and_true, Int.ofNat_eq_natCast, arR, rcmp_lss, rcmp_gtr, rcmp_geq, rcmp_leq, rcmp_eql, rcmp_neq, decide_eq_true_eq, decide_eq_false_iff_not, ne_eq, not_true_eq_false, not_false_eq_true, Int.toNat_natCast, List.length_cons, List.length_nil]
          rw [g3] at hsz
          have hsz' : (s.extract (Int.toNat 0) (rbin .sub .i64 32816 (h.size : Nat)).toNat).size ≤ 32816 := hsz
          exact ⟨by omega, by omega, by rw [f1]; exact hc⟩
        · refine Run.ret ti_ok rfl rfl (VLe.tup2 (ALe.lst ⟨.int rfl, .str ?_, .int rfl, .int rfl, trivial⟩) (.int ?_))
          · show h ++ s.extract 0 (rbin .sub .i64 32816 (h.size : Nat)).toNat = feedH h 0 s
            rw [g2, g3]
          · exact g3.symm
    · have e1 : lg5.fdN h b s = 0 := if_pos hb
      have e2 : lg5.fdH h b s = h := if_pos hb
      rw [e1, e2]
      refine run_ex hmix ti_ok tgo_ok 999 false 400 [true] (fun ar lf => by conv => lhs; cbv) (allP ?_) ?_
      · simp only [conj, and_true, Int.ofNat_eq_natCast, arR, rcmp_lss, rcmp_gtr, rcmp_geq, rcmp_leq, rcmp_eql, rcmp_neq, decide_eq_true_eq, decide_eq_false_iff_not, ne_eq, not_true_eq_false, not_false_eq_true, Int.toNat_natCast, List.length_cons, List.length_nil]
        exact hb
      · exact Run.ret ti_ok rfl rfl (VLe.tup2 (ALe.lst ⟨.int rfl, .str rfl, .int rfl, .int rfl, trivial⟩) (.lit rfl))
  · cases hs
def sRNeed (lf : LG5) : ESpec := fun l => match l with
  | [.agg (.lst [.int .u32 m, .str h, .int .i64 b, .int .i64 t])] => some (.a (.one (.int .i64 (lf.need m h b))), [lf.held h, lf.layOk m 4])
  | _ => none
theorem need5 : lg5.need = needF := rfl
theorem nx5 : lg5.nx = nextF := rfl
set_option maxHeartbeats 1000000 in
theorem rneed_ok : CallOk Tryd.prog 40 (sRNeed lg5) := by
  refine .of_run (hc := (tgo lg5).hc) Tryd.func40 rfl (by kernel_rfl) (by kernel_rfl) fun xs v ps hs hp w => ?_
  unfold sRNeed at hs
  split at hs
  · rename_i m h b t
    cases hs
    have hh : h.size ≤ 32816 := hp (lg5.held h) (by simp)
    have h1 : lg5.layOk m 4 := hp (lg5.layOk m 4) (by simp)
    clear hp
    rw [need5]
    have hf : lg5.fit h := by show h.size ≤ 9223372036854775807; omega
    have hr := hdN_rng m h
    by_cases hb : b = 0
    · subst hb
      have f2 : rbin .sub .i64 (h.size : Nat) 24 = (h.size : Nat) - 24 := subi (by omega) (by omega)
      by_cases h4 : hdE m h = 4
      · have e : needF m h 0 = 24 - h.size := by unfold needF; rw [if_neg (by simp), if_neg (by rw [h4]; decide), if_pos h4]
        refine run_ex hmix ti_ok tgo_ok 999 false 400 [false, true] (fun ar lf => by conv => lhs; cbv) (allP ?_) ?_
        · simp only [conj, and_true, Int.ofNat_eq_natCast, arR, rcmp_lss, rcmp_gtr, rcmp_geq, rcmp_leq, rcmp_eql, rcmp_neq, decide_eq_true_eq, decide_eq_false_iff_not, ne_eq, not_true_eq_false, not_false_eq_true, Int.toNat_natCast, List.length_cons, List.length_nil]
          exact ⟨h4, h1, hf⟩
        · refine Run.ret ti_ok rfl rfl (.a (.int ?_))
          show rbin .sub .i64 24 (h.size : Nat) = needF m h 0
          rw [e]; exact subi (by omega) (by omega)
      · by_cases h0 : hdE m h = 0
        · have e : needF m h 0 = max 0 (24 + hdN m h - h.size) := by unfold needF; rw [if_neg (by simp), if_pos h0]
          by_cases hc : (h.size : Nat) - 24 ≥ hdN m h
          · refine run_ex hmix ti_ok tgo_ok 999 false 400 [false, false, false, true] (fun ar lf => by conv => lhs; cbv) (allP ?_) ?_
            · simp only [conj, and_true, Int.ofNat_eq_natCast, arR, rcmp_lss, rcmp_gtr, rcmp_geq, rcmp_leq, rcmp_eql, rcmp_neq, decide_eq_true_eq, decide_eq_false_iff_not, ne_eq, not_true_eq_false, not_false_eq_true, Int.toNat_natCast, List.length_cons, List.length_nil]
              exact ⟨(by rw [f2]; exact hc : rbin .sub .i64 (h.size : Nat) 24 ≥ hdN m h), fun h => h h0, h4, h1, hf⟩
            · refine Run.ret ti_ok rfl rfl (.a (.lit ?_))
              show 0 = needF m h 0
              rw [e]; omega
          · refine run_ex hmix ti_ok tgo_ok 999 false 400 [false, false, false, false] (fun ar lf => by conv => lhs; cbv) (allP ?_) ?_
            · simp only [conj, and_true, Int.ofNat_eq_natCast, arR, rcmp_lss, rcmp_gtr, rcmp_geq, rcmp_leq, rcmp_eql, rcmp_neq, decide_eq_true_eq, decide_eq_false_iff_not, ne_eq, not_true_eq_false, not_false_eq_true, Int.toNat_natCast, List.length_cons, List.length_nil]
              exact ⟨(by rw [f2]; exact hc : ¬ rbin .sub .i64 (h.size : Nat) 24 ≥ hdN m h), fun h => h h0, h4, h1, hf⟩
            · refine Run.ret ti_ok rfl rfl (.a (.int ?_))
              show rbin .sub .i64 (hdN m h) (rbin .sub .i64 (h.size : Nat) 24) = needF m h 0
              rw [e, f2, subi (by omega) (by omega)]; omega
        · have e : needF m h 0 = 0 := by unfold needF; rw [if_neg (by simp), if_neg h0, if_neg h4]
          refine run_ex hmix ti_ok tgo_ok 999 false 400 [false, false, true] (fun ar lf => by conv => lhs; cbv) (allP ?_) ?_
          · simp only [conj, and_true, Int.ofNat_eq_natCast, arR, rcmp_lss, rcmp_gtr, rcmp_geq, rcmp_leq, rcmp_eql, rcmp_neq, decide_eq_true_eq, decide_eq_false_iff_not, ne_eq, not_true_eq_false, not_false_eq_true, Int.toNat_natCast, List.length_cons, List.length_nil]
            exact ⟨h0, h4, h1, hf⟩
          · refine Run.ret ti_ok rfl rfl (.a (.lit ?_))
            exact e.symm
    · have e : needF m h b = 0 := if_pos hb
      refine run_ex hmix ti_ok tgo_ok 999 false 400 [true] (fun ar lf => by conv => lhs; cbv) (allP ?_) ?_
      · simp only [conj, and_true, Int.ofNat_eq_natCast, arR, rcmp_lss, rcmp_gtr, rcmp_geq, rcmp_leq, rcmp_eql, rcmp_neq, decide_eq_true_eq, decide_eq_false_iff_not, ne_eq, not_true_eq_false, not_false_eq_true, Int.toNat_natCast, List.length_cons, List.length_nil]
        exact hb
      · exact Run.ret ti_ok rfl rfl (.a (.lit e.symm))
  · cases hs
def sRNext (lf : LG5) : ESpec := fun l => match l with
  | [.agg (.lst [.int .u32 m, .str h, .int .i64 b, .int .i64 t])] => some (.tup [.agg (.lst [.int .u32 m, .str (lf.nx m h b t).h, .int .i64 (lf.nx m h b t).b, .int .i64 (lf.nx m h b t).t]), .one (.str (lf.nx m h b t).c), .one (.str (lf.nx m h b t).p), .one (.bool (lf.nx m h b t).ok), .one (.int .i64 (lf.nx m h b t).e)], [lf.held h, lf.layOk m 4])
  | _ => none
set_option maxHeartbeats 2000000 in
theorem rnext_ok : CallOk Tryd.prog 25 (sRNext lg5) := by
  refine .of_run (hc := (tgo lg5).hc) Tryd.func25 rfl (by kernel_rfl) (by kernel_rfl) fun xs v ps hs hp w => ?_
  unfold sRNext at hs
  split at hs
  · rename_i m h b t
    cases hs
    have hh : h.size ≤ 32816 := hp (lg5.held h) (by simp)
    have h1 : lg5.layOk m 4 := hp (lg5.layOk m 4) (by simp)
    clear hp
    rw [nx5]
    have hf : lg5.fit h := by show h.size ≤ 9223372036854775807; omega
    have hr := hdN_rng m h
    obtain ⟨k1, k2, k3⟩ := deE_head (m := m) (s := h)
    by_cases hb : b = 0
    · subst hb
      have e : nextF m h 0 t = if deE m h 0 = 0 then ⟨deC m h 0, deP m h 0, true, 0, h.extract (deTo m h 0).toNat h.size, 0, rbin .add .i64 t 1⟩
          else if deE m h 0 = 4 then ⟨.empty, .empty, false, 0, h, 0, t⟩
          else if deE m h 0 = 83 then ⟨.empty, .empty, false, 83, h.extract (24 + hdN m h).toNat h.size, 0, t⟩
          else ⟨.empty, .empty, false, deE m h 0, .empty, deE m h 0, t⟩ := by
        unfold nextF
        rw [if_neg (by simp)]
      have f2 : rbin .sub .i64 (h.size : Nat) 24 = (h.size : Nat) - 24 := subi (by omega) (by omega)
      have f3 : rbin .add .i64 24 (hdN m h) = 24 + hdN m h := addi (by omega) (by omega)
      by_cases h4 : hdE m h = 4
      · have d4 : deE m h 0 = 4 := by
          unfold deE
          rw [if_neg (by omega), deT0, if_pos (by rw [h4]; decide), h4]
        rw [if_neg (by rw [d4]; decide), if_pos d4] at e
        rw [e]
        refine run_ex hmix ti_ok tgo_ok 999 false 400 [false, true] (fun ar lf => by conv => lhs; cbv) (allP ?_) ?_
        · simp only [conj, and_true, Int.ofNat_eq_natCast, arR, rcmp_lss, rcmp_gtr, rcmp_geq, rcmp_leq, rcmp_eql, rcmp_neq, decide_eq_true_eq, decide_eq_false_iff_not, ne_eq, not_true_eq_false, not_false_eq_true, Int.toNat_natCast, List.length_cons, List.length_nil]
          exact ⟨h4, h1, hf⟩
        · exact Run.ret ti_ok rfl rfl (VLe.tup5 (ALe.lst ⟨.int rfl, .str rfl, .int rfl, .int rfl, trivial⟩) (.str rfl) (.str rfl) (.lbool rfl) (.lit rfl))
      by_cases h0 : hdE m h = 0
      · by_cases hc : (h.size : Nat) - 24 < hdN m h
        · have d4 : deE m h 0 = 4 := by
            unfold deE
            rw [if_neg (by omega), deT0, if_neg (by rw [h0]; simp), if_pos (by omega)]
          rw [if_neg (by rw [d4]; decide), if_pos d4] at e
          rw [e]
          refine run_ex hmix ti_ok tgo_ok 999 false 400 [false, false, true, true] (fun ar lf => by conv => lhs; cbv) (allP ?_) ?_
          · simp only [conj, and_true, Int.ofNat_eq_natCast, arR, rcmp_lss, rcmp_gtr, rcmp_geq, rcmp_leq, rcmp_eql, rcmp_neq, decide_eq_true_eq, decide_eq_false_iff_not, ne_eq, not_true_eq_false, not_false_eq_true, Int.toNat_natCast, List.length_cons, List.length_nil]
            exact ⟨(by rw [f2]; exact hc : rbin .sub .i64 (h.size : Nat) 24 < hdN m h), h0, h4, h1, hf⟩
          · exact Run.ret ti_ok rfl rfl (VLe.tup5 (ALe.lst ⟨.int rfl, .str rfl, .int rfl, .int rfl, trivial⟩) (.str rfl) (.str rfl) (.lbool rfl) (.lit rfl))
        · have h24 : 24 + hdN m h ≤ h.size ∧ deE m h 0 ≠ 4 := by
            have h24' : 24 ≤ h.size := by
              refine Nat.not_lt.1 fun hl => ?_
              unfold hdE at h0
              split at h0
              · cases h0
              · cases h0
            refine ⟨by omega, ?_⟩
            unfold deE
            rw [if_neg (by omega), deT0, if_neg (by rw [h0]; simp), if_neg (by omega)]
            split <;> decide
          by_cases d0 : deE m h 0 = 0
          · have hto : deTo m h 0 = 24 + hdN m h := by unfold deTo; rw [if_pos d0, deT0]; omega
            rw [if_pos d0, hto, ← f3] at e
            rw [e]
            refine run_ex hmix ti_ok tgo_ok 999 false 400 [false, false, true, false, false, false] (fun ar lf => by conv => lhs; cbv) (allP ?_) ?_
            · simp only [conj, and_true, Int.ofNat_eq_natCast, arR, rcmp_lss, rcmp_gtr, rcmp_geq, rcmp_leq, rcmp_eql, rcmp_neq, decide_eq_true_eq, decide_eq_false_iff_not, ne_eq, not_true_eq_false, not_false_eq_true, Int.toNat_natCast, List.length_cons, List.length_nil]
              exact ⟨fun h => h d0, (by rw [f3]; omega : 0 ≤ rbin .add .i64 24 (hdN m h) ∧ rbin .add .i64 24 (hdN m h) ≤ (h.size : Nat)), h1, hf, fun h => h h0, (by rw [f2]; exact hc : ¬ rbin .sub .i64 (h.size : Nat) 24 < hdN m h), h0, h4, h1, hf⟩
            · exact Run.ret ti_ok rfl rfl (VLe.tup5 (ALe.lst ⟨.int rfl, .str rfl, .int rfl, .int rfl, trivial⟩) (.str rfl) (.str rfl) (.lbool rfl) (.lit rfl))
          · have d83 : deE m h 0 = 83 := by
              by_cases d : deE m h 0 = 83
              · exact d
              · exact absurd ((k3 d0 h24.2 d).symm.trans h0) d0
            rw [if_neg d0, if_neg h24.2, if_pos d83, ← f3] at e
            rw [e]
            refine run_ex hmix ti_ok tgo_ok 999 false 400 [false, false, true, false, false, true] (fun ar lf => by conv => lhs; cbv) (allP ?_) ?_
            · simp only [conj, and_true, Int.ofNat_eq_natCast, arR, rcmp_lss, rcmp_gtr, rcmp_geq, rcmp_leq, rcmp_eql, rcmp_neq, decide_eq_true_eq, decide_eq_false_iff_not, ne_eq, not_true_eq_false, not_false_eq_true, Int.toNat_natCast, List.length_cons, List.length_nil]
              exact ⟨d0, (by rw [f3]; omega : 0 ≤ rbin .add .i64 24 (hdN m h) ∧ rbin .add .i64 24 (hdN m h) ≤ (h.size : Nat)), h1, hf, fun h => h h0, (by rw [f2]; exact hc : ¬ rbin .sub .i64 (h.size : Nat) 24 < hdN m h), h0, h4, h1, hf⟩
            · exact Run.ret ti_ok rfl rfl (VLe.tup5 (ALe.lst ⟨.int rfl, .str rfl, .int rfl, .int rfl, trivial⟩) (.str rfl) (.str rfl) (.lbool rfl) (.int d83))
      · have dE : deE m h 0 = hdE m h := by
          unfold deE
          rw [if_neg (by omega), deT0, if_pos h0]
        have n83 : hdE m h ≠ 83 := by
          unfold hdE
          split
          · decide
          split
          · decide
          split
          · decide
          split <;> decide
        rw [if_neg (by rw [dE]; exact h0), if_neg (by rw [dE]; exact h4), if_neg (by rw [dE]; exact n83), dE] at e
        rw [e]
        refine run_ex hmix ti_ok tgo_ok 999 false 400 [false, false, false, true] (fun ar lf => by conv => lhs; cbv) (allP ?_) ?_
        · simp only [conj, and_true, Int.ofNat_eq_natCast, arR, rcmp_lss, rcmp_gtr, rcmp_geq, rcmp_leq, rcmp_eql, rcmp_neq, decide_eq_true_eq, decide_eq_false_iff_not, ne_eq, not_true_eq_false, not_false_eq_true, Int.toNat_natCast, List.length_cons, List.length_nil]
          exact ⟨h0, h0, h4, h1, hf⟩
        · exact Run.ret ti_ok rfl rfl (VLe.tup5 (ALe.lst ⟨.int rfl, .str rfl, .int rfl, .int rfl, trivial⟩) (.str rfl) (.str rfl) (.lbool rfl) (.int rfl))
    · have e : nextF m h b t = ⟨.empty, .empty, false, b, h, b, t⟩ := if_pos hb
      rw [e]
      refine run_ex hmix ti_ok tgo_ok 999 false 400 [true] (fun ar lf => by conv => lhs; cbv) (allP ?_) ?_
      · simp only [conj, and_true, Int.ofNat_eq_natCast, arR, rcmp_lss, rcmp_gtr, rcmp_geq, rcmp_leq, rcmp_eql, rcmp_neq, decide_eq_true_eq, decide_eq_false_iff_not, ne_eq, not_true_eq_false, not_false_eq_true, Int.toNat_natCast, List.length_cons, List.length_nil]
        exact hb
      · exact Run.ret ti_ok rfl rfl (VLe.tup5 (ALe.lst ⟨.int rfl, .str rfl, .int rfl, .int rfl, trivial⟩) (.str rfl) (.str rfl) (.lbool rfl) (.int rfl))
  · cases hs
end Go.Proofs.YtjiciplcdklfcaaDoor
