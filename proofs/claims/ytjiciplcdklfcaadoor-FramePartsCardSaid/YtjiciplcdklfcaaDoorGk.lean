import Derived.Test.YtjiciplcdklfcaaDoorGj
set_option linter.unusedSimpArgs false
set_option linter.unusedVariables false
namespace Go.Eng
open Go
theorem VLe.tup4 {a b c d a' b' c' d' : A} (h1 : ALe a a') (h2 : ALe b b') (h3 : ALe c c') (h4 : ALe d d') : VLe (.tup [a, b, c, d]) (.tup [a', b', c', d']) := by
  rintro ρ u ⟨arr, e, hs, h⟩
  refine ⟨arr, e, hs, fun j x hx => ?_⟩
  match j with
  | 0 => simp at hx; subst hx; obtain ⟨v, a1, a2⟩ := h 0 a rfl; exact ⟨v, a1, h1 ρ _ a2⟩
  | 1 => simp at hx; subst hx; obtain ⟨v, a1, a2⟩ := h 1 b rfl; exact ⟨v, a1, h2 ρ _ a2⟩
  | 2 => simp at hx; subst hx; obtain ⟨v, a1, a2⟩ := h 2 c rfl; exact ⟨v, a1, h3 ρ _ a2⟩
  | 3 => simp at hx; subst hx; obtain ⟨v, a1, a2⟩ := h 3 d rfl; exact ⟨v, a1, h4 ρ _ a2⟩
  | j + 4 => simp at hx
end Go.Eng
namespace Go.Proofs.YtjiciplcdklfcaaDoor
open Go Go.Eng Go.Proofs Go.RowKit
attribute [local irreducible] CallOk HOk Run TIok rbin rcmp run1 updF shfF blitF
def tgl (lf : LG5) : Tbl := tbL [(39, sHead lf), (13, sSumF lf.toLG4.toLG3.toLG2.toLG1), (37, sRTake lf.toLG4.toLG3.toLG2.toLG1)] []
theorem tgl_ok : TblOk Tryd.prog (tgl lg5) := tbL_ok (List.forall_mem_cons.2 ⟨head_ok, List.forall_mem_cons.2 ⟨rsumf_ok, List.forall_mem_cons.2 ⟨rtake_ok, nofun⟩⟩⟩) nofun
def sRDec (lf : LG5) : ESpec := fun l => match l with
  | [.one (.int .u32 m), .one (.str s), .one (.int .i64 a)] => some (.tup [.one (.str (lf.dC m s a)), .one (.str (lf.dP m s a)), .one (.int .i64 (lf.dTo m s a)), .one (.int .i64 (lf.dE m s a))], [lf.layOk m 4, lf.fit s])
  | _ => none
theorem dC5 : lg5.dC = deC := rfl
theorem dP5 : lg5.dP = deP := rfl
theorem dTo5 : lg5.dTo = deTo := rfl
theorem dE5 : lg5.dE = deE := rfl
attribute [local irreducible] hdE hdC hdN hdS deE deC deP deTo sumV
set_option maxHeartbeats 2000000 in
theorem rdec_ok : CallOk Tryd.prog 15 (sRDec lg5) := by
  refine .of_run (hc := (tgl lg5).hc) Tryd.func15 rfl (by kernel_rfl) (by kernel_rfl) fun xs v ps hs hp w => ?_
  unfold sRDec at hs
  split at hs
  · rename_i m s a
    cases hs
    have h1 : lg5.layOk m 4 := hp (lg5.layOk m 4) (by simp)
    have h2 : s.size ≤ 9223372036854775807 := hp (lg5.fit s) (by simp)
    clear hp
    rw [dC5, dP5, dTo5, dE5]
    have bad : ∀ n : Int, deE m s a = n → n ≠ 0 → deC m s a = .empty ∧ deP m s a = .empty ∧ deTo m s a = 0 := fun n h h' => by
      refine ⟨?_, ?_, ?_⟩
      · unfold deC; rw [if_neg (by rw [h]; exact h')]
      · unfold deP; rw [if_neg (by rw [h]; exact h')]
      · unfold deTo; rw [if_neg (by rw [h]; exact h')]
    by_cases ha0 : a < 0
    · have e : deE m s a = 1 := by unfold deE; rw [if_pos (.inl ha0)]
      obtain ⟨e1, e2, e3⟩ := bad _ e (by decide)
      refine run_ex hmix ti_ok tgl_ok 999 false 400 [true, true] (fun ar lf => by conv => lhs; cbv) (allP ?_) ?_
      · simp only [conj, and_true, Int.ofNat_eq_natCast, arR, rcmp_lss, rcmp_gtr, rcmp_geq, rcmp_leq, rcmp_eql, rcmp_neq, decide_eq_true_eq, decide_eq_false_iff_not, ne_eq, not_true_eq_false, not_false_eq_true, Int.toNat_natCast, List.length_cons, List.length_nil]
        omega
      · exact Run.ret ti_ok rfl rfl (VLe.tup4 (.str e1.symm) (.str e2.symm) (.lit e3.symm) (.lit e.symm))
    by_cases ha1 : a > s.size
    · have e : deE m s a = 1 := by unfold deE; rw [if_pos (.inr ha1)]
      obtain ⟨e1, e2, e3⟩ := bad _ e (by decide)
      refine run_ex hmix ti_ok tgl_ok 999 false 400 [false, true] (fun ar lf => by conv => lhs; cbv) (allP ?_) ?_
      · simp only [conj, and_true, Int.ofNat_eq_natCast, arR, rcmp_lss, rcmp_gtr, rcmp_geq, rcmp_leq, rcmp_eql, rcmp_neq, decide_eq_true_eq, decide_eq_false_iff_not, ne_eq, not_true_eq_false, not_false_eq_true, Int.toNat_natCast, List.length_cons, List.length_nil]
        omega
      · exact Run.ret ti_ok rfl rfl (VLe.tup4 (.str e1.symm) (.str e2.symm) (.lit e3.symm) (.lit e.symm))
    have hE : deE m s a = if hdE m (deT s a) ≠ 0 then hdE m (deT s a) else if (s.size : Int) - (a + 24) < hdN m (deT s a) then 4 else if sumV (dePay m s a) ≠ hdS m (deT s a) then 83 else 0 := by
      unfold deE; rw [if_neg (by omega)]
    have hts : (deT s a).size = s.size - a.toNat := by unfold deT; rw [ByteArray.size_extract]; omega
    have f1 : lg5.fit (deT s a) := by show (deT s a).size ≤ 9223372036854775807; omega
    have hr := hdN_rng m (deT s a)
    by_cases hh : hdE m (deT s a) = 0
    · rw [if_neg (by rw [hh]; simp)] at hE
      have h24 : 24 ≤ (deT s a).size := by
        refine Nat.not_lt.1 fun h => ?_
        unfold hdE at hh
        split at hh
        · cases hh
        · cases hh
      have g2 : rbin .sub .i64 ((deT s a).size : Nat) 24 = ((deT s a).size : Nat) - 24 := subi (by omega) (by omega)
      have g3 : rbin .add .i64 24 (hdN m (deT s a)) = 24 + hdN m (deT s a) := addi (by omega) (by omega)
      have hS : hdS m (deT s a) = get4 ((deT s a).extract 20 24) := (hd_good hh).2.2
      by_cases hc : (s.size : Int) - (a + 24) < hdN m (deT s a)
      · rw [if_pos hc] at hE
        obtain ⟨e1, e2, e3⟩ := bad _ hE (by decide)
        refine run_ex hmix ti_ok tgl_ok 999 false 400 [false, false, false, true] (fun ar lf => by conv => lhs; cbv) (allP ?_) ?_
        · simp only [conj, and_true, Int.ofNat_eq_natCast, arR, rcmp_lss, rcmp_gtr, rcmp_geq, rcmp_leq, rcmp_eql, rcmp_neq, decide_eq_true_eq, decide_eq_false_iff_not, ne_eq, not_true_eq_false, not_false_eq_true, Int.toNat_natCast, List.length_cons, List.length_nil]
          exact ⟨(by rw [g2]; omega : rbin .sub .i64 ((deT s a).size : Nat) 24 < hdN m (deT s a)), fun h => h hh, h1, f1, by omega, ha1, ha0⟩
        · exact Run.ret ti_ok rfl rfl (VLe.tup4 (.str e1.symm) (.str e2.symm) (.lit e3.symm) (.lit hE.symm))
      rw [if_neg hc] at hE
      have hpay : (deT s a).extract 24 (24 + hdN m (deT s a)).toNat = dePay m s a := by
        unfold dePay
        congr 1
        omega
      have hps : (dePay m s a).size ≤ 16384 := by
        unfold dePay; rw [ByteArray.size_extract]; omega
      have hto : rbin .add .i64 (rbin .add .i64 a 24) (hdN m (deT s a)) = a + 24 + hdN m (deT s a) := by
        rw [addi (x := a) (y := 24) (by omega) (by omega)]; exact addi (by omega) (by omega)
      have z24 : 4 ≤ ((deT s a).extract 20 24).size ∧ ((deT s a).extract 20 24).size ≤ 9223372036854775807 := by rw [ByteArray.size_extract]; omega
      by_cases hsm : sumV (dePay m s a) = hdS m (deT s a)
      · rw [if_neg (fun h => h hsm)] at hE
        have e1 : deC m s a = hdC m (deT s a) := by unfold deC; rw [if_pos hE]
        have e2 : deP m s a = dePay m s a := by unfold deP; rw [if_pos hE]
        have e3 : deTo m s a = a + 24 + hdN m (deT s a) := by unfold deTo; rw [if_pos hE]
        refine run_ex hmix ti_ok tgl_ok 999 false 400 [false, false, false, false, false] (fun ar lf => by conv => lhs; cbv) (allP ?_) ?_
        · simp only [conj, and_true, Int.ofNat_eq_natCast, arR, rcmp_lss, rcmp_gtr, rcmp_geq, rcmp_leq, rcmp_eql, rcmp_neq, decide_eq_true_eq, decide_eq_false_iff_not, ne_eq, not_true_eq_false, not_false_eq_true, Int.toNat_natCast, List.length_cons, List.length_nil]
          have big : ¬¬(sumV ((deT s a).extract 24 (rbin .add .i64 24 (hdN m (deT s a))).toNat) = get4 ((deT s a).extract 20 24)) ∧ ((deT s a).extract 24 (rbin .add .i64 24 (hdN m (deT s a))).toNat).size ≤ 140737488355328 ∧ (0 ≤ (24 : Int) ∧ (24 : Int) ≤ (((rbin .add .i64 24 (hdN m (deT s a))).toNat : Nat) : Int)) ∧ (0 ≤ rbin .add .i64 24 (hdN m (deT s a)) ∧ rbin .add .i64 24 (hdN m (deT s a)) ≤ ((deT s a).size : Nat)) ∧ ¬ (rbin .sub .i64 ((deT s a).size : Nat) 24 < hdN m (deT s a)) := by
            rw [g3, g2, hpay, ← hS]
            exact ⟨fun h => h hsm, by omega, by omega, by omega, by omega⟩
          obtain ⟨y1, y2, y3, y4, y5⟩ := big
          exact ⟨y1, z24, (by omega : (0 : Int) ≤ 24 ∧ (24 : Int) ≤ ((deT s a).size : Nat)), y2, y3, y4, y5, fun h => h hh, h1, f1, by omega, ha1, ha0⟩
        · refine Run.ret ti_ok rfl rfl (VLe.tup4 (.str e1.symm) (.str ?_) (.int ?_) (.lit hE.symm))
          · show (deT s a).extract 24 (rbin .add .i64 24 (hdN m (deT s a))).toNat = deP m s a
            rw [e2, g3, hpay]
          · show rbin .add .i64 (rbin .add .i64 a 24) (hdN m (deT s a)) = deTo m s a
            rw [e3, hto]
      · rw [if_pos hsm] at hE
        obtain ⟨e1, e2, e3⟩ := bad _ hE (by decide)
        refine run_ex hmix ti_ok tgl_ok 999 false 400 [false, false, false, false, true] (fun ar lf => by conv => lhs; cbv) (allP ?_) ?_
        · simp only [conj, and_true, Int.ofNat_eq_natCast, arR, rcmp_lss, rcmp_gtr, rcmp_geq, rcmp_leq, rcmp_eql, rcmp_neq, decide_eq_true_eq, decide_eq_false_iff_not, ne_eq, not_true_eq_false, not_false_eq_true, Int.toNat_natCast, List.length_cons, List.length_nil]
          have big : ¬(sumV ((deT s a).extract 24 (rbin .add .i64 24 (hdN m (deT s a))).toNat) = get4 ((deT s a).extract 20 24)) ∧ ((deT s a).extract 24 (rbin .add .i64 24 (hdN m (deT s a))).toNat).size ≤ 140737488355328 ∧ (0 ≤ (24 : Int) ∧ (24 : Int) ≤ (((rbin .add .i64 24 (hdN m (deT s a))).toNat : Nat) : Int)) ∧ (0 ≤ rbin .add .i64 24 (hdN m (deT s a)) ∧ rbin .add .i64 24 (hdN m (deT s a)) ≤ ((deT s a).size : Nat)) ∧ ¬ (rbin .sub .i64 ((deT s a).size : Nat) 24 < hdN m (deT s a)) := by
            rw [g3, g2, hpay, ← hS]
            exact ⟨hsm, by omega, by omega, by omega, by omega⟩
          obtain ⟨y1, y2, y3, y4, y5⟩ := big
          exact ⟨y1, z24, (by omega : (0 : Int) ≤ 24 ∧ (24 : Int) ≤ ((deT s a).size : Nat)), y2, y3, y4, y5, fun h => h hh, h1, f1, by omega, ha1, ha0⟩
        · exact Run.ret ti_ok rfl rfl (VLe.tup4 (.str e1.symm) (.str e2.symm) (.lit e3.symm) (.lit hE.symm))
    · rw [if_pos hh] at hE
      obtain ⟨e1, e2, e3⟩ := bad _ hE hh
      refine run_ex hmix ti_ok tgl_ok 999 false 400 [false, false, true] (fun ar lf => by conv => lhs; cbv) (allP ?_) ?_
      · simp only [conj, and_true, Int.ofNat_eq_natCast, arR, rcmp_lss, rcmp_gtr, rcmp_geq, rcmp_leq, rcmp_eql, rcmp_neq, decide_eq_true_eq, decide_eq_false_iff_not, ne_eq, not_true_eq_false, not_false_eq_true, Int.toNat_natCast, List.length_cons, List.length_nil]
        exact ⟨hh, h1, f1, by omega, ha1, ha0⟩
      · exact Run.ret ti_ok rfl rfl (VLe.tup4 (.str e1.symm) (.str e2.symm) (.lit e3.symm) (.int hE.symm))
  · cases hs
def tgm (lf : LG5) : Tbl := tbL [(11, sFCmd lf.toLG4.toLG3.toLG2.toLG1.toLG0), (13, sSumF lf.toLG4.toLG3.toLG2.toLG1), (32, sRLay lf.toLG4.toLG3.toLG2.toLG1)] []
theorem tgm_ok : TblOk Tryd.prog (tgm lg5) := tbL_ok (List.forall_mem_cons.2 ⟨rfcmd_ok, List.forall_mem_cons.2 ⟨rsumf_ok, List.forall_mem_cons.2 ⟨rlay_ok, nofun⟩⟩⟩) nofun
def sREnc (lf : LG5) : ESpec := fun l => match l with
  | [.one (.int .u32 m), .one (.str c), .one (.str p)] => some (.tup [.one (.str (lf.enT m (.pair (.str c) (.str p)))), .one (.int .i64 (lf.enE (.pair (.str c) (.str p))))], [lf.layOk m 4, lf.fit c, lf.fit p])
  | _ => none
set_option maxHeartbeats 2000000 in
theorem renc_ok : CallOk Tryd.prog 8 (sREnc lg5) := by
  refine .of_run (hc := (tgm lg5).hc) Tryd.func8 rfl (by kernel_rfl) (by kernel_rfl) fun xs v ps hs hp w => ?_
  unfold sREnc at hs
  split at hs
  · rename_i m c p
    cases hs
    have h1 : lg5.layOk m 4 := hp (lg5.layOk m 4) (by simp)
    have hc : c.size ≤ 9223372036854775807 := hp (lg5.fit c) (by simp)
    have hpp : p.size ≤ 9223372036854775807 := hp (lg5.fit p) (by simp)
    clear hp
    have eT : lg5.enT m (.pair (.str c) (.str p)) = enT m c p := rfl
    have eE : lg5.enE (.pair (.str c) (.str p)) = enE c p := rfl
    rw [eT, eE]
    cases hk : okCmd c with
    | false =>
      have e : enE c p = 81 := if_pos hk
      have e2 : enT m c p = .empty := if_neg (by rw [e]; decide)
      refine run_ex hmix ti_ok tgm_ok 999 false 400 [true] (fun ar lf => by conv => lhs; cbv) (allP ?_) ?_
      · simp only [conj, and_true, Int.ofNat_eq_natCast, arR, rcmp_lss, rcmp_gtr, rcmp_geq, rcmp_leq, rcmp_eql, rcmp_neq, decide_eq_true_eq, decide_eq_false_iff_not, ne_eq, not_true_eq_false, not_false_eq_true, Int.toNat_natCast, List.length_cons, List.length_nil]
        exact ⟨congrArg Bool.not hk, hc⟩
      · exact Run.ret ti_ok rfl rfl (VLe.tup2 (.str e2.symm) (.lit e.symm))
    | true =>
      have hc12 := okCmd_size hk
      by_cases hl : p.size > 16384
      · have e : enE c p = 82 := by unfold enE; rw [if_neg (by rw [hk]; simp), if_pos hl]
        have e2 : enT m c p = .empty := if_neg (by rw [e]; decide)
        refine run_ex hmix ti_ok tgm_ok 999 false 400 [false, true] (fun ar lf => by conv => lhs; cbv) (allP ?_) ?_
        · simp only [conj, and_true, Int.ofNat_eq_natCast, arR, rcmp_lss, rcmp_gtr, rcmp_geq, rcmp_leq, rcmp_eql, rcmp_neq, decide_eq_true_eq, decide_eq_false_iff_not, ne_eq, not_true_eq_false, not_false_eq_true, Int.toNat_natCast, List.length_cons, List.length_nil]
          exact ⟨by omega, congrArg Bool.not hk, hc⟩
        · exact Run.ret ti_ok rfl rfl (VLe.tup2 (.str e2.symm) (.lit e.symm))
      · have e : enE c p = 0 := by unfold enE; rw [if_neg (by rw [hk]; simp), if_neg hl]
        have e2 : enT m c p = enB m c p := if_pos e
        refine run_pa hmix ti_ok tgm_ok 0 false 400 [false, false] [0, 2, 8] [8] (fun ar lf => by conv => lhs; cbv) (allP ?_) ?_
        · simp only [conj, and_true, Int.ofNat_eq_natCast, arR, rcmp_lss, rcmp_gtr, rcmp_geq, rcmp_leq, rcmp_eql, rcmp_neq, decide_eq_true_eq, decide_eq_false_iff_not, ne_eq, not_true_eq_false, not_false_eq_true, Int.toNat_natCast, List.length_cons, List.length_nil]
          exact ⟨by omega, congrArg Bool.not hk, hc⟩
        refine Run.loop (ι := {p : Int × ByteArray // (c.size ≤ p.1 ∧ p.1 ≤ 12) ∧ p.2 = c ++ zerosB (p.1 - c.size)})
          (fun i => ([.a (.one (.int .u32 m)), .any, .a (.one (.str p)), .any, .any, .any, .any, .any, .a (.one (.str i.1.2)), .any, .any, .any, .any, .any, .any, .any, .any, .any, .any, .any, .any, .any, .any, .any, .any, .any, .any, .any, .any, .any, .any, .any, .any, .any, .any, .any], []))
          (fun i => (12 - i.1.1).toNat) ⟨(c.size, c), by omega, by rw [Int.sub_self]; exact (ByteArray.append_empty).symm⟩ ?_
        rintro ⟨⟨n, x⟩, hn, hx⟩ ih
        try simp only at hn hx
        have hzs : (zerosB (n - c.size)).size = (n - c.size).toNat := by
          show (List.replicate (n - c.size).toNat (0 : UInt8)).toArray.size = _
          rw [List.size_toArray, List.length_replicate]
        have hxs : (x.size : Int) = n := by rw [hx, ByteArray.size_append, hzs]; omega
        by_cases hlt : n < 12
        · have hnext : x ++ ⟨⟨[0]⟩⟩ = c ++ zerosB (n + 1 - c.size) := by
            rw [hx]
            apply ba_eq
            rw [app_list, app_list, app_list, List.append_assoc]
            congr 1
            show (List.replicate (n - c.size).toNat (0 : UInt8)).toArray.toList ++ [0] = (List.replicate (n + 1 - c.size).toNat (0 : UInt8)).toArray.toList
            rw [show (n + 1 - c.size).toNat = (n - c.size).toNat + 1 by omega, List.replicate_succ']
          refine run_pa hmix ti_ok tgm_ok 2 true 400 [true] [0, 2, 8] [8] (fun ar lf => by conv => lhs; cbv) (allP ?_) ?_
          · simp only [conj, and_true, Int.ofNat_eq_natCast, arR, rcmp_lss, rcmp_gtr, rcmp_geq, rcmp_leq, rcmp_eql, rcmp_neq, decide_eq_true_eq, decide_eq_false_iff_not, ne_eq, not_true_eq_false, not_false_eq_true, Int.toNat_natCast, List.length_cons, List.length_nil]
            have e1 : (⟨⟨[0]⟩⟩ : ByteArray).size = 1 := rfl
            rw [e1]
            omega
          · refine ih ⟨(n + 1, _), ?_, hnext⟩ ?_ _ _
            · show c.size ≤ n + 1 ∧ n + 1 ≤ 12
              omega
            · show (12 - (n + 1)).toNat < (12 - n).toNat
              omega
        · have h12 : n = 12 := by omega
          have hsl := sum_lay p
          have gw : IntKind.u32.wrap (p.size : Nat) = (p.size : Nat) := by show ((p.size : Nat) : Int) % 4294967296 = _; omega
          refine run_ex hmix ti_ok tgm_ok 999 false 400 [false] (fun ar lf => by conv => lhs; cbv) (allP ?_) ?_
          · simp only [conj, and_true, Int.ofNat_eq_natCast, arR, rcmp_lss, rcmp_gtr, rcmp_geq, rcmp_leq, rcmp_eql, rcmp_neq, decide_eq_true_eq, decide_eq_false_iff_not, ne_eq, not_true_eq_false, not_false_eq_true, Int.toNat_natCast, List.length_cons, List.length_nil]
            have x12 : x.size = 12 := by omega
            have b2 : (layB m 4 ++ x).size = 16 := by rw [ByteArray.size_append, lay_len, x12]
            have b3 : ((layB m 4 ++ x) ++ layB (IntKind.u32.wrap (p.size : Nat)) 4).size = 20 := by rw [ByteArray.size_append, b2, lay_len]
            have b4 : (((layB m 4 ++ x) ++ layB (IntKind.u32.wrap (p.size : Nat)) 4) ++ layB (sumV p) 4).size = 24 := by rw [ByteArray.size_append, b3, lay_len]
            exact ⟨(by rw [b4]; omega : (((((layB m 4 ++ x) ++ layB (IntKind.u32.wrap (p.size : Nat)) 4) ++ layB (sumV p) 4).size + p.size : Nat) : Int) ≤ 9223372036854775807), (by rw [b3, lay_len]; decide : ((((layB m 4 ++ x) ++ layB (IntKind.u32.wrap (p.size : Nat)) 4).size + (layB (sumV p) 4).size : Nat) : Int) ≤ 9223372036854775807), (⟨hsl.1, Int.lt_trans hsl.2 (by decide), by decide, by decide⟩ : laR.layOk (sumV p) 4), (by omega : p.size ≤ 140737488355328), (by rw [b2, lay_len]; decide : (((layB m 4 ++ x).size + (layB (IntKind.u32.wrap (p.size : Nat)) 4).size : Nat) : Int) ≤ 9223372036854775807), (by rw [gw]; exact ⟨by omega, by omega, by decide, by decide⟩ : laR.layOk (IntKind.u32.wrap (p.size : Nat)) 4), (by rw [lay_len, x12]; decide : (((layB m 4).size + x.size : Nat) : Int) ≤ 9223372036854775807), h1, by omega⟩
          · refine Run.ret ti_ok rfl rfl (VLe.tup2 (.str ?_) (.lit e.symm))
            rw [e2]
            show ((((layB m 4 ++ x) ++ layB (IntKind.u32.wrap (p.size : Nat)) 4) ++ layB (sumV p) 4) ++ p) = enB m c p
            unfold enB
            rw [gw, hx, h12]
  · cases hs
end Go.Proofs.YtjiciplcdklfcaaDoor
