import Derived.Test.YtjiciplcdklfcaaDoorGi
set_option linter.unusedSimpArgs false
set_option linter.unusedVariables false
namespace Go.Proofs.YtjiciplcdklfcaaDoor
open Go Go.Eng Go.Proofs Go.RowKit
attribute [local irreducible] CallOk HOk Run TIok rbin rcmp run1 updF shfF blitF
def tgk (lf : LG5) : Tbl := tbL [(32, sRLay lf.toLG4.toLG3.toLG2.toLG1), (37, sRTake lf.toLG4.toLG3.toLG2.toLG1), (54, sNamed lf)] []
theorem tgk_ok : TblOk Tryd.prog (tgk lg5) := tbL_ok (List.forall_mem_cons.2 ⟨rlay_ok, List.forall_mem_cons.2 ⟨rtake_ok, List.forall_mem_cons.2 ⟨named_ok, nofun⟩⟩⟩) nofun
def sHead (lf : LG5) : ESpec := fun l => match l with
  | [.one (.int .u32 m), .one (.str s)] => some (.tup [.one (.str (lf.hC m s)), .one (.int .i64 (lf.hN m s)), .one (.int .i64 (lf.hE m s))], [lf.layOk m 4, lf.fit s])
  | _ => none
theorem beq_of {a b : ByteArray} {r : Bool} (h : a = b) (hb : (b.data.toList == []) = r) : (a.toList == (⟨⟨[]⟩⟩ : ByteArray).toList) = r := by
  rw [h, Go.Lib.toList_data, Go.Lib.toList_data]; exact hb
attribute [local irreducible] nameB
theorem name_eq (s : ByteArray) : lg5.nameOf (s.extract 4 16) = if okCmd (hdName s) then hdName s else .empty := by
  show nameB (s.extract 4 16) = _
  unfold nameB
  rfl
theorem hC5 : lg5.hC = hdC := rfl
theorem hN5 : lg5.hN = hdN := rfl
theorem hE5 : lg5.hE = hdE := rfl
set_option maxHeartbeats 2000000 in
theorem head_ok : CallOk Tryd.prog 39 (sHead lg5) := by
  refine .of_run (hc := (tgk lg5).hc) Tryd.func39 rfl (by kernel_rfl) (by kernel_rfl) fun xs v ps hs hp w => ?_
  unfold sHead at hs
  split at hs
  · rename_i m s
    cases hs
    have h1 : lg5.layOk m 4 := hp (lg5.layOk m 4) (by simp)
    have h2 : s.size ≤ 9223372036854775807 := hp (lg5.fit s) (by simp)
    clear hp
    rw [hC5, hN5, hE5]
    have hl : s.data.toList.length = s.size := by rw [Array.length_toList]; rfl
    have hyl : (layB m 4).data.toList.length = 4 := by rw [Array.length_toList]; exact lay_len m 4
    refine run_pa hmix ti_ok tgk_ok 0 false 400 [] [1, 7, 8] [8] (fun ar lf => by conv => lhs; cbv) (allP ?_) ?_
    · exact ⟨h1, trivial⟩
    refine Run.loop (ι := {p : Int × ByteArray // (0 ≤ p.1 ∧ p.1 ≤ 4 ∧ p.1 ≤ s.size) ∧ p.2 = layB m 4 ∧ s.data.toList.take p.1.toNat = (layB m 4).data.toList.take p.1.toNat})
      (fun i => ([.any, .a (.one (.str s)), .any, .any, .any, .any, .any, .a (.one (.str i.1.2)), .a (.one (.int .i64 i.1.1)), .any, .any, .any, .any, .any, .any, .any, .any, .any, .any, .any, .any, .any, .any, .any, .any, .any, .any, .any, .any, .any, .any, .any, .any, .any, .any, .any, .any, .any, .any, .any, .any, .any, .any, .any, .any, .any], []))
      (fun i => (4 - i.1.1).toNat) ⟨(0, _), by omega, rfl, by show List.take 0 _ = List.take 0 _; rw [List.take_zero, List.take_zero]⟩ ?_
    rintro ⟨⟨p, y⟩, hp, hy, hpre⟩ ih
    try simp only at hp hy hpre
    by_cases hlt : p < 4 ∧ p < s.size
    · have hk : p.toNat < s.data.toList.length := by omega
      have hk2 : p.toNat < (layB m 4).data.toList.length := by omega
      have e1 : rbin .add .i64 p 1 = p + 1 := addi (by omega) (by omega)
      have hb : (((s[p.toNat]?).getD 0).toNat : Int) = ((s.data.toList[p.toNat]).toNat : Nat) := sb_at hk
      have hb2 : (((y[p.toNat]?).getD 0).toNat : Int) = (((layB m 4).data.toList[p.toNat]).toNat : Nat) := by rw [hy]; exact sb_at hk2
      have hys : (y.size : Int) = 4 := by rw [hy, lay_len]; rfl
      by_cases he : s.data.toList[p.toNat] = (layB m 4).data.toList[p.toNat]
      · have hstep : s.data.toList.take (p + 1).toNat = (layB m 4).data.toList.take (p + 1).toNat := by
          rw [show (p + 1).toNat = p.toNat + 1 by omega, List.take_succ_eq_append_getElem hk, List.take_succ_eq_append_getElem hk2, hpre, he]
        have hee : (s.data.toList[p.toNat]).toNat = ((layB m 4).data.toList[p.toNat]).toNat := by rw [he]
        generalize s.data.toList[p.toNat] = bb at hb hee
        generalize (layB m 4).data.toList[p.toNat] = bc at hb2 hee
        refine run_pa hmix ti_ok tgk_ok 2 true 400 [true, true, false] [1, 7, 8] [8] (fun ar lf => by conv => lhs; cbv) (allP ?_) ?_
        · simp only [conj, and_true, Int.ofNat_eq_natCast, arR, rcmp_lss, rcmp_gtr, rcmp_geq, rcmp_leq, rcmp_eql, rcmp_neq, decide_eq_true_eq, decide_eq_false_iff_not, ne_eq, not_true_eq_false, not_false_eq_true, Int.toNat_natCast, List.length_cons, List.length_nil]
          omega
        · refine ih ⟨(_, _), ?_, hy, ?_⟩ ?_ _ _
          · show 0 ≤ rbin .add .i64 p 1 ∧ rbin .add .i64 p 1 ≤ 4 ∧ rbin .add .i64 p 1 ≤ s.size
            rw [e1]; omega
          · show s.data.toList.take (rbin .add .i64 p 1).toNat = (layB m 4).data.toList.take (rbin .add .i64 p 1).toNat
            rw [e1]; exact hstep
          · show (4 - rbin .add .i64 p 1).toNat < (4 - p).toNat
            rw [e1]; omega
      · have hmag : magB m s = false := by
          unfold magB
          rw [beq_eq_false_iff_ne]
          intro e
          apply he
          have e3 : (s.data.toList.take 4)[p.toNat]? = ((layB m 4).data.toList.take s.size)[p.toNat]? := by rw [e]
          rw [List.getElem?_take, List.getElem?_take, if_pos (by omega), if_pos (by omega), List.getElem?_eq_getElem hk, List.getElem?_eq_getElem hk2] at e3
          exact Option.some.inj e3
        have e : hdE m s = 80 := by unfold hdE; rw [if_pos hmag]
        obtain ⟨x1, x2, x3⟩ := hd_bad (m := m) (s := s) (by rw [e]; decide)
        have hee : (s.data.toList[p.toNat]).toNat ≠ ((layB m 4).data.toList[p.toNat]).toNat := fun h => he (UInt8.toNat_inj.1 h)
        generalize s.data.toList[p.toNat] = bb at hb hee
        generalize (layB m 4).data.toList[p.toNat] = bc at hb2 hee
        refine run_ex hmix ti_ok tgk_ok 999 false 400 [true, true, true] (fun ar lf => by conv => lhs; cbv) (allP ?_) ?_
        · simp only [conj, and_true, Int.ofNat_eq_natCast, arR, rcmp_lss, rcmp_gtr, rcmp_geq, rcmp_leq, rcmp_eql, rcmp_neq, decide_eq_true_eq, decide_eq_false_iff_not, ne_eq, not_true_eq_false, not_false_eq_true, Int.toNat_natCast, List.length_cons, List.length_nil]
          omega
        · exact Run.ret ti_ok rfl rfl (VLe.tup3 (.str x1.symm) (.lit x2.symm) (.lit e.symm))
    · have hmag : magB m s = true := by
        unfold magB
        have hp4 : s.data.toList.take 4 = s.data.toList.take p.toNat := List.take_eq_take_iff.2 (by omega)
        have hp5 : (layB m 4).data.toList.take s.size = (layB m 4).data.toList.take p.toNat := List.take_eq_take_iff.2 (by omega)
        rw [hp4, hp5, hpre]
        exact beq_self_eq_true _
      by_cases h4 : p < 4
      · by_cases h24 : s.size < 24
        · have e : hdE m s = 4 := by unfold hdE; rw [if_neg (by rw [hmag]; simp), if_pos h24]
          obtain ⟨x1, x2, x3⟩ := hd_bad (m := m) (s := s) (by rw [e]; decide)
          refine run_ex hmix ti_ok tgk_ok 999 false 400 [true, false, true] (fun ar lf => by conv => lhs; cbv) (allP ?_) ?_
          · simp only [conj, and_true, Int.ofNat_eq_natCast, arR, rcmp_lss, rcmp_gtr, rcmp_geq, rcmp_leq, rcmp_eql, rcmp_neq, decide_eq_true_eq, decide_eq_false_iff_not, ne_eq, not_true_eq_false, not_false_eq_true, Int.toNat_natCast, List.length_cons, List.length_nil]
            omega
          · exact Run.ret ti_ok rfl rfl (VLe.tup3 (.str x1.symm) (.lit x2.symm) (.lit e.symm))
        have hf := hd_facts hmag h24
        have z16 : (s.extract 4 16).size = 12 := by rw [ByteArray.size_extract]; omega
        have hnm : lg5.nameOf (s.extract 4 16) = if okCmd (hdName s) then hdName s else .empty := name_eq s
        have z20 : 4 ≤ (s.extract 16 20).size ∧ (s.extract 16 20).size ≤ 9223372036854775807 := by rw [ByteArray.size_extract]; omega
        have hr4 := get4_rng (s.extract 16 20)
        cases hc : okCmd (hdName s) with
        | false =>
          rw [if_pos hc] at hf
          rw [if_neg (by rw [hc]; simp)] at hnm
          have nE : (ByteArray.empty.data.toList == []) = true := rfl
          obtain ⟨x1, x2, x3⟩ := hd_bad (m := m) (s := s) (by rw [hf]; decide)
          refine run_ex hmix ti_ok tgk_ok 999 false 400 [true, false, false, true] (fun ar lf => by conv => lhs; cbv) (allP ?_) ?_
          · simp only [conj, and_true, Int.ofNat_eq_natCast, arR, rcmp_lss, rcmp_gtr, rcmp_geq, rcmp_leq, rcmp_eql, rcmp_neq, decide_eq_true_eq, decide_eq_false_iff_not, ne_eq, not_true_eq_false, not_false_eq_true, Int.toNat_natCast, List.length_cons, List.length_nil]
            exact ⟨beq_of hnm nE, z16, by omega, by omega, by omega, by omega⟩
          · exact Run.ret ti_ok rfl rfl (VLe.tup3 (.str x1.symm) (.lit x2.symm) (.lit hf.symm))
        | true =>
          rw [if_neg (by rw [hc]; simp)] at hf
          rw [if_pos hc] at hnm
          have nE : ((hdName s).data.toList == []) = false := by
            have hne := okCmd_size hc
            rw [beq_eq_false_iff_ne]
            intro h
            have h3 : (hdName s).data.toList.length = 0 := by rw [h]; rfl
            rw [Array.length_toList] at h3
            have h4 : (hdName s).size = 0 := h3
            omega
          by_cases hl2 : hdLong s > 16384
          · rw [if_pos hl2] at hf
            obtain ⟨x1, x2, x3⟩ := hd_bad (m := m) (s := s) (by rw [hf]; decide)
            refine run_ex hmix ti_ok tgk_ok 999 false 400 [true, false, false, false, true] (fun ar lf => by conv => lhs; cbv) (allP ?_) ?_
            · simp only [conj, and_true, Int.ofNat_eq_natCast, arR, rcmp_lss, rcmp_gtr, rcmp_geq, rcmp_leq, rcmp_eql, rcmp_neq, decide_eq_true_eq, decide_eq_false_iff_not, ne_eq, not_true_eq_false, not_false_eq_true, Int.toNat_natCast, List.length_cons, List.length_nil]
              exact ⟨hl2, z20, by omega, beq_of hnm nE, z16, by omega, by omega, by omega, by omega⟩
            · exact Run.ret ti_ok rfl rfl (VLe.tup3 (.str x1.symm) (.lit x2.symm) (.lit hf.symm))
          · rw [if_neg hl2] at hf
            obtain ⟨x1, x2, x3⟩ := hd_good hf
            refine run_ex hmix ti_ok tgk_ok 999 false 400 [true, false, false, false, false] (fun ar lf => by conv => lhs; cbv) (allP ?_) ?_
            · simp only [conj, and_true, Int.ofNat_eq_natCast, arR, rcmp_lss, rcmp_gtr, rcmp_geq, rcmp_leq, rcmp_eql, rcmp_neq, decide_eq_true_eq, decide_eq_false_iff_not, ne_eq, not_true_eq_false, not_false_eq_true, Int.toNat_natCast, List.length_cons, List.length_nil]
              exact ⟨hl2, z20, by omega, beq_of hnm nE, z16, by omega, by omega, by omega, by omega⟩
            · refine Run.ret ti_ok rfl rfl (VLe.tup3 (.str (hnm.trans x1.symm)) (.int ?_) (.lit hf.symm))
              show IntKind.i64.wrap (hdLong s) = hdN m s
              rw [x2]
              have hl3 : hdLong s = get4 (s.extract 16 20) := rfl
              exact wrap_id64 (by omega) (by omega)
      · by_cases h24 : s.size < 24
        · have e : hdE m s = 4 := by unfold hdE; rw [if_neg (by rw [hmag]; simp), if_pos h24]
          obtain ⟨x1, x2, x3⟩ := hd_bad (m := m) (s := s) (by rw [e]; decide)
          refine run_ex hmix ti_ok tgk_ok 999 false 400 [false, true] (fun ar lf => by conv => lhs; cbv) (allP ?_) ?_
          · simp only [conj, and_true, Int.ofNat_eq_natCast, arR, rcmp_lss, rcmp_gtr, rcmp_geq, rcmp_leq, rcmp_eql, rcmp_neq, decide_eq_true_eq, decide_eq_false_iff_not, ne_eq, not_true_eq_false, not_false_eq_true, Int.toNat_natCast, List.length_cons, List.length_nil]
            omega
          · exact Run.ret ti_ok rfl rfl (VLe.tup3 (.str x1.symm) (.lit x2.symm) (.lit e.symm))
        have hf := hd_facts hmag h24
        have z16 : (s.extract 4 16).size = 12 := by rw [ByteArray.size_extract]; omega
        have hnm : lg5.nameOf (s.extract 4 16) = if okCmd (hdName s) then hdName s else .empty := name_eq s
        have z20 : 4 ≤ (s.extract 16 20).size ∧ (s.extract 16 20).size ≤ 9223372036854775807 := by rw [ByteArray.size_extract]; omega
        have hr4 := get4_rng (s.extract 16 20)
        cases hc : okCmd (hdName s) with
        | false =>
          rw [if_pos hc] at hf
          rw [if_neg (by rw [hc]; simp)] at hnm
          have nE : (ByteArray.empty.data.toList == []) = true := rfl
          obtain ⟨x1, x2, x3⟩ := hd_bad (m := m) (s := s) (by rw [hf]; decide)
          refine run_ex hmix ti_ok tgk_ok 999 false 400 [false, false, true] (fun ar lf => by conv => lhs; cbv) (allP ?_) ?_
          · simp only [conj, and_true, Int.ofNat_eq_natCast, arR, rcmp_lss, rcmp_gtr, rcmp_geq, rcmp_leq, rcmp_eql, rcmp_neq, decide_eq_true_eq, decide_eq_false_iff_not, ne_eq, not_true_eq_false, not_false_eq_true, Int.toNat_natCast, List.length_cons, List.length_nil]
            exact ⟨beq_of hnm nE, z16, by omega, by omega, by omega⟩
          · exact Run.ret ti_ok rfl rfl (VLe.tup3 (.str x1.symm) (.lit x2.symm) (.lit hf.symm))
        | true =>
          rw [if_neg (by rw [hc]; simp)] at hf
          rw [if_pos hc] at hnm
          have nE : ((hdName s).data.toList == []) = false := by
            have hne := okCmd_size hc
            rw [beq_eq_false_iff_ne]
            intro h
            have h3 : (hdName s).data.toList.length = 0 := by rw [h]; rfl
            rw [Array.length_toList] at h3
            have h4 : (hdName s).size = 0 := h3
            omega
          by_cases hl2 : hdLong s > 16384
          · rw [if_pos hl2] at hf
            obtain ⟨x1, x2, x3⟩ := hd_bad (m := m) (s := s) (by rw [hf]; decide)
            refine run_ex hmix ti_ok tgk_ok 999 false 400 [false, false, false, true] (fun ar lf => by conv => lhs; cbv) (allP ?_) ?_
            · simp only [conj, and_true, Int.ofNat_eq_natCast, arR, rcmp_lss, rcmp_gtr, rcmp_geq, rcmp_leq, rcmp_eql, rcmp_neq, decide_eq_true_eq, decide_eq_false_iff_not, ne_eq, not_true_eq_false, not_false_eq_true, Int.toNat_natCast, List.length_cons, List.length_nil]
              exact ⟨hl2, z20, by omega, beq_of hnm nE, z16, by omega, by omega, by omega⟩
            · exact Run.ret ti_ok rfl rfl (VLe.tup3 (.str x1.symm) (.lit x2.symm) (.lit hf.symm))
          · rw [if_neg hl2] at hf
            obtain ⟨x1, x2, x3⟩ := hd_good hf
            refine run_ex hmix ti_ok tgk_ok 999 false 400 [false, false, false, false] (fun ar lf => by conv => lhs; cbv) (allP ?_) ?_
            · simp only [conj, and_true, Int.ofNat_eq_natCast, arR, rcmp_lss, rcmp_gtr, rcmp_geq, rcmp_leq, rcmp_eql, rcmp_neq, decide_eq_true_eq, decide_eq_false_iff_not, ne_eq, not_true_eq_false, not_false_eq_true, Int.toNat_natCast, List.length_cons, List.length_nil]
              exact ⟨hl2, z20, by omega, beq_of hnm nE, z16, by omega, by omega, by omega⟩
            · refine Run.ret ti_ok rfl rfl (VLe.tup3 (.str (hnm.trans x1.symm)) (.int ?_) (.lit hf.symm))
              show IntKind.i64.wrap (hdLong s) = hdN m s
              rw [x2]
              have hl3 : hdLong s = get4 (s.extract 16 20) := rfl
              exact wrap_id64 (by omega) (by omega)
  · cases hs
end Go.Proofs.YtjiciplcdklfcaaDoor
