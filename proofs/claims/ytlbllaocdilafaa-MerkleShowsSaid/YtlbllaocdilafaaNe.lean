import Derived.Test.YtlbllaocdilafaaNd
import Derived.Test.YtlbllaocdilafaaMu
import Derived.Test.YtlbllaocdilafaaMo
set_option linter.unusedSimpArgs false
set_option linter.unusedVariables false
namespace Go.Eng
open Go
theorem sameB_self (xs : List D) : sameB xs xs = true := by
  unfold sameB
  simp
theorem pt_hash {L ms : List D} : ∀ {l a : Nat}, posIn L ms l a → ∀ d ∈ (pt L ms l a).2, isHash d := by
  intro l
  induction l with
  | zero =>
    intro a h d hd
    simp only [pt, List.mem_singleton] at hd
    subst hd
    exact (posIn_facts h).2.2.2.2.2.1
  | succ l ih =>
    intro a h d hd
    obtain ⟨h1, h2⟩ := posIn_left h
    simp only [pt] at hd
    split at hd
    · split at hd
      · rename_i hr
        simp only [List.mem_append] at hd
        rcases hd with hd | hd
        · exact ih h1 d hd
        · exact ih (h2 hr) d hd
      · exact ih h1 d hd
    · simp only [List.mem_singleton] at hd
      subst hd
      exact (posIn_facts h).2.2.2.2.2.1
theorem row_hash {ids : List D} (hi : ∀ d ∈ ids, isHash d) (i : Nat) : isHash (rowD (arR.dRow (ids.getD i (.int 0)))) := by
  refine rowD_hash fun j hj => ?_
  by_cases h : i < ids.length
  · rw [List.getD_eq_getElem?_getD, List.getElem?_eq_getElem h]
    obtain ⟨l, h1, h2, h3⟩ := hi _ (List.getElem_mem h)
    show 0 ≤ (D.row! (ids[i])).getD j 0 ∧ (D.row! (ids[i])).getD j 0 < 256
    rw [h1]
    show 0 ≤ l.getD j 0 ∧ l.getD j 0 < 256
    rw [List.getD_eq_getElem?_getD, List.getElem?_eq_getElem (by omega)]
    exact h3 _ (List.getElem_mem _)
  · rw [List.getD_eq_getElem?_getD, List.getElem?_eq_none (by omega)]
    show 0 ≤ ([] : List Int).getD j 0 ∧ ([] : List Int).getD j 0 < 256
    simp
theorem leaf_hash {ids : List D} (hi : ∀ d ∈ ids, isHash d) (a : Int) (m : Bool) (s : Rd) (h : ∀ d ∈ s.me, isHash d) : ∀ d ∈ (leafI ids a m s).1.me, isHash d := by
  have hz : isHash (rowD fun _ => 0) := rowD_hash fun j _ => by simp
  unfold leafI
  split
  · simp only
    split
    · intro d hd
      rcases List.mem_append.1 hd with hd | hd
      · exact h d hd
      · simp only [List.mem_singleton] at hd; subst hd; exact hz
    · exact h
  · simp only
    split
    · intro d hd
      rcases List.mem_append.1 hd with hd | hd
      · exact h d hd
      · simp only [List.mem_singleton] at hd; subst hd; exact row_hash hi _
    · exact h
theorem rdI_hash {bits ids ws : List D} (hi : ∀ d ∈ ids, isHash d) (l : Nat) : ∀ (a : Int) (s : Rd), (∀ d ∈ s.me, isHash d) → ∀ d ∈ (rdI bits ids ws l a s).1.me, isHash d := by
  induction l with
  | zero =>
    intro a s h
    unfold rdI
    split
    · exact h
    · exact leaf_hash hi _ _ _ h
  | succ l ih =>
    intro a s h
    unfold rdI
    split
    · exact h
    · split
      · have h1 := ih (2 * a) ⟨s.b + 1, s.i, s.pl, s.me, s.bad⟩ h
        generalize rdI bits ids ws l (2 * a) ⟨s.b + 1, s.i, s.pl, s.me, s.bad⟩ = x at *
        simp only
        split
        · exact h1
        · exact ih (2 * a + 1) x.1 h1
      · exact leaf_hash hi _ _ _ h
theorem rdA_HL {bits ids : List D} {cnt : Int} (hi : ∀ d ∈ ids, isHash d) (h : cnt ≤ 65536) : HL (rdA bits ids cnt).1.me ∧ (rdA bits ids cnt).1.pl.length ≤ 65536 := by
  have hd16 : dep cnt.toNat ≤ 16 := dep_le 16 _ (by omega)
  have hpw : 2 ^ dep cnt.toNat ≤ 65536 := Nat.le_trans (Nat.pow_le_pow_right (by decide) hd16) (by decide)
  obtain ⟨-, -, h1, h2⟩ := rdI_facts bits ids (wsL cnt.toNat) (dep cnt.toNat) 0 ⟨0, 0, [], [], false⟩
  simp only [List.length_nil, Nat.zero_add] at h1 h2
  refine ⟨⟨?_, rdI_hash hi _ _ _ (by simp)⟩, ?_⟩
  · show (rdI _ _ _ _ _ _).1.me.length ≤ _
    omega
  · show (rdI _ _ _ _ _ _).1.pl.length ≤ _
    omega
end Go.Eng
namespace Go.Proofs.Ytlbllaocdilafaa
open Go Go.Eng Go.Proofs Go.RowKit
attribute [local irreducible] CallOk HOk Run TIok rbin rcmp run1 updF shfF blitF
def sLaw3 (lf : LW) : ESpec := fun l => match l with
  | [.one (.dat (.arr .u8 32) xs none), .one (.dat .bool ms none), .agg (.lst [.int .i64 cnt, .dat .bool bits none, .dat (.arr .u8 32) ids none])] => some (.a (.one (.bool true)), [lf.hs xs, lf.hl2 ids, lf.longOk bits ids])
  | _ => none
def tbe (lf : LW) : Tbl := tbL [(10, sFew lf.toLN), (28, sPart lf.toLR), (14, sAwake lf.toLN), (13, sGiven2 lf), (29, sRPt lf), (17, sSame lf.toLN), (30, sBits lf.toLQ), (31, sRead lf), (32, sRRead lf)] []
theorem tbe_ok : TblOk Try.prog (tbe lwR) := tbL_ok (List.forall_mem_cons.2 ⟨few_ok, List.forall_mem_cons.2 ⟨part_ok, List.forall_mem_cons.2 ⟨awake_ok6, List.forall_mem_cons.2 ⟨given2_ok, List.forall_mem_cons.2 ⟨rpt_ok, List.forall_mem_cons.2 ⟨same_ok, List.forall_mem_cons.2 ⟨bits_ok, List.forall_mem_cons.2 ⟨mread_ok, List.forall_mem_cons.2 ⟨rRead_ok, nofun⟩⟩⟩⟩⟩⟩⟩⟩⟩) nofun
set_option maxRecDepth 100000 in
set_option maxHeartbeats 4000000 in
theorem parts_ok : CallOk Try.prog 5 (sLaw3 lwR) := by
  refine .of_run (hc := (tbe lwR).hc) Try.func5 rfl (by kernel_rfl) (by kernel_rfl) fun xs v ps hs hp w => ?_
  unfold sLaw3 at hs
  split at hs
  · rename_i xs ms cnt bits ids
    cases hs
    have hx : ∀ d ∈ xs, isHash d := hp (lwR.hs xs) (by simp)
    have hids : ids.length ≤ 4398046511104 ∧ ∀ d ∈ ids, isHash d := hp (lwR.hl2 ids) (by simp)
    have hlong : bits.length ≤ 9223372036854775807 ∧ ids.length ≤ 9223372036854775807 := hp (lwR.longOk bits ids) (by simp)
    clear hp
    have hy := HL_take hx
    have hyl : (xs.take 300).length ≤ 300 := by rw [List.length_take]; omega
    have hylen : HL (xs.take 300) ∧ (xs.take 300).length ≤ 65536 := ⟨hy, by omega⟩
    have hxl : (xs.take 300).length ≤ 140737488355328 := by omega
    have hg2 : (xs.take 300).length ≤ 4398046511104 ∧ ∀ d ∈ xs.take 300, isHash d := ⟨by omega, hy.2⟩
    have hids2 := hids.2
    have hy2 := hy.2
    have hRf : rdB bits ids cnt → HL (rdA bits ids cnt).1.me ∧ (rdA bits ids cnt).1.pl.length ≤ 65536 := fun h => rdA_HL hids.2 h.2.1
    by_cases hR : rdB bits ids cnt
    · obtain ⟨hme, hpl⟩ := hRf hR
      by_cases h0 : (xs.take 300).length = 0
      · have hok : ¬ partOk (xs.take 300) ms := fun h => by have := h.1; omega
        refine run_pa hmix ti_ok tbe_ok 0 false 1000 [false, true, false, false, false, false, false, false, false, false, false] [11, 14, 147, 148] [148] (fun ar lf => by conv => lhs; cbv) (allP ?_) ?_
        · simp only [if_neg hok, if_pos hR, conj, and_true, Int.ofNat_eq_natCast, arR, lwR, luR, lsR', lrR, lqR, loR, lnR, lkR, rcmp_lss, rcmp_gtr, rcmp_geq, rcmp_eql, rcmp_neq, decide_eq_true_eq, decide_eq_false_iff_not, List.length_nil, maxLen, same_self, sameB_self, beq_self_eq_true, Bool.not_true, Bool.not_false, List.nil_append, ne_eq, not_true_eq_false, not_false_eq_true, decide_true, decide_false]
          ((repeat' with_reducible apply And.intro) <;> first | omega | assumption | rfl | trivial)
        have hPl : (lwR.rdP bits ids cnt).length ≤ 65536 := by
          have e : lwR.rdP bits ids cnt = (rdA bits ids cnt).1.pl := if_pos hR
          rw [e]; exact (hRf hR).2
        refine Run.loop (ι := {p : Int × List D × List D × Int // (0 ≤ p.1 ∧ p.1 ≤ p.2.1.length) ∧ p.2.2.1 = p.2.1 ∧ p.2.2.2 = p.2.1.length ∧ p.2.1.length ≤ 65536})
          (fun i => ([.any, .any, .any, .any, .any, .any, .any, .any, .any, .any, .any, .a (.one (.dat (.int .i64) i.1.2.1 none)), .any, .any, .a (.one (.dat (.int .i64) i.1.2.2.1 none)), .any, .any, .any, .any, .any, .any, .any, .any, .any, .any, .any, .any, .any, .any, .any, .any, .any, .any, .any, .any, .any, .any, .any, .any, .any, .any, .any, .any, .any, .any, .any, .any, .any, .any, .any, .any, .any, .any, .any, .any, .any, .any, .any, .any, .any, .any, .any, .any, .any, .any, .any, .any, .any, .any, .any, .any, .any, .any, .any, .any, .any, .any, .any, .any, .any, .any, .any, .any, .any, .any, .any, .any, .any, .any, .any, .any, .any, .any, .any, .any, .any, .any, .any, .any, .any, .any, .any, .any, .any, .any, .any, .any, .any, .any, .any, .any, .any, .any, .any, .any, .any, .any, .any, .any, .any, .any, .any, .any, .any, .any, .any, .any, .any, .any, .any, .any, .any, .any, .any, .any, .any, .any, .any, .any, .any, .any, .any, .any, .any, .any, .any, .any, .a (.one (.int .i64 i.1.2.2.2)), .a (.one (.int .i64 i.1.1)), .any, .any, .any, .any, .any, .any, .any, .any, .any, .any, .any, .any], []))
          (fun i => (i.1.2.1.length - i.1.1).toNat) ⟨(0, lwR.rdP bits ids cnt, lwR.rdP bits ids cnt, (lwR.rdP bits ids cnt).length), by simp only; omega, rfl, rfl, hPl⟩ ?_
        rintro ⟨⟨k, A, B, n⟩, hk, hA, hn, hAl⟩ ih
        simp only at hk hA hn hAl
        subst B
        have e1 : rbin .add .i64 k 1 = k + 1 := addi (by omega) (by omega)
        by_cases hlt : k < A.length
        · refine run_pa hmix ti_ok tbe_ok 2 true 400 [true, false] [11, 14, 147, 148] [148] (fun ar lf => by conv => lhs; cbv) (allP ?_) ?_
          · simp only [hn, conj, and_true, arR, Int.ofNat_eq_natCast, rcmp_lss, rcmp_neq, decide_eq_true_eq, decide_eq_false_iff_not, ne_eq, not_true_eq_false, not_false_eq_true]
            ((repeat' with_reducible apply And.intro) <;> first | omega | assumption | rfl | trivial)
          · refine ih ⟨(_, _, _, _), ?_⟩ ?_ _ _
            · simp only [arR, e1]
              exact ⟨by omega, trivial, hn, hAl⟩
            · show ((A.length : Int) - rbin .add .i64 k 1).toNat < ((A.length : Int) - k).toNat
              rw [e1]; omega
        · refine run_ex hmix ti_ok tbe_ok 999 false 400 [false] (fun ar lf => by conv => lhs; cbv) (allP ?_) ?_
          · simp only [hn, conj, and_true, arR, Int.ofNat_eq_natCast, rcmp_lss, decide_eq_false_iff_not]
            omega
          · exact Run.ret ti_ok rfl rfl (.a (.lbool rfl))
      by_cases h1 : ms.length = (xs.take 300).length
      · have hok : partOk (xs.take 300) ms := ⟨by omega, h1⟩
        obtain ⟨d1, d2, d3⟩ := pow_dep hy (by omega) (by omega)
        have hpi := posIn_top hy (by omega) (by omega) h1
        have hpl := pt_len (lvls (xs.take 300)) ms ((lvls (xs.take 300)).length - 1) 0
        have hpw : 2 ^ ((lvls (xs.take 300)).length - 1 + 1) = 2 ^ ((lvls (xs.take 300)).length - 1) + 2 ^ ((lvls (xs.take 300)).length - 1) := by rw [Nat.pow_succ]; omega
        have hpt : HL (pt (lvls (xs.take 300)) ms ((lvls (xs.take 300)).length - 1) 0).2 := ⟨by omega, pt_hash hpi⟩
        refine run_pa hmix ti_ok tbe_ok 0 false 1000 [false, false, false, false, false, false, false, false, false, false, false, false] [11, 14, 147, 148] [148] (fun ar lf => by conv => lhs; cbv) (allP ?_) ?_
        · simp only [if_pos hok, if_pos hR, conj, and_true, Int.ofNat_eq_natCast, arR, lwR, luR, lsR', lrR, lqR, loR, lnR, lkR, rcmp_lss, rcmp_gtr, rcmp_geq, rcmp_eql, rcmp_neq, decide_eq_true_eq, decide_eq_false_iff_not, List.length_nil, maxLen, same_self, sameB_self, beq_self_eq_true, Bool.not_true, Bool.not_false, List.nil_append, ne_eq, not_true_eq_false, not_false_eq_true, decide_true, decide_false]
          ((repeat' with_reducible apply And.intro) <;> first | omega | assumption | rfl | trivial)
        have hPl : (lwR.rdP bits ids cnt).length ≤ 65536 := by
          have e : lwR.rdP bits ids cnt = (rdA bits ids cnt).1.pl := if_pos hR
          rw [e]; exact (hRf hR).2
        refine Run.loop (ι := {p : Int × List D × List D × Int // (0 ≤ p.1 ∧ p.1 ≤ p.2.1.length) ∧ p.2.2.1 = p.2.1 ∧ p.2.2.2 = p.2.1.length ∧ p.2.1.length ≤ 65536})
          (fun i => ([.any, .any, .any, .any, .any, .any, .any, .any, .any, .any, .any, .a (.one (.dat (.int .i64) i.1.2.1 none)), .any, .any, .a (.one (.dat (.int .i64) i.1.2.2.1 none)), .any, .any, .any, .any, .any, .any, .any, .any, .any, .any, .any, .any, .any, .any, .any, .any, .any, .any, .any, .any, .any, .any, .any, .any, .any, .any, .any, .any, .any, .any, .any, .any, .any, .any, .any, .any, .any, .any, .any, .any, .any, .any, .any, .any, .any, .any, .any, .any, .any, .any, .any, .any, .any, .any, .any, .any, .any, .any, .any, .any, .any, .any, .any, .any, .any, .any, .any, .any, .any, .any, .any, .any, .any, .any, .any, .any, .any, .any, .any, .any, .any, .any, .any, .any, .any, .any, .any, .any, .any, .any, .any, .any, .any, .any, .any, .any, .any, .any, .any, .any, .any, .any, .any, .any, .any, .any, .any, .any, .any, .any, .any, .any, .any, .any, .any, .any, .any, .any, .any, .any, .any, .any, .any, .any, .any, .any, .any, .any, .any, .any, .any, .any, .a (.one (.int .i64 i.1.2.2.2)), .a (.one (.int .i64 i.1.1)), .any, .any, .any, .any, .any, .any, .any, .any, .any, .any, .any, .any], []))
          (fun i => (i.1.2.1.length - i.1.1).toNat) ⟨(0, lwR.rdP bits ids cnt, lwR.rdP bits ids cnt, (lwR.rdP bits ids cnt).length), by simp only; omega, rfl, rfl, hPl⟩ ?_
        rintro ⟨⟨k, A, B, n⟩, hk, hA, hn, hAl⟩ ih
        simp only at hk hA hn hAl
        subst B
        have e1 : rbin .add .i64 k 1 = k + 1 := addi (by omega) (by omega)
        by_cases hlt : k < A.length
        · refine run_pa hmix ti_ok tbe_ok 2 true 400 [true, false] [11, 14, 147, 148] [148] (fun ar lf => by conv => lhs; cbv) (allP ?_) ?_
          · simp only [hn, conj, and_true, arR, Int.ofNat_eq_natCast, rcmp_lss, rcmp_neq, decide_eq_true_eq, decide_eq_false_iff_not, ne_eq, not_true_eq_false, not_false_eq_true]
            ((repeat' with_reducible apply And.intro) <;> first | omega | assumption | rfl | trivial)
          · refine ih ⟨(_, _, _, _), ?_⟩ ?_ _ _
            · simp only [arR, e1]
              exact ⟨by omega, trivial, hn, hAl⟩
            · show ((A.length : Int) - rbin .add .i64 k 1).toNat < ((A.length : Int) - k).toNat
              rw [e1]; omega
        · refine run_ex hmix ti_ok tbe_ok 999 false 400 [false] (fun ar lf => by conv => lhs; cbv) (allP ?_) ?_
          · simp only [hn, conj, and_true, arR, Int.ofNat_eq_natCast, rcmp_lss, decide_eq_false_iff_not]
            omega
          · exact Run.ret ti_ok rfl rfl (.a (.lbool rfl))
      · have hok : ¬ partOk (xs.take 300) ms := fun h => h1 h.2
        refine run_pa hmix ti_ok tbe_ok 0 false 1000 [false, false, true, false, false, false, false, false, false, false, false, false] [11, 14, 147, 148] [148] (fun ar lf => by conv => lhs; cbv) (allP ?_) ?_
        · simp only [if_neg hok, if_pos hR, conj, and_true, Int.ofNat_eq_natCast, arR, lwR, luR, lsR', lrR, lqR, loR, lnR, lkR, rcmp_lss, rcmp_gtr, rcmp_geq, rcmp_eql, rcmp_neq, decide_eq_true_eq, decide_eq_false_iff_not, List.length_nil, maxLen, same_self, sameB_self, beq_self_eq_true, Bool.not_true, Bool.not_false, List.nil_append, ne_eq, not_true_eq_false, not_false_eq_true, decide_true, decide_false]
          ((repeat' with_reducible apply And.intro) <;> first | omega | assumption | rfl | trivial)
        have hPl : (lwR.rdP bits ids cnt).length ≤ 65536 := by
          have e : lwR.rdP bits ids cnt = (rdA bits ids cnt).1.pl := if_pos hR
          rw [e]; exact (hRf hR).2
        refine Run.loop (ι := {p : Int × List D × List D × Int // (0 ≤ p.1 ∧ p.1 ≤ p.2.1.length) ∧ p.2.2.1 = p.2.1 ∧ p.2.2.2 = p.2.1.length ∧ p.2.1.length ≤ 65536})
          (fun i => ([.any, .any, .any, .any, .any, .any, .any, .any, .any, .any, .any, .a (.one (.dat (.int .i64) i.1.2.1 none)), .any, .any, .a (.one (.dat (.int .i64) i.1.2.2.1 none)), .any, .any, .any, .any, .any, .any, .any, .any, .any, .any, .any, .any, .any, .any, .any, .any, .any, .any, .any, .any, .any, .any, .any, .any, .any, .any, .any, .any, .any, .any, .any, .any, .any, .any, .any, .any, .any, .any, .any, .any, .any, .any, .any, .any, .any, .any, .any, .any, .any, .any, .any, .any, .any, .any, .any, .any, .any, .any, .any, .any, .any, .any, .any, .any, .any, .any, .any, .any, .any, .any, .any, .any, .any, .any, .any, .any, .any, .any, .any, .any, .any, .any, .any, .any, .any, .any, .any, .any, .any, .any, .any, .any, .any, .any, .any, .any, .any, .any, .any, .any, .any, .any, .any, .any, .any, .any, .any, .any, .any, .any, .any, .any, .any, .any, .any, .any, .any, .any, .any, .any, .any, .any, .any, .any, .any, .any, .any, .any, .any, .any, .any, .any, .a (.one (.int .i64 i.1.2.2.2)), .a (.one (.int .i64 i.1.1)), .any, .any, .any, .any, .any, .any, .any, .any, .any, .any, .any, .any], []))
          (fun i => (i.1.2.1.length - i.1.1).toNat) ⟨(0, lwR.rdP bits ids cnt, lwR.rdP bits ids cnt, (lwR.rdP bits ids cnt).length), by simp only; omega, rfl, rfl, hPl⟩ ?_
        rintro ⟨⟨k, A, B, n⟩, hk, hA, hn, hAl⟩ ih
        simp only at hk hA hn hAl
        subst B
        have e1 : rbin .add .i64 k 1 = k + 1 := addi (by omega) (by omega)
        by_cases hlt : k < A.length
        · refine run_pa hmix ti_ok tbe_ok 2 true 400 [true, false] [11, 14, 147, 148] [148] (fun ar lf => by conv => lhs; cbv) (allP ?_) ?_
          · simp only [hn, conj, and_true, arR, Int.ofNat_eq_natCast, rcmp_lss, rcmp_neq, decide_eq_true_eq, decide_eq_false_iff_not, ne_eq, not_true_eq_false, not_false_eq_true]
            ((repeat' with_reducible apply And.intro) <;> first | omega | assumption | rfl | trivial)
          · refine ih ⟨(_, _, _, _), ?_⟩ ?_ _ _
            · simp only [arR, e1]
              exact ⟨by omega, trivial, hn, hAl⟩
            · show ((A.length : Int) - rbin .add .i64 k 1).toNat < ((A.length : Int) - k).toNat
              rw [e1]; omega
        · refine run_ex hmix ti_ok tbe_ok 999 false 400 [false] (fun ar lf => by conv => lhs; cbv) (allP ?_) ?_
          · simp only [hn, conj, and_true, arR, Int.ofNat_eq_natCast, rcmp_lss, decide_eq_false_iff_not]
            omega
          · exact Run.ret ti_ok rfl rfl (.a (.lbool rfl))
    · by_cases h0 : (xs.take 300).length = 0
      · have hok : ¬ partOk (xs.take 300) ms := fun h => by have := h.1; omega
        refine run_ex hmix ti_ok tbe_ok 999 false 1000 [false, true, false, false, false, false, true, true, true, true] (fun ar lf => by conv => lhs; cbv) (allP ?_) ?_
        · simp only [if_neg hok, if_neg hR, conj, and_true, Int.ofNat_eq_natCast, arR, lwR, luR, lsR', lrR, lqR, loR, lnR, lkR, rcmp_lss, rcmp_gtr, rcmp_geq, rcmp_eql, rcmp_neq, decide_eq_true_eq, decide_eq_false_iff_not, List.length_nil, maxLen, same_self, sameB_self, beq_self_eq_true, Bool.not_true, Bool.not_false, List.nil_append, ne_eq, not_true_eq_false, not_false_eq_true, decide_true, decide_false]
          ((repeat' with_reducible apply And.intro) <;> first | omega | assumption | rfl | trivial)
        · refine Run.ret ti_ok rfl rfl (.a (.bool ?_))
          simp only [if_neg hok, if_neg hR, conj, and_true, Int.ofNat_eq_natCast, arR, lwR, luR, lsR', lrR, lqR, loR, lnR, lkR, rcmp_lss, rcmp_gtr, rcmp_geq, rcmp_eql, rcmp_neq, decide_eq_true_eq, decide_eq_false_iff_not, List.length_nil, maxLen, same_self, sameB_self, beq_self_eq_true, Bool.not_true, Bool.not_false, List.nil_append, ne_eq, not_true_eq_false, not_false_eq_true, decide_true, decide_false]
      by_cases h1 : ms.length = (xs.take 300).length
      · have hok : partOk (xs.take 300) ms := ⟨by omega, h1⟩
        obtain ⟨d1, d2, d3⟩ := pow_dep hy (by omega) (by omega)
        have hpi := posIn_top hy (by omega) (by omega) h1
        have hpl := pt_len (lvls (xs.take 300)) ms ((lvls (xs.take 300)).length - 1) 0
        have hpw : 2 ^ ((lvls (xs.take 300)).length - 1 + 1) = 2 ^ ((lvls (xs.take 300)).length - 1) + 2 ^ ((lvls (xs.take 300)).length - 1) := by rw [Nat.pow_succ]; omega
        have hpt : HL (pt (lvls (xs.take 300)) ms ((lvls (xs.take 300)).length - 1) 0).2 := ⟨by omega, pt_hash hpi⟩
        refine run_ex hmix ti_ok tbe_ok 999 false 1000 [false, false, false, false, false, false, false, true, true, true, true] (fun ar lf => by conv => lhs; cbv) (allP ?_) ?_
        · simp only [if_pos hok, if_neg hR, conj, and_true, Int.ofNat_eq_natCast, arR, lwR, luR, lsR', lrR, lqR, loR, lnR, lkR, rcmp_lss, rcmp_gtr, rcmp_geq, rcmp_eql, rcmp_neq, decide_eq_true_eq, decide_eq_false_iff_not, List.length_nil, maxLen, same_self, sameB_self, beq_self_eq_true, Bool.not_true, Bool.not_false, List.nil_append, ne_eq, not_true_eq_false, not_false_eq_true, decide_true, decide_false]
          ((repeat' with_reducible apply And.intro) <;> first | omega | assumption | rfl | trivial)
        · refine Run.ret ti_ok rfl rfl (.a (.bool ?_))
          simp only [if_pos hok, if_neg hR, conj, and_true, Int.ofNat_eq_natCast, arR, lwR, luR, lsR', lrR, lqR, loR, lnR, lkR, rcmp_lss, rcmp_gtr, rcmp_geq, rcmp_eql, rcmp_neq, decide_eq_true_eq, decide_eq_false_iff_not, List.length_nil, maxLen, same_self, sameB_self, beq_self_eq_true, Bool.not_true, Bool.not_false, List.nil_append, ne_eq, not_true_eq_false, not_false_eq_true, decide_true, decide_false]
      · have hok : ¬ partOk (xs.take 300) ms := fun h => h1 h.2
        refine run_ex hmix ti_ok tbe_ok 999 false 1000 [false, false, true, false, false, false, false, true, true, true, true] (fun ar lf => by conv => lhs; cbv) (allP ?_) ?_
        · simp only [if_neg hok, if_neg hR, conj, and_true, Int.ofNat_eq_natCast, arR, lwR, luR, lsR', lrR, lqR, loR, lnR, lkR, rcmp_lss, rcmp_gtr, rcmp_geq, rcmp_eql, rcmp_neq, decide_eq_true_eq, decide_eq_false_iff_not, List.length_nil, maxLen, same_self, sameB_self, beq_self_eq_true, Bool.not_true, Bool.not_false, List.nil_append, ne_eq, not_true_eq_false, not_false_eq_true, decide_true, decide_false]
          ((repeat' with_reducible apply And.intro) <;> first | omega | assumption | rfl | trivial)
        · refine Run.ret ti_ok rfl rfl (.a (.bool ?_))
          simp only [if_neg hok, if_neg hR, conj, and_true, Int.ofNat_eq_natCast, arR, lwR, luR, lsR', lrR, lqR, loR, lnR, lkR, rcmp_lss, rcmp_gtr, rcmp_geq, rcmp_eql, rcmp_neq, decide_eq_true_eq, decide_eq_false_iff_not, List.length_nil, maxLen, same_self, sameB_self, beq_self_eq_true, Bool.not_true, Bool.not_false, List.nil_append, ne_eq, not_true_eq_false, not_false_eq_true, decide_true, decide_false]
  · cases hs
end Go.Proofs.Ytlbllaocdilafaa
