import Derived.Test.YtlbllaocdilafaaRa
import Derived.Test.YtlbllaocdilafaaQw
set_option linter.unusedSimpArgs false
set_option linter.unusedVariables false
namespace Go.Eng
open Go
def itemFit (xs : List D) : Prop := (∀ x ∈ xs, nrmD (.two (.int .u32) (.arr .u8 32)) x = x) ∧ xs.length ≤ 9223372036854775807
theorem kindD_fit (k n : Int) : mFit (kindD k n) := by
  refine ⟨_, rfl, ⟨rfl, rfl, rfl, rfl, ?_, ?_, ?_, ?_, ?_, ?_, ?_, ?_⟩, ?_, ?_, ?_, ?_, ?_, ?_, ?_, ?_, ?_, ?_, ?_, ?_, ?_, ?_, ?_, ?_⟩ <;> first | exact Nat.zero_le _ | (intro x hx; exact absurd hx (List.not_mem_nil)) | (show 0 * _ ≤ _; omega)
theorem itemsD_fit {xs : List D} (k : Int) (h : itemFit xs) (hl : xs.length ≤ 500) : mFit (itemsD k xs) := by
  refine ⟨_, rfl, ⟨rfl, rfl, rfl, rfl, ?_, ?_, ?_, ?_, ?_, ?_, ?_, ?_⟩, ?_, ?_, ?_, ?_, ?_, ?_, ?_, ?_, ?_, ?_, ?_, ?_, ?_, ?_, ?_, ?_⟩ <;> first | exact Nat.zero_le _ | (show xs.length ≤ 4611686018427387904; omega) | exact h.1 | (show xs.length * 36 ≤ 140737488351232; omega) | (intro x hx; exact absurd hx (List.not_mem_nil)) | (show 0 * _ ≤ _; omega)
theorem ask_fit {xs : List D} (k : Int) (h : itemFit xs) : mFit (lna.askD k xs) := by
  show mFit (if _ then _ else _)
  split
  · rename_i h1; exact itemsD_fit k h h1.2.2
  · exact kindD_fit 0 0
theorem non_fit (k n : Int) : mFit (lna.nonD k n) := by
  show mFit (if _ then _ else _)
  split
  · exact kindD_fit k n
  · exact kindD_fit 0 0
structure LNb extends LN9 where
  na : LNa
  itFit : List D → Prop
def lnb : LNb where
  toLN9 := ln9
  na := lna
  itFit := itemFit
end Go.Eng
namespace Go.Proofs.Ytlbllaocdilafaa
open Go Go.Eng Go.Proofs Go.RowKit
attribute [local irreducible] CallOk HOk Run TIok rbin rcmp run1 updF shfF blitF
def trb (lf : LNb) : Tbl := tbL [(33, sAwake lf.toLN9.toLN8), (34, kP [some MS, some MS] (sSame lf.toLN9.toLN8.toLN7.toLN6.toLN5.toLN4.toLN1.toLQm)), (35, sSame lf.toLN9.toLN8.toLN7.toLN6.toLN5.toLN4.toLN1.toLQm), (36, kP [some MS] (sRef lf.toLN9.mf)), (43, nP (sNonU lf.na)), (44, nP (sAsked lf.na)), (45, nP (sCmd lf.na.toLN2)), (42, nP (sCmd lf.na.toLN2)), (46, nP (sKind lf.na)), (47, nP (sBare lf.na.toLN2.toLN1))] []
theorem trb_ok : TblOk Try.prog (trb lnb) := tbL_ok (List.forall_mem_cons.2 ⟨awake_ok, List.forall_mem_cons.2 ⟨same_ok.kP, List.forall_mem_cons.2 ⟨rsame_ok, List.forall_mem_cons.2 ⟨ref_ok.kP, List.forall_mem_cons.2 ⟨nonU_ok.nP, List.forall_mem_cons.2 ⟨asked_ok.nP, List.forall_mem_cons.2 ⟨cmd_ok.nP, List.forall_mem_cons.2 ⟨rcmd_ok.nP, List.forall_mem_cons.2 ⟨kind_ok.nP, List.forall_mem_cons.2 ⟨bare_ok.nP, nofun⟩⟩⟩⟩⟩⟩⟩⟩⟩⟩) nofun
def sLKinds (lf : LNb) : ESpec := fun l => match l with
  | [.one (.int .i64 k), .one (.str c), .one (.dat s xs none)] => if shEq s (.two (.int .u32) (.arr .u8 32)) then some (.a (.one (.bool true)), [lf.itFit xs]) else none
  | _ => none
set_option maxRecDepth 100000 in
set_option maxHeartbeats 4000000 in
theorem lkinds_ok : CallOk Try.prog 9 (sLKinds lnb) := by
  refine .of_run (hc := (trb lnb).hc) Try.func9 rfl (by kernel_rfl) (by kernel_rfl) fun xs v ps hs hp w => ?_
  unfold sLKinds at hs
  split at hs
  · rename_i k c s xs
    split at hs
    · rename_i hsh
      obtain rfl := shEq_eq hsh
      clear hsh
      cases hs
      have hx : itemFit xs := hp (lnb.itFit xs) (by simp)
      clear hp
      have hr := kindOf_rng c
      refine run_pa hmix ti_ok trb_ok 0 false 400 [] [0, 1, 2, 7, 8] [7, 8] (fun ar lf => by conv => lhs; cbv) (allP ?_) ?_
      · trivial
      refine Run.loop (ι := {p : Int × Int // (1 ≤ p.1 ∧ p.1 ≤ 19) ∧ p.2 = if kindOf c < p.1 then kindOf c else 0})
        (fun i => ([.a (.one (.int .i64 k)), .a (.one (.str c)), .a (.one (.dat (.two (.int .u32) (.arr .u8 32)) xs none)), .any, .any, .any, .any, .a (.one (.int .i64 i.1.2)), .a (.one (.int .i64 i.1.1)), .any, .any, .any, .any, .any, .any, .any, .any, .any, .any, .any, .any, .any, .any, .any, .any, .any, .any, .any, .any, .any, .any, .any, .any, .any, .any, .any, .any, .any, .any, .any, .any, .any, .any, .any, .any, .any, .any, .any, .any, .any, .any, .any, .any, .any, .any, .any, .any, .any, .any, .any, .any, .any, .any, .any, .any, .any, .any, .any, .any, .any, .any, .any, .any, .any, .any, .any, .any, .any, .any, .any, .any, .any, .any, .any, .any, .any, .any, .any, .any, .any, .any, .any, .any, .any, .any, .any, .any, .any, .any, .any, .any, .any, .any, .any, .any, .any, .any, .any, .any, .any, .any, .any, .any, .any], []))
        (fun i => (19 - i.1.1).toNat) ⟨(1, 0), by omega, by split <;> omega⟩ ?_
      rintro ⟨⟨p, w'⟩, hp, hw⟩ ih
      try simp only at hp hw
      have e1 : rbin .add .i64 p 1 = p + 1 := addi (by omega) (by omega)
      by_cases hlt : p ≤ 18
      · have hi := kindOf_iff c p hp.1 hlt
        by_cases hk : kindOf c = p
        · have hh : hitB c p = true := by rw [hi, decide_eq_true hk]
          refine run_pa hmix ti_ok trb_ok 2 true 400 [true, true] [0, 1, 2, 7, 8] [7, 8] (fun ar lf => by conv => lhs; cbv) (allP ?_) ?_
          · simp only [conj, and_true, Int.ofNat_eq_natCast, arR, rcmp_lss, rcmp_gtr, rcmp_geq, rcmp_leq, rcmp_eql, rcmp_neq, decide_eq_true_eq, decide_eq_false_iff_not, ne_eq, not_true_eq_false, not_false_eq_true, Int.toNat_natCast, List.length_cons, List.length_nil]
            exact ⟨hh, hlt⟩
          · refine ih ⟨(_, _), ?_, ?_⟩ ?_ _ _
            · show 1 ≤ rbin .add .i64 p 1 ∧ rbin .add .i64 p 1 ≤ 19
              rw [e1]; omega
            · show p = if kindOf c < rbin .add .i64 p 1 then kindOf c else 0
              rw [e1, if_pos (by omega)]; omega
            · show (19 - rbin .add .i64 p 1).toNat < (19 - p).toNat
              rw [e1]; omega
        · have hh : hitB c p = false := by rw [hi, decide_eq_false hk]
          refine run_pa hmix ti_ok trb_ok 2 true 400 [true, false] [0, 1, 2, 7, 8] [7, 8] (fun ar lf => by conv => lhs; cbv) (allP ?_) ?_
          · simp only [conj, and_true, Int.ofNat_eq_natCast, arR, rcmp_lss, rcmp_gtr, rcmp_geq, rcmp_leq, rcmp_eql, rcmp_neq, decide_eq_true_eq, decide_eq_false_iff_not, ne_eq, not_true_eq_false, not_false_eq_true, Int.toNat_natCast, List.length_cons, List.length_nil]
            exact ⟨hh, hlt⟩
          · refine ih ⟨(_, _), ?_, ?_⟩ ?_ _ _
            · show 1 ≤ rbin .add .i64 p 1 ∧ rbin .add .i64 p 1 ≤ 19
              rw [e1]; omega
            · show w' = if kindOf c < rbin .add .i64 p 1 then kindOf c else 0
              rw [e1, hw]
              by_cases h : kindOf c < p
              · rw [if_pos h, if_pos (by omega)]
              · rw [if_neg h, if_neg (by omega)]
            · show (19 - rbin .add .i64 p 1).toNat < (19 - p).toNat
              rw [e1]; omega
      · have hwk : w' = kindOf c := by rw [hw, if_pos (by omega)]
        refine run_pa hmix ti_ok trb_ok 999 false 400 [false] [0, 1, 2, 7, 9, 10, 11, 12, 13, 14] [] (fun ar lf => by conv => lhs; cbv) (allP ?_) ?_
        · simp only [conj, and_true, Int.ofNat_eq_natCast, arR, rcmp_lss, rcmp_gtr, rcmp_geq, rcmp_leq, rcmp_eql, rcmp_neq, decide_eq_true_eq, decide_eq_false_iff_not, ne_eq, not_true_eq_false, not_false_eq_true, Int.toNat_natCast, List.length_cons, List.length_nil]
          exact ⟨hx.2, hlt⟩
        refine Run.fam3 (ι := {p : (D × D) × Int × Int // p = ((lna.nonD k 9, lna.askD k xs), lna.nonE k, lna.askE k xs)}) (fun i => ([.a (.one (.int .i64 k)), .a (.one (.str c)), .a (.one (.dat (.two (.int .u32) (.arr .u8 32)) xs none)), .any, .any, .any, .any, .a (.one (.int .i64 w')), .any, .a (.one (.ptr 0 (.lit 0))), .a (.one (.int .i64 i.1.2.1)), .a (.one (.ptr 1 (.lit 0))), .a (.one (.int .i64 i.1.2.2)), .a (.one (.lit .i64 90)), .a (.one (.lit .i64 90)), .any, .any, .any, .any, .any, .any, .any, .any, .any, .any, .any, .any, .any, .any, .any, .any, .any, .any, .any, .any, .any, .any, .any, .any, .any, .any, .any, .any, .any, .any, .any, .any, .any, .any, .any, .any, .any, .any, .any, .any, .any, .any, .any, .any, .any, .any, .any, .any, .any, .any, .any, .any, .any, .any, .any, .any, .any, .any, .any, .any, .any, .any, .any, .any, .any, .any, .any, .any, .any, .any, .any, .any, .any, .any, .any, .any, .any, .any, .any, .any, .any, .any, .any, .any, .any, .any, .any, .any, .any, .any, .any, .any, .any, .any, .any, .any, .any, .any, .any], [some ⟨false, .prt [.v MS i.1.1.1]⟩, some ⟨false, .prt [.v MS i.1.1.2]⟩])) ⟨((lna.nonD k 9, lna.askD k xs), lna.nonE k, lna.askE k xs), rfl⟩ ?_
        rintro ⟨⟨⟨dn, da⟩, en, ea⟩, hh⟩
        simp only [Prod.mk.injEq] at hh
        obtain ⟨⟨hdn, hda⟩, hen, hea⟩ := hh
        have fn : mFit dn := by rw [hdn]; exact non_fit k 9
        have fa : mFit da := by rw [hda]; exact ask_fit k hx
        have hn : (en = 0 ∧ (k = 5 ∨ k = 6) ∧ dn = kindD k 9) ∨ (en = 90 ∧ ¬ (k = 5 ∨ k = 6) ∧ dn = kindD 0 0) := by
          by_cases h : k = 5 ∨ k = 6
          · exact .inl ⟨hen.trans (if_pos h), h, hdn.trans (if_pos h)⟩
          · exact .inr ⟨hen.trans (if_neg h), h, hdn.trans (if_neg h)⟩
        have ha : (ea = 0 ∧ (8 ≤ k ∧ k ≤ 10 ∧ xs.length ≤ 500) ∧ da = itemsD k xs) ∨ (ea = 5 ∧ (8 ≤ k ∧ k ≤ 10 ∧ ¬ xs.length ≤ 500) ∧ da = kindD 0 0) ∨ (ea = 90 ∧ ¬ (8 ≤ k ∧ k ≤ 10) ∧ da = kindD 0 0) := by
          by_cases h : 8 ≤ k ∧ k ≤ 10
          · by_cases hl : xs.length ≤ 500
            · exact .inl ⟨hea.trans ((if_pos h).trans (if_pos hl)), ⟨h.1, h.2, hl⟩, hda.trans (if_pos ⟨h.1, h.2, hl⟩)⟩
            · exact .inr (.inl ⟨hea.trans ((if_pos h).trans (if_neg hl)), ⟨h.1, h.2, hl⟩, hda.trans (if_neg (by omega))⟩)
          · exact .inr (.inr ⟨hea.trans (if_neg h), h, hda.trans (if_neg (by omega))⟩)
        clear hdn hda hen hea
        have ek : eqD MS (kindD k 0) (kindD k 0) = true := eqD_refl _ _
        have hcase : k = 5 ∨ k = 6 ∨ (k ≠ 5 ∧ k ≠ 6 ∧ k < 8) ∨ (8 ≤ k ∧ k ≤ 10) ∨ 10 < k := by omega
        rcases hcase with h5 | h6 | ⟨n5, n6, h8⟩ | h9 | h10
        · obtain ⟨e1, -, e2⟩ : en = 0 ∧ (k = 5 ∨ k = 6) ∧ dn = kindD k 9 := hn.resolve_right (by omega)
          obtain ⟨e3, -, e4⟩ : ea = 90 ∧ ¬ (8 ≤ k ∧ k ≤ 10) ∧ da = kindD 0 0 := (ha.resolve_left (by omega)).resolve_left (by omega)
          refine run_ex hmix ti_ok trb_ok 999 false 400 [true, false, false, false, false, false, false, false, true, false, false, true] (fun ar lf => by conv => lhs; cbv) (allP ?_) ?_
          · subst e2 e4
            simp only [conj, and_true, Int.ofNat_eq_natCast, arR, rcmp_lss, rcmp_gtr, rcmp_geq, rcmp_leq, rcmp_eql, rcmp_neq, decide_eq_true_eq, decide_eq_false_iff_not, ne_eq, not_true_eq_false, not_false_eq_true, Int.toNat_natCast, List.length_cons, List.length_nil]
            ((repeat' with_reducible apply And.intro) <;> first | trivial | assumption | omega | exact kindD_ok _ _ | exact fn.mOk | exact fa.mOk | exact fa | exact (itemsD_fit k hx (by assumption)).mOk | exact itemsD_fit k hx (by assumption) | exact congrArg Bool.not (eqD_refl MS _) | exact congrArg Bool.not (beq_self_eq_true _) | exact fun h => h hwk.symm)
          · subst e2 e4
            refine Run.ret ti_ok rfl rfl (.a (.bool ?_))
            exact eqD_refl MS _
        · obtain ⟨e1, -, e2⟩ : en = 0 ∧ (k = 5 ∨ k = 6) ∧ dn = kindD k 9 := hn.resolve_right (by omega)
          obtain ⟨e3, -, e4⟩ : ea = 90 ∧ ¬ (8 ≤ k ∧ k ≤ 10) ∧ da = kindD 0 0 := (ha.resolve_left (by omega)).resolve_left (by omega)
          refine run_ex hmix ti_ok trb_ok 999 false 400 [false, true, false, false, false, false, false, false, false, true, false, false, true] (fun ar lf => by conv => lhs; cbv) (allP ?_) ?_
          · subst e2 e4
            simp only [conj, and_true, Int.ofNat_eq_natCast, arR, rcmp_lss, rcmp_gtr, rcmp_geq, rcmp_leq, rcmp_eql, rcmp_neq, decide_eq_true_eq, decide_eq_false_iff_not, ne_eq, not_true_eq_false, not_false_eq_true, Int.toNat_natCast, List.length_cons, List.length_nil]
            ((repeat' with_reducible apply And.intro) <;> first | trivial | assumption | omega | exact kindD_ok _ _ | exact fn.mOk | exact fa.mOk | exact fa | exact (itemsD_fit k hx (by assumption)).mOk | exact itemsD_fit k hx (by assumption) | exact congrArg Bool.not (eqD_refl MS _) | exact congrArg Bool.not (beq_self_eq_true _) | exact fun h => h hwk.symm)
          · subst e2 e4
            refine Run.ret ti_ok rfl rfl (.a (.bool ?_))
            exact eqD_refl MS _
        · obtain ⟨e1, -, e2⟩ : en = 90 ∧ ¬ (k = 5 ∨ k = 6) ∧ dn = kindD 0 0 := hn.resolve_left (by omega)
          obtain ⟨e3, -, e4⟩ : ea = 90 ∧ ¬ (8 ≤ k ∧ k ≤ 10) ∧ da = kindD 0 0 := (ha.resolve_left (by omega)).resolve_left (by omega)
          refine run_ex hmix ti_ok trb_ok 999 false 400 [false, false, false, false, false, false, false, false, false, false, true, false, true] (fun ar lf => by conv => lhs; cbv) (allP ?_) ?_
          · subst e2 e4
            simp only [conj, and_true, Int.ofNat_eq_natCast, arR, rcmp_lss, rcmp_gtr, rcmp_geq, rcmp_leq, rcmp_eql, rcmp_neq, decide_eq_true_eq, decide_eq_false_iff_not, ne_eq, not_true_eq_false, not_false_eq_true, Int.toNat_natCast, List.length_cons, List.length_nil]
            ((repeat' with_reducible apply And.intro) <;> first | trivial | assumption | omega | exact kindD_ok _ _ | exact fn.mOk | exact fa.mOk | exact fa | exact (itemsD_fit k hx (by assumption)).mOk | exact itemsD_fit k hx (by assumption) | exact congrArg Bool.not (eqD_refl MS _) | exact congrArg Bool.not (beq_self_eq_true _) | exact fun h => h hwk.symm)
          · subst e2 e4
            refine Run.ret ti_ok rfl rfl (.a (.bool ?_))
            exact eqD_refl MS _
        · by_cases hl : xs.length ≤ 500
          · obtain ⟨e1, -, e2⟩ : en = 90 ∧ ¬ (k = 5 ∨ k = 6) ∧ dn = kindD 0 0 := hn.resolve_left (by omega)
            obtain ⟨e3, -, e4⟩ : ea = 0 ∧ (8 ≤ k ∧ k ≤ 10 ∧ xs.length ≤ 500) ∧ da = itemsD k xs := ha.resolve_right (by omega)
            refine run_ex hmix ti_ok trb_ok 999 false 400 [false, false, true, true, false, false, false, false, false, false, false, false, true, false, false] (fun ar lf => by conv => lhs; cbv) (allP ?_) ?_
            · subst e2 e4
              simp only [conj, and_true, Int.ofNat_eq_natCast, arR, rcmp_lss, rcmp_gtr, rcmp_geq, rcmp_leq, rcmp_eql, rcmp_neq, decide_eq_true_eq, decide_eq_false_iff_not, ne_eq, not_true_eq_false, not_false_eq_true, Int.toNat_natCast, List.length_cons, List.length_nil]
              ((repeat' with_reducible apply And.intro) <;> first | trivial | assumption | omega | exact kindD_ok _ _ | exact fn.mOk | exact fa.mOk | exact fa | exact (itemsD_fit k hx (by assumption)).mOk | exact itemsD_fit k hx (by assumption) | exact congrArg Bool.not (eqD_refl MS _) | exact congrArg Bool.not (beq_self_eq_true _) | exact fun h => h hwk.symm)
            · subst e2 e4
              refine Run.ret ti_ok rfl rfl (.a (.bool ?_))
              exact eqD_refl MS _
          · obtain ⟨e1, -, e2⟩ : en = 90 ∧ ¬ (k = 5 ∨ k = 6) ∧ dn = kindD 0 0 := hn.resolve_left (by omega)
            obtain ⟨e3, -, e4⟩ : ea = 5 ∧ (8 ≤ k ∧ k ≤ 10 ∧ ¬ xs.length ≤ 500) ∧ da = kindD 0 0 := (ha.resolve_left (by omega)).resolve_right (by omega)
            refine run_ex hmix ti_ok trb_ok 999 false 400 [false, false, true, true, true, false, false, false, false, false, false, false, true, false, true] (fun ar lf => by conv => lhs; cbv) (allP ?_) ?_
            · subst e2 e4
              simp only [conj, and_true, Int.ofNat_eq_natCast, arR, rcmp_lss, rcmp_gtr, rcmp_geq, rcmp_leq, rcmp_eql, rcmp_neq, decide_eq_true_eq, decide_eq_false_iff_not, ne_eq, not_true_eq_false, not_false_eq_true, Int.toNat_natCast, List.length_cons, List.length_nil]
              ((repeat' with_reducible apply And.intro) <;> first | trivial | assumption | omega | exact kindD_ok _ _ | exact fn.mOk | exact fa.mOk | exact fa | exact (itemsD_fit k hx (by assumption)).mOk | exact itemsD_fit k hx (by assumption) | exact congrArg Bool.not (eqD_refl MS _) | exact congrArg Bool.not (beq_self_eq_true _) | exact fun h => h hwk.symm)
            · subst e2 e4
              refine Run.ret ti_ok rfl rfl (.a (.bool ?_))
              exact eqD_refl MS _
        · obtain ⟨e1, -, e2⟩ : en = 90 ∧ ¬ (k = 5 ∨ k = 6) ∧ dn = kindD 0 0 := hn.resolve_left (by omega)
          obtain ⟨e3, -, e4⟩ : ea = 90 ∧ ¬ (8 ≤ k ∧ k ≤ 10) ∧ da = kindD 0 0 := (ha.resolve_left (by omega)).resolve_left (by omega)
          refine run_ex hmix ti_ok trb_ok 999 false 400 [false, false, true, false, false, false, false, false, false, false, false, true, false, true] (fun ar lf => by conv => lhs; cbv) (allP ?_) ?_
          · subst e2 e4
            simp only [conj, and_true, Int.ofNat_eq_natCast, arR, rcmp_lss, rcmp_gtr, rcmp_geq, rcmp_leq, rcmp_eql, rcmp_neq, decide_eq_true_eq, decide_eq_false_iff_not, ne_eq, not_true_eq_false, not_false_eq_true, Int.toNat_natCast, List.length_cons, List.length_nil]
            ((repeat' with_reducible apply And.intro) <;> first | trivial | assumption | omega | exact kindD_ok _ _ | exact fn.mOk | exact fa.mOk | exact fa | exact (itemsD_fit k hx (by assumption)).mOk | exact itemsD_fit k hx (by assumption) | exact congrArg Bool.not (eqD_refl MS _) | exact congrArg Bool.not (beq_self_eq_true _) | exact fun h => h hwk.symm)
          · subst e2 e4
            refine Run.ret ti_ok rfl rfl (.a (.bool ?_))
            exact eqD_refl MS _
    · cases hs
  · cases hs
end Go.Proofs.Ytlbllaocdilafaa
