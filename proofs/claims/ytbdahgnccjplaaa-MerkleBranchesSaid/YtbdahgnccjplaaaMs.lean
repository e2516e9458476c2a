import Derived.Test.YtbdahgnccjplaaaMr
set_option linter.unusedSimpArgs false
set_option linter.unusedVariables false
namespace Go.Proofs.Ytbdahgnccjplaaa
open Go Go.Eng Go.Proofs Go.RowKit
attribute [local irreducible] CallOk HOk Run TIok rbin rcmp run1 updF shfF blitF
def sLaw2 (lf : LO) : ESpec := fun l => match l with
  | [.one (.dat (.arr .u8 32) xs none), .one (.int .i64 p), .one (.dat (.arr .u8 32) bs none)] => some (.a (.one (.bool true)), [lf.hs xs, lf.int64 p, lf.hs bs, lf.lenOk bs])
  | _ => none
def tbs (lf : LO) : Tbl := tbL [(11, sFew lf.toLN), (15, sAwake lf.toLN), (14, sGiven6 lf.toLN), (18, sSame lf.toLN), (25, sBranch lf), (26, sRBranch lf), (27, sCheck lf), (28, sRCheck lf)] []
theorem tbs_ok : TblOk Try.prog (tbs loR) := tbL_ok (List.forall_mem_cons.2 ⟨few_ok, List.forall_mem_cons.2 ⟨awake_ok6, List.forall_mem_cons.2 ⟨given_ok6, List.forall_mem_cons.2 ⟨same_ok, List.forall_mem_cons.2 ⟨branch_ok, List.forall_mem_cons.2 ⟨rbranch_ok, List.forall_mem_cons.2 ⟨check_ok, List.forall_mem_cons.2 ⟨rcheck_ok, nofun⟩⟩⟩⟩⟩⟩⟩⟩) nofun
set_option maxRecDepth 100000 in
theorem branches_ok : CallOk Try.prog 4 (sLaw2 loR) := by
  refine .of_run (hc := (tbs loR).hc) Try.func4 rfl (by kernel_rfl) (by kernel_rfl) fun xs v ps hs hp w => ?_
  unfold sLaw2 at hs
  split at hs
  · rename_i xs p bs
    cases hs
    have hx : ∀ d ∈ xs, isHash d := hp (loR.hs xs) (by simp)
    have hp64 : -9223372036854775808 ≤ p ∧ p < 9223372036854775808 := hp (loR.int64 p) (by simp)
    have hb : ∀ d ∈ bs, isHash d := hp (loR.hs bs) (by simp)
    have hl : bs.length ≤ 9223372036854775807 := hp (loR.lenOk bs) (by simp)
    clear hp
    have hy := HL_take hx
    have hyl : (xs.take 300).length ≤ 300 := by rw [List.length_take]; omega
    have hp2 : bs.length ≤ 32 → ((2 ^ bs.length : Nat) : Int) ≤ 4294967296 := by
      intro h
      have : (2 : Nat) ^ bs.length ≤ 2 ^ 32 := Nat.pow_le_pow_right (by decide) (by omega)
      have h4 : (2 : Nat) ^ 32 = 4294967296 := by decide
      omega
    have hsh : bs.length ≤ 32 → rbin .shl .i64 1 bs.length = ((2 ^ bs.length : Nat) : Int) := by
      intro h
      have := shl_one (n := bs.length) (by omega) (by omega)
      rwa [Int.toNat_natCast] at this
    have hbH : bs.length ≤ 32 → HL bs := fun h => ⟨by omega, hb⟩
    by_cases hneg : p < 0
    · have cb : ¬ (0 ≤ p ∧ p < ((xs.take 300).length : Int)) := by omega
      have cc : ¬ (bs.length ≤ 32 ∧ 0 ≤ p ∧ p < ((2 ^ bs.length : Nat) : Int)) := by omega
      by_cases hm : 32 < bs.length
      · refine run_ex hmix ti_ok tbs_ok 999 false 1000 [false, true, false, false, true, true] (fun ar lf => by conv => lhs; cbv) (allP ?_) ?_
        · simp only [if_neg cb, if_neg cc, if_pos hm, conj, and_true, Int.ofNat_eq_natCast, arR, loR, lnR, lkR, rcmp_lss, rcmp_gtr, rcmp_geq, rcmp_eql, rcmp_neq, decide_eq_true_eq, decide_eq_false_iff_not, List.length_nil, maxLen, same_self, beq_self_eq_true, Bool.not_true, List.nil_append, ne_eq, not_true_eq_false, not_false_eq_true, and_self, true_and]
          ((repeat' with_reducible apply And.intro) <;> first | omega | assumption | rfl | trivial)
        · refine Run.ret ti_ok rfl rfl (.a (.bool ?_))
          simp only [if_neg cb, if_neg cc, if_pos hm, conj, and_true, Int.ofNat_eq_natCast, arR, loR, lnR, lkR, rcmp_lss, rcmp_gtr, rcmp_geq, rcmp_eql, rcmp_neq, decide_eq_true_eq, decide_eq_false_iff_not, List.length_nil, maxLen, same_self, beq_self_eq_true, Bool.not_true, List.nil_append, ne_eq, not_true_eq_false, not_false_eq_true, and_self, true_and]
      · have cd : ¬ (0 ≤ p ∧ p < ((2 ^ bs.length : Nat) : Int)) := by omega
        refine run_ex hmix ti_ok tbs_ok 999 false 1000 [false, true, false, false, false, true, true] (fun ar lf => by conv => lhs; cbv) (allP ?_) ?_
        · simp only [if_neg cb, if_neg cc, if_neg hm, if_neg cd, conj, and_true, Int.ofNat_eq_natCast, arR, loR, lnR, lkR, rcmp_lss, rcmp_gtr, rcmp_geq, rcmp_eql, rcmp_neq, decide_eq_true_eq, decide_eq_false_iff_not, List.length_nil, maxLen, same_self, beq_self_eq_true, Bool.not_true, List.nil_append, ne_eq, not_true_eq_false, not_false_eq_true, and_self, true_and]
          ((repeat' with_reducible apply And.intro) <;> first | omega | assumption | rfl | trivial)
        · refine Run.ret ti_ok rfl rfl (.a (.bool ?_))
          simp only [if_neg cb, if_neg cc, if_neg hm, if_neg cd, conj, and_true, Int.ofNat_eq_natCast, arR, loR, lnR, lkR, rcmp_lss, rcmp_gtr, rcmp_geq, rcmp_eql, rcmp_neq, decide_eq_true_eq, decide_eq_false_iff_not, List.length_nil, maxLen, same_self, beq_self_eq_true, Bool.not_true, List.nil_append, ne_eq, not_true_eq_false, not_false_eq_true, and_self, true_and]
    by_cases hge : ((xs.take 300).length : Int) ≤ p
    · have cb : ¬ (0 ≤ p ∧ p < ((xs.take 300).length : Int)) := by omega
      by_cases hm : 32 < bs.length
      · have cc : ¬ (bs.length ≤ 32 ∧ 0 ≤ p ∧ p < ((2 ^ bs.length : Nat) : Int)) := by omega
        refine run_ex hmix ti_ok tbs_ok 999 false 1000 [false, false, true, false, false, true, true] (fun ar lf => by conv => lhs; cbv) (allP ?_) ?_
        · simp only [if_neg cb, if_neg cc, if_pos hm, conj, and_true, Int.ofNat_eq_natCast, arR, loR, lnR, lkR, rcmp_lss, rcmp_gtr, rcmp_geq, rcmp_eql, rcmp_neq, decide_eq_true_eq, decide_eq_false_iff_not, List.length_nil, maxLen, same_self, beq_self_eq_true, Bool.not_true, List.nil_append, ne_eq, not_true_eq_false, not_false_eq_true, and_self, true_and]
          ((repeat' with_reducible apply And.intro) <;> first | omega | assumption | rfl | trivial)
        · refine Run.ret ti_ok rfl rfl (.a (.bool ?_))
          simp only [if_neg cb, if_neg cc, if_pos hm, conj, and_true, Int.ofNat_eq_natCast, arR, loR, lnR, lkR, rcmp_lss, rcmp_gtr, rcmp_geq, rcmp_eql, rcmp_neq, decide_eq_true_eq, decide_eq_false_iff_not, List.length_nil, maxLen, same_self, beq_self_eq_true, Bool.not_true, List.nil_append, ne_eq, not_true_eq_false, not_false_eq_true, and_self, true_and]
      have hm2 : bs.length ≤ 32 := by omega
      have hsh := hsh hm2
      have hp2 := hp2 hm2
      have hbH := hbH hm2
      by_cases hge2 : ((2 ^ bs.length : Nat) : Int) ≤ p
      · have cc : ¬ (bs.length ≤ 32 ∧ 0 ≤ p ∧ p < ((2 ^ bs.length : Nat) : Int)) := by omega
        have cd : ¬ (0 ≤ p ∧ p < ((2 ^ bs.length : Nat) : Int)) := by omega
        refine run_ex hmix ti_ok tbs_ok 999 false 1000 [false, false, true, false, false, false, false, true, true] (fun ar lf => by conv => lhs; cbv) (allP ?_) ?_
        · simp only [if_neg cb, if_neg cc, if_neg hm, if_neg cd, hsh, conj, and_true, Int.ofNat_eq_natCast, arR, loR, lnR, lkR, rcmp_lss, rcmp_gtr, rcmp_geq, rcmp_eql, rcmp_neq, decide_eq_true_eq, decide_eq_false_iff_not, List.length_nil, maxLen, same_self, beq_self_eq_true, Bool.not_true, List.nil_append, ne_eq, not_true_eq_false, not_false_eq_true, and_self, true_and]
          ((repeat' with_reducible apply And.intro) <;> first | omega | assumption | rfl | trivial)
        · refine Run.ret ti_ok rfl rfl (.a (.bool ?_))
          simp only [if_neg cb, if_neg cc, if_neg hm, if_neg cd, hsh, conj, and_true, Int.ofNat_eq_natCast, arR, loR, lnR, lkR, rcmp_lss, rcmp_gtr, rcmp_geq, rcmp_eql, rcmp_neq, decide_eq_true_eq, decide_eq_false_iff_not, List.length_nil, maxLen, same_self, beq_self_eq_true, Bool.not_true, List.nil_append, ne_eq, not_true_eq_false, not_false_eq_true, and_self, true_and]
      · have cc : bs.length ≤ 32 ∧ 0 ≤ p ∧ p < ((2 ^ bs.length : Nat) : Int) := by omega
        have cd : 0 ≤ p ∧ p < ((2 ^ bs.length : Nat) : Int) := by omega
        refine run_ex hmix ti_ok tbs_ok 999 false 1000 [false, false, true, false, false, false, false, false, true] (fun ar lf => by conv => lhs; cbv) (allP ?_) ?_
        · simp only [if_neg cb, if_pos cc, if_neg hm, if_pos cd, hsh, conj, and_true, Int.ofNat_eq_natCast, arR, loR, lnR, lkR, rcmp_lss, rcmp_gtr, rcmp_geq, rcmp_eql, rcmp_neq, decide_eq_true_eq, decide_eq_false_iff_not, List.length_nil, maxLen, same_self, beq_self_eq_true, Bool.not_true, List.nil_append, ne_eq, not_true_eq_false, not_false_eq_true, and_self, true_and]
          ((repeat' with_reducible apply And.intro) <;> first | omega | assumption | rfl | trivial)
        · refine Run.ret ti_ok rfl rfl (.a (.bool ?_))
          simp only [if_neg cb, if_pos cc, if_neg hm, if_pos cd, hsh, conj, and_true, Int.ofNat_eq_natCast, arR, loR, lnR, lkR, rcmp_lss, rcmp_gtr, rcmp_geq, rcmp_eql, rcmp_neq, decide_eq_true_eq, decide_eq_false_iff_not, List.length_nil, maxLen, same_self, beq_self_eq_true, Bool.not_true, List.nil_append, ne_eq, not_true_eq_false, not_false_eq_true, and_self, true_and]
    have cb : 0 ≤ p ∧ p < ((xs.take 300).length : Int) := by omega
    have hB := brF_HL (p := p.toNat) hy (by omega)
    have hcb3 : HL (xs.take 300) ∧ 0 ≤ p ∧ p < ((xs.take 300).length : Int) := ⟨hy, cb⟩
    by_cases hm : 32 < bs.length
    · have cc : ¬ (bs.length ≤ 32 ∧ 0 ≤ p ∧ p < ((2 ^ bs.length : Nat) : Int)) := by omega
      refine run_ex hmix ti_ok tbs_ok 999 false 1000 [false, false, false, false, false, true, true] (fun ar lf => by conv => lhs; cbv) (allP ?_) ?_
      · simp only [if_pos cb, if_neg cc, if_pos hm, conj, and_true, Int.ofNat_eq_natCast, arR, loR, lnR, lkR, rcmp_lss, rcmp_gtr, rcmp_geq, rcmp_eql, rcmp_neq, decide_eq_true_eq, decide_eq_false_iff_not, List.length_nil, maxLen, same_self, beq_self_eq_true, Bool.not_true, List.nil_append, ne_eq, not_true_eq_false, not_false_eq_true, and_self, true_and]
        ((repeat' with_reducible apply And.intro) <;> first | omega | assumption | rfl | trivial)
      · refine Run.ret ti_ok rfl rfl (.a (.bool ?_))
        simp only [if_pos cb, if_neg cc, if_pos hm, conj, and_true, Int.ofNat_eq_natCast, arR, loR, lnR, lkR, rcmp_lss, rcmp_gtr, rcmp_geq, rcmp_eql, rcmp_neq, decide_eq_true_eq, decide_eq_false_iff_not, List.length_nil, maxLen, same_self, beq_self_eq_true, Bool.not_true, List.nil_append, ne_eq, not_true_eq_false, not_false_eq_true, and_self, true_and]
    have hm2 : bs.length ≤ 32 := by omega
    have hsh := hsh hm2
    have hp2 := hp2 hm2
    have hbH := hbH hm2
    by_cases hge2 : ((2 ^ bs.length : Nat) : Int) ≤ p
    · have cc : ¬ (bs.length ≤ 32 ∧ 0 ≤ p ∧ p < ((2 ^ bs.length : Nat) : Int)) := by omega
      have cd : ¬ (0 ≤ p ∧ p < ((2 ^ bs.length : Nat) : Int)) := by omega
      refine run_ex hmix ti_ok tbs_ok 999 false 1000 [false, false, false, false, false, false, false, true, true] (fun ar lf => by conv => lhs; cbv) (allP ?_) ?_
      · simp only [if_pos cb, if_neg cc, if_neg hm, if_neg cd, hsh, conj, and_true, Int.ofNat_eq_natCast, arR, loR, lnR, lkR, rcmp_lss, rcmp_gtr, rcmp_geq, rcmp_eql, rcmp_neq, decide_eq_true_eq, decide_eq_false_iff_not, List.length_nil, maxLen, same_self, beq_self_eq_true, Bool.not_true, List.nil_append, ne_eq, not_true_eq_false, not_false_eq_true, and_self, true_and]
        ((repeat' with_reducible apply And.intro) <;> first | omega | assumption | rfl | trivial)
      · refine Run.ret ti_ok rfl rfl (.a (.bool ?_))
        simp only [if_pos cb, if_neg cc, if_neg hm, if_neg cd, hsh, conj, and_true, Int.ofNat_eq_natCast, arR, loR, lnR, lkR, rcmp_lss, rcmp_gtr, rcmp_geq, rcmp_eql, rcmp_neq, decide_eq_true_eq, decide_eq_false_iff_not, List.length_nil, maxLen, same_self, beq_self_eq_true, Bool.not_true, List.nil_append, ne_eq, not_true_eq_false, not_false_eq_true, and_self, true_and]
    · have cc : bs.length ≤ 32 ∧ 0 ≤ p ∧ p < ((2 ^ bs.length : Nat) : Int) := by omega
      have cd : 0 ≤ p ∧ p < ((2 ^ bs.length : Nat) : Int) := by omega
      refine run_ex hmix ti_ok tbs_ok 999 false 1000 [false, false, false, false, false, false, false, false, true] (fun ar lf => by conv => lhs; cbv) (allP ?_) ?_
      · simp only [if_pos cb, if_pos cc, if_neg hm, if_pos cd, hsh, conj, and_true, Int.ofNat_eq_natCast, arR, loR, lnR, lkR, rcmp_lss, rcmp_gtr, rcmp_geq, rcmp_eql, rcmp_neq, decide_eq_true_eq, decide_eq_false_iff_not, List.length_nil, maxLen, same_self, beq_self_eq_true, Bool.not_true, List.nil_append, ne_eq, not_true_eq_false, not_false_eq_true, and_self, true_and]
        ((repeat' with_reducible apply And.intro) <;> first | omega | assumption | rfl | trivial)
      · refine Run.ret ti_ok rfl rfl (.a (.bool ?_))
        simp only [if_pos cb, if_pos cc, if_neg hm, if_pos cd, hsh, conj, and_true, Int.ofNat_eq_natCast, arR, loR, lnR, lkR, rcmp_lss, rcmp_gtr, rcmp_geq, rcmp_eql, rcmp_neq, decide_eq_true_eq, decide_eq_false_iff_not, List.length_nil, maxLen, same_self, beq_self_eq_true, Bool.not_true, List.nil_append, ne_eq, not_true_eq_false, not_false_eq_true, and_self, true_and]
  · cases hs
end Go.Proofs.Ytbdahgnccjplaaa
