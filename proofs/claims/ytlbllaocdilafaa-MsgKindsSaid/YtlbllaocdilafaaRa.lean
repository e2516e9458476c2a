import Derived.Test.YtlbllaocdilafaaQj
import Derived.Test.YtlbllaocdilafaaQc
import Derived.Test.YtlbllaocdilafaaQu
set_option linter.unusedSimpArgs false
set_option linter.unusedVariables false
namespace Go.Eng
open Go
/-- a message of items -/
def itemsD (k : Int) (xs : List D) : D := (Ms.mk k 0 0 0 0 ⟨0, 0, [0, 0, 0, 0, 0, 0, 0, 0, 0, 0, 0, 0, 0, 0, 0, 0], 0⟩ ⟨0, 0, [0, 0, 0, 0, 0, 0, 0, 0, 0, 0, 0, 0, 0, 0, 0, 0], 0⟩ .empty 0 false false [] xs [] [0, 0, 0, 0, 0, 0, 0, 0, 0, 0, 0, 0, 0, 0, 0, 0, 0, 0, 0, 0, 0, 0, 0, 0, 0, 0, 0, 0, 0, 0, 0, 0] [0, 0, 0, 0, 0, 0, 0, 0, 0, 0, 0, 0, 0, 0, 0, 0, 0, 0, 0, 0, 0, 0, 0, 0, 0, 0, 0, 0, 0, 0, 0, 0] [] .empty .empty [] [] [] []).D
def hitB (c : ByteArray) (p : Int) : Bool := ((cmdOf p).toList == c.toList)
/-- the kind of a command; zero: none -/
def kindOf (c : ByteArray) : Int := match (List.range 18).find? (fun (j : Nat) => hitB c ((j : Int) + 1)) with
  | some j => (j : Int) + 1
  | none => 0
theorem cmd_inj : ∀ i : Nat, i < 18 → ∀ j : Nat, j < 18 → ((cmdOf ((i : Int) + 1)).toList == (cmdOf ((j : Int) + 1)).toList) = decide (i = j) := by
  have h : ((List.range 18).all fun (i : Nat) => (List.range 18).all fun (j : Nat) => ((cmdOf ((i : Int) + 1)).toList == (cmdOf ((j : Int) + 1)).toList) == decide (i = j)) = true := by kernel_rfl
  intro i hi j hj
  have h1 := List.all_eq_true.1 (List.all_eq_true.1 h i (List.mem_range.2 hi)) j (List.mem_range.2 hj)
  exact eq_of_beq h1
theorem kindOf_rng (c : ByteArray) : 0 ≤ kindOf c ∧ kindOf c ≤ 18 := by
  unfold kindOf
  split
  · rename_i j h
    have := List.mem_range.1 (List.mem_of_find?_eq_some h)
    omega
  · omega
theorem kindOf_iff (c : ByteArray) (p : Int) (h1 : 1 ≤ p) (h2 : p ≤ 18) : hitB c p = decide (kindOf c = p) := by
  obtain ⟨n, rfl⟩ : ∃ n : Nat, p = (n : Int) + 1 := ⟨(p - 1).toNat, by omega⟩
  have hn : n < 18 := by omega
  unfold kindOf
  split
  · rename_i j h
    have hj := List.mem_range.1 (List.mem_of_find?_eq_some h)
    have hf := List.find?_some h
    have hh : (cmdOf ((j : Int) + 1)).toList = c.toList := eq_of_beq hf
    show ((cmdOf ((n : Int) + 1)).toList == c.toList) = _
    rw [← hh, cmd_inj n hn j hj]
    by_cases e : n = j
    · subst e; simp
    · rw [decide_eq_false e, decide_eq_false (by omega)]
  · rename_i h
    have := List.find?_eq_none.1 h n (List.mem_range.2 hn)
    have e : hitB c ((n : Int) + 1) = false := by simpa using this
    rw [e, decide_eq_false (by omega)]
theorem str_at : ∀ (l : List ByteArray) (n : Nat), ((l.map D.str).getD n (.int 0)).str! = l.getD n .empty := by
  intro l
  induction l with
  | nil => intro n; rfl
  | cons x l ih =>
    intro n
    cases n with
    | zero => rfl
    | succ n => exact ih n
structure LNa extends LN2 where
  kOf : ByteArray → Int
  isItem : Int → Bool
  askD : Int → List D → D
  askE : Int → List D → Int
  nonD : Int → Int → D
  nonE : Int → Int
  itOk : List D → Prop
def lna : LNa where
  toLN2 := ln2
  kOf := kindOf
  isItem k := decide (8 ≤ k ∧ k ≤ 10)
  askD k xs := if 8 ≤ k ∧ k ≤ 10 ∧ xs.length ≤ 500 then itemsD k xs else kindD 0 0
  askE k xs := if 8 ≤ k ∧ k ≤ 10 then (if xs.length ≤ 500 then 0 else 5) else 90
  nonD k n := if k = 5 ∨ k = 6 then kindD k n else kindD 0 0
  nonE k := if k = 5 ∨ k = 6 then 0 else 90
  itOk xs := xs.length ≤ 9223372036854775807
end Go.Eng
namespace Go.Proofs.Ytlbllaocdilafaa
open Go Go.Eng Go.Proofs Go.RowKit
attribute [local irreducible] CallOk HOk Run TIok rbin rcmp run1 updF shfF blitF
set_option maxRecDepth 100000 in
theorem bare_ok : CallOk Try.prog 47 (sBare lnR) := by
  refine .of_run (hc := (ti0b lnR).hc) Try.func47 rfl (by kernel_rfl) (by kernel_rfl) fun xs v ps hs hp w => ?_
  unfold sBare at hs
  split at hs
  · rename_i k
    cases hs
    clear hp
    refine run_ex hmix ti_ok ti0b_ok 999 false 400 [] (fun ar lf => by conv => lhs; cbv) (allP ?_) ?_
    · simp only [conj, and_true, Int.ofNat_eq_natCast, arR, rcmp_lss, rcmp_gtr, rcmp_geq, rcmp_leq, rcmp_eql, rcmp_neq, decide_eq_true_eq, decide_eq_false_iff_not, ne_eq, not_true_eq_false, not_false_eq_true, Int.toNat_natCast, List.length_cons, List.length_nil]
    · exact Run.ret ti_ok rfl rfl (.a (ALe.prt rfl))
  · cases hs
def sItemed (lf : LNa) : ESpec := fun l => match l with
  | [.one (.int .i64 k)] => some (.a (.one (.bool (lf.isItem k))), [])
  | _ => none
theorem itemed_ok : CallOk Try.prog 81 (sItemed lna) := by
  refine .of_run (hc := (ti0b lnR).hc) Try.func81 rfl (by kernel_rfl) (by kernel_rfl) fun xs v ps hs hp w => ?_
  unfold sItemed at hs
  split at hs
  · rename_i k
    cases hs
    clear hp
    by_cases h8 : k = 8
    · refine run_ex hmix ti_ok ti0b_ok 999 false 400 [true] (fun ar lf => by conv => lhs; cbv) (allP ?_) ?_
      · simp only [conj, and_true, Int.ofNat_eq_natCast, arR, rcmp_lss, rcmp_gtr, rcmp_geq, rcmp_leq, rcmp_eql, rcmp_neq, decide_eq_true_eq, decide_eq_false_iff_not, ne_eq, not_true_eq_false, not_false_eq_true, Int.toNat_natCast, List.length_cons, List.length_nil]
        ((repeat' with_reducible apply And.intro) <;> first | omega | assumption | rfl | trivial)
      · refine Run.ret ti_ok rfl rfl (.a (.bool ?_))
        show _ = decide _
        subst h8; rfl
    by_cases h9 : k = 9
    · refine run_ex hmix ti_ok ti0b_ok 999 false 400 [false, true] (fun ar lf => by conv => lhs; cbv) (allP ?_) ?_
      · simp only [conj, and_true, Int.ofNat_eq_natCast, arR, rcmp_lss, rcmp_gtr, rcmp_geq, rcmp_leq, rcmp_eql, rcmp_neq, decide_eq_true_eq, decide_eq_false_iff_not, ne_eq, not_true_eq_false, not_false_eq_true, Int.toNat_natCast, List.length_cons, List.length_nil]
        ((repeat' with_reducible apply And.intro) <;> first | omega | assumption | rfl | trivial)
      · refine Run.ret ti_ok rfl rfl (.a (.bool ?_))
        show _ = decide _
        subst h9; rfl
    · refine run_ex hmix ti_ok ti0b_ok 999 false 400 [false, false] (fun ar lf => by conv => lhs; cbv) (allP ?_) ?_
      · simp only [conj, and_true, Int.ofNat_eq_natCast, arR, rcmp_lss, rcmp_gtr, rcmp_geq, rcmp_leq, rcmp_eql, rcmp_neq, decide_eq_true_eq, decide_eq_false_iff_not, ne_eq, not_true_eq_false, not_false_eq_true, Int.toNat_natCast, List.length_cons, List.length_nil]
        ((repeat' with_reducible apply And.intro) <;> first | omega | assumption | rfl | trivial)
      · refine Run.ret ti_ok rfl rfl (.a (.bool ?_))
        show rcmp .eql k 10 = decide _
        rw [rcmp_eql, decide_eq_decide]
        omega
  · cases hs
set_option maxRecDepth 100000 in
theorem rcmd_ok : CallOk Try.prog 42 (sCmd ln2) := by
  refine .of_run (hc := (ti0b lnR).hc) Try.func42 rfl (by kernel_rfl) (by kernel_rfl) fun xs v ps hs hp w => ?_
  unfold sCmd at hs
  split at hs
  · rename_i k
    cases hs
    clear hp
    by_cases h0 : k < 1
    · refine run_ex hmix ti_ok ti0b_ok 999 false 400 [true, true] (fun ar lf => by conv => lhs; cbv) (allP ?_) ?_
      · simp only [conj, and_true, Int.ofNat_eq_natCast, arR, rcmp_lss, rcmp_gtr, rcmp_geq, rcmp_leq, rcmp_eql, rcmp_neq, decide_eq_true_eq, decide_eq_false_iff_not, ne_eq, not_true_eq_false, not_false_eq_true, Int.toNat_natCast, List.length_cons, List.length_nil]
        ((repeat' with_reducible apply And.intro) <;> first | omega | assumption | rfl | trivial)
      · refine Run.ret ti_ok rfl rfl (.a (.str ?_))
        show _ = cmdOf k
        unfold cmdOf
        split
        · have e : k = 0 := by omega
          subst e
          rfl
        · rfl
    · by_cases h1 : k < 19
      · refine run_ex hmix ti_ok ti0b_ok 999 false 400 [false, false] (fun ar lf => by conv => lhs; cbv) (allP ?_) ?_
        · simp only [conj, and_true, Int.ofNat_eq_natCast, arR, rcmp_lss, rcmp_gtr, rcmp_geq, rcmp_leq, rcmp_eql, rcmp_neq, decide_eq_true_eq, decide_eq_false_iff_not, ne_eq, not_true_eq_false, not_false_eq_true, Int.toNat_natCast, List.length_cons, List.length_nil]
          ((repeat' with_reducible apply And.intro) <;> first | omega | assumption | rfl | trivial)
        · refine Run.ret ti_ok rfl rfl (.a (.str ?_))
          show _ = cmdOf k
          have e : cmdOf k = cmds.getD k.toNat .empty := if_pos (by omega)
          rw [e]
          exact str_at cmds k.toNat
      · refine run_ex hmix ti_ok ti0b_ok 999 false 400 [false, true] (fun ar lf => by conv => lhs; cbv) (allP ?_) ?_
        · simp only [conj, and_true, Int.ofNat_eq_natCast, arR, rcmp_lss, rcmp_gtr, rcmp_geq, rcmp_leq, rcmp_eql, rcmp_neq, decide_eq_true_eq, decide_eq_false_iff_not, ne_eq, not_true_eq_false, not_false_eq_true, Int.toNat_natCast, List.length_cons, List.length_nil]
          ((repeat' with_reducible apply And.intro) <;> first | omega | assumption | rfl | trivial)
        · refine Run.ret ti_ok rfl rfl (.a (.str ?_))
          exact (if_neg (by omega)).symm
  · cases hs
def tra (lf : LNa) : Tbl := tbL [(45, sCmd lf.toLN2), (81, sItemed lf)] []
theorem tra_ok : TblOk Try.prog (tra lna) := tbL_ok (List.forall_mem_cons.2 ⟨cmd_ok, List.forall_mem_cons.2 ⟨itemed_ok, nofun⟩⟩) nofun
def sKind (lf : LNa) : ESpec := fun l => match l with
  | [.one (.str c)] => some (.a (.one (.int .i64 (lf.kOf c))), [])
  | _ => none
set_option maxRecDepth 100000 in
theorem kind_ok : CallOk Try.prog 46 (sKind lna) := by
  refine .of_run (hc := (tra lna).hc) Try.func46 rfl (by kernel_rfl) (by kernel_rfl) fun xs v ps hs hp w => ?_
  unfold sKind at hs
  split at hs
  · rename_i c
    cases hs
    clear hp
    refine run_pa hmix ti_ok tra_ok 0 false 400 [] [0, 3] [3] (fun ar lf => by conv => lhs; cbv) (allP ?_) ?_
    · trivial
    refine Run.loop (ι := {p : Int // (1 ≤ p ∧ p ≤ 19) ∧ ∀ q, 1 ≤ q → q < p → kindOf c ≠ q})
      (fun i => ([.a (.one (.str c)), .any, .any, .a (.one (.int .i64 i.1)), .any, .any, .any, .any, .any, .any, .any, .any, .any], []))
      (fun i => (19 - i.1).toNat) ⟨1, by omega, fun q h1 h2 => by omega⟩ ?_
    rintro ⟨p, hp, hq⟩ ih
    try simp only at hp hq
    have e1 : rbin .add .i64 p 1 = p + 1 := addi (by omega) (by omega)
    by_cases hlt : p ≤ 18
    · have hi := kindOf_iff c p hp.1 hlt
      by_cases hk : kindOf c = p
      · have hh : hitB c p = true := by rw [hi, decide_eq_true hk]
        refine run_ex hmix ti_ok tra_ok 999 false 400 [true, true] (fun ar lf => by conv => lhs; cbv) (allP ?_) ?_
        · simp only [conj, and_true, Int.ofNat_eq_natCast, arR, rcmp_lss, rcmp_gtr, rcmp_geq, rcmp_leq, rcmp_eql, rcmp_neq, decide_eq_true_eq, decide_eq_false_iff_not, ne_eq, not_true_eq_false, not_false_eq_true, Int.toNat_natCast, List.length_cons, List.length_nil]
          exact ⟨hh, hlt⟩
        · refine Run.ret ti_ok rfl rfl (.a (.int ?_))
          exact hk.symm
      · have hh : hitB c p = false := by rw [hi, decide_eq_false hk]
        refine run_pa hmix ti_ok tra_ok 2 true 400 [true, false] [0, 3] [3] (fun ar lf => by conv => lhs; cbv) (allP ?_) ?_
        · simp only [conj, and_true, Int.ofNat_eq_natCast, arR, rcmp_lss, rcmp_gtr, rcmp_geq, rcmp_leq, rcmp_eql, rcmp_neq, decide_eq_true_eq, decide_eq_false_iff_not, ne_eq, not_true_eq_false, not_false_eq_true, Int.toNat_natCast, List.length_cons, List.length_nil]
          exact ⟨hh, hlt⟩
        · refine ih ⟨_, ?_, ?_⟩ ?_ _ _
          · show 1 ≤ rbin .add .i64 p 1 ∧ rbin .add .i64 p 1 ≤ 19
            rw [e1]; omega
          · show ∀ q, 1 ≤ q → q < rbin .add .i64 p 1 → _
            rw [e1]
            intro q h1 h2
            by_cases h : q < p
            · exact hq q h1 h
            · obtain rfl : q = p := by omega
              exact hk
          · show (19 - rbin .add .i64 p 1).toNat < (19 - p).toNat
            rw [e1]; omega
    · refine run_ex hmix ti_ok tra_ok 999 false 400 [false] (fun ar lf => by conv => lhs; cbv) (allP ?_) ?_
      · simp only [conj, and_true, Int.ofNat_eq_natCast, arR, rcmp_lss, rcmp_gtr, rcmp_geq, rcmp_leq, rcmp_eql, rcmp_neq, decide_eq_true_eq, decide_eq_false_iff_not, ne_eq, not_true_eq_false, not_false_eq_true, Int.toNat_natCast, List.length_cons, List.length_nil]
        omega
      · refine Run.ret ti_ok rfl rfl (.a (.lit ?_))
        show (0 : Int) = kindOf c
        have h := kindOf_rng c
        by_cases h0 : kindOf c = 0
        · exact h0.symm
        · exact absurd rfl (hq (kindOf c) (by omega) (by omega))
  · cases hs
def sAsked (lf : LNa) : ESpec := fun l => match l with
  | [.one (.int .i64 k), .one (.dat s xs none)] => if shEq s (.two (.int .u32) (.arr .u8 32)) then some (.tup [.agg (.prt [.v MS (lf.askD k xs)]), .one (.int .i64 (lf.askE k xs))], [lf.itOk xs]) else none
  | _ => none
set_option maxRecDepth 100000 in
set_option maxHeartbeats 4000000 in
theorem asked_ok : CallOk Try.prog 44 (sAsked lna) := by
  refine .of_run (hc := (tra lna).hc) Try.func44 rfl (by kernel_rfl) (by kernel_rfl) fun xs v ps hs hp w => ?_
  unfold sAsked at hs
  split at hs
  · rename_i k s xs
    split at hs
    · rename_i hsh
      obtain rfl := shEq_eq hsh
      clear hsh
      cases hs
      have hx : xs.length ≤ 9223372036854775807 := hp (lna.itOk xs) (by simp)
      clear hp
      have hML : maxLen = 9223372036854775807 := by decide
      by_cases hk : 8 ≤ k ∧ k ≤ 10
      · by_cases hl : xs.length ≤ 500
        · have e1 : lna.askD k xs = itemsD k xs := if_pos ⟨hk.1, hk.2, hl⟩
          have e2 : lna.askE k xs = 0 := by show (if _ then _ else _) = _; rw [if_pos hk, if_pos hl]
          rw [e1, e2]
          refine run_ex hmix ti_ok tra_ok 999 false 400 [false, false] (fun ar lf => by conv => lhs; cbv) (allP ?_) ?_
          · simp only [conj, and_true, Int.ofNat_eq_natCast, arR, rcmp_lss, rcmp_gtr, rcmp_geq, rcmp_leq, rcmp_eql, rcmp_neq, decide_eq_true_eq, decide_eq_false_iff_not, ne_eq, not_true_eq_false, not_false_eq_true, Int.toNat_natCast, List.length_cons, List.length_nil]
            refine ⟨by omega, by omega, ?_⟩
            show (!decide (8 ≤ k ∧ k ≤ 10)) = false
            rw [decide_eq_true hk]; rfl
          · exact Run.ret ti_ok rfl rfl (VLe.tup2 (ALe.prt rfl) (.lit rfl))
        · have e1 : lna.askD k xs = kindD 0 0 := if_neg (by omega)
          have e2 : lna.askE k xs = 5 := by show (if _ then _ else _) = _; rw [if_pos hk, if_neg hl]
          rw [e1, e2]
          refine run_ex hmix ti_ok tra_ok 999 false 400 [false, true] (fun ar lf => by conv => lhs; cbv) (allP ?_) ?_
          · simp only [conj, and_true, Int.ofNat_eq_natCast, arR, rcmp_lss, rcmp_gtr, rcmp_geq, rcmp_leq, rcmp_eql, rcmp_neq, decide_eq_true_eq, decide_eq_false_iff_not, ne_eq, not_true_eq_false, not_false_eq_true, Int.toNat_natCast, List.length_cons, List.length_nil]
            refine ⟨by omega, ?_⟩
            show (!decide (8 ≤ k ∧ k ≤ 10)) = false
            rw [decide_eq_true hk]; rfl
          · exact Run.ret ti_ok rfl rfl (VLe.tup2 (ALe.prt rfl) (.lit rfl))
      · have e1 : lna.askD k xs = kindD 0 0 := if_neg (by omega)
        have e2 : lna.askE k xs = 90 := if_neg hk
        rw [e1, e2]
        refine run_ex hmix ti_ok tra_ok 999 false 400 [true] (fun ar lf => by conv => lhs; cbv) (allP ?_) ?_
        · simp only [conj, and_true, Int.ofNat_eq_natCast, arR, rcmp_lss, rcmp_gtr, rcmp_geq, rcmp_leq, rcmp_eql, rcmp_neq, decide_eq_true_eq, decide_eq_false_iff_not, ne_eq, not_true_eq_false, not_false_eq_true, Int.toNat_natCast, List.length_cons, List.length_nil]
          show (!decide (8 ≤ k ∧ k ≤ 10)) = true
          rw [decide_eq_false hk]; rfl
        · exact Run.ret ti_ok rfl rfl (VLe.tup2 (ALe.prt rfl) (.lit rfl))
    · cases hs
  · cases hs
def sNonU (lf : LNa) : ESpec := fun l => match l with
  | [.one (.int .i64 k), .one (.int .u64 n)] => some (.tup [.agg (.prt [.v MS (lf.nonD k n)]), .one (.int .i64 (lf.nonE k))], [])
  | _ => none
theorem nonU_ok : CallOk Try.prog 43 (sNonU lna) := by
  refine CallOk.split fun l v ps hs hp => ?_
  unfold sNonU at hs
  split at hs
  · rename_i k n
    cases hs
    by_cases h : k = 5 ∨ k = 6
    · refine ⟨_, [lnR.n56 k], nonced_ok, ?_, List.forall_mem_singleton.2 h⟩
      show some (V.tup [.agg (.prt [.v MS (kindD k n)]), .one (.int .i64 0)], _) = _
      rw [show lna.nonD k n = kindD k n from if_pos h, show lna.nonE k = 0 from if_pos h]
    · refine ⟨_, [lnR.n56' k], noncedNo_ok, ?_, List.forall_mem_singleton.2 h⟩
      show some (V.tup [.agg (.prt [.v MS (kindD 0 0)]), .one (.int .i64 90)], _) = _
      rw [show lna.nonD k n = kindD 0 0 from if_neg h, show lna.nonE k = 90 from if_neg h]
  · cases hs
end Go.Proofs.Ytlbllaocdilafaa
