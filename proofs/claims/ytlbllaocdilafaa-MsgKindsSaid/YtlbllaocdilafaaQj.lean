import Derived.Test.YtlbllaocdilafaaQi
set_option linter.unusedSimpArgs false
set_option linter.unusedVariables false
namespace Go.Eng
open Go
/-- the commands, by kind -/
def cmds : List ByteArray := [⟨⟨[]⟩⟩, ⟨⟨[118, 101, 114, 115, 105, 111, 110]⟩⟩, ⟨⟨[118, 101, 114, 97, 99, 107]⟩⟩, ⟨⟨[103, 101, 116, 97, 100, 100, 114]⟩⟩, ⟨⟨[115, 101, 110, 100, 104, 101, 97, 100, 101, 114, 115]⟩⟩, ⟨⟨[112, 105, 110, 103]⟩⟩, ⟨⟨[112, 111, 110, 103]⟩⟩, ⟨⟨[97, 100, 100, 114]⟩⟩, ⟨⟨[105, 110, 118]⟩⟩, ⟨⟨[103, 101, 116, 100, 97, 116, 97]⟩⟩, ⟨⟨[110, 111, 116, 102, 111, 117, 110, 100]⟩⟩, ⟨⟨[103, 101, 116, 104, 101, 97, 100, 101, 114, 115]⟩⟩, ⟨⟨[104, 101, 97, 100, 101, 114, 115]⟩⟩, ⟨⟨[116, 120]⟩⟩, ⟨⟨[98, 108, 111, 99, 107]⟩⟩, ⟨⟨[115, 101, 110, 100, 99, 109, 112, 99, 116]⟩⟩, ⟨⟨[99, 109, 112, 99, 116, 98, 108, 111, 99, 107]⟩⟩, ⟨⟨[103, 101, 116, 98, 108, 111, 99, 107, 116, 120, 110]⟩⟩, ⟨⟨[98, 108, 111, 99, 107, 116, 120, 110]⟩⟩]
def cmdOf (k : Int) : ByteArray := if 0 ≤ k ∧ k < 19 then cmds.getD k.toNat .empty else ⟨⟨[]⟩⟩
structure LN2 extends LN1 where
  cmd : Int → ByteArray
def ln2 : LN2 where
  toLN1 := lnR
  cmd := cmdOf
end Go.Eng
namespace Go.Proofs.Ytlbllaocdilafaa
open Go Go.Eng Go.Proofs Go.RowKit
attribute [local irreducible] CallOk HOk Run TIok rbin rcmp run1 updF shfF blitF
def sCmd (lf : LN2) : ESpec := fun l => match l with
  | [.one (.int .i64 k)] => some (.a (.one (.str (lf.cmd k))), [])
  | _ => none
set_option maxRecDepth 100000 in
theorem cmd_ok : CallOk Try.prog 45 (sCmd ln2) := by
  refine .of_run (hc := (ti0b lnR).hc) Try.func45 rfl (by kernel_rfl) (by kernel_rfl) fun xs v ps hs hp w => ?_
  unfold sCmd at hs
  split at hs
  · rename_i k
    cases hs
    clear hp
    by_cases h0 : k < 0
    · refine run_ex hmix ti_ok ti0b_ok 999 false 400 [true] (fun ar lf => by conv => lhs; cbv) (allP ?_) ?_
      · simp only [conj, and_true, Int.ofNat_eq_natCast, arR, rcmp_lss, rcmp_gtr, rcmp_geq, rcmp_leq, rcmp_eql, rcmp_neq, decide_eq_true_eq, decide_eq_false_iff_not, ne_eq, not_true_eq_false, not_false_eq_true, Int.toNat_natCast, List.length_cons, List.length_nil]
        ((repeat' with_reducible apply And.intro) <;> first | omega | assumption | rfl | trivial)
      · refine Run.ret ti_ok rfl rfl (.a (.str ?_))
        exact (if_neg (by omega)).symm
    · by_cases h1 : k < 19
      · refine run_ex hmix ti_ok ti0b_ok 999 false 400 [false, false] (fun ar lf => by conv => lhs; cbv) (allP ?_) ?_
        · simp only [conj, and_true, Int.ofNat_eq_natCast, arR, rcmp_lss, rcmp_gtr, rcmp_geq, rcmp_leq, rcmp_eql, rcmp_neq, decide_eq_true_eq, decide_eq_false_iff_not, ne_eq, not_true_eq_false, not_false_eq_true, Int.toNat_natCast, List.length_cons, List.length_nil]
          ((repeat' with_reducible apply And.intro) <;> first | omega | assumption | rfl | trivial)
        · refine Run.ret ti_ok rfl rfl (.a (.str ?_))
          show _ = cmdOf k
          have e : cmdOf k = cmds.getD k.toNat .empty := if_pos (by omega)
          rw [e]
          show cmds.getD (0 + k.toNat * 1) .empty = _
          rw [Nat.zero_add, Nat.mul_one]
      · refine run_ex hmix ti_ok ti0b_ok 999 false 400 [false, true] (fun ar lf => by conv => lhs; cbv) (allP ?_) ?_
        · simp only [conj, and_true, Int.ofNat_eq_natCast, arR, rcmp_lss, rcmp_gtr, rcmp_geq, rcmp_leq, rcmp_eql, rcmp_neq, decide_eq_true_eq, decide_eq_false_iff_not, ne_eq, not_true_eq_false, not_false_eq_true, Int.toNat_natCast, List.length_cons, List.length_nil]
          ((repeat' with_reducible apply And.intro) <;> first | omega | assumption | rfl | trivial)
        · refine Run.ret ti_ok rfl rfl (.a (.str ?_))
          exact (if_neg (by omega)).symm
  · cases hs
end Go.Proofs.Ytlbllaocdilafaa
