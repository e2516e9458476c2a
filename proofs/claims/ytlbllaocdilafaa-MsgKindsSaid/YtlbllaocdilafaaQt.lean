import Derived.Test.YtlbllaocdilafaaQs
set_option linter.unusedSimpArgs false
set_option linter.unusedVariables false
namespace Go.Proofs.Ytlbllaocdilafaa
open Go Go.Eng Go.Proofs Go.RowKit
attribute [local irreducible] CallOk HOk Run TIok rbin rcmp run1 updF shfF blitF
def tt9 (lf : LN8) : Tbl := tbL [(43, nP (sNonced lf.toLN7.toLN6.toLN5.toLN4.toLN1)), (37, sEnc5 lf.toLN7), (41, nP (sDec5 lf))] []
theorem tt9_ok : TblOk Try.prog (tt9 ln8) := tbL_ok (List.forall_mem_cons.2 ⟨nonced_ok.nP, List.forall_mem_cons.2 ⟨enc5_ok, List.forall_mem_cons.2 ⟨dec5_ok.nP, nofun⟩⟩⟩) nofun
def sAwake (lf : LN8) : ESpec := fun l => match l with
  | [] => some (.a (.one (.bool true)), [])
  | _ => none
set_option maxRecDepth 100000 in
set_option maxHeartbeats 4000000 in
theorem awake_ok : CallOk Try.prog 33 (sAwake ln8) := by
  refine .of_run (hc := (tt9 ln8).hc) Try.func33 rfl (by kernel_rfl) (by kernel_rfl) fun xs v ps hs hp w => ?_
  unfold sAwake at hs
  split at hs
  · cases hs
    clear hp
    refine run_ex hmix ti_ok tt9_ok 999 false 400 [true, true, true, true] (fun ar lf => by conv => lhs; cbv) (allP ?_) ?_
    · simp only [conj, and_true, Int.ofNat_eq_natCast, arR, rcmp_lss, rcmp_gtr, rcmp_geq, rcmp_leq, rcmp_eql, rcmp_neq, decide_eq_true_eq, decide_eq_false_iff_not, ne_eq, not_true_eq_false, not_false_eq_true, Int.toNat_natCast, List.length_cons, List.length_nil, dF_m, dS_m, dI_m, dL_m, dX_m]
      (repeat' with_reducible apply And.intro) <;> first
        | trivial
        | exact ⟨5, 7, .inl rfl, rfl⟩
        | exact lay_size 7 8
        | exact (Or.inl rfl : (5 : Int) = 5 ∨ (5 : Int) = 6)
        | (show (0 : Int) ≤ 7 ∧ (7 : Int) < 18446744073709551616 ∧ (0 : Int) ≤ 8 ∧ (8 : Int) ≤ 1073741824; omega)
        | (show ((leV (rdT (layB 7 8) 0 0 8).data.toList : Nat) : Int) = 7; kernel_rfl)
    · refine Run.ret ti_ok rfl rfl (.a (.bool ?_))
      show rcmp .eql ((layB 7 8).size : Int) 8 = true
      rw [lay_size, rcmp_eql]; rfl
  · cases hs
end Go.Proofs.Ytlbllaocdilafaa
