import Derived.Test.YtlbllaocdilafaaQo
import Derived.Test.YtlbllaocdilafaaQj
import Derived.Test.YtlbllaocdilafaaQp
set_option linter.unusedSimpArgs false
set_option linter.unusedVariables false
namespace Go.Eng
open Go
theorem lay_size (n : Int) (k : Nat) : (layB n k).size = k := by simp [layB, ByteArray.size]
structure LN7 extends LN6 where
  cmd : Int → ByteArray
def ln7 : LN7 where
  toLN6 := ln6
  cmd := cmdOf
end Go.Eng
namespace Go.Proofs.Ytlbllaocdilafaa
open Go Go.Eng Go.Proofs Go.RowKit
attribute [local irreducible] CallOk HOk Run TIok rbin rcmp run1 updF shfF blitF
def tr7 (lf : LN7) : Tbl := tbL [(45, nP (sCmd ⟨lf.toLN6.toLN5.toLN4.toLN1, lf.cmd⟩)), (67, sNamed5 lf.toLN6.toLN5.toLN4), (66, sMany5 lf.toLN6.toLN5.toLN4), (68, sWrong5 lf.toLN6.toLN5)] [(69, hNewW lf.toLN6.toLN5.toLN4.toLN1.toLQm.toLE1.toLA.toLB), (70, nH (hPut5 lf.toLN6.toLN5)), (71, nH (hWLen lf.toLN6.toLN5.toLN4.toLN1.toLQm.toLE1.toLA)), (72, nH (hWText lf.toLN6.toLN5.toLN4.toLN1.toLQm.toLE1.toLA))]
theorem tr7_ok : TblOk Try.prog (tr7 ln7) := tbL_ok (List.forall_mem_cons.2 ⟨cmd_ok.nP, List.forall_mem_cons.2 ⟨named5_ok, List.forall_mem_cons.2 ⟨many5_ok, List.forall_mem_cons.2 ⟨wrong5_ok, nofun⟩⟩⟩⟩) (List.forall_mem_cons.2 ⟨newW_ok, List.forall_mem_cons.2 ⟨put5_ok.nH, List.forall_mem_cons.2 ⟨wlen_ok.nH, List.forall_mem_cons.2 ⟨wtext_ok.nH, nofun⟩⟩⟩⟩)
def sEnc5 (lf : LN7) : ESpec := fun l => match l with
  | [.agg (.prt [.v s d])] => if shEq s MS then some (.tup [.one (.str (lf.lay (lf.non d) 8)), .one (.int .i64 0)], [lf.ping d, lf.layOk (lf.non d) 8]) else none
  | _ => none
set_option maxRecDepth 100000 in
set_option maxHeartbeats 4000000 in
theorem enc5_ok : CallOk Try.prog 37 (sEnc5 ln7) := by
  refine .of_run (hc := (tr7 ln7).hc) Try.func37 rfl (by kernel_rfl) (by kernel_rfl) fun xs v ps hs hp w => ?_
  unfold sEnc5 at hs
  split at hs
  · rename_i s d
    split at hs
    · rename_i hsh
      obtain rfl := shEq_eq hsh
      clear hsh
      cases hs
      have hpg : isPing d := hp (ln7.ping d) (by simp)
      obtain ⟨k, n, hk, rfl⟩ := hpg
      have h1 : ln7.layOk n 8 := hp (ln7.layOk (ln7.non (kindD k n)) 8) (by simp)
      clear hp
      refine run_ex hmix ti_ok tr7_ok 999 false 400 [false, false, false, false] (fun ar lf => by conv => lhs; cbv) (allP ?_) ?_
      · simp only [conj, and_true, Int.ofNat_eq_natCast, arR, rcmp_lss, rcmp_gtr, rcmp_geq, rcmp_leq, rcmp_eql, rcmp_neq, decide_eq_true_eq, decide_eq_false_iff_not, ne_eq, not_true_eq_false, not_false_eq_true, Int.toNat_natCast, List.length_cons, List.length_nil, dF_m, dS_m, dI_m, dL_m, dX_m]
        have z8 : (layB n 8).size = 8 := lay_size n 8
        have zc : ((ByteArray.empty ++ layB n 8 : ByteArray).size : Int) = 8 := by rw [ByteArray.size_append, z8]; rfl
        have hcmd : ((cmdOf k).toList == ByteArray.empty.toList) = false := by rcases hk with rfl | rfl <;> kernel_rfl
        (repeat' with_reducible apply And.intro) <;> first
          | exact h1
          | exact ⟨k, n, hk, rfl⟩
          | exact hcmd
          | trivial
          | (show ((ByteArray.empty ++ layB n 8 : ByteArray).size) ≤ 9223372036854775807; rw [ByteArray.size_append, z8]; decide)
          | (show ((ByteArray.empty ++ layB n 8 : ByteArray).size) ≤ 140737488355328; rw [ByteArray.size_append, z8]; decide)
          | (show ByteArray.empty.size + (layB n 8).size ≤ 140737488355328; rw [z8]; decide)
          | (show ¬ ((ByteArray.empty ++ layB n 8 : ByteArray).size : Int) > 16384; rw [zc]; decide)
      · refine Run.ret ti_ok rfl rfl (VLe.tup2 (.str ?_) (.lit rfl))
        show ByteArray.empty ++ layB n 8 = layB n 8
        exact ByteArray.empty_append
    · cases hs
  · cases hs
end Go.Proofs.Ytlbllaocdilafaa
