import Derived.Test.YtjiciplcdklfcaaDoorGn
import Derived.Test.YtjiciplcdklfcaaDoorGg
import Derived.Test.YtjiciplcdklfcaaDoorXi
set_option linter.unusedSimpArgs false
set_option linter.unusedVariables false
namespace Go.Eng
open Go
def partsOk (xs : List D) : Prop := xs.length ≤ 9223372036854775807 ∧ ∀ d ∈ xs, ∃ (tx : ByteArray) (n : Int) (cp : Bool), d = .pair (.str tx) (.pair (.int n) (.bool cp)) ∧ tx.size ≤ 9223372036854775807
structure LG6 extends LG5 where
  same : ByteArray → ByteArray → Prop
  sameI : Int → Int → Prop
  parts : List D → Prop
def lg6 : LG6 where
  toLG5 := lg5
  same a b := a = b
  sameI a b := a = b
  parts := partsOk
end Go.Eng
namespace Go.Proofs.YtjiciplcdklfcaaDoor
open Go Go.Eng Go.Proofs Go.RowKit
attribute [local irreducible] CallOk HOk Run TIok rbin rcmp run1 updF shfF blitF
def tgp (lf : LG6) : Tbl := tbL [(40, uP (sRNeed lf.toLG5))] [(17, hHeld lf.toLG5.toLG4), (26, hNeed lf.toLG5.toLG4), (21, hBroken lf.toLG5.toLG4), (20, hTaken lf.toLG5.toLG4)]
theorem tgp_ok : TblOk Tryd.prog (tgp lg6) := tbL_ok (List.forall_mem_cons.2 ⟨rneed_ok.uP, nofun⟩) (List.forall_mem_cons.2 ⟨held_ok, List.forall_mem_cons.2 ⟨need_ok, List.forall_mem_cons.2 ⟨broken_ok, List.forall_mem_cons.2 ⟨taken_ok, nofun⟩⟩⟩⟩)
def hStands (lf : LG6) : HSpec := fun l bs => match l, bs with
  | [.one (.ptr 0 (.lit 0)), .agg (.lst [.int .u32 m1, .str h1, .int .i64 b1, .int .i64 t1])], [⟨false, .lst [.int .u32 m, .str h, .int .i64 b, .int .i64 t]⟩] => some (.a (.one (.bool true)), [⟨false, .lst [.int .u32 m, .str h, .int .i64 b, .int .i64 t]⟩], [lf.sameI m m1, lf.same h h1, lf.sameI b b1, lf.sameI t t1, lf.held h, lf.layOk m 4])
  | _, _ => none
attribute [local irreducible] hdE hdC hdN hdS deE deC deP deTo sumV needF nextF feedH feedN
set_option maxRecDepth 100000 in
theorem stands_ok : HOk Tryd.prog 23 (hStands lg6) := by
  refine .of_run (hc := (tgp lg6).hc) Tryd.func23 rfl (by kernel_rfl) (by kernel_rfl) fun las lbs v lbs' ps hs hp w => ?_
  unfold hStands at hs
  split at hs
  · rename_i m1 h1 b1 t1 m h b t
    cases hs
    obtain rfl : m = m1 := hp (lg6.sameI m m1) (by simp)
    obtain rfl : h = h1 := hp (lg6.same h h1) (by simp)
    obtain rfl : b = b1 := hp (lg6.sameI b b1) (by simp)
    obtain rfl : t = t1 := hp (lg6.sameI t t1) (by simp)
    have hh : lg6.held h := hp (lg6.held h) (by simp)
    have hm : lg6.layOk m 4 := hp (lg6.layOk m 4) (by simp)
    clear hp
    refine run_pa hmix ti_ok tgp_ok 999 false 400 [] [0, 3, 4] [] (fun ar lf => by conv => lhs; cbv) (allP ?_) ?_
    · trivial
    refine Run.ice 1 3 (.two (.int .u32) (.two .str (.two (.int .i64) (.int .i64)))) (.pair (.int m) (.pair (.str h) (.pair (.int b) (.int t)))) rfl rfl (fun j x hx => hx) rfl (Nat.le_refl _) ?_
    refine Run.fam3 (ι := Unit) (fun _ => ([.a (.one (.ptr 0 (.lit 0))), .any, .any, .a (.one (.dp (.two (.int .u32) (.two .str (.two (.int .i64) (.int .i64)))) (.pair (.int m) (.pair (.str h) (.pair (.int b) (.int t)))))), .a (.one (.lbool false)), .any, .any, .any, .any, .any, .any, .any, .any, .any, .any, .any, .any, .any, .any, .any, .any, .any, .any, .any, .any, .any, .any, .any, .any, .any, .any, .any], [some ⟨false, .lst [.int .u32 m, .str h, .int .i64 b, .int .i64 t]⟩, some ⟨true, .dead⟩])) () ?_
    intro _
    refine run_ex hmix ti_ok tgp_ok 999 false 400 [true, true, true] (fun ar lf => by conv => lhs; cbv) (allP ?_) ?_
    · simp only [conj, and_true, Int.ofNat_eq_natCast, arR, rcmp_lss, rcmp_gtr, rcmp_geq, rcmp_leq, rcmp_eql, rcmp_neq, decide_eq_true_eq, decide_eq_false_iff_not, ne_eq, not_true_eq_false, not_false_eq_true, Int.toNat_natCast, List.length_cons, List.length_nil]
      exact ⟨rfl, trivial, hh, hm, hh, hm, rfl⟩
    · refine Run.ret ti_ok rfl rfl (HEnd.packV [0] rfl rfl rfl (.of (.a (.bool ?_))))
      show rcmp .eql t t = true
      rw [rcmp_eql]; simp
  · cases hs
end Go.Proofs.YtjiciplcdklfcaaDoor
