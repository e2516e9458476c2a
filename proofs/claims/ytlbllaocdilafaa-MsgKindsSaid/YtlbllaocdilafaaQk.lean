import Derived.Test.YtlbllaocdilafaaQ0
set_option linter.unusedSimpArgs false
set_option linter.unusedVariables false
namespace Go.Eng
open Go
theorem row_mk {l : List Int} {m : Nat} (h : l.length = m) : ((List.range m).map fun j => l.getD j 0) = l := by
  apply List.ext_getElem
  · simp [h]
  · intro i h1 h2
    simp only [List.getElem_map, List.getElem_range]
    rw [List.getD_eq_getElem?_getD, List.getElem?_eq_getElem h2]; rfl
def NS : Sh := .two (.int .u32) (.two (.int .u64) (.two (.arr .u8 16) (.int .u16)))
def nFit (d : D) : Prop := ∃ n : Nt, d = n.D ∧ n.ip.length = 16
structure LN3 extends LQm where
  nFit : D → Prop
def ln3 : LN3 where
  toLQm := lqmR
  nFit := nFit
end Go.Eng
namespace Go.Proofs.Ytlbllaocdilafaa
open Go Go.Eng Go.Proofs Go.RowKit
attribute [local irreducible] CallOk HOk Run TIok rbin rcmp run1 updF shfF blitF
def tk0 (lf : LN3) : Tbl := tbL [] []
theorem tk0_ok : TblOk Try.prog (tk0 ln3) := tbL_ok nofun nofun
def sNet (lf : LN3) : ESpec := fun l => match l with
  | [.agg (.prt [.v s d])] => if shEq s NS then some (.a (.agg (.prt [.v NS d])), [lf.nFit d]) else none
  | _ => none
theorem net_ok : CallOk Try.prog 65 (sNet ln3) := by
  refine .of_run (hc := (tk0 ln3).hc) Try.func65 rfl (by kernel_rfl) (by kernel_rfl) fun xs v ps hs hp w => ?_
  unfold sNet at hs
  split at hs
  · rename_i s d
    split at hs
    · rename_i hsh
      obtain rfl := shEq_eq hsh
      clear hsh
      cases hs
      obtain ⟨⟨t, s, ip, p⟩, rfl, h16⟩ : nFit d := hp (ln3.nFit d) (by simp)
      clear hp
      refine run_ex hmix ti_ok tk0_ok 999 false 400 [] (fun ar lf => by conv => lhs; cbv) (allP ?_) ?_
      · trivial
      · refine Run.ret ti_ok rfl rfl (.a (ALe.prt ?_))
        show G.prt [.v NS (.pair (.int t) (.pair (.int s) (.pair (.row ((List.range 16).map fun j => ip.getD j 0)) (.int p))))] = _
        rw [row_mk h16]
        rfl
    · cases hs
  · cases hs
end Go.Proofs.Ytlbllaocdilafaa
