import Derived.Test.YtlbllaocdilafaaPb
set_option linter.unusedSimpArgs false
set_option linter.unusedVariables false
namespace Go.Proofs.Ytlbllaocdilafaa
open Go Go.Eng Go.Proofs Go.RowKit
attribute [local irreducible] CallOk HOk Run TIok rbin rcmp run1 updF shfF blitF
def tq0 (lf : LA) : Tbl := tbL [] [(134, hWS lf.toLB)]
theorem tq0_ok : TblOk Try.prog (tq0 laR) := tbL_ok (nofun) (List.forall_mem_cons.2 ⟨writeS_ok, nofun⟩)
def hWBytes (lf : LA) : HSpec := fun l bs => match l, bs with
  | [.one (.ptr 0 (.lit 0)), .one (.str u)], [⟨false, .lst [.adr 0 167, .bf s 1 5]⟩, ⟨false, .tail⟩] => some (.tup [], [⟨false, .lst [.adr 0 167, .bf (lf.cat s u) 2 5]⟩, ⟨true, .dead⟩, ⟨false, .tail⟩], [lf.fits s u])
  | _, _ => none

theorem wbytes_ok : HOk Try.prog 96 (hWBytes laR) := by
  refine .of_run (hc := (tq0 laR).hc) Try.func96 rfl (by kernel_rfl) (by kernel_rfl) fun las lbs v lbs' ps hs hp w => ?_
  unfold hWBytes at hs
  split at hs
  · rename_i u s
    cases hs
    have hf : laR.fits s u := hp (laR.fits s u) (by simp)
    refine run_ex hmix ti_ok tq0_ok 999 false 400 [] (fun ar lf => by conv => lhs; cbv) (allP ?_) ?_
    · exact ⟨hf, trivial⟩
    exact Run.fin ti_ok rfl rfl (HEnd.pack [0, 1, 2] rfl rfl rfl rfl)
  · cases hs
def tq1 (lf : LA) : Tbl := tbL [(131, nP (sLay lf))] [(96, nH (hWBytes lf))]
theorem tq1_ok : TblOk Try.prog (tq1 laR) := tbL_ok (List.forall_mem_cons.2 ⟨lay_ok.nP, nofun⟩) (List.forall_mem_cons.2 ⟨wbytes_ok.nH, nofun⟩)
def hWU64 (lf : LA) : HSpec := fun l bs => match l, bs with
  | [.one (.ptr 0 (.lit 0)), .one (.int .u64 n)], [⟨false, .lst [.adr 0 167, .bf s 1 5]⟩, ⟨false, .tail⟩] => some (.tup [], [⟨false, .lst [.adr 0 167, .bf (lf.cat s (lf.lay n 8)) 2 5]⟩, ⟨true, .dead⟩, ⟨false, .tail⟩], [lf.layOk n 8, lf.fits s (lf.lay n 8)])
  | _, _ => none

theorem wu64_ok : HOk Try.prog 91 (hWU64 laR) := by
  refine .of_run (hc := (tq1 laR).hc) Try.func91 rfl (by kernel_rfl) (by kernel_rfl) fun las lbs v lbs' ps hs hp w => ?_
  unfold hWU64 at hs
  split at hs
  · rename_i n s
    cases hs
    have h1 : laR.layOk n 8 := hp (laR.layOk n 8) (by simp)
    have h2 : laR.fits s (laR.lay n 8) := hp (laR.fits s (laR.lay n 8)) (by simp)
    refine run_ex hmix ti_ok tq1_ok 999 false 400 [] (fun ar lf => by conv => lhs; cbv) (allP ?_) ?_
    · exact ⟨h2, h1, trivial⟩
    exact Run.fin ti_ok rfl rfl (HEnd.pack [0, 1, 2] rfl rfl rfl rfl)
  · cases hs
def tq2 (lf : LA) : Tbl := tbL [] [(100, hBLen lf.toLB), (101, hBStr lf.toLB)]
theorem tq2_ok : TblOk Try.prog (tq2 laR) := tbL_ok (nofun) (List.forall_mem_cons.2 ⟨blen_ok, List.forall_mem_cons.2 ⟨bstr_ok, nofun⟩⟩)
def hWLen (lf : LA) : HSpec := fun l bs => match l, bs with
  | [.one (.ptr 0 (.lit 0))], [⟨false, .lst [.adr 0 167, .bf s 1 5]⟩, ⟨false, .tail⟩] => some (.a (.one (.int .i64 (lf.size s))), [⟨false, .lst [.adr 0 167, .bf s 1 5]⟩, ⟨false, .tail⟩], [])
  | _, _ => none

theorem wlen_ok : HOk Try.prog 71 (hWLen laR) := by
  refine .of_run (hc := (tq2 laR).hc) Try.func71 rfl (by kernel_rfl) (by kernel_rfl) fun las lbs v lbs' ps hs hp w => ?_
  unfold hWLen at hs
  split at hs
  · rename_i s
    cases hs
    refine run_ex hmix ti_ok tq2_ok 999 false 400 [] (fun ar lf => by conv => lhs; cbv) (allP ?_) ?_
    · trivial
    exact Run.ret ti_ok rfl rfl (HEnd.pack [0, 1] rfl rfl rfl rfl)
  · cases hs
def hWText (lf : LA) : HSpec := fun l bs => match l, bs with
  | [.one (.ptr 0 (.lit 0))], [⟨false, .lst [.adr 0 167, .bf s 1 5]⟩, ⟨false, .tail⟩] => some (.a (.one (.str s)), [⟨false, .lst [.adr 0 167, .dat (.int .u8) (lf.byt s) none]⟩, ⟨true, .dead⟩], [lf.fit1 s])
  | _, _ => none

theorem wtext_ok : HOk Try.prog 72 (hWText laR) := by
  refine .of_run (hc := (tq2 laR).hc) Try.func72 rfl (by kernel_rfl) (by kernel_rfl) fun las lbs v lbs' ps hs hp w => ?_
  unfold hWText at hs
  split at hs
  · rename_i s
    cases hs
    have hf : laR.fit1 s := hp (laR.fit1 s) (by simp)
    refine run_ex hmix ti_ok tq2_ok 999 false 400 [] (fun ar lf => by conv => lhs; cbv) (allP ?_) ?_
    · exact ⟨hf, trivial⟩
    exact Run.ret ti_ok rfl rfl (HEnd.pack [0, 1] rfl rfl rfl rfl)
  · cases hs
end Go.Proofs.Ytlbllaocdilafaa
