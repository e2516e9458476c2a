import Derived.Test.YtjiciplcdklfcaaDoorPb
set_option linter.unusedSimpArgs false
set_option linter.unusedVariables false
namespace Go.Proofs.YtjiciplcdklfcaaDoor
open Go Go.Eng Go.Proofs Go.RowKit
attribute [local irreducible] CallOk HOk Run TIok rbin rcmp run1 updF shfF blitF
def tq0 (lf : LA) : Tbl := tbL [] [(42, hWS lf.toLB)]
theorem tq0_ok : TblOk Tryd.prog (tq0 laR) := tbL_ok (nofun) (List.forall_mem_cons.2 ⟨writeS_ok, nofun⟩)
def hWBytes (lf : LA) : HSpec := fun l bs => match l, bs with
  | [.one (.ptr 0 (.lit 0)), .one (.str u)], [⟨false, .lst [.adr 0 90, .bf s 1 5]⟩, ⟨false, .tail⟩] => some (.tup [], [⟨false, .lst [.adr 0 90, .bf (lf.cat s u) 2 5]⟩, ⟨true, .dead⟩, ⟨false, .tail⟩], [lf.fits s u])
  | _, _ => none

theorem wbytes_ok : HOk Tryd.prog 29 (hWBytes laR) := by
  refine .of_run (hc := (tq0 laR).hc) Tryd.func29 rfl (by kernel_rfl) (by kernel_rfl) fun las lbs v lbs' ps hs hp w => ?_
  unfold hWBytes at hs
  split at hs
  · rename_i u s
    cases hs
    have hf : laR.fits s u := hp (laR.fits s u) (by simp)
    refine run_ex hmix ti_ok tq0_ok 999 false 400 [] (fun ar lf => by conv => lhs; cbv) (allP ?_) ?_
    · exact ⟨hf, trivial⟩
    exact Run.fin ti_ok rfl rfl (HEnd.pack [0, 1, 2] rfl rfl rfl rfl)
  · cases hs
def tq1 (lf : LA) : Tbl := tbL [(41, nP (sLay lf))] [(29, nH (hWBytes lf))]
theorem tq1_ok : TblOk Tryd.prog (tq1 laR) := tbL_ok (List.forall_mem_cons.2 ⟨lay_ok.nP, nofun⟩) (List.forall_mem_cons.2 ⟨wbytes_ok.nH, nofun⟩)
def tq2 (lf : LA) : Tbl := tbL [] [(46, hBLen lf.toLB), (47, hBStr lf.toLB)]
theorem tq2_ok : TblOk Tryd.prog (tq2 laR) := tbL_ok (nofun) (List.forall_mem_cons.2 ⟨blen_ok, List.forall_mem_cons.2 ⟨bstr_ok, nofun⟩⟩)
def hWText (lf : LA) : HSpec := fun l bs => match l, bs with
  | [.one (.ptr 0 (.lit 0))], [⟨false, .lst [.adr 0 90, .bf s 1 5]⟩, ⟨false, .tail⟩] => some (.a (.one (.str s)), [⟨false, .lst [.adr 0 90, .dat (.int .u8) (lf.byt s) none]⟩, ⟨true, .dead⟩], [lf.fit1 s])
  | _, _ => none

theorem wtext_ok : HOk Tryd.prog 31 (hWText laR) := by
  refine .of_run (hc := (tq2 laR).hc) Tryd.func31 rfl (by kernel_rfl) (by kernel_rfl) fun las lbs v lbs' ps hs hp w => ?_
  unfold hWText at hs
  split at hs
  · rename_i s
    cases hs
    have hf : laR.fit1 s := hp (laR.fit1 s) (by simp)
    refine run_ex hmix ti_ok tq2_ok 999 false 400 [] (fun ar lf => by conv => lhs; cbv) (allP ?_) ?_
    · exact ⟨hf, trivial⟩
    exact Run.ret ti_ok rfl rfl (HEnd.pack [0, 1] rfl rfl rfl rfl)
  · cases hs
end Go.Proofs.YtjiciplcdklfcaaDoor
