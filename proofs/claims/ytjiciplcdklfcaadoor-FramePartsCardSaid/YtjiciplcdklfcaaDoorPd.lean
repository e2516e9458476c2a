import Derived.Test.YtjiciplcdklfcaaDoorPc
set_option linter.unusedSimpArgs false
set_option linter.unusedVariables false
namespace Go.Eng
open Go
theorem rT_lt (s : ByteArray) (at_ e : Int) (k : Nat) (h : 0 ≤ at_) : leV (rdT s at_ e k).data.toList < 256 ^ k := by
  have h1 := leV_lt (rdT s at_ e k).data.toList
  have h2 : (rdT s at_ e k).data.toList.length ≤ k := by
    have := Go.Proofs.YtjiciplcdklfcaaDoor.rT_size s at_ e k h
    have e1 : (rdT s at_ e k).data.toList.length = (rdT s at_ e k).size := by rw [Array.length_toList]; rfl
    omega
  exact Nat.lt_of_lt_of_le h1 (Nat.pow_le_pow_right (by decide) h2)
end Go.Eng
namespace Go.Proofs.YtjiciplcdklfcaaDoor
open Go Go.Eng Go.Proofs Go.RowKit
attribute [local irreducible] CallOk HOk Run TIok rbin rcmp run1 updF shfF blitF
def tpd (lf : LA) : Tbl := tbL [(49, sTake lf), (41, nP (sLay lf))] [(50, nH (hBytes lf)), (29, nH (hWBytes lf))]
theorem tpd_ok : TblOk Tryd.prog (tpd laR) := tbL_ok (List.forall_mem_cons.2 ⟨take_ok, List.forall_mem_cons.2 ⟨lay_ok.nP, nofun⟩⟩) (List.forall_mem_cons.2 ⟨bytes_ok.nH, List.forall_mem_cons.2 ⟨wbytes_ok.nH, nofun⟩⟩)
def hU32 (lf : LA) : HSpec := fun l bs => match l, bs with
  | [.one (.ptr 0 (.lit 0))], [⟨false, .lst [.str s, .int .i64 at_, .int .i64 e]⟩] => some (.a (.one (.int .u32 (lf.get (lf.rT s at_ e 4)))), [⟨false, .lst [.str s, .int .i64 (lf.rA s at_ e 4), .int .i64 (lf.rE s at_ e 4)]⟩], [lf.rOk s at_])
  | _, _ => none
theorem u32_ok : HOk Tryd.prog 35 (hU32 laR) := by
  refine .of_run (hc := (tpd laR).hc) Tryd.func35 rfl (by kernel_rfl) (by kernel_rfl) fun las lbs v lbs' ps hs hp w => ?_
  unfold hU32 at hs
  split at hs
  · rename_i s at_ e
    cases hs
    have hr : laR.rOk s at_ := hp (laR.rOk s at_) (by simp)
    have h8 : laR.get8 (laR.rT s at_ e 4) := by
      have := rT_size s at_ e 4 hr.1
      show (rdT s at_ e 4).size ≤ 8
      omega
    have hi : laR.i64 4 := ⟨by decide, by decide⟩
    refine run_pa hmix ti_ok tpd_ok 999 false 400 [] [2] [] (fun ar lf => by conv => lhs; cbv) (allP ?_) ?_
    · exact ⟨h8, hr, hi, trivial⟩
    refine Run.ret ti_ok rfl rfl (HEnd.packV [0] rfl rfl rfl (.of (.a (.int ?_))))
    have := rT_lt s at_ e 4 hr.1
    have e4 : (256 : Nat) ^ 4 = 4294967296 := by decide
    rw [e4] at this
    show ((leV (rdT s at_ e 4).data.toList : Nat) : Int) % 4294967296 = (leV (rdT s at_ e 4).data.toList : Nat)
    have h2 : leV (rdT s at_ e 4).data.toList < 4294967296 := this
    generalize leV (rdT s at_ e 4).data.toList = z at h2 ⊢
    omega
  · cases hs
def hWU32 (lf : LA) : HSpec := fun l bs => match l, bs with
  | [.one (.ptr 0 (.lit 0)), .one (.int .u32 n)], [⟨false, .lst [.adr 0 90, .bf s 1 5]⟩, ⟨false, .tail⟩] => some (.tup [], [⟨false, .lst [.adr 0 90, .bf (lf.cat s (lf.lay n 4)) 2 5]⟩, ⟨true, .dead⟩, ⟨false, .tail⟩], [lf.layOk n 4, lf.fits s (lf.lay n 4)])
  | _, _ => none
theorem wu32_ok : HOk Tryd.prog 28 (hWU32 laR) := by
  refine .of_run (hc := (tpd laR).hc) Tryd.func28 rfl (by kernel_rfl) (by kernel_rfl) fun las lbs v lbs' ps hs hp w => ?_
  unfold hWU32 at hs
  split at hs
  · rename_i n s
    cases hs
    have h1 : laR.layOk n 4 := hp (laR.layOk n 4) (by simp)
    have h2 : laR.fits s (laR.lay n 4) := hp (laR.fits s (laR.lay n 4)) (by simp)
    have hc : IntKind.u64.wrap n = n := Int.emod_eq_of_lt h1.1 h1.2.1
    have hc' : arR.conv .u64 n = n := hc
    refine run_ex hmix ti_ok tpd_ok 999 false 400 [] (fun ar lf => by conv => lhs; cbv) (allP ?_) ?_
    · have h1' : laR.layOk (arR.conv .u64 n) 4 := by rw [hc']; exact h1
      have h2' : laR.fits s (laR.lay (arR.conv .u64 n) 4) := by rw [hc']; exact h2
      exact ⟨h2', h1', trivial⟩
    refine Run.fin ti_ok rfl rfl (HEnd.pack [0, 1, 2] rfl rfl ?_ rfl)
    simp only [arR, hc]
    rfl
  · cases hs
end Go.Proofs.YtjiciplcdklfcaaDoor
