import Derived.Test.YtjiciplcdklfcaaDoorMf
set_option linter.unusedSimpArgs false
set_option linter.unusedVariables false
namespace Go.Eng
open Go
def padZ (n : Int) : Nat := ((119 - n % 64) % 64).toNat
def pb (n : Int) (i : Int) : Int := IntKind.u8.wrap (rbin .shr .u64 (rbin .shl .u64 n 3) i)
def padL (n : Int) : List D := (.int 128 :: List.replicate (padZ n) (.int 0)) ++ [.int (pb n 56), .int (pb n 48), .int (pb n 40), .int (pb n 32), .int (pb n 24), .int (pb n 16), .int (pb n 8), .int (pb n 0)]
def padT (n : Int) : ByteArray := arR.dTxt (padL n)
theorem rem_pos {k : IntKind} {x y : Int} (h : 0 ≤ x) : rbin .rem k x y = x % y := by
  show x.tmod y = _
  rw [Int.tmod_eq_emod_of_nonneg h]
structure LP extends LH where
  pad : Int → ByteArray
  u64 : Int → Prop
def lpR : LP where
  toLH := lhR
  pad := padT
  u64 n := 0 ≤ n ∧ n < 18446744073709551616
end Go.Eng
namespace Go.Proofs.YtjiciplcdklfcaaDoor
open Go Go.Eng Go.Proofs Go.RowKit
attribute [local irreducible] CallOk HOk Run TIok rbin rcmp run1 updF shfF blitF
def hClone (lf : LH) : HSpec := fun l bs => match l, bs with
  | [.one (.ptr 0 (.lit 0))], [⟨false, .lst [.int .u32 x0, .int .u32 x1, .int .u32 x2, .int .u32 x3, .int .u32 x4, .int .u32 x5, .int .u32 x6, .int .u32 x7, .dat (.int .u8) xs (some 1), .int .u64 n]⟩, ⟨false, .tail⟩] =>
    some (.a (.one (.ptr 2 (.lit 0))), [⟨false, .lst [.int .u32 x0, .int .u32 x1, .int .u32 x2, .int .u32 x3, .int .u32 x4, .int .u32 x5, .int .u32 x6, .int .u32 x7, .dat (.int .u8) xs (some 1), .int .u64 n]⟩, ⟨false, .tail⟩, ⟨false, .lst [.int .u32 x0, .int .u32 x1, .int .u32 x2, .int .u32 x3, .int .u32 x4, .int .u32 x5, .int .u32 x6, .int .u32 x7, .dat (.int .u8) xs (some 3), .int .u64 n]⟩, ⟨false, .tail⟩], [lf.fits xs .empty])
  | _, _ => none
def tbp0 (lf : LH) : Tbl := tbL [] []
theorem tbp0_ok : TblOk Tryd.prog (tbp0 lhR) := tbL_ok nofun nofun
theorem clone_ok : HOk Tryd.prog 77 (hClone lhR) := by
  refine .of_run (hc := (tbp0 lhR).hc) Tryd.func77 rfl (by kernel_rfl) (by kernel_rfl) fun las lbs v lbs' ps hs hp w => ?_
  unfold hClone at hs
  split at hs
  · rename_i x0 x1 x2 x3 x4 x5 x6 x7 xs n
    cases hs
    have hf : xs.length + ByteArray.empty.size ≤ 140737488355328 := hp (lhR.fits xs .empty) (by simp)
    have hf : xs.length + 0 ≤ 140737488355328 := hf
    clear hp
    simp only [List.length_cons, List.length_nil]
    refine run_ex hmix ti_ok tbp0_ok 0 false 400 [] (fun ar lf => by conv => lhs; cbv) (allP ?_) ?_
    · refine ⟨?_, trivial⟩
      show 0 + xs.length ≤ 9223372036854775807 ∧ (0 + xs.length) * 1 ≤ 140737488355328
      omega
    · refine Run.ret ti_ok rfl rfl ⟨[0, 1, 16, 10], by decide, fun j hj => ?_, rfl, .of_map rfl, fun i b' hi => ?_⟩
      · rcases (by omega : j = 0 ∨ j = 1) with rfl | rfl <;> rfl
      · match i with
        | 0 =>
          simp only [List.getElem?_cons_zero, Option.some.injEq] at hi
          subst hi
          exact ⟨0, _, rfl, rfl, rfl, .of_map rfl⟩
        | 1 =>
          simp only [List.getElem?_cons_succ, List.getElem?_cons_zero, Option.some.injEq] at hi
          subst hi
          exact ⟨1, _, rfl, rfl, rfl, .of_map rfl⟩
        | 2 =>
          simp only [List.getElem?_cons_succ, List.getElem?_cons_zero, Option.some.injEq] at hi
          subst hi
          exact ⟨16, _, rfl, rfl, rfl, .of_map rfl⟩
        | 3 =>
          simp only [List.getElem?_cons_succ, List.getElem?_cons_zero, Option.some.injEq] at hi
          subst hi
          exact ⟨10, _, rfl, rfl, rfl, .of_map rfl⟩
        | i + 4 => simp at hi
  · cases hs
def sPad (lf : LP) : ESpec := fun l => match l with
  | [.one (.int .u64 n)] => some (.a (.one (.str (lf.pad n))), [lf.u64 n])
  | _ => none
def tbp1 (lf : LP) : Tbl := tbL [] []
theorem tbp1_ok : TblOk Tryd.prog (tbp1 lpR) := tbL_ok nofun nofun
set_option maxRecDepth 100000 in
theorem pad_ok : CallOk Tryd.prog 78 (sPad lpR) := by
  refine .eval (tb := tbp1) hmix ti_ok tbp1_ok Tryd.func78 rfl (by kernel_rfl) (by kernel_rfl) fun xs v ps h1 hp => ?_
  unfold sPad at h1
  split at h1
  · rename_i n
    cases h1
    have hn : 0 ≤ n ∧ n < 18446744073709551616 := hp (lpR.u64 n) (by simp)
    clear hp
    have hz1 : rbin .rem .i64 (rbin .sub .i64 119 (IntKind.i64.wrap (rbin .rem .u64 n 64))) 64 = padZ n := by
      rw [rem_pos hn.1, wrap_i64 (by omega) (by omega), subi (by omega) (by omega), rem_pos (by omega)]
      unfold padZ
      omega
    have hz2 : rbin .add .i64 1 (padZ n) = 1 + padZ n := addi (by unfold padZ; omega) (by unfold padZ; omega)
    have hz4 : rbin .add .i64 (1 + (padZ n : Int)) 8 = 9 + padZ n := by rw [addi (by unfold padZ; omega) (by unfold padZ; omega)]; omega
    have hz3 : padZ n < 64 := by unfold padZ; omega
    refine ⟨1000, [], _, fun ar lf => by conv => lhs; cbv, ?_, ?_⟩
    · refine allP ?_
      simp only [conj, and_true, arR, hz1, hz2, hz4, Int.ofNat_eq_natCast, List.length_append, List.length_map, List.length_range, List.length_cons, List.length_nil, maxLen]
      omega
    · refine .a (.str ?_)
      simp only [arR, lpR, hz1, hz2]
      show (⟨(List.map _ _).toArray⟩ : ByteArray) = ⟨(List.map _ (padL n)).toArray⟩
      have e : (1 + (padZ n : Int)).toNat = padZ n + 1 := by omega
      have e2 : (List.range (padZ n + 1)).map (fun j => D.int (if j = 0 then 128 else 0)) = .int 128 :: List.replicate (padZ n) (.int 0) := by
        rw [List.range_succ_eq_map, List.map_cons, List.map_map]
        congr 1
        refine List.ext_getElem (by simp) fun i h1 h2 => ?_
        simp
      rw [e, e2]
      simp only [padL, pb, List.append_assoc, List.cons_append, List.nil_append]
  · cases h1
end Go.Proofs.YtjiciplcdklfcaaDoor
