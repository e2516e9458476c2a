import Derived.Test.YtlbllaocdilafaaFe
import Derived.Test.YtlbllaocdilafaaTj
set_option linter.unusedSimpArgs false
set_option linter.unusedVariables false
namespace Go.Eng
open Go
/-- a list of ids -/
def isHash (d : D) : Prop := ∃ l : List Int, d = .row l ∧ l.length = 32 ∧ ∀ x ∈ l, 0 ≤ x ∧ x < 256
def HL (xs : List D) : Prop := xs.length ≤ 4294967296 ∧ ∀ d ∈ xs, isHash d
def HS : Sh := .arr .u8 32
def Z0 (f : Nat → Int) : D := .row ((List.range 32).map f)
theorem hash_same {d : D} (h : isHash d) : D.row ((List.range 32).map fun j => d.row!.getD j 0) = d := by
  obtain ⟨l, rfl, h1, -⟩ := h
  congr 1
  refine List.ext_getElem? fun i => ?_
  rw [List.getElem?_map]
  by_cases hi : i < 32
  · simp [D.row!, hi, h1]
  · simp [hi, h1]
end Go.Eng
namespace Go.Proofs.Ytlbllaocdilafaa
open Go Go.Eng Go.Proofs Go.RowKit
theorem hmix : Try.prog.follows .mixedOrders = true := by kernel_rfl
attribute [local irreducible] CallOk HOk Run TIok rbin rcmp run1 updF shfF blitF
structure LM where
  hl : List D → Prop
def lmR : LM where
  hl := HL
def tb0 (lf : LM) : Tbl := tbL [] []
theorem tb0_ok : TblOk Try.prog (tb0 lmR) := tbL_ok (by simp) (by simp)
def sGiven (lf : LM) : ESpec := fun l => match l with
  | [.one (.dat (.arr .u8 32) xs none)] => some (.a (.one (.dat (.arr .u8 32) xs none)), [lf.hl xs])
  | _ => none
theorem given_ok : CallOk Try.prog 13 (sGiven lmR) := by
  refine .of_run (hc := (tb0 lmR).hc) Try.func13 rfl (by kernel_rfl) (by kernel_rfl) fun xs v ps hs hp w => ?_
  unfold sGiven at hs
  split at hs
  · rename_i xs
    cases hs
    have hx : HL xs := hp (HL xs) (List.mem_singleton.2 rfl)
    clear hp
    refine run_ex hmix ti_ok tb0_ok 0 false 400 [] (fun ar lf => by conv => lhs; cbv) (allP ?_) ?_
    · trivial
    · refine Run.cut [0] [3, 7, 8, 9] [9] (by decide) rfl rfl ?_
      refine Run.loop (ι := {p : Int × List D × Int // (0 ≤ p.1 ∧ p.1 ≤ xs.length) ∧ p.2.1 = xs.take p.1.toNat ∧ p.2.2 = xs.length})
        (fun i => ([.any, .any, .any, .a (.one (.dat (.arr .u8 32) i.1.2.1 (some 0))), .any, .any, .any, .a (.one (.dat (.arr .u8 32) xs none)), .a (.one (.int .i64 i.1.2.2)), .a (.one (.int .i64 i.1.1)), .any, .any, .any, .any, .any, .any, .any, .any, .any], [some ⟨false, .tail⟩]))
        (fun i => (xs.length - i.1.1).toNat) ⟨(0, [], xs.length), by simp only; omega, rfl, rfl⟩ ?_
      rintro ⟨⟨k, ys, n⟩, hk, hys, hn⟩ ih
      simp only at hk hys hn
      have hlen := hx.1
      by_cases hlt : k < xs.length
      · refine run_pk hmix ti_ok tb0_ok 2 false 400 [true] [3] [3, 7, 8, 9] [9] (fun ar lf => by conv => lhs; cbv) (allP ?_) ?_
        · subst hys hn
          simp only [conj, and_true, arR, rcmp_lss, decide_eq_true_eq, List.length_take, List.length_cons, List.length_nil, maxLen]
          omega
        · refine ih ⟨(_, _, _), ?_⟩ ?_ _ _
          · simp only
            show (0 ≤ rbin .add .i64 k 1 ∧ rbin .add .i64 k 1 ≤ xs.length) ∧ ys ++ [D.row ((List.range 32).map fun j => (xs.getD k.toNat (.int 0)).row!.getD j 0)] = xs.take (rbin .add .i64 k 1).toNat ∧ n = xs.length
            rw [addi (by omega) (by omega)]
            have hlt2 : k.toNat < xs.length := by omega
            have e : xs[k.toNat]? = some xs[k.toNat] := List.getElem?_eq_getElem hlt2
            refine ⟨by omega, ?_, hn⟩
            rw [hash_same (by rw [List.getD_eq_getElem?_getD, e]; exact hx.2 _ (List.getElem_mem hlt2)), hys, List.getD_eq_getElem?_getD, e, show (k + 1).toNat = k.toNat + 1 by omega, List.take_add_one, e]; rfl
          · show ((xs.length : Int) - rbin .add .i64 k 1).toNat < ((xs.length : Int) - k).toNat
            rw [addi (by omega) (by omega)]; omega
      · refine run_ex hmix ti_ok tb0_ok 2 false 400 [false] (fun ar lf => by conv => lhs; cbv) (allP ?_) ?_
        · subst hys hn
          simp only [conj, and_true, arR, rcmp_lss, decide_eq_false_iff_not]
          omega
        · refine Run.ret ti_ok rfl rfl ?_
          refine .a (.dat ?_)
          rw [hys, List.take_of_length_le (by omega)]
  · cases hs
end Go.Proofs.Ytlbllaocdilafaa
