import Derived.Test.YtjiciplcdklfcaaDoorFe
import Derived.Test.YtjiciplcdklfcaaDoorTj
set_option linter.unusedSimpArgs false
set_option linter.unusedVariables false
namespace Go.Eng
open Go
/-- a list of ids -/
def isHash (d : D) : Prop := ∃ l : List Int, d = .row l ∧ l.length = 32 ∧ ∀ x ∈ l, 0 ≤ x ∧ x < 256
def HL (xs : List D) : Prop := xs.length ≤ 4294967296 ∧ ∀ d ∈ xs, isHash d
def HS : Sh := .arr .u8 32
def Z0 (f : Nat → Int) : D := .row ((List.range 32).map f)
theorem hash_same {d : D} (h : isHash d) : D.row ((List.range 32).map fun j => d.row!.getD j 0) = d := by
  obtain ⟨l, rfl, h1, -⟩ := h
  congr 1
  refine List.ext_getElem? fun i => ?_
  rw [List.getElem?_map]
  by_cases hi : i < 32
  · simp [D.row!, hi, h1]
  · simp [hi, h1]
end Go.Eng
namespace Go.Proofs.YtjiciplcdklfcaaDoor
open Go Go.Eng Go.Proofs Go.RowKit
theorem hmix : Tryd.prog.follows .mixedOrders = true := by kernel_rfl
attribute [local irreducible] CallOk HOk Run TIok rbin rcmp run1 updF shfF blitF
structure LM where
  hl : List D → Prop
def lmR : LM where
  hl := HL
def tb0 (lf : LM) : Tbl := tbL [] []
theorem tb0_ok : TblOk Tryd.prog (tb0 lmR) := tbL_ok (by simp) (by simp)
end Go.Proofs.YtjiciplcdklfcaaDoor
