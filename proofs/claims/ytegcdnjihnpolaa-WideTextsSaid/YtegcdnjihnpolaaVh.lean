import Derived.Test.YtegcdnjihnpolaaWr
import Derived.Test.YtegcdnjihnpolaaWv
import Derived.Test.YtegcdnjihnpolaaEd
set_option linter.unusedSimpArgs false
set_option linter.unusedVariables false
namespace Go.Eng
open Go
theorem rbin_quo {x y : Int} (h0 : 0 ≤ x) (h1 : x < (18446744073709551616 : Int)) (hy : 0 < y) : rbin .quo .u64 x y = x / y := by
  have e : rbin .quo .u64 x y = (x.tdiv y) % (18446744073709551616 : Int) := wrap_u64 _
  rw [e, Int.tdiv_eq_ediv_of_nonneg h0]
  have := Int.ediv_le_self y h0
  have := Int.ediv_nonneg h0 (Int.le_of_lt hy)
  exact Int.emod_eq_of_lt this (by omega)
theorem rbin_rem {x y : Int} (h0 : 0 ≤ x) : rbin .rem .u64 x y = x % y := by
  show x.tmod y = _
  rw [Int.tmod_eq_emod_of_nonneg h0]
theorem lEq_zero {f : F} (hf : bd f) : arR.lEq [f 0, f 1, f 2, f 3] [0, 0, 0, 0] = decide (val f = 0) := by
  show ([f 0, f 1, f 2, f 3] == [0, 0, 0, 0]) = _
  rw [Bool.eq_iff_iff, beq_iff_eq, decide_eq_true_eq, val_zero hf]
  simp
theorem eqb_zero {f : F} {b : Bool} (hf : bd f) (h : decide (val f = 0) = b) : arR.lEq [f 0, f 1, f 2, f 3] [0, 0, 0, 0] = b := (lEq_zero hf).trans h
theorem eql_yes {x y : Int} (h : x = y) : rcmp .eql x y = true := by
  show (x == y) = true
  rw [h, beq_self_eq_true]
theorem nn_self (b : Bool) : (!(b == b)) = false := by cases b <;> rfl
theorem nl_self (l : List Int) : (!(arR.lEq l l)) = false := by
  show (!(l == l)) = false
  rw [beq_self_eq_true]; rfl
end Go.Eng
