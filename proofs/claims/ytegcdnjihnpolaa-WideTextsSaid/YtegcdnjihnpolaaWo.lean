import Derived.Test.YtegcdnjihnpolaaWb
import Derived.Test.YtegcdnjihnpolaaRows
import Derived.WalkKit
import Derived.ProofKit
import Derived.OpenShut
import Derived.ShutString
import Derived.ChangeOld
import Derived.Below
set_option linter.unusedSimpArgs false
set_option linter.unusedVariables false
namespace Go.Eng
open Go Go.RowKit
section
variable {P : Program} {fn : Func}
theorem callFunc_enter {f : FuncId} {body : Code} (hf : P.funcs[f]? = some fn) (hb : fn.body = some body) (hname : (fn.name == "runtime.NumGoroutine") = false) (args : Array Value) (w : World) :
    (callFunc f args).run P w = .ok (.enter f args) w := by
  have h1 : fn.name ≠ "runtime.NumGoroutine" := by simpa using hname
  simp [callFunc, program, Sem.run_bind, Sem.run, hf, h1, hb, Sem.run_pure]

/-- A LAW's CALL, out of its contract: it returns true, and nothing that was there is turned -/
theorem calls_true {f : FuncId} {s : ESpec} (hc : CallOk P f s) {body : Code} (hf : P.funcs[f]? = some fn) (hb : fn.body = some body) (hname : (fn.name == "runtime.NumGoroutine") = false) {xs : List A} {ps : List Prop} (hs : s xs = some (.a (.one (.lbool true)), ps)) (hp : ∀ p ∈ ps, p) {args : Array Value} {w : World} (ha : AsRel (fun _ => none) xs args) :
    Calls P f args w fun e w' => e = .returned (.bool true) ∧ Below w.heap.size w w' := by
  unfold CallOk at hc
  have h := hc xs _ ps hs hp args w ha { (default : Oper) with dst := some 0 } { tmps := #[undef], defers := [] } (fun a' w' => a'.tmps = #[.bool true] ∧ Below w.heap.size w w') (fun _ _ _ => False) (fun v' w' hv hb => by
    have hv : v' = .bool true := hv
    subst hv
    exact ⟨rfl, hb⟩)
  rw [callFunc_enter hf hb hname, Oper.upon_enter] at h
  refine h.mono fun e w' he => ?_
  cases e with
  | returned v =>
    obtain ⟨h1, h2⟩ := he
    refine ⟨?_, h2⟩
    have h1 : #[v] = #[Value.bool true] := h1
    simp at h1
    rw [h1]
  | panicked c => exact he.elim
  | outgrown => obtain ⟨_, _, h⟩ := he; exact h.elim
end

/-- an array of four words that came in -/
theorem wide_arg {H : Type} {enc : TypeId × Value → H} {P : Program} {w : World} {base base2 : Nat} {r : Reach} {sp : Nat → Bool} {held : Bool} {v : Value} {d : DataW H} {p : List MemPlace} {t e : TypeId}
    (ht : P.underlying t = some (.array 4 e)) (he : P.underlying e = some (.int .u64)) (hce : P.cellsOf e = 1) (hct : P.cellsOf t = 4)
    (hok : Value.okWide P w r base t v) (h : DataW.Trod enc P w base2 sp held t v d p) : ∃ f : F, bd f ∧ ARel (fun _ => none) (Go.Eng.W f) v := by
  simp only [Value.okWide, ht] at hok
  obtain ⟨cs, rfl, hsz, -⟩ := hok
  obtain ⟨fuel, hf⟩ := h
  obtain ⟨xs, m, -, -, hl, hn, hel⟩ := DataW.trod_array ht hf
  have key : ∀ i, i < 4 → ∃ n, cs[i]? = some (.int .u64 n) ∧ 0 ≤ n ∧ n < (18446744073709551616 : Int) := by
    intro i hi
    have h1 := hel i hi
    rw [List.getElem?_eq_getElem (show i < xs.length by omega)] at h1
    obtain ⟨n, e1, -, hwf⟩ := DataW.trod_int (k := .u64) he h1
    refine ⟨n, ?_, ?_⟩
    · rw [hce, Nat.mul_one] at e1
      have e2 : ((Value.agg cs).cells.toList.drop i).take 1 = [Value.int .u64 n] := e1
      have e3 : (((Value.agg cs).cells.toList.drop i).take 1)[0]? = some (Value.int .u64 n) := by rw [e2]; rfl
      rw [List.getElem?_take_of_lt (by decide), List.getElem?_drop] at e3
      simpa [Value.cells] using e3
    · have : 0 ≤ n ∧ n ≤ 18446744073709551615 := by simpa [Lit.wf, IntKind.min, IntKind.max, IntKind.signed, IntKind.bits] using hwf
      omega
  have hsz4 : cs.size = 4 := by rw [hsz, hct]
  refine ⟨fun j => match cs[j]? with
    | some (.int _ n) => n
    | _ => 0, fun j hj => ?_, cs, rfl, hsz4, fun j x hx => ?_⟩
  · obtain ⟨n, e1, e2⟩ := key j hj
    simp only [e1]; exact e2
  · simp only [G.at] at hx
    by_cases hj : j < (N.lit 4).val
    · rw [if_pos hj] at hx
      obtain ⟨n, e1, e2⟩ := key j hj
      simp only [Option.some.injEq] at hx
      subst hx
      exact ⟨_, e1, by simp only [e1]; rfl⟩
    · rw [if_neg hj] at hx; cases hx
end Go.Eng
