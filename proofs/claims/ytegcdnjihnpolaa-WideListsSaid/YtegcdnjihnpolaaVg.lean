/- The row WideLists: whatever list of numbers, the law of their sum returns true and leaves what was there as it was. -/
import Derived.Test.YtegcdnjihnpolaaVe
import Derived.Test.YtegcdnjihnpolaaVf
set_option linter.unusedVariables false
set_option linter.unusedSimpArgs false
namespace Go.Proofs.Ytegcdnjihnpolaa
open Go Go.Eng Go.Proofs
open Go.ChangeShapes Go.WideShapes Go.ChangeAt Go.RowKit
attribute [local irreducible] CallOk HOk Run TIok

theorem wideLists_own : ownKnob Try.prog.godebug = none := by kernel_rfl
theorem wideLists_laidOut : laidOutB Try.prog = true := by kernel_rfl

theorem wideLists_walk (w : World) (v0 : Value) (h0 : SlIn .u64 0 18446744073709551616 4 w v0) :
    Calls Try.prog 4 #[v0] w fun e w' => e = .returned (.bool true) ∧ Below w.heap.size w w' := by
  rcases h0 with rfl | ⟨r, o, n, c, f, rfl, hnc, hc, hb, hf⟩
  · refine calls_true_h lists_ok (las := [.one .nsl]) (lbs := []) (ps := []) (ρ := fun n => ([] : List (Nat × Nat))[n]?) Try.func4 rfl (by kernel_rfl) rfl (by simp) (by simp) ⟨rfl, fun j x hx => ?_⟩ (HRel.start [] [] rfl (by simp) (by simp))
    match j with
    | 0 => simp only [List.getElem?_cons_zero, Option.some.injEq] at hx; subst hx; exact ⟨_, rfl, rfl⟩
    | j + 1 => simp at hx
  · refine calls_true_h lists_ok (las := [.one (.sl 0 (.lit 0) (.sym n) (.sym c))]) (lbs := [⟨true, .ints .u64 (.sym (4 * n)) f⟩]) (ps := [lflR.okw f n (4 * n)]) (ρ := fun n => [(r, o)][n]?) Try.func4 rfl (by kernel_rfl) rfl ?_ (by simp) ⟨rfl, fun j x hx => ?_⟩ (HRel.start [(r, o)] _ rfl (by simp) ?_)
    · simp only [List.forall_mem_cons]
      exact ⟨⟨by omega, Nat.le_refl _, hf⟩, by simp⟩
    · match j with
      | 0 => simp only [List.getElem?_cons_zero, Option.some.injEq] at hx; subst hx; exact ⟨_, rfl, r, o, rfl, rfl⟩
      | j + 1 => simp at hx
    · intro k b r' o' h1 h2
      match k with
      | 0 =>
        simp only [List.getElem?_cons_zero, Option.some.injEq, Prod.mk.injEq] at h1 h2
        obtain ⟨rfl, rfl⟩ := h2
        subst h1
        obtain ⟨cs, ty, fz, e1, e2⟩ := hb
        refine ⟨cs, ty, fz, e1, (fun h => by cases h), fun j x hx => ?_⟩
        simp only [G.at] at hx
        split at hx
        · rename_i hj
          simp only [Option.some.injEq] at hx
          subst hx
          exact ⟨_, e2 j hj, rfl⟩
        · cases hx
      | k + 1 => simp at h1

set_option maxRecDepth 100000 in
theorem wideLists_lifted (os : Os) (started : os.Started) (H : Type) (enc : TypeId × Value → H) :
    ReturnsInHanded {} Try.checked os 4 .any (Rows.wideListsSpec.pre6 enc Try.prog Try.f4 Rows.wideListsRow.domain false) (Rows.wideListsSpec.post enc Try.prog Try.f4 false true false false) := by
  refine returnsInHanded_of_change (C := Try.checked) wideLists_own started (by kernel_rfl) Try.func4
    (ChangeSpec.witness6 (enc := enc) (C := Try.checked) false ⟨#[], #[.slice none 0 0], []⟩ 8 (by kernel_rfl) (by kernel_rfl) (by kernel_rfl) (by kernel_rfl)) ?_
  intro W base args ds gs before hval0 hW hcnd _
  have hval : ∀ (j : Nat) t v, Try.f4.params[j]? = some t → args[j]? = some v → Value.okWide Try.prog W .any base t v := hval0
  have hW' := hW
  obtain ⟨p, q, hA0, hV, rfl, hfz, hnd⟩ := hW
  have hA : DataW.TrodAll enc Try.prog W 0 (fun _ => true) true Try.f4.params.toList args.toList ds p := hA0
  rw [Try.params4] at hA hval
  obtain ⟨v0, vs0, d0, ds0, p0, q0, hargs, rfl, rfl, h0, r0⟩ := trodAll_cons hA
  obtain ⟨rfl, rfl, rfl⟩ := trodAll_nil r0
  obtain rfl : args = #[v0] := by cases args; simp_all
  obtain ⟨rfl, rfl⟩ := trodVars_none hV
  have k0 := h0
  have lt0 : ∀ x ∈ p0, x.block < W.heap.size := by obtain ⟨m, hm⟩ := k0; exact DataW.trod_lt m _ _ _ hm
  have s0 := slice_arg Try.underlying36 (by kernel_rfl) (by decide) (wide_el Try.underlying24 Try.underlying22 (by kernel_rfl)) (hval 0 36 v0 rfl rfl) h0
  clear hA0 hval0
  refine (wideLists_walk W v0 s0).mono fun e W' ⟨he, bel⟩ => ?_
  subst he
  exact ⟨_, rfl, _, _, _, [], _, [], hW', trodAll_mk1 (shut_bool Try.underlying4 _), (trodAll_cons_mk (Below.trod wideLists_laidOut (by kernel_rfl) (of_decide_eq_true (by kernel_rfl)) k0 bel lt0) trodAll_mk0), rfl, bel.frame _, fun h => by cases h⟩

theorem wideLists_over : Rows.wideListsRow.holds Try.pinned (OpenSpec.ofChange Rows.wideListsSpec) :=
  OpenClaim.holds_of_wide 4 Try.f4 rfl rfl rfl rfl rfl rfl rfl ⟨rfl, rfl, rfl, rfl, rfl⟩ rfl rfl rfl rfl rfl (by kernel_rfl) Try.func4 (by kernel_rfl)
    (of_decide_eq_true (by kernel_rfl)) (by unfold Func.isWrapper; first | (rw [if_pos (by decide +kernel)]; kernel_rfl) | (rw [if_neg (by decide +kernel)]; exact ⟨rfl, rfl⟩))
    (fun os started H enc _ => wideLists_lifted os started H enc)

theorem wideLists_proved : Rows.WideListsSaid := wideLists_over
#print axioms wideLists_proved
end Go.Proofs.Ytegcdnjihnpolaa
