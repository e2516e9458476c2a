/- The row MerkleBranches: whatever list of ids, place and branch, the law of branches returns true and leaves what was there as it was. -/
import Derived.Test.YtbdahgnccjplaaaMs
import Derived.Test.YtbdahgnccjplaaaMz
set_option linter.unusedVariables false
set_option linter.unusedSimpArgs false
namespace Go.Proofs.Ytbdahgnccjplaaa
open Go Go.Eng Go.Proofs
open Go.ChangeShapes Go.WideShapes Go.ChangeAt Go.RowKit
attribute [local irreducible] CallOk HOk Run TIok

theorem merkleBranches_own : ownKnob Try.prog.godebug = none := by kernel_rfl
theorem merkleBranches_laidOut : laidOutB Try.prog = true := by kernel_rfl

theorem merkleBranches_walk (w : World) (v0 : Value) (l0 : List D) (hv0 : CRel (Ren.none (snap w)) (.dat (.arr .u8 32) l0 none) v0) (ok0 : okD (.sl (.arr .u8 32)) (.sl l0)) (a1 : Int) (hw1 : (Lit.int .i64 a1).wf = true) (v2 : Value) (l2 : List D) (hv2 : CRel (Ren.none (snap w)) (.dat (.arr .u8 32) l2 none) v2) (ok2 : okD (.sl (.arr .u8 32)) (.sl l2)) :
    Calls Try.prog 4 #[v0, .int .i64 a1, v2] w fun e w' => e = .returned (.bool true) ∧ Below w.heap.size w w' := by
  have ok1 : IntKind.min .i64 ≤ a1 ∧ a1 ≤ IntKind.max .i64 := by simpa [Lit.wf] using hw1
  refine calls_true branches_ok (xs := [.one (.dat (.arr .u8 32) l0 none), .one (.int .i64 a1), .one (.dat (.arr .u8 32) l2 none)]) (ps := [loR.hs l0, loR.int64 a1, loR.hs l2, loR.lenOk l2]) Try.func4 rfl (by kernel_rfl) rfl ?_ ⟨rfl, fun j x hx => ?_⟩
  · simp only [List.forall_mem_cons]
    exact ⟨fun d hd => hash_of (ok0.2 d hd), int64_of ok1, fun d hd => hash_of (ok2.2 d hd), len_max ok2.1, by simp⟩
  · match j with
    | 0 => simp only [List.getElem?_cons_zero, Option.some.injEq] at hx; subst hx; exact ⟨_, rfl, hv0⟩
    | 1 => simp only [List.getElem?_cons_succ, List.getElem?_cons_zero, Option.some.injEq] at hx; subst hx; exact ⟨_, rfl, rfl⟩
    | 2 => simp only [List.getElem?_cons_succ, List.getElem?_cons_zero, Option.some.injEq] at hx; subst hx; exact ⟨_, rfl, hv2⟩
    | j + 3 => simp at hx

set_option maxRecDepth 100000 in
theorem merkleBranches_lifted (os : Os) (started : os.Started) (H : Type) (enc : TypeId × Value → H) :
    ReturnsInHanded {} Try.checked os 4 .any (Rows.merkleBranchesSpec.pre6 enc Try.prog Try.f4 Rows.merkleBranchesRow.domain false) (Rows.merkleBranchesSpec.post enc Try.prog Try.f4 false true false false) := by
  refine returnsInHanded_of_change (C := Try.checked) merkleBranches_own started (by kernel_rfl) Try.func4
    (ChangeSpec.witness6 (enc := enc) (C := Try.checked) false ⟨#[], #[.slice none 0 0, .int .i64 0, .slice none 0 0], []⟩ 8 (by kernel_rfl) (by kernel_rfl) (by kernel_rfl) (by kernel_rfl)) ?_
  intro W base args ds gs before hval0 hW hcnd _
  have hval : ∀ (j : Nat) t v, Try.f4.params[j]? = some t → args[j]? = some v → Value.okWide Try.prog W .any base t v := hval0
  have hW' := hW
  obtain ⟨p, q, hA0, hV, rfl, hfz, hnd⟩ := hW
  have hA : DataW.TrodAll enc Try.prog W 0 (fun _ => true) true Try.f4.params.toList args.toList ds p := hA0
  rw [Try.params4] at hA hval
  obtain ⟨v0, vs0, d0, ds0, p0, q0, hargs, rfl, rfl, h0, r0⟩ := trodAll_cons hA
  obtain ⟨v1, vs1, d1, ds1, p1, q1, rfl, rfl, rfl, h1, r1⟩ := trodAll_cons r0
  obtain ⟨v2, vs2, d2, ds2, p2, q2, rfl, rfl, rfl, h2, r2⟩ := trodAll_cons r1
  obtain ⟨rfl, rfl, rfl⟩ := trodAll_nil r2
  obtain rfl : args = #[v0, v1, v2] := by cases args; simp_all
  obtain ⟨rfl, rfl⟩ := trodVars_none hV
  have k0 := h0
  have lt0 : ∀ x ∈ p0, x.block < W.heap.size := by obtain ⟨m, hm⟩ := k0; exact DataW.trod_lt m _ _ _ hm
  obtain ⟨l0, hv0, ok0⟩ := arg_dat (s := (.arr .u8 32)) Try.underlying22 (by kernel_rfl) (hval 0 22 v0 rfl rfl) h0
  obtain ⟨a1, rfl, rfl, rfl, hw1⟩ := open_int Try.underlying3 (hval 1 3 v1 rfl rfl) h1
  have k2 := h2
  have lt2 : ∀ x ∈ p2, x.block < W.heap.size := by obtain ⟨m, hm⟩ := k2; exact DataW.trod_lt m _ _ _ hm
  obtain ⟨l2, hv2, ok2⟩ := arg_dat (s := (.arr .u8 32)) Try.underlying22 (by kernel_rfl) (hval 2 22 v2 rfl rfl) h2
  clear hA0 hval0
  refine (merkleBranches_walk W v0 l0 hv0 ok0 a1 hw1 v2 l2 hv2 ok2).mono fun e W' ⟨he, bel⟩ => ?_
  subst he
  exact ⟨_, rfl, _, _, _, [], _, [], hW', trodAll_mk1 (shut_bool Try.underlying4 _), (trodAll_cons_mk (Below.trod merkleBranches_laidOut (by kernel_rfl) (of_decide_eq_true (by kernel_rfl)) k0 bel lt0) (trodAll_cons_mk (shut_int Try.underlying3 hw1) (trodAll_cons_mk (Below.trod merkleBranches_laidOut (by kernel_rfl) (of_decide_eq_true (by kernel_rfl)) k2 bel lt2) trodAll_mk0))), rfl, bel.frame _, fun h => by cases h⟩

theorem merkleBranches_over : Rows.merkleBranchesRow.holds Try.pinned (OpenSpec.ofChange Rows.merkleBranchesSpec) :=
  OpenClaim.holds_of_wide 4 Try.f4 rfl rfl rfl rfl rfl rfl rfl ⟨rfl, rfl, rfl, rfl, rfl⟩ rfl rfl rfl rfl rfl (by kernel_rfl) Try.func4 (by kernel_rfl)
    (of_decide_eq_true (by kernel_rfl)) (by unfold Func.isWrapper; first | (rw [if_pos (by decide +kernel)]; kernel_rfl) | (rw [if_neg (by decide +kernel)]; exact ⟨rfl, rfl⟩))
    (fun os started H enc _ => merkleBranches_lifted os started H enc)

theorem merkleBranches_proved : Rows.MerkleBranchesSaid := merkleBranches_over
#print axioms merkleBranches_proved
end Go.Proofs.Ytbdahgnccjplaaa
