/- The row MsgKinds: whatever kind, command and items, the law of kinds returns true and leaves what was there as it was. -/
import Derived.Test.YtlbllaocdilafaaRb
import Derived.Test.YtlbllaocdilafaaQx
import Derived.Test.YtlbllaocdilafaaFg
set_option linter.unusedVariables false
set_option linter.unusedSimpArgs false
namespace Go.Proofs.Ytlbllaocdilafaa
open Go Go.Eng Go.Proofs
open Go.ChangeShapes Go.WideShapes Go.ChangeAt Go.RowKit
attribute [local irreducible] CallOk HOk Run TIok

theorem msgKinds_own : ownKnob Try.prog.godebug = none := by kernel_rfl
theorem msgKinds_laidOut : laidOutB Try.prog = true := by kernel_rfl

theorem msgKinds_walk (w : World) (a0 : Int) (hw0 : (Lit.int .i64 a0).wf = true) (s1 : ByteArray) (ok1 : s1.size ≤ maxLen) (v2 : Value) (l2 : List D) (hv2 : CRel (Ren.none (snap w)) (.dat (.two (.int .u32) (.arr .u8 32)) l2 none) v2) (ok2 : okD (.sl (.two (.int .u32) (.arr .u8 32))) (.sl l2)) :
    Calls Try.prog 9 #[.int .i64 a0, .string s1, v2] w fun e w' => e = .returned (.bool true) ∧ Below w.heap.size w w' := by
  have ok0 : IntKind.min .i64 ≤ a0 ∧ a0 ≤ IntKind.max .i64 := by simpa [Lit.wf] using hw0
  refine calls_true lkinds_ok (xs := [.one (.int .i64 a0), .one (.str s1), .one (.dat (.two (.int .u32) (.arr .u8 32)) l2 none)]) (ps := [itemFit l2]) Try.func9 rfl (by kernel_rfl) rfl ?_ ⟨rfl, fun j x hx => ?_⟩
  · simp only [List.forall_mem_cons]
    exact ⟨⟨fun x hx => okD_nrm (ok2.2 x hx), Nat.le_trans ok2.1 (by decide)⟩, by simp⟩
  · match j with
    | 0 => simp only [List.getElem?_cons_zero, Option.some.injEq] at hx; subst hx; exact ⟨_, rfl, rfl⟩
    | 1 => simp only [List.getElem?_cons_succ, List.getElem?_cons_zero, Option.some.injEq] at hx; subst hx; exact ⟨_, rfl, rfl⟩
    | 2 => simp only [List.getElem?_cons_succ, List.getElem?_cons_zero, Option.some.injEq] at hx; subst hx; exact ⟨_, rfl, hv2⟩
    | j + 3 => simp at hx

set_option maxRecDepth 100000 in
theorem msgKinds_lifted (os : Os) (started : os.Started) (H : Type) (enc : TypeId × Value → H) :
    ReturnsInHanded {} Try.checked os 9 .any (Rows.msgKindsSpec.pre6 enc Try.prog Try.f9 Rows.msgKindsRow.domain false) (Rows.msgKindsSpec.post enc Try.prog Try.f9 false true false false) := by
  refine returnsInHanded_of_change (C := Try.checked) msgKinds_own started (by kernel_rfl) Try.func9
    (ChangeSpec.witness6 (enc := enc) (C := Try.checked) false ⟨#[], #[.int .i64 0, .string ⟨#[]⟩, .slice none 0 0], []⟩ 8 (by kernel_rfl) (by kernel_rfl) (by kernel_rfl) (by kernel_rfl)) ?_
  intro W base args ds gs before hval0 hW hcnd _
  have hval : ∀ (j : Nat) t v, Try.f9.params[j]? = some t → args[j]? = some v → Value.okWide Try.prog W .any base t v := hval0
  have hW' := hW
  obtain ⟨p, q, hA0, hV, rfl, hfz, hnd⟩ := hW
  have hA : DataW.TrodAll enc Try.prog W 0 (fun _ => true) true Try.f9.params.toList args.toList ds p := hA0
  rw [Try.params9] at hA hval
  obtain ⟨v0, vs0, d0, ds0, p0, q0, hargs, rfl, rfl, h0, r0⟩ := trodAll_cons hA
  obtain ⟨v1, vs1, d1, ds1, p1, q1, rfl, rfl, rfl, h1, r1⟩ := trodAll_cons r0
  obtain ⟨v2, vs2, d2, ds2, p2, q2, rfl, rfl, rfl, h2, r2⟩ := trodAll_cons r1
  obtain ⟨rfl, rfl, rfl⟩ := trodAll_nil r2
  obtain rfl : args = #[v0, v1, v2] := by cases args; simp_all
  obtain ⟨rfl, rfl⟩ := trodVars_none hV
  obtain ⟨a0, rfl, rfl, rfl, hw0⟩ := open_int Try.underlying3 (hval 0 3 v0 rfl rfl) h0
  obtain ⟨s1, rfl, rfl, rfl, ok1⟩ := Go.ChangeMaps.open_string Try.underlying9 (hval 1 9 v1 rfl rfl) h1
  have k2 := h2
  have lt2 : ∀ x ∈ p2, x.block < W.heap.size := by obtain ⟨m, hm⟩ := k2; exact DataW.trod_lt m _ _ _ hm
  obtain ⟨l2, hv2, ok2⟩ := arg_dat (s := (.two (.int .u32) (.arr .u8 32))) Try.underlying74 (by kernel_rfl) (hval 2 74 v2 rfl rfl) h2
  clear hA0 hval0
  refine (msgKinds_walk W a0 hw0 s1 ok1 v2 l2 hv2 ok2).mono fun e W' ⟨he, bel⟩ => ?_
  subst he
  exact ⟨_, rfl, _, _, _, [], _, [], hW', trodAll_mk1 (shut_bool Try.underlying4 _), (trodAll_cons_mk (shut_int Try.underlying3 hw0) (trodAll_cons_mk (Go.ChangeMaps.shut_string Try.underlying9 ok1) (trodAll_cons_mk (Below.trod msgKinds_laidOut (by kernel_rfl) (of_decide_eq_true (by kernel_rfl)) k2 bel lt2) trodAll_mk0))), rfl, bel.frame _, fun h => by cases h⟩

theorem msgKinds_over : Rows.msgKindsRow.holds Try.pinned (OpenSpec.ofChange Rows.msgKindsSpec) :=
  OpenClaim.holds_of_wide 9 Try.f9 rfl rfl rfl rfl rfl rfl rfl ⟨rfl, rfl, rfl, rfl, rfl⟩ rfl rfl rfl rfl rfl (by kernel_rfl) Try.func9 (by kernel_rfl)
    (of_decide_eq_true (by kernel_rfl)) (by unfold Func.isWrapper; first | (rw [if_pos (by decide +kernel)]; kernel_rfl) | (rw [if_neg (by decide +kernel)]; exact ⟨rfl, rfl⟩))
    (fun os started H enc _ => msgKinds_lifted os started H enc)

theorem msgKinds_proved : Rows.MsgKindsSaid := msgKinds_over
#print axioms msgKinds_proved
end Go.Proofs.Ytlbllaocdilafaa
