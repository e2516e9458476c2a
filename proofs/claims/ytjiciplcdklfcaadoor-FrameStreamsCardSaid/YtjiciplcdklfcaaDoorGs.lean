/- The row FrameStreams and its card: whatever magic and parts, the law of streams returns true and leaves what was there as it was. -/
import Derived.Test.YtjiciplcdklfcaaDoorTie
import Derived.Test.YtjiciplcdklfcaaDoorCards
import Derived.ProofKit
import Derived.OpenShut
import Derived.LaidMore
import Derived.Lay
import Derived.SevenTiedAt
import Derived.Stop.Joined
import Derived.Test.YtjiciplcdklfcaaDoorGo
import Derived.Test.YtjiciplcdklfcaaDoorXn
set_option linter.unusedVariables false
set_option linter.unusedSimpArgs false
namespace Go.Proofs.YtjiciplcdklfcaaDoor
open Go Go.Eng Go.Proofs
open Go.ChangeShapes Go.WideShapes Go.ChangeAt Go.RowKit
attribute [local irreducible] CallOk HOk Run TIok

theorem frameStreams_own : ownKnob Tryd.prog.godebug = none := by kernel_rfl
theorem frameStreams_laidOut : laidOutB Tryd.prog = true := by kernel_rfl

theorem frameStreams_walk (w : World) (a0 : Int) (hw0 : (Lit.int .u32 a0).wf = true) (v1 : Value) (l1 : List D) (hv1 : CRel (Ren.none (snap w)) (.dat (.two .str (.two (.int .i64) .bool)) l1 none) v1) (ok1 : okD (.sl (.two .str (.two (.int .i64) .bool))) (.sl l1)) :
    Calls Tryd.prog 5 #[.int .u32 a0, v1] w fun e w' => e = .returned (.bool true) ∧ Below w.heap.size w w' := by
  have ok0 : IntKind.min .u32 ≤ a0 ∧ a0 ≤ IntKind.max .u32 := by simpa [Lit.wf] using hw0
  refine calls_true lstr_ok (xs := [.one (.int .u32 a0), .one (.dat (.two .str (.two (.int .i64) .bool)) l1 none)]) (ps := [lg6.layOk a0 4, partsOk l1]) Tryd.func5 rfl (by kernel_rfl) rfl ?_ ⟨rfl, fun j x hx => ?_⟩
  · simp only [List.forall_mem_cons]
    exact ⟨⟨(u32_rng ok0).1, Int.lt_trans (u32_rng ok0).2 (by decide), by decide, by decide⟩, parts_of ok1, by simp⟩
  · match j with
    | 0 => simp only [List.getElem?_cons_zero, Option.some.injEq] at hx; subst hx; exact ⟨_, rfl, rfl⟩
    | 1 => simp only [List.getElem?_cons_succ, List.getElem?_cons_zero, Option.some.injEq] at hx; subst hx; exact ⟨_, rfl, hv1⟩
    | j + 2 => simp at hx

set_option maxRecDepth 100000 in
theorem frameStreams_lifted (os : Os) (started : os.Started) (H : Type) (enc : TypeId × Value → H) :
    ReturnsInHanded {} Tryd.checked os 5 .any (fun w args => (Rows.frameStreamsSpec.pre enc Tryd.prog Tryd.f5 Rows.frameStreamsRow.domain false w args ∧ laidMetH Tryd.prog Rows.frameStreamsRow.laid w) ∧ sizedMet enc Tryd.prog Tryd.f5 (OpenSpec.ofChange Rows.frameStreamsSpec) false w args) (Rows.frameStreamsSpec.post enc Tryd.prog Tryd.f5 false true false false) := by
  refine returnsInHanded_of_change_and (C := Tryd.checked) (X := fun w _ => laidMetH Tryd.prog Rows.frameStreamsRow.laid w) (fun _ _ _ hh h => h.of_heap hh) frameStreams_own started (by kernel_rfl) Tryd.func5
    (ChangeSpec.witness_shaped (enc := enc) (C := Tryd.checked) (os := os) (X := fun w _ => laidMetH Tryd.prog Rows.frameStreamsRow.laid w) false (World.laidAll Tryd.prog os Rows.frameStreamsRow.laid) #[.int .u32 0, .slice none 0 0] 8 (World.laidAll_os _ _ _)
      (World.shaped_of_ZipB (by kernel_rfl) (by kernel_rfl)) (by kernel_rfl) (by kernel_rfl) (by kernel_rfl)
      (by rw [MakeChecks.laidMetH_plain _ _ _ (by kernel_rfl)]; exact laidMet_laidAll _ (by kernel_rfl) (by kernel_rfl))) ?_
  intro W base args ds gs before hval0 hW hcnd hwt _ _
  have hval : ∀ (j : Nat) t v, Tryd.f5.params[j]? = some t → args[j]? = some v → Value.okWide Tryd.prog W .any base t v := hval0
  have hW' := hW
  obtain ⟨p, q, hA0, hV, rfl, hfz, hnd⟩ := hW
  have hA : DataW.TrodAll enc Tryd.prog W 0 (fun _ => true) true Tryd.f5.params.toList args.toList ds p := hA0
  rw [Tryd.params5] at hA hval
  obtain ⟨v0, vs0, d0, ds0, p0, q0, hargs, rfl, rfl, h0, r0⟩ := trodAll_cons hA
  obtain ⟨v1, vs1, d1, ds1, p1, q1, rfl, rfl, rfl, h1, r1⟩ := trodAll_cons r0
  obtain ⟨rfl, rfl, rfl⟩ := trodAll_nil r1
  obtain rfl : args = #[v0, v1] := by cases args; simp_all
  obtain ⟨rfl, rfl⟩ := trodVars_none hV
  obtain ⟨a0, rfl, rfl, rfl, hw0⟩ := open_int Tryd.underlying22 (hval 0 22 v0 rfl rfl) h0
  have k1 := h1
  have lt1 : ∀ x ∈ p1, x.block < W.heap.size := by obtain ⟨m, hm⟩ := k1; exact DataW.trod_lt m _ _ _ hm
  obtain ⟨l1, hv1, ok1⟩ := arg_dat (s := (.two .str (.two (.int .i64) .bool))) Tryd.underlying50 (by kernel_rfl) (hval 1 50 v1 rfl rfl) h1
  clear hA0 hval0
  refine (frameStreams_walk W a0 hw0 v1 l1 hv1 ok1).mono fun e W' ⟨he, bel⟩ => ?_
  subst he
  exact ⟨_, rfl, _, _, _, [], _, [], hW', trodAll_mk1 (shut_bool Tryd.underlying4 _), (trodAll_cons_mk (shut_int Tryd.underlying22 hw0) (trodAll_cons_mk (Below.trod frameStreams_laidOut (by kernel_rfl) (of_decide_eq_true (by kernel_rfl)) k1 bel lt1) trodAll_mk0)), rfl, bel.frame _, fun h => by cases h⟩

theorem frameStreams_over : Rows.frameStreamsRow.holds Tryd.pinned (OpenSpec.ofChange Rows.frameStreamsSpec) :=
  OpenClaim.holds_of_wide 5 Tryd.f5 rfl rfl rfl rfl rfl rfl rfl ⟨rfl, rfl, rfl, rfl, rfl⟩ rfl rfl rfl rfl rfl (by kernel_rfl) Tryd.func5 (by kernel_rfl)
    (of_decide_eq_true (by kernel_rfl)) (by unfold Func.isWrapper; first | (rw [if_pos (by decide +kernel)]; kernel_rfl) | (rw [if_neg (by decide +kernel)]; exact ⟨rfl, rfl⟩))
    (fun os started H enc _ => frameStreams_lifted os started H enc)

theorem frameStreams_proved : Rows.FrameStreamsCardSaid :=
  Claim7.holds_tied_plain_at .later [] [.data, .pinned] true (true, "886d3f1adadbb9bbe5b7f9ecfcb6b110252039037caaeb7496236f3fe1e5c092") false frameStreams_over (fun _ h => by cases h) (by kernel_rfl) (fun _ h => by cases h) frameStreams_row_tie rfl ⟨rfl, rfl⟩ (by kernel_rfl) rfl
    (fun f fn hf hfn => by
      obtain rfl : f = 5 := Option.some.inj ((show Tryd.prog.funcNamed "bedrock/bedrocklaw08.FrameStreams" = some 5 by kernel_rfl).symm.trans hf) |>.symm
      obtain rfl : fn = Tryd.f5 := (Option.some.inj (Tryd.func5.symm.trans hfn)).symm
      exact ⟨by kernel_rfl, fun j t ht => by
        rw [Tryd.params5] at ht
        have hm : t ∈ [22, 50] := by simpa using Array.mem_of_getElem? ht
        have hall : ([22, 50].all fun u => !Tryd.prog.wantsStandIn u) = true := by kernel_rfl
        exact (show Tryd.prog.wantsStandIn t = false by simpa using List.all_eq_true.1 hall t hm)⟩)
    (by kernel_rfl)
#print axioms frameStreams_proved
end Go.Proofs.YtjiciplcdklfcaaDoor
