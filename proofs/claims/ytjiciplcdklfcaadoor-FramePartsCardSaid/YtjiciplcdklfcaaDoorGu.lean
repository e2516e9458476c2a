/- The row FrameParts and its card: whatever magic, frames and cuts, the law of frames that come in parts returns true and leaves what was there as it was. -/
import Derived.Test.YtjiciplcdklfcaaDoorTie
import Derived.Test.YtjiciplcdklfcaaDoorCards
import Derived.ProofKit
import Derived.OpenShut
import Derived.LaidMore
import Derived.Lay
import Derived.SevenTiedAt
import Derived.Stop.Joined
import Derived.Test.YtjiciplcdklfcaaDoorGt
import Derived.Test.YtjiciplcdklfcaaDoorXo
set_option linter.unusedVariables false
set_option linter.unusedSimpArgs false
namespace Go.Proofs.YtjiciplcdklfcaaDoor
open Go Go.Eng Go.Proofs
open Go.ChangeShapes Go.WideShapes Go.ChangeAt Go.RowKit
attribute [local irreducible] CallOk HOk Run TIok

theorem frameParts_own : ownKnob Tryd.prog.godebug = none := by kernel_rfl
theorem frameParts_laidOut : laidOutB Tryd.prog = true := by kernel_rfl

theorem frameParts_walk (w : World) (a0 : Int) (hw0 : (Lit.int .u32 a0).wf = true) (v1 : Value) (l1 : List D) (hv1 : CRel (Ren.none (snap w)) (.dat (.two .str .str) l1 none) v1) (ok1 : okD (.sl (.two .str .str)) (.sl l1)) (v2 : Value) (l2 : List D) (hv2 : CRel (Ren.none (snap w)) (.dat (.int .i64) l2 none) v2) (ok2 : okD (.sl (.int .i64)) (.sl l2)) (hx1 : l1.length * 32 ≤ 140737488351232) (hx2 : l2.length * 8 ≤ 140737488351232) :
    Calls Tryd.prog 4 #[.int .u32 a0, v1, v2] w fun e w' => e = .returned (.bool true) ∧ Below w.heap.size w w' := by
  have ok0 : IntKind.min .u32 ≤ a0 ∧ a0 ≤ IntKind.max .u32 := by simpa [Lit.wf] using hw0
  refine calls_true lparts_ok (xs := [.one (.int .u32 a0), .one (.dat (.two .str .str) l1 none), .one (.dat (.int .i64) l2 none)]) (ps := [lg7.layOk a0 4, lg7.isL l1, lg7.isI l2]) Tryd.func4 rfl (by kernel_rfl) rfl ?_ ⟨rfl, fun j x hx => ?_⟩
  · simp only [List.forall_mem_cons]
    exact ⟨⟨(u32_rng ok0).1, Int.lt_trans (u32_rng ok0).2 (by decide), by decide, by decide⟩, ⟨by omega, frames_of ok1⟩, (by omega : l2.length ≤ 140737488355328), by simp⟩
  · match j with
    | 0 => simp only [List.getElem?_cons_zero, Option.some.injEq] at hx; subst hx; exact ⟨_, rfl, rfl⟩
    | 1 => simp only [List.getElem?_cons_succ, List.getElem?_cons_zero, Option.some.injEq] at hx; subst hx; exact ⟨_, rfl, hv1⟩
    | 2 => simp only [List.getElem?_cons_succ, List.getElem?_cons_zero, Option.some.injEq] at hx; subst hx; exact ⟨_, rfl, hv2⟩
    | j + 3 => simp at hx

set_option maxRecDepth 100000 in
theorem frameParts_lifted (os : Os) (started : os.Started) (H : Type) (enc : TypeId × Value → H) :
    ReturnsInHanded {} Tryd.checked os 4 .any (fun w args => (Rows.framePartsSpec.pre enc Tryd.prog Tryd.f4 Rows.framePartsRow.domain false w args ∧ laidMetH Tryd.prog Rows.framePartsRow.laid w) ∧ sizedMet enc Tryd.prog Tryd.f4 (OpenSpec.ofChange Rows.framePartsSpec) false w args) (Rows.framePartsSpec.post enc Tryd.prog Tryd.f4 false true false false) := by
  refine returnsInHanded_of_change_and (C := Tryd.checked) (X := fun w _ => laidMetH Tryd.prog Rows.framePartsRow.laid w) (fun _ _ _ hh h => h.of_heap hh) frameParts_own started (by kernel_rfl) Tryd.func4
    (ChangeSpec.witness_shaped (enc := enc) (C := Tryd.checked) (os := os) (X := fun w _ => laidMetH Tryd.prog Rows.framePartsRow.laid w) false (World.laidAll Tryd.prog os Rows.framePartsRow.laid) #[.int .u32 0, .slice none 0 0, .slice none 0 0] 8 (World.laidAll_os _ _ _)
      (World.shaped_of_ZipB (by kernel_rfl) (by kernel_rfl)) (by kernel_rfl) (by kernel_rfl) (by kernel_rfl)
      (by rw [MakeChecks.laidMetH_plain _ _ _ (by kernel_rfl)]; exact laidMet_laidAll _ (by kernel_rfl) (by kernel_rfl))) ?_
  intro W base args ds gs before hval0 hW hcnd hwt _ _
  have hval : ∀ (j : Nat) t v, Tryd.f4.params[j]? = some t → args[j]? = some v → Value.okWide Tryd.prog W .any base t v := hval0
  have hW' := hW
  obtain ⟨p, q, hA0, hV, rfl, hfz, hnd⟩ := hW
  have hA : DataW.TrodAll enc Tryd.prog W 0 (fun _ => true) true Tryd.f4.params.toList args.toList ds p := hA0
  rw [Tryd.params4] at hA hval
  obtain ⟨v0, vs0, d0, ds0, p0, q0, hargs, rfl, rfl, h0, r0⟩ := trodAll_cons hA
  obtain ⟨v1, vs1, d1, ds1, p1, q1, rfl, rfl, rfl, h1, r1⟩ := trodAll_cons r0
  obtain ⟨v2, vs2, d2, ds2, p2, q2, rfl, rfl, rfl, h2, r2⟩ := trodAll_cons r1
  obtain ⟨rfl, rfl, rfl⟩ := trodAll_nil r2
  obtain rfl : args = #[v0, v1, v2] := by cases args; simp_all
  obtain ⟨rfl, rfl⟩ := trodVars_none hV
  obtain ⟨a0, rfl, rfl, rfl, hw0⟩ := open_int Tryd.underlying22 (hval 0 22 v0 rfl rfl) h0
  have k1 := h1
  have lt1 : ∀ x ∈ p1, x.block < W.heap.size := by obtain ⟨m, hm⟩ := k1; exact DataW.trod_lt m _ _ _ hm
  obtain ⟨l1, hv1, ok1⟩ := arg_dat (s := (.two .str .str)) Tryd.underlying40 (by kernel_rfl) (hval 1 40 v1 rfl rfl) h1
  have k2 := h2
  have lt2 : ∀ x ∈ p2, x.block < W.heap.size := by obtain ⟨m, hm⟩ := k2; exact DataW.trod_lt m _ _ _ hm
  obtain ⟨l2, hv2, ok2⟩ := arg_dat (s := (.int .i64)) Tryd.underlying41 (by kernel_rfl) (hval 2 41 v2 rfl rfl) h2
  clear hA0 hval0
  refine (frameParts_walk W a0 hw0 v1 l1 hv1 ok1 v2 l2 hv2 ok2 (by have h := slice_len (e := 24) (B := reachBytes) Tryd.underlying40 k1 hv1 (fun n hn => of_decide_eq_true (List.all_eq_true.1 hwt _ (DataW.weights_mem_each (j := 1) (t := 40) rfl rfl n hn))); rw [show Tryd.prog.bytesOf 24 = 32 by kernel_rfl] at h; exact h) (by have h := slice_len (e := 3) (B := reachBytes) Tryd.underlying41 k2 hv2 (fun n hn => of_decide_eq_true (List.all_eq_true.1 hwt _ (DataW.weights_mem_each (j := 2) (t := 41) rfl rfl n hn))); rw [show Tryd.prog.bytesOf 3 = 8 by kernel_rfl] at h; exact h)).mono fun e W' ⟨he, bel⟩ => ?_
  subst he
  exact ⟨_, rfl, _, _, _, [], _, [], hW', trodAll_mk1 (shut_bool Tryd.underlying4 _), (trodAll_cons_mk (shut_int Tryd.underlying22 hw0) (trodAll_cons_mk (Below.trod frameParts_laidOut (by kernel_rfl) (of_decide_eq_true (by kernel_rfl)) k1 bel lt1) (trodAll_cons_mk (Below.trod frameParts_laidOut (by kernel_rfl) (of_decide_eq_true (by kernel_rfl)) k2 bel lt2) trodAll_mk0))), rfl, bel.frame _, fun h => by cases h⟩

theorem frameParts_over : Rows.framePartsRow.holds Tryd.pinned (OpenSpec.ofChange Rows.framePartsSpec) :=
  OpenClaim.holds_of_wide 4 Tryd.f4 rfl rfl rfl rfl rfl rfl rfl ⟨rfl, rfl, rfl, rfl, rfl⟩ rfl rfl rfl rfl rfl (by kernel_rfl) Tryd.func4 (by kernel_rfl)
    (of_decide_eq_true (by kernel_rfl)) (by unfold Func.isWrapper; first | (rw [if_pos (by decide +kernel)]; kernel_rfl) | (rw [if_neg (by decide +kernel)]; exact ⟨rfl, rfl⟩))
    (fun os started H enc _ => frameParts_lifted os started H enc)

theorem frameParts_proved : Rows.FramePartsCardSaid :=
  Claim7.holds_tied_plain_at .later [] [.data, .pinned] true (true, "886d3f1adadbb9bbe5b7f9ecfcb6b110252039037caaeb7496236f3fe1e5c092") false frameParts_over (fun _ h => by cases h) (by kernel_rfl) (fun _ h => by cases h) frameParts_row_tie rfl ⟨rfl, rfl⟩ (by kernel_rfl) rfl
    (fun f fn hf hfn => by
      obtain rfl : f = 4 := Option.some.inj ((show Tryd.prog.funcNamed "bedrock/bedrocklaw08.FrameParts" = some 4 by kernel_rfl).symm.trans hf) |>.symm
      obtain rfl : fn = Tryd.f4 := (Option.some.inj (Tryd.func4.symm.trans hfn)).symm
      exact ⟨by kernel_rfl, fun j t ht => by
        rw [Tryd.params4] at ht
        have hm : t ∈ [22, 40, 41] := by simpa using Array.mem_of_getElem? ht
        have hall : ([22, 40, 41].all fun u => !Tryd.prog.wantsStandIn u) = true := by kernel_rfl
        exact (show Tryd.prog.wantsStandIn t = false by simpa using List.all_eq_true.1 hall t hm)⟩)
    (by kernel_rfl)
#print axioms frameParts_proved
end Go.Proofs.YtjiciplcdklfcaaDoor
