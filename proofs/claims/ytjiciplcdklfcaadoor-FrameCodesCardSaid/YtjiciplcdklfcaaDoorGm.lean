/- The row FrameCodes and its card: whatever magic, frame, text and place, the law of frames as bytes returns true and leaves what was there as it was. -/
import Derived.Test.YtjiciplcdklfcaaDoorTie
import Derived.Test.YtjiciplcdklfcaaDoorCards
import Derived.ProofKit
import Derived.OpenShut
import Derived.LaidMore
import Derived.Lay
import Derived.SevenTiedAt
import Derived.Stop.Joined
import Derived.Test.YtjiciplcdklfcaaDoorGl
import Derived.Test.YtjiciplcdklfcaaDoorXm
set_option linter.unusedVariables false
set_option linter.unusedSimpArgs false
namespace Go.Proofs.YtjiciplcdklfcaaDoor
open Go Go.Eng Go.Proofs
open Go.ChangeShapes Go.WideShapes Go.ChangeAt Go.RowKit
attribute [local irreducible] CallOk HOk Run TIok

theorem frameCodes_own : ownKnob Tryd.prog.godebug = none := by kernel_rfl
theorem frameCodes_laidOut : laidOutB Tryd.prog = true := by kernel_rfl

theorem frameCodes_walk (w : World) (a0 : Int) (hw0 : (Lit.int .u32 a0).wf = true) (v1 : Value) (d1 : D) (hv1 : ARel (Ren.none (snap w)) (.agg (.lst (cellsD arR (.two .str .str) d1))) v1) (ok1 : okD (.two .str .str) d1) (v2 : Value) (d2 : D) (hv2 : ARel (Ren.none (snap w)) (.agg (.lst (cellsD arR (.two .str (.int .i64)) d2))) v2) (ok2 : okD (.two .str (.int .i64)) d2) (hx1 : ∀ s : ByteArray, (cellsD arR (.two .str .str) d1)[1]? = some (.str s) → s.size ≤ 140737488351232) :
    Calls Tryd.prog 3 #[.int .u32 a0, v1, v2] w fun e w' => e = .returned (.bool true) ∧ Below w.heap.size w w' := by
  obtain ⟨x1, y1, rfl, g1, g2⟩ := okD_two ok1
  obtain ⟨c, rfl, cz⟩ := okD_strm g1
  obtain ⟨p, rfl, pz⟩ := okD_strm g2
  obtain ⟨x2, y2, rfl, g3, g4⟩ := okD_two ok2
  obtain ⟨s, rfl, sz⟩ := okD_strm g3
  obtain ⟨a, rfl⟩ := okD_int g4
  have ok0 : IntKind.min .u32 ≤ a0 ∧ a0 ≤ IntKind.max .u32 := by simpa [Lit.wf] using hw0
  refine calls_true lcodes_ok (xs := [.one (.int .u32 a0), .agg (.lst [.str c, .str p]), .agg (.lst [.str s, .int .i64 a])]) (ps := [lg5.layOk a0 4, lg5.fit c, lg5.fit47 p, lg5.fit s]) Tryd.func3 rfl (by kernel_rfl) rfl ?_ ⟨rfl, fun j x hx => ?_⟩
  · simp only [List.forall_mem_cons]
    exact ⟨⟨(u32_rng ok0).1, Int.lt_trans (u32_rng ok0).2 (by decide), by decide, by decide⟩, cz, Nat.le_trans (hx1 p rfl) (by decide), sz, by simp⟩
  · match j with
    | 0 => simp only [List.getElem?_cons_zero, Option.some.injEq] at hx; subst hx; exact ⟨_, rfl, rfl⟩
    | 1 => simp only [List.getElem?_cons_succ, List.getElem?_cons_zero, Option.some.injEq] at hx; subst hx; exact ⟨_, rfl, hv1⟩
    | 2 => simp only [List.getElem?_cons_succ, List.getElem?_cons_zero, Option.some.injEq] at hx; subst hx; exact ⟨_, rfl, hv2⟩
    | j + 3 => simp at hx

set_option maxRecDepth 100000 in
theorem frameCodes_lifted (os : Os) (started : os.Started) (H : Type) (enc : TypeId × Value → H) :
    ReturnsInHanded {} Tryd.checked os 3 .any (fun w args => (Rows.frameCodesSpec.pre enc Tryd.prog Tryd.f3 Rows.frameCodesRow.domain false w args ∧ laidMetH Tryd.prog Rows.frameCodesRow.laid w) ∧ sizedMet enc Tryd.prog Tryd.f3 (OpenSpec.ofChange Rows.frameCodesSpec) false w args) (Rows.frameCodesSpec.post enc Tryd.prog Tryd.f3 false true false false) := by
  refine returnsInHanded_of_change_and (C := Tryd.checked) (X := fun w _ => laidMetH Tryd.prog Rows.frameCodesRow.laid w) (fun _ _ _ hh h => h.of_heap hh) frameCodes_own started (by kernel_rfl) Tryd.func3
    (ChangeSpec.witness_shaped (enc := enc) (C := Tryd.checked) (os := os) (X := fun w _ => laidMetH Tryd.prog Rows.frameCodesRow.laid w) false (World.laidAll Tryd.prog os Rows.frameCodesRow.laid) #[.int .u32 0, .agg #[.string ⟨#[]⟩, .string ⟨#[]⟩], .agg #[.string ⟨#[]⟩, .int .i64 0]] 8 (World.laidAll_os _ _ _)
      (World.shaped_of_ZipB (by kernel_rfl) (by kernel_rfl)) (by kernel_rfl) (by kernel_rfl) (by kernel_rfl)
      (by rw [MakeChecks.laidMetH_plain _ _ _ (by kernel_rfl)]; exact laidMet_laidAll _ (by kernel_rfl) (by kernel_rfl))) ?_
  intro W base args ds gs before hval0 hW hcnd hwt _ _
  have hval : ∀ (j : Nat) t v, Tryd.f3.params[j]? = some t → args[j]? = some v → Value.okWide Tryd.prog W .any base t v := hval0
  have hW' := hW
  obtain ⟨p, q, hA0, hV, rfl, hfz, hnd⟩ := hW
  have hA : DataW.TrodAll enc Tryd.prog W 0 (fun _ => true) true Tryd.f3.params.toList args.toList ds p := hA0
  rw [Tryd.params3] at hA hval
  obtain ⟨v0, vs0, d0, ds0, p0, q0, hargs, rfl, rfl, h0, r0⟩ := trodAll_cons hA
  obtain ⟨v1, vs1, d1, ds1, p1, q1, rfl, rfl, rfl, h1, r1⟩ := trodAll_cons r0
  obtain ⟨v2, vs2, d2, ds2, p2, q2, rfl, rfl, rfl, h2, r2⟩ := trodAll_cons r1
  obtain ⟨rfl, rfl, rfl⟩ := trodAll_nil r2
  obtain rfl : args = #[v0, v1, v2] := by cases args; simp_all
  obtain ⟨rfl, rfl⟩ := trodVars_none hV
  obtain ⟨a0, rfl, rfl, rfl, hw0⟩ := open_int Tryd.underlying22 (hval 0 22 v0 rfl rfl) h0
  have k1 := h1
  have lt1 : ∀ x ∈ p1, x.block < W.heap.size := by obtain ⟨m, hm⟩ := k1; exact DataW.trod_lt m _ _ _ hm
  obtain ⟨dd1, hv1, ok1⟩ := arg_struct (s := (.two .str .str)) Tryd.underlying24 (by kernel_rfl) (by kernel_rfl) (hval 1 24 v1 rfl rfl) h1
  have k2 := h2
  have lt2 : ∀ x ∈ p2, x.block < W.heap.size := by obtain ⟨m, hm⟩ := k2; exact DataW.trod_lt m _ _ _ hm
  obtain ⟨dd2, hv2, ok2⟩ := arg_struct (s := (.two .str (.int .i64))) Tryd.underlying26 (by kernel_rfl) (by kernel_rfl) (hval 2 26 v2 rfl rfl) h2
  clear hA0 hval0
  refine (frameCodes_walk W a0 hw0 v1 dd1 hv1 ok1 v2 dd2 hv2 ok2 (fun s hl => struct_str (i := 1) (B := reachBytes) Tryd.underlying24 rfl Tryd.underlying9 (by kernel_rfl) k1 hv1 hl (fun n hn => of_decide_eq_true (List.all_eq_true.1 hwt _ (DataW.weights_mem_each (j := 1) (t := 24) rfl rfl n hn))))).mono fun e W' ⟨he, bel⟩ => ?_
  subst he
  exact ⟨_, rfl, _, _, _, [], _, [], hW', trodAll_mk1 (shut_bool Tryd.underlying4 _), (trodAll_cons_mk (shut_int Tryd.underlying22 hw0) (trodAll_cons_mk (Below.trod frameCodes_laidOut (by kernel_rfl) (of_decide_eq_true (by kernel_rfl)) k1 bel lt1) (trodAll_cons_mk (Below.trod frameCodes_laidOut (by kernel_rfl) (of_decide_eq_true (by kernel_rfl)) k2 bel lt2) trodAll_mk0))), rfl, bel.frame _, fun h => by cases h⟩

theorem frameCodes_over : Rows.frameCodesRow.holds Tryd.pinned (OpenSpec.ofChange Rows.frameCodesSpec) :=
  OpenClaim.holds_of_wide 3 Tryd.f3 rfl rfl rfl rfl rfl rfl rfl ⟨rfl, rfl, rfl, rfl, rfl⟩ rfl rfl rfl rfl rfl (by kernel_rfl) Tryd.func3 (by kernel_rfl)
    (of_decide_eq_true (by kernel_rfl)) (by unfold Func.isWrapper; first | (rw [if_pos (by decide +kernel)]; kernel_rfl) | (rw [if_neg (by decide +kernel)]; exact ⟨rfl, rfl⟩))
    (fun os started H enc _ => frameCodes_lifted os started H enc)

theorem frameCodes_proved : Rows.FrameCodesCardSaid :=
  Claim7.holds_tied_plain_at .later [] [.data, .pinned] true (true, "886d3f1adadbb9bbe5b7f9ecfcb6b110252039037caaeb7496236f3fe1e5c092") false frameCodes_over (fun _ h => by cases h) (by kernel_rfl) (fun _ h => by cases h) frameCodes_row_tie rfl ⟨rfl, rfl⟩ (by kernel_rfl) rfl
    (fun f fn hf hfn => by
      obtain rfl : f = 3 := Option.some.inj ((show Tryd.prog.funcNamed "bedrock/bedrocklaw08.FrameCodes" = some 3 by kernel_rfl).symm.trans hf) |>.symm
      obtain rfl : fn = Tryd.f3 := (Option.some.inj (Tryd.func3.symm.trans hfn)).symm
      exact ⟨by kernel_rfl, fun j t ht => by
        rw [Tryd.params3] at ht
        have hm : t ∈ [22, 24, 26] := by simpa using Array.mem_of_getElem? ht
        have hall : ([22, 24, 26].all fun u => !Tryd.prog.wantsStandIn u) = true := by kernel_rfl
        exact (show Tryd.prog.wantsStandIn t = false by simpa using List.all_eq_true.1 hall t hm)⟩)
    (by kernel_rfl)
#print axioms frameCodes_proved
end Go.Proofs.YtjiciplcdklfcaaDoor
