/- The row MerkleParts: whatever list of ids, marks and part, the law of parts returns true and leaves what was there as it was. -/
import Derived.Test.YtbdahgnccjplaaaNf
set_option linter.unusedVariables false
set_option linter.unusedSimpArgs false
namespace Go.Proofs.Ytbdahgnccjplaaa
open Go Go.Eng Go.Proofs
open Go.ChangeShapes Go.WideShapes Go.ChangeAt Go.RowKit
attribute [local irreducible] CallOk HOk Run TIok

theorem merkleParts_own : ownKnob Try.prog.godebug = none := by kernel_rfl
theorem merkleParts_laidOut : laidOutB Try.prog = true := by kernel_rfl

theorem merkleParts_walk (w : World) (v0 : Value) (l0 : List D) (hv0 : CRel (Ren.none (snap w)) (.dat (.arr .u8 32) l0 none) v0) (ok0 : okD (.sl (.arr .u8 32)) (.sl l0)) (v1 : Value) (l1 : List D) (hv1 : CRel (Ren.none (snap w)) (.dat .bool l1 none) v1) (ok1 : okD (.sl .bool) (.sl l1)) (v2 : Value) (d2 : D) (hv2 : ARel (Ren.none (snap w)) (.agg (.lst (cellsD arR (.two (.int .i64) (.two (.sl .bool) (.sl (.arr .u8 32)))) d2))) v2) (ok2 : okD (.two (.int .i64) (.two (.sl .bool) (.sl (.arr .u8 32)))) d2) (hx2 : ∀ l, (cellsD arR (.two (.int .i64) (.two (.sl .bool) (.sl (.arr .u8 32)))) d2)[2]? = some (.dat (.arr .u8 32) l none) → l.length ≤ 4398046511104) :
    Calls Try.prog 5 #[v0, v1, v2] w fun e w' => e = .returned (.bool true) ∧ Below w.heap.size w w' := by
  obtain ⟨cnt, bits, ids, rfl, ob, oi, oh⟩ := part_shape ok2
  refine calls_true parts_ok (xs := [.one (.dat (.arr .u8 32) l0 none), .one (.dat .bool l1 none), .agg (.lst (cellsD arR (.two (.int .i64) (.two (.sl .bool) (.sl (.arr .u8 32)))) (.pair (.int cnt) (.pair (.sl bits) (.sl ids)))))]) (ps := [lwR.hs l0, lwR.hl2 ids, lwR.longOk bits ids]) Try.func5 rfl (by kernel_rfl) rfl ?_ ⟨rfl, fun j x hx => ?_⟩
  · simp only [List.forall_mem_cons]
    exact ⟨fun d hd => hash_of (ok0.2 d hd), ⟨hx2 ids rfl, fun d hd => hash_of (oh d hd)⟩, ⟨len_max ob, len_max oi⟩, by simp⟩
  · match j with
    | 0 => simp only [List.getElem?_cons_zero, Option.some.injEq] at hx; subst hx; exact ⟨_, rfl, hv0⟩
    | 1 => simp only [List.getElem?_cons_succ, List.getElem?_cons_zero, Option.some.injEq] at hx; subst hx; exact ⟨_, rfl, hv1⟩
    | 2 => simp only [List.getElem?_cons_succ, List.getElem?_cons_zero, Option.some.injEq] at hx; subst hx; exact ⟨_, rfl, hv2⟩
    | j + 3 => simp at hx

set_option maxRecDepth 100000 in
theorem merkleParts_lifted (os : Os) (started : os.Started) (H : Type) (enc : TypeId × Value → H) :
    ReturnsInHanded {} Try.checked os 5 .any (Rows.merklePartsSpec.pre6 enc Try.prog Try.f5 Rows.merklePartsRow.domain false) (Rows.merklePartsSpec.post enc Try.prog Try.f5 false true false false) := by
  refine returnsInHanded_of_change_sized (C := Try.checked) merkleParts_own started (by kernel_rfl) Try.func5
    (ChangeSpec.witness6 (enc := enc) (C := Try.checked) false ⟨#[], #[.slice none 0 0, .slice none 0 0, .agg #[.int .i64 0, .slice none 0 0, .slice none 0 0]], []⟩ 8 (by kernel_rfl) (by kernel_rfl) (by kernel_rfl) (by kernel_rfl)) ?_
  intro W base args ds gs before hval0 hW hcnd hwt _
  have hval : ∀ (j : Nat) t v, Try.f5.params[j]? = some t → args[j]? = some v → Value.okWide Try.prog W .any base t v := hval0
  have hW' := hW
  obtain ⟨p, q, hA0, hV, rfl, hfz, hnd⟩ := hW
  have hA : DataW.TrodAll enc Try.prog W 0 (fun _ => true) true Try.f5.params.toList args.toList ds p := hA0
  rw [Try.params5] at hA hval
  obtain ⟨v0, vs0, d0, ds0, p0, q0, hargs, rfl, rfl, h0, r0⟩ := trodAll_cons hA
  obtain ⟨v1, vs1, d1, ds1, p1, q1, rfl, rfl, rfl, h1, r1⟩ := trodAll_cons r0
  obtain ⟨v2, vs2, d2, ds2, p2, q2, rfl, rfl, rfl, h2, r2⟩ := trodAll_cons r1
  obtain ⟨rfl, rfl, rfl⟩ := trodAll_nil r2
  obtain rfl : args = #[v0, v1, v2] := by cases args; simp_all
  obtain ⟨rfl, rfl⟩ := trodVars_none hV
  have k0 := h0
  have lt0 : ∀ x ∈ p0, x.block < W.heap.size := by obtain ⟨m, hm⟩ := k0; exact DataW.trod_lt m _ _ _ hm
  obtain ⟨l0, hv0, ok0⟩ := arg_dat (s := (.arr .u8 32)) Try.underlying22 (by kernel_rfl) (hval 0 22 v0 rfl rfl) h0
  have k1 := h1
  have lt1 : ∀ x ∈ p1, x.block < W.heap.size := by obtain ⟨m, hm⟩ := k1; exact DataW.trod_lt m _ _ _ hm
  obtain ⟨l1, hv1, ok1⟩ := arg_dat (s := .bool) Try.underlying51 (by kernel_rfl) (hval 1 51 v1 rfl rfl) h1
  have k2 := h2
  have lt2 : ∀ x ∈ p2, x.block < W.heap.size := by obtain ⟨m, hm⟩ := k2; exact DataW.trod_lt m _ _ _ hm
  obtain ⟨dd2, hv2, ok2⟩ := arg_struct (s := (.two (.int .i64) (.two (.sl .bool) (.sl (.arr .u8 32))))) Try.underlying53 (by kernel_rfl) (by kernel_rfl) (hval 2 53 v2 rfl rfl) h2
  clear hA0 hval0
  refine (merkleParts_walk W v0 l0 hv0 ok0 v1 l1 hv1 ok1 v2 dd2 hv2 ok2 (fun l hl => by
    have hb := struct_len (i := 2) (B := reachBytes) Try.underlying53 rfl Try.underlying22 (by kernel_rfl) k2 hv2 hl (fun n hn => of_decide_eq_true (List.all_eq_true.1 hwt _ (DataW.weights_mem_each (j := 2) (t := 53) rfl rfl n hn)))
    have e : Try.prog.bytesOf 25 = 32 := by kernel_rfl
    rw [e] at hb
    have e2 : reachBytes = 140737488351232 := rfl
    omega)).mono fun e W' ⟨he, bel⟩ => ?_
  subst he
  exact ⟨_, rfl, _, _, _, [], _, [], hW', trodAll_mk1 (shut_bool Try.underlying4 _), (trodAll_cons_mk (Below.trod merkleParts_laidOut (by kernel_rfl) (of_decide_eq_true (by kernel_rfl)) k0 bel lt0) (trodAll_cons_mk (Below.trod merkleParts_laidOut (by kernel_rfl) (of_decide_eq_true (by kernel_rfl)) k1 bel lt1) (trodAll_cons_mk (Below.trod merkleParts_laidOut (by kernel_rfl) (of_decide_eq_true (by kernel_rfl)) k2 bel lt2) trodAll_mk0))), rfl, bel.frame _, fun h => by cases h⟩

theorem merkleParts_over : Rows.merklePartsRow.holds Try.pinned (OpenSpec.ofChange Rows.merklePartsSpec) :=
  OpenClaim.holds_of_wide 5 Try.f5 rfl rfl rfl rfl rfl rfl rfl ⟨rfl, rfl, rfl, rfl, rfl⟩ rfl rfl rfl rfl rfl (by kernel_rfl) Try.func5 (by kernel_rfl)
    (of_decide_eq_true (by kernel_rfl)) (by unfold Func.isWrapper; first | (rw [if_pos (by decide +kernel)]; kernel_rfl) | (rw [if_neg (by decide +kernel)]; exact ⟨rfl, rfl⟩))
    (fun os started H enc _ => merkleParts_lifted os started H enc)

theorem merkleParts_proved : Rows.MerklePartsSaid := merkleParts_over
#print axioms merkleParts_proved
end Go.Proofs.Ytbdahgnccjplaaa
