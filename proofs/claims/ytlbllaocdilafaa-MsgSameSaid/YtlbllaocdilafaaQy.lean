/- The row MsgSame: whatever two messages, the law of Same returns true and leaves what was there as it was. -/
import Derived.Test.YtlbllaocdilafaaQw
import Derived.Test.YtlbllaocdilafaaQx
import Derived.Test.YtlbllaocdilafaaFg
set_option linter.unusedVariables false
set_option linter.unusedSimpArgs false
namespace Go.Proofs.Ytlbllaocdilafaa
open Go Go.Eng Go.Proofs
open Go.ChangeShapes Go.WideShapes Go.ChangeAt Go.RowKit
attribute [local irreducible] CallOk HOk Run TIok

theorem msgSame_own : ownKnob Try.prog.godebug = none := by kernel_rfl
theorem msgSame_laidOut : laidOutB Try.prog = true := by kernel_rfl

theorem msgSame_walk (w : World) (v0 : Value) (d0 : D) (hv0 : ARel (Ren.none (snap w)) (.agg (.lst (cellsD arR (.two (.int .i64) (.two (.int .u32) (.two (.int .u64) (.two (.int .u64) (.two (.int .i64) (.two (.two (.int .u32) (.two (.int .u64) (.two (.arr .u8 16) (.int .u16)))) (.two (.two (.int .u32) (.two (.int .u64) (.two (.arr .u8 16) (.int .u16)))) (.two .str (.two (.int .u32) (.two .bool (.two .bool (.two (.sl (.two (.int .u32) (.two (.int .u64) (.two (.arr .u8 16) (.int .u16))))) (.two (.sl (.two (.int .u32) (.arr .u8 32))) (.two (.sl (.arr .u8 32)) (.two (.arr .u8 32) (.two (.arr .u8 32) (.two (.sl .str) (.two .str (.two .str (.two (.sl (.int .u64)) (.two (.sl (.two (.int .i64) .str)) (.two (.sl (.int .i64)) (.sl .str))))))))))))))))))))))) d0))) v0) (ok0 : okD (.two (.int .i64) (.two (.int .u32) (.two (.int .u64) (.two (.int .u64) (.two (.int .i64) (.two (.two (.int .u32) (.two (.int .u64) (.two (.arr .u8 16) (.int .u16)))) (.two (.two (.int .u32) (.two (.int .u64) (.two (.arr .u8 16) (.int .u16)))) (.two .str (.two (.int .u32) (.two .bool (.two .bool (.two (.sl (.two (.int .u32) (.two (.int .u64) (.two (.arr .u8 16) (.int .u16))))) (.two (.sl (.two (.int .u32) (.arr .u8 32))) (.two (.sl (.arr .u8 32)) (.two (.arr .u8 32) (.two (.arr .u8 32) (.two (.sl .str) (.two .str (.two .str (.two (.sl (.int .u64)) (.two (.sl (.two (.int .i64) .str)) (.two (.sl (.int .i64)) (.sl .str))))))))))))))))))))))) d0) (v1 : Value) (d1 : D) (hv1 : ARel (Ren.none (snap w)) (.agg (.lst (cellsD arR (.two (.int .i64) (.two (.int .u32) (.two (.int .u64) (.two (.int .u64) (.two (.int .i64) (.two (.two (.int .u32) (.two (.int .u64) (.two (.arr .u8 16) (.int .u16)))) (.two (.two (.int .u32) (.two (.int .u64) (.two (.arr .u8 16) (.int .u16)))) (.two .str (.two (.int .u32) (.two .bool (.two .bool (.two (.sl (.two (.int .u32) (.two (.int .u64) (.two (.arr .u8 16) (.int .u16))))) (.two (.sl (.two (.int .u32) (.arr .u8 32))) (.two (.sl (.arr .u8 32)) (.two (.arr .u8 32) (.two (.arr .u8 32) (.two (.sl .str) (.two .str (.two .str (.two (.sl (.int .u64)) (.two (.sl (.two (.int .i64) .str)) (.two (.sl (.int .i64)) (.sl .str))))))))))))))))))))))) d1))) v1) (ok1 : okD (.two (.int .i64) (.two (.int .u32) (.two (.int .u64) (.two (.int .u64) (.two (.int .i64) (.two (.two (.int .u32) (.two (.int .u64) (.two (.arr .u8 16) (.int .u16)))) (.two (.two (.int .u32) (.two (.int .u64) (.two (.arr .u8 16) (.int .u16)))) (.two .str (.two (.int .u32) (.two .bool (.two .bool (.two (.sl (.two (.int .u32) (.two (.int .u64) (.two (.arr .u8 16) (.int .u16))))) (.two (.sl (.two (.int .u32) (.arr .u8 32))) (.two (.sl (.arr .u8 32)) (.two (.arr .u8 32) (.two (.arr .u8 32) (.two (.sl .str) (.two .str (.two .str (.two (.sl (.int .u64)) (.two (.sl (.two (.int .i64) .str)) (.two (.sl (.int .i64)) (.sl .str))))))))))))))))))))))) d1) (hx0 : lenC d0) (hx1 : lenC d1) :
    Calls Try.prog 7 #[v0, v1] w fun e w' => e = .returned (.bool true) ∧ Below w.heap.size w w' := by
  refine calls_true lsame_ok (xs := [.agg (.prt [.v (.two (.int .i64) (.two (.int .u32) (.two (.int .u64) (.two (.int .u64) (.two (.int .i64) (.two (.two (.int .u32) (.two (.int .u64) (.two (.arr .u8 16) (.int .u16)))) (.two (.two (.int .u32) (.two (.int .u64) (.two (.arr .u8 16) (.int .u16)))) (.two .str (.two (.int .u32) (.two .bool (.two .bool (.two (.sl (.two (.int .u32) (.two (.int .u64) (.two (.arr .u8 16) (.int .u16))))) (.two (.sl (.two (.int .u32) (.arr .u8 32))) (.two (.sl (.arr .u8 32)) (.two (.arr .u8 32) (.two (.arr .u8 32) (.two (.sl .str) (.two .str (.two .str (.two (.sl (.int .u64)) (.two (.sl (.two (.int .i64) .str)) (.two (.sl (.int .i64)) (.sl .str))))))))))))))))))))))) d0]), .agg (.prt [.v (.two (.int .i64) (.two (.int .u32) (.two (.int .u64) (.two (.int .u64) (.two (.int .i64) (.two (.two (.int .u32) (.two (.int .u64) (.two (.arr .u8 16) (.int .u16)))) (.two (.two (.int .u32) (.two (.int .u64) (.two (.arr .u8 16) (.int .u16)))) (.two .str (.two (.int .u32) (.two .bool (.two .bool (.two (.sl (.two (.int .u32) (.two (.int .u64) (.two (.arr .u8 16) (.int .u16))))) (.two (.sl (.two (.int .u32) (.arr .u8 32))) (.two (.sl (.arr .u8 32)) (.two (.arr .u8 32) (.two (.arr .u8 32) (.two (.sl .str) (.two .str (.two .str (.two (.sl (.int .u64)) (.two (.sl (.two (.int .i64) .str)) (.two (.sl (.int .i64)) (.sl .str))))))))))))))))))))))) d1])]) (ps := [mFit d0, mFit d1]) Try.func7 rfl (by kernel_rfl) rfl ?_ ⟨rfl, fun j x hx => ?_⟩
  · simp only [List.forall_mem_cons]
    exact ⟨fit_of ok0 hx0, fit_of ok1 hx1, by simp⟩
  · match j with
    | 0 => simp only [List.getElem?_cons_zero, Option.some.injEq] at hx; subst hx; exact ⟨_, rfl, prt_rel hv0⟩
    | 1 => simp only [List.getElem?_cons_succ, List.getElem?_cons_zero, Option.some.injEq] at hx; subst hx; exact ⟨_, rfl, prt_rel hv1⟩
    | j + 2 => simp at hx

set_option maxRecDepth 100000 in
theorem msgSame_lifted (os : Os) (started : os.Started) (H : Type) (enc : TypeId × Value → H) :
    ReturnsInHanded {} Try.checked os 7 .any (Rows.msgSameSpec.pre6 enc Try.prog Try.f7 Rows.msgSameRow.domain false) (Rows.msgSameSpec.post enc Try.prog Try.f7 false true false false) := by
  refine returnsInHanded_of_change_sized (C := Try.checked) msgSame_own started (by kernel_rfl) Try.func7
    (ChangeSpec.witness6 (enc := enc) (C := Try.checked) false ⟨#[], #[.agg #[.int .i64 0, .int .u32 0, .int .u64 0, .int .u64 0, .int .i64 0, .int .u32 0, .int .u64 0, .int .u8 0, .int .u8 0, .int .u8 0, .int .u8 0, .int .u8 0, .int .u8 0, .int .u8 0, .int .u8 0, .int .u8 0, .int .u8 0, .int .u8 0, .int .u8 0, .int .u8 0, .int .u8 0, .int .u8 0, .int .u8 0, .int .u16 0, .int .u32 0, .int .u64 0, .int .u8 0, .int .u8 0, .int .u8 0, .int .u8 0, .int .u8 0, .int .u8 0, .int .u8 0, .int .u8 0, .int .u8 0, .int .u8 0, .int .u8 0, .int .u8 0, .int .u8 0, .int .u8 0, .int .u8 0, .int .u8 0, .int .u16 0, .string ⟨#[]⟩, .int .u32 0, .bool false, .bool false, .slice none 0 0, .slice none 0 0, .slice none 0 0, .int .u8 0, .int .u8 0, .int .u8 0, .int .u8 0, .int .u8 0, .int .u8 0, .int .u8 0, .int .u8 0, .int .u8 0, .int .u8 0, .int .u8 0, .int .u8 0, .int .u8 0, .int .u8 0, .int .u8 0, .int .u8 0, .int .u8 0, .int .u8 0, .int .u8 0, .int .u8 0, .int .u8 0, .int .u8 0, .int .u8 0, .int .u8 0, .int .u8 0, .int .u8 0, .int .u8 0, .int .u8 0, .int .u8 0, .int .u8 0, .int .u8 0, .int .u8 0, .int .u8 0, .int .u8 0, .int .u8 0, .int .u8 0, .int .u8 0, .int .u8 0, .int .u8 0, .int .u8 0, .int .u8 0, .int .u8 0, .int .u8 0, .int .u8 0, .int .u8 0, .int .u8 0, .int .u8 0, .int .u8 0, .int .u8 0, .int .u8 0, .int .u8 0, .int .u8 0, .int .u8 0, .int .u8 0, .int .u8 0, .int .u8 0, .int .u8 0, .int .u8 0, .int .u8 0, .int .u8 0, .int .u8 0, .int .u8 0, .int .u8 0, .int .u8 0, .slice none 0 0, .string ⟨#[]⟩, .string ⟨#[]⟩, .slice none 0 0, .slice none 0 0, .slice none 0 0, .slice none 0 0], .agg #[.int .i64 0, .int .u32 0, .int .u64 0, .int .u64 0, .int .i64 0, .int .u32 0, .int .u64 0, .int .u8 0, .int .u8 0, .int .u8 0, .int .u8 0, .int .u8 0, .int .u8 0, .int .u8 0, .int .u8 0, .int .u8 0, .int .u8 0, .int .u8 0, .int .u8 0, .int .u8 0, .int .u8 0, .int .u8 0, .int .u8 0, .int .u16 0, .int .u32 0, .int .u64 0, .int .u8 0, .int .u8 0, .int .u8 0, .int .u8 0, .int .u8 0, .int .u8 0, .int .u8 0, .int .u8 0, .int .u8 0, .int .u8 0, .int .u8 0, .int .u8 0, .int .u8 0, .int .u8 0, .int .u8 0, .int .u8 0, .int .u16 0, .string ⟨#[]⟩, .int .u32 0, .bool false, .bool false, .slice none 0 0, .slice none 0 0, .slice none 0 0, .int .u8 0, .int .u8 0, .int .u8 0, .int .u8 0, .int .u8 0, .int .u8 0, .int .u8 0, .int .u8 0, .int .u8 0, .int .u8 0, .int .u8 0, .int .u8 0, .int .u8 0, .int .u8 0, .int .u8 0, .int .u8 0, .int .u8 0, .int .u8 0, .int .u8 0, .int .u8 0, .int .u8 0, .int .u8 0, .int .u8 0, .int .u8 0, .int .u8 0, .int .u8 0, .int .u8 0, .int .u8 0, .int .u8 0, .int .u8 0, .int .u8 0, .int .u8 0, .int .u8 0, .int .u8 0, .int .u8 0, .int .u8 0, .int .u8 0, .int .u8 0, .int .u8 0, .int .u8 0, .int .u8 0, .int .u8 0, .int .u8 0, .int .u8 0, .int .u8 0, .int .u8 0, .int .u8 0, .int .u8 0, .int .u8 0, .int .u8 0, .int .u8 0, .int .u8 0, .int .u8 0, .int .u8 0, .int .u8 0, .int .u8 0, .int .u8 0, .int .u8 0, .int .u8 0, .int .u8 0, .int .u8 0, .int .u8 0, .int .u8 0, .int .u8 0, .slice none 0 0, .string ⟨#[]⟩, .string ⟨#[]⟩, .slice none 0 0, .slice none 0 0, .slice none 0 0, .slice none 0 0]], []⟩ 8 (by kernel_rfl) (by kernel_rfl) (by kernel_rfl) (by kernel_rfl)) ?_
  intro W base args ds gs before hval0 hW hcnd hwt _
  have hval : ∀ (j : Nat) t v, Try.f7.params[j]? = some t → args[j]? = some v → Value.okWide Try.prog W .any base t v := hval0
  have hW' := hW
  obtain ⟨p, q, hA0, hV, rfl, hfz, hnd⟩ := hW
  have hA : DataW.TrodAll enc Try.prog W 0 (fun _ => true) true Try.f7.params.toList args.toList ds p := hA0
  rw [Try.params7] at hA hval
  obtain ⟨v0, vs0, d0, ds0, p0, q0, hargs, rfl, rfl, h0, r0⟩ := trodAll_cons hA
  obtain ⟨v1, vs1, d1, ds1, p1, q1, rfl, rfl, rfl, h1, r1⟩ := trodAll_cons r0
  obtain ⟨rfl, rfl, rfl⟩ := trodAll_nil r1
  obtain rfl : args = #[v0, v1] := by cases args; simp_all
  obtain ⟨rfl, rfl⟩ := trodVars_none hV
  have k0 := h0
  have lt0 : ∀ x ∈ p0, x.block < W.heap.size := by obtain ⟨m, hm⟩ := k0; exact DataW.trod_lt m _ _ _ hm
  obtain ⟨dd0, hv0, ok0⟩ := arg_struct (s := (.two (.int .i64) (.two (.int .u32) (.two (.int .u64) (.two (.int .u64) (.two (.int .i64) (.two (.two (.int .u32) (.two (.int .u64) (.two (.arr .u8 16) (.int .u16)))) (.two (.two (.int .u32) (.two (.int .u64) (.two (.arr .u8 16) (.int .u16)))) (.two .str (.two (.int .u32) (.two .bool (.two .bool (.two (.sl (.two (.int .u32) (.two (.int .u64) (.two (.arr .u8 16) (.int .u16))))) (.two (.sl (.two (.int .u32) (.arr .u8 32))) (.two (.sl (.arr .u8 32)) (.two (.arr .u8 32) (.two (.arr .u8 32) (.two (.sl .str) (.two .str (.two .str (.two (.sl (.int .u64)) (.two (.sl (.two (.int .i64) .str)) (.two (.sl (.int .i64)) (.sl .str)))))))))))))))))))))))) Try.underlying79 (by kernel_rfl) (by kernel_rfl) (hval 0 79 v0 rfl rfl) h0
  have k1 := h1
  have lt1 : ∀ x ∈ p1, x.block < W.heap.size := by obtain ⟨m, hm⟩ := k1; exact DataW.trod_lt m _ _ _ hm
  obtain ⟨dd1, hv1, ok1⟩ := arg_struct (s := (.two (.int .i64) (.two (.int .u32) (.two (.int .u64) (.two (.int .u64) (.two (.int .i64) (.two (.two (.int .u32) (.two (.int .u64) (.two (.arr .u8 16) (.int .u16)))) (.two (.two (.int .u32) (.two (.int .u64) (.two (.arr .u8 16) (.int .u16)))) (.two .str (.two (.int .u32) (.two .bool (.two .bool (.two (.sl (.two (.int .u32) (.two (.int .u64) (.two (.arr .u8 16) (.int .u16))))) (.two (.sl (.two (.int .u32) (.arr .u8 32))) (.two (.sl (.arr .u8 32)) (.two (.arr .u8 32) (.two (.arr .u8 32) (.two (.sl .str) (.two .str (.two .str (.two (.sl (.int .u64)) (.two (.sl (.two (.int .i64) .str)) (.two (.sl (.int .i64)) (.sl .str)))))))))))))))))))))))) Try.underlying79 (by kernel_rfl) (by kernel_rfl) (hval 1 79 v1 rfl rfl) h1
  clear hA0 hval0
  refine (msgSame_walk W v0 dd0 hv0 ok0 v1 dd1 hv1 ok1 ⟨(fun s l hl => by
    have hb := struct_len (i := 11) (B := reachBytes) Try.underlying79 rfl Try.underlying73 (by kernel_rfl) k0 hv0 hl (fun n hn => of_decide_eq_true (List.all_eq_true.1 hwt _ (DataW.weights_mem_each (j := 0) (t := 79) rfl rfl n hn)))
    have e : Try.prog.bytesOf 72 = 40 := by kernel_rfl
    rw [e] at hb
    exact hb), (fun s l hl => by
    have hb := struct_len (i := 12) (B := reachBytes) Try.underlying79 rfl Try.underlying74 (by kernel_rfl) k0 hv0 hl (fun n hn => of_decide_eq_true (List.all_eq_true.1 hwt _ (DataW.weights_mem_each (j := 0) (t := 79) rfl rfl n hn)))
    have e : Try.prog.bytesOf 127 = 36 := by kernel_rfl
    rw [e] at hb
    exact hb), (fun s l hl => by
    have hb := struct_len (i := 13) (B := reachBytes) Try.underlying79 rfl Try.underlying22 (by kernel_rfl) k0 hv0 hl (fun n hn => of_decide_eq_true (List.all_eq_true.1 hwt _ (DataW.weights_mem_each (j := 0) (t := 79) rfl rfl n hn)))
    have e : Try.prog.bytesOf 25 = 32 := by kernel_rfl
    rw [e] at hb
    exact hb), (fun s l hl => by
    have hb := struct_len (i := 16) (B := reachBytes) Try.underlying79 rfl Try.underlying75 (by kernel_rfl) k0 hv0 hl (fun n hn => of_decide_eq_true (List.all_eq_true.1 hwt _ (DataW.weights_mem_each (j := 0) (t := 79) rfl rfl n hn)))
    have e : Try.prog.bytesOf 9 = 16 := by kernel_rfl
    rw [e] at hb
    exact hb), (fun s l hl => by
    have hb := struct_len (i := 19) (B := reachBytes) Try.underlying79 rfl Try.underlying76 (by kernel_rfl) k0 hv0 hl (fun n hn => of_decide_eq_true (List.all_eq_true.1 hwt _ (DataW.weights_mem_each (j := 0) (t := 79) rfl rfl n hn)))
    have e : Try.prog.bytesOf 68 = 8 := by kernel_rfl
    rw [e] at hb
    exact hb), (fun s l hl => by
    have hb := struct_len (i := 20) (B := reachBytes) Try.underlying79 rfl Try.underlying77 (by kernel_rfl) k0 hv0 hl (fun n hn => of_decide_eq_true (List.all_eq_true.1 hwt _ (DataW.weights_mem_each (j := 0) (t := 79) rfl rfl n hn)))
    have e : Try.prog.bytesOf 133 = 24 := by kernel_rfl
    rw [e] at hb
    exact hb), (fun s l hl => by
    have hb := struct_len (i := 21) (B := reachBytes) Try.underlying79 rfl Try.underlying60 (by kernel_rfl) k0 hv0 hl (fun n hn => of_decide_eq_true (List.all_eq_true.1 hwt _ (DataW.weights_mem_each (j := 0) (t := 79) rfl rfl n hn)))
    have e : Try.prog.bytesOf 3 = 8 := by kernel_rfl
    rw [e] at hb
    exact hb), (fun s l hl => by
    have hb := struct_len (i := 22) (B := reachBytes) Try.underlying79 rfl Try.underlying75 (by kernel_rfl) k0 hv0 hl (fun n hn => of_decide_eq_true (List.all_eq_true.1 hwt _ (DataW.weights_mem_each (j := 0) (t := 79) rfl rfl n hn)))
    have e : Try.prog.bytesOf 9 = 16 := by kernel_rfl
    rw [e] at hb
    exact hb)⟩ ⟨(fun s l hl => by
    have hb := struct_len (i := 11) (B := reachBytes) Try.underlying79 rfl Try.underlying73 (by kernel_rfl) k1 hv1 hl (fun n hn => of_decide_eq_true (List.all_eq_true.1 hwt _ (DataW.weights_mem_each (j := 1) (t := 79) rfl rfl n hn)))
    have e : Try.prog.bytesOf 72 = 40 := by kernel_rfl
    rw [e] at hb
    exact hb), (fun s l hl => by
    have hb := struct_len (i := 12) (B := reachBytes) Try.underlying79 rfl Try.underlying74 (by kernel_rfl) k1 hv1 hl (fun n hn => of_decide_eq_true (List.all_eq_true.1 hwt _ (DataW.weights_mem_each (j := 1) (t := 79) rfl rfl n hn)))
    have e : Try.prog.bytesOf 127 = 36 := by kernel_rfl
    rw [e] at hb
    exact hb), (fun s l hl => by
    have hb := struct_len (i := 13) (B := reachBytes) Try.underlying79 rfl Try.underlying22 (by kernel_rfl) k1 hv1 hl (fun n hn => of_decide_eq_true (List.all_eq_true.1 hwt _ (DataW.weights_mem_each (j := 1) (t := 79) rfl rfl n hn)))
    have e : Try.prog.bytesOf 25 = 32 := by kernel_rfl
    rw [e] at hb
    exact hb), (fun s l hl => by
    have hb := struct_len (i := 16) (B := reachBytes) Try.underlying79 rfl Try.underlying75 (by kernel_rfl) k1 hv1 hl (fun n hn => of_decide_eq_true (List.all_eq_true.1 hwt _ (DataW.weights_mem_each (j := 1) (t := 79) rfl rfl n hn)))
    have e : Try.prog.bytesOf 9 = 16 := by kernel_rfl
    rw [e] at hb
    exact hb), (fun s l hl => by
    have hb := struct_len (i := 19) (B := reachBytes) Try.underlying79 rfl Try.underlying76 (by kernel_rfl) k1 hv1 hl (fun n hn => of_decide_eq_true (List.all_eq_true.1 hwt _ (DataW.weights_mem_each (j := 1) (t := 79) rfl rfl n hn)))
    have e : Try.prog.bytesOf 68 = 8 := by kernel_rfl
    rw [e] at hb
    exact hb), (fun s l hl => by
    have hb := struct_len (i := 20) (B := reachBytes) Try.underlying79 rfl Try.underlying77 (by kernel_rfl) k1 hv1 hl (fun n hn => of_decide_eq_true (List.all_eq_true.1 hwt _ (DataW.weights_mem_each (j := 1) (t := 79) rfl rfl n hn)))
    have e : Try.prog.bytesOf 133 = 24 := by kernel_rfl
    rw [e] at hb
    exact hb), (fun s l hl => by
    have hb := struct_len (i := 21) (B := reachBytes) Try.underlying79 rfl Try.underlying60 (by kernel_rfl) k1 hv1 hl (fun n hn => of_decide_eq_true (List.all_eq_true.1 hwt _ (DataW.weights_mem_each (j := 1) (t := 79) rfl rfl n hn)))
    have e : Try.prog.bytesOf 3 = 8 := by kernel_rfl
    rw [e] at hb
    exact hb), (fun s l hl => by
    have hb := struct_len (i := 22) (B := reachBytes) Try.underlying79 rfl Try.underlying75 (by kernel_rfl) k1 hv1 hl (fun n hn => of_decide_eq_true (List.all_eq_true.1 hwt _ (DataW.weights_mem_each (j := 1) (t := 79) rfl rfl n hn)))
    have e : Try.prog.bytesOf 9 = 16 := by kernel_rfl
    rw [e] at hb
    exact hb)⟩).mono fun e W' ⟨he, bel⟩ => ?_
  subst he
  exact ⟨_, rfl, _, _, _, [], _, [], hW', trodAll_mk1 (shut_bool Try.underlying4 _), (trodAll_cons_mk (Below.trod msgSame_laidOut (by kernel_rfl) (of_decide_eq_true (by kernel_rfl)) k0 bel lt0) (trodAll_cons_mk (Below.trod msgSame_laidOut (by kernel_rfl) (of_decide_eq_true (by kernel_rfl)) k1 bel lt1) trodAll_mk0)), rfl, bel.frame _, fun h => by cases h⟩

theorem msgSame_over : Rows.msgSameRow.holds Try.pinned (OpenSpec.ofChange Rows.msgSameSpec) :=
  OpenClaim.holds_of_wide 7 Try.f7 rfl rfl rfl rfl rfl rfl rfl ⟨rfl, rfl, rfl, rfl, rfl⟩ rfl rfl rfl rfl rfl (by kernel_rfl) Try.func7 (by kernel_rfl)
    (of_decide_eq_true (by kernel_rfl)) (by unfold Func.isWrapper; first | (rw [if_pos (by decide +kernel)]; kernel_rfl) | (rw [if_neg (by decide +kernel)]; exact ⟨rfl, rfl⟩))
    (fun os started H enc _ => msgSame_lifted os started H enc)

theorem msgSame_proved : Rows.MsgSameSaid := msgSame_over
#print axioms msgSame_proved
end Go.Proofs.Ytlbllaocdilafaa
