import Derived.Test.YtjiciplcdklfcaaDoorMc
set_option linter.unusedSimpArgs false
set_option linter.unusedVariables false
namespace Go.Eng
open Go
theorem rnds_u32 {b x : Fn8} (hx : isU32s 8 x) : ∀ t j, j < 8 → isU32 (rnds b x t j)
  | 0, j, hj => hx j hj
  | t + 1, j, hj => by
    have ih := fun j hj => rnds_u32 (b := b) hx t j hj
    show isU32 (rnd (kt t) (wt b t) (rnds b x t) j)
    match j, hj with
    | 0, _ => exact add_u32 _ _
    | 1, _ => exact ih 0 (by decide)
    | 2, _ => exact ih 1 (by decide)
    | 3, _ => exact ih 2 (by decide)
    | 4, _ => exact add_u32 _ _
    | 5, _ => exact ih 4 (by decide)
    | 6, _ => exact ih 5 (by decide)
    | 7, _ => exact ih 6 (by decide)
theorem rnd_congr {k w : Int} {y z : Fn8} (h : ∀ j, j < 8 → y j = z j) (j : Nat) (hj : j < 8) : rnd k w y j = rnd k w z j := by
  have h0 := h 0 (by decide)
  have h1 := h 1 (by decide)
  have h2 := h 2 (by decide)
  have h3 := h 3 (by decide)
  have h4 := h 4 (by decide)
  have h5 := h 5 (by decide)
  have h6 := h 6 (by decide)
  have h7 := h 7 (by decide)
  have ht : t1 k w y = t1 k w z := by simp only [t1, h4, h5, h6, h7]
  match j, hj with
  | 0, _ => simp only [rnd, ht, h0, h1, h2]
  | 1, _ => exact h0
  | 2, _ => exact h1
  | 3, _ => exact h2
  | 4, _ => simp only [rnd, ht, h3]
  | 5, _ => exact h4
  | 6, _ => exact h5
  | 7, _ => exact h6
end Go.Eng
namespace Go.Proofs.YtjiciplcdklfcaaDoor
open Go Go.Eng Go.Proofs Go.RowKit
attribute [local irreducible] CallOk HOk Run TIok rbin rcmp run1 updF shfF blitF
def sStep (lf : LS) : ESpec := fun l => match l with
  | [.agg (.ints .u32 (.lit 8) x), .agg (.ints .u8 (.lit 64) b)] => some (.a (aF .u32 8 (lf.step x b)), [lf.u32s 8 x, lf.u8s 64 b])
  | _ => none
def tbs3 (lf : LS) : Tbl := tbL [(86, sRot lf)] [(84, hWords lf), (85, hConst lf)]
theorem tbs3_ok : TblOk Tryd.prog (tbs3 lsR) := tbL_ok (by simpa using turned_ok) (by simpa using ⟨words_ok, constants_ok⟩)
theorem step_ok : CallOk Tryd.prog 76 (sStep lsR) := by
  refine .of_run (hc := (tbs3 lsR).hc) Tryd.func76 rfl (by kernel_rfl) (by kernel_rfl) fun xs v ps hs hp w => ?_
  unfold sStep at hs
  split at hs
  · rename_i x b
    cases hs
    have hx : isU32s 8 x := hp (lsR.u32s 8 x) (by simp)
    have hb : isU8s 64 b := hp (lsR.u8s 64 b) (by simp)
    clear hp
    refine run_pk hmix ti_ok tbs3_ok 0 false 400 [] [0, 2, 7, 11, 12] [2, 4, 5, 6, 7, 20] [20] (fun ar lf => by conv => lhs; cbv) (allP ?_) ?_
    · simp only [conj, and_true, lsR]
      exact hb
    refine Run.loop (ι := {p : Int × Fn8 × Fn8 × Fn8 // (0 ≤ p.1 ∧ p.1 ≤ 64) ∧ (∀ j : Nat, j < 8 → p.2.1 j = rnds b x p.1.toNat j) ∧ p.2.2.1 = kt ∧ p.2.2.2 = wt b})
      (fun i => ([.any, .any, .a (.one (.ptr 0 (.lit 0))), .any, .a (.one (.ptr 1 (.lit 0))), .a (.one (.ptr 3 (.lit 0))), .a (.one (.ptr 2 (.lit 0))), .a (.one (.ptr 4 (.lit 0))), .any, .any, .any, .any, .any, .any, .any, .any, .any, .any, .any, .any, .a (.one (.int .i64 i.1.1)), .any, .any, .any, .any, .any, .any, .any, .any, .any, .any, .any, .any, .any, .any, .any, .any, .any, .any, .any, .any, .any, .any, .any, .any, .any, .any, .any, .any, .any, .any, .any, .any, .any, .any, .any, .any, .any, .any, .any, .any, .any, .any, .any, .any, .any, .any, .any, .any, .any, .any, .any, .any, .any, .any, .any, .any, .any, .any, .any, .any, .any, .any, .any, .any, .any, .any, .any, .any, .any, .any, .any, .any, .any, .any, .any, .any, .any, .any, .any, .any, .any, .any, .any, .any, .any, .any, .any, .any, .any, .any, .any, .any, .any, .any, .any, .any, .any, .any, .any], [some ⟨false, .ints .u32 (.lit 8) x⟩, some ⟨false, .ints .u32 (.lit 8) (fun _ => 0)⟩, some ⟨false, .ints .u32 (.lit 64) i.1.2.2.1⟩, some ⟨false, .ints .u32 (.lit 64) i.1.2.2.2⟩, some ⟨false, .ints .u32 (.lit 8) i.1.2.1⟩]))
      (fun i => (64 - i.1.1).toNat) ⟨(0, x, lsR.kt, lsR.wt b), by simp only; omega, fun j hj => rfl, rfl, rfl⟩ ?_
    rintro ⟨⟨t, y, K, Wd⟩, ht, hy, hK, hW⟩ ih
    simp only at ht hy hK hW
    have e3 : rbin .add .i64 t 1 = t + 1 := addi (by omega) (by omega)
    by_cases hlt : t < 64
    · refine run_pk hmix ti_ok tbs3_ok 2 true 400 [true] [0, 1, 2, 3, 4] [2, 4, 5, 6, 7, 20] [20] (fun ar lf => by conv => lhs; cbv) (allP ?_) ?_
      · simp only [conj, and_true, arR, lsR, rcmp_lss, decide_eq_true_eq, Nat.succ_eq_add_one, Int.ofNat_eq_natCast]
        have h0 : isU32 (y 0) := by rw [hy 0 (by decide)]; exact rnds_u32 hx _ 0 (by decide)
        have h4 : isU32 (y 4) := by rw [hy 4 (by decide)]; exact rnds_u32 hx _ 4 (by decide)
        have hr : ∀ n, n ∈ rotns → rotn n := fun n h => h
        exact ⟨by omega, by omega, by omega, by omega, h0, hr 22 (by decide), h0, hr 13 (by decide), h0, hr 2 (by decide), h4, hr 25 (by decide), h4, hr 11 (by decide), h4, hr 6 (by decide), hlt⟩
      · refine ih ⟨(_, _, _, _), ?_⟩ ?_ _ _
        · simp only [arR, lsR, e3, N.val]
          refine ⟨by omega, fun j hj => ?_, hK, hW⟩
          rw [show (t + 1).toNat = t.toNat + 1 by omega, show 0 + t.toNat * 1 = t.toNat by omega, hK, hW]
          show _ = rnd (kt t.toNat) (wt b t.toNat) (rnds b x t.toNat) j
          rw [← rnd_congr hy j hj]
          match j, hj with
          | 0, _ => rfl
          | 1, _ => rfl
          | 2, _ => rfl
          | 3, _ => rfl
          | 4, _ => rfl
          | 5, _ => rfl
          | 6, _ => rfl
          | 7, _ => rfl
        · show (64 - rbin .add .i64 t 1).toNat < (64 - t).toNat
          rw [e3]; omega
    · obtain rfl : t = 64 := by omega
      refine run_pk hmix ti_ok tbs3_ok 2 false 400 [false] [0, 1, 4] [2, 4, 7, 107] [107] (fun ar lf => by conv => lhs; cbv) (allP ?_) ?_
      · simp only [conj, and_true, arR, rcmp_lss]
        decide
      refine Run.loop (ι := {p : Int × Fn8 // (0 ≤ p.1 ∧ p.1 ≤ 8) ∧ (∀ j : Nat, j < p.1 → p.2 j = stepS x b j) ∧ ∀ j : Nat, p.1 ≤ j → j < 8 → p.2 j = rnds b x 64 j})
        (fun i => ([.any, .any, .a (.one (.ptr 0 (.lit 0))), .any, .a (.one (.ptr 1 (.lit 0))), .any, .any, .a (.one (.ptr 2 (.lit 0))), .any, .any, .any, .any, .any, .any, .any, .any, .any, .any, .any, .any, .any, .any, .any, .any, .any, .any, .any, .any, .any, .any, .any, .any, .any, .any, .any, .any, .any, .any, .any, .any, .any, .any, .any, .any, .any, .any, .any, .any, .any, .any, .any, .any, .any, .any, .any, .any, .any, .any, .any, .any, .any, .any, .any, .any, .any, .any, .any, .any, .any, .any, .any, .any, .any, .any, .any, .any, .any, .any, .any, .any, .any, .any, .any, .any, .any, .any, .any, .any, .any, .any, .any, .any, .any, .any, .any, .any, .any, .any, .any, .any, .any, .any, .any, .any, .any, .any, .any, .a (.one (.int .i64 i.1.1)), .any, .any, .any, .any, .any, .any, .any, .any, .any, .any, .any, .any], [some ⟨false, .ints .u32 (.lit 8) x⟩, some ⟨false, .ints .u32 (.lit 8) (fun _ => 0)⟩, some ⟨false, .ints .u32 (.lit 8) i.1.2⟩]))
        (fun i => (8 - i.1.1).toNat) ⟨(0, y), by simp only; omega, fun j hj => by simp only at hj; omega, fun j hj hj2 => hy j hj2⟩ ?_
      clear ih hy ht
      rintro ⟨⟨t, f⟩, ht, hf, hg⟩ ih
      simp only at ht hf hg
      have e3 : rbin .add .i64 t 1 = t + 1 := addi (by omega) (by omega)
      by_cases hlt : t < 8
      · refine run_pk hmix ti_ok tbs3_ok 2 true 400 [true] [0, 1, 2] [2, 4, 7, 107] [107] (fun ar lf => by conv => lhs; cbv) (allP ?_) ?_
        · simp only [conj, and_true, arR, lsR, rcmp_lss, decide_eq_true_eq, Nat.succ_eq_add_one, Int.ofNat_eq_natCast]
          omega
        · refine ih ⟨(_, _), ?_⟩ ?_ _ _
          · simp only [arR, lsR, e3, N.val]
            refine ⟨by omega, fun j hj => ?_, fun j hj hj2 => ?_⟩
            · by_cases hjt : j = 0 + t.toNat * 1
              · rw [hjt, updF_at, hg _ (by omega) (by omega)]; rfl
              · rw [updF_ne hjt]; exact hf j (by omega)
            · rw [updF_ne (by omega)]; exact hg j (by omega) hj2
          · show (8 - rbin .add .i64 t 1).toNat < (8 - t).toNat
            rw [e3]; omega
      · obtain rfl : t = 8 := by omega
        refine run_ex hmix ti_ok tbs3_ok 2 false 400 [false] (fun ar lf => by conv => lhs; cbv) (allP ?_) ?_
        · simp only [conj, and_true, arR, rcmp_lss]
          decide
        · exact Run.ret ti_ok rfl rfl (.a (.ints fun j hj => hf j (by have hj : j < 8 := hj; omega)))
  · cases hs
end Go.Proofs.YtjiciplcdklfcaaDoor
