import Derived.Test.YtjiciplcdklfcaaDoorMh
import Derived.Test.YtjiciplcdklfcaaDoorFf
set_option linter.unusedSimpArgs false
set_option linter.unusedVariables false
namespace Go.Eng
open Go
theorem or_add {x y : Int} (k K a : Nat) (hK : K = 2 ^ k) (hx : x = (K : Int) * (a : Int)) (hy : 0 ≤ y) (hy2 : y < (K : Int)) (hs : x + y < 4294967296) : rbin .or .u32 x y = x + y := by
  obtain ⟨c, rfl⟩ := Int.eq_ofNat_of_zero_le hy
  rw [← Int.natCast_mul] at hx
  subst hx hK
  have hc : c < 2 ^ k := by omega
  show IntKind.u32.wrap ((BitVec.ofInt 32 _ ||| BitVec.ofInt 32 _).toNat : Nat) = _
  have e1 : (BitVec.ofInt 32 ((2 ^ k * a : Nat) : Int)).toNat = 2 ^ k * a := by
    rw [BitVec.toNat_ofInt]
    omega
  have e2 : (BitVec.ofInt 32 (c : Int)).toNat = c := by
    rw [BitVec.toNat_ofInt]
    omega
  rw [BitVec.toNat_or, e1, e2, ← Nat.two_pow_add_eq_or_of_lt hc, wrap_u32]
  omega
theorem shl_u32 {x : Int} (n K : Nat) (hn : n ≤ 32) (hK : (2 : Int) ^ n = K) (h0 : 0 ≤ x) (h1 : x * (K : Int) < 4294967296) : rbin .shl .u32 x n = x * (K : Int) := by
  show IntKind.u32.wrap (x * 2 ^ (min (n : Int).toNat 32)) = _
  rw [wrap_u32, show (min (n : Int).toNat 32) = n by omega, hK]
  have : (0 : Int) ≤ x * (K : Int) := Int.mul_nonneg h0 (by omega)
  exact Int.emod_eq_of_lt this h1
theorem word_of2 {b : Fn8} {i : Nat} (h0 : 0 ≤ b (4 * i) ∧ b (4 * i) < 256) (h1 : 0 ≤ b (4 * i + 1) ∧ b (4 * i + 1) < 256) (h2 : 0 ≤ b (4 * i + 2) ∧ b (4 * i + 2) < 256) (h3 : 0 ≤ b (4 * i + 3) ∧ b (4 * i + 3) < 256) :
    rbin .or .u32 (rbin .or .u32 (rbin .or .u32 (rbin .shl .u32 (IntKind.u32.wrap (b (4 * i))) 24) (rbin .shl .u32 (IntKind.u32.wrap (b (4 * i + 1))) 16)) (rbin .shl .u32 (IntKind.u32.wrap (b (4 * i + 2))) 8)) (IntKind.u32.wrap (b (4 * i + 3))) = W16 b i := by
  rw [wrap_byte h0, wrap_byte h1, wrap_byte h2, wrap_byte h3]
  have e0 : rbin .shl .u32 (b (4 * i)) 24 = b (4 * i) * (16777216 : Nat) := shl_u32 24 16777216 (by decide) (by decide) h0.1 (by omega)
  have e1 : rbin .shl .u32 (b (4 * i + 1)) 16 = b (4 * i + 1) * (65536 : Nat) := shl_u32 16 65536 (by decide) (by decide) h1.1 (by omega)
  have e2 : rbin .shl .u32 (b (4 * i + 2)) 8 = b (4 * i + 2) * (256 : Nat) := shl_u32 8 256 (by decide) (by decide) h2.1 (by omega)
  have f1 : rbin .or .u32 (b (4 * i) * (16777216 : Nat)) (b (4 * i + 1) * (65536 : Nat)) = b (4 * i) * (16777216 : Nat) + b (4 * i + 1) * (65536 : Nat) := or_add 24 16777216 (b (4 * i)).toNat (by decide) (by omega) (by omega) (by omega) (by omega)
  have f2 : rbin .or .u32 (b (4 * i) * (16777216 : Nat) + b (4 * i + 1) * (65536 : Nat)) (b (4 * i + 2) * (256 : Nat)) = b (4 * i) * (16777216 : Nat) + b (4 * i + 1) * (65536 : Nat) + b (4 * i + 2) * (256 : Nat) := or_add 16 65536 ((b (4 * i)).toNat * 256 + (b (4 * i + 1)).toNat) (by decide) (by omega) (by omega) (by omega) (by omega)
  have f3 : rbin .or .u32 (b (4 * i) * (16777216 : Nat) + b (4 * i + 1) * (65536 : Nat) + b (4 * i + 2) * (256 : Nat)) (b (4 * i + 3)) = b (4 * i) * (16777216 : Nat) + b (4 * i + 1) * (65536 : Nat) + b (4 * i + 2) * (256 : Nat) + b (4 * i + 3) := or_add 8 256 ((b (4 * i)).toNat * 65536 + (b (4 * i + 1)).toNat * 256 + (b (4 * i + 2)).toNat) (by decide) (by omega) (by omega) (by omega) (by omega)
  rw [e0, e1, e2, f1, f2, f3]
  unfold W16
  omega
theorem add_comm32 (x y : Int) : rbin .add .u32 x y = rbin .add .u32 y x := by
  show IntKind.u32.wrap (x + y) = IntKind.u32.wrap (y + x)
  rw [Int.add_comm]
theorem add_assoc32 (x y z : Int) : rbin .add .u32 x (rbin .add .u32 y z) = rbin .add .u32 (rbin .add .u32 x y) z := by
  show IntKind.u32.wrap (x + IntKind.u32.wrap (y + z)) = IntKind.u32.wrap (IntKind.u32.wrap (x + y) + z)
  simp only [wrap_u32]
  omega
theorem not_u32 {x : Int} (h : isU32 x) : rbin .sub .u32 4294967295 x = run1 .xor .u32 x := by
  obtain ⟨h0, h1⟩ := h
  obtain ⟨c, rfl⟩ := Int.eq_ofNat_of_zero_le h0
  show IntKind.u32.wrap (4294967295 - (c : Int)) = IntKind.u32.wrap ((BitVec.ofInt 32 (4294967295 : Int)) ^^^ (BitVec.ofInt 32 (c : Int))).toNat
  congr 1
  have hc : c < 4294967296 := by omega
  have e : (BitVec.ofInt 32 (4294967295 : Int)) ^^^ (BitVec.ofInt 32 (c : Int)) = ~~~ (BitVec.ofNat 32 c) := by
    rw [show BitVec.ofInt 32 (4294967295 : Int) = BitVec.allOnes 32 by decide, BitVec.ofInt_natCast, BitVec.allOnes_xor]
  rw [e, BitVec.toNat_not, BitVec.toNat_ofNat]
  omega
end Go.Eng
namespace Go.Proofs.YtjiciplcdklfcaaDoor
open Go Go.Eng Go.Proofs Go.RowKit
attribute [local irreducible] CallOk HOk Run TIok rbin rcmp run1 updF shfF blitF
def tbr1 (lf : LS) : Tbl := tbL [(80, sRot lf), (79, sConst lf)] []
theorem tbr1_ok : TblOk Tryd.prog (tbr1 lsR) := tbL_ok (List.forall_mem_cons.2 ⟨turn_ok, List.forall_mem_cons.2 ⟨rconst_ok, nofun⟩⟩) nofun
set_option maxRecDepth 100000 in
theorem rstep_ok : CallOk Tryd.prog 67 (sStep lsR) := by
  refine .of_run (hc := (tbr1 lsR).hc) Tryd.func67 rfl (by kernel_rfl) (by kernel_rfl) fun xs v ps hs hp w => ?_
  unfold sStep at hs
  split at hs
  · rename_i x b
    cases hs
    have hx : isU32s 8 x := hp (lsR.u32s 8 x) (by simp)
    have hb : isU8s 64 b := hp (lsR.u8s 64 b) (by simp)
    clear hp
    refine run_pk hmix ti_ok tbr1_ok 0 false 400 [] [0, 1, 2, 3, 4] [2, 3, 4, 5, 6, 7] [7] (fun ar lf => by conv => lhs; cbv) (allP ?_) ?_
    · trivial
    refine Run.loop (ι := {p : Int × Fn8 × Fn8 // (0 ≤ p.1 ∧ p.1 ≤ 64) ∧ (∀ j : Nat, j < p.1 → p.2.1 j = wt b j) ∧ p.2.2 = kt})
      (fun i => ([.any, .any, .a (.one (.ptr 0 (.lit 0))), .a (.one (.ptr 1 (.lit 0))), .a (.one (.ptr 2 (.lit 0))), .a (.one (.ptr 3 (.lit 0))), .a (.one (.ptr 4 (.lit 0))), .a (.one (.int .i64 i.1.1)), .any, .any, .any, .any, .any, .any, .any, .any, .any, .any, .any, .any, .any, .any, .any, .any, .any, .any, .any, .any, .any, .any, .any, .any, .any, .any, .any, .any, .any, .any, .any, .any, .any, .any, .any, .any, .any, .any, .any, .any, .any, .any, .any, .any, .any, .any, .any, .any, .any, .any, .any, .any, .any, .any, .any, .any, .any, .any, .any, .any, .any, .any, .any, .any, .any, .any, .any, .any, .any, .any, .any, .any, .any, .any, .any, .any, .any, .any, .any, .any, .any, .any, .any, .any, .any, .any, .any, .any, .any, .any, .any, .any, .any, .any, .any, .any, .any, .any, .any, .any, .any, .any, .any, .any, .any, .any, .any, .any, .any, .any, .any, .any, .any, .any, .any, .any, .any, .any, .any, .any, .any, .any, .any, .any, .any, .any, .any, .any, .any, .any, .any, .any, .any, .any, .any, .any, .any, .any, .any, .any, .any, .any, .any, .any, .any, .any, .any, .any, .any, .any, .any, .any, .any, .any, .any, .any, .any, .any, .any, .any, .any, .any, .any, .any, .any, .any, .any, .any, .any, .any, .any, .any, .any, .any, .any, .any, .any, .any, .any, .any, .any], [some ⟨false, .ints .u32 (.lit 8) x⟩, some ⟨false, .ints .u8 (.lit 64) b⟩, some ⟨false, .ints .u32 (.lit 8) (fun _ => 0)⟩, some ⟨false, .ints .u32 (.lit 64) i.1.2.2⟩, some ⟨false, .ints .u32 (.lit 64) i.1.2.1⟩]))
      (fun i => (64 - i.1.1).toNat) ⟨(0, fun _ => 0, lsR.kt), by simp only; omega, fun j hj => by simp only at hj; omega, rfl⟩ ?_
    rintro ⟨⟨i, f, K⟩, hi, hf, hK⟩ ih
    simp only at hi hf hK
    have e3 : rbin .add .i64 i 1 = i + 1 := addi (by omega) (by omega)
    by_cases hlt : i < 64
    · by_cases h16 : i < 16
      · have e1 : rbin .mul .i64 4 i = 4 * i := muli (by omega) (by omega)
        have e4 : rbin .add .i64 (4 * i) 1 = 4 * i + 1 := addi (by omega) (by omega)
        have e5 : rbin .add .i64 (4 * i) 2 = 4 * i + 2 := addi (by omega) (by omega)
        have e6 : rbin .add .i64 (4 * i) 3 = 4 * i + 3 := addi (by omega) (by omega)
        refine run_pk hmix ti_ok tbr1_ok 2 true 400 [true, true] [0, 1, 2, 3, 4] [2, 3, 4, 5, 6, 7] [7] (fun ar lf => by conv => lhs; cbv) (allP ?_) ?_
        · simp only [conj, and_true, arR, rcmp_lss, decide_eq_true_eq, e1, e4, e5, e6, Nat.succ_eq_add_one, Int.ofNat_eq_natCast]
          omega
        · refine ih ⟨(_, _, _), ?_⟩ ?_ _ _
          · simp only [arR, e1, e3, e4, e5, e6, N.val]
            refine ⟨by omega, fun j hj => ?_, hK⟩
            by_cases hji : j = 0 + i.toNat * 1
            · subst hji
              rw [updF_at, wt, dif_pos (by omega)]
              rw [show 0 + (4 * i).toNat * 1 = 4 * (0 + i.toNat * 1) by omega, show 0 + (4 * i + 1).toNat * 1 = 4 * (0 + i.toNat * 1) + 1 by omega, show 0 + (4 * i + 2).toNat * 1 = 4 * (0 + i.toNat * 1) + 2 by omega, show 0 + (4 * i + 3).toNat * 1 = 4 * (0 + i.toNat * 1) + 3 by omega]
              exact word_of2 (hb _ (by omega)) (hb _ (by omega)) (hb _ (by omega)) (hb _ (by omega))
            · rw [updF_ne hji]
              exact hf j (by omega)
          · show (64 - rbin .add .i64 i 1).toNat < (64 - i).toNat
            rw [e3]; omega
      · have e1 : rbin .sub .i64 i 2 = i - 2 := subi (by omega) (by omega)
        have e2 : rbin .sub .i64 i 15 = i - 15 := subi (by omega) (by omega)
        have e4 : rbin .sub .i64 i 7 = i - 7 := subi (by omega) (by omega)
        have e5 : rbin .sub .i64 i 16 = i - 16 := subi (by omega) (by omega)
        refine run_pk hmix ti_ok tbr1_ok 2 true 400 [true, false] [0, 1, 2, 3, 4] [2, 3, 4, 5, 6, 7] [7] (fun ar lf => by conv => lhs; cbv) (allP ?_) ?_
        · simp only [conj, and_true, arR, lsR, rcmp_lss, decide_eq_true_eq, decide_eq_false_iff_not, e1, e2, e4, e5, Nat.succ_eq_add_one, Int.ofNat_eq_natCast]
          have hu : ∀ d : Int, 1 ≤ d → d ≤ 16 → isU32 (f (0 + (i - d).toNat * 1)) := fun d h1 h2 => by
            rw [hf _ (by omega)]
            exact wt_u32 hb _ (by omega)
          have hr : ∀ n, n ∈ rotns → rotn n := fun n h => h
          have u2 := hu 2 (by decide) (by decide)
          have u15 := hu 15 (by decide) (by decide)
          exact ⟨by omega, by omega, by omega, by omega, u15, hr 18 (by decide), u15, hr 7 (by decide), by omega, by omega, u2, hr 19 (by decide), u2, hr 17 (by decide), by omega, by omega, by omega, by omega, by omega, by omega⟩
        · refine ih ⟨(_, _, _), ?_⟩ ?_ _ _
          · simp only [arR, lsR, e1, e2, e3, e4, e5, N.val]
            refine ⟨by omega, fun j hj => ?_, hK⟩
            by_cases hjt : j = 0 + i.toNat * 1
            · rw [hjt, updF_at, hf _ (by omega), hf _ (by omega), hf _ (by omega), hf _ (by omega)]
              rw [wt.eq_def b (0 + i.toNat * 1), dif_neg (by omega), show 0 + (i - 2).toNat * 1 = 0 + i.toNat * 1 - 2 by omega, show 0 + (i - 7).toNat * 1 = 0 + i.toNat * 1 - 7 by omega, show 0 + (i - 15).toNat * 1 = 0 + i.toNat * 1 - 15 by omega, show 0 + (i - 16).toNat * 1 = 0 + i.toNat * 1 - 16 by omega]
              rfl
            · rw [updF_ne hjt]; exact hf j (by omega)
          · show (64 - rbin .add .i64 i 1).toNat < (64 - i).toNat
            rw [e3]; omega
    · obtain rfl : i = 64 := by omega
      refine run_pk hmix ti_ok tbr1_ok 2 false 400 [false] [0, 1, 2, 3, 4, 5] [2, 4, 5, 6, 10, 11] [11] (fun ar lf => by conv => lhs; cbv) (allP ?_) ?_
      · simp only [conj, and_true, arR, rcmp_lss]
        decide
      clear ih
      refine Run.loop (ι := {p : Int × Fn8 × Fn8 × Fn8 // (0 ≤ p.1 ∧ p.1 ≤ 64) ∧ (∀ j : Nat, j < 8 → p.2.1 j = rnds b x p.1.toNat j) ∧ (∀ j : Nat, j < 64 → p.2.2.1 j = wt b j) ∧ p.2.2.2 = kt})
        (fun i => ([.any, .any, .a (.one (.ptr 0 (.lit 0))), .any, .a (.one (.ptr 2 (.lit 0))), .a (.one (.ptr 3 (.lit 0))), .a (.one (.ptr 4 (.lit 0))), .any, .any, .any, .a (.one (.ptr 5 (.lit 0))), .a (.one (.int .i64 i.1.1)), .any, .any, .any, .any, .any, .any, .any, .any, .any, .any, .any, .any, .any, .any, .any, .any, .any, .any, .any, .any, .any, .any, .any, .any, .any, .any, .any, .any, .any, .any, .any, .any, .any, .any, .any, .any, .any, .any, .any, .any, .any, .any, .any, .any, .any, .any, .any, .any, .any, .any, .any, .any, .any, .any, .any, .any, .any, .any, .any, .any, .any, .any, .any, .any, .any, .any, .any, .any, .any, .any, .any, .any, .any, .any, .any, .any, .any, .any, .any, .any, .any, .any, .any, .any, .any, .any, .any, .any, .any, .any, .any, .any, .any, .any, .any, .any, .any, .any, .any, .any, .any, .any, .any, .any, .any, .any, .any, .any, .any, .any, .any, .any, .any, .any, .any, .any, .any, .any, .any, .any, .any, .any, .any, .any, .any, .any, .any, .any, .any, .any, .any, .any, .any, .any, .any, .any, .any, .any, .any, .any, .any, .any, .any, .any, .any, .any, .any, .any, .any, .any, .any, .any, .any, .any, .any, .any, .any, .any, .any, .any, .any, .any, .any, .any, .any, .any, .any, .any, .any, .any, .any, .any, .any, .any, .any, .any, .any], [some ⟨false, .ints .u32 (.lit 8) x⟩, some ⟨false, .ints .u8 (.lit 64) b⟩, some ⟨false, .ints .u32 (.lit 8) (fun _ => 0)⟩, some ⟨false, .ints .u32 (.lit 64) i.1.2.2.2⟩, some ⟨false, .ints .u32 (.lit 64) i.1.2.2.1⟩, some ⟨false, .ints .u32 (.lit 8) i.1.2.1⟩]))
        (fun i => (64 - i.1.1).toNat) ⟨(0, x, f, K), by simp only; omega, fun j hj => rfl, fun j hj => hf j (by omega), hK⟩ ?_
      clear hi hf hK e3 hlt
      rintro ⟨⟨i, y, f, K⟩, hi, hy, hf, hK⟩ ih
      simp only at hi hy hf hK
      have e3 : rbin .add .i64 i 1 = i + 1 := addi (by omega) (by omega)
      by_cases hlt : i < 64
      · have h0 : isU32 (y 0) := by rw [hy 0 (by decide)]; exact rnds_u32 hx _ 0 (by decide)
        have h4 : isU32 (y 4) := by rw [hy 4 (by decide)]; exact rnds_u32 hx _ 4 (by decide)
        refine run_pk hmix ti_ok tbr1_ok 2 true 400 [true] [0, 1, 2, 3, 4, 5] [2, 4, 5, 6, 10, 11] [11] (fun ar lf => by conv => lhs; cbv) (allP ?_) ?_
        · simp only [conj, and_true, arR, lsR, rcmp_lss, decide_eq_true_eq, Nat.succ_eq_add_one, Int.ofNat_eq_natCast]
          have hr : ∀ n, n ∈ rotns → rotn n := fun n h => h
          exact ⟨h0, hr 22 (by decide), h0, hr 13 (by decide), h0, hr 2 (by decide), by omega, by omega, by omega, by omega, h4, hr 25 (by decide), h4, hr 11 (by decide), h4, hr 6 (by decide), hlt⟩
        · refine ih ⟨(_, _, _, _), ?_⟩ ?_ _ _
          · simp only [arR, lsR, e3, N.val]
            refine ⟨by omega, fun j hj => ?_, hf, hK⟩
            rw [show (i + 1).toNat = i.toNat + 1 by omega, show 0 + i.toNat * 1 = i.toNat by omega, hK, hf i.toNat (by omega)]
            show _ = rnd (kt i.toNat) (wt b i.toNat) (rnds b x i.toNat) j
            rw [← rnd_congr hy j hj]
            rw [not_u32 h4]
            match j, hj with
            | 0, _ => exact add_assoc32 _ _ _
            | 1, _ => rfl
            | 2, _ => rfl
            | 3, _ => rfl
            | 4, _ => rfl
            | 5, _ => rfl
            | 6, _ => rfl
            | 7, _ => rfl
          · show (64 - rbin .add .i64 i 1).toNat < (64 - i).toNat
            rw [e3]; omega
      · obtain rfl : i = 64 := by omega
        refine run_pk hmix ti_ok tbr1_ok 2 false 400 [false] [0, 2, 5] [2, 4, 10, 16] [16] (fun ar lf => by conv => lhs; cbv) (allP ?_) ?_
        · simp only [conj, and_true, arR, rcmp_lss]
          decide
        clear ih
        refine Run.loop (ι := {p : Int × Fn8 × Fn8 // (0 ≤ p.1 ∧ p.1 ≤ 8) ∧ (∀ j : Nat, j < p.1 → p.2.1 j = stepS x b j) ∧ (∀ j : Nat, p.1 ≤ j → j < 8 → p.2.1 j = x j) ∧ (∀ j : Nat, j < 8 → p.2.2 j = rnds b x 64 j)})
          (fun i => ([.any, .any, .a (.one (.ptr 0 (.lit 0))), .any, .a (.one (.ptr 1 (.lit 0))), .any, .any, .any, .any, .any, .a (.one (.ptr 2 (.lit 0))), .any, .any, .any, .any, .any, .a (.one (.int .i64 i.1.1)), .any, .any, .any, .any, .any, .any, .any, .any, .any, .any, .any, .any, .any, .any, .any, .any, .any, .any, .any, .any, .any, .any, .any, .any, .any, .any, .any, .any, .any, .any, .any, .any, .any, .any, .any, .any, .any, .any, .any, .any, .any, .any, .any, .any, .any, .any, .any, .any, .any, .any, .any, .any, .any, .any, .any, .any, .any, .any, .any, .any, .any, .any, .any, .any, .any, .any, .any, .any, .any, .any, .any, .any, .any, .any, .any, .any, .any, .any, .any, .any, .any, .any, .any, .any, .any, .any, .any, .any, .any, .any, .any, .any, .any, .any, .any, .any, .any, .any, .any, .any, .any, .any, .any, .any, .any, .any, .any, .any, .any, .any, .any, .any, .any, .any, .any, .any, .any, .any, .any, .any, .any, .any, .any, .any, .any, .any, .any, .any, .any, .any, .any, .any, .any, .any, .any, .any, .any, .any, .any, .any, .any, .any, .any, .any, .any, .any, .any, .any, .any, .any, .any, .any, .any, .any, .any, .any, .any, .any, .any, .any, .any, .any, .any, .any, .any, .any, .any, .any, .any, .any, .any, .any], [some ⟨false, .ints .u32 (.lit 8) i.1.2.1⟩, some ⟨false, .ints .u32 (.lit 8) (fun _ => 0)⟩, some ⟨false, .ints .u32 (.lit 8) i.1.2.2⟩]))
          (fun i => (8 - i.1.1).toNat) ⟨(0, x, y), by simp only; omega, fun j hj => by simp only at hj; omega, fun j _ _ => rfl, hy⟩ ?_
        clear hi hf hK e3 hlt hy
        rintro ⟨⟨i, g, y⟩, hi, hg, hg2, hy⟩ ih
        simp only at hi hg hg2 hy
        have e3 : rbin .add .i64 i 1 = i + 1 := addi (by omega) (by omega)
        by_cases hlt : i < 8
        · refine run_pk hmix ti_ok tbr1_ok 2 true 400 [true] [0, 1, 2] [2, 4, 10, 16] [16] (fun ar lf => by conv => lhs; cbv) (allP ?_) ?_
          · simp only [conj, and_true, arR, rcmp_lss, decide_eq_true_eq, Nat.succ_eq_add_one, Int.ofNat_eq_natCast]
            omega
          · refine ih ⟨(_, _, _), ?_⟩ ?_ _ _
            · simp only [arR, e3, N.val]
              refine ⟨by omega, fun j hj => ?_, fun j hj hj2 => ?_, hy⟩
              · by_cases hji : j = 0 + i.toNat * 1
                · subst hji
                  rw [updF_at, hg2 _ (by omega) (by omega), hy _ (by omega)]
                  exact add_comm32 _ _
                · rw [updF_ne hji]; exact hg j (by omega)
              · rw [updF_ne (by omega)]; exact hg2 j (by omega) hj2
            · show (8 - rbin .add .i64 i 1).toNat < (8 - i).toNat
              rw [e3]; omega
        · obtain rfl : i = 8 := by omega
          refine run_ex hmix ti_ok tbr1_ok 999 false 400 [false] (fun ar lf => by conv => lhs; cbv) (allP ?_) ?_
          · simp only [conj, and_true, arR, rcmp_lss]
            decide
          · refine Run.ret ti_ok rfl rfl ?_
            refine .a (.ints fun j hj => ?_)
            have hj : j < 8 := hj
            exact hg j (by omega)
  · cases hs
def sBytes (lf : LT) : ESpec := fun l => match l with
  | [.agg (.ints .u32 (.lit 8) x)] => some (.a (aF .u8 32 (lf.dg x)), [])
  | _ => none
def tbr0 (lf : LT) : Tbl := tbL [] []
theorem tbr0_ok : TblOk Tryd.prog (tbr0 ltR) := tbL_ok nofun nofun
theorem rbytes_ok : CallOk Tryd.prog 68 (sBytes ltR) := by
  refine .of_run (hc := (tbr0 ltR).hc) Tryd.func68 rfl (by kernel_rfl) (by kernel_rfl) fun xs v ps hs hp w => ?_
  unfold sBytes at hs
  split at hs
  · rename_i X
    cases hs
    clear hp
    refine run_pk hmix ti_ok tbr0_ok 0 false 400 [] [0, 1, 2] [1, 2, 3, 4] [4] (fun ar lf => by conv => lhs; cbv) (allP ?_) ?_
    · trivial
    refine Run.loop (ι := {p : Int × Fn8 // (0 ≤ p.1 ∧ p.1 ≤ 8) ∧ ∀ j : Nat, j < 4 * p.1 → p.2 j = dg X j})
      (fun i => ([.any, .a (.one (.ptr 0 (.lit 0))), .a (.one (.ptr 1 (.lit 0))), .a (.one (.ptr 2 (.lit 0))), .a (.one (.int .i64 i.1.1)), .any, .any, .any, .any, .any, .any, .any, .any, .any, .any, .any, .any, .any, .any, .any, .any, .any, .any, .any, .any, .any, .any, .any, .any], [some ⟨false, .ints .u32 (.lit 8) X⟩, some ⟨false, .ints .u8 (.lit 32) (fun _ => 0)⟩, some ⟨false, .ints .u8 (.lit 32) i.1.2⟩]))
      (fun i => (8 - i.1.1).toNat) ⟨(0, fun _ => 0), by simp only; omega, fun j hj => by simp only at hj; omega⟩ ?_
    rintro ⟨⟨i, f⟩, hi, hf⟩ ih
    simp only at hi hf
    have e3 : rbin .add .i64 i 1 = i + 1 := addi (by omega) (by omega)
    have e1 : rbin .mul .i64 4 i = 4 * i := muli (by omega) (by omega)
    have e4 : rbin .add .i64 (4 * i) 0 = 4 * i + 0 := addi (by omega) (by omega)
    have e5 : rbin .add .i64 (4 * i) 1 = 4 * i + 1 := addi (by omega) (by omega)
    have e6 : rbin .add .i64 (4 * i) 2 = 4 * i + 2 := addi (by omega) (by omega)
    have e7 : rbin .add .i64 (4 * i) 3 = 4 * i + 3 := addi (by omega) (by omega)
    by_cases hlt : i < 8
    · refine run_pk hmix ti_ok tbr0_ok 2 true 400 [true] [0, 1, 2] [1, 2, 3, 4] [4] (fun ar lf => by conv => lhs; cbv) (allP ?_) ?_
      · simp only [conj, and_true, arR, rcmp_lss, decide_eq_true_eq, e1, e4, e5, e6, e7, Nat.succ_eq_add_one, Int.ofNat_eq_natCast]
        omega
      · refine ih ⟨(_, _), ?_⟩ ?_ _ _
        · simp only [arR, e1, e3, e4, e5, e6, e7, N.val]
          refine ⟨by omega, fun j hj => ?_⟩
          obtain ⟨q, rfl⟩ : ∃ q : Nat, i = q := ⟨i.toNat, by omega⟩
          rw [show 0 + (q : Int).toNat * 1 = q by omega, show 0 + (4 * (q : Int) + 0).toNat * 1 = 4 * q by omega, show 0 + (4 * (q : Int) + 1).toNat * 1 = 4 * q + 1 by omega, show 0 + (4 * (q : Int) + 2).toNat * 1 = 4 * q + 2 by omega, show 0 + (4 * (q : Int) + 3).toNat * 1 = 4 * q + 3 by omega]
          rcases (by omega : j < 4 * q ∨ j = 4 * q ∨ j = 4 * q + 1 ∨ j = 4 * q + 2 ∨ j = 4 * q + 3) with h | rfl | rfl | rfl | rfl
          · rw [updF_ne (by omega), updF_ne (by omega), updF_ne (by omega), updF_ne (by omega)]
            exact hf j (by omega)
          · rw [updF_ne (by omega), updF_ne (by omega), updF_ne (by omega), updF_at]
            exact (dg_at (r := 0) (by decide)).symm
          · rw [updF_ne (by omega), updF_ne (by omega), updF_at]
            exact (dg_at (r := 1) (by decide)).symm
          · rw [updF_ne (by omega), updF_at]
            exact (dg_at (r := 2) (by decide)).symm
          · rw [updF_at]
            exact (dg_at (r := 3) (by decide)).symm
        · show (8 - rbin .add .i64 i 1).toNat < (8 - i).toNat
          rw [e3]; omega
    · obtain rfl : i = 8 := by omega
      refine run_ex hmix ti_ok tbr0_ok 999 false 400 [false] (fun ar lf => by conv => lhs; cbv) (allP ?_) ?_
      · simp only [conj, and_true, arR, rcmp_lss]
        decide
      · refine Run.ret ti_ok rfl rfl ?_
        refine .a (.ints fun j hj => ?_)
        have hj : j < 32 := hj
        exact hf j (by omega)
  · cases hs
end Go.Proofs.YtjiciplcdklfcaaDoor
