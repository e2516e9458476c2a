import Derived.Test.YtjiciplcdklfcaaDoorMb
set_option linter.unusedSimpArgs false
set_option linter.unusedVariables false
namespace Go.Eng
open Go
theorem updF_at (f : Nat → Int) (i : Nat) (x : Int) : updF f i x i = x := by simp [updF]
theorem updF_ne {f : Nat → Int} {i j : Nat} {x : Int} (h : j ≠ i) : updF f i x j = f j := by simp [updF, h]
theorem or_byte {x y : Int} (h0 : 0 ≤ x) (h1 : x < 16777216) (g0 : 0 ≤ y) (g1 : y < 256) : rbin .or .u32 (rbin .shl .u32 x 8) y = x * 256 + y := by
  have e : rbin .shl .u32 x 8 = x * 256 := by
    show IntKind.u32.wrap (x * 2 ^ (min (8 : Int).toNat 32)) = _
    rw [wrap_u32, show (min (8 : Int).toNat 32) = 8 by decide, show ((2 : Int) ^ 8) = 256 by decide]
    omega
  rw [e]
  obtain ⟨a, rfl⟩ := Int.eq_ofNat_of_zero_le h0
  obtain ⟨c, rfl⟩ := Int.eq_ofNat_of_zero_le g0
  show IntKind.u32.wrap ((BitVec.ofInt 32 _ ||| BitVec.ofInt 32 _).toNat : Nat) = _
  have hc : c < 256 := by omega
  have ha : a < 16777216 := by omega
  have e1 : (BitVec.ofInt 32 ((a : Int) * 256)).toNat = a * 256 := by
    rw [BitVec.toNat_ofInt, show ((a : Int) * 256) = ((a * 256 : Nat) : Int) by omega]
    omega
  have e2 : (BitVec.ofInt 32 (c : Int)).toNat = c := by
    rw [BitVec.toNat_ofInt]
    omega
  rw [BitVec.toNat_or, e1, e2, show a * 256 = 2 ^ 8 * a by omega, ← Nat.two_pow_add_eq_or_of_lt hc, wrap_u32]
  omega
theorem wrap_byte {x : Int} (h : 0 ≤ x ∧ x < 256) : IntKind.u32.wrap x = x := by rw [wrap_u32]; omega
theorem word_of {b : Fn8} {i : Nat} (h0 : 0 ≤ b (4 * i) ∧ b (4 * i) < 256) (h1 : 0 ≤ b (4 * i + 1) ∧ b (4 * i + 1) < 256) (h2 : 0 ≤ b (4 * i + 2) ∧ b (4 * i + 2) < 256) (h3 : 0 ≤ b (4 * i + 3) ∧ b (4 * i + 3) < 256) :
    rbin .or .u32 (rbin .shl .u32 (rbin .or .u32 (rbin .shl .u32 (rbin .or .u32 (rbin .shl .u32 (rbin .or .u32 (rbin .shl .u32 0 8) (IntKind.u32.wrap (b (4 * i)))) 8) (IntKind.u32.wrap (b (4 * i + 1)))) 8) (IntKind.u32.wrap (b (4 * i + 2)))) 8) (IntKind.u32.wrap (b (4 * i + 3))) = W16 b i := by
  rw [wrap_byte h0, wrap_byte h1, wrap_byte h2, wrap_byte h3, or_byte (by omega) (by omega) h0.1 h0.2, or_byte (by omega) (by omega) h1.1 h1.2, or_byte (by omega) (by omega) h2.1 h2.2, or_byte (by omega) (by omega) h3.1 h3.2]
  unfold W16
  omega
theorem add_u32 (x y : Int) : isU32 (rbin .add .u32 x y) := by
  show 0 ≤ IntKind.u32.wrap (x + y) ∧ IntKind.u32.wrap (x + y) < 4294967296
  rw [wrap_u32]
  omega
theorem wt_u32 {b : Fn8} (hb : isU8s 64 b) (t : Nat) (h : t < 64) : isU32 (wt b t) := by
  rw [wt]
  split
  · have h0 := hb (4 * t) (by omega)
    have h1 := hb (4 * t + 1) (by omega)
    have h2 := hb (4 * t + 2) (by omega)
    have h3 := hb (4 * t + 3) (by omega)
    unfold W16 isU32
    omega
  · exact add_u32 _ _
end Go.Eng
namespace Go.Proofs.YtjiciplcdklfcaaDoor
open Go Go.Eng Go.Proofs Go.RowKit
attribute [local irreducible] CallOk HOk Run TIok rbin rcmp run1 updF shfF blitF
def hConst (lf : LS) : HSpec := fun l bs => match l, bs with
  | [], [] => some (.a (.one (.ptr 0 (.lit 0))), [⟨false, .ints .u32 (.lit 64) lf.kt⟩], [])
  | _, _ => none
theorem constants_ok : HOk Tryd.prog 85 (hConst lsR) := by
  refine .of_run (hc := (tbs0 lsR).hc) Tryd.func85 rfl (by kernel_rfl) (by kernel_rfl) fun las lbs v lbs' ps hs hp w => ?_
  unfold hConst at hs
  split at hs
  · cases hs
    refine run_ex hmix ti_ok tbs0_ok 0 false 400 [] (fun ar lf => by conv => lhs; cbv) (allP ?_) ?_
    · trivial
    · refine Run.ret ti_ok rfl rfl ⟨[0], by simp, fun j hj => by simp at hj, rfl, .of_map rfl, fun i b' hi => ?_⟩
      cases i with
      | succ i => simp at hi
      | zero =>
        simp at hi
        subst hi
        exact ⟨0, _, rfl, rfl, rfl, GLe.ints (by
          simp only [N.val]
          decide +kernel)⟩
  · cases hs
def sConst (lf : LS) : ESpec := fun l => match l with
  | [] => some (.a (aF .u32 64 lf.kt), [])
  | _ => none
theorem rconst_ok : CallOk Tryd.prog 79 (sConst lsR) := by
  refine .eval (tb := tbs0) hmix ti_ok tbs0_ok Tryd.func79 rfl (by kernel_rfl) (by kernel_rfl) fun xs v ps h1 hp => ?_
  unfold sConst at h1
  split at h1
  · cases h1
    refine ⟨400, [], _, fun ar lf => by conv => lhs; cbv, ?_, ?_⟩
    · exact allP trivial
    · refine .a (.ints ?_)
      simp only [N.val]
      decide +kernel
  · cases h1
def sFirst (lf : LS) : ESpec := fun l => match l with
  | [] => some (.a (aF .u32 8 lf.iv), [])
  | _ => none
theorem first_ok : CallOk Tryd.prog 75 (sFirst lsR) := by
  refine .eval (tb := tbs0) hmix ti_ok tbs0_ok Tryd.func75 rfl (by kernel_rfl) (by kernel_rfl) fun xs v ps h1 hp => ?_
  unfold sFirst at h1
  split at h1
  · cases h1
    refine ⟨400, [], _, fun ar lf => by conv => lhs; cbv, ?_, ?_⟩
    · exact allP trivial
    · refine .a (.ints ?_)
      simp only [N.val]
      decide +kernel
  · cases h1
theorem rfirst_ok : CallOk Tryd.prog 66 (sFirst lsR) := by
  refine .eval (tb := tbs0) hmix ti_ok tbs0_ok Tryd.func66 rfl (by kernel_rfl) (by kernel_rfl) fun xs v ps h1 hp => ?_
  unfold sFirst at h1
  split at h1
  · cases h1
    refine ⟨400, [], _, fun ar lf => by conv => lhs; cbv, ?_, ?_⟩
    · exact allP trivial
    · refine .a (.ints ?_)
      simp only [N.val]
      decide +kernel
  · cases h1
def hWords (lf : LS) : HSpec := fun l bs => match l, bs with
  | [.one (.ptr 0 (.lit 0))], [⟨false, .ints .u8 (.lit 64) b⟩] => some (.a (aF .u32 64 (lf.wt b)), [⟨false, .ints .u8 (.lit 64) b⟩], [lf.u8s 64 b])
  | _, _ => none
def tbs2 (lf : LS) : Tbl := tbL [(86, sRot lf)] []
theorem tbs2_ok : TblOk Tryd.prog (tbs2 lsR) := tbL_ok (by simpa using turned_ok) (by simp)
theorem words_ok : HOk Tryd.prog 84 (hWords lsR) := by
  refine .of_run (hc := (tbs2 lsR).hc) Tryd.func84 rfl (by kernel_rfl) (by kernel_rfl) fun las lbs v lbs' ps hs hp w => ?_
  unfold hWords at hs
  split at hs
  · rename_i b
    cases hs
    have hb : isU8s 64 b := hp (lsR.u8s 64 b) (by simp)
    clear hp
    simp only [List.length_cons, List.length_nil]
    refine run_pk hmix ti_ok tbs2_ok 0 false 400 [] [0, 1, 2] [0, 2, 3, 12] [12] (fun ar lf => by conv => lhs; cbv) (allP ?_) ?_
    · trivial
    refine Run.loop (ι := {p : Int × Fn8 // (0 ≤ p.1 ∧ p.1 ≤ 16) ∧ (∀ j : Nat, j < p.1 → p.2 j = W16 b j) ∧ ∀ j : Nat, p.1 ≤ j → j < 64 → p.2 j = 0})
      (fun i => ([.a (.one (.ptr 0 (.lit 0))), .any, .a (.one (.ptr 1 (.lit 0))), .a (.one (.ptr 2 (.lit 0))), .any, .any, .any, .any, .any, .any, .any, .any, .a (.one (.int .i64 i.1.1)), .any, .any, .any, .any, .any, .any, .any, .any, .any, .any, .any, .any, .any, .any, .any, .any, .any, .any, .any, .any, .any, .any, .any, .any, .any, .any, .any, .any, .any, .any, .any, .any, .any, .any, .any, .any, .any, .any, .any, .any, .any, .any, .any, .any, .any, .any, .any, .any, .any, .any, .any, .any, .any, .any, .any, .any, .any, .any, .any, .any, .any, .any, .any, .any, .any, .any, .any, .any, .any, .any], [some ⟨false, .ints .u8 (.lit 64) b⟩, some ⟨false, .ints .u32 (.lit 64) (fun _ => 0)⟩, some ⟨false, .ints .u32 (.lit 64) i.1.2⟩]))
      (fun i => (16 - i.1.1).toNat) ⟨(0, fun _ => 0), by decide, fun j hj => by omega, fun j _ _ => rfl⟩ ?_
    rintro ⟨⟨i, f⟩, hi, hf, hf0⟩ ih
    simp only at hi hf hf0
    have e3 : rbin .add .i64 i 1 = i + 1 := addi (by omega) (by omega)
    have e1 : rbin .mul .i64 4 i = 4 * i := muli (by omega) (by omega)
    have e2 : rbin .mul .i64 4 (i + 1) = 4 * (i + 1) := muli (by omega) (by omega)
    by_cases hlt : i < 16
    · have hne : ¬ 64 = (4 * i).toNat := by omega
      refine run_pk hmix ti_ok tbs2_ok 2 true 400 [true, true, true, true, true, false] [0, 1, 2] [0, 2, 3, 12] [12] (fun ar lf => by conv => lhs; cbv) (allP ?_) ?_
      · simp only [conj, and_true, arR, lsR, rcmp_lss, decide_eq_true_eq, decide_eq_false_iff_not, e1, e2, e3, hne, if_false, Nat.succ_eq_add_one, Int.ofNat_eq_natCast]
        omega
      · refine ih ⟨(_, _), ?_⟩ ?_ _ _
        · simp only [arR, e1, e3, hne, if_false, N.val, updF_at]
          refine ⟨by omega, fun j hj => ?_, fun j hj hj2 => ?_⟩
          · by_cases hji : j = 0 + i.toNat * 1
            · subst hji
              rw [updF_at, hf0 _ (by omega) (by omega)]
              have : i.toNat < 16 := by omega
              rw [show (0 + (4 * i).toNat * 1 + (0 : Int).toNat * 1) = 4 * (0 + i.toNat * 1) by omega, show (0 + (4 * i).toNat * 1 + (1 : Int).toNat * 1) = 4 * (0 + i.toNat * 1) + 1 by omega, show (0 + (4 * i).toNat * 1 + (2 : Int).toNat * 1) = 4 * (0 + i.toNat * 1) + 2 by omega, show (0 + (4 * i).toNat * 1 + (3 : Int).toNat * 1) = 4 * (0 + i.toNat * 1) + 3 by omega]
              exact word_of (hb _ (by omega)) (hb _ (by omega)) (hb _ (by omega)) (hb _ (by omega))
            · rw [updF_ne hji, updF_ne hji, updF_ne hji, updF_ne hji]
              exact hf j (by omega)
          · have hji : j ≠ 0 + i.toNat * 1 := by omega
            rw [updF_ne hji, updF_ne hji, updF_ne hji, updF_ne hji]
            exact hf0 j (by omega) hj2
        · show (16 - rbin .add .i64 i 1).toNat < (16 - i).toNat
          rw [e3]; omega
    · obtain rfl : i = 16 := by omega
      refine run_pk hmix ti_ok tbs2_ok 2 false 400 [false] [0, 1, 2] [0, 2, 3, 7] [7] (fun ar lf => by conv => lhs; cbv) (allP ?_) ?_
      · simp only [conj, and_true, arR, rcmp_lss]
        decide
      refine Run.loop (ι := {p : Int × Fn8 // (16 ≤ p.1 ∧ p.1 ≤ 64) ∧ (∀ j : Nat, j < p.1 → p.2 j = wt b j)})
        (fun i => ([.a (.one (.ptr 0 (.lit 0))), .any, .a (.one (.ptr 1 (.lit 0))), .a (.one (.ptr 2 (.lit 0))), .any, .any, .any, .a (.one (.int .i64 i.1.1)), .any, .any, .any, .any, .any, .any, .any, .any, .any, .any, .any, .any, .any, .any, .any, .any, .any, .any, .any, .any, .any, .any, .any, .any, .any, .any, .any, .any, .any, .any, .any, .any, .any, .any, .any, .any, .any, .any, .any, .any, .any, .any, .any, .any, .any, .any, .any, .any, .any, .any, .any, .any, .any, .any, .any, .any, .any, .any, .any, .any, .any, .any, .any, .any, .any, .any, .any, .any, .any, .any, .any, .any, .any, .any, .any], [some ⟨false, .ints .u8 (.lit 64) b⟩, some ⟨false, .ints .u32 (.lit 64) (fun _ => 0)⟩, some ⟨false, .ints .u32 (.lit 64) i.1.2⟩]))
        (fun i => (64 - i.1.1).toNat) ⟨(16, f), by simp only; omega, fun j hj => by
          have hj : (j : Int) < 16 := hj
          show f j = wt b j
          rw [hf j hj, wt, dif_pos (by omega)]⟩ ?_
      clear ih hf hf0 hi
      rintro ⟨⟨t, f⟩, ht, hf⟩ ih
      simp only at ht hf
      have e1 : rbin .sub .i64 t 2 = t - 2 := subi (by omega) (by omega)
      have e2 : rbin .sub .i64 t 15 = t - 15 := subi (by omega) (by omega)
      have e4 : rbin .sub .i64 t 7 = t - 7 := subi (by omega) (by omega)
      have e5 : rbin .sub .i64 t 16 = t - 16 := subi (by omega) (by omega)
      have e3 : rbin .add .i64 t 1 = t + 1 := addi (by omega) (by omega)
      by_cases hlt : t < 64
      · refine run_pk hmix ti_ok tbs2_ok 2 true 400 [true] [0, 1, 2] [0, 2, 3, 7] [7] (fun ar lf => by conv => lhs; cbv) (allP ?_) ?_
        · simp only [conj, and_true, arR, lsR, rcmp_lss, decide_eq_true_eq, e1, e2, e3, e4, e5, Nat.succ_eq_add_one, Int.ofNat_eq_natCast]
          have hu : ∀ d : Int, 1 ≤ d → d ≤ 16 → isU32 (f (0 + (t - d).toNat * 1)) := fun d h1 h2 => by
            rw [hf _ (by omega)]
            exact wt_u32 hb _ (by omega)
          have hr : ∀ n, n ∈ rotns → rotn n := fun n h => h
          exact ⟨by omega, by omega, by omega, by omega, by omega, by omega, hu 15 (by decide) (by decide), hr 18 (by decide), hu 15 (by decide) (by decide), hr 7 (by decide), hu 2 (by decide) (by decide), hr 19 (by decide), hu 2 (by decide) (by decide), hr 17 (by decide), by omega, by omega, by omega, by omega, by omega⟩
        · refine ih ⟨(_, _), ?_⟩ ?_ _ _
          · simp only [arR, lsR, e1, e2, e3, e4, e5, N.val]
            refine ⟨by omega, fun j hj => ?_⟩
            by_cases hjt : j = 0 + t.toNat * 1
            · rw [hjt, updF_at, hf _ (by omega), hf _ (by omega), hf _ (by omega), hf _ (by omega)]
              rw [wt.eq_def b (0 + t.toNat * 1), dif_neg (by omega), show 0 + (t - 2).toNat * 1 = 0 + t.toNat * 1 - 2 by omega, show 0 + (t - 7).toNat * 1 = 0 + t.toNat * 1 - 7 by omega, show 0 + (t - 15).toNat * 1 = 0 + t.toNat * 1 - 15 by omega, show 0 + (t - 16).toNat * 1 = 0 + t.toNat * 1 - 16 by omega]
              rfl
            · rw [updF_ne hjt]; exact hf j (by omega)
          · show (64 - rbin .add .i64 t 1).toNat < (64 - t).toNat
            rw [e3]; omega
      · obtain rfl : t = 64 := by omega
        refine run_ex hmix ti_ok tbs2_ok 2 false 400 [false] (fun ar lf => by conv => lhs; cbv) (allP ?_) ?_
        · simp only [conj, and_true, arR, rcmp_lss]
          decide
        · refine Run.ret ti_ok rfl rfl ⟨[0], by simp, fun j hj => by (have : j = 0 := by omega); subst this; rfl, rfl, .of (.a (.ints fun j hj => hf j (by have hj : j < 64 := hj; omega))), fun i b' hi => ?_⟩
          cases i with
          | succ i => simp at hi
          | zero =>
            simp at hi
            subst hi
            exact ⟨0, _, rfl, rfl, rfl, GLe.of_map rfl⟩
  · cases hs
end Go.Proofs.YtjiciplcdklfcaaDoor
