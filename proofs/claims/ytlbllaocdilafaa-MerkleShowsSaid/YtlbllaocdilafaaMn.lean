import Derived.Test.YtlbllaocdilafaaMm
set_option linter.unusedSimpArgs false
set_option linter.unusedVariables false
namespace Go.Eng
open Go
theorem odd_step {xs : List D} {n s : Nat} (h : 1 < n) (he : ¬ n % 2 = 1) : oddN xs n s = oddN xs (n / 2) (2 * s) := by
  rw [oddN, dif_pos h, if_neg he]
theorem mul_half {n s : Nat} (he : ¬ n % 2 = 1) : n / 2 * (2 * s) = n * s := by
  obtain ⟨q, rfl⟩ : ∃ q, n = 2 * q := ⟨n / 2, by omega⟩
  rw [show 2 * q / 2 = q by omega, ← Nat.mul_assoc, Nat.mul_comm q 2]
theorem lvls_dep : ∀ (xs : List D), (lvls xs).length = dep xs.length + 1 := by
  intro xs
  generalize hn : xs.length = n
  induction n using Nat.strongRecOn generalizing xs with
  | _ n ih =>
    rw [lvls, dep]
    by_cases h : 1 < n
    · rw [dif_pos (by omega), dif_pos h, List.length_cons]
      have := ih (abv xs).length (by rw [abv_len]; omega) _ rfl
      rw [this, abv_len, hn, show (n + 1) / 2 = n / 2 + n % 2 by omega]
    · rw [dif_neg (by omega), dif_neg h]; rfl
theorem same_self {xs : List D} : sameD xs xs = true := by
  unfold sameD
  rw [Bool.and_eq_true]
  refine ⟨by simp, ?_⟩
  rw [List.all_eq_true]
  intro i _
  unfold eqD
  simp
theorem drop_lvls {L k : List D} {i : Nat} (h : L.drop i = lvls k) : L.getD i (.int 0) = .sl k ∧ (1 < k.length → L.drop (i + 1) = lvls (abv k)) ∧ (L.length = i + 1 ↔ ¬ 1 < k.length) ∧ i < L.length := by
  have hp := lvls_ne k
  have hl : i < L.length := by
    have := congrArg List.length h
    rw [List.length_drop] at this
    omega
  have h2 := drop_at hl
  rw [h, lvls] at h2
  by_cases hk : 1 < k.length
  · rw [dif_pos hk] at h2
    obtain ⟨h3, h4⟩ := List.cons.inj h2
    refine ⟨h3.symm, fun _ => h4.symm, ?_, hl⟩
    constructor
    · intro e
      rw [List.drop_of_length_le (by omega)] at h4
      have := lvls_ne (abv k)
      rw [h4] at this
      simp at this
    · intro hn; exact absurd hk hn
  · rw [dif_neg hk] at h2
    obtain ⟨h3, h4⟩ := List.cons.inj h2
    refine ⟨h3.symm, fun h => absurd h hk, ?_, hl⟩
    constructor
    · exact fun _ => hk
    · intro _
      have := congrArg List.length h4
      simp only [List.length_nil, List.length_drop] at this
      omega
end Go.Eng
namespace Go.Proofs.Ytlbllaocdilafaa
open Go Go.Eng Go.Proofs Go.RowKit
attribute [local irreducible] CallOk HOk Run TIok rbin rcmp run1 updF shfF blitF
def sOdd (lf : LN) : ESpec := fun l => match l with
  | [.one (.dat (.arr .u8 32) xs none)] => some (.a (.one (.dat (.arr .u8 32) (lf.odd xs) none)), [lf.hl xs])
  | _ => none
def tbn1 (lf : LN) : Tbl := tbL [(49, sLast lf)] [(48, hClone6 lf.toLK)]
theorem tbn1_ok : TblOk Try.prog (tbn1 lnR) := tbL_ok (List.forall_mem_cons.2 ⟨last_ok, nofun⟩) (List.forall_mem_cons.2 ⟨clone_ok6, nofun⟩)
theorem odd_ok : CallOk Try.prog 18 (sOdd lnR) := by
  refine .of_run (hc := (tbn1 lnR).hc) Try.func18 rfl (by kernel_rfl) (by kernel_rfl) fun xs v ps hs hp w => ?_
  unfold sOdd at hs
  split at hs
  · rename_i xs
    cases hs
    have hx : HL xs := hp (lnR.hl xs) (by simp)
    clear hp
    have hlen := hx.1
    by_cases h0 : 1 < xs.length
    · refine run_pa hmix ti_ok tbn1_ok 0 false 400 [true] [0, 3, 4, 5] [4, 5] (fun ar lf => by conv => lhs; cbv) (allP ?_) ?_
      · simp only [conj, and_true, Int.ofNat_eq_natCast, arR, rcmp_gtr, decide_eq_true_eq]
        exact ⟨by omega, hx⟩
      refine Run.loop (ι := {p : Int × Int // 0 < p.1 ∧ 0 < p.2 ∧ p.1.toNat * p.2.toNat = xs.length ∧ oddN xs p.1.toNat p.2.toNat = oddD xs})
        (fun i => ([.a (.one (.dat (.arr .u8 32) xs none)), .any, .any, .a (.one (.dat (.arr .u8 32) xs (some 0))), .a (.one (.int .i64 i.1.1)), .a (.one (.int .i64 i.1.2)), .any, .any, .any, .any, .any, .any, .any, .any, .any, .any, .any, .any, .any, .any, .any, .any, .any, .any, .any, .any, .any, .any, .any, .any, .any, .any, .any], [some ⟨false, .tail⟩]))
        (fun i => i.1.1.toNat) ⟨(xs.length, 1), by simp only; omega, by simp only; omega, by show (xs.length : Int).toNat * (1 : Int).toNat = xs.length; simp, rfl⟩ ?_
      rintro ⟨⟨n, s⟩, hn, hs0, hns, ho⟩ ih
      simp only at hn hs0 hns ho
      have hsl : s.toNat ≤ xs.length := by rw [← hns]; exact Nat.le_mul_of_pos_left _ (by omega)
      have hnl : n.toNat ≤ xs.length := by rw [← hns]; exact Nat.le_mul_of_pos_right _ (by omega)
      by_cases h1 : 1 < n
      · have e1 : rbin .rem .i64 n 2 = n % 2 := rem_pos (by omega)
        by_cases h2 : n % 2 = 1
        · have hlast : lastI xs.length s = s := by
            unfold lastI
            have : ((xs.length : Int)) % s = 0 := by
              rw [← hns]
              have : ((n.toNat * s.toNat : Nat) : Int) = n * s := by rw [Int.natCast_mul, Int.toNat_of_nonneg (by omega), Int.toNat_of_nonneg (by omega)]
              rw [this, Int.mul_emod_left]
            rw [if_pos this]
          have e2 : rbin .sub .i64 xs.length s = xs.length - s := subi (by omega) (by omega)
          refine run_ex hmix ti_ok tbn1_ok 999 false 400 [true, true] (fun ar lf => by conv => lhs; cbv) (allP ?_) ?_
          · simp only [conj, and_true, Int.ofNat_eq_natCast, arR, lnR, rcmp_gtr, rcmp_eql, decide_eq_true_eq, e1, hlast, e2, maxLen, List.length_drop, List.length_take]
            ((repeat' with_reducible apply And.intro) <;> first | omega | assumption | rfl | trivial)
          · refine Run.ret ti_ok rfl rfl (.a (.dat ?_))
            show xs ++ (xs.take xs.length).drop (rbin .sub .i64 xs.length (lastI xs.length s)).toNat = oddD xs
            rw [hlast, e2, List.take_length, ← ho, oddN, dif_pos (by omega), if_pos (by omega), show ((xs.length : Int) - s).toNat = xs.length - s.toNat by omega]
        · have e2 : rbin .quo .i64 n 2 = n / 2 := quo_pos (by omega) (by omega) (by decide)
          have hs2 : 2 * s.toNat ≤ xs.length := by
            rw [← hns]
            exact Nat.mul_le_mul_right _ (by omega)
          have e3 : rbin .mul .i64 2 s = 2 * s := muli (by omega) (by omega)
          refine run_pa hmix ti_ok tbn1_ok 2 true 400 [true, false] [0, 3, 4, 5] [4, 5] (fun ar lf => by conv => lhs; cbv) (allP ?_) ?_
          · simp only [conj, and_true, Int.ofNat_eq_natCast, arR, rcmp_gtr, rcmp_eql, decide_eq_true_eq, decide_eq_false_iff_not, e1]
            exact ⟨h2, by omega⟩
          · refine ih ⟨(_, _), ?_⟩ ?_ _ _
            · simp only [arR, e2, e3]
              rw [show (n / 2).toNat = n.toNat / 2 by omega, show (2 * s).toNat = 2 * s.toNat by omega]
              refine ⟨by omega, by omega, ?_, ?_⟩
              · rw [mul_half (by omega), hns]
              · rw [← ho, ← odd_step (by omega) (by omega)]
            · show (rbin .quo .i64 n 2).toNat < n.toNat
              rw [e2]; omega
      · refine run_ex hmix ti_ok tbn1_ok 999 false 400 [false] (fun ar lf => by conv => lhs; cbv) (allP ?_) ?_
        · simp only [conj, and_true, Int.ofNat_eq_natCast, arR, rcmp_gtr, decide_eq_false_iff_not]
          omega
        · refine Run.ret ti_ok rfl rfl (.a (.dat ?_))
          show xs = oddD xs
          rw [← ho, oddN, dif_neg (by omega)]
    · refine run_ex hmix ti_ok tbn1_ok 999 false 400 [false] (fun ar lf => by conv => lhs; cbv) (allP ?_) ?_
      · simp only [conj, and_true, Int.ofNat_eq_natCast, arR, rcmp_gtr, decide_eq_false_iff_not]
        exact ⟨by omega, hx⟩
      · refine Run.ret ti_ok rfl rfl (.a (.dat ?_))
        show xs = oddD xs
        unfold oddD
        rw [oddN, dif_neg (by omega)]
  · cases hs
theorem rodd_ok : CallOk Try.prog 19 (sOdd lnR) := by
  refine .of_run (hc := (tbn0 lnR).hc) Try.func19 rfl (by kernel_rfl) (by kernel_rfl) fun xs v ps hs hp w => ?_
  unfold sOdd at hs
  split at hs
  · rename_i xs
    cases hs
    have hx : HL xs := hp (lnR.hl xs) (by simp)
    clear hp
    have hlen := hx.1
    refine run_pa hmix ti_ok tbn0_ok 0 false 400 [] [0, 3] [3] (fun ar lf => by conv => lhs; cbv) (allP ?_) ?_
    · trivial
    refine Run.loop (ι := {p : Nat × Int // 0 < p.2 ∧ p.1 * p.2.toNat = xs.length ∧ oddN xs p.1 p.2.toNat = oddD xs})
      (fun i => ([.a (.one (.dat (.arr .u8 32) xs none)), .any, .any, .a (.one (.int .i64 i.1.2)), .any, .any, .any, .any, .any, .any, .any, .any, .any, .any, .any, .any, .any, .any, .any, .any, .any, .any, .any, .any, .any, .any, .any, .any, .any, .any, .any, .any], []))
      (fun i => i.1.1) ⟨(xs.length, 1), by simp only; omega, by show xs.length * (1 : Int).toNat = xs.length; simp, rfl⟩ ?_
    rintro ⟨⟨n, s⟩, hs0, hns, ho⟩ ih
    simp only at hs0 hns ho
    obtain ⟨t, rfl⟩ : ∃ t : Nat, s = t := ⟨s.toNat, by omega⟩
    rw [show (t : Int).toNat = t by omega] at hns ho
    have ht0 : 0 < t := by omega
    by_cases h1 : 1 < n
    · have h2t : 2 * t ≤ xs.length := by rw [← hns]; exact Nat.mul_le_mul_right _ (by omega)
      have hlt : (t : Int) < xs.length := by omega
      have e1 : rbin .add .i64 xs.length t = xs.length + t := addi (by omega) (by omega)
      have e2 : rbin .sub .i64 (xs.length + t) 1 = xs.length + t - 1 := subi (by omega) (by omega)
      have e3 : rbin .quo .i64 (xs.length + t - 1) t = n := by
        rw [quo_pos (by omega) (by omega) (by omega), ← hns]
        have : ((n * t : Nat) : Int) + t - 1 = ((n * t + (t - 1) : Nat) : Int) := by omega
        rw [this, ← Int.natCast_ediv, Nat.mul_comm n t, Nat.mul_add_div ht0, Nat.div_eq_of_lt (by omega : t - 1 < t)]; rfl
      have hnl : n ≤ xs.length := by rw [← hns]; exact Nat.le_mul_of_pos_right _ (by omega)
      have e4 : rbin .rem .i64 n 2 = n % 2 := rem_pos (by omega)
      by_cases h2 : n % 2 = 1
      · have e5 : rbin .sub .i64 n 1 = n - 1 := subi (by omega) (by omega)
        have e6 : ((n : Int) - 1) * t = xs.length - t := by
          rw [← hns, Int.sub_mul, Int.natCast_mul]; omega
        have e7 : rbin .mul .i64 (n - 1) t = xs.length - t := by
          rw [← e6]
          exact muli (by rw [e6]; omega) (by rw [e6]; omega)
        refine run_ex hmix ti_ok tbn0_ok 999 false 400 [true, true] (fun ar lf => by conv => lhs; cbv) (allP ?_) ?_
        · simp only [conj, and_true, Int.ofNat_eq_natCast, arR, rcmp_lss, rcmp_eql, decide_eq_true_eq, e1, e2, e3, e4, e5, e7, maxLen, List.length_drop, List.length_take, List.length_nil, List.length_append]
          ((repeat' with_reducible apply And.intro) <;> first | omega | assumption | rfl | trivial)
        · refine Run.ret ti_ok rfl rfl (.a (.dat ?_))
          show ([] ++ xs) ++ (xs.take xs.length).drop (rbin .mul .i64 (rbin .sub .i64 (rbin .quo .i64 (rbin .sub .i64 (rbin .add .i64 xs.length t) 1) t) 1) t).toNat = oddD xs
          rw [e1, e2, e3, e5, e7, List.take_length, ← ho, oddN, dif_pos h1, if_pos h2, show ((xs.length : Int) - t).toNat = xs.length - t by omega]
          rfl
      · have e5 : rbin .mul .i64 t 2 = t * 2 := muli (by omega) (by omega)
        refine run_pa hmix ti_ok tbn0_ok 2 true 400 [true, false] [0, 3] [3] (fun ar lf => by conv => lhs; cbv) (allP ?_) ?_
        · simp only [conj, and_true, Int.ofNat_eq_natCast, arR, rcmp_lss, rcmp_eql, decide_eq_true_eq, decide_eq_false_iff_not, e1, e2, e3, e4]
          ((repeat' with_reducible apply And.intro) <;> first | omega | assumption | rfl | trivial)
        · refine ih ⟨(n / 2, _), ?_⟩ ?_ _ _
          · simp only [arR, Int.ofNat_eq_natCast, e5]
            rw [show ((t : Int) * 2).toNat = 2 * t by omega]
            refine ⟨by omega, ?_, ?_⟩
            · rw [mul_half h2, hns]
            · rw [← ho, ← odd_step h1 h2]
          · show n / 2 < n
            omega
    · have hle : xs.length ≤ t := by rw [← hns]; exact Nat.le_trans (Nat.mul_le_mul_right _ (by omega : n ≤ 1)) (by omega)
      refine run_ex hmix ti_ok tbn0_ok 999 false 400 [false] (fun ar lf => by conv => lhs; cbv) (allP ?_) ?_
      · simp only [conj, and_true, Int.ofNat_eq_natCast, arR, rcmp_lss, decide_eq_false_iff_not]
        omega
      · refine Run.ret ti_ok rfl rfl (.a (.dat ?_))
        show xs = oddD xs
        rw [← ho, oddN, dif_neg h1]
  · cases hs
def sAwake (lf : LN) : ESpec := fun l => match l with
  | [] => some (.a (.one (.bool true)), [])
  | _ => none
def tbn2 (lf : LN) : Tbl := tbL [(11, sRoot lf.toLK), (15, sDepth lf)] []
theorem tbn2_ok : TblOk Try.prog (tbn2 lnR) := tbL_ok (List.forall_mem_cons.2 ⟨root_ok, List.forall_mem_cons.2 ⟨depth_ok, nofun⟩⟩) nofun
theorem awake_ok6 : CallOk Try.prog 14 (sAwake lnR) := by
  refine .of_run (hc := (tbn2 lnR).hc) Try.func14 rfl (by kernel_rfl) (by kernel_rfl) fun xs v ps hs hp w => ?_
  unfold sAwake at hs
  split at hs
  · cases hs
    clear hp
    have e : D.row ((List.range 32).map fun j => if j = 0 then 7 else 0) = rowD fun j => if j = 0 then 7 else 0 := rfl
    have hd : isHash (rowD fun j => if j = 0 then 7 else 0) := rowD_hash (fun j _ => by show 0 ≤ (if j = 0 then (7 : Int) else 0) ∧ (if j = 0 then (7 : Int) else 0) < 256; split <;> decide)
    have hHL : HL [rowD fun j => if j = 0 then 7 else 0] := ⟨by simp, fun d h => by rw [List.mem_singleton.1 h]; exact hd⟩
    have hr : rootF [rowD fun j => if j = 0 then 7 else 0] = arR.dRow (rowD fun j => if j = 0 then 7 else 0) := by
      unfold rootF
      rw [if_neg (by simp), rtD, dif_neg (by simp)]; rfl
    have hm : mutD [rowD fun j => if j = 0 then 7 else 0] = false := by rw [mutD, dif_neg (by simp)]
    have hb : (!(mutD [rowD fun j => if j = 0 then 7 else 0])) = true := by rw [hm]; rfl
    have hq : ((List.range 32).map (rootF [rowD fun j => if j = 0 then 7 else 0]) == (List.range 32).map (fun j => if j = 0 then (7 : Int) else 0)) = true := by rw [hr]; decide
    have h5 : ((dep 5 : Nat) : Int) = 3 := by
      rw [dep, dif_pos (by decide), dep, dif_pos (by decide), dep, dif_pos (by decide), dep, dif_neg (by decide)]; rfl
    refine run_ex hmix ti_ok tbn2_ok 999 false 400 [true, true] (fun ar lf => by conv => lhs; cbv) (allP ?_) ?_
    · exact ⟨⟨by decide, by decide⟩, hb, hq, hHL, trivial⟩
    · refine Run.ret ti_ok rfl rfl (.a (.bool ?_))
      show rcmp .eql ((dep 5 : Nat) : Int) 3 = true
      rw [h5, rcmp_eql]; decide
  · cases hs
end Go.Proofs.Ytlbllaocdilafaa
