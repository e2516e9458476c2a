import Derived.Test.YtlbllaocdilafaaMo
set_option linter.unusedSimpArgs false
set_option linter.unusedVariables false
namespace Go.Eng
open Go
def sib (p n : Nat) : Nat := if p % 2 = 0 then (if p + 1 = n then p else p + 1) else p - 1
def brF (xs : List D) (p : Nat) : List D := if h : 1 < xs.length then xs.getD (sib p xs.length) (.int 0) :: brF (abv xs) (p / 2) else []
  termination_by xs.length
  decreasing_by rw [abv_len]; omega
def chk (f : Fn8) (p : Nat) : List D → Fn8
  | [] => f
  | b :: l => chk (if p % 2 = 0 then prF f (arR.dRow b) else prF (arR.dRow b) f) (p / 2) l
theorem xor_one (p : Nat) : p ^^^ 1 = if p % 2 = 0 then p + 1 else p - 1 := by
  apply Nat.eq_of_testBit_eq
  intro i
  cases i with
  | zero =>
    rw [Nat.testBit_xor, Nat.testBit_zero, Nat.testBit_zero, Nat.testBit_zero]
    by_cases h : p % 2 = 0
    · rw [if_pos h, h, show (p + 1) % 2 = 1 by omega]; rfl
    · rw [if_neg h, show p % 2 = 1 by omega, show (p - 1) % 2 = 0 by omega]; rfl
  | succ i =>
    rw [Nat.testBit_xor, Nat.testBit_succ, Nat.testBit_succ, Nat.testBit_succ]
    have e : (1 : Nat) / 2 = 0 := by decide
    rw [e, Nat.zero_testBit, Bool.xor_false]
    split
    · rw [show (p + 1) / 2 = p / 2 by omega]
    · rw [show (p - 1) / 2 = p / 2 by omega]
theorem xori {p : Int} (h0 : 0 ≤ p) (h1 : p < 9223372036854775807) : rbin .xor .i64 p 1 = if p % 2 = 0 then p + 1 else p - 1 := by
  obtain ⟨q, rfl⟩ := Int.eq_ofNat_of_zero_le h0
  show IntKind.i64.wrap ((BitVec.ofInt 64 (q : Int) ^^^ BitVec.ofInt 64 1).toNat : Nat) = _
  have e1 : (BitVec.ofInt 64 (q : Int)).toNat = q := by
    rw [BitVec.toNat_ofInt]; omega
  rw [BitVec.toNat_xor, e1, show (BitVec.ofInt 64 (1 : Int)).toNat = 1 by decide, xor_one]
  by_cases h : q % 2 = 0
  · rw [if_pos h, if_pos (by omega)]
    rw [wrap_i64 (by omega) (by omega)]; omega
  · rw [if_neg h, if_neg (by omega)]
    rw [wrap_i64 (by omega) (by omega)]; omega
theorem sib_lt {p n : Nat} (h : p < n) : sib p n < n := by
  unfold sib; split
  · split <;> omega
  · omega
theorem brF_len : ∀ (xs : List D) (p : Nat), (brF xs p).length + 1 = (lvls xs).length := by
  intro xs
  generalize hn : xs.length = n
  induction n using Nat.strongRecOn generalizing xs with
  | _ n ih =>
    intro p
    rw [brF, lvls]
    split
    · rw [List.length_cons, List.length_cons, ih (abv xs).length (by rw [abv_len]; omega) _ rfl]
    · rfl
theorem lvls_drop : ∀ {L k : List D} {i : Nat}, L.drop i = lvls k → (i + 1 < L.length ↔ 1 < k.length) := fun h => by
  obtain ⟨-, -, g3, g4⟩ := drop_lvls h
  omega
theorem shl_one {n : Int} (h0 : 0 ≤ n) (h1 : n ≤ 32) : rbin .shl .i64 1 n = ((2 ^ n.toNat : Nat) : Int) := by
  show IntKind.i64.wrap (1 * 2 ^ (min n.toNat 64)) = _
  have e : min n.toNat 64 = n.toNat := by omega
  rw [e, Int.one_mul]
  have h2 : (2 : Nat) ^ n.toNat ≤ 2 ^ 32 := Nat.pow_le_pow_right (by decide) (by omega)
  have h3 : ((2 : Int) ^ n.toNat) = ((2 ^ n.toNat : Nat) : Int) := by rw [Int.natCast_pow]; rfl
  rw [h3]
  have h4 : (2 : Nat) ^ 32 = 4294967296 := by decide
  generalize (2 : Nat) ^ n.toNat = q at *
  exact wrap_i64 (by omega) (by omega)
structure LO extends LN where
  branch : List D → Int → List D
  brErr : List D → Int → Int
  brOk : List D → Int → Prop
  rbranch : List D → Int → List D
  check : Fn8 → Int → List D → Fn8
  chkErr : Int → List D → Int
  rcheck : Fn8 → Int → List D → Fn8
  pos : Int → Prop
  lenOk : List D → Prop
def loR : LO where
  toLN := lnR
  branch xs p := if 0 ≤ p ∧ p < xs.length then brF xs p.toNat else []
  brErr xs p := if 0 ≤ p ∧ p < xs.length then 0 else 60
  brOk xs p := HL xs ∧ 0 ≤ p ∧ p < xs.length
  rbranch xs p := brF xs p.toNat
  check f p bs := if bs.length ≤ 32 ∧ 0 ≤ p ∧ p < ((2 ^ bs.length : Nat) : Int) then chk f p.toNat bs else fun _ => 0
  chkErr p bs := if 32 < bs.length then 3 else if 0 ≤ p ∧ p < ((2 ^ bs.length : Nat) : Int) then 0 else 60
  rcheck f p bs := chk f p.toNat bs
  pos p := 0 ≤ p ∧ p < 9223372036854775808
  lenOk bs := bs.length ≤ 9223372036854775807
end Go.Eng
namespace Go.Proofs.Ytlbllaocdilafaa
open Go Go.Eng Go.Proofs Go.RowKit
attribute [local irreducible] CallOk HOk Run TIok rbin rcmp run1 updF shfF blitF
def sBranch (lf : LO) : ESpec := fun l => match l with
  | [.one (.dat (.arr .u8 32) xs none), .one (.int .i64 p)] => some (.tup [.one (.dat (.arr .u8 32) (lf.branch xs p) none), .one (.int .i64 (lf.brErr xs p))], [lf.hl xs])
  | _ => none
theorem branch_ok : CallOk Try.prog 24 (sBranch loR) := by
  refine .of_run (hc := (tbm3 lkR).hc) Try.func24 rfl (by kernel_rfl) (by kernel_rfl) fun xs v ps hs hp w => ?_
  unfold sBranch at hs
  split at hs
  · rename_i xs p
    cases hs
    have hx : HL xs := hp (loR.hl xs) (by simp)
    clear hp
    have hlen := hx.1
    by_cases hneg : p < 0
    · refine run_ex hmix ti_ok tbm3_ok 999 false 400 [true] (fun ar lf => by conv => lhs; cbv) (allP ?_) ?_
      · simp only [conj, and_true, Int.ofNat_eq_natCast, arR, rcmp_lss, decide_eq_true_eq]
        ((repeat' with_reducible apply And.intro) <;> first | omega | assumption | rfl | trivial)
      · refine Run.ret ti_ok rfl rfl ?_
        have e1 : loR.branch xs p = [] := if_neg (by omega)
        have e2 : loR.brErr xs p = 60 := if_neg (by omega)
        rw [e1, e2]
        exact .tup2 .nsl (.lit rfl)
    by_cases hge : (xs.length : Int) ≤ p
    · refine run_ex hmix ti_ok tbm3_ok 999 false 400 [false, true] (fun ar lf => by conv => lhs; cbv) (allP ?_) ?_
      · simp only [conj, and_true, Int.ofNat_eq_natCast, arR, rcmp_lss, rcmp_geq, decide_eq_true_eq, decide_eq_false_iff_not]
        ((repeat' with_reducible apply And.intro) <;> first | omega | assumption | rfl | trivial)
      · refine Run.ret ti_ok rfl rfl ?_
        have e1 : loR.branch xs p = [] := if_neg (by omega)
        have e2 : loR.brErr xs p = 60 := if_neg (by omega)
        rw [e1, e2]
        exact .tup2 .nsl (.lit rfl)
    have e1 : loR.branch xs p = brF xs p.toNat := if_pos (by omega)
    have e2 : loR.brErr xs p = 0 := if_pos (by omega)
    rw [e1, e2]
    have hlv : levels xs = lvls xs := by unfold levels; rw [if_neg (by omega)]
    have hll := lvls_len xs
    have hl0 := lvls_ne xs
    have e3 : rbin .sub .i64 (lvls xs).length 1 = (lvls xs).length - 1 := subi (by omega) (by omega)
    refine run_pa hmix ti_ok tbm3_ok 0 false 400 [false, false] [1, 6, 24, 25, 26] [1, 6, 26] (fun ar lf => by conv => lhs; cbv) (allP ?_) ?_
    · simp only [conj, and_true, Int.ofNat_eq_natCast, arR, lkR, rcmp_lss, rcmp_geq, decide_eq_true_eq, decide_eq_false_iff_not, hlv, e3]
      ((repeat' with_reducible apply And.intro) <;> first | omega | assumption | rfl | trivial)
    refine Run.room 6 (.arr .u8 32) rfl (Nat.zero_le _) ?_
    refine Run.loop (ι := {p' : Int × Int × List D × List D × Int × List D // (0 ≤ p'.1 ∧ p'.1 + 1 ≤ (lvls xs).length) ∧ (lvls xs).drop p'.1.toNat = lvls p'.2.2.2.2.2 ∧ HL p'.2.2.2.2.2 ∧ (0 ≤ p'.2.1 ∧ p'.2.1 < p'.2.2.2.2.2.length) ∧ p'.2.2.1 ++ brF p'.2.2.2.2.2 p'.2.1.toNat = brF xs p.toNat ∧ p'.2.2.2.1 = (lvls xs).take ((lvls xs).length - 1) ∧ p'.2.2.2.2.1 = (lvls xs).length - 1})
      (fun i => ([.any, .a (.one (.int .i64 i.1.2.1)), .any, .any, .any, .any, .a (.one (.dat (.arr .u8 32) i.1.2.2.1 (some 0))), .any, .any, .any, .any, .any, .any, .any, .any, .any, .any, .any, .any, .any, .any, .any, .any, .any, .a (.one (.dat (.sl (.arr .u8 32)) i.1.2.2.2.1 none)), .a (.one (.int .i64 i.1.2.2.2.2.1)), .a (.one (.int .i64 i.1.1)), .any, .any, .any, .any, .any, .any, .any, .any, .any, .any, .any, .any, .any, .any, .any, .any, .any, .any, .any], [some ⟨false, .tail⟩]))
      (fun i => ((lvls xs).length - i.1.1).toNat) ⟨(0, p, [], (levels xs).take (rbin .sub .i64 (levels xs).length 1).toNat, ((levels xs).take (rbin .sub .i64 (levels xs).length 1).toNat).length, xs), ?_⟩ ?_
    · rw [hlv, e3]
      refine ⟨by simp only; omega, rfl, hx, by simp only; omega, rfl, ?_, ?_⟩
      · show (lvls xs).take (((lvls xs).length : Int) - 1).toNat = _
        rw [show (((lvls xs).length : Int) - 1).toNat = (lvls xs).length - 1 by omega]
      · show (((lvls xs).take (((lvls xs).length : Int) - 1).toNat).length : Int) = _
        rw [List.length_take]; omega
    rintro ⟨⟨k, q, out, L, n, ys⟩, hk, hd, hy, hq, ho, hL, hn⟩ ih
    simp only at hk hd hy hq ho hL hn
    have hyl := hy.1
    obtain ⟨g1, g2, g3, g4⟩ := drop_lvls hd
    by_cases hlt : k < n
    · have h1 : 1 < ys.length := by omega
      have f1 : rbin .add .i64 k 1 = k + 1 := addi (by omega) (by omega)
      have f2 := xori (p := q) hq.1 (by omega)
      have f3 : rbin .sub .i64 ys.length 1 = ys.length - 1 := subi (by omega) (by omega)
      have f4 : rbin .quo .i64 q 2 = q / 2 := quo_pos hq.1 (by omega) (by decide)
      have hLl : L.length = (lvls xs).length - 1 := by rw [hL, List.length_take]; omega
      have hsl : (L.getD k.toNat (.int 0)).sl! = ys := by
        have : L.getD k.toNat (.int 0) = (lvls xs).getD k.toNat (.int 0) := by
          rw [hL, List.getD_eq_getElem?_getD, List.getD_eq_getElem?_getD, List.getElem?_take_of_lt (by omega)]
        rw [this, g1]; rfl
      have hm : (if ((ys.length : Int) - 1) < (if q % 2 = 0 then q + 1 else q - 1) then ((ys.length : Int) - 1) else (if q % 2 = 0 then q + 1 else q - 1)) = (sib q.toNat ys.length : Nat) := by
        unfold sib
        by_cases hp2 : q % 2 = 0
        · have h2 : q.toNat % 2 = 0 := by omega
          rw [if_pos hp2, if_pos h2]
          (repeat' split) <;> omega
        · have h2 : ¬ q.toNat % 2 = 0 := by omega
          rw [if_neg hp2, if_neg h2]
          (repeat' split) <;> omega
      have hsb := sib_lt (p := q.toNat) (n := ys.length) (by omega)
      have hol : out.length ≤ (lvls xs).length := by
        have h3 := congrArg List.length ho
        rw [List.length_append] at h3
        have := brF_len xs p.toNat
        omega
      refine run_pa hmix ti_ok tbm3_ok 2 true 400 [true] [1, 6, 24, 25, 26] [1, 6, 26] (fun ar lf => by conv => lhs; cbv) (allP ?_) ?_
      · simp only [conj, and_true, Int.ofNat_eq_natCast, arR, rcmp_lss, decide_eq_true_eq, hsl, f2, f3, hm, List.length_cons, List.length_nil, maxLen]
        ((repeat' with_reducible apply And.intro) <;> first | omega | assumption | rfl | trivial)
      · refine ih ⟨(_, _, _, _, _, abv ys), ?_⟩ ?_ _ _
        · refine ⟨?_, ?_, abv_HL hy, ?_, ?_, hL, hn⟩
          · show 0 ≤ rbin .add .i64 k 1 ∧ rbin .add .i64 k 1 + 1 ≤ (lvls xs).length
            rw [f1]; omega
          · show (lvls xs).drop (rbin .add .i64 k 1).toNat = lvls (abv ys)
            rw [f1, show (k + 1).toNat = k.toNat + 1 by omega]
            exact g2 h1
          · show 0 ≤ rbin .quo .i64 q 2 ∧ rbin .quo .i64 q 2 < (abv ys).length
            rw [f4, abv_len]; omega
          · show (out ++ [D.row ((List.range 32).map (arR.dRow ((L.getD k.toNat (.int 0)).sl!.getD (if rbin .sub .i64 (L.getD k.toNat (.int 0)).sl!.length 1 < rbin .xor .i64 q 1 then rbin .sub .i64 (L.getD k.toNat (.int 0)).sl!.length 1 else rbin .xor .i64 q 1).toNat (.int 0))))]) ++ brF (abv ys) (rbin .quo .i64 q 2).toNat = _
            rw [hsl, f2, f3, hm, f4, ← ho, brF.eq_def ys, dif_pos h1, Int.toNat_natCast, map_row, hash_row (hy.2 _ (by
              rw [List.getD_eq_getElem?_getD, List.getElem?_eq_getElem hsb]; exact List.getElem_mem _)), show (q / 2).toNat = q.toNat / 2 by omega, List.append_assoc]
            rfl
        · show (((lvls xs).length : Int) - rbin .add .i64 k 1).toNat < (((lvls xs).length : Int) - k).toNat
          rw [f1]; omega
    · refine run_ex hmix ti_ok tbm3_ok 999 false 400 [false] (fun ar lf => by conv => lhs; cbv) (allP ?_) ?_
      · simp only [conj, and_true, Int.ofNat_eq_natCast, arR, rcmp_lss, decide_eq_false_iff_not]
        exact hlt
      · refine Run.ret ti_ok rfl rfl (.tup2 (.dat ?_) (.lit rfl))
        rw [brF.eq_def ys, dif_neg (by omega)] at ho
        exact (List.append_nil out).symm.trans ho
  · cases hs
def sRBranch (lf : LO) : ESpec := fun l => match l with
  | [.one (.dat (.arr .u8 32) xs none), .one (.int .i64 p)] => some (.a (.one (.dat (.arr .u8 32) (lf.rbranch xs p) none)), [lf.brOk xs p])
  | _ => none
theorem rbranch_ok : CallOk Try.prog 25 (sRBranch loR) := by
  refine .of_run (hc := (tbm4 lkR).hc) Try.func25 rfl (by kernel_rfl) (by kernel_rfl) fun xs v ps hs hp w => ?_
  unfold sRBranch at hs
  split at hs
  · rename_i xs p
    cases hs
    have hx : HL xs ∧ 0 ≤ p ∧ p < xs.length := hp (loR.brOk xs p) (by simp)
    clear hp
    have hlen := hx.1.1
    refine run_pa hmix ti_ok tbm4_ok 0 false 400 [] [0, 1, 5] [0, 1, 5] (fun ar lf => by conv => lhs; cbv) (allP ?_) ?_
    · trivial
    refine Run.loop (ι := {p' : Int × List D × List D // HL p'.2.2 ∧ (0 ≤ p'.1 ∧ p'.1 < p'.2.2.length) ∧ p'.2.1 ++ brF p'.2.2 p'.1.toNat = brF xs p.toNat})
      (fun i => ([.a (.one (.dat (.arr .u8 32) i.1.2.2 none)), .a (.one (.int .i64 i.1.1)), .any, .any, .any, .a (.one (.dat (.arr .u8 32) i.1.2.1 (some 0))), .any, .any, .any, .any, .any, .any, .any, .any, .any, .any, .any, .any, .any, .any, .any, .any, .any, .any, .any, .any, .any, .any, .any, .any, .any, .any, .any, .any, .any, .any, .any], [some ⟨false, .tail⟩]))
      (fun i => i.1.2.2.length) ⟨(p, [], xs), hx.1, hx.2, rfl⟩ ?_
    rintro ⟨⟨q, out, ys⟩, hy, hq, ho⟩ ih
    simp only at hy hq ho
    have hyl := hy.1
    have hol : out.length ≤ xs.length + 1 := by
      have h3 := congrArg List.length ho
      rw [List.length_append] at h3
      have := brF_len xs p.toNat
      have := lvls_len xs
      omega
    by_cases h1 : 1 < ys.length
    · have f1 : rbin .add .i64 q 1 = q + 1 := addi (by omega) (by omega)
      have f2 : rbin .rem .i64 q 2 = q % 2 := rem_pos hq.1
      have f3 : rbin .mul .i64 2 (q % 2) = 2 * (q % 2) := muli (by omega) (by omega)
      have f4 : rbin .quo .i64 q 2 = q / 2 := quo_pos hq.1 (by omega) (by decide)
      have f5 : rbin .sub .i64 (q + 1) (2 * (q % 2)) = q + 1 - 2 * (q % 2) := subi (by omega) (by omega)
      have hsb := sib_lt (p := q.toNat) (n := ys.length) (by omega)
      have hrow := hash_row (hy.2 (ys.getD (sib q.toNat ys.length) (.int 0)) (by
              rw [List.getD_eq_getElem?_getD, List.getElem?_eq_getElem hsb]; exact List.getElem_mem _))
      have fin : (out ++ [ys.getD (sib q.toNat ys.length) (.int 0)]) ++ brF (abv ys) (q / 2).toNat = brF xs p.toNat := by
        rw [← ho, brF.eq_def ys, dif_pos h1, show (q / 2).toNat = q.toNat / 2 by omega, List.append_assoc]
        rfl
      have mu : (abv ys).length < ys.length := by rw [abv_len]; omega
      have hq2 : 0 ≤ q / 2 ∧ q / 2 < (abv ys).length := by rw [abv_len]; omega
      by_cases hend : q + 1 - 2 * (q % 2) = ys.length
      · have hs : q.toNat = sib q.toNat ys.length := by
          unfold sib
          rw [if_pos (by omega), if_pos (by omega)]
        refine run_pa hmix ti_ok tbm4_ok 2 true 400 [true, true] [0, 1, 5] [0, 1, 5] (fun ar lf => by conv => lhs; cbv) (allP ?_) ?_
        · simp only [conj, and_true, Int.ofNat_eq_natCast, arR, lkR, rcmp_gtr, rcmp_eql, decide_eq_true_eq, f1, f2, f3, f5, List.length_cons, List.length_nil, maxLen]
          ((repeat' with_reducible apply And.intro) <;> first | omega | assumption | rfl | trivial)
        · refine ih ⟨(_, _, abv ys), ?_⟩ mu _ _
          refine ⟨abv_HL hy, ?_, ?_⟩
          · show 0 ≤ rbin .quo .i64 q 2 ∧ rbin .quo .i64 q 2 < (abv ys).length
            rw [f4]; exact hq2
          · show (out ++ [D.row ((List.range 32).map (arR.dRow (ys.getD q.toNat (.int 0))))]) ++ brF (abv ys) (rbin .quo .i64 q 2).toNat = _
            rw [← hs] at hrow fin
            rw [f4, map_row, hrow]
            exact fin
      · have hs : (q + 1 - 2 * (q % 2)).toNat = sib q.toNat ys.length := by
          unfold sib
          by_cases hp2 : q % 2 = 0
          · rw [if_pos (by omega), if_neg (by omega)]; omega
          · rw [if_neg (by omega)]; omega
        refine run_pa hmix ti_ok tbm4_ok 2 true 400 [true, false] [0, 1, 5] [0, 1, 5] (fun ar lf => by conv => lhs; cbv) (allP ?_) ?_
        · simp only [conj, and_true, Int.ofNat_eq_natCast, arR, lkR, rcmp_gtr, rcmp_eql, decide_eq_true_eq, decide_eq_false_iff_not, f1, f2, f3, f5, List.length_cons, List.length_nil, maxLen]
          ((repeat' with_reducible apply And.intro) <;> first | omega | assumption | rfl | trivial)
        · refine ih ⟨(_, _, abv ys), ?_⟩ mu _ _
          refine ⟨abv_HL hy, ?_, ?_⟩
          · show 0 ≤ rbin .quo .i64 q 2 ∧ rbin .quo .i64 q 2 < (abv ys).length
            rw [f4]; exact hq2
          · show (out ++ [D.row ((List.range 32).map (arR.dRow (ys.getD (rbin .sub .i64 (rbin .add .i64 q 1) (rbin .mul .i64 2 (rbin .rem .i64 q 2))).toNat (.int 0))))]) ++ brF (abv ys) (rbin .quo .i64 q 2).toNat = _
            rw [f1, f2, f3, f5, f4, hs, map_row, hrow]
            exact fin
    · refine run_ex hmix ti_ok tbm4_ok 999 false 400 [false] (fun ar lf => by conv => lhs; cbv) (allP ?_) ?_
      · simp only [conj, and_true, Int.ofNat_eq_natCast, arR, rcmp_gtr, decide_eq_false_iff_not]
        omega
      · refine Run.ret ti_ok rfl rfl (.a (.dat ?_))
        rw [brF.eq_def ys, dif_neg h1] at ho
        exact (List.append_nil out).symm.trans ho
  · cases hs
end Go.Proofs.Ytlbllaocdilafaa
