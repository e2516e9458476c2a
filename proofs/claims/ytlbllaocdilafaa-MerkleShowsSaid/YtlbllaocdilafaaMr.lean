import Derived.Test.YtlbllaocdilafaaMq
set_option linter.unusedSimpArgs false
set_option linter.unusedVariables false
namespace Go.Eng
open Go
theorem chk_drop {f : Fn8} {q : Nat} {bs : List D} {i : Nat} (h : i < bs.length) : chk f q (bs.drop i) = chk (if q % 2 = 0 then prF f (arR.dRow (bs.getD i (.int 0))) else prF (arR.dRow (bs.getD i (.int 0))) f) (q / 2) (bs.drop (i + 1)) := by
  rw [drop_at h]; rfl
theorem brF_hash : ∀ (xs : List D) (p : Nat), (∀ d ∈ xs, isHash d) → p < xs.length → ∀ d ∈ brF xs p, isHash d := by
  intro xs
  generalize hn : xs.length = n
  induction n using Nat.strongRecOn generalizing xs with
  | _ n ih =>
    intro p hx hp d hd
    rw [brF] at hd
    split at hd
    · rcases List.mem_cons.1 hd with rfl | hd
      · have := sib_lt (p := p) (n := xs.length) (by omega)
        rw [List.getD_eq_getElem?_getD, List.getElem?_eq_getElem this]
        exact hx _ (List.getElem_mem _)
      · exact ih (abv xs).length (by rw [abv_len]; omega) _ rfl (p / 2) (abv_hash xs) (by rw [abv_len]; omega) d hd
    · cases hd
theorem brF_HL {xs : List D} {p : Nat} (h : HL xs) (hp : p < xs.length) : HL (brF xs p) := by
  refine ⟨?_, brF_hash xs p h.2 hp⟩
  have h1 := brF_len xs p
  rw [lvls_dep] at h1
  have h2 : ∀ n, dep n ≤ n := by
    intro n
    induction n using Nat.strongRecOn with
    | _ n ih =>
      rw [dep]
      split
      · have := ih (n / 2 + n % 2) (by omega); omega
      · omega
  have h3 := h2 xs.length
  have h4 := h.1
  omega
end Go.Eng
namespace Go.Proofs.Ytlbllaocdilafaa
open Go Go.Eng Go.Proofs Go.RowKit
attribute [local irreducible] CallOk HOk Run TIok rbin rcmp run1 updF shfF blitF
def sCheck (lf : LO) : ESpec := fun l => match l with
  | [.agg (.ints .u8 (.lit 32) f), .one (.int .i64 p), .one (.dat (.arr .u8 32) bs none)] => some (.tup [aF .u8 32 (lf.check f p bs), .one (.int .i64 (lf.chkErr p bs))], [lf.lenOk bs])
  | _ => none
theorem check_ok : CallOk Try.prog 26 (sCheck loR) := by
  refine .of_run (hc := (tbm1 lkR).hc) Try.func26 rfl (by kernel_rfl) (by kernel_rfl) fun xs v ps hs hp w => ?_
  unfold sCheck at hs
  split at hs
  · rename_i f p bs
    cases hs
    have hl : bs.length ≤ 9223372036854775807 := hp (loR.lenOk bs) (by simp)
    clear hp
    by_cases hm : 32 < bs.length
    · refine run_ex hmix ti_ok tbm1_ok 999 false 400 [true] (fun ar lf => by conv => lhs; cbv) (allP ?_) ?_
      · simp only [conj, and_true, Int.ofNat_eq_natCast, arR, rcmp_gtr, decide_eq_true_eq]
        omega
      · refine Run.ret ti_ok rfl rfl ?_
        have e1 : loR.check f p bs = fun _ => 0 := if_neg (by omega)
        have e2 : loR.chkErr p bs = 3 := if_pos hm
        rw [e1, e2]
        exact .tup2 (.ints fun j hj => rfl) (.lit rfl)
    have hsh := shl_one (n := bs.length) (by omega) (by omega)
    rw [Int.toNat_natCast] at hsh
    by_cases hneg : p < 0
    · refine run_ex hmix ti_ok tbm1_ok 999 false 400 [false, true] (fun ar lf => by conv => lhs; cbv) (allP ?_) ?_
      · simp only [conj, and_true, Int.ofNat_eq_natCast, arR, rcmp_gtr, rcmp_lss, decide_eq_true_eq, decide_eq_false_iff_not]
        omega
      · refine Run.ret ti_ok rfl rfl ?_
        have e1 : loR.check f p bs = fun _ => 0 := if_neg (by omega)
        have e2 : loR.chkErr p bs = 60 := (if_neg hm).trans (if_neg (by omega))
        rw [e1, e2]
        exact .tup2 (.ints fun j hj => rfl) (.lit rfl)
    by_cases hge : ((2 ^ bs.length : Nat) : Int) ≤ p
    · refine run_ex hmix ti_ok tbm1_ok 999 false 400 [false, false, true] (fun ar lf => by conv => lhs; cbv) (allP ?_) ?_
      · simp only [conj, and_true, Int.ofNat_eq_natCast, arR, rcmp_gtr, rcmp_lss, rcmp_geq, decide_eq_true_eq, decide_eq_false_iff_not, hsh]
        ((repeat' with_reducible apply And.intro) <;> first | omega | assumption | rfl | trivial)
      · refine Run.ret ti_ok rfl rfl ?_
        have e1 : loR.check f p bs = fun _ => 0 := if_neg (by omega)
        have e2 : loR.chkErr p bs = 60 := (if_neg hm).trans (if_neg (by omega))
        rw [e1, e2]
        exact .tup2 (.ints fun j hj => rfl) (.lit rfl)
    have e1 : loR.check f p bs = chk f p.toNat bs := if_pos (by omega)
    have e2 : loR.chkErr p bs = 0 := (if_neg hm).trans (if_pos (by omega))
    rw [e1, e2]
    have hp2 : ((2 ^ bs.length : Nat) : Int) ≤ 4294967296 := by
      have : (2 : Nat) ^ bs.length ≤ 2 ^ 32 := Nat.pow_le_pow_right (by decide) (by omega)
      have h4 : (2 : Nat) ^ 32 = 4294967296 := by decide
      omega
    refine run_pa hmix ti_ok tbm1_ok 0 false 400 [false, false, false] [1, 3, 6, 24, 25, 26] [1, 26] (fun ar lf => by conv => lhs; cbv) (allP ?_) ?_
    · simp only [conj, and_true, Int.ofNat_eq_natCast, arR, rcmp_gtr, rcmp_lss, rcmp_geq, decide_eq_true_eq, decide_eq_false_iff_not, hsh]
      ((repeat' with_reducible apply And.intro) <;> first | omega | assumption | rfl | trivial)
    refine Run.loop (ι := {p' : Int × Int × Fn8 × List D × Int // (0 ≤ p'.1 ∧ p'.1 ≤ bs.length) ∧ (0 ≤ p'.2.1 ∧ p'.2.1 < 9223372036854775808) ∧ chk p'.2.2.1 p'.2.1.toNat (bs.drop p'.1.toNat) = chk f p.toNat bs ∧ p'.2.2.2.1 = bs ∧ p'.2.2.2.2 = bs.length})
      (fun i => ([.any, .a (.one (.int .i64 i.1.2.1)), .any, .a (.one (.ptr 0 (.lit 0))), .any, .any, .a (.one (.ptr 1 (.lit 0))), .any, .any, .any, .any, .any, .any, .any, .any, .any, .any, .any, .any, .any, .any, .any, .any, .any, .a (.one (.dat (.arr .u8 32) i.1.2.2.2.1 none)), .a (.one (.int .i64 i.1.2.2.2.2)), .a (.one (.int .i64 i.1.1)), .any, .any, .any, .any, .any, .any, .any, .any, .any, .any, .any, .any, .any, .any, .any, .any], [some ⟨false, .ints .u8 (.lit 32) i.1.2.2.1⟩, some ⟨false, .ints .u8 (.lit 32) (fun _ => 0)⟩]))
      (fun i => (bs.length - i.1.1).toNat) ⟨(0, p, f, bs, bs.length), by simp only; omega, by simp only; omega, rfl, rfl, rfl⟩ ?_
    rintro ⟨⟨k, q, g, bs', n⟩, hk, hq, hc, hb, hn⟩ ih
    simp only at hk hq hc hb hn
    subst bs'
    have f2 : rbin .rem .i64 q 2 = q % 2 := rem_pos hq.1
    have f4 : rbin .quo .i64 q 2 = q / 2 := quo_pos hq.1 (by omega) (by decide)
    by_cases hlt : k < bs.length
    · rw [chk_drop (by omega : k.toNat < bs.length)] at hc
      have f1 : rbin .add .i64 k 1 = k + 1 := addi (by omega) (by omega)
      have mu : ((bs.length : Int) - rbin .add .i64 k 1).toNat < ((bs.length : Int) - k).toNat := by rw [f1]; omega
      by_cases he : q % 2 = 0
      · refine run_pa hmix ti_ok tbm1_ok 2 true 400 [true, true] [1, 3, 6, 24, 25, 26] [1, 26] (fun ar lf => by conv => lhs; cbv) (allP ?_) ?_
        · simp only [conj, and_true, Int.ofNat_eq_natCast, arR, rcmp_lss, rcmp_eql, decide_eq_true_eq, f2]
          ((repeat' with_reducible apply And.intro) <;> first | omega | assumption | rfl | trivial)
        · refine ih ⟨(_, _, _, _, _), ?_⟩ mu _ _
          refine ⟨?_, ?_, ?_, rfl, hn⟩
          · show 0 ≤ rbin .add .i64 k 1 ∧ rbin .add .i64 k 1 ≤ bs.length
            rw [f1]; omega
          · show 0 ≤ rbin .quo .i64 q 2 ∧ rbin .quo .i64 q 2 < 9223372036854775808
            rw [f4]; omega
          · show chk (prF g (arR.dRow (bs.getD k.toNat (.int 0)))) (rbin .quo .i64 q 2).toNat (bs.drop (rbin .add .i64 k 1).toNat) = _
            rw [f1, f4, ← hc, if_pos (by omega), show (q / 2).toNat = q.toNat / 2 by omega, show (k + 1).toNat = k.toNat + 1 by omega]
      · refine run_pa hmix ti_ok tbm1_ok 2 true 400 [true, false] [1, 3, 6, 24, 25, 26] [1, 26] (fun ar lf => by conv => lhs; cbv) (allP ?_) ?_
        · simp only [conj, and_true, Int.ofNat_eq_natCast, arR, rcmp_lss, rcmp_eql, decide_eq_true_eq, decide_eq_false_iff_not, f2]
          ((repeat' with_reducible apply And.intro) <;> first | omega | assumption | rfl | trivial)
        · refine ih ⟨(_, _, _, _, _), ?_⟩ mu _ _
          refine ⟨?_, ?_, ?_, rfl, hn⟩
          · show 0 ≤ rbin .add .i64 k 1 ∧ rbin .add .i64 k 1 ≤ bs.length
            rw [f1]; omega
          · show 0 ≤ rbin .quo .i64 q 2 ∧ rbin .quo .i64 q 2 < 9223372036854775808
            rw [f4]; omega
          · show chk (prF (arR.dRow (bs.getD k.toNat (.int 0))) g) (rbin .quo .i64 q 2).toNat (bs.drop (rbin .add .i64 k 1).toNat) = _
            rw [f1, f4, ← hc, if_neg (by omega), show (q / 2).toNat = q.toNat / 2 by omega, show (k + 1).toNat = k.toNat + 1 by omega]
    · refine run_ex hmix ti_ok tbm1_ok 999 false 400 [false] (fun ar lf => by conv => lhs; cbv) (allP ?_) ?_
      · simp only [conj, and_true, Int.ofNat_eq_natCast, arR, rcmp_lss, decide_eq_false_iff_not]
        omega
      · rw [List.drop_of_length_le (by omega)] at hc
        have hc : g = chk f p.toNat bs := hc
        exact Run.ret ti_ok rfl rfl (.tup2 (.ints fun j hj => by rw [hc]) (.lit rfl))
  · cases hs
def sRCheck (lf : LO) : ESpec := fun l => match l with
  | [.agg (.ints .u8 (.lit 32) f), .one (.int .i64 p), .one (.dat (.arr .u8 32) bs none)] => some (.a (aF .u8 32 (lf.rcheck f p bs)), [lf.lenOk bs, lf.pos p])
  | _ => none
theorem rcheck_ok : CallOk Try.prog 27 (sRCheck loR) := by
  refine .of_run (hc := (tbm1 lkR).hc) Try.func27 rfl (by kernel_rfl) (by kernel_rfl) fun xs v ps hs hp w => ?_
  unfold sRCheck at hs
  split at hs
  · rename_i f p bs
    cases hs
    have hl : bs.length ≤ 9223372036854775807 := hp (loR.lenOk bs) (by simp)
    have hp0 : 0 ≤ p ∧ p < 9223372036854775808 := hp (loR.pos p) (by simp)
    clear hp
    refine run_pa hmix ti_ok tbm1_ok 0 false 400 [] [1, 3, 6, 9, 10, 11] [1, 11] (fun ar lf => by conv => lhs; cbv) (allP ?_) ?_
    · trivial
    refine Run.loop (ι := {p' : Int × Int × Fn8 × List D × Int // (0 ≤ p'.1 ∧ p'.1 ≤ bs.length) ∧ (0 ≤ p'.2.1 ∧ p'.2.1 < 9223372036854775808) ∧ chk p'.2.2.1 p'.2.1.toNat (bs.drop p'.1.toNat) = chk f p.toNat bs ∧ p'.2.2.2.1 = bs ∧ p'.2.2.2.2 = bs.length})
      (fun i => ([.any, .a (.one (.int .i64 i.1.2.1)), .any, .a (.one (.ptr 0 (.lit 0))), .any, .any, .a (.one (.ptr 1 (.lit 0))), .any, .any, .a (.one (.dat (.arr .u8 32) i.1.2.2.2.1 none)), .a (.one (.int .i64 i.1.2.2.2.2)), .a (.one (.int .i64 i.1.1)), .any, .any, .any, .any, .any, .any, .any, .any, .any, .any, .any, .any, .any, .any, .any, .any], [some ⟨false, .ints .u8 (.lit 32) i.1.2.2.1⟩, some ⟨false, .ints .u8 (.lit 32) (fun _ => 0)⟩]))
      (fun i => (bs.length - i.1.1).toNat) ⟨(0, p, f, bs, bs.length), by simp only; omega, by simp only; omega, rfl, rfl, rfl⟩ ?_
    rintro ⟨⟨k, q, g, bs', n⟩, hk, hq, hc, hb, hn⟩ ih
    simp only at hk hq hc hb hn
    subst bs'
    have f2 : rbin .rem .i64 q 2 = q % 2 := rem_pos hq.1
    have f4 : rbin .quo .i64 q 2 = q / 2 := quo_pos hq.1 (by omega) (by decide)
    by_cases hlt : k < bs.length
    · rw [chk_drop (by omega : k.toNat < bs.length)] at hc
      have f1 : rbin .add .i64 k 1 = k + 1 := addi (by omega) (by omega)
      have mu : ((bs.length : Int) - rbin .add .i64 k 1).toNat < ((bs.length : Int) - k).toNat := by rw [f1]; omega
      by_cases he : q % 2 = 0
      · refine run_pa hmix ti_ok tbm1_ok 2 true 400 [true, true] [1, 3, 6, 9, 10, 11] [1, 11] (fun ar lf => by conv => lhs; cbv) (allP ?_) ?_
        · simp only [conj, and_true, Int.ofNat_eq_natCast, arR, rcmp_lss, rcmp_eql, decide_eq_true_eq, f2]
          ((repeat' with_reducible apply And.intro) <;> first | omega | assumption | rfl | trivial)
        · refine ih ⟨(_, _, _, _, _), ?_⟩ mu _ _
          refine ⟨?_, ?_, ?_, rfl, hn⟩
          · show 0 ≤ rbin .add .i64 k 1 ∧ rbin .add .i64 k 1 ≤ bs.length
            rw [f1]; omega
          · show 0 ≤ rbin .quo .i64 q 2 ∧ rbin .quo .i64 q 2 < 9223372036854775808
            rw [f4]; omega
          · show chk (prF g (arR.dRow (bs.getD k.toNat (.int 0)))) (rbin .quo .i64 q 2).toNat (bs.drop (rbin .add .i64 k 1).toNat) = _
            rw [f1, f4, ← hc, if_pos (by omega), show (q / 2).toNat = q.toNat / 2 by omega, show (k + 1).toNat = k.toNat + 1 by omega]
      · refine run_pa hmix ti_ok tbm1_ok 2 true 400 [true, false] [1, 3, 6, 9, 10, 11] [1, 11] (fun ar lf => by conv => lhs; cbv) (allP ?_) ?_
        · simp only [conj, and_true, Int.ofNat_eq_natCast, arR, rcmp_lss, rcmp_eql, decide_eq_true_eq, decide_eq_false_iff_not, f2]
          ((repeat' with_reducible apply And.intro) <;> first | omega | assumption | rfl | trivial)
        · refine ih ⟨(_, _, _, _, _), ?_⟩ mu _ _
          refine ⟨?_, ?_, ?_, rfl, hn⟩
          · show 0 ≤ rbin .add .i64 k 1 ∧ rbin .add .i64 k 1 ≤ bs.length
            rw [f1]; omega
          · show 0 ≤ rbin .quo .i64 q 2 ∧ rbin .quo .i64 q 2 < 9223372036854775808
            rw [f4]; omega
          · show chk (prF (arR.dRow (bs.getD k.toNat (.int 0))) g) (rbin .quo .i64 q 2).toNat (bs.drop (rbin .add .i64 k 1).toNat) = _
            rw [f1, f4, ← hc, if_neg (by omega), show (q / 2).toNat = q.toNat / 2 by omega, show (k + 1).toNat = k.toNat + 1 by omega]
    · refine run_ex hmix ti_ok tbm1_ok 999 false 400 [false] (fun ar lf => by conv => lhs; cbv) (allP ?_) ?_
      · simp only [conj, and_true, Int.ofNat_eq_natCast, arR, rcmp_lss, decide_eq_false_iff_not]
        omega
      · rw [List.drop_of_length_le (by omega)] at hc
        have hc : g = chk f p.toNat bs := hc
        exact Run.ret ti_ok rfl rfl (.a (.ints fun j hj => by rw [hc]; rfl))
  · cases hs
end Go.Proofs.Ytlbllaocdilafaa
