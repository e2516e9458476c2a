import Derived.Test.YtlbllaocdilafaaMn
set_option linter.unusedSimpArgs false
set_option linter.unusedVariables false
namespace Go.Eng
open Go
theorem odd_sub : ∀ (xs : List D) (n s : Nat), (oddN xs n s).length ≤ 2 * xs.length ∧ ∀ d ∈ oddN xs n s, d ∈ xs := by
  intro xs n
  induction n using Nat.strongRecOn with
  | _ n ih =>
    intro s
    rw [oddN]
    split
    · split
      · refine ⟨by rw [List.length_append, List.length_drop]; omega, fun d hd => ?_⟩
        rcases List.mem_append.1 hd with h | h
        · exact h
        · exact List.mem_of_mem_drop h
      · exact ih (n / 2) (by omega) (2 * s)
    · exact ⟨by omega, fun d hd => hd⟩
theorem HL_take {xs : List D} (h : ∀ d ∈ xs, isHash d) : HL (xs.take 300) := ⟨by rw [List.length_take]; omega, fun d hd => h d (List.mem_of_mem_take hd)⟩
theorem HL_odd {xs : List D} (h : ∀ d ∈ xs, isHash d) : HL (oddD (xs.take 300)) := by
  obtain ⟨h1, h2⟩ := odd_sub (xs.take 300) (xs.take 300).length 1
  refine ⟨?_, fun d hd => h d (List.mem_of_mem_take (h2 d hd))⟩
  show (oddN (xs.take 300) (xs.take 300).length 1).length ≤ 4294967296
  rw [List.length_take] at h1 ⊢
  omega
end Go.Eng
namespace Go.Proofs.Ytlbllaocdilafaa
open Go Go.Eng Go.Proofs Go.RowKit
attribute [local irreducible] CallOk HOk Run TIok rbin rcmp run1 updF shfF blitF
def sLaw1 (lf : LN) : ESpec := fun l => match l with
  | [.one (.dat (.arr .u8 32) xs none)] => some (.a (.one (.bool true)), [lf.hs xs])
  | _ => none
def sGiven6 (lf : LN) : ESpec := fun l => match l with
  | [.one (.dat (.arr .u8 32) xs none)] => some (.a (.one (.dat (.arr .u8 32) xs none)), [lf.hl xs])
  | _ => none
theorem given_ok6 : CallOk Try.prog 13 (sGiven6 lnR) := given_ok
def tbo (lf : LN) : Tbl := tbL [(10, sFew lf), (11, sRoot lf.toLK), (13, sGiven6 lf), (12, sRoot lf.toLK), (14, sAwake lf), (15, sDepth lf), (16, sDepth lf), (18, sOdd lf), (19, sOdd lf), (17, sSame lf), (20, sLevels lf.toLK), (21, sPair lf.toLK), (22, sPair lf.toLK), (23, sNext lf.toLK)] []
theorem tbo_ok : TblOk Try.prog (tbo lnR) := tbL_ok (List.forall_mem_cons.2 ⟨few_ok, List.forall_mem_cons.2 ⟨root_ok, List.forall_mem_cons.2 ⟨given_ok6, List.forall_mem_cons.2 ⟨rroot_ok, List.forall_mem_cons.2 ⟨awake_ok6, List.forall_mem_cons.2 ⟨depth_ok, List.forall_mem_cons.2 ⟨rdepth_ok, List.forall_mem_cons.2 ⟨odd_ok, List.forall_mem_cons.2 ⟨rodd_ok, List.forall_mem_cons.2 ⟨same_ok, List.forall_mem_cons.2 ⟨levels_ok, List.forall_mem_cons.2 ⟨pair_ok, List.forall_mem_cons.2 ⟨rpair_ok, List.forall_mem_cons.2 ⟨next_ok, nofun⟩⟩⟩⟩⟩⟩⟩⟩⟩⟩⟩⟩⟩⟩) nofun
set_option maxRecDepth 100000 in
theorem roots_ok : CallOk Try.prog 3 (sLaw1 lnR) := by
  refine .of_run (hc := (tbo lnR).hc) Try.func3 rfl (by kernel_rfl) (by kernel_rfl) fun xs v ps hs hp w => ?_
  unfold sLaw1 at hs
  split at hs
  · rename_i xs
    cases hs
    have hx : ∀ d ∈ xs, isHash d := hp (lnR.hs xs) (by simp)
    clear hp
    have hy := HL_take hx
    have hod := HL_odd hx
    have hyl : (xs.take 300).length ≤ 300 := by rw [List.length_take]; omega
    by_cases h0 : (xs.take 300).length = 0
    · refine run_ex hmix ti_ok tbo_ok 999 false 400 [false, false, false, false, false, false, false, true] (fun ar lf => by conv => lhs; cbv) (allP ?_) ?_
      · simp only [conj, and_true, Int.ofNat_eq_natCast, arR, lnR, lkR, rcmp_lss, rcmp_gtr, rcmp_eql, rcmp_neq, decide_eq_true_eq, decide_eq_false_iff_not, List.length_nil, maxLen, same_self, beq_self_eq_true, Bool.not_true, List.nil_append, ne_eq, not_true_eq_false, not_false_eq_true, and_self, true_and]
        ((repeat' with_reducible apply And.intro) <;> first | omega | assumption | rfl | trivial)
      · refine Run.ret ti_ok rfl rfl (.a (.bool ?_))
        show rcmp .eql (levels (xs.take 300)).length 0 = true
        unfold levels
        rw [if_pos h0, rcmp_eql]
        rfl
    · have e0 : rbin .sub .i64 (xs.take 300).length 1 = (xs.take 300).length - 1 := subi (by omega) (by omega)
      refine run_pa hmix ti_ok tbo_ok 0 false 400 [false, false, false, false, false, false, true, false, false] [0, 8, 9, 101, 102, 103] [9, 103] (fun ar lf => by conv => lhs; cbv) (allP ?_) ?_
      · simp only [e0, conj, and_true, Int.ofNat_eq_natCast, arR, lnR, lkR, rcmp_lss, rcmp_gtr, rcmp_eql, rcmp_neq, decide_eq_true_eq, decide_eq_false_iff_not, List.length_nil, maxLen, same_self, beq_self_eq_true, Bool.not_true, List.nil_append, ne_eq, not_true_eq_false, not_false_eq_true, and_self, true_and]
        ((repeat' with_reducible apply And.intro) <;> first | omega | assumption | rfl | trivial)
      refine Run.loop (ι := {p : Int × List D × List D × List D × Int // (0 ≤ p.1 ∧ p.1 ≤ p.2.2.1.length) ∧ (p.1 < p.2.2.1.length → p.2.2.1.drop p.1.toNat = lvls p.2.1 ∧ 0 < p.2.1.length ∧ HL p.2.1) ∧ HL p.2.1 ∧ p.2.2.1 = lvls (xs.take 300) ∧ p.2.2.2.1 = xs.take 300 ∧ p.2.2.2.2 = p.2.2.1.length})
        (fun i => ([.a (.one (.dat (.arr .u8 32) i.1.2.2.2.1 none)), .any, .any, .any, .any, .any, .any, .any, .a (.one (.dat (.sl (.arr .u8 32)) i.1.2.2.1 none)), .a (.one (.dat (.arr .u8 32) i.1.2.1 none)), .any, .any, .any, .any, .any, .any, .any, .any, .any, .any, .any, .any, .any, .any, .any, .any, .any, .any, .any, .any, .any, .any, .any, .any, .any, .any, .any, .any, .any, .any, .any, .any, .any, .any, .any, .any, .any, .any, .any, .any, .any, .any, .any, .any, .any, .any, .any, .any, .any, .any, .any, .any, .any, .any, .any, .any, .any, .any, .any, .any, .any, .any, .any, .any, .any, .any, .any, .any, .any, .any, .any, .any, .any, .any, .any, .any, .any, .any, .any, .any, .any, .any, .any, .any, .any, .any, .any, .any, .any, .any, .any, .a (.one (.dat (.sl (.arr .u8 32)) i.1.2.2.1 none)), .a (.one (.int .i64 i.1.2.2.2.2)), .a (.one (.int .i64 i.1.1)), .any, .any, .any, .any, .any, .any, .any, .any, .any, .any, .any, .any, .any, .any, .any, .any, .any, .any, .any, .any, .any, .any, .any, .any, .any, .any, .any, .any, .any, .any, .any, .any], []))
        (fun i => (i.1.2.2.1.length - i.1.1).toNat) ⟨(0, xs.take 300, levels (xs.take 300), xs.take 300, (levels (xs.take 300)).length), ?_⟩ ?_
      · have e : levels (xs.take 300) = lvls (xs.take 300) := by unfold levels; rw [if_neg h0]
        rw [e]
        exact ⟨by simp only; omega, fun _ => ⟨rfl, by simp only; omega, hy⟩, hy, rfl, rfl, rfl⟩
      rintro ⟨⟨k, ys, L, zs, n⟩, hk, hd, hH, hL, hz, hn⟩ ih
      simp only at hk hd hH hL hz hn
      have hLl := lvls_len (xs.take 300)
      rw [← hL] at hLl
      have e1 : rbin .add .i64 k 1 = k + 1 := addi (by omega) (by omega)
      by_cases hlt : k < L.length
      · obtain ⟨hd1, hd2, -⟩ := hd hlt
        obtain ⟨g1, g2, g3, g4⟩ := drop_lvls hd1
        have e2 : rbin .sub .i64 L.length 1 = L.length - 1 := subi (by omega) (by omega)
        have hsl : (L.getD k.toNat (.int 0)).sl! = ys := by rw [g1]; rfl
        have hiff : (decide ((ys.length : Int) = 1) == decide (k = (L.length : Int) - 1)) = true := by
          rw [beq_iff_eq, decide_eq_decide]
          omega
        refine run_pa hmix ti_ok tbo_ok 2 true 400 [true, false, false] [0, 8, 9, 101, 102, 103] [9, 103] (fun ar lf => by conv => lhs; cbv) (allP ?_) ?_
        · simp only [e2, hsl, hn, hiff, conj, and_true, Int.ofNat_eq_natCast, arR, lnR, lkR, rcmp_lss, rcmp_gtr, rcmp_eql, rcmp_neq, decide_eq_true_eq, decide_eq_false_iff_not, List.length_nil, maxLen, same_self, beq_self_eq_true, Bool.not_true, List.nil_append, ne_eq, not_true_eq_false, not_false_eq_true, and_self, true_and]
          ((repeat' with_reducible apply And.intro) <;> first | omega | assumption | rfl | trivial)
        · refine ih ⟨(_, abv ys, _, _, _), ?_⟩ ?_ _ _
          · refine ⟨?_, fun hlt2 => ?_, abv_HL hH, hL, hz, hn⟩
            · show 0 ≤ rbin .add .i64 k 1 ∧ rbin .add .i64 k 1 ≤ L.length
              rw [e1]; omega
            · have hlt2 : rbin .add .i64 k 1 < L.length := hlt2
              show L.drop (rbin .add .i64 k 1).toNat = lvls (abv ys) ∧ 0 < (abv ys).length ∧ HL (abv ys)
              rw [e1] at hlt2 ⊢
              rw [show (k + 1).toNat = k.toNat + 1 by omega, abv_len]
              have : 1 < ys.length := by omega
              exact ⟨g2 this, by omega, abv_HL hH⟩
          · show ((L.length : Int) - rbin .add .i64 k 1).toNat < ((L.length : Int) - k).toNat
            rw [e1]; omega
      · refine run_ex hmix ti_ok tbo_ok 999 false 400 [false] (fun ar lf => by conv => lhs; cbv) (allP ?_) ?_
        · simp only [conj, and_true, Int.ofNat_eq_natCast, arR, lnR, rcmp_lss, decide_eq_false_iff_not, hn, hz]
          ((repeat' with_reducible apply And.intro) <;> first | omega | assumption | rfl | trivial)
        · refine Run.ret ti_ok rfl rfl (.a (.bool ?_))
          show rcmp .eql L.length (rbin .add .i64 (dep (zs.length : Int).toNat : Nat) 1) = true
          have hdp := lvls_dep (xs.take 300)
          rw [hz, Int.toNat_natCast, rcmp_eql, hL]
          rw [← hL] at hdp
          have e3 : rbin .add .i64 (dep (xs.take 300).length : Nat) 1 = (dep (xs.take 300).length : Nat) + 1 := addi (by omega) (by omega)
          rw [e3, ← hL, hdp]
          simp
  · cases hs
end Go.Proofs.Ytlbllaocdilafaa
