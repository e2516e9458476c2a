import Derived.Test.YtlbllaocdilafaaMv
set_option linter.unusedSimpArgs false
set_option linter.unusedVariables false
namespace Go.Eng
open Go
theorem pow_dep {xs : List D} (hx : HL xs) (h0 : 0 < xs.length) (h1 : xs.length ≤ 65536) : 2 ^ ((lvls xs).length - 1) < 131072 ∧ (lvls xs).length ≤ 64 ∧ 0 < (lvls xs).length := by
  have hl0 := lvls_ne xs
  obtain ⟨ys, g1, g2, g3, g4, g5⟩ := lvls_at hx h0 ((lvls xs).length - 1) (by omega)
  refine ⟨by omega, ?_, hl0⟩
  rcases Nat.lt_or_ge 64 (lvls xs).length with h | h
  · have : 2 ^ 18 ≤ 2 ^ ((lvls xs).length - 1) := Nat.pow_le_pow_right (by decide) (by omega)
    have h9 : (2 : Nat) ^ 18 = 262144 := by decide
    omega
  · exact h
theorem posIn_top {xs ms : List D} (hx : HL xs) (h0 : 0 < xs.length) (h1 : xs.length ≤ 65536) (hm : ms.length = xs.length) : posIn (lvls xs) ms ((lvls xs).length - 1) 0 := by
  have hl0 := lvls_ne xs
  obtain ⟨ys, g1, g2, g3, g4, g5⟩ := lvls_at hx h0 ((lvls xs).length - 1) (by omega)
  exact ⟨xs, rfl, hx, h0, h1, hm, by omega, by rw [(lvls_get g1).2.1]; exact g3⟩
end Go.Eng
namespace Go.Proofs.Ytlbllaocdilafaa
open Go Go.Eng Go.Proofs Go.RowKit
attribute [local irreducible] CallOk HOk Run TIok rbin rcmp run1 updF shfF blitF
def sPart (lf : LR) : ESpec := fun l => match l with
  | [.one (.dat (.arr .u8 32) xs none), .one (.dat .bool ms none)] => some (.tup [.agg (.lst [.int .i64 (lf.pCnt xs ms), .dat .bool (lf.pBits xs ms) none, .dat (.arr .u8 32) (lf.pIds xs ms) none]), .one (.int .i64 (lf.pErr xs ms))], [lf.len16 xs])
  | _ => none
def tbw (lf : LR) : Tbl := tbL [(20, sLevels lf.toLK)] [(53, hPos 64 lf)]
theorem tbw_ok : TblOk Try.prog (tbw lrR) := tbL_ok (List.forall_mem_cons.2 ⟨levels_ok, nofun⟩) (List.forall_mem_cons.2 ⟨pos_ok 64, nofun⟩)
set_option maxRecDepth 100000 in
theorem part_ok : CallOk Try.prog 28 (sPart lrR) := by
  refine .of_run (hc := (tbw lrR).hc) Try.func28 rfl (by kernel_rfl) (by kernel_rfl) fun xs v ps hs hp w => ?_
  unfold sPart at hs
  split at hs
  · rename_i xs ms
    cases hs
    obtain ⟨hx, hl⟩ : HL xs ∧ xs.length ≤ 65536 := hp (lrR.len16 xs) (by simp)
    clear hp
    by_cases h0 : xs.length = 0
    · refine run_ex hmix ti_ok tbw_ok 999 false 400 [true, true] (fun ar lf => by conv => lhs; cbv) (allP ?_) ?_
      · simp only [conj, and_true, Int.ofNat_eq_natCast, arR, rcmp_lss, rcmp_gtr, rcmp_geq, rcmp_eql, rcmp_neq, decide_eq_true_eq, decide_eq_false_iff_not]
        ((repeat' with_reducible apply And.intro) <;> first | omega | assumption | rfl | trivial)
      · have hn : ¬ partOk xs ms := fun h => by have := h.1; omega
        have e1 : lrR.pCnt xs ms = 0 := if_neg hn
        have e2 : lrR.pBits xs ms = [] := if_neg hn
        have e3 : lrR.pIds xs ms = [] := if_neg hn
        have e4 : lrR.pErr xs ms = 1 := if_neg hn
        rw [e1, e2, e3, e4]
        exact Run.ret ti_ok rfl rfl (.tup2 (.lst ⟨.lit rfl, .nsl, .nsl, trivial⟩) (.lit rfl))
    by_cases h1 : ms.length = xs.length
    · have hok : partOk xs ms := ⟨by omega, h1⟩
      have e1 : lrR.pCnt xs ms = xs.length := if_pos hok
      have e2 : lrR.pBits xs ms = (pt (lvls xs) ms ((lvls xs).length - 1) 0).1 := if_pos hok
      have e3 : lrR.pIds xs ms = (pt (lvls xs) ms ((lvls xs).length - 1) 0).2 := if_pos hok
      have e4 : lrR.pErr xs ms = 0 := if_pos hok
      rw [e1, e2, e3, e4]
      have hlv : levels xs = lvls xs := by unfold levels; rw [if_neg h0]
      obtain ⟨d1, d2, d3⟩ := pow_dep hx (by omega) hl
      have hpi := posIn_top hx (by omega) hl h1
      have f1 : rbin .sub .i64 (lvls xs).length 1 = (lvls xs).length - 1 := subi (by omega) (by omega)
      have n1 : (((lvls xs).length : Int) - 1).toNat = (lvls xs).length - 1 := by omega
      have hpw : 2 ^ ((lvls xs).length - 1 + 1) = 2 ^ ((lvls xs).length - 1) + 2 ^ ((lvls xs).length - 1) := by rw [Nat.pow_succ]; omega
      generalize lvls xs = L0 at *
      refine run_pa hmix ti_ok tbw_ok 999 false 400 [false, false, false] [4, 5, 6] [5] (fun ar lf => by conv => lhs; cbv) (allP ?_) ?_
      · simp only [conj, and_true, Int.ofNat_eq_natCast, arR, rcmp_lss, rcmp_gtr, rcmp_geq, rcmp_eql, rcmp_neq, decide_eq_true_eq, decide_eq_false_iff_not]
        ((repeat' with_reducible apply And.intro) <;> first | omega | assumption | rfl | trivial)
      refine Run.roomAt 1 3 .bool rfl rfl (Nat.zero_le _) ?_
      refine Run.roomAt 1 4 (.arr .u8 32) rfl rfl (Nat.zero_le _) ?_
      refine Run.fam3 (ι := {p : List D × Int // p.1 = L0 ∧ p.2 = xs.length}) (fun i => ([.any, .any, .any, .any, .a (.one (.ptr 0 (.lit 0))), .a (.one (.int .i64 0)), .a (.one (.ptr 1 (.lit 0))), .any, .any, .any, .any, .any, .any, .any, .any, .any, .any, .any, .any, .any, .any, .any, .any, .any, .any, .any, .any, .any, .any, .any, .any, .any, .any, .any, .any, .any, .any, .any, .any, .any, .any, .any, .any, .any], [some ⟨false, .lst [.int .i64 0, .nsl, .nsl]⟩, some ⟨false, .lst [.dat (.sl (.arr .u8 32)) i.1.1 none, .dat .bool ms none, .int .i64 i.1.2, .dat .bool [] (some 2), .dat (.arr .u8 32) [] (some 3)]⟩, some ⟨false, .tail⟩, some ⟨false, .tail⟩])) ⟨(levels xs, xs.length), hlv, rfl⟩ ?_
      rintro ⟨⟨L, n⟩, hL, hn⟩
      simp only at hL hn
      subst L
      refine run_ex hmix ti_ok tbw_ok 999 false 400 [] (fun ar lf => by conv => lhs; cbv) (allP ?_) ?_
      · simp only [conj, and_true, Int.ofNat_eq_natCast, arR, rcmp_lss, rcmp_gtr, rcmp_geq, rcmp_eql, rcmp_neq, decide_eq_true_eq, decide_eq_false_iff_not, lrR, lqR, loR, lnR, lkR, ltR, lpR, lhR, f1, n1, List.length_nil, Int.toNat_zero]
        ((repeat' with_reducible apply And.intro) <;> first | omega | assumption | rfl | trivial)
      · refine Run.ret ti_ok rfl rfl (.tup2 (.lst ⟨.int hn, .dat ?_, .dat ?_, trivial⟩) (.int rfl))
        · simp only [lrR, lqR, loR, lnR, lkR, ltR, lpR, lhR, Int.ofNat_eq_natCast, arR, f1, n1, Int.toNat_zero, List.nil_append]
        · simp only [lrR, lqR, loR, lnR, lkR, ltR, lpR, lhR, Int.ofNat_eq_natCast, arR, f1, n1, Int.toNat_zero, List.nil_append]
    · refine run_ex hmix ti_ok tbw_ok 999 false 400 [false, true] (fun ar lf => by conv => lhs; cbv) (allP ?_) ?_
      · simp only [conj, and_true, Int.ofNat_eq_natCast, arR, rcmp_lss, rcmp_gtr, rcmp_geq, rcmp_eql, rcmp_neq, decide_eq_true_eq, decide_eq_false_iff_not]
        ((repeat' with_reducible apply And.intro) <;> first | omega | assumption | rfl | trivial)
      · have hn : ¬ partOk xs ms := fun h => h1 h.2
        have e1 : lrR.pCnt xs ms = 0 := if_neg hn
        have e2 : lrR.pBits xs ms = [] := if_neg hn
        have e3 : lrR.pIds xs ms = [] := if_neg hn
        have e4 : lrR.pErr xs ms = 1 := if_neg hn
        rw [e1, e2, e3, e4]
        exact Run.ret ti_ok rfl rfl (.tup2 (.lst ⟨.lit rfl, .nsl, .nsl, trivial⟩) (.lit rfl))
  · cases hs
end Go.Proofs.Ytlbllaocdilafaa
