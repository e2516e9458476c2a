import Derived.Test.YtlbllaocdilafaaNc
import Derived.Test.YtlbllaocdilafaaMx
set_option linter.unusedSimpArgs false
set_option linter.unusedVariables false
namespace Go.Eng
open Go
theorem rd_both (bits ids : List D) (cnt : Int) : (rdA bits ids cnt).1.bad = (rdR bits ids cnt.toNat (dep cnt.toNat) 0 ⟨0, 0, [], [], false⟩).1.bad ∧ ((rdA bits ids cnt).1.bad = false → rdA bits ids cnt = rdR bits ids cnt.toNat (dep cnt.toNat) 0 ⟨0, 0, [], [], false⟩) :=
  rd_same bits ids cnt.toNat (dep cnt.toNat) (by omega) 0 _
theorem rd_in (bits ids : List D) (cnt : Int) : (rdA bits ids cnt).1.b ≤ bits.length ∧ (rdA bits ids cnt).1.i ≤ ids.length :=
  rdI_in bits ids _ _ 0 _ (by simp) (by simp)
end Go.Eng
namespace Go.Proofs.Ytlbllaocdilafaa
open Go Go.Eng Go.Proofs Go.RowKit
attribute [local irreducible] CallOk HOk Run TIok rbin rcmp run1 updF shfF blitF
def sGiven2 (lf : LW) : ESpec := fun l => match l with
  | [.one (.dat (.arr .u8 32) xs none)] => some (.a (.one (.dat (.arr .u8 32) xs none)), [lf.hl2 xs])
  | _ => none
def tbd0 (lf : LW) : Tbl := tbL [] []
theorem tbd0_ok : TblOk Try.prog (tbd0 lwR) := tbL_ok nofun nofun
theorem given2_ok : CallOk Try.prog 13 (sGiven2 lwR) := by
  refine .of_run (hc := (tbd0 lwR).hc) Try.func13 rfl (by kernel_rfl) (by kernel_rfl) fun xs v ps hs hp w => ?_
  unfold sGiven2 at hs
  split at hs
  · rename_i xs
    cases hs
    have hx : xs.length ≤ 4398046511104 ∧ ∀ d ∈ xs, isHash d := hp (lwR.hl2 xs) (by simp)
    clear hp
    have hlen := hx.1
    refine run_pa hmix ti_ok tbd0_ok 0 false 400 [] [3, 7, 8, 9] [9] (fun ar lf => by conv => lhs; cbv) (allP ?_) ?_
    · trivial
    refine Run.loop (ι := {p : Int × List D × Int // (0 ≤ p.1 ∧ p.1 ≤ xs.length) ∧ p.2.1 = xs.take p.1.toNat ∧ p.2.2 = xs.length})
      (fun i => ([.any, .any, .any, .a (.one (.dat (.arr .u8 32) i.1.2.1 (some 0))), .any, .any, .any, .a (.one (.dat (.arr .u8 32) xs none)), .a (.one (.int .i64 i.1.2.2)), .a (.one (.int .i64 i.1.1)), .any, .any, .any, .any, .any, .any, .any, .any, .any], [some ⟨false, .tail⟩]))
      (fun i => (xs.length - i.1.1).toNat) ⟨(0, [], xs.length), by simp only; omega, rfl, rfl⟩ ?_
    rintro ⟨⟨k, ys, n⟩, hk, hys, hn⟩ ih
    simp only at hk hys hn
    by_cases hlt : k < xs.length
    · refine run_pa hmix ti_ok tbd0_ok 2 true 400 [true] [3, 7, 8, 9] [9] (fun ar lf => by conv => lhs; cbv) (allP ?_) ?_
      · subst hys hn
        simp only [conj, and_true, Int.ofNat_eq_natCast, arR, rcmp_lss, rcmp_gtr, rcmp_geq, rcmp_eql, rcmp_neq, decide_eq_true_eq, decide_eq_false_iff_not, List.length_take, List.length_cons, List.length_nil, maxLen]
        omega
      · refine ih ⟨(_, _, _), ?_⟩ ?_ _ _
        · simp only
          show (0 ≤ rbin .add .i64 k 1 ∧ rbin .add .i64 k 1 ≤ xs.length) ∧ ys ++ [D.row ((List.range 32).map fun j => (xs.getD k.toNat (.int 0)).row!.getD j 0)] = xs.take (rbin .add .i64 k 1).toNat ∧ n = xs.length
          rw [addi (by omega) (by omega)]
          have hlt2 : k.toNat < xs.length := by omega
          have e : xs[k.toNat]? = some xs[k.toNat] := List.getElem?_eq_getElem hlt2
          refine ⟨by omega, ?_, hn⟩
          rw [hash_same (by rw [List.getD_eq_getElem?_getD, e]; exact hx.2 _ (List.getElem_mem hlt2)), hys, List.getD_eq_getElem?_getD, e, show (k + 1).toNat = k.toNat + 1 by omega, List.take_add_one, e]; rfl
        · show ((xs.length : Int) - rbin .add .i64 k 1).toNat < ((xs.length : Int) - k).toNat
          rw [addi (by omega) (by omega)]; omega
    · refine run_ex hmix ti_ok tbd0_ok 999 false 400 [false] (fun ar lf => by conv => lhs; cbv) (allP ?_) ?_
      · subst hys hn
        simp only [conj, and_true, Int.ofNat_eq_natCast, arR, rcmp_lss, rcmp_gtr, rcmp_geq, rcmp_eql, rcmp_neq, decide_eq_true_eq, decide_eq_false_iff_not]
        omega
      · refine Run.ret ti_ok rfl rfl (.a (.dat ?_))
        rw [hys, List.take_of_length_le (by omega)]
  · cases hs
def sRPt (lf : LW) : ESpec := fun l => match l with
  | [.one (.dat (.arr .u8 32) xs none), .one (.dat .bool ms none)] => some (.a (.agg (.lst [.int .i64 (lf.pCnt xs ms), .dat .bool (lf.pBits xs ms) none, .dat (.arr .u8 32) (lf.pIds xs ms) none])), [lf.hl xs, lf.ptIn xs ms])
  | _ => none
def tbd1 (lf : LW) : Tbl := tbL [(54, sRLevels lf.toLR)] [(55, hRPart 64 lf.toLR)]
theorem tbd1_ok : TblOk Try.prog (tbd1 lwR) := tbL_ok (List.forall_mem_cons.2 ⟨rlevels_ok, nofun⟩) (List.forall_mem_cons.2 ⟨rpart_ok 64, nofun⟩)
set_option maxRecDepth 100000 in
theorem rpt_ok : CallOk Try.prog 29 (sRPt lwR) := by
  refine .of_run (hc := (tbd1 lwR).hc) Try.func29 rfl (by kernel_rfl) (by kernel_rfl) fun xs v ps hs hp w => ?_
  unfold sRPt at hs
  split at hs
  · rename_i xs ms
    cases hs
    have hx : HL xs := hp (lwR.hl xs) (by simp)
    obtain ⟨hok, hl⟩ : partOk xs ms ∧ xs.length ≤ 65536 := hp (lwR.ptIn xs ms) (by simp)
    clear hp
    have e1 : lwR.pCnt xs ms = xs.length := if_pos hok
    have e2 : lwR.pBits xs ms = (pt (lvls xs) ms ((lvls xs).length - 1) 0).1 := if_pos hok
    have e3 : lwR.pIds xs ms = (pt (lvls xs) ms ((lvls xs).length - 1) 0).2 := if_pos hok
    rw [e1, e2, e3]
    obtain ⟨h0, h1⟩ := hok
    obtain ⟨d1, d2, d3⟩ := pow_dep hx (by omega) hl
    have hpi := posIn_top hx (by omega) hl h1
    have f1 : rbin .sub .i64 (lvls xs).length 1 = (lvls xs).length - 1 := subi (by omega) (by omega)
    have n1 : (((lvls xs).length : Int) - 1).toNat = (lvls xs).length - 1 := by omega
    have hpw : 2 ^ ((lvls xs).length - 1 + 1) = 2 ^ ((lvls xs).length - 1) + 2 ^ ((lvls xs).length - 1) := by rw [Nat.pow_succ]; omega
    refine run_ex hmix ti_ok tbd1_ok 999 false 400 [] (fun ar lf => by conv => lhs; cbv) (allP ?_) ?_
    · simp only [conj, and_true, Int.ofNat_eq_natCast, arR, rcmp_lss, rcmp_gtr, rcmp_geq, rcmp_eql, rcmp_neq, decide_eq_true_eq, decide_eq_false_iff_not, lwR, luR, lsR', lrR, lqR, loR, lnR, lkR, ltR, lpR, lhR, f1, n1, List.length_nil, Int.toNat_zero]
      ((repeat' with_reducible apply And.intro) <;> first | omega | assumption | rfl | trivial)
    · refine Run.ret ti_ok rfl rfl (.a (.lst ⟨.int rfl, .dat ?_, .dat ?_, trivial⟩))
      · simp only [lwR, luR, lsR', lrR, lqR, loR, lnR, lkR, ltR, lpR, lhR, Int.ofNat_eq_natCast, arR, f1, n1, Int.toNat_zero, List.nil_append]
      · simp only [lwR, luR, lsR', lrR, lqR, loR, lnR, lkR, ltR, lpR, lhR, Int.ofNat_eq_natCast, arR, f1, n1, Int.toNat_zero, List.nil_append]
  · cases hs
def sRRead (lf : LW) : ESpec := fun l => match l with
  | [.agg (.lst [.int .i64 cnt, .dat .bool bits none, .dat (.arr .u8 32) ids none])] => some (.tup [aF .u8 32 (lf.rdH bits ids cnt), .one (.dat (.int .i64) (lf.rdP bits ids cnt) none), .one (.dat (.arr .u8 32) (lf.rdM bits ids cnt) none), .one (.bool (lf.rdG bits ids cnt))], [lf.longOk bits ids])
  | _ => none
def tbd (lf : LW) : Tbl := tbL [(16, sDepth lf.toLN)] [(57, hRR 64 lf.toLU)]
theorem tbd_ok : TblOk Try.prog (tbd lwR) := tbL_ok (List.forall_mem_cons.2 ⟨rdepth_ok, nofun⟩) (List.forall_mem_cons.2 ⟨rread_ok 64, nofun⟩)
set_option maxRecDepth 100000 in
set_option maxHeartbeats 4000000 in
theorem rRead_ok : CallOk Try.prog 32 (sRRead lwR) := by
  refine .of_run (hc := (tbd lwR).hc) Try.func32 rfl (by kernel_rfl) (by kernel_rfl) fun xs v ps hs hp w => ?_
  unfold sRRead at hs
  split at hs
  · rename_i cnt bits ids
    cases hs
    obtain ⟨hb, hi⟩ : bits.length ≤ 9223372036854775807 ∧ ids.length ≤ 9223372036854775807 := hp (lwR.longOk bits ids) (by simp)
    clear hp
    have hq : True := trivial
    by_cases h0 : cnt < 1
    · have hn : ¬ rdB bits ids cnt := fun h => by have := h.1; omega
      refine run_ex hmix ti_ok tbd_ok 999 false 400 [true] (fun ar lf => by conv => lhs; cbv) (allP ?_) ?_
      · simp only [conj, and_true, Int.ofNat_eq_natCast, arR, rcmp_lss, rcmp_gtr, rcmp_geq, rcmp_eql, rcmp_neq, decide_eq_true_eq, decide_eq_false_iff_not, lwR, luR, lsR', lrR, lqR, loR, lnR, lkR, ltR, lpR, lhR, hq, Int.toNat_natCast, Int.toNat_zero, List.length_nil]
        ((repeat' with_reducible apply And.intro) <;> first | omega | assumption | rfl | trivial)
      · have e1 : lwR.rdH bits ids cnt = fun _ => 0 := if_neg hn
        have e2 : lwR.rdP bits ids cnt = [] := if_neg hn
        have e3 : lwR.rdM bits ids cnt = [] := if_neg hn
        have e4 : lwR.rdG bits ids cnt = false := if_neg hn
        rw [e1, e2, e3, e4]
        exact Run.ret ti_ok rfl rfl (.tup4 (.ints fun j hj => rfl) .nsl .nsl (.lbool rfl))
    by_cases h1 : 65536 < cnt
    · have hn : ¬ rdB bits ids cnt := fun h => by have := h.2.1; omega
      refine run_ex hmix ti_ok tbd_ok 999 false 400 [false, true] (fun ar lf => by conv => lhs; cbv) (allP ?_) ?_
      · simp only [conj, and_true, Int.ofNat_eq_natCast, arR, rcmp_lss, rcmp_gtr, rcmp_geq, rcmp_eql, rcmp_neq, decide_eq_true_eq, decide_eq_false_iff_not, lwR, luR, lsR', lrR, lqR, loR, lnR, lkR, ltR, lpR, lhR, hq, Int.toNat_natCast, Int.toNat_zero, List.length_nil]
        ((repeat' with_reducible apply And.intro) <;> first | omega | assumption | rfl | trivial)
      · have e1 : lwR.rdH bits ids cnt = fun _ => 0 := if_neg hn
        have e2 : lwR.rdP bits ids cnt = [] := if_neg hn
        have e3 : lwR.rdM bits ids cnt = [] := if_neg hn
        have e4 : lwR.rdG bits ids cnt = false := if_neg hn
        rw [e1, e2, e3, e4]
        exact Run.ret ti_ok rfl rfl (.tup4 (.ints fun j hj => rfl) .nsl .nsl (.lbool rfl))
    clear hq
    have hd16 : dep cnt.toNat ≤ 16 := dep_le 16 _ (by omega)
    have hone : 1 ≤ 2 ^ (40 - dep cnt.toNat) := Nat.one_le_two_pow
    have hpw : 2 ^ (dep cnt.toNat + 1) ≤ 131072 := Nat.le_trans (Nat.pow_le_pow_right (by decide) (by omega : dep cnt.toNat + 1 ≤ 17)) (by decide)
    obtain ⟨s1, s2⟩ := rd_both bits ids cnt
    obtain ⟨s3, s4⟩ := rd_in bits ids cnt
    generalize hq : rdR bits ids cnt.toNat (dep cnt.toNat) 0 ⟨0, 0, [], [], false⟩ = x at *
    obtain ⟨⟨xb, xi, xpl, xme, xbad⟩, xh⟩ := x
    simp only at s1 s2
    by_cases hbd : xbad = true
    · have hn : ¬ rdB bits ids cnt := fun h => by have := h.2.2.1; rw [s1] at this; rw [this] at hbd; cases hbd
      refine run_ex hmix ti_ok tbd_ok 999 false 400 [false, false, true] (fun ar lf => by conv => lhs; cbv) (allP ?_) ?_
      · simp only [conj, and_true, Int.ofNat_eq_natCast, arR, rcmp_lss, rcmp_gtr, rcmp_geq, rcmp_eql, rcmp_neq, decide_eq_true_eq, decide_eq_false_iff_not, lwR, luR, lsR', lrR, lqR, loR, lnR, lkR, ltR, lpR, lhR, hq, Int.toNat_natCast, Int.toNat_zero, List.length_nil]
        ((repeat' with_reducible apply And.intro) <;> first | omega | assumption | rfl | trivial)
      · have e1 : lwR.rdH bits ids cnt = fun _ => 0 := if_neg hn
        have e2 : lwR.rdP bits ids cnt = [] := if_neg hn
        have e3 : lwR.rdM bits ids cnt = [] := if_neg hn
        have e4 : lwR.rdG bits ids cnt = false := if_neg hn
        rw [e1, e2, e3, e4]
        exact Run.ret ti_ok rfl rfl (.tup4 (.ints fun j hj => rfl) .nsl .nsl (.lbool rfl))
    have hbd : xbad = false := by simpa using hbd
    have hX := s2 (by rw [s1]; exact hbd)
    rw [hX] at s3 s4
    simp only at s3 s4
    by_cases hbl : xb < bits.length
    · have hn : ¬ rdB bits ids cnt := fun h => by have := h.2.2.2.1; rw [hX] at this; simp only at this; omega
      refine run_ex hmix ti_ok tbd_ok 999 false 400 [false, false, false, true] (fun ar lf => by conv => lhs; cbv) (allP ?_) ?_
      · simp only [conj, and_true, Int.ofNat_eq_natCast, arR, rcmp_lss, rcmp_gtr, rcmp_geq, rcmp_eql, rcmp_neq, decide_eq_true_eq, decide_eq_false_iff_not, lwR, luR, lsR', lrR, lqR, loR, lnR, lkR, ltR, lpR, lhR, hq, Int.toNat_natCast, Int.toNat_zero, List.length_nil]
        ((repeat' with_reducible apply And.intro) <;> first | omega | assumption | rfl | trivial)
      · have e1 : lwR.rdH bits ids cnt = fun _ => 0 := if_neg hn
        have e2 : lwR.rdP bits ids cnt = [] := if_neg hn
        have e3 : lwR.rdM bits ids cnt = [] := if_neg hn
        have e4 : lwR.rdG bits ids cnt = false := if_neg hn
        rw [e1, e2, e3, e4]
        exact Run.ret ti_ok rfl rfl (.tup4 (.ints fun j hj => rfl) .nsl .nsl (.lbool rfl))
    by_cases hil : xi < ids.length
    · have hn : ¬ rdB bits ids cnt := fun h => by have := h.2.2.2.2; rw [hX] at this; simp only at this; omega
      refine run_ex hmix ti_ok tbd_ok 999 false 400 [false, false, false, false, true] (fun ar lf => by conv => lhs; cbv) (allP ?_) ?_
      · simp only [conj, and_true, Int.ofNat_eq_natCast, arR, rcmp_lss, rcmp_gtr, rcmp_geq, rcmp_eql, rcmp_neq, decide_eq_true_eq, decide_eq_false_iff_not, lwR, luR, lsR', lrR, lqR, loR, lnR, lkR, ltR, lpR, lhR, hq, Int.toNat_natCast, Int.toNat_zero, List.length_nil]
        ((repeat' with_reducible apply And.intro) <;> first | omega | assumption | rfl | trivial)
      · have e1 : lwR.rdH bits ids cnt = fun _ => 0 := if_neg hn
        have e2 : lwR.rdP bits ids cnt = [] := if_neg hn
        have e3 : lwR.rdM bits ids cnt = [] := if_neg hn
        have e4 : lwR.rdG bits ids cnt = false := if_neg hn
        rw [e1, e2, e3, e4]
        exact Run.ret ti_ok rfl rfl (.tup4 (.ints fun j hj => rfl) .nsl .nsl (.lbool rfl))
    have hn : rdB bits ids cnt := ⟨by omega, by omega, by rw [hX]; exact hbd, by rw [hX]; simp only; omega, by rw [hX]; simp only; omega⟩
    have e1 : lwR.rdH bits ids cnt = xh := (if_pos hn).trans (by rw [hX])
    have e2 : lwR.rdP bits ids cnt = xpl := (if_pos hn).trans (by rw [hX])
    have e3 : lwR.rdM bits ids cnt = xme := (if_pos hn).trans (by rw [hX])
    have e4 : lwR.rdG bits ids cnt = true := if_pos hn
    rw [e1, e2, e3, e4]
    refine run_ex hmix ti_ok tbd_ok 999 false 400 [false, false, false, false, false] (fun ar lf => by conv => lhs; cbv) (allP ?_) ?_
    · simp only [conj, and_true, Int.ofNat_eq_natCast, arR, rcmp_lss, rcmp_gtr, rcmp_geq, rcmp_eql, rcmp_neq, decide_eq_true_eq, decide_eq_false_iff_not, lwR, luR, lsR', lrR, lqR, loR, lnR, lkR, ltR, lpR, lhR, hq, Int.toNat_natCast, Int.toNat_zero, List.length_nil]
      ((repeat' with_reducible apply And.intro) <;> first | omega | assumption | rfl | trivial)
    · refine Run.ret ti_ok rfl rfl (.tup4 (.ints fun j hj => ?_) (.dat ?_) (.dat ?_) (.lbool rfl)) <;>
        simp only [lwR, luR, lsR', lrR, lqR, loR, lnR, lkR, ltR, lpR, lhR, Int.ofNat_eq_natCast, arR, hq, Nat.zero_add, Int.toNat_natCast]
  · cases hs
end Go.Proofs.Ytlbllaocdilafaa
