import Derived.Test.YtlbllaocdilafaaMk
set_option linter.unusedSimpArgs false
set_option linter.unusedVariables false
namespace Go.Proofs.Ytlbllaocdilafaa
open Go Go.Eng Go.Proofs Go.RowKit
attribute [local irreducible] CallOk HOk Run TIok rbin rcmp run1 updF shfF blitF
def sSelf (lf : LK) : ESpec := fun l => match l with
  | [.one (.dat (.arr .u8 32) xs none)] => some (.a (.one (.dat (.arr .u8 32) xs none)), [lf.hl xs])
  | _ => none
def hClone6 (lf : LK) : HSpec := fun l bs => match l, bs with
  | [.one (.dat (.arr .u8 32) xs none)], [] => some (.a (.one (.dat (.arr .u8 32) xs (some 0))), [⟨false, .tail⟩], [lf.hl xs])
  | _, _ => none
theorem clone_ok6 : HOk Try.prog 48 (hClone6 lkR) := by
  refine .of_run (hc := (tbm1 lkR).hc) Try.func48 rfl (by kernel_rfl) (by kernel_rfl) fun las lbs v lbs' ps hs hp w => ?_
  unfold hClone6 at hs
  split at hs
  · rename_i xs
    cases hs
    have hx : HL xs := hp (lkR.hl xs) (by simp)
    clear hp
    have hlen := hx.1
    simp only [List.length_nil]
    refine run_ex hmix ti_ok tbm1_ok 999 false 400 [] (fun ar lf => by conv => lhs; cbv) (allP ?_) ?_
    · trivial
    refine Run.tri rfl (fun h => ?_) (fun _ => ?_)
    · refine run_ex hmix ti_ok tbm1_ok 999 false 400 [] (fun ar lf => by conv => lhs; cbv) (allP ?_) ?_
      · trivial
      · refine Run.room 2 (.arr .u8 32) rfl (Nat.zero_le _) ?_
        have h : xs = [] := h
        subst h
        refine Run.ret ti_ok rfl rfl ⟨[0], by decide, fun j hj => by omega, rfl, .of_map rfl, fun i b' hi => ?_⟩
        match i with
        | 0 =>
          simp only [List.getElem?_cons_zero, Option.some.injEq] at hi
          subst hi
          exact ⟨0, _, rfl, rfl, rfl, .of_map rfl⟩
        | i + 1 => simp at hi
    · refine run_ex hmix ti_ok tbm1_ok 999 false 400 [] (fun ar lf => by conv => lhs; cbv) (allP ?_) ?_
      · simp only [conj, and_true, Int.ofNat_eq_natCast, arR, List.length_nil, maxLen]
        omega
      · refine Run.ret ti_ok rfl rfl ⟨[1], by decide, fun j hj => by omega, rfl, .of_map rfl, fun i b' hi => ?_⟩
        match i with
        | 0 =>
          simp only [List.getElem?_cons_zero, Option.some.injEq] at hi
          subst hi
          exact ⟨1, _, rfl, rfl, rfl, .of_map rfl⟩
        | i + 1 => simp at hi
  · cases hs
def sLevels (lf : LK) : ESpec := fun l => match l with
  | [.one (.dat (.arr .u8 32) xs none)] => some (.a (.one (.dat (.sl (.arr .u8 32)) (lf.levels xs) none)), [lf.hl xs])
  | _ => none
def tbm2 (lf : LK) : Tbl := tbL [(50, sAbove lf)] [(48, hClone6 lf)]
theorem tbm2_ok : TblOk Try.prog (tbm2 lkR) := tbL_ok (List.forall_mem_cons.2 ⟨above_ok, nofun⟩) (List.forall_mem_cons.2 ⟨clone_ok6, nofun⟩)
theorem levels_ok : CallOk Try.prog 20 (sLevels lkR) := by
  refine .of_run (hc := (tbm2 lkR).hc) Try.func20 rfl (by kernel_rfl) (by kernel_rfl) fun xs v ps hs hp w => ?_
  unfold sLevels at hs
  split at hs
  · rename_i xs
    cases hs
    have hx : HL xs := hp (lkR.hl xs) (by simp)
    clear hp
    have hlen := hx.1
    by_cases h0 : xs.length = 0
    · refine run_ex hmix ti_ok tbm2_ok 999 false 400 [true] (fun ar lf => by conv => lhs; cbv) (allP ?_) ?_
      · simp only [conj, and_true, Int.ofNat_eq_natCast, arR, rcmp_eql, decide_eq_true_eq]
        omega
      · refine Run.ret ti_ok rfl rfl ?_
        have : lkR.levels xs = [] := by show levels xs = []; unfold levels; rw [if_pos h0]
        rw [this]
        exact .a .nsl
    · refine run_pa hmix ti_ok tbm2_ok 0 false 400 [false] [0, 3] [0, 3] (fun ar lf => by conv => lhs; cbv) (allP ?_) ?_
      · simp only [conj, and_true, Int.ofNat_eq_natCast, arR, lkR, rcmp_eql, decide_eq_false_iff_not]
        exact ⟨hx, by omega⟩
      refine Run.loop (ι := {p : List D × List D // HL p.1 ∧ 0 < p.1.length ∧ p.2 ++ (lvls p.1).tail = lvls xs})
        (fun i => ([.a (.one (.dat (.arr .u8 32) i.1.1 none)), .any, .any, .a (.one (.dat (.sl (.arr .u8 32)) i.1.2 (some 0))), .any, .any, .any, .any, .any, .any, .any, .any, .any, .any, .any, .any, .any, .any, .any, .any], [some ⟨false, .tail⟩]))
        (fun i => i.1.1.length) ⟨(xs, [.sl xs]), hx, by simp only; omega, by
          show [D.sl xs] ++ (lvls xs).tail = lvls xs
          rw [lvls]; split <;> rfl⟩ ?_
      rintro ⟨⟨ys, out⟩, hys, hpos, hout⟩ ih
      simp only at hys hpos hout
      have hyl := hys.1
      have hol : out.length ≤ xs.length + 1 := by
        have h1 := congrArg List.length hout
        have h2 := lvls_len xs
        rw [List.length_append] at h1
        omega
      by_cases h1 : 1 < ys.length
      · refine run_pa hmix ti_ok tbm2_ok 2 true 400 [true] [0, 3] [0, 3] (fun ar lf => by conv => lhs; cbv) (allP ?_) ?_
        · simp only [conj, and_true, Int.ofNat_eq_natCast, arR, lkR, rcmp_gtr, decide_eq_true_eq, List.length_cons, List.length_nil, maxLen]
          exact ⟨by omega, hys, by omega⟩
        · refine ih ⟨(abv ys, _), ?_⟩ ?_ _ _
          · simp only
            refine ⟨abv_HL hys, by rw [abv_len]; omega, ?_⟩
            show (out ++ [D.sl (abv ys)]) ++ (lvls (abv ys)).tail = lvls xs
            rw [← hout, List.append_assoc, lvls.eq_def ys, dif_pos h1]
            congr 1
            show D.sl (abv ys) :: (lvls (abv ys)).tail = lvls (abv ys)
            rw [lvls]; split <;> rfl
          · simp only
            rw [abv_len]; omega
      · refine run_ex hmix ti_ok tbm2_ok 999 false 400 [false] (fun ar lf => by conv => lhs; cbv) (allP ?_) ?_
        · simp only [conj, and_true, Int.ofNat_eq_natCast, arR, rcmp_gtr, decide_eq_false_iff_not]
          omega
        · refine Run.ret ti_ok rfl rfl ?_
          refine .a (.dat ?_)
          show out = levels xs
          rw [lvls.eq_def ys, dif_neg h1] at hout
          unfold levels
          rw [if_neg h0, ← hout]
          exact (List.append_nil out).symm
  · cases hs
def sRoot (lf : LK) : ESpec := fun l => match l with
  | [.one (.dat (.arr .u8 32) xs none)] => some (.tup [aF .u8 32 (lf.root xs), .one (.bool (lf.mu xs))], [lf.hl xs])
  | _ => none
def tbm3 (lf : LK) : Tbl := tbL [(20, sLevels lf)] []
theorem tbm3_ok : TblOk Try.prog (tbm3 lkR) := tbL_ok (List.forall_mem_cons.2 ⟨levels_ok, nofun⟩) nofun
theorem root_ok : CallOk Try.prog 11 (sRoot lkR) := by
  refine .of_run (hc := (tbm3 lkR).hc) Try.func11 rfl (by kernel_rfl) (by kernel_rfl) fun xs v ps hs hp w => ?_
  unfold sRoot at hs
  split at hs
  · rename_i xs
    cases hs
    have hx : HL xs := hp (lkR.hl xs) (by simp)
    clear hp
    have hlen := hx.1
    refine run_pa hmix ti_ok tbm3_ok 0 false 400 [] [2, 4, 5, 11, 12, 13] [4, 12, 13] (fun ar lf => by conv => lhs; cbv) (allP ?_) ?_
    · exact ⟨hx, trivial⟩
    have hll : (levels xs).length ≤ xs.length + 1 := by
      unfold levels
      split
      · simp
      · exact lvls_len xs
    refine Run.loop (ι := {p : Int × Bool × List D × Int // (0 ≤ p.1 ∧ p.1 ≤ p.2.2.1.length) ∧ (p.2.1 || anyAdj (p.2.2.1.drop p.1.toNat)) = anyAdj (levels xs) ∧ p.2.2.1 = levels xs ∧ p.2.2.2 = p.2.2.1.length})
      (fun i => ([.any, .any, .a (.one (.ptr 0 (.lit 0))), .any, .a (.one (.bool i.1.2.1)), .a (.one (.dat (.sl (.arr .u8 32)) i.1.2.2.1 none)), .any, .any, .any, .any, .any, .a (.one (.dat (.sl (.arr .u8 32)) i.1.2.2.1 none)), .a (.one (.int .i64 i.1.2.2.2)), .a (.one (.int .i64 i.1.1)), .any, .any, .any, .any, .any, .any, .any, .any, .any, .any, .any, .any, .any, .any, .any, .any, .any, .any, .any, .any, .any, .any, .any, .any, .any, .any, .any, .any, .any, .any, .any, .any, .any, .any, .any, .any, .any], [some ⟨false, .ints .u8 (.lit 32) (fun _ => 0)⟩]))
      (fun i => (i.1.2.2.1.length - i.1.1).toNat) ⟨(0, false, levels xs, (levels xs).length), by simp only; omega, rfl, rfl, rfl⟩ ?_
    rintro ⟨⟨k, m, L, n⟩, hk, hm, hL, hn⟩ ih
    simp only at hk hm hL hn
    have e1 : rbin .add .i64 k 1 = k + 1 := addi (by rw [hL] at hk; omega) (by rw [hL] at hk; omega)
    by_cases hlt : k < L.length
    · obtain ⟨l, hl, hlx⟩ := levels_HL hx (L.getD k.toNat (.int 0)) (by
        rw [← hL, List.getD_eq_getElem?_getD, List.getElem?_eq_getElem (by omega)]
        exact List.getElem_mem _)
      have hll2 := hlx.1
      refine run_pa hmix ti_ok tbm3_ok 2 false 400 [true] [2, 4, 5, 7, 8, 11, 12, 13] [8] (fun ar lf => by conv => lhs; cbv) (allP ?_) ?_
      · simp only [conj, and_true, Int.ofNat_eq_natCast, arR, rcmp_lss, decide_eq_true_eq]
        omega
      refine Run.loop (ι := {p : Int × Bool × List D × List D × Int × Int // (0 ≤ p.1 ∧ p.1 ≤ l.length + 1) ∧ (p.2.1 || adj (l.drop p.1.toNat)) = (m || adj l) ∧ p.2.2.1 = l ∧ p.2.2.2.1 = L ∧ p.2.2.2.2.1 = n ∧ p.2.2.2.2.2 = k})
        (fun i => ([.any, .any, .a (.one (.ptr 0 (.lit 0))), .any, .a (.one (.bool i.1.2.1)), .a (.one (.dat (.sl (.arr .u8 32)) i.1.2.2.2.1 none)), .any, .a (.one (.dat (.arr .u8 32) i.1.2.2.1 none)), .a (.one (.int .i64 i.1.1)), .any, .any, .a (.one (.dat (.sl (.arr .u8 32)) i.1.2.2.2.1 none)), .a (.one (.int .i64 i.1.2.2.2.2.1)), .a (.one (.int .i64 i.1.2.2.2.2.2)), .any, .any, .any, .any, .any, .any, .any, .any, .any, .any, .any, .any, .any, .any, .any, .any, .any, .any, .any, .any, .any, .any, .any, .any, .any, .any, .any, .any, .any, .any, .any, .any, .any, .any, .any, .any, .any], [some ⟨false, .ints .u8 (.lit 32) (fun _ => 0)⟩]))
        (fun i => (l.length + 1 - i.1.1).toNat) ⟨(0, m, (L.getD k.toNat (.int 0)).sl!, L, n, k), by simp only; omega, by simp only; rfl, by simp only; rw [hl]; rfl, rfl, rfl, rfl⟩ ?_
      rintro ⟨⟨q, m2, l', L', n', k'⟩, hq, hm2, hl', hL', hn', hk'⟩ ih2
      simp only at hq hm2 hl' hL' hn' hk'
      subst hl' hL' hn' hk'
      have f1 : rbin .add .i64 q 1 = q + 1 := addi (by omega) (by omega)
      have f2 : rbin .add .i64 q 2 = q + 2 := addi (by omega) (by omega)
      by_cases hlt2 : q + 1 < l'.length
      · have hd := adj_drop (l := l') (i := q.toNat) (by omega)
        cases m2 with
        | true =>
          refine run_pa hmix ti_ok tbm3_ok 6 true 400 [true, true] [2, 4, 5, 7, 8, 11, 12, 13] [4, 8] (fun ar lf => by conv => lhs; cbv) (allP ?_) ?_
          · simp only [conj, and_true, Int.ofNat_eq_natCast, arR, rcmp_lss, decide_eq_true_eq, f1]
            ((repeat' with_reducible apply And.intro) <;> first | omega | assumption | rfl | trivial)
          · refine ih2 ⟨(_, _, _, _, _, _), ?_⟩ ?_ _ _
            · simp only [arR, f2]
              refine ⟨by omega, ?_, trivial, trivial, trivial, trivial⟩
              rw [← hm2]; rfl
            · show ((l'.length : Int) + 1 - rbin .add .i64 q 2).toNat < ((l'.length : Int) + 1 - q).toNat
              rw [f2]; omega
        | false =>
          refine run_pa hmix ti_ok tbm3_ok 6 true 400 [true, false] [2, 4, 5, 7, 8, 11, 12, 13] [4, 8] (fun ar lf => by conv => lhs; cbv) (allP ?_) ?_
          · simp only [conj, and_true, Int.ofNat_eq_natCast, arR, rcmp_lss, decide_eq_true_eq, f1]
            ((repeat' with_reducible apply And.intro) <;> first | omega | assumption | rfl | trivial)
          · refine ih2 ⟨(_, _, _, _, _, _), ?_⟩ ?_ _ _
            · refine ⟨?_, ?_, rfl, rfl, rfl, rfl⟩
              · show 0 ≤ rbin .add .i64 q 2 ∧ rbin .add .i64 q 2 ≤ l'.length + 1
                rw [f2]; omega
              · rw [← hm2, hd, Bool.false_or]
                show (eqD (l'.getD q.toNat (.int 0)) (l'.getD (rbin .add .i64 q 1).toNat (.int 0)) || adj (l'.drop (rbin .add .i64 q 2).toNat)) = _
                rw [f1, f2, show (q + 1).toNat = q.toNat + 1 by omega, show (q + 2).toNat = q.toNat + 2 by omega]
            · show ((l'.length : Int) + 1 - rbin .add .i64 q 2).toNat < ((l'.length : Int) + 1 - q).toNat
              rw [f2]; omega
      · refine run_pa hmix ti_ok tbm3_ok 2 false 400 [false] [2, 4, 5, 11, 12, 13] [4, 13] (fun ar lf => by conv => lhs; cbv) (allP ?_) ?_
        · simp only [conj, and_true, Int.ofNat_eq_natCast, arR, rcmp_lss, decide_eq_false_iff_not, f1]
          exact hlt2
        · refine ih ⟨(_, _, _, _), ?_⟩ ?_ _ _
          · refine ⟨?_, ?_, hL, hn⟩
            · show 0 ≤ rbin .add .i64 k' 1 ∧ rbin .add .i64 k' 1 ≤ L'.length
              rw [e1]; omega
            · show (m2 || anyAdj (L'.drop (rbin .add .i64 k' 1).toNat)) = _
              rw [adj_end (by omega), Bool.or_false] at hm2
              rw [← hm, anyAdj_drop (by omega : k'.toNat < L'.length), hl, e1, show (k' + 1).toNat = k'.toNat + 1 by omega, hm2, Bool.or_assoc]
              rfl
          · show ((L'.length : Int) - rbin .add .i64 k' 1).toNat < ((L'.length : Int) - k').toNat
            rw [e1]; omega
    · have hk2 : k = L.length := by omega
      have hm3 : m = mutD xs := by
        rw [← levels_adj, ← hm, List.drop_of_length_le (by omega)]
        exact (Bool.or_false m).symm
      by_cases h0 : L.length = 0
      · refine run_ex hmix ti_ok tbm3_ok 999 false 400 [false, true] (fun ar lf => by conv => lhs; cbv) (allP ?_) ?_
        · simp only [conj, and_true, Int.ofNat_eq_natCast, arR, rcmp_lss, rcmp_eql, decide_eq_false_iff_not, decide_eq_true_eq]
          omega
        · refine Run.ret ti_ok rfl rfl ?_
          have hx0 : xs.length = 0 := by
            rcases Nat.eq_zero_or_pos xs.length with h | h
            · exact h
            · rw [hL] at h0
              unfold levels at h0
              rw [if_neg (by omega)] at h0
              have := lvls_ne xs
              omega
          refine .tup2 (.ints fun j hj => ?_) (.lbool ?_)
          · show _ = rootF xs j
            unfold rootF
            rw [if_pos hx0]
          · show false = mutD xs
            rw [mutD, dif_neg (by omega)]
      · have e2 : rbin .sub .i64 L.length 1 = L.length - 1 := subi (by omega) (by rw [hL]; omega)
        have hx0 : ¬ xs.length = 0 := fun h => h0 (by rw [hL]; unfold levels; rw [if_pos h]; rfl)
        have hlast : L.getD (L.length - 1) (.int 0) = .sl [rtD xs] := by
          have := lvls_last xs (by omega)
          rw [hL]; unfold levels; rw [if_neg hx0]; exact this
        refine run_ex hmix ti_ok tbm3_ok 999 false 400 [false, false] (fun ar lf => by conv => lhs; cbv) (allP ?_) ?_
        · simp only [conj, and_true, Int.ofNat_eq_natCast, arR, rcmp_lss, rcmp_eql, decide_eq_false_iff_not, decide_eq_true_eq, e2]
          rw [show ((L.length : Int) - 1).toNat = L.length - 1 by omega, hlast]
          simp only [D.sl!, List.length_cons, List.length_nil]
          omega
        · refine Run.ret ti_ok rfl rfl ?_
          refine .tup2 (.ints fun j hj => ?_) (.bool hm3)
          show arR.dRow ((L.getD (rbin .sub .i64 L.length 1).toNat (.int 0)).sl!.getD 0 (.int 0)) j = rootF xs j
          rw [e2, show ((L.length : Int) - 1).toNat = L.length - 1 by omega, hlast]
          unfold rootF
          rw [if_neg hx0]
          rfl
  · cases hs
end Go.Proofs.Ytlbllaocdilafaa
