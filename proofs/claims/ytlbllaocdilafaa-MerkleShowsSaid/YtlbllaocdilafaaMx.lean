import Derived.Test.YtlbllaocdilafaaMw
set_option linter.unusedSimpArgs false
set_option linter.unusedVariables false
namespace Go.Proofs.Ytlbllaocdilafaa
open Go Go.Eng Go.Proofs Go.RowKit
attribute [local irreducible] CallOk HOk Run TIok rbin rcmp run1 updF shfF blitF
def sRLevels (lf : LR) : ESpec := fun l => match l with
  | [.one (.dat (.arr .u8 32) xs none)] => some (.a (.one (.dat (.sl (.arr .u8 32)) (lf.lvls xs) none)), [lf.hl xs])
  | _ => none
theorem rlevels_ok : CallOk Try.prog 54 (sRLevels lrR) := by
  refine .of_run (hc := (tbm4 lkR).hc) Try.func54 rfl (by kernel_rfl) (by kernel_rfl) fun xs v ps hs hp w => ?_
  unfold sRLevels at hs
  split at hs
  · rename_i xs
    cases hs
    have hx : HL xs := hp (lrR.hl xs) (by simp)
    clear hp
    have hlen := hx.1
    refine run_pa hmix ti_ok tbm4_ok 0 false 400 [] [0, 3] [0, 3] (fun ar lf => by conv => lhs; cbv) (allP ?_) ?_
    · trivial
    refine Run.loop (ι := {p : List D × List D // HL p.1 ∧ p.2 ++ (lvls p.1).tail = lvls xs})
      (fun i => ([.a (.one (.dat (.arr .u8 32) i.1.1 none)), .any, .any, .a (.one (.dat (.sl (.arr .u8 32)) i.1.2 (some 0))), .any, .any, .any, .any, .any, .any, .any, .any, .any, .any, .any, .any, .any, .any, .any], [some ⟨false, .tail⟩]))
      (fun i => i.1.1.length) ⟨(xs, [.sl xs]), hx, by
        show [D.sl xs] ++ (lvls xs).tail = lvls xs
        rw [lvls]; split <;> rfl⟩ ?_
    rintro ⟨⟨ys, out⟩, hys, hout⟩ ih
    simp only at hys hout
    have hyl := hys.1
    have hol : out.length ≤ xs.length + 1 := by
      have h1 := congrArg List.length hout
      have h2 := lvls_len xs
      rw [List.length_append] at h1
      omega
    by_cases h1 : 1 < ys.length
    · refine run_pa hmix ti_ok tbm4_ok 2 true 400 [true] [0, 3] [0, 3] (fun ar lf => by conv => lhs; cbv) (allP ?_) ?_
      · simp only [conj, and_true, Int.ofNat_eq_natCast, arR, rcmp_lss, rcmp_gtr, rcmp_geq, rcmp_eql, rcmp_neq, decide_eq_true_eq, decide_eq_false_iff_not, lkR, List.length_cons, List.length_nil, maxLen]
        ((repeat' with_reducible apply And.intro) <;> first | omega | assumption | rfl | trivial)
      · refine ih ⟨(abv ys, _), ?_⟩ ?_ _ _
        · refine ⟨abv_HL hys, ?_⟩
          show (out ++ [D.sl (abv ys)]) ++ (lvls (abv ys)).tail = lvls xs
          rw [← hout, List.append_assoc, lvls.eq_def ys, dif_pos h1]
          congr 1
          show D.sl (abv ys) :: (lvls (abv ys)).tail = lvls (abv ys)
          rw [lvls]; split <;> rfl
        · simp only
          rw [abv_len]; omega
    · refine run_ex hmix ti_ok tbm4_ok 999 false 400 [false] (fun ar lf => by conv => lhs; cbv) (allP ?_) ?_
      · simp only [conj, and_true, Int.ofNat_eq_natCast, arR, rcmp_lss, rcmp_gtr, rcmp_geq, rcmp_eql, rcmp_neq, decide_eq_true_eq, decide_eq_false_iff_not]
        omega
      · refine Run.ret ti_ok rfl rfl (.a (.dat ?_))
        show out = lvls xs
        rw [lvls.eq_def ys, dif_neg h1] at hout
        rw [← hout]
        exact (List.append_nil out).symm
  · cases hs
def hRPart (n : Nat) (lf : LR) : HSpec := fun l bs => match l, bs with
  | [.agg (.lst [.int .i64 cnt, .nsl, .nsl]), .one (.dat (.sl (.arr .u8 32)) L none), .one (.dat .bool ms none), b, c], [] => match numA .i64 b, numA .i64 c with
    | some lev, some at_ => some (.a (.agg (.lst [.int .i64 cnt, .dat .bool (lf.cat [] (lf.ptB L ms lev at_)) (some 0), .dat (.arr .u8 32) (lf.cat [] (lf.ptI L ms lev at_)) (some 1)])), [⟨false, .tail⟩, ⟨false, .tail⟩], [lf.posOk n L ms lev at_ [] []])
    | _, _ => none
  | [.agg (.lst [.int .i64 cnt, .dat .bool bits (some 0), .nsl]), .one (.dat (.sl (.arr .u8 32)) L none), .one (.dat .bool ms none), b, c], [⟨false, .tail⟩] => match numA .i64 b, numA .i64 c with
    | some lev, some at_ => some (.a (.agg (.lst [.int .i64 cnt, .dat .bool (lf.cat bits (lf.ptB L ms lev at_)) (some 1), .dat (.arr .u8 32) (lf.cat [] (lf.ptI L ms lev at_)) (some 2)])), [⟨true, .dead⟩, ⟨false, .tail⟩, ⟨false, .tail⟩], [lf.posOk n L ms lev at_ bits []])
    | _, _ => none
  | [.agg (.lst [.int .i64 cnt, .dat .bool bits (some 0), .dat (.arr .u8 32) ids (some 1)]), .one (.dat (.sl (.arr .u8 32)) L none), .one (.dat .bool ms none), b, c], [⟨false, .tail⟩, ⟨false, .tail⟩] => match numA .i64 b, numA .i64 c with
    | some lev, some at_ => some (.a (.agg (.lst [.int .i64 cnt, .dat .bool (lf.cat bits (lf.ptB L ms lev at_)) (some 2), .dat (.arr .u8 32) (lf.cat ids (lf.ptI L ms lev at_)) (some 3)])), [⟨true, .dead⟩, ⟨true, .dead⟩, ⟨false, .tail⟩, ⟨false, .tail⟩], [lf.posOk n L ms lev at_ bits ids])
    | _, _ => none
  | _, _ => none
theorem hRPart_norm (n : Nat) (lf : LR) : ∀ l bs r, hRPart n lf l bs = some r → hRPart n lf (l.map A.norm) bs = some r := by
  intro l bs r h
  unfold hRPart at h ⊢
  split at h
  all_goals first
    | (cases h; done)
    | skip
  all_goals
    split at h
    · rename_i lev at_ h1 h2
      simp only [List.map_cons, List.map_nil, show ∀ g, A.norm (.agg g) = .agg g from fun _ => rfl, show ∀ s xs t, A.norm (.one (.dat s xs t)) = .one (.dat s xs t) from fun _ _ _ => rfl, numA_norm h1, numA_norm h2]
      exact h
    · cases h
def tbx (n : Nat) (lf : LR) : Tbl := tbL [(85, sMeant lf.toLQ)] [(55, hRPart n lf)]
set_option maxRecDepth 100000 in
set_option maxHeartbeats 4000000 in
theorem rpart_ok (n : Nat) : HOk Try.prog 55 (hRPart n lrR) := by
  induction n with
  | zero =>
    refine .of_run (hc := (tbu0 lqR).hc) Try.func55 rfl (by kernel_rfl) (by kernel_rfl) fun las lbs v lbs' ps hs hp w => ?_
    unfold hRPart at hs
    split at hs
    all_goals first
      | (cases hs; done)
      | skip
    all_goals
      split at hs
      · cases hs
        have := hp _ (List.mem_singleton.2 rfl)
        exact absurd this.2.1 (by have := this.1; omega)
      · cases hs
  | succ n ihn =>
    have tbx_ok : TblOk Try.prog (tbx n lrR) := tbL_ok (List.forall_mem_cons.2 ⟨meant_ok, nofun⟩) (List.forall_mem_cons.2 ⟨ihn, nofun⟩)
    refine .nrm (hRPart_norm _ _) ?_
    refine .of_run (hc := (tbx n lrR).hc) Try.func55 rfl (by kernel_rfl) (by kernel_rfl) fun las lbs v lbs' ps hs hp w => ?_
    split at hs
    · rename_i hn
      unfold hRPart at hs
      split at hs
      · rename_i cnt L ms b c
        split at hs
        · rename_i lev at_ e1 e2
          simp only [List.map_cons, List.map_nil, List.cons.injEq, and_true, true_and] at hn
          obtain rfl := numA_int e1 hn.2.2.2.1
          obtain rfl := numA_int e2 hn.2.2.2.2
          cases hs
          obtain ⟨hl0, hln, ha0, hpi, hbl, hil⟩ : 0 ≤ lev ∧ lev < (n + 1 : Nat) ∧ 0 ≤ at_ ∧ posIn L ms lev.toNat at_.toNat ∧ ([] : List D).length + 2 ^ (lev.toNat + 1) ≤ 1048576 ∧ ([] : List D).length + 2 ^ (lev.toNat + 1) ≤ 1048576 := hp (lrR.posOk (n + 1) L ms lev at_ ([] : List D) ([] : List D)) (by simp)
          clear hp hn e1 e2
          obtain ⟨p1, p2, p3, p4, p5, p6, p7, p8, p9, p10⟩ := posIn_facts hpi
          simp only [List.length_cons, List.length_nil]
          have hone : 1 ≤ 2 ^ lev.toNat := Nat.one_le_two_pow
          have hle : at_.toNat ≤ at_.toNat * 2 ^ lev.toNat := Nat.le_mul_of_pos_right _ (Nat.two_pow_pos _)
          have hrow : D.row ((List.range 32).map fun j => ((L.getD lev.toNat (.int 0)).sl!.getD at_.toNat (.int 0)).row!.getD j 0) = lvAt L lev.toNat at_.toNat := hash_same p6
          refine Run.roomAgg 0 1 .bool rfl rfl (Nat.zero_le _) ?_
          refine Run.roomAgg 0 2 (.arr .u8 32) rfl rfl (Nat.zero_le _) ?_
          by_cases hlev : lev = 0
          · have hpt : pt L ms lev.toNat at_.toNat = ([.bool (mnt ms lev.toNat at_.toNat)], [lvAt L lev.toNat at_.toNat]) := by
              rw [show lev.toNat = 0 by omega]; rfl
            cases hm : mnt ms lev.toNat at_.toNat with
            | false =>
              rw [hm] at hpt
              refine run_pa hmix ti_ok tbx_ok 999 false 400 [true] [10] [] (fun ar lf => by conv => lhs; cbv) (allP ?_) ?_
              · simp only [conj, and_true, Int.ofNat_eq_natCast, arR, rcmp_lss, rcmp_gtr, rcmp_geq, rcmp_eql, rcmp_neq, decide_eq_true_eq, decide_eq_false_iff_not, lrR, lqR, loR, lnR, lkR, ltR, lpR, lhR, Int.toNat_natCast, List.length_append, List.length_cons, List.length_nil, maxLen, hm, Bool.not_false]
                ((repeat' with_reducible apply And.intro) <;> first | omega | assumption | rfl | trivial)
              · refine Run.ret ti_ok rfl rfl ?_
                have eB : lrR.cat ([] : List D) (lrR.ptB L ms lev at_) = ([] : List D) ++ [.bool false] := by
                  show ([] : List D) ++ (pt L ms lev.toNat at_.toNat).1 = _
                  rw [hpt]
                have eI : lrR.cat ([] : List D) (lrR.ptI L ms lev at_) = ([] : List D) ++ [lvAt L lev.toNat at_.toNat] := by
                  show ([] : List D) ++ (pt L ms lev.toNat at_.toNat).2 = _
                  rw [hpt]
                rw [eB, eI]
                refine HEnd.pack [1, 2] rfl rfl rfl ?_
                simp only [Int.ofNat_eq_natCast, arR, lrR, lqR, loR, lnR, lkR, ltR, lpR, lhR, Int.toNat_natCast, hrow, hm, Bool.not_false]
                rfl
            | true =>
              rw [hm] at hpt
              refine run_pa hmix ti_ok tbx_ok 999 false 400 [false, true] [10] [] (fun ar lf => by conv => lhs; cbv) (allP ?_) ?_
              · simp only [conj, and_true, Int.ofNat_eq_natCast, arR, rcmp_lss, rcmp_gtr, rcmp_geq, rcmp_eql, rcmp_neq, decide_eq_true_eq, decide_eq_false_iff_not, lrR, lqR, loR, lnR, lkR, ltR, lpR, lhR, Int.toNat_natCast, List.length_append, List.length_cons, List.length_nil, maxLen, hm, Bool.not_true]
                ((repeat' with_reducible apply And.intro) <;> first | omega | assumption | rfl | trivial)
              · refine Run.ret ti_ok rfl rfl ?_
                have eB : lrR.cat ([] : List D) (lrR.ptB L ms lev at_) = ([] : List D) ++ [.bool true] := by
                  show ([] : List D) ++ (pt L ms lev.toNat at_.toNat).1 = _
                  rw [hpt]
                have eI : lrR.cat ([] : List D) (lrR.ptI L ms lev at_) = ([] : List D) ++ [lvAt L lev.toNat at_.toNat] := by
                  show ([] : List D) ++ (pt L ms lev.toNat at_.toNat).2 = _
                  rw [hpt]
                rw [eB, eI]
                refine HEnd.pack [1, 2] rfl rfl rfl ?_
                simp only [Int.ofNat_eq_natCast, arR, lrR, lqR, loR, lnR, lkR, ltR, lpR, lhR, Int.toNat_natCast, hrow, hm, Bool.not_true]
                rfl
          · obtain ⟨l', hl'⟩ : ∃ l' : Nat, lev.toNat = l' + 1 := ⟨lev.toNat - 1, by omega⟩
            cases hm : mnt ms lev.toNat at_.toNat with
            | false =>
              have hpt : pt L ms lev.toNat at_.toNat = ([.bool false], [lvAt L lev.toNat at_.toNat]) := by
                rw [hl']
                rw [hl'] at hm
                simp only [pt]
                rw [if_neg (by rw [hm]; simp)]
              refine run_pa hmix ti_ok tbx_ok 999 false 400 [true] [10] [] (fun ar lf => by conv => lhs; cbv) (allP ?_) ?_
              · simp only [conj, and_true, Int.ofNat_eq_natCast, arR, rcmp_lss, rcmp_gtr, rcmp_geq, rcmp_eql, rcmp_neq, decide_eq_true_eq, decide_eq_false_iff_not, lrR, lqR, loR, lnR, lkR, ltR, lpR, lhR, Int.toNat_natCast, List.length_append, List.length_cons, List.length_nil, maxLen, hm, Bool.not_false]
                ((repeat' with_reducible apply And.intro) <;> first | omega | assumption | rfl | trivial)
              · refine Run.ret ti_ok rfl rfl ?_
                have eB : lrR.cat ([] : List D) (lrR.ptB L ms lev at_) = ([] : List D) ++ [.bool false] := by
                  show ([] : List D) ++ (pt L ms lev.toNat at_.toNat).1 = _
                  rw [hpt]
                have eI : lrR.cat ([] : List D) (lrR.ptI L ms lev at_) = ([] : List D) ++ [lvAt L lev.toNat at_.toNat] := by
                  show ([] : List D) ++ (pt L ms lev.toNat at_.toNat).2 = _
                  rw [hpt]
                rw [eB, eI]
                refine HEnd.pack [1, 2] rfl rfl rfl ?_
                simp only [Int.ofNat_eq_natCast, arR, lrR, lqR, loR, lnR, lkR, ltR, lpR, lhR, Int.toNat_natCast, hrow, hm, Bool.not_false]
                rfl
            | true =>
              have f4 : rbin .sub .i64 lev 1 = lev - 1 := subi (by omega) (by omega)
              have f5 : rbin .mul .i64 2 at_ = 2 * at_ := muli (by omega) (by omega)
              have f6 : rbin .add .i64 (2 * at_) 1 = 2 * at_ + 1 := addi (by omega) (by omega)
              have n1 : (lev - 1).toNat = l' := by omega
              have n2 : (2 * at_).toNat = 2 * at_.toNat := by omega
              have n3 : (2 * at_ + 1).toNat = 2 * at_.toNat + 1 := by omega
              have hm' := hm
              have hpi' := hpi
              rw [hl'] at hm' hpi' hbl hil
              obtain ⟨q1, q2⟩ := posIn_left hpi'
              obtain ⟨-, -, -, -, -, -, -, -, q9, q10⟩ := posIn_facts q1
              have hpw : 2 ^ (l' + 1 + 1) = 2 ^ (l' + 1) + 2 ^ (l' + 1) := by rw [Nat.pow_succ]; omega
              have hpw1 : 1 ≤ 2 ^ (l' + 1) := Nat.one_le_two_pow
              have ln1 := pt_len L ms l' (2 * at_.toNat)
              have hlv : lvLen L l' = (L.getD l' (.int 0)).sl!.length := rfl
              by_cases hr : 2 * at_.toNat + 1 < lvLen L l'
              · have q3 := q2 hr
                have hpt : pt L ms lev.toNat at_.toNat = (.bool true :: ((pt L ms l' (2 * at_.toNat)).1 ++ (pt L ms l' (2 * at_.toNat + 1)).1), (pt L ms l' (2 * at_.toNat)).2 ++ (pt L ms l' (2 * at_.toNat + 1)).2) := by
                  rw [hl']
                  simp only [pt]
                  rw [if_pos hm', if_pos hr]
                refine run_pa hmix ti_ok tbx_ok 999 false 400 [false, false, true] [10] [] (fun ar lf => by conv => lhs; cbv) (allP ?_) ?_
                · simp only [conj, and_true, Int.ofNat_eq_natCast, arR, rcmp_lss, rcmp_gtr, rcmp_geq, rcmp_eql, rcmp_neq, decide_eq_true_eq, decide_eq_false_iff_not, lrR, lqR, loR, lnR, lkR, ltR, lpR, lhR, f4, f5, f6, n1, n2, n3, hm, Int.toNat_natCast, List.length_append, List.length_cons, List.length_nil, maxLen, Bool.not_true]
                  rw [hlv] at hr
                  ((repeat' with_reducible apply And.intro) <;> first | omega | assumption | rfl | trivial)
                · refine Run.ret ti_ok rfl rfl ?_
                  have eB : lrR.cat ([] : List D) (lrR.ptB L ms lev at_) = ((([] : List D) ++ [.bool true]) ++ (pt L ms l' (2 * at_.toNat)).1) ++ (pt L ms l' (2 * at_.toNat + 1)).1 := by
                    show ([] : List D) ++ (pt L ms lev.toNat at_.toNat).1 = _
                    (rw [hpt]) <;> simp
                  have eI : lrR.cat ([] : List D) (lrR.ptI L ms lev at_) = (([] : List D) ++ (pt L ms l' (2 * at_.toNat)).2) ++ (pt L ms l' (2 * at_.toNat + 1)).2 := by
                    show ([] : List D) ++ (pt L ms lev.toNat at_.toNat).2 = _
                    (rw [hpt]) <;> simp
                  rw [eB, eI]
                  refine HEnd.pack [1, 2] rfl rfl rfl ?_
                  simp only [Int.ofNat_eq_natCast, arR, lrR, lqR, loR, lnR, lkR, ltR, lpR, lhR, f4, f5, f6, n1, n2, n3, hm, Int.toNat_natCast]
                  rfl
              · have hpt : pt L ms lev.toNat at_.toNat = (.bool true :: (pt L ms l' (2 * at_.toNat)).1, (pt L ms l' (2 * at_.toNat)).2) := by
                  rw [hl']
                  simp only [pt]
                  rw [if_pos hm', if_neg hr]
                refine run_pa hmix ti_ok tbx_ok 999 false 400 [false, false, false] [10] [] (fun ar lf => by conv => lhs; cbv) (allP ?_) ?_
                · simp only [conj, and_true, Int.ofNat_eq_natCast, arR, rcmp_lss, rcmp_gtr, rcmp_geq, rcmp_eql, rcmp_neq, decide_eq_true_eq, decide_eq_false_iff_not, lrR, lqR, loR, lnR, lkR, ltR, lpR, lhR, f4, f5, f6, n1, n2, n3, hm, Int.toNat_natCast, List.length_append, List.length_cons, List.length_nil, maxLen, Bool.not_true]
                  rw [hlv] at hr
                  ((repeat' with_reducible apply And.intro) <;> first | omega | assumption | rfl | trivial)
                · refine Run.ret ti_ok rfl rfl ?_
                  have eB : lrR.cat ([] : List D) (lrR.ptB L ms lev at_) = ((([] : List D) ++ [.bool true]) ++ (pt L ms l' (2 * at_.toNat)).1) := by
                    show ([] : List D) ++ (pt L ms lev.toNat at_.toNat).1 = _
                    (rw [hpt]) <;> simp
                  have eI : lrR.cat ([] : List D) (lrR.ptI L ms lev at_) = (([] : List D) ++ (pt L ms l' (2 * at_.toNat)).2) := by
                    show ([] : List D) ++ (pt L ms lev.toNat at_.toNat).2 = _
                    (rw [hpt]) <;> simp
                  rw [eB, eI]
                  refine HEnd.pack [1, 2] rfl rfl rfl ?_
                  simp only [Int.ofNat_eq_natCast, arR, lrR, lqR, loR, lnR, lkR, ltR, lpR, lhR, f4, f5, f6, n1, n2, n3, hm, Int.toNat_natCast]
                  rfl
        · cases hs
      · rename_i cnt bits L ms b c
        split at hs
        · rename_i lev at_ e1 e2
          simp only [List.map_cons, List.map_nil, List.cons.injEq, and_true, true_and] at hn
          obtain rfl := numA_int e1 hn.2.2.2.1
          obtain rfl := numA_int e2 hn.2.2.2.2
          cases hs
          obtain ⟨hl0, hln, ha0, hpi, hbl, hil⟩ : 0 ≤ lev ∧ lev < (n + 1 : Nat) ∧ 0 ≤ at_ ∧ posIn L ms lev.toNat at_.toNat ∧ bits.length + 2 ^ (lev.toNat + 1) ≤ 1048576 ∧ ([] : List D).length + 2 ^ (lev.toNat + 1) ≤ 1048576 := hp (lrR.posOk (n + 1) L ms lev at_ bits ([] : List D)) (by simp)
          clear hp hn e1 e2
          obtain ⟨p1, p2, p3, p4, p5, p6, p7, p8, p9, p10⟩ := posIn_facts hpi
          simp only [List.length_cons, List.length_nil]
          have hone : 1 ≤ 2 ^ lev.toNat := Nat.one_le_two_pow
          have hle : at_.toNat ≤ at_.toNat * 2 ^ lev.toNat := Nat.le_mul_of_pos_right _ (Nat.two_pow_pos _)
          have hrow : D.row ((List.range 32).map fun j => ((L.getD lev.toNat (.int 0)).sl!.getD at_.toNat (.int 0)).row!.getD j 0) = lvAt L lev.toNat at_.toNat := hash_same p6
          refine Run.roomAgg 0 2 (.arr .u8 32) rfl rfl (Nat.le_refl _) ?_
          by_cases hlev : lev = 0
          · have hpt : pt L ms lev.toNat at_.toNat = ([.bool (mnt ms lev.toNat at_.toNat)], [lvAt L lev.toNat at_.toNat]) := by
              rw [show lev.toNat = 0 by omega]; rfl
            cases hm : mnt ms lev.toNat at_.toNat with
            | false =>
              rw [hm] at hpt
              refine run_pa hmix ti_ok tbx_ok 999 false 400 [true] [10] [] (fun ar lf => by conv => lhs; cbv) (allP ?_) ?_
              · simp only [conj, and_true, Int.ofNat_eq_natCast, arR, rcmp_lss, rcmp_gtr, rcmp_geq, rcmp_eql, rcmp_neq, decide_eq_true_eq, decide_eq_false_iff_not, lrR, lqR, loR, lnR, lkR, ltR, lpR, lhR, Int.toNat_natCast, List.length_append, List.length_cons, List.length_nil, maxLen, hm, Bool.not_false]
                ((repeat' with_reducible apply And.intro) <;> first | omega | assumption | rfl | trivial)
              · refine Run.ret ti_ok rfl rfl ?_
                have eB : lrR.cat bits (lrR.ptB L ms lev at_) = bits ++ [.bool false] := by
                  show bits ++ (pt L ms lev.toNat at_.toNat).1 = _
                  rw [hpt]
                have eI : lrR.cat ([] : List D) (lrR.ptI L ms lev at_) = ([] : List D) ++ [lvAt L lev.toNat at_.toNat] := by
                  show ([] : List D) ++ (pt L ms lev.toNat at_.toNat).2 = _
                  rw [hpt]
                rw [eB, eI]
                refine HEnd.pack [0, 2, 3] rfl rfl rfl ?_
                simp only [Int.ofNat_eq_natCast, arR, lrR, lqR, loR, lnR, lkR, ltR, lpR, lhR, Int.toNat_natCast, hrow, hm, Bool.not_false]
                rfl
            | true =>
              rw [hm] at hpt
              refine run_pa hmix ti_ok tbx_ok 999 false 400 [false, true] [10] [] (fun ar lf => by conv => lhs; cbv) (allP ?_) ?_
              · simp only [conj, and_true, Int.ofNat_eq_natCast, arR, rcmp_lss, rcmp_gtr, rcmp_geq, rcmp_eql, rcmp_neq, decide_eq_true_eq, decide_eq_false_iff_not, lrR, lqR, loR, lnR, lkR, ltR, lpR, lhR, Int.toNat_natCast, List.length_append, List.length_cons, List.length_nil, maxLen, hm, Bool.not_true]
                ((repeat' with_reducible apply And.intro) <;> first | omega | assumption | rfl | trivial)
              · refine Run.ret ti_ok rfl rfl ?_
                have eB : lrR.cat bits (lrR.ptB L ms lev at_) = bits ++ [.bool true] := by
                  show bits ++ (pt L ms lev.toNat at_.toNat).1 = _
                  rw [hpt]
                have eI : lrR.cat ([] : List D) (lrR.ptI L ms lev at_) = ([] : List D) ++ [lvAt L lev.toNat at_.toNat] := by
                  show ([] : List D) ++ (pt L ms lev.toNat at_.toNat).2 = _
                  rw [hpt]
                rw [eB, eI]
                refine HEnd.pack [0, 2, 3] rfl rfl rfl ?_
                simp only [Int.ofNat_eq_natCast, arR, lrR, lqR, loR, lnR, lkR, ltR, lpR, lhR, Int.toNat_natCast, hrow, hm, Bool.not_true]
                rfl
          · obtain ⟨l', hl'⟩ : ∃ l' : Nat, lev.toNat = l' + 1 := ⟨lev.toNat - 1, by omega⟩
            cases hm : mnt ms lev.toNat at_.toNat with
            | false =>
              have hpt : pt L ms lev.toNat at_.toNat = ([.bool false], [lvAt L lev.toNat at_.toNat]) := by
                rw [hl']
                rw [hl'] at hm
                simp only [pt]
                rw [if_neg (by rw [hm]; simp)]
              refine run_pa hmix ti_ok tbx_ok 999 false 400 [true] [10] [] (fun ar lf => by conv => lhs; cbv) (allP ?_) ?_
              · simp only [conj, and_true, Int.ofNat_eq_natCast, arR, rcmp_lss, rcmp_gtr, rcmp_geq, rcmp_eql, rcmp_neq, decide_eq_true_eq, decide_eq_false_iff_not, lrR, lqR, loR, lnR, lkR, ltR, lpR, lhR, Int.toNat_natCast, List.length_append, List.length_cons, List.length_nil, maxLen, hm, Bool.not_false]
                ((repeat' with_reducible apply And.intro) <;> first | omega | assumption | rfl | trivial)
              · refine Run.ret ti_ok rfl rfl ?_
                have eB : lrR.cat bits (lrR.ptB L ms lev at_) = bits ++ [.bool false] := by
                  show bits ++ (pt L ms lev.toNat at_.toNat).1 = _
                  rw [hpt]
                have eI : lrR.cat ([] : List D) (lrR.ptI L ms lev at_) = ([] : List D) ++ [lvAt L lev.toNat at_.toNat] := by
                  show ([] : List D) ++ (pt L ms lev.toNat at_.toNat).2 = _
                  rw [hpt]
                rw [eB, eI]
                refine HEnd.pack [0, 2, 3] rfl rfl rfl ?_
                simp only [Int.ofNat_eq_natCast, arR, lrR, lqR, loR, lnR, lkR, ltR, lpR, lhR, Int.toNat_natCast, hrow, hm, Bool.not_false]
                rfl
            | true =>
              have f4 : rbin .sub .i64 lev 1 = lev - 1 := subi (by omega) (by omega)
              have f5 : rbin .mul .i64 2 at_ = 2 * at_ := muli (by omega) (by omega)
              have f6 : rbin .add .i64 (2 * at_) 1 = 2 * at_ + 1 := addi (by omega) (by omega)
              have n1 : (lev - 1).toNat = l' := by omega
              have n2 : (2 * at_).toNat = 2 * at_.toNat := by omega
              have n3 : (2 * at_ + 1).toNat = 2 * at_.toNat + 1 := by omega
              have hm' := hm
              have hpi' := hpi
              rw [hl'] at hm' hpi' hbl hil
              obtain ⟨q1, q2⟩ := posIn_left hpi'
              obtain ⟨-, -, -, -, -, -, -, -, q9, q10⟩ := posIn_facts q1
              have hpw : 2 ^ (l' + 1 + 1) = 2 ^ (l' + 1) + 2 ^ (l' + 1) := by rw [Nat.pow_succ]; omega
              have hpw1 : 1 ≤ 2 ^ (l' + 1) := Nat.one_le_two_pow
              have ln1 := pt_len L ms l' (2 * at_.toNat)
              have hlv : lvLen L l' = (L.getD l' (.int 0)).sl!.length := rfl
              by_cases hr : 2 * at_.toNat + 1 < lvLen L l'
              · have q3 := q2 hr
                have hpt : pt L ms lev.toNat at_.toNat = (.bool true :: ((pt L ms l' (2 * at_.toNat)).1 ++ (pt L ms l' (2 * at_.toNat + 1)).1), (pt L ms l' (2 * at_.toNat)).2 ++ (pt L ms l' (2 * at_.toNat + 1)).2) := by
                  rw [hl']
                  simp only [pt]
                  rw [if_pos hm', if_pos hr]
                refine run_pa hmix ti_ok tbx_ok 999 false 400 [false, false, true] [10] [] (fun ar lf => by conv => lhs; cbv) (allP ?_) ?_
                · simp only [conj, and_true, Int.ofNat_eq_natCast, arR, rcmp_lss, rcmp_gtr, rcmp_geq, rcmp_eql, rcmp_neq, decide_eq_true_eq, decide_eq_false_iff_not, lrR, lqR, loR, lnR, lkR, ltR, lpR, lhR, f4, f5, f6, n1, n2, n3, hm, Int.toNat_natCast, List.length_append, List.length_cons, List.length_nil, maxLen, Bool.not_true]
                  rw [hlv] at hr
                  ((repeat' with_reducible apply And.intro) <;> first | omega | assumption | rfl | trivial)
                · refine Run.ret ti_ok rfl rfl ?_
                  have eB : lrR.cat bits (lrR.ptB L ms lev at_) = ((bits ++ [.bool true]) ++ (pt L ms l' (2 * at_.toNat)).1) ++ (pt L ms l' (2 * at_.toNat + 1)).1 := by
                    show bits ++ (pt L ms lev.toNat at_.toNat).1 = _
                    (rw [hpt]) <;> simp
                  have eI : lrR.cat ([] : List D) (lrR.ptI L ms lev at_) = (([] : List D) ++ (pt L ms l' (2 * at_.toNat)).2) ++ (pt L ms l' (2 * at_.toNat + 1)).2 := by
                    show ([] : List D) ++ (pt L ms lev.toNat at_.toNat).2 = _
                    (rw [hpt]) <;> simp
                  rw [eB, eI]
                  refine HEnd.pack [0, 2, 3] rfl rfl rfl ?_
                  simp only [Int.ofNat_eq_natCast, arR, lrR, lqR, loR, lnR, lkR, ltR, lpR, lhR, f4, f5, f6, n1, n2, n3, hm, Int.toNat_natCast]
                  rfl
              · have hpt : pt L ms lev.toNat at_.toNat = (.bool true :: (pt L ms l' (2 * at_.toNat)).1, (pt L ms l' (2 * at_.toNat)).2) := by
                  rw [hl']
                  simp only [pt]
                  rw [if_pos hm', if_neg hr]
                refine run_pa hmix ti_ok tbx_ok 999 false 400 [false, false, false] [10] [] (fun ar lf => by conv => lhs; cbv) (allP ?_) ?_
                · simp only [conj, and_true, Int.ofNat_eq_natCast, arR, rcmp_lss, rcmp_gtr, rcmp_geq, rcmp_eql, rcmp_neq, decide_eq_true_eq, decide_eq_false_iff_not, lrR, lqR, loR, lnR, lkR, ltR, lpR, lhR, f4, f5, f6, n1, n2, n3, hm, Int.toNat_natCast, List.length_append, List.length_cons, List.length_nil, maxLen, Bool.not_true]
                  rw [hlv] at hr
                  ((repeat' with_reducible apply And.intro) <;> first | omega | assumption | rfl | trivial)
                · refine Run.ret ti_ok rfl rfl ?_
                  have eB : lrR.cat bits (lrR.ptB L ms lev at_) = ((bits ++ [.bool true]) ++ (pt L ms l' (2 * at_.toNat)).1) := by
                    show bits ++ (pt L ms lev.toNat at_.toNat).1 = _
                    (rw [hpt]) <;> simp
                  have eI : lrR.cat ([] : List D) (lrR.ptI L ms lev at_) = (([] : List D) ++ (pt L ms l' (2 * at_.toNat)).2) := by
                    show ([] : List D) ++ (pt L ms lev.toNat at_.toNat).2 = _
                    (rw [hpt]) <;> simp
                  rw [eB, eI]
                  refine HEnd.pack [0, 2, 3] rfl rfl rfl ?_
                  simp only [Int.ofNat_eq_natCast, arR, lrR, lqR, loR, lnR, lkR, ltR, lpR, lhR, f4, f5, f6, n1, n2, n3, hm, Int.toNat_natCast]
                  rfl
        · cases hs
      · rename_i cnt bits ids L ms b c
        split at hs
        · rename_i lev at_ e1 e2
          simp only [List.map_cons, List.map_nil, List.cons.injEq, and_true, true_and] at hn
          obtain rfl := numA_int e1 hn.2.2.2.1
          obtain rfl := numA_int e2 hn.2.2.2.2
          cases hs
          obtain ⟨hl0, hln, ha0, hpi, hbl, hil⟩ : 0 ≤ lev ∧ lev < (n + 1 : Nat) ∧ 0 ≤ at_ ∧ posIn L ms lev.toNat at_.toNat ∧ bits.length + 2 ^ (lev.toNat + 1) ≤ 1048576 ∧ ids.length + 2 ^ (lev.toNat + 1) ≤ 1048576 := hp (lrR.posOk (n + 1) L ms lev at_ bits ids) (by simp)
          clear hp hn e1 e2
          obtain ⟨p1, p2, p3, p4, p5, p6, p7, p8, p9, p10⟩ := posIn_facts hpi
          simp only [List.length_cons, List.length_nil]
          have hone : 1 ≤ 2 ^ lev.toNat := Nat.one_le_two_pow
          have hle : at_.toNat ≤ at_.toNat * 2 ^ lev.toNat := Nat.le_mul_of_pos_right _ (Nat.two_pow_pos _)
          have hrow : D.row ((List.range 32).map fun j => ((L.getD lev.toNat (.int 0)).sl!.getD at_.toNat (.int 0)).row!.getD j 0) = lvAt L lev.toNat at_.toNat := hash_same p6
          by_cases hlev : lev = 0
          · have hpt : pt L ms lev.toNat at_.toNat = ([.bool (mnt ms lev.toNat at_.toNat)], [lvAt L lev.toNat at_.toNat]) := by
              rw [show lev.toNat = 0 by omega]; rfl
            cases hm : mnt ms lev.toNat at_.toNat with
            | false =>
              rw [hm] at hpt
              refine run_pa hmix ti_ok tbx_ok 999 false 400 [true] [10] [] (fun ar lf => by conv => lhs; cbv) (allP ?_) ?_
              · simp only [conj, and_true, Int.ofNat_eq_natCast, arR, rcmp_lss, rcmp_gtr, rcmp_geq, rcmp_eql, rcmp_neq, decide_eq_true_eq, decide_eq_false_iff_not, lrR, lqR, loR, lnR, lkR, ltR, lpR, lhR, Int.toNat_natCast, List.length_append, List.length_cons, List.length_nil, maxLen, hm, Bool.not_false]
                ((repeat' with_reducible apply And.intro) <;> first | omega | assumption | rfl | trivial)
              · refine Run.ret ti_ok rfl rfl ?_
                have eB : lrR.cat bits (lrR.ptB L ms lev at_) = bits ++ [.bool false] := by
                  show bits ++ (pt L ms lev.toNat at_.toNat).1 = _
                  rw [hpt]
                have eI : lrR.cat ids (lrR.ptI L ms lev at_) = ids ++ [lvAt L lev.toNat at_.toNat] := by
                  show ids ++ (pt L ms lev.toNat at_.toNat).2 = _
                  rw [hpt]
                rw [eB, eI]
                refine HEnd.pack [0, 1, 3, 4] rfl rfl rfl ?_
                simp only [Int.ofNat_eq_natCast, arR, lrR, lqR, loR, lnR, lkR, ltR, lpR, lhR, Int.toNat_natCast, hrow, hm, Bool.not_false]
                rfl
            | true =>
              rw [hm] at hpt
              refine run_pa hmix ti_ok tbx_ok 999 false 400 [false, true] [10] [] (fun ar lf => by conv => lhs; cbv) (allP ?_) ?_
              · simp only [conj, and_true, Int.ofNat_eq_natCast, arR, rcmp_lss, rcmp_gtr, rcmp_geq, rcmp_eql, rcmp_neq, decide_eq_true_eq, decide_eq_false_iff_not, lrR, lqR, loR, lnR, lkR, ltR, lpR, lhR, Int.toNat_natCast, List.length_append, List.length_cons, List.length_nil, maxLen, hm, Bool.not_true]
                ((repeat' with_reducible apply And.intro) <;> first | omega | assumption | rfl | trivial)
              · refine Run.ret ti_ok rfl rfl ?_
                have eB : lrR.cat bits (lrR.ptB L ms lev at_) = bits ++ [.bool true] := by
                  show bits ++ (pt L ms lev.toNat at_.toNat).1 = _
                  rw [hpt]
                have eI : lrR.cat ids (lrR.ptI L ms lev at_) = ids ++ [lvAt L lev.toNat at_.toNat] := by
                  show ids ++ (pt L ms lev.toNat at_.toNat).2 = _
                  rw [hpt]
                rw [eB, eI]
                refine HEnd.pack [0, 1, 3, 4] rfl rfl rfl ?_
                simp only [Int.ofNat_eq_natCast, arR, lrR, lqR, loR, lnR, lkR, ltR, lpR, lhR, Int.toNat_natCast, hrow, hm, Bool.not_true]
                rfl
          · obtain ⟨l', hl'⟩ : ∃ l' : Nat, lev.toNat = l' + 1 := ⟨lev.toNat - 1, by omega⟩
            cases hm : mnt ms lev.toNat at_.toNat with
            | false =>
              have hpt : pt L ms lev.toNat at_.toNat = ([.bool false], [lvAt L lev.toNat at_.toNat]) := by
                rw [hl']
                rw [hl'] at hm
                simp only [pt]
                rw [if_neg (by rw [hm]; simp)]
              refine run_pa hmix ti_ok tbx_ok 999 false 400 [true] [10] [] (fun ar lf => by conv => lhs; cbv) (allP ?_) ?_
              · simp only [conj, and_true, Int.ofNat_eq_natCast, arR, rcmp_lss, rcmp_gtr, rcmp_geq, rcmp_eql, rcmp_neq, decide_eq_true_eq, decide_eq_false_iff_not, lrR, lqR, loR, lnR, lkR, ltR, lpR, lhR, Int.toNat_natCast, List.length_append, List.length_cons, List.length_nil, maxLen, hm, Bool.not_false]
                ((repeat' with_reducible apply And.intro) <;> first | omega | assumption | rfl | trivial)
              · refine Run.ret ti_ok rfl rfl ?_
                have eB : lrR.cat bits (lrR.ptB L ms lev at_) = bits ++ [.bool false] := by
                  show bits ++ (pt L ms lev.toNat at_.toNat).1 = _
                  rw [hpt]
                have eI : lrR.cat ids (lrR.ptI L ms lev at_) = ids ++ [lvAt L lev.toNat at_.toNat] := by
                  show ids ++ (pt L ms lev.toNat at_.toNat).2 = _
                  rw [hpt]
                rw [eB, eI]
                refine HEnd.pack [0, 1, 3, 4] rfl rfl rfl ?_
                simp only [Int.ofNat_eq_natCast, arR, lrR, lqR, loR, lnR, lkR, ltR, lpR, lhR, Int.toNat_natCast, hrow, hm, Bool.not_false]
                rfl
            | true =>
              have f4 : rbin .sub .i64 lev 1 = lev - 1 := subi (by omega) (by omega)
              have f5 : rbin .mul .i64 2 at_ = 2 * at_ := muli (by omega) (by omega)
              have f6 : rbin .add .i64 (2 * at_) 1 = 2 * at_ + 1 := addi (by omega) (by omega)
              have n1 : (lev - 1).toNat = l' := by omega
              have n2 : (2 * at_).toNat = 2 * at_.toNat := by omega
              have n3 : (2 * at_ + 1).toNat = 2 * at_.toNat + 1 := by omega
              have hm' := hm
              have hpi' := hpi
              rw [hl'] at hm' hpi' hbl hil
              obtain ⟨q1, q2⟩ := posIn_left hpi'
              obtain ⟨-, -, -, -, -, -, -, -, q9, q10⟩ := posIn_facts q1
              have hpw : 2 ^ (l' + 1 + 1) = 2 ^ (l' + 1) + 2 ^ (l' + 1) := by rw [Nat.pow_succ]; omega
              have hpw1 : 1 ≤ 2 ^ (l' + 1) := Nat.one_le_two_pow
              have ln1 := pt_len L ms l' (2 * at_.toNat)
              have hlv : lvLen L l' = (L.getD l' (.int 0)).sl!.length := rfl
              by_cases hr : 2 * at_.toNat + 1 < lvLen L l'
              · have q3 := q2 hr
                have hpt : pt L ms lev.toNat at_.toNat = (.bool true :: ((pt L ms l' (2 * at_.toNat)).1 ++ (pt L ms l' (2 * at_.toNat + 1)).1), (pt L ms l' (2 * at_.toNat)).2 ++ (pt L ms l' (2 * at_.toNat + 1)).2) := by
                  rw [hl']
                  simp only [pt]
                  rw [if_pos hm', if_pos hr]
                refine run_pa hmix ti_ok tbx_ok 999 false 400 [false, false, true] [10] [] (fun ar lf => by conv => lhs; cbv) (allP ?_) ?_
                · simp only [conj, and_true, Int.ofNat_eq_natCast, arR, rcmp_lss, rcmp_gtr, rcmp_geq, rcmp_eql, rcmp_neq, decide_eq_true_eq, decide_eq_false_iff_not, lrR, lqR, loR, lnR, lkR, ltR, lpR, lhR, f4, f5, f6, n1, n2, n3, hm, Int.toNat_natCast, List.length_append, List.length_cons, List.length_nil, maxLen, Bool.not_true]
                  rw [hlv] at hr
                  ((repeat' with_reducible apply And.intro) <;> first | omega | assumption | rfl | trivial)
                · refine Run.ret ti_ok rfl rfl ?_
                  have eB : lrR.cat bits (lrR.ptB L ms lev at_) = ((bits ++ [.bool true]) ++ (pt L ms l' (2 * at_.toNat)).1) ++ (pt L ms l' (2 * at_.toNat + 1)).1 := by
                    show bits ++ (pt L ms lev.toNat at_.toNat).1 = _
                    (rw [hpt]) <;> simp
                  have eI : lrR.cat ids (lrR.ptI L ms lev at_) = (ids ++ (pt L ms l' (2 * at_.toNat)).2) ++ (pt L ms l' (2 * at_.toNat + 1)).2 := by
                    show ids ++ (pt L ms lev.toNat at_.toNat).2 = _
                    (rw [hpt]) <;> simp
                  rw [eB, eI]
                  refine HEnd.pack [0, 1, 3, 4] rfl rfl rfl ?_
                  simp only [Int.ofNat_eq_natCast, arR, lrR, lqR, loR, lnR, lkR, ltR, lpR, lhR, f4, f5, f6, n1, n2, n3, hm, Int.toNat_natCast]
                  rfl
              · have hpt : pt L ms lev.toNat at_.toNat = (.bool true :: (pt L ms l' (2 * at_.toNat)).1, (pt L ms l' (2 * at_.toNat)).2) := by
                  rw [hl']
                  simp only [pt]
                  rw [if_pos hm', if_neg hr]
                refine run_pa hmix ti_ok tbx_ok 999 false 400 [false, false, false] [10] [] (fun ar lf => by conv => lhs; cbv) (allP ?_) ?_
                · simp only [conj, and_true, Int.ofNat_eq_natCast, arR, rcmp_lss, rcmp_gtr, rcmp_geq, rcmp_eql, rcmp_neq, decide_eq_true_eq, decide_eq_false_iff_not, lrR, lqR, loR, lnR, lkR, ltR, lpR, lhR, f4, f5, f6, n1, n2, n3, hm, Int.toNat_natCast, List.length_append, List.length_cons, List.length_nil, maxLen, Bool.not_true]
                  rw [hlv] at hr
                  ((repeat' with_reducible apply And.intro) <;> first | omega | assumption | rfl | trivial)
                · refine Run.ret ti_ok rfl rfl ?_
                  have eB : lrR.cat bits (lrR.ptB L ms lev at_) = ((bits ++ [.bool true]) ++ (pt L ms l' (2 * at_.toNat)).1) := by
                    show bits ++ (pt L ms lev.toNat at_.toNat).1 = _
                    (rw [hpt]) <;> simp
                  have eI : lrR.cat ids (lrR.ptI L ms lev at_) = (ids ++ (pt L ms l' (2 * at_.toNat)).2) := by
                    show ids ++ (pt L ms lev.toNat at_.toNat).2 = _
                    (rw [hpt]) <;> simp
                  rw [eB, eI]
                  refine HEnd.pack [0, 1, 3, 4] rfl rfl rfl ?_
                  simp only [Int.ofNat_eq_natCast, arR, lrR, lqR, loR, lnR, lkR, ltR, lpR, lhR, f4, f5, f6, n1, n2, n3, hm, Int.toNat_natCast]
                  rfl
        · cases hs
      · cases hs
    · cases hs
end Go.Proofs.Ytlbllaocdilafaa
