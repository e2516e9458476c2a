import Derived.Test.YtlbllaocdilafaaNa
set_option linter.unusedSimpArgs false
set_option linter.unusedVariables false
namespace Go.Eng
open Go
def A.nrmG : A → A
  | .one c => .one c.norm
  | .agg (.lst cs) => .agg (.lst (cs.map C.norm))
  | .agg g => .agg g
theorem C.norm_norm (c : C) : c.norm.norm = c.norm := by cases c <;> rfl
theorem A.nrmG_nrmG (x : A) : x.nrmG.nrmG = x.nrmG := by
  cases x with
  | one c => cases c <;> rfl
  | agg g =>
    cases g with
    | lst cs => simp only [A.nrmG, List.map_map]; congr 2; exact List.map_congr_left fun c _ => C.norm_norm c
    | _ => rfl
theorem A.nrmG_rel {ρ : Ren} {x : A} {v : Value} (h : ARel ρ x v) : ARel ρ x.nrmG v := by
  cases x with
  | one c => exact C.norm_rel h
  | agg g =>
    cases g with
    | lst cs =>
      obtain ⟨arr, rfl, g2, g3⟩ := h
      refine ⟨arr, rfl, by rw [g2]; simp [G.len], fun q x hx => ?_⟩
      simp only [G.at, List.getElem?_map, Option.map_eq_some_iff] at hx
      obtain ⟨c, hc, rfl⟩ := hx
      obtain ⟨v, a1, a2⟩ := g3 q c hc
      exact ⟨v, a1, C.norm_rel a2⟩
    | _ => exact h
open Classical in
theorem HOk.nrmG {P : Program} {f : FuncId} {s : HSpec} (hs : ∀ l bs r, s l bs = some r → s (l.map A.nrmG) bs = some r) (h : HOk P f (fun l bs => if l.map A.nrmG = l then s l bs else none)) : HOk P f s := by
  unfold HOk at h ⊢
  intro las lbs v lbs' ps hl hp
  have e : (las.map A.nrmG).map A.nrmG = las.map A.nrmG := by
    rw [List.map_map]; exact List.map_congr_left (fun x _ => A.nrmG_nrmG x)
  have h2 := h (las.map A.nrmG) lbs v lbs' ps (by simp only [if_pos e]; exact hs las lbs _ hl) hp
  intro ρ args w ha
  refine h2 ρ args w ⟨by rw [ha.1]; simp, fun j x hx => ?_⟩
  simp only [List.getElem?_map, Option.map_eq_some_iff] at hx
  obtain ⟨y, hy, rfl⟩ := hx
  obtain ⟨u, h1, h2⟩ := ha.2 j y hy
  exact ⟨u, h1, A.nrmG_rel h2⟩
def boolC : C → Option Bool
  | .bool b => some b
  | .lbool b => some b
  | _ => none
theorem boolC_norm {c : C} {b : Bool} (h : boolC c = some b) : boolC c.norm = some b := by
  cases c <;> first | exact h | cases h
theorem boolC_bool {c : C} {b : Bool} (h : boolC c = some b) (hn : c.norm = c) : c = .bool b := by
  cases c <;> first | (cases h; rfl) | (cases h; done) | (cases hn; done)
theorem numC_norm {k : IntKind} {c : C} {n : Int} (h : numA k (.one c) = some n) : numA k (.one c.norm) = some n := numA_norm h
theorem numC_int {k : IntKind} {c : C} {n : Int} (h : numA k (.one c) = some n) (hn : c.norm = c) : c = .int k n := by
  have := numA_int (a := .one c) h (by show A.one c.norm = _; rw [hn])
  injection this
theorem eqF_iff (f g : Fn8) : eqF f g = true ↔ ∀ j, j < 32 → f j = g j := by
  unfold eqF
  simp [List.map_inj_left]

theorem numG_norm {k : IntKind} {a : A} {n : Int} (h : numA k a = some n) : numA k a.nrmG = some n := by
  cases a with
  | one c => exact numA_norm h
  | agg g => cases h
theorem numG_int {k : IntKind} {a : A} {n : Int} (h : numA k a = some n) (hn : a.nrmG = a) : a = .one (.int k n) := by
  cases a with
  | one c => exact numA_int h hn
  | agg g => cases h
end Go.Eng
namespace Go.Proofs.Ytlbllaocdilafaa
open Go Go.Eng Go.Proofs Go.RowKit
attribute [local irreducible] CallOk HOk Run TIok rbin rcmp run1 updF shfF blitF
def hRR (n : Nat) (lf : LU) : HSpec := fun l bs => match l, bs with
  | [.agg (.lst [cn, .dat .bool bits none, .dat (.arr .u8 32) ids none, cb, ci, .nsl, .nsl, cd]), b', c'], [] => match numA .i64 (.one cn), numA .i64 (.one cb), numA .i64 (.one ci), boolC cd, numA .i64 b', numA .i64 c' with
    | some cnt, some b, some i, some bad, some lev, some at_ => some (.tup [.agg (.lst [.int .i64 cnt, .dat .bool bits none, .dat (.arr .u8 32) ids none, .int .i64 (lf.rr bits ids cnt lev at_ b i [] [] bad).1.b, .int .i64 (lf.rr bits ids cnt lev at_ b i [] [] bad).1.i, .dat (.int .i64) (lf.rr bits ids cnt lev at_ b i [] [] bad).1.pl none, .dat (.arr .u8 32) (lf.rr bits ids cnt lev at_ b i [] [] bad).1.me none, .bool (lf.rr bits ids cnt lev at_ b i [] [] bad).1.bad]), aF .u8 32 (lf.rr bits ids cnt lev at_ b i [] [] bad).2], [], [lf.rrOk n bits ids cnt lev at_ b i [] []])
    | _, _, _, _, _, _ => none
  | [.agg (.lst [cn, .dat .bool bits none, .dat (.arr .u8 32) ids none, cb, ci, .dat (.int .i64) pl (some 0), .dat (.arr .u8 32) me (some 1), cd]), b', c'], [⟨false, .tail⟩, ⟨false, .tail⟩] => match numA .i64 (.one cn), numA .i64 (.one cb), numA .i64 (.one ci), boolC cd, numA .i64 b', numA .i64 c' with
    | some cnt, some b, some i, some bad, some lev, some at_ => some (.tup [.agg (.lst [.int .i64 cnt, .dat .bool bits none, .dat (.arr .u8 32) ids none, .int .i64 (lf.rr bits ids cnt lev at_ b i pl me bad).1.b, .int .i64 (lf.rr bits ids cnt lev at_ b i pl me bad).1.i, .dat (.int .i64) (lf.rr bits ids cnt lev at_ b i pl me bad).1.pl (some 2), .dat (.arr .u8 32) (lf.rr bits ids cnt lev at_ b i pl me bad).1.me (some 3), .bool (lf.rr bits ids cnt lev at_ b i pl me bad).1.bad]), aF .u8 32 (lf.rr bits ids cnt lev at_ b i pl me bad).2], [⟨true, .dead⟩, ⟨true, .dead⟩, ⟨false, .tail⟩, ⟨false, .tail⟩], [lf.rrOk n bits ids cnt lev at_ b i pl me])
    | _, _, _, _, _, _ => none
  | _, _ => none
theorem hRR_norm (n : Nat) (lf : LU) : ∀ l bs r, hRR n lf l bs = some r → hRR n lf (l.map A.nrmG) bs = some r := by
  intro l bs r h
  unfold hRR at h ⊢
  split at h
  all_goals first
    | (cases h; done)
    | skip
  all_goals
    split at h
    · rename_i h1 h2 h3 h4 h5 h6
      simp only [List.map_cons, List.map_nil, show ∀ cs, A.nrmG (.agg (.lst cs)) = .agg (.lst (cs.map C.norm)) from fun _ => rfl, show ∀ s xs t, C.norm (.dat s xs t) = .dat s xs t from fun _ _ _ => rfl, show C.norm .nsl = .nsl from rfl, numC_norm h1, numC_norm h2, numC_norm h3, boolC_norm h4, numG_norm h5, numG_norm h6]
      exact h
    · cases h
def tbb (n : Nat) (lf : LU) : Tbl := tbL [(22, sPair lf.toLK), (87, sWid lf)] [(57, hRR n lf)]
set_option maxRecDepth 100000 in
set_option maxHeartbeats 4000000 in
theorem rread_ok (n : Nat) : HOk Try.prog 57 (hRR n luR) := by
  induction n with
  | zero =>
    refine .of_run (hc := (tbn luR).hc) Try.func57 rfl (by kernel_rfl) (by kernel_rfl) fun las lbs v lbs' ps hs hp w => ?_
    unfold hRR at hs
    split at hs
    all_goals first
      | (cases hs; done)
      | skip
    all_goals
      split at hs
      · cases hs
        have := hp _ (List.mem_singleton.2 rfl)
        exact absurd this.2.1 (by have := this.1; omega)
      · cases hs
  | succ n ihn =>
    have tbb_ok : TblOk Try.prog (tbb n luR) := tbL_ok (List.forall_mem_cons.2 ⟨rpair_ok, List.forall_mem_cons.2 ⟨wid_ok, nofun⟩⟩) (List.forall_mem_cons.2 ⟨ihn, nofun⟩)
    refine .nrmG (hRR_norm _ _) ?_
    refine .of_run (hc := (tbb n luR).hc) Try.func57 rfl (by kernel_rfl) (by kernel_rfl) fun las lbs v lbs' ps hs hp w => ?_
    split at hs
    · rename_i hn
      unfold hRR at hs
      split at hs
      · rename_i cn bits ids cb ci cd b' c'
        split at hs
        · rename_i cnt b i bad lev at_ e1 e2 e3 e4 e5 e6
          simp only [List.map_cons, List.map_nil, List.cons.injEq, and_true, true_and, A.nrmG, A.agg.injEq, G.lst.injEq, C.norm] at hn
          obtain ⟨⟨n1, n2, n3, n4⟩, n5, n6⟩ := hn
          obtain rfl := numC_int e1 n1
          obtain rfl := numC_int e2 n2
          obtain rfl := numC_int e3 n3
          obtain rfl := boolC_bool e4 n4
          obtain rfl := numG_int e5 n5
          obtain rfl := numG_int e6 n6
          clear n1 n2 n3 n4 n5 n6
          cases hs
          obtain ⟨hl0, hln, hl40, ha0, ha1, hb0, hi0, hbl, hil, hc0, hc1, hpl, hml⟩ : 0 ≤ lev ∧ lev < (n + 1 : Nat) ∧ lev ≤ 40 ∧ 0 ≤ at_ ∧ at_.toNat + 1 ≤ 2 ^ (40 - lev.toNat) ∧ 0 ≤ b ∧ 0 ≤ i ∧ bits.length ≤ 9223372036854775807 ∧ ids.length ≤ 9223372036854775807 ∧ 0 ≤ cnt ∧ cnt ≤ 65536 ∧ ([] : List D).length + 2 ^ (lev.toNat + 1) ≤ 1099511627776 ∧ ([] : List D).length + 2 ^ (lev.toNat + 1) ≤ 1099511627776 := hp (luR.rrOk (n + 1) bits ids cnt lev at_ b i ([] : List D) ([] : List D)) (by simp)
          clear hp e1 e2 e3 e4 e5 e6
          have h40 : 2 ^ (40 - lev.toNat) ≤ 1099511627776 := Nat.le_trans (Nat.pow_le_pow_right (by decide) (by omega : 40 - lev.toNat ≤ 40)) (by decide)
          have hone : 1 ≤ 2 ^ (lev.toNat + 1) := Nat.one_le_two_pow
          simp only [List.length_cons, List.length_nil]
          have hrd : ∀ bad, luR.rr bits ids cnt lev at_ b i ([] : List D) ([] : List D) bad = rdR bits ids cnt.toNat lev.toNat at_ ⟨b, i, ([] : List D), ([] : List D), bad⟩ := fun _ => rfl
          have f1 : 0 = 0 := rfl
          refine Run.roomAgg 0 5 (.int .i64) rfl rfl (Nat.zero_le _) ?_
          refine Run.roomAgg 0 6 (.arr .u8 32) rfl rfl (Nat.zero_le _) ?_
          by_cases hbad : bad = true ∨ (bits.length : Int) ≤ b
          · have eR : luR.rr bits ids cnt lev at_ b i ([] : List D) ([] : List D) bad = (⟨b, i, ([] : List D), ([] : List D), true⟩, fun _ => 0) := by
              rw [hrd]
              cases lev.toNat <;> (unfold rdR; rw [if_pos hbad])
            rw [eR]
            cases bad with
            | true =>
              refine run_pa hmix ti_ok tbb_ok 999 false 400 [true] [6, 7] [] (fun ar lf => by conv => lhs; cbv) (allP ?_) ?_
              · simp only [conj, and_true, Int.ofNat_eq_natCast, arR, rcmp_lss, rcmp_gtr, rcmp_geq, rcmp_eql, rcmp_neq, decide_eq_true_eq, decide_eq_false_iff_not]
              · refine Run.ret ti_ok rfl rfl (HEnd.pack ([] : List Nat) rfl rfl ?_ ?_) <;>
                  (simp only [Int.ofNat_eq_natCast, arR, f1]; rfl)
            | false =>
              have hb2 := hbad.resolve_left (by simp)
              refine run_pa hmix ti_ok tbb_ok 999 false 400 [false, true] [6, 7] [] (fun ar lf => by conv => lhs; cbv) (allP ?_) ?_
              · simp only [conj, and_true, Int.ofNat_eq_natCast, arR, rcmp_lss, rcmp_gtr, rcmp_geq, rcmp_eql, rcmp_neq, decide_eq_true_eq, decide_eq_false_iff_not]
                ((repeat' with_reducible apply And.intro) <;> first | omega | assumption | rfl | trivial)
              · refine Run.ret ti_ok rfl rfl (HEnd.pack ([] : List Nat) rfl rfl ?_ ?_) <;>
                  (simp only [Int.ofNat_eq_natCast, arR, f1]; rfl)
          · obtain ⟨hb1, hb2⟩ := not_or.1 hbad
            have hb1 : bad = false := by simpa using hb1
            subst hb1
            clear f1
            have f1 : rbin .add .i64 b 1 = b + 1 := addi (by omega) (by omega)
            cases hm : (bits.getD b.toNat (.int 0)).bool! with
            | false =>
              have eR : luR.rr bits ids cnt lev at_ b i ([] : List D) ([] : List D) false = leafR ids at_ false ⟨b + 1, i, ([] : List D), ([] : List D), false⟩ := by
                rw [hrd]
                cases lev.toNat with
                | zero => unfold rdR; rw [if_neg hbad, hm]
                | succ l => unfold rdR; rw [if_neg hbad, if_neg (by rw [hm]; simp)]
              by_cases hli : (ids.length : Int) ≤ i
              · have eL : leafR ids at_ false ⟨b + 1, i, ([] : List D), ([] : List D), false⟩ = (⟨b + 1, i, ([] : List D), ([] : List D), true⟩, fun _ => 0) := if_pos hli
                rw [eR, eL]
                refine run_pa hmix ti_ok tbb_ok 999 false 400 [false, false, true, true] [6, 7] [] (fun ar lf => by conv => lhs; cbv) (allP ?_) ?_
                · simp only [conj, and_true, Int.ofNat_eq_natCast, arR, rcmp_lss, rcmp_gtr, rcmp_geq, rcmp_eql, rcmp_neq, decide_eq_true_eq, decide_eq_false_iff_not, luR, lsR', lrR, lqR, loR, lnR, lkR, ltR, lpR, lhR, f1, hm, Bool.not_false, Bool.not_true, List.length_cons, List.length_nil, maxLen]
                  ((repeat' with_reducible apply And.intro) <;> first | omega | assumption | rfl | trivial)
                · refine Run.ret ti_ok rfl rfl (HEnd.pack ([] : List Nat) rfl rfl ?_ ?_) <;>
                    (simp only [Int.ofNat_eq_natCast, arR, f1]; rfl)
              · have eL : leafR ids at_ false ⟨b + 1, i, ([] : List D), ([] : List D), false⟩ = (⟨b + 1, i + 1, ([] : List D), ([] : List D), false⟩, arR.dRow (ids.getD i.toNat (.int 0))) := (if_neg hli).trans (if_neg hli)
                rw [eR, eL]
                have f2 : rbin .add .i64 i 1 = i + 1 := addi (by omega) (by omega)
                refine run_pa hmix ti_ok tbb_ok 999 false 400 [false, false, true, false, false] [6, 7] [] (fun ar lf => by conv => lhs; cbv) (allP ?_) ?_
                · simp only [conj, and_true, Int.ofNat_eq_natCast, arR, rcmp_lss, rcmp_gtr, rcmp_geq, rcmp_eql, rcmp_neq, decide_eq_true_eq, decide_eq_false_iff_not, luR, lsR', lrR, lqR, loR, lnR, lkR, ltR, lpR, lhR, f1, hm, Bool.not_false, Bool.not_true, List.length_cons, List.length_nil, maxLen]
                  ((repeat' with_reducible apply And.intro) <;> first | omega | assumption | rfl | trivial)
                · refine Run.ret ti_ok rfl rfl (HEnd.pack ([] : List Nat) rfl rfl ?_ ?_) <;>
                    (simp only [Int.ofNat_eq_natCast, arR, f1, f2]; rfl)
            | true =>
              by_cases hlev : lev = 0
              · have eR : luR.rr bits ids cnt lev at_ b i ([] : List D) ([] : List D) false = leafR ids at_ true ⟨b + 1, i, ([] : List D), ([] : List D), false⟩ := by
                  rw [hrd, show lev.toNat = 0 by omega]
                  unfold rdR; rw [if_neg hbad, hm]
                by_cases hli : (ids.length : Int) ≤ i
                · have eL : leafR ids at_ true ⟨b + 1, i, ([] : List D), ([] : List D), false⟩ = (⟨b + 1, i, ([] : List D), ([] : List D), true⟩, fun _ => 0) := if_pos hli
                  rw [eR, eL]
                  refine run_pa hmix ti_ok tbb_ok 999 false 400 [false, false, false, true, true] [6, 7] [] (fun ar lf => by conv => lhs; cbv) (allP ?_) ?_
                  · simp only [conj, and_true, Int.ofNat_eq_natCast, arR, rcmp_lss, rcmp_gtr, rcmp_geq, rcmp_eql, rcmp_neq, decide_eq_true_eq, decide_eq_false_iff_not, luR, lsR', lrR, lqR, loR, lnR, lkR, ltR, lpR, lhR, f1, hm, Bool.not_false, Bool.not_true, List.length_cons, List.length_nil, maxLen]
                    ((repeat' with_reducible apply And.intro) <;> first | omega | assumption | rfl | trivial)
                  · refine Run.ret ti_ok rfl rfl (HEnd.pack ([] : List Nat) rfl rfl ?_ ?_) <;>
                      (simp only [Int.ofNat_eq_natCast, arR, f1]; rfl)
                · have eL : leafR ids at_ true ⟨b + 1, i, ([] : List D), ([] : List D), false⟩ = (⟨b + 1, i + 1, ([] : List D) ++ [.int at_], ([] : List D) ++ [rowD (arR.dRow (ids.getD i.toNat (.int 0)))], false⟩, arR.dRow (ids.getD i.toNat (.int 0))) := (if_neg hli).trans (if_neg hli)
                  rw [eR, eL]
                  have f2 : rbin .add .i64 i 1 = i + 1 := addi (by omega) (by omega)
                  refine run_pa hmix ti_ok tbb_ok 999 false 400 [false, false, false, true, false, true] [6, 7] [] (fun ar lf => by conv => lhs; cbv) (allP ?_) ?_
                  · simp only [conj, and_true, Int.ofNat_eq_natCast, arR, rcmp_lss, rcmp_gtr, rcmp_geq, rcmp_eql, rcmp_neq, decide_eq_true_eq, decide_eq_false_iff_not, luR, lsR', lrR, lqR, loR, lnR, lkR, ltR, lpR, lhR, f1, hm, Bool.not_false, Bool.not_true, List.length_cons, List.length_nil, maxLen]
                    ((repeat' with_reducible apply And.intro) <;> first | omega | assumption | rfl | trivial)
                  · refine Run.ret ti_ok rfl rfl (HEnd.pack ([] : List Nat) rfl rfl ?_ ?_) <;>
                      (simp only [Int.ofNat_eq_natCast, arR, f1, f2]; rfl)
              · obtain ⟨l', hl'⟩ : ∃ l' : Nat, lev.toNat = l' + 1 := ⟨lev.toNat - 1, by omega⟩
                have f4 : rbin .sub .i64 lev 1 = lev - 1 := subi (by omega) (by omega)
                have f5 : rbin .mul .i64 2 at_ = 2 * at_ := muli (by omega) (by omega)
                have f6 : rbin .add .i64 (2 * at_) 1 = 2 * at_ + 1 := addi (by omega) (by omega)
                have n1 : (lev - 1).toNat = l' := by omega
                have hpw : 2 ^ (l' + 1 + 1) = 2 ^ (l' + 1) + 2 ^ (l' + 1) := by rw [Nat.pow_succ]; omega
                have hpw0 : 2 ^ (l' + 1) = 2 ^ l' + 2 ^ l' := by rw [Nat.pow_succ]; omega
                have hpw1 : 1 ≤ 2 ^ l' := Nat.one_le_two_pow
                have hpa : 2 ^ (40 - l') = 2 ^ (40 - (l' + 1)) + 2 ^ (40 - (l' + 1)) := by
                  rw [show 40 - l' = (40 - (l' + 1)) + 1 by omega, Nat.pow_succ]; omega
                rw [hl'] at hpl hml ha1
                obtain ⟨x1, x2, x3, x4⟩ := rdR_facts bits ids cnt.toNat l' (2 * at_) ⟨b + 1, i, ([] : List D), ([] : List D), false⟩
                simp only at x1 x2 x3 x4
                have eX : luR.rr bits ids cnt (lev - 1) (2 * at_) (b + 1) i ([] : List D) ([] : List D) false = rdR bits ids cnt.toNat l' (2 * at_) ⟨b + 1, i, ([] : List D), ([] : List D), false⟩ := by
                  show rdR bits ids cnt.toNat (lev - 1).toNat _ _ = _
                  rw [n1]
                have eR0 : luR.rr bits ids cnt lev at_ b i ([] : List D) ([] : List D) false = rdR bits ids cnt.toNat (l' + 1) at_ ⟨b, i, ([] : List D), ([] : List D), false⟩ := by
                  rw [hrd, hl']
                generalize hX : rdR bits ids cnt.toNat l' (2 * at_) ⟨b + 1, i, ([] : List D), ([] : List D), false⟩ = x at *
                obtain ⟨⟨xb, xi, xpl, xme, xbad⟩, xh⟩ := x
                simp only at x1 x2 x3 x4 eX
                by_cases hr : (wid cnt.toNat l' : Int) ≤ 2 * at_ + 1
                · have eR : luR.rr bits ids cnt lev at_ b i ([] : List D) ([] : List D) false = (⟨xb, xi, xpl, xme, xbad⟩, prF xh xh) := by
                    rw [eR0]
                    unfold rdR
                    rw [if_neg hbad, if_pos hm]
                    simp only
                    rw [hX, if_pos hr]
                  rw [eR]
                  refine run_pa hmix ti_ok tbb_ok 999 false 400 [false, false, false, false, true] [6, 7] [] (fun ar lf => by conv => lhs; cbv) (allP ?_) ?_
                  · simp only [conj, and_true, Int.ofNat_eq_natCast, arR, rcmp_lss, rcmp_gtr, rcmp_geq, rcmp_eql, rcmp_neq, decide_eq_true_eq, decide_eq_false_iff_not, luR, lsR', lrR, lqR, loR, lnR, lkR, ltR, lpR, lhR, f1, f4, f5, f6, n1, hm, hX, Int.toNat_natCast, List.length_append, List.length_cons, List.length_nil, maxLen, Bool.not_true]
                    ((repeat' with_reducible apply And.intro) <;> first | omega | assumption | rfl | trivial)
                  · refine Run.ret ti_ok rfl rfl (HEnd.pack ([] : List Nat) rfl rfl ?_ ?_) <;>
                      (simp only [Int.ofNat_eq_natCast, arR, f1, f4, f5, f6, eX]; rfl)
                · obtain ⟨y1, y2, y3, y4⟩ := rdR_facts bits ids cnt.toNat l' (2 * at_ + 1) ⟨xb, xi, xpl, xme, xbad⟩
                  have eY : luR.rr bits ids cnt (lev - 1) (2 * at_ + 1) xb xi xpl xme xbad = rdR bits ids cnt.toNat l' (2 * at_ + 1) ⟨xb, xi, xpl, xme, xbad⟩ := by
                    show rdR bits ids cnt.toNat (lev - 1).toNat _ _ = _
                    rw [n1]
                  generalize hY : rdR bits ids cnt.toNat l' (2 * at_ + 1) ⟨xb, xi, xpl, xme, xbad⟩ = y at *
                  obtain ⟨⟨yb, yi, ypl, yme, ybad⟩, yh⟩ := y
                  simp only at y1 y2 y3 y4 eY
                  have eR : luR.rr bits ids cnt lev at_ b i ([] : List D) ([] : List D) false = (⟨yb, yi, ypl, yme, ybad || eqF xh yh⟩, prF xh yh) := by
                    rw [eR0]
                    unfold rdR
                    rw [if_neg hbad, if_pos hm]
                    simp only
                    rw [hX, if_neg hr, hY]
                  rw [eR]
                  cases hq : eqF xh yh with
                  | true =>
                    refine run_pa hmix ti_ok tbb_ok 999 false 400 [false, false, false, false, false, true] [6, 7] [] (fun ar lf => by conv => lhs; cbv) (allP ?_) ?_
                    · simp only [conj, and_true, Int.ofNat_eq_natCast, arR, rcmp_lss, rcmp_gtr, rcmp_geq, rcmp_eql, rcmp_neq, decide_eq_true_eq, decide_eq_false_iff_not, luR, lsR', lrR, lqR, loR, lnR, lkR, ltR, lpR, lhR, f1, f4, f5, f6, n1, hm, hX, hY, Int.toNat_natCast, List.length_append, List.length_cons, List.length_nil, maxLen, Bool.not_true]
                      ((repeat' with_reducible apply And.intro) <;> first | omega | assumption | rfl | trivial)
                    · refine Run.ret ti_ok rfl rfl (HEnd.pack ([] : List Nat) rfl rfl ?_ ?_) <;>
                        (simp only [Int.ofNat_eq_natCast, arR, f1, f4, f5, f6, eX, eY, Bool.or_true]; rfl)
                  | false =>
                    refine run_pa hmix ti_ok tbb_ok 999 false 400 [false, false, false, false, false, false] [6, 7] [] (fun ar lf => by conv => lhs; cbv) (allP ?_) ?_
                    · simp only [conj, and_true, Int.ofNat_eq_natCast, arR, rcmp_lss, rcmp_gtr, rcmp_geq, rcmp_eql, rcmp_neq, decide_eq_true_eq, decide_eq_false_iff_not, luR, lsR', lrR, lqR, loR, lnR, lkR, ltR, lpR, lhR, f1, f4, f5, f6, n1, hm, hX, hY, Int.toNat_natCast, List.length_append, List.length_cons, List.length_nil, maxLen, Bool.not_true]
                      ((repeat' with_reducible apply And.intro) <;> first | omega | assumption | rfl | trivial)
                    · refine Run.ret ti_ok rfl rfl (HEnd.pack ([] : List Nat) rfl rfl ?_ ?_) <;>
                        (simp only [Int.ofNat_eq_natCast, arR, f1, f4, f5, f6, eX, eY, Bool.or_false]; rfl)
        · cases hs
      · rename_i cn bits ids cb ci pl me cd b' c'
        split at hs
        · rename_i cnt b i bad lev at_ e1 e2 e3 e4 e5 e6
          simp only [List.map_cons, List.map_nil, List.cons.injEq, and_true, true_and, A.nrmG, A.agg.injEq, G.lst.injEq, C.norm] at hn
          obtain ⟨⟨n1, n2, n3, n4⟩, n5, n6⟩ := hn
          obtain rfl := numC_int e1 n1
          obtain rfl := numC_int e2 n2
          obtain rfl := numC_int e3 n3
          obtain rfl := boolC_bool e4 n4
          obtain rfl := numG_int e5 n5
          obtain rfl := numG_int e6 n6
          clear n1 n2 n3 n4 n5 n6
          cases hs
          obtain ⟨hl0, hln, hl40, ha0, ha1, hb0, hi0, hbl, hil, hc0, hc1, hpl, hml⟩ : 0 ≤ lev ∧ lev < (n + 1 : Nat) ∧ lev ≤ 40 ∧ 0 ≤ at_ ∧ at_.toNat + 1 ≤ 2 ^ (40 - lev.toNat) ∧ 0 ≤ b ∧ 0 ≤ i ∧ bits.length ≤ 9223372036854775807 ∧ ids.length ≤ 9223372036854775807 ∧ 0 ≤ cnt ∧ cnt ≤ 65536 ∧ pl.length + 2 ^ (lev.toNat + 1) ≤ 1099511627776 ∧ me.length + 2 ^ (lev.toNat + 1) ≤ 1099511627776 := hp (luR.rrOk (n + 1) bits ids cnt lev at_ b i pl me) (by simp)
          clear hp e1 e2 e3 e4 e5 e6
          have h40 : 2 ^ (40 - lev.toNat) ≤ 1099511627776 := Nat.le_trans (Nat.pow_le_pow_right (by decide) (by omega : 40 - lev.toNat ≤ 40)) (by decide)
          have hone : 1 ≤ 2 ^ (lev.toNat + 1) := Nat.one_le_two_pow
          simp only [List.length_cons, List.length_nil]
          have hrd : ∀ bad, luR.rr bits ids cnt lev at_ b i pl me bad = rdR bits ids cnt.toNat lev.toNat at_ ⟨b, i, pl, me, bad⟩ := fun _ => rfl
          have f1 : 0 = 0 := rfl
          by_cases hbad : bad = true ∨ (bits.length : Int) ≤ b
          · have eR : luR.rr bits ids cnt lev at_ b i pl me bad = (⟨b, i, pl, me, true⟩, fun _ => 0) := by
              rw [hrd]
              cases lev.toNat <;> (unfold rdR; rw [if_pos hbad])
            rw [eR]
            cases bad with
            | true =>
              refine run_pa hmix ti_ok tbb_ok 999 false 400 [true] [6, 7] [] (fun ar lf => by conv => lhs; cbv) (allP ?_) ?_
              · simp only [conj, and_true, Int.ofNat_eq_natCast, arR, rcmp_lss, rcmp_gtr, rcmp_geq, rcmp_eql, rcmp_neq, decide_eq_true_eq, decide_eq_false_iff_not]
              · refine Run.retail 0 rfl (Nat.le_of_ble_eq_true rfl) ?_
                refine Run.retail 1 rfl (Nat.le_of_ble_eq_true rfl) ?_
                refine Run.ret ti_ok rfl rfl (HEnd.pack [0, 1, 4, 5] rfl rfl ?_ ?_) <;>
                  (simp only [Int.ofNat_eq_natCast, arR, f1]; rfl)
            | false =>
              have hb2 := hbad.resolve_left (by simp)
              refine run_pa hmix ti_ok tbb_ok 999 false 400 [false, true] [6, 7] [] (fun ar lf => by conv => lhs; cbv) (allP ?_) ?_
              · simp only [conj, and_true, Int.ofNat_eq_natCast, arR, rcmp_lss, rcmp_gtr, rcmp_geq, rcmp_eql, rcmp_neq, decide_eq_true_eq, decide_eq_false_iff_not]
                ((repeat' with_reducible apply And.intro) <;> first | omega | assumption | rfl | trivial)
              · refine Run.retail 0 rfl (Nat.le_of_ble_eq_true rfl) ?_
                refine Run.retail 1 rfl (Nat.le_of_ble_eq_true rfl) ?_
                refine Run.ret ti_ok rfl rfl (HEnd.pack [0, 1, 4, 5] rfl rfl ?_ ?_) <;>
                  (simp only [Int.ofNat_eq_natCast, arR, f1]; rfl)
          · obtain ⟨hb1, hb2⟩ := not_or.1 hbad
            have hb1 : bad = false := by simpa using hb1
            subst hb1
            clear f1
            have f1 : rbin .add .i64 b 1 = b + 1 := addi (by omega) (by omega)
            cases hm : (bits.getD b.toNat (.int 0)).bool! with
            | false =>
              have eR : luR.rr bits ids cnt lev at_ b i pl me false = leafR ids at_ false ⟨b + 1, i, pl, me, false⟩ := by
                rw [hrd]
                cases lev.toNat with
                | zero => unfold rdR; rw [if_neg hbad, hm]
                | succ l => unfold rdR; rw [if_neg hbad, if_neg (by rw [hm]; simp)]
              by_cases hli : (ids.length : Int) ≤ i
              · have eL : leafR ids at_ false ⟨b + 1, i, pl, me, false⟩ = (⟨b + 1, i, pl, me, true⟩, fun _ => 0) := if_pos hli
                rw [eR, eL]
                refine run_pa hmix ti_ok tbb_ok 999 false 400 [false, false, true, true] [6, 7] [] (fun ar lf => by conv => lhs; cbv) (allP ?_) ?_
                · simp only [conj, and_true, Int.ofNat_eq_natCast, arR, rcmp_lss, rcmp_gtr, rcmp_geq, rcmp_eql, rcmp_neq, decide_eq_true_eq, decide_eq_false_iff_not, luR, lsR', lrR, lqR, loR, lnR, lkR, ltR, lpR, lhR, f1, hm, Bool.not_false, Bool.not_true, List.length_cons, List.length_nil, maxLen]
                  ((repeat' with_reducible apply And.intro) <;> first | omega | assumption | rfl | trivial)
                · refine Run.retail 0 rfl (Nat.le_of_ble_eq_true rfl) ?_
                  refine Run.retail 1 rfl (Nat.le_of_ble_eq_true rfl) ?_
                  refine Run.ret ti_ok rfl rfl (HEnd.pack [0, 1, 4, 5] rfl rfl ?_ ?_) <;>
                    (simp only [Int.ofNat_eq_natCast, arR, f1]; rfl)
              · have eL : leafR ids at_ false ⟨b + 1, i, pl, me, false⟩ = (⟨b + 1, i + 1, pl, me, false⟩, arR.dRow (ids.getD i.toNat (.int 0))) := (if_neg hli).trans (if_neg hli)
                rw [eR, eL]
                have f2 : rbin .add .i64 i 1 = i + 1 := addi (by omega) (by omega)
                refine run_pa hmix ti_ok tbb_ok 999 false 400 [false, false, true, false, false] [6, 7] [] (fun ar lf => by conv => lhs; cbv) (allP ?_) ?_
                · simp only [conj, and_true, Int.ofNat_eq_natCast, arR, rcmp_lss, rcmp_gtr, rcmp_geq, rcmp_eql, rcmp_neq, decide_eq_true_eq, decide_eq_false_iff_not, luR, lsR', lrR, lqR, loR, lnR, lkR, ltR, lpR, lhR, f1, hm, Bool.not_false, Bool.not_true, List.length_cons, List.length_nil, maxLen]
                  ((repeat' with_reducible apply And.intro) <;> first | omega | assumption | rfl | trivial)
                · refine Run.retail 0 rfl (Nat.le_of_ble_eq_true rfl) ?_
                  refine Run.retail 1 rfl (Nat.le_of_ble_eq_true rfl) ?_
                  refine Run.ret ti_ok rfl rfl (HEnd.pack [0, 1, 4, 5] rfl rfl ?_ ?_) <;>
                    (simp only [Int.ofNat_eq_natCast, arR, f1, f2]; rfl)
            | true =>
              by_cases hlev : lev = 0
              · have eR : luR.rr bits ids cnt lev at_ b i pl me false = leafR ids at_ true ⟨b + 1, i, pl, me, false⟩ := by
                  rw [hrd, show lev.toNat = 0 by omega]
                  unfold rdR; rw [if_neg hbad, hm]
                by_cases hli : (ids.length : Int) ≤ i
                · have eL : leafR ids at_ true ⟨b + 1, i, pl, me, false⟩ = (⟨b + 1, i, pl, me, true⟩, fun _ => 0) := if_pos hli
                  rw [eR, eL]
                  refine run_pa hmix ti_ok tbb_ok 999 false 400 [false, false, false, true, true] [6, 7] [] (fun ar lf => by conv => lhs; cbv) (allP ?_) ?_
                  · simp only [conj, and_true, Int.ofNat_eq_natCast, arR, rcmp_lss, rcmp_gtr, rcmp_geq, rcmp_eql, rcmp_neq, decide_eq_true_eq, decide_eq_false_iff_not, luR, lsR', lrR, lqR, loR, lnR, lkR, ltR, lpR, lhR, f1, hm, Bool.not_false, Bool.not_true, List.length_cons, List.length_nil, maxLen]
                    ((repeat' with_reducible apply And.intro) <;> first | omega | assumption | rfl | trivial)
                  · refine Run.retail 0 rfl (Nat.le_of_ble_eq_true rfl) ?_
                    refine Run.retail 1 rfl (Nat.le_of_ble_eq_true rfl) ?_
                    refine Run.ret ti_ok rfl rfl (HEnd.pack [0, 1, 4, 5] rfl rfl ?_ ?_) <;>
                      (simp only [Int.ofNat_eq_natCast, arR, f1]; rfl)
                · have eL : leafR ids at_ true ⟨b + 1, i, pl, me, false⟩ = (⟨b + 1, i + 1, pl ++ [.int at_], me ++ [rowD (arR.dRow (ids.getD i.toNat (.int 0)))], false⟩, arR.dRow (ids.getD i.toNat (.int 0))) := (if_neg hli).trans (if_neg hli)
                  rw [eR, eL]
                  have f2 : rbin .add .i64 i 1 = i + 1 := addi (by omega) (by omega)
                  refine run_pa hmix ti_ok tbb_ok 999 false 400 [false, false, false, true, false, true] [6, 7] [] (fun ar lf => by conv => lhs; cbv) (allP ?_) ?_
                  · simp only [conj, and_true, Int.ofNat_eq_natCast, arR, rcmp_lss, rcmp_gtr, rcmp_geq, rcmp_eql, rcmp_neq, decide_eq_true_eq, decide_eq_false_iff_not, luR, lsR', lrR, lqR, loR, lnR, lkR, ltR, lpR, lhR, f1, hm, Bool.not_false, Bool.not_true, List.length_cons, List.length_nil, maxLen]
                    ((repeat' with_reducible apply And.intro) <;> first | omega | assumption | rfl | trivial)
                  · refine Run.ret ti_ok rfl rfl (HEnd.pack [0, 1, 4, 5] rfl rfl ?_ ?_) <;>
                      (simp only [Int.ofNat_eq_natCast, arR, f1, f2]; rfl)
              · obtain ⟨l', hl'⟩ : ∃ l' : Nat, lev.toNat = l' + 1 := ⟨lev.toNat - 1, by omega⟩
                have f4 : rbin .sub .i64 lev 1 = lev - 1 := subi (by omega) (by omega)
                have f5 : rbin .mul .i64 2 at_ = 2 * at_ := muli (by omega) (by omega)
                have f6 : rbin .add .i64 (2 * at_) 1 = 2 * at_ + 1 := addi (by omega) (by omega)
                have n1 : (lev - 1).toNat = l' := by omega
                have hpw : 2 ^ (l' + 1 + 1) = 2 ^ (l' + 1) + 2 ^ (l' + 1) := by rw [Nat.pow_succ]; omega
                have hpw0 : 2 ^ (l' + 1) = 2 ^ l' + 2 ^ l' := by rw [Nat.pow_succ]; omega
                have hpw1 : 1 ≤ 2 ^ l' := Nat.one_le_two_pow
                have hpa : 2 ^ (40 - l') = 2 ^ (40 - (l' + 1)) + 2 ^ (40 - (l' + 1)) := by
                  rw [show 40 - l' = (40 - (l' + 1)) + 1 by omega, Nat.pow_succ]; omega
                rw [hl'] at hpl hml ha1
                obtain ⟨x1, x2, x3, x4⟩ := rdR_facts bits ids cnt.toNat l' (2 * at_) ⟨b + 1, i, pl, me, false⟩
                simp only at x1 x2 x3 x4
                have eX : luR.rr bits ids cnt (lev - 1) (2 * at_) (b + 1) i pl me false = rdR bits ids cnt.toNat l' (2 * at_) ⟨b + 1, i, pl, me, false⟩ := by
                  show rdR bits ids cnt.toNat (lev - 1).toNat _ _ = _
                  rw [n1]
                have eR0 : luR.rr bits ids cnt lev at_ b i pl me false = rdR bits ids cnt.toNat (l' + 1) at_ ⟨b, i, pl, me, false⟩ := by
                  rw [hrd, hl']
                generalize hX : rdR bits ids cnt.toNat l' (2 * at_) ⟨b + 1, i, pl, me, false⟩ = x at *
                obtain ⟨⟨xb, xi, xpl, xme, xbad⟩, xh⟩ := x
                simp only at x1 x2 x3 x4 eX
                by_cases hr : (wid cnt.toNat l' : Int) ≤ 2 * at_ + 1
                · have eR : luR.rr bits ids cnt lev at_ b i pl me false = (⟨xb, xi, xpl, xme, xbad⟩, prF xh xh) := by
                    rw [eR0]
                    unfold rdR
                    rw [if_neg hbad, if_pos hm]
                    simp only
                    rw [hX, if_pos hr]
                  rw [eR]
                  refine run_pa hmix ti_ok tbb_ok 999 false 400 [false, false, false, false, true] [6, 7] [] (fun ar lf => by conv => lhs; cbv) (allP ?_) ?_
                  · simp only [conj, and_true, Int.ofNat_eq_natCast, arR, rcmp_lss, rcmp_gtr, rcmp_geq, rcmp_eql, rcmp_neq, decide_eq_true_eq, decide_eq_false_iff_not, luR, lsR', lrR, lqR, loR, lnR, lkR, ltR, lpR, lhR, f1, f4, f5, f6, n1, hm, hX, Int.toNat_natCast, List.length_append, List.length_cons, List.length_nil, maxLen, Bool.not_true]
                    ((repeat' with_reducible apply And.intro) <;> first | omega | assumption | rfl | trivial)
                  · refine Run.ret ti_ok rfl rfl (HEnd.pack [0, 1, 4, 5] rfl rfl ?_ ?_) <;>
                      (simp only [Int.ofNat_eq_natCast, arR, f1, f4, f5, f6, eX]; rfl)
                · obtain ⟨y1, y2, y3, y4⟩ := rdR_facts bits ids cnt.toNat l' (2 * at_ + 1) ⟨xb, xi, xpl, xme, xbad⟩
                  have eY : luR.rr bits ids cnt (lev - 1) (2 * at_ + 1) xb xi xpl xme xbad = rdR bits ids cnt.toNat l' (2 * at_ + 1) ⟨xb, xi, xpl, xme, xbad⟩ := by
                    show rdR bits ids cnt.toNat (lev - 1).toNat _ _ = _
                    rw [n1]
                  generalize hY : rdR bits ids cnt.toNat l' (2 * at_ + 1) ⟨xb, xi, xpl, xme, xbad⟩ = y at *
                  obtain ⟨⟨yb, yi, ypl, yme, ybad⟩, yh⟩ := y
                  simp only at y1 y2 y3 y4 eY
                  have eR : luR.rr bits ids cnt lev at_ b i pl me false = (⟨yb, yi, ypl, yme, ybad || eqF xh yh⟩, prF xh yh) := by
                    rw [eR0]
                    unfold rdR
                    rw [if_neg hbad, if_pos hm]
                    simp only
                    rw [hX, if_neg hr, hY]
                  rw [eR]
                  cases hq : eqF xh yh with
                  | true =>
                    refine run_pa hmix ti_ok tbb_ok 999 false 400 [false, false, false, false, false, true] [6, 7] [] (fun ar lf => by conv => lhs; cbv) (allP ?_) ?_
                    · simp only [conj, and_true, Int.ofNat_eq_natCast, arR, rcmp_lss, rcmp_gtr, rcmp_geq, rcmp_eql, rcmp_neq, decide_eq_true_eq, decide_eq_false_iff_not, luR, lsR', lrR, lqR, loR, lnR, lkR, ltR, lpR, lhR, f1, f4, f5, f6, n1, hm, hX, hY, Int.toNat_natCast, List.length_append, List.length_cons, List.length_nil, maxLen, Bool.not_true]
                      ((repeat' with_reducible apply And.intro) <;> first | omega | assumption | rfl | trivial)
                    · refine Run.ret ti_ok rfl rfl (HEnd.pack [0, 1, 4, 5] rfl rfl ?_ ?_) <;>
                        (simp only [Int.ofNat_eq_natCast, arR, f1, f4, f5, f6, eX, eY, Bool.or_true]; rfl)
                  | false =>
                    refine run_pa hmix ti_ok tbb_ok 999 false 400 [false, false, false, false, false, false] [6, 7] [] (fun ar lf => by conv => lhs; cbv) (allP ?_) ?_
                    · simp only [conj, and_true, Int.ofNat_eq_natCast, arR, rcmp_lss, rcmp_gtr, rcmp_geq, rcmp_eql, rcmp_neq, decide_eq_true_eq, decide_eq_false_iff_not, luR, lsR', lrR, lqR, loR, lnR, lkR, ltR, lpR, lhR, f1, f4, f5, f6, n1, hm, hX, hY, Int.toNat_natCast, List.length_append, List.length_cons, List.length_nil, maxLen, Bool.not_true]
                      ((repeat' with_reducible apply And.intro) <;> first | omega | assumption | rfl | trivial)
                    · refine Run.ret ti_ok rfl rfl (HEnd.pack [0, 1, 4, 5] rfl rfl ?_ ?_) <;>
                        (simp only [Int.ofNat_eq_natCast, arR, f1, f4, f5, f6, eX, eY, Bool.or_false]; rfl)
        · cases hs
      · cases hs
    · cases hs
end Go.Proofs.Ytlbllaocdilafaa
