import Derived.Test.YtlbllaocdilafaaMl
set_option linter.unusedSimpArgs false
set_option linter.unusedVariables false
namespace Go.Eng
open Go
def dep (n : Nat) : Nat := if h : 1 < n then dep (n / 2 + n % 2) + 1 else 0
  termination_by n
  decreasing_by omega
def oddN (xs : List D) (n size : Nat) : List D := if h : 1 < n then (if n % 2 = 1 then xs ++ xs.drop (xs.length - size) else oddN xs (n / 2) (2 * size)) else xs
  termination_by n
  decreasing_by omega
def oddD (xs : List D) : List D := oddN xs xs.length 1
def lastI (n s : Int) : Int := if n % s = 0 then s else n % s
def sameD (xs ys : List D) : Bool := (xs.length == ys.length) && (List.range xs.length).all fun i => eqD (xs.getD i (.int 0)) (ys.getD i (.int 0))
theorem quo_pos {x y : Int} (h0 : 0 ≤ x) (h1 : x < 9223372036854775808) (hy : 0 < y) : rbin .quo .i64 x y = x / y := by
  show IntKind.i64.wrap (x.tdiv y) = _
  rw [Int.tdiv_eq_ediv_of_nonneg h0]
  have h2 : 0 ≤ x / y := Int.ediv_nonneg h0 (by omega)
  have h3 : x / y ≤ x := Int.ediv_le_self _ h0
  exact wrap_i64 (by omega) (by omega)
structure LN extends LK where
  dep : Int → Int
  odd : List D → List D
  last : Int → Int → Int
  same : List D → List D → Bool
  few : List D → List D
  int64 : Int → Prop
  lastOk : Int → Int → Prop
  hs : List D → Prop
def lnR : LN where
  toLK := lkR
  dep n := (dep n.toNat : Nat)
  odd := oddD
  last := lastI
  same := sameD
  few xs := xs.take 300
  int64 n := -9223372036854775808 ≤ n ∧ n < 9223372036854775808
  hs xs := ∀ d ∈ xs, isHash d
  lastOk n s := 0 ≤ n ∧ n < 9223372036854775808 ∧ 0 < s ∧ s < 9223372036854775808
end Go.Eng
namespace Go.Proofs.Ytlbllaocdilafaa
open Go Go.Eng Go.Proofs Go.RowKit
attribute [local irreducible] CallOk HOk Run TIok rbin rcmp run1 updF shfF blitF
def sNext (lf : LK) : ESpec := fun l => match l with
  | [.one (.dat (.arr .u8 32) xs none)] => some (.tup [.one (.dat (.arr .u8 32) (lf.abv xs) none), .one (.bool (lf.adj xs))], [lf.hl xs])
  | _ => none
theorem next_ok : CallOk Try.prog 23 (sNext lkR) := by
  refine .of_run (hc := (tbm1 lkR).hc) Try.func23 rfl (by kernel_rfl) (by kernel_rfl) fun xs v ps hs hp w => ?_
  unfold sNext at hs
  split at hs
  · rename_i xs
    cases hs
    have hx : HL xs := hp (lkR.hl xs) (by simp)
    clear hp
    have hlen := hx.1
    refine run_pa hmix ti_ok tbm1_ok 0 false 400 [] [0, 4, 5, 6] [5, 6] (fun ar lf => by conv => lhs; cbv) (allP ?_) ?_
    · trivial
    refine Run.loop (ι := {p : Int × Bool × List D // (0 ≤ p.1 ∧ p.1 ≤ xs.length + 1) ∧ (p.2.1 || adj (xs.drop p.1.toNat)) = adj xs ∧ p.2.2 ++ abv (xs.drop p.1.toNat) = abv xs})
      (fun i => ([.a (.one (.dat (.arr .u8 32) xs none)), .any, .any, .any, .a (.one (.dat (.arr .u8 32) i.1.2.2 (some 0))), .a (.one (.bool i.1.2.1)), .a (.one (.int .i64 i.1.1)), .any, .any, .any, .any, .any, .any, .any, .any, .any, .any, .any, .any, .any, .any, .any, .any, .any, .any, .any, .any, .any, .any, .any, .any, .any, .any, .any, .any, .any, .any, .any, .any, .any, .any, .any, .any, .any, .any, .any, .any, .any, .any, .any, .any, .any, .any, .any, .any, .any, .any, .any, .any], [some ⟨false, .tail⟩]))
      (fun i => (xs.length + 1 - i.1.1).toNat) ⟨(0, false, []), by simp only; omega, rfl, rfl⟩ ?_
    rintro ⟨⟨k, m, ys⟩, hk, hm, hys⟩ ih
    simp only at hk hm hys
    by_cases hlt : k < xs.length
    · have e1 : rbin .add .i64 k 1 = k + 1 := addi (by omega) (by omega)
      have e2 : rbin .add .i64 k 2 = k + 2 := addi (by omega) (by omega)
      have hyl : ys.length ≤ xs.length := by
        have h1 := congrArg List.length hys
        rw [List.length_append, abv_len xs] at h1
        omega
      have hms : ((xs.length : Int) + 1 - rbin .add .i64 k 2).toNat < ((xs.length : Int) + 1 - k).toNat := by rw [e2]; omega
      by_cases hend : k + 1 = xs.length
      · refine run_pa hmix ti_ok tbm1_ok 2 true 400 [true, true] [0, 4, 5, 6] [5, 6] (fun ar lf => by conv => lhs; cbv) (allP ?_) ?_
        · simp only [conj, and_true, Int.ofNat_eq_natCast, arR, rcmp_lss, rcmp_eql, decide_eq_true_eq, e1, List.length_cons, List.length_nil, maxLen]
          ((repeat' with_reducible apply And.intro) <;> first | omega | assumption | rfl | trivial)
        · refine ih ⟨(_, _, _), ?_⟩ hms _ _
          refine ⟨?_, ?_, ?_⟩
          · show 0 ≤ rbin .add .i64 k 2 ∧ rbin .add .i64 k 2 ≤ xs.length + 1
            rw [e2]; omega
          · show (m || adj (xs.drop (rbin .add .i64 k 2).toNat)) = adj xs
            rw [← hm, adj_end (i := k.toNat) (by omega), adj_end (by rw [e2]; omega)]
          · show (ys ++ [prD (xs.getD k.toNat (.int 0)) (xs.getD k.toNat (.int 0))]) ++ abv (xs.drop (rbin .add .i64 k 2).toNat) = abv xs
            rw [← hys, abv_drop (by omega : k.toNat < xs.length), e2, show (k + 2).toNat = k.toNat + 2 by omega, show min (k.toNat + 1) (xs.length - 1) = k.toNat by omega, List.append_assoc]
            rfl
      · have hd := adj_drop (l := xs) (i := k.toNat) (by omega)
        have hmin : min (k.toNat + 1) (xs.length - 1) = (k + 1).toNat := by omega
        have hy2 : (ys ++ [prD (xs.getD k.toNat (.int 0)) (xs.getD (rbin .add .i64 k 1).toNat (.int 0))]) ++ abv (xs.drop (rbin .add .i64 k 2).toNat) = abv xs := by
          rw [← hys, abv_drop (by omega : k.toNat < xs.length), e1, e2, show (k + 2).toNat = k.toNat + 2 by omega, hmin, List.append_assoc]
          rfl
        cases m with
        | true =>
          refine run_pa hmix ti_ok tbm1_ok 2 true 400 [true, false, true] [0, 4, 5, 6] [5, 6] (fun ar lf => by conv => lhs; cbv) (allP ?_) ?_
          · simp only [conj, and_true, Int.ofNat_eq_natCast, arR, rcmp_lss, rcmp_eql, decide_eq_true_eq, decide_eq_false_iff_not, e1, List.length_cons, List.length_nil, maxLen]
            ((repeat' with_reducible apply And.intro) <;> first | omega | assumption | rfl | trivial)
          · refine ih ⟨(_, _, _), ?_⟩ hms _ _
            refine ⟨?_, ?_, hy2⟩
            · show 0 ≤ rbin .add .i64 k 2 ∧ rbin .add .i64 k 2 ≤ xs.length + 1
              rw [e2]; omega
            · exact hm
        | false =>
          refine run_pa hmix ti_ok tbm1_ok 2 true 400 [true, false, false] [0, 4, 5, 6] [5, 6] (fun ar lf => by conv => lhs; cbv) (allP ?_) ?_
          · simp only [conj, and_true, Int.ofNat_eq_natCast, arR, rcmp_lss, rcmp_eql, decide_eq_true_eq, decide_eq_false_iff_not, e1, List.length_cons, List.length_nil, maxLen]
            ((repeat' with_reducible apply And.intro) <;> first | omega | assumption | rfl | trivial)
          · refine ih ⟨(_, _, _), ?_⟩ hms _ _
            refine ⟨?_, ?_, hy2⟩
            · show 0 ≤ rbin .add .i64 k 2 ∧ rbin .add .i64 k 2 ≤ xs.length + 1
              rw [e2]; omega
            · show (eqD (xs.getD k.toNat (.int 0)) (xs.getD (rbin .add .i64 k 1).toNat (.int 0)) || adj (xs.drop (rbin .add .i64 k 2).toNat)) = adj xs
              rw [← hm, hd, e1, e2, show (k + 1).toNat = k.toNat + 1 by omega, show (k + 2).toNat = k.toNat + 2 by omega]
              rfl
    · refine run_ex hmix ti_ok tbm1_ok 999 false 400 [false] (fun ar lf => by conv => lhs; cbv) (allP ?_) ?_
      · simp only [conj, and_true, Int.ofNat_eq_natCast, arR, rcmp_lss, decide_eq_false_iff_not]
        exact hlt
      · refine Run.ret ti_ok rfl rfl (.tup2 (.dat ?_) (.bool ?_))
        · rw [List.drop_of_length_le (by omega)] at hys
          exact (List.append_nil ys).symm.trans hys
        · rw [List.drop_of_length_le (by omega)] at hm
          exact (Bool.or_false m).symm.trans hm
  · cases hs
def tbm4 (lf : LK) : Tbl := tbL [(23, sNext lf)] []
theorem tbm4_ok : TblOk Try.prog (tbm4 lkR) := tbL_ok (List.forall_mem_cons.2 ⟨next_ok, nofun⟩) nofun
theorem rroot_ok : CallOk Try.prog 12 (sRoot lkR) := by
  refine .of_run (hc := (tbm4 lkR).hc) Try.func12 rfl (by kernel_rfl) (by kernel_rfl) fun xs v ps hs hp w => ?_
  unfold sRoot at hs
  split at hs
  · rename_i xs
    cases hs
    have hx : HL xs := hp (lkR.hl xs) (by simp)
    clear hp
    have hlen := hx.1
    by_cases h0 : xs.length = 0
    · refine run_ex hmix ti_ok tbm4_ok 999 false 400 [true] (fun ar lf => by conv => lhs; cbv) (allP ?_) ?_
      · simp only [conj, and_true, Int.ofNat_eq_natCast, arR, rcmp_eql, decide_eq_true_eq]
        omega
      · refine Run.ret ti_ok rfl rfl ?_
        refine .tup2 (.ints fun j hj => ?_) (.lbool ?_)
        · show _ = rootF xs j
          unfold rootF
          rw [if_pos h0]
        · show false = mutD xs
          rw [mutD, dif_neg (by omega)]
    · refine run_pa hmix ti_ok tbm4_ok 0 false 400 [false] [0, 2, 4] [4] (fun ar lf => by conv => lhs; cbv) (allP ?_) ?_
      · simp only [conj, and_true, Int.ofNat_eq_natCast, arR, rcmp_eql, decide_eq_false_iff_not]
        omega
      refine Run.loop (ι := {p : Bool × List D // HL p.2 ∧ 0 < p.2.length ∧ rtD p.2 = rtD xs ∧ (p.1 || mutD p.2) = mutD xs})
        (fun i => ([.a (.one (.dat (.arr .u8 32) i.1.2 none)), .any, .a (.one (.ptr 0 (.lit 0))), .any, .a (.one (.bool i.1.1)), .any, .any, .any, .any, .any, .any, .any, .any, .any, .any, .any, .any, .any, .any, .any, .any, .any, .any, .any, .any, .any, .any, .any], [some ⟨false, .ints .u8 (.lit 32) (fun _ => 0)⟩]))
        (fun i => i.1.2.length) ⟨(false, xs), hx, by simp only; omega, rfl, rfl⟩ ?_
      rintro ⟨⟨m, ys⟩, hy, hpos, hr, hm⟩ ih
      simp only at hy hpos hr hm
      have hyl := hy.1
      by_cases h1 : 1 < ys.length
      · rw [rtD, dif_pos h1] at hr
        rw [mutD, dif_pos h1] at hm
        cases m with
        | true =>
          refine run_pa hmix ti_ok tbm4_ok 2 true 400 [true, true] [0, 2, 4] [4] (fun ar lf => by conv => lhs; cbv) (allP ?_) ?_
          · simp only [conj, and_true, Int.ofNat_eq_natCast, arR, lkR, rcmp_gtr, decide_eq_true_eq]
            ((repeat' with_reducible apply And.intro) <;> first | omega | assumption | rfl | trivial)
          · refine ih ⟨(_, _), ?_⟩ ?_ _ _
            · refine ⟨abv_HL hy, ?_, hr, ?_⟩
              · show 0 < (abv ys).length
                rw [abv_len]; omega
              · exact hm
            · show (abv ys).length < ys.length
              rw [abv_len]; omega
        | false =>
          refine run_pa hmix ti_ok tbm4_ok 2 true 400 [true, false] [0, 2, 4] [4] (fun ar lf => by conv => lhs; cbv) (allP ?_) ?_
          · simp only [conj, and_true, Int.ofNat_eq_natCast, arR, lkR, rcmp_gtr, decide_eq_true_eq]
            ((repeat' with_reducible apply And.intro) <;> first | omega | assumption | rfl | trivial)
          · refine ih ⟨(_, _), ?_⟩ ?_ _ _
            · refine ⟨abv_HL hy, ?_, hr, ?_⟩
              · show 0 < (abv ys).length
                rw [abv_len]; omega
              · exact hm
            · show (abv ys).length < ys.length
              rw [abv_len]; omega
      · refine run_ex hmix ti_ok tbm4_ok 999 false 400 [false] (fun ar lf => by conv => lhs; cbv) (allP ?_) ?_
        · simp only [conj, and_true, Int.ofNat_eq_natCast, arR, rcmp_gtr, decide_eq_false_iff_not]
          omega
        · refine Run.ret ti_ok rfl rfl (.tup2 (.ints fun j hj => ?_) (.bool ?_))
          · show arR.dRow (ys.getD 0 (.int 0)) j = rootF xs j
            rw [rtD, dif_neg h1] at hr
            unfold rootF
            rw [if_neg h0, hr]
          · show m = mutD xs
            rw [mutD, dif_neg h1] at hm
            rw [← hm]; exact (Bool.or_false m).symm
  · cases hs
def sDepth (lf : LN) : ESpec := fun l => match l with
  | [a] => match numA .i64 a with
    | some n => some (.a (.one (.int .i64 (lf.dep n))), [lf.int64 n])
    | none => none
  | _ => none
theorem sDepth_norm : ∀ l r, sDepth lnR l = some r → sDepth lnR (l.map A.norm) = some r := by
  intro l r h
  unfold sDepth at h ⊢
  split at h
  · rename_i a
    split at h
    · rename_i n h1
      simp only [List.map_cons, List.map_nil, numA_norm h1]; exact h
    · cases h
  · cases h
def tbn0 (lf : LN) : Tbl := tbL [] []
theorem tbn0_ok : TblOk Try.prog (tbn0 lnR) := tbL_ok nofun nofun

theorem depth_ok : CallOk Try.prog 15 (sDepth lnR) := by
  refine .nrm sDepth_norm ?_
  refine .of_run (hc := (tbn0 lnR).hc) Try.func15 rfl (by kernel_rfl) (by kernel_rfl) fun xs v ps hs hp w => ?_
  split at hs
  · rename_i hn
    unfold sDepth at hs
    split at hs
    · rename_i a
      split at hs
      · rename_i n e1
        simp only [List.map_cons, List.map_nil, List.cons.injEq, and_true] at hn
        obtain rfl := numA_int e1 hn
        cases hs
        have hi : -9223372036854775808 ≤ n ∧ n < 9223372036854775808 := hp (lnR.int64 n) (by simp)
        clear hp
        refine run_pa hmix ti_ok tbn0_ok 0 false 400 [] [0, 3] [0, 3] (fun ar lf => by conv => lhs; cbv) (allP ?_) ?_
        · trivial
        refine Run.loop (ι := {p : Int × Int // (-9223372036854775808 ≤ p.1 ∧ p.1 < 9223372036854775808) ∧ (0 ≤ p.2 ∧ (0 < p.2 → 1 ≤ p.1 ∧ p.2 + p.1 < 9223372036854775808)) ∧ p.2 + (dep p.1.toNat : Nat) = (dep n.toNat : Nat)})
          (fun i => ([.a (.one (.int .i64 i.1.1)), .any, .any, .a (.one (.int .i64 i.1.2)), .any, .any, .any, .any, .any, .any, .any, .any, .any, .any], []))
          (fun i => i.1.1.toNat) ⟨(n, 0), by simp only; omega⟩ ?_
        rintro ⟨⟨m, d⟩, hm, hd, hdep⟩ ih
        simp only at hm hd hdep
        by_cases hlt : 1 < m
        · have e1 : rbin .quo .i64 m 2 = m / 2 := quo_pos (by omega) (by omega) (by decide)
          have e2 : rbin .rem .i64 m 2 = m % 2 := rem_pos (by omega)
          have e3 : rbin .add .i64 (m / 2) (m % 2) = m / 2 + m % 2 := addi (by omega) (by omega)
          have e4 : rbin .add .i64 d 1 = d + 1 := addi (by omega) (by omega)
          refine run_pa hmix ti_ok tbn0_ok 2 true 400 [true] [0, 3] [0, 3] (fun ar lf => by conv => lhs; cbv) (allP ?_) ?_
          · simp only [conj, and_true, Int.ofNat_eq_natCast, arR, rcmp_gtr, decide_eq_true_eq]
            omega
          · refine ih ⟨(_, _), ?_⟩ ?_ _ _
            · simp only [arR, e1, e2, e3, e4]
              refine ⟨by omega, by omega, ?_⟩
              rw [dep.eq_def m.toNat, dif_pos (by omega)] at hdep
              rw [show (m / 2 + m % 2).toNat = m.toNat / 2 + m.toNat % 2 by omega]
              omega
            · show (rbin .add .i64 (rbin .quo .i64 m 2) (rbin .rem .i64 m 2)).toNat < m.toNat
              rw [e1, e2, e3]; omega
        · refine run_ex hmix ti_ok tbn0_ok 999 false 400 [false] (fun ar lf => by conv => lhs; cbv) (allP ?_) ?_
          · simp only [conj, and_true, Int.ofNat_eq_natCast, arR, rcmp_gtr, decide_eq_false_iff_not]
            omega
          · refine Run.ret ti_ok rfl rfl (.a (.int ?_))
            show d = (dep n.toNat : Nat)
            rw [dep, dif_neg (by omega)] at hdep
            omega
      · cases hs
    · cases hs
  · cases hs

theorem rdepth_ok : CallOk Try.prog 16 (sDepth lnR) := by
  refine .nrm sDepth_norm ?_
  refine .of_run (hc := (tbn0 lnR).hc) Try.func16 rfl (by kernel_rfl) (by kernel_rfl) fun xs v ps hs hp w => ?_
  split at hs
  · rename_i hn
    unfold sDepth at hs
    split at hs
    · rename_i a
      split at hs
      · rename_i n e1
        simp only [List.map_cons, List.map_nil, List.cons.injEq, and_true] at hn
        obtain rfl := numA_int e1 hn
        cases hs
        have hi : -9223372036854775808 ≤ n ∧ n < 9223372036854775808 := hp (lnR.int64 n) (by simp)
        clear hp
        refine run_pa hmix ti_ok tbn0_ok 0 false 400 [] [0, 3] [0, 3] (fun ar lf => by conv => lhs; cbv) (allP ?_) ?_
        · trivial
        refine Run.loop (ι := {p : Int × Int // (-9223372036854775808 ≤ p.1 ∧ p.1 < 9223372036854775808) ∧ (0 ≤ p.2 ∧ (0 < p.2 → 1 ≤ p.1 ∧ p.2 + p.1 < 9223372036854775808)) ∧ p.2 + (dep p.1.toNat : Nat) = (dep n.toNat : Nat)})
          (fun i => ([.a (.one (.int .i64 i.1.1)), .any, .any, .a (.one (.int .i64 i.1.2)), .any, .any, .any, .any, .any, .any, .any, .any, .any, .any], []))
          (fun i => i.1.1.toNat) ⟨(n, 0), by simp only; omega⟩ ?_
        rintro ⟨⟨m, d⟩, hm, hd, hdep⟩ ih
        simp only at hm hd hdep
        by_cases hlt : 1 < m
        · have e1 : rbin .quo .i64 m 2 = m / 2 := quo_pos (by omega) (by omega) (by decide)
          have e2 : rbin .rem .i64 m 2 = m % 2 := rem_pos (by omega)
          have e3 : rbin .add .i64 (m / 2) (m % 2) = m / 2 + m % 2 := addi (by omega) (by omega)
          have e4 : rbin .add .i64 d 1 = d + 1 := addi (by omega) (by omega)
          refine run_pa hmix ti_ok tbn0_ok 2 true 400 [true] [0, 3] [0, 3] (fun ar lf => by conv => lhs; cbv) (allP ?_) ?_
          · simp only [conj, and_true, Int.ofNat_eq_natCast, arR, rcmp_gtr, decide_eq_true_eq]
            omega
          · refine ih ⟨(_, _), ?_⟩ ?_ _ _
            · simp only [arR, e1, e2, e3, e4]
              refine ⟨by omega, by omega, ?_⟩
              rw [dep.eq_def m.toNat, dif_pos (by omega)] at hdep
              rw [show (m / 2 + m % 2).toNat = m.toNat / 2 + m.toNat % 2 by omega]
              omega
            · show (rbin .add .i64 (rbin .quo .i64 m 2) (rbin .rem .i64 m 2)).toNat < m.toNat
              rw [e1, e2, e3]; omega
        · refine run_ex hmix ti_ok tbn0_ok 999 false 400 [false] (fun ar lf => by conv => lhs; cbv) (allP ?_) ?_
          · simp only [conj, and_true, Int.ofNat_eq_natCast, arR, rcmp_gtr, decide_eq_false_iff_not]
            omega
          · refine Run.ret ti_ok rfl rfl (.a (.int ?_))
            show d = (dep n.toNat : Nat)
            rw [dep, dif_neg (by omega)] at hdep
            omega
      · cases hs
    · cases hs
  · cases hs

def sLast (lf : LN) : ESpec := fun l => match l with
  | [.one (.int .i64 n), .one (.int .i64 s)] => some (.a (.one (.int .i64 (lf.last n s))), [lf.lastOk n s])
  | _ => none
theorem last_ok : CallOk Try.prog 49 (sLast lnR) := by
  refine .of_run (hc := (tbn0 lnR).hc) Try.func49 rfl (by kernel_rfl) (by kernel_rfl) fun xs v ps hs hp w => ?_
  unfold sLast at hs
  split at hs
  · rename_i n s
    cases hs
    have h : 0 ≤ n ∧ n < 9223372036854775808 ∧ 0 < s ∧ s < 9223372036854775808 := hp (lnR.lastOk n s) (by simp)
    clear hp
    have e : rbin .rem .i64 n s = n % s := rem_pos h.1
    by_cases h0 : n % s = 0
    · refine run_ex hmix ti_ok tbn0_ok 999 false 400 [false] (fun ar lf => by conv => lhs; cbv) (allP ?_) ?_
      · simp only [conj, and_true, Int.ofNat_eq_natCast, arR, rcmp_neq, decide_eq_false_iff_not, e]
        omega
      · refine Run.ret ti_ok rfl rfl (.a (.int ?_))
        show s = lastI n s
        unfold lastI
        rw [if_pos h0]
    · refine run_ex hmix ti_ok tbn0_ok 999 false 400 [true] (fun ar lf => by conv => lhs; cbv) (allP ?_) ?_
      · simp only [conj, and_true, Int.ofNat_eq_natCast, arR, rcmp_neq, decide_eq_true_eq, e]
        omega
      · refine Run.ret ti_ok rfl rfl (.a (.int ?_))
        show rbin .rem .i64 n s = lastI n s
        unfold lastI
        rw [if_neg h0, e]
  · cases hs
def sFew (lf : LN) : ESpec := fun l => match l with
  | [.one (.dat (.arr .u8 32) xs none)] => some (.a (.one (.dat (.arr .u8 32) (lf.few xs) none)), [])
  | _ => none
theorem few_ok : CallOk Try.prog 10 (sFew lnR) := by
  refine .of_run (hc := (tbn0 lnR).hc) Try.func10 rfl (by kernel_rfl) (by kernel_rfl) fun xs v ps hs hp w => ?_
  unfold sFew at hs
  split at hs
  · rename_i xs
    cases hs
    clear hp
    by_cases h0 : 300 < xs.length
    · refine run_ex hmix ti_ok tbn0_ok 999 false 400 [true] (fun ar lf => by conv => lhs; cbv) (allP ?_) ?_
      · simp only [conj, and_true, Int.ofNat_eq_natCast, arR, rcmp_gtr, decide_eq_true_eq]
        omega
      · exact Run.ret ti_ok rfl rfl (.a (.dat rfl))
    · refine run_ex hmix ti_ok tbn0_ok 999 false 400 [false] (fun ar lf => by conv => lhs; cbv) (allP ?_) ?_
      · simp only [conj, and_true, Int.ofNat_eq_natCast, arR, rcmp_gtr, decide_eq_false_iff_not]
        omega
      · refine Run.ret ti_ok rfl rfl (.a (.dat ?_))
        exact (List.take_of_length_le (by omega)).symm
  · cases hs
def sSame (lf : LN) : ESpec := fun l => match l with
  | [.one (.dat (.arr .u8 32) xs none), .one (.dat (.arr .u8 32) ys none)] => some (.a (.one (.bool (lf.same xs ys))), [lf.hl xs])
  | _ => none
theorem same_ok : CallOk Try.prog 17 (sSame lnR) := by
  refine .of_run (hc := (tbn0 lnR).hc) Try.func17 rfl (by kernel_rfl) (by kernel_rfl) fun xs v ps hs hp w => ?_
  unfold sSame at hs
  split at hs
  · rename_i xs ys
    cases hs
    have hx : HL xs := hp (lnR.hl xs) (by simp)
    clear hp
    have hlen := hx.1
    by_cases h0 : xs.length = ys.length
    · refine run_pa hmix ti_ok tbn0_ok 0 false 400 [false] [0, 1, 12, 13] [13] (fun ar lf => by conv => lhs; cbv) (allP ?_) ?_
      · simp only [conj, and_true, Int.ofNat_eq_natCast, arR, rcmp_neq, decide_eq_false_iff_not]
        omega
      refine Run.loop (ι := {p : Int × Int // (0 ≤ p.1 ∧ p.1 ≤ xs.length) ∧ (∀ i : Nat, (i : Int) < p.1 → eqD (xs.getD i (.int 0)) (ys.getD i (.int 0)) = true) ∧ p.2 = xs.length})
        (fun i => ([.a (.one (.dat (.arr .u8 32) xs none)), .a (.one (.dat (.arr .u8 32) ys none)), .any, .any, .any, .any, .any, .any, .any, .any, .any, .any, .a (.one (.int .i64 i.1.2)), .a (.one (.int .i64 i.1.1)), .any, .any, .any, .any, .any, .any, .any, .any, .any, .any, .any, .any], []))
        (fun i => (xs.length - i.1.1).toNat) ⟨(0, xs.length), by simp only; omega, fun i hi => by simp only at hi; omega, rfl⟩ ?_
      rintro ⟨⟨k, n⟩, hk, he, hn⟩ ih
      simp only at hk he hn
      have e1 : rbin .add .i64 k 1 = k + 1 := addi (by omega) (by omega)
      by_cases hlt : k < xs.length
      · by_cases heq : eqD (xs.getD k.toNat (.int 0)) (ys.getD k.toNat (.int 0)) = true
        · refine run_pa hmix ti_ok tbn0_ok 2 true 400 [true, false] [0, 1, 12, 13] [13] (fun ar lf => by conv => lhs; cbv) (allP ?_) ?_
          · have hb : (!(eqD (xs.getD k.toNat (.int 0)) (ys.getD k.toNat (.int 0)))) = false := by rw [heq]; rfl
            simp only [conj, and_true, Int.ofNat_eq_natCast, arR, rcmp_lss, decide_eq_true_eq, hn]
            ((repeat' with_reducible apply And.intro) <;> first | omega | assumption | rfl | trivial)
          · refine ih ⟨(_, _), ?_⟩ ?_ _ _
            · refine ⟨?_, fun i hi => ?_, hn⟩
              · show 0 ≤ rbin .add .i64 k 1 ∧ rbin .add .i64 k 1 ≤ xs.length
                rw [e1]; omega
              · have hi : (i : Int) < rbin .add .i64 k 1 := hi
                rw [e1] at hi
                by_cases hik : (i : Int) < k
                · exact he i hik
                · rw [show i = k.toNat by omega]; exact heq
            · show ((xs.length : Int) - rbin .add .i64 k 1).toNat < ((xs.length : Int) - k).toNat
              rw [e1]; omega
        · refine run_ex hmix ti_ok tbn0_ok 999 false 400 [true, true] (fun ar lf => by conv => lhs; cbv) (allP ?_) ?_
          · have hb : (!(eqD (xs.getD k.toNat (.int 0)) (ys.getD k.toNat (.int 0)))) = true := by
              rw [Bool.eq_false_iff.2 heq]; rfl
            simp only [conj, and_true, Int.ofNat_eq_natCast, arR, rcmp_lss, decide_eq_true_eq, hn]
            ((repeat' with_reducible apply And.intro) <;> first | omega | assumption | rfl | trivial)
          · refine Run.ret ti_ok rfl rfl (.a (.lbool ?_))
            show false = sameD xs ys
            unfold sameD
            rw [h0]
            simp only [BEq.rfl, Bool.true_and]
            symm
            rw [Bool.eq_false_iff]
            intro hc
            rw [List.all_eq_true] at hc
            exact heq (hc k.toNat (List.mem_range.2 (by omega)))
      · refine run_ex hmix ti_ok tbn0_ok 999 false 400 [false] (fun ar lf => by conv => lhs; cbv) (allP ?_) ?_
        · simp only [conj, and_true, Int.ofNat_eq_natCast, arR, rcmp_lss, decide_eq_false_iff_not]
          omega
        · refine Run.ret ti_ok rfl rfl (.a (.lbool ?_))
          show true = sameD xs ys
          unfold sameD
          symm
          rw [Bool.and_eq_true]
          refine ⟨by simpa using h0, ?_⟩
          rw [List.all_eq_true]
          intro i hi
          have hi := List.mem_range.1 hi
          exact he i (by omega)
    · refine run_ex hmix ti_ok tbn0_ok 999 false 400 [true] (fun ar lf => by conv => lhs; cbv) (allP ?_) ?_
      · simp only [conj, and_true, Int.ofNat_eq_natCast, arR, rcmp_neq, decide_eq_true_eq]
        omega
      · refine Run.ret ti_ok rfl rfl (.a (.lbool ?_))
        show false = sameD xs ys
        unfold sameD
        symm
        rw [Bool.and_eq_false_iff]
        exact .inl (by simpa using h0)
  · cases hs
end Go.Proofs.Ytlbllaocdilafaa
