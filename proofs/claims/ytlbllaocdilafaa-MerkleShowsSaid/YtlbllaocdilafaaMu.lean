import Derived.Test.YtlbllaocdilafaaMq
import Derived.Test.YtlbllaocdilafaaFi
set_option linter.unusedSimpArgs false
set_option linter.unusedVariables false
namespace Go.Eng
open Go
def idxT : Nat → List D → Int
  | _, [] => -1
  | k, d :: l => if d.bool! = true then (k : Int) else idxT (k + 1) l
theorem idxT_any : ∀ (l : List D) (k : Nat), 0 ≤ idxT k l ↔ l.any D.bool! = true
  | [], k => by simp [idxT]
  | d :: l, k => by
    simp only [idxT, List.any_cons, Bool.or_eq_true]
    by_cases h : d.bool! = true
    · rw [if_pos h]; simp [h]
    · rw [if_neg h, idxT_any l (k + 1)]; simp [h]
def segB (ms : List D) (l a : Nat) : List D := (ms.take ((a + 1) * 2 ^ l)).drop (a * 2 ^ l)
def mnt (ms : List D) (l a : Nat) : Bool := (segB ms l a).any D.bool!
def sameB (xs ys : List D) : Bool := (xs.length == ys.length) && (List.range xs.length).all fun i => (xs.getD i (.int 0)).bool! == (ys.getD i (.int 0)).bool!
structure LQ extends LO where
  idx : List D → Int
  anyB : List D → Bool
  mnt : List D → Int → Int → Bool
  mntOk : List D → Int → Int → Prop
  sameB : List D → List D → Bool
  fewB : List D → Prop
def lqR : LQ where
  toLO := loR
  idx := idxT 0
  anyB xs := xs.any D.bool!
  mnt ms l a := mnt ms l.toNat a.toNat
  mntOk ms l a := 0 ≤ l ∧ l ≤ 32 ∧ 0 ≤ a ∧ a < 1073741823 ∧ ms.length ≤ 4294967296
  sameB := sameB
  fewB xs := xs.length ≤ 4294967296
end Go.Eng
namespace Go.Proofs.Ytlbllaocdilafaa
open Go Go.Eng Go.Proofs Go.RowKit
attribute [local irreducible] CallOk HOk Run TIok rbin rcmp run1 updF shfF blitF
def sIndex (lf : LQ) : ESpec := fun l => match l with
  | [.one (.dat .bool xs none), .one (.lbool true)] => some (.a (.one (.int .i64 (lf.idx xs))), [lf.fewB xs])
  | _ => none
def tbu0 (lf : LQ) : Tbl := tbL [] []
theorem tbu0_ok : TblOk Try.prog (tbu0 lqR) := tbL_ok nofun nofun
theorem index_ok : CallOk Try.prog 130 (sIndex lqR) := by
  refine .of_run (hc := (tbu0 lqR).hc) Try.func130 rfl (by kernel_rfl) (by kernel_rfl) fun xs v ps hs hp w => ?_
  unfold sIndex at hs
  split at hs
  · rename_i xs
    cases hs
    have hl : xs.length ≤ 4294967296 := hp (lqR.fewB xs) (by simp)
    clear hp
    refine run_pa hmix ti_ok tbu0_ok 0 false 400 [] [0, 1, 7, 8] [8] (fun ar lf => by conv => lhs; cbv) (allP ?_) ?_
    · trivial
    refine Run.loop (ι := {p : Int × Int // (0 ≤ p.1 ∧ p.1 ≤ xs.length) ∧ idxT p.1.toNat (xs.drop p.1.toNat) = idxT 0 xs ∧ p.2 = xs.length})
      (fun i => ([.a (.one (.dat .bool xs none)), .a (.one (.lbool true)), .any, .any, .any, .any, .any, .a (.one (.int .i64 i.1.2)), .a (.one (.int .i64 i.1.1)), .any, .any, .any, .any, .any, .any, .any, .any, .any, .any], []))
      (fun i => (xs.length - i.1.1).toNat) ⟨(0, xs.length), by simp only; omega, rfl, rfl⟩ ?_
    rintro ⟨⟨k, n⟩, hk, hi, hn⟩ ih
    simp only at hk hi hn
    have e1 : rbin .add .i64 k 1 = k + 1 := addi (by omega) (by omega)
    by_cases hlt : k < xs.length
    · rw [drop_at (by omega : k.toNat < xs.length), idxT] at hi
      cases hb : (xs.getD k.toNat (.int 0)).bool! with
      | true =>
        have hb2 : (true == (xs.getD k.toNat (.int 0)).bool!) = true := by rw [hb]; rfl
        refine run_ex hmix ti_ok tbu0_ok 999 false 400 [true, true] (fun ar lf => by conv => lhs; cbv) (allP ?_) ?_
        · simp only [conj, and_true, Int.ofNat_eq_natCast, arR, rcmp_lss, rcmp_gtr, rcmp_geq, rcmp_eql, rcmp_neq, decide_eq_true_eq, decide_eq_false_iff_not, hn]
          ((repeat' with_reducible apply And.intro) <;> first | omega | assumption | rfl | trivial)
        · refine Run.ret ti_ok rfl rfl (.a (.int ?_))
          rw [if_pos hb] at hi
          rw [show (lqR.idx xs) = idxT 0 xs from rfl, ← hi]
          omega
      | false =>
        have hb2 : (true == (xs.getD k.toNat (.int 0)).bool!) = false := by rw [hb]; rfl
        refine run_pa hmix ti_ok tbu0_ok 2 true 400 [true, false] [0, 1, 7, 8] [8] (fun ar lf => by conv => lhs; cbv) (allP ?_) ?_
        · simp only [conj, and_true, Int.ofNat_eq_natCast, arR, rcmp_lss, rcmp_gtr, rcmp_geq, rcmp_eql, rcmp_neq, decide_eq_true_eq, decide_eq_false_iff_not, hn]
          ((repeat' with_reducible apply And.intro) <;> first | omega | assumption | rfl | trivial)
        · rw [if_neg (by rw [hb]; simp)] at hi
          refine ih ⟨(_, _), ?_⟩ ?_ _ _
          · refine ⟨?_, ?_, hn⟩
            · show 0 ≤ rbin .add .i64 k 1 ∧ rbin .add .i64 k 1 ≤ xs.length
              rw [e1]; omega
            · show idxT (rbin .add .i64 k 1).toNat (xs.drop (rbin .add .i64 k 1).toNat) = _
              rw [e1, show (k + 1).toNat = k.toNat + 1 by omega]; exact hi
          · show ((xs.length : Int) - rbin .add .i64 k 1).toNat < ((xs.length : Int) - k).toNat
            rw [e1]; omega
    · refine run_ex hmix ti_ok tbu0_ok 999 false 400 [false] (fun ar lf => by conv => lhs; cbv) (allP ?_) ?_
      · simp only [conj, and_true, Int.ofNat_eq_natCast, arR, rcmp_lss, rcmp_gtr, rcmp_geq, rcmp_eql, rcmp_neq, decide_eq_true_eq, decide_eq_false_iff_not, hn]
        omega
      · refine Run.ret ti_ok rfl rfl (.a (.lit ?_))
        rw [List.drop_of_length_le (by omega)] at hi
        exact hi
  · cases hs
def sContains (lf : LQ) : ESpec := fun l => match l with
  | [.one (.dat .bool xs none), .one (.lbool true)] => some (.a (.one (.bool (lf.anyB xs))), [lf.fewB xs])
  | _ => none
def tbu1 (lf : LQ) : Tbl := tbL [(130, sIndex lf)] []
theorem tbu1_ok : TblOk Try.prog (tbu1 lqR) := tbL_ok (List.forall_mem_cons.2 ⟨index_ok, nofun⟩) nofun
theorem contains_ok : CallOk Try.prog 84 (sContains lqR) := by
  refine .of_run (hc := (tbu1 lqR).hc) Try.func84 rfl (by kernel_rfl) (by kernel_rfl) fun xs v ps hs hp w => ?_
  unfold sContains at hs
  split at hs
  · rename_i xs
    cases hs
    have hl : xs.length ≤ 4294967296 := hp (lqR.fewB xs) (by simp)
    clear hp
    refine run_ex hmix ti_ok tbu1_ok 999 false 400 [] (fun ar lf => by conv => lhs; cbv) (allP ?_) ?_
    · exact ⟨hl, trivial⟩
    · refine Run.ret ti_ok rfl rfl (.a (.bool ?_))
      show rcmp .geq (idxT 0 xs) 0 = xs.any D.bool!
      rw [rcmp_geq, Bool.eq_iff_iff, decide_eq_true_eq]
      exact idxT_any xs 0
  · cases hs
def sMeant (lf : LQ) : ESpec := fun l => match l with
  | [.one (.dat .bool ms none), .one (.int .i64 l), .one (.int .i64 a)] => some (.a (.one (.bool (lf.mnt ms l a))), [lf.mntOk ms l a])
  | _ => none
theorem meant_ok : CallOk Try.prog 85 (sMeant lqR) := by
  refine .of_run (hc := (tbu0 lqR).hc) Try.func85 rfl (by kernel_rfl) (by kernel_rfl) fun xs v ps hs hp w => ?_
  unfold sMeant at hs
  split at hs
  · rename_i ms l a
    cases hs
    have h : 0 ≤ l ∧ l ≤ 32 ∧ 0 ≤ a ∧ a < 1073741823 ∧ ms.length ≤ 4294967296 := hp (lqR.mntOk ms l a) (by simp)
    clear hp
    have hpow : ∀ k : Nat, k ≤ 32 → 1 ≤ 2 ^ k ∧ 2 ^ k ≤ 4294967296 := fun k hk => ⟨Nat.one_le_two_pow, Nat.le_trans (Nat.pow_le_pow_right (by decide) hk) (by decide)⟩
    refine run_pa hmix ti_ok tbu0_ok 0 false 400 [] [0, 1, 2, 7, 8] [7, 8] (fun ar lf => by conv => lhs; cbv) (allP ?_) ?_
    · trivial
    refine Run.loop (ι := {p : Int × Int // (0 ≤ p.2 ∧ p.2 ≤ l) ∧ p.1 = ((2 ^ p.2.toNat : Nat) : Int)})
      (fun i => ([.a (.one (.dat .bool ms none)), .a (.one (.int .i64 l)), .a (.one (.int .i64 a)), .any, .any, .any, .any, .a (.one (.int .i64 i.1.1)), .a (.one (.int .i64 i.1.2)), .any, .any, .any, .any, .any, .any, .any, .any, .any, .any, .any, .any, .any, .any, .any, .any, .any, .any, .any, .any, .any, .any, .any, .any, .any, .any, .any, .any, .any], []))
      (fun i => (l - i.1.2).toNat) ⟨(1, 0), by simp only; omega, rfl⟩ ?_
    rintro ⟨⟨W, i⟩, hi, hW⟩ ih
    simp only at hi hW
    have hp1 := hpow i.toNat (by omega)
    by_cases hlt : i < l
    · have e1 : rbin .add .i64 i 1 = i + 1 := addi (by omega) (by omega)
      have e2 : rbin .mul .i64 W 2 = W * 2 := muli (by omega) (by omega)
      refine run_pa hmix ti_ok tbu0_ok 2 true 400 [true] [0, 1, 2, 7, 8] [7, 8] (fun ar lf => by conv => lhs; cbv) (allP ?_) ?_
      · simp only [conj, and_true, Int.ofNat_eq_natCast, arR, rcmp_lss, rcmp_gtr, rcmp_geq, rcmp_eql, rcmp_neq, decide_eq_true_eq, decide_eq_false_iff_not]
        omega
      · refine ih ⟨(_, _), ?_⟩ ?_ _ _
        · refine ⟨?_, ?_⟩
          · show 0 ≤ rbin .add .i64 i 1 ∧ rbin .add .i64 i 1 ≤ l
            rw [e1]; omega
          · show rbin .mul .i64 W 2 = ((2 ^ (rbin .add .i64 i 1).toNat : Nat) : Int)
            rw [e1, e2, hW, show (i + 1).toNat = i.toNat + 1 by omega, Nat.pow_succ]
            omega
        · show (l - rbin .add .i64 i 1).toNat < (l - i).toNat
          rw [e1]; omega
    · obtain rfl : i = l := by omega
      clear ih
      have hpl := hpow i.toNat (by omega)
      have hprod : (a.toNat + 1) * 2 ^ i.toNat ≤ 4294967296 * 4294967296 / 4 := by
        have : a.toNat + 1 ≤ 1073741824 := by omega
        exact Nat.le_trans (Nat.mul_le_mul this hpl.2) (by decide)
      have hexp : (a.toNat + 1) * 2 ^ i.toNat = a.toNat * 2 ^ i.toNat + 2 ^ i.toNat := Nat.succ_mul _ _
      have f1 : rbin .add .i64 a 1 = a + 1 := addi (by omega) (by omega)
      have hm1 : a * W = ((a.toNat * 2 ^ i.toNat : Nat) : Int) := by rw [hW, Int.natCast_mul, Int.toNat_of_nonneg h.2.2.1]
      have hm2 : (a + 1) * W = (((a.toNat + 1) * 2 ^ i.toNat : Nat) : Int) := by
        rw [Int.add_mul, hm1, hW, hexp]; omega
      have f2 : rbin .mul .i64 a W = ((a.toNat * 2 ^ i.toNat : Nat) : Int) := by
        rw [← hm1]; exact muli (by rw [hm1]; omega) (by rw [hm1]; omega)
      have f3 : rbin .mul .i64 (a + 1) W = (((a.toNat + 1) * 2 ^ i.toNat : Nat) : Int) := by
        rw [← hm2]; exact muli (by rw [hm2]; omega) (by rw [hm2]; omega)
      have hgoal : lqR.mnt ms i a = ((ms.take ((a.toNat + 1) * 2 ^ i.toNat)).drop (a.toNat * 2 ^ i.toNat)).any D.bool! := rfl
      rw [hgoal]
      clear hgoal
      generalize hA : a.toNat * 2 ^ i.toNat = A at *
      generalize hE : (a.toNat + 1) * 2 ^ i.toNat = E at *
      refine run_pa hmix ti_ok tbu0_ok 2 false 400 [false] [0, 2, 7, 9] [9] (fun ar lf => by conv => lhs; cbv) (allP ?_) ?_
      · simp only [conj, and_true, Int.ofNat_eq_natCast, arR, rcmp_lss, rcmp_gtr, rcmp_geq, rcmp_eql, rcmp_neq, decide_eq_true_eq, decide_eq_false_iff_not]
        omega
      refine Run.loop (ι := {p : Int × Int // (A ≤ p.1 ∧ p.1 ≤ E) ∧ ((ms.take E).drop p.1.toNat).any D.bool! = ((ms.take E).drop A).any D.bool! ∧ p.2 = W})
        (fun i => ([.a (.one (.dat .bool ms none)), .any, .a (.one (.int .i64 a)), .any, .any, .any, .any, .a (.one (.int .i64 i.1.2)), .any, .a (.one (.int .i64 i.1.1)), .any, .any, .any, .any, .any, .any, .any, .any, .any, .any, .any, .any, .any, .any, .any, .any, .any, .any, .any, .any, .any, .any, .any, .any, .any, .any, .any, .any], []))
        (fun i => (E - i.1.1).toNat) ⟨(rbin .mul .i64 a W, W), ?_⟩ ?_
      · rw [f2]
        refine ⟨by simp only; omega, ?_, rfl⟩
        simp only [Int.toNat_natCast]
      rintro ⟨⟨j, W'⟩, hj, hany, hW'⟩ ih
      simp only at hj hany hW'
      subst W'
      by_cases hlt : j < E
      · by_cases hin : j < ms.length
        · have e1 : rbin .add .i64 j 1 = j + 1 := addi (by omega) (by omega)
          have hlen : j.toNat < (ms.take E).length := by rw [List.length_take]; omega
          have hget : (ms.take E).getD j.toNat (.int 0) = ms.getD j.toNat (.int 0) := by
            rw [List.getD_eq_getElem?_getD, List.getD_eq_getElem?_getD, List.getElem?_take_of_lt (by omega)]
          rw [drop_at hlen, hget, List.any_cons] at hany
          cases hb : (ms.getD j.toNat (.int 0)).bool! with
          | true =>
            refine run_ex hmix ti_ok tbu0_ok 999 false 400 [true, true, true] (fun ar lf => by conv => lhs; cbv) (allP ?_) ?_
            · simp only [conj, and_true, Int.ofNat_eq_natCast, arR, rcmp_lss, rcmp_gtr, rcmp_geq, rcmp_eql, rcmp_neq, decide_eq_true_eq, decide_eq_false_iff_not, f1, f3]
              ((repeat' with_reducible apply And.intro) <;> first | omega | assumption | rfl | trivial)
            · refine Run.ret ti_ok rfl rfl (.a (.lbool ?_))
              rw [← hany, hb]; rfl
          | false =>
            refine run_pa hmix ti_ok tbu0_ok 2 true 400 [true, true, false] [0, 2, 7, 9] [9] (fun ar lf => by conv => lhs; cbv) (allP ?_) ?_
            · simp only [conj, and_true, Int.ofNat_eq_natCast, arR, rcmp_lss, rcmp_gtr, rcmp_geq, rcmp_eql, rcmp_neq, decide_eq_true_eq, decide_eq_false_iff_not, f1, f3]
              ((repeat' with_reducible apply And.intro) <;> first | omega | assumption | rfl | trivial)
            · rw [hb, Bool.false_or] at hany
              refine ih ⟨(_, _), ?_⟩ ?_ _ _
              · refine ⟨?_, ?_, rfl⟩
                · show (A : Int) ≤ rbin .add .i64 j 1 ∧ rbin .add .i64 j 1 ≤ E
                  rw [e1]; omega
                · show ((ms.take E).drop (rbin .add .i64 j 1).toNat).any D.bool! = _
                  rw [e1, show (j + 1).toNat = j.toNat + 1 by omega]; exact hany
              · show ((E : Int) - rbin .add .i64 j 1).toNat < ((E : Int) - j).toNat
                rw [e1]; omega
        · refine run_ex hmix ti_ok tbu0_ok 999 false 400 [true, false] (fun ar lf => by conv => lhs; cbv) (allP ?_) ?_
          · simp only [conj, and_true, Int.ofNat_eq_natCast, arR, rcmp_lss, rcmp_gtr, rcmp_geq, rcmp_eql, rcmp_neq, decide_eq_true_eq, decide_eq_false_iff_not, f1, f3]
            ((repeat' with_reducible apply And.intro) <;> first | omega | assumption | rfl | trivial)
          · refine Run.ret ti_ok rfl rfl (.a (.lbool ?_))
            rw [← hany, List.drop_of_length_le (by rw [List.length_take]; omega)]; rfl
      · refine run_ex hmix ti_ok tbu0_ok 999 false 400 [false] (fun ar lf => by conv => lhs; cbv) (allP ?_) ?_
        · simp only [conj, and_true, Int.ofNat_eq_natCast, arR, rcmp_lss, rcmp_gtr, rcmp_geq, rcmp_eql, rcmp_neq, decide_eq_true_eq, decide_eq_false_iff_not, f1, f3]
          ((repeat' with_reducible apply And.intro) <;> first | omega | assumption | rfl | trivial)
        · refine Run.ret ti_ok rfl rfl (.a (.lbool ?_))
          rw [← hany, List.drop_of_length_le (by rw [List.length_take]; omega)]; rfl
  · cases hs
def sBits (lf : LQ) : ESpec := fun l => match l with
  | [.one (.dat .bool xs none), .one (.dat .bool ys none)] => some (.a (.one (.bool (lf.sameB xs ys))), [lf.fewB xs])
  | _ => none
theorem bits_ok : CallOk Try.prog 30 (sBits lqR) := by
  refine .of_run (hc := (tbu0 lqR).hc) Try.func30 rfl (by kernel_rfl) (by kernel_rfl) fun xs v ps hs hp w => ?_
  unfold sBits at hs
  split at hs
  · rename_i xs ys
    cases hs
    have hl : xs.length ≤ 4294967296 := hp (lqR.fewB xs) (by simp)
    clear hp
    by_cases h0 : xs.length = ys.length
    · refine run_pa hmix ti_ok tbu0_ok 0 false 400 [false] [0, 1, 12, 13] [13] (fun ar lf => by conv => lhs; cbv) (allP ?_) ?_
      · simp only [conj, and_true, Int.ofNat_eq_natCast, arR, rcmp_lss, rcmp_gtr, rcmp_geq, rcmp_eql, rcmp_neq, decide_eq_true_eq, decide_eq_false_iff_not]
        omega
      refine Run.loop (ι := {p : Int × Int // (0 ≤ p.1 ∧ p.1 ≤ xs.length) ∧ (∀ i : Nat, (i : Int) < p.1 → ((xs.getD i (.int 0)).bool! == (ys.getD i (.int 0)).bool!) = true) ∧ p.2 = xs.length})
        (fun i => ([.a (.one (.dat .bool xs none)), .a (.one (.dat .bool ys none)), .any, .any, .any, .any, .any, .any, .any, .any, .any, .any, .a (.one (.int .i64 i.1.2)), .a (.one (.int .i64 i.1.1)), .any, .any, .any, .any, .any, .any, .any, .any, .any, .any, .any, .any], []))
        (fun i => (xs.length - i.1.1).toNat) ⟨(0, xs.length), by simp only; omega, fun i hi => by simp only at hi; omega, rfl⟩ ?_
      rintro ⟨⟨k, n⟩, hk, he, hn⟩ ih
      simp only at hk he hn
      have e1 : rbin .add .i64 k 1 = k + 1 := addi (by omega) (by omega)
      by_cases hlt : k < xs.length
      · by_cases heq : ((xs.getD k.toNat (.int 0)).bool! == (ys.getD k.toNat (.int 0)).bool!) = true
        · refine run_pa hmix ti_ok tbu0_ok 2 true 400 [true, false] [0, 1, 12, 13] [13] (fun ar lf => by conv => lhs; cbv) (allP ?_) ?_
          · simp only [conj, and_true, Int.ofNat_eq_natCast, arR, rcmp_lss, rcmp_gtr, rcmp_geq, rcmp_eql, rcmp_neq, decide_eq_true_eq, decide_eq_false_iff_not, hn, heq, Bool.not_true]
            ((repeat' with_reducible apply And.intro) <;> first | omega | assumption | rfl | trivial)
          · refine ih ⟨(_, _), ?_⟩ ?_ _ _
            · refine ⟨?_, fun i hi => ?_, hn⟩
              · show 0 ≤ rbin .add .i64 k 1 ∧ rbin .add .i64 k 1 ≤ xs.length
                rw [e1]; omega
              · have hi : (i : Int) < rbin .add .i64 k 1 := hi
                rw [e1] at hi
                by_cases hik : (i : Int) < k
                · exact he i hik
                · rw [show i = k.toNat by omega]; exact heq
            · show ((xs.length : Int) - rbin .add .i64 k 1).toNat < ((xs.length : Int) - k).toNat
              rw [e1]; omega
        · refine run_ex hmix ti_ok tbu0_ok 999 false 400 [true, true] (fun ar lf => by conv => lhs; cbv) (allP ?_) ?_
          · simp only [conj, and_true, Int.ofNat_eq_natCast, arR, rcmp_lss, rcmp_gtr, rcmp_geq, rcmp_eql, rcmp_neq, decide_eq_true_eq, decide_eq_false_iff_not, hn, Bool.eq_false_iff.2 heq, Bool.not_false]
            ((repeat' with_reducible apply And.intro) <;> first | omega | assumption | rfl | trivial)
          · refine Run.ret ti_ok rfl rfl (.a (.lbool ?_))
            show false = sameB xs ys
            unfold sameB
            rw [h0]
            simp only [BEq.rfl, Bool.true_and]
            symm
            rw [Bool.eq_false_iff]
            intro hc
            rw [List.all_eq_true] at hc
            exact heq (hc k.toNat (List.mem_range.2 (by omega)))
      · refine run_ex hmix ti_ok tbu0_ok 999 false 400 [false] (fun ar lf => by conv => lhs; cbv) (allP ?_) ?_
        · simp only [conj, and_true, Int.ofNat_eq_natCast, arR, rcmp_lss, rcmp_gtr, rcmp_geq, rcmp_eql, rcmp_neq, decide_eq_true_eq, decide_eq_false_iff_not, hn]
          omega
        · refine Run.ret ti_ok rfl rfl (.a (.lbool ?_))
          show true = sameB xs ys
          unfold sameB
          symm
          rw [Bool.and_eq_true]
          refine ⟨by simpa using h0, ?_⟩
          rw [List.all_eq_true]
          intro i hi
          have hi := List.mem_range.1 hi
          exact he i (by omega)
    · refine run_ex hmix ti_ok tbu0_ok 999 false 400 [true] (fun ar lf => by conv => lhs; cbv) (allP ?_) ?_
      · simp only [conj, and_true, Int.ofNat_eq_natCast, arR, rcmp_lss, rcmp_gtr, rcmp_geq, rcmp_eql, rcmp_neq, decide_eq_true_eq, decide_eq_false_iff_not]
        omega
      · refine Run.ret ti_ok rfl rfl (.a (.lbool ?_))
        show false = sameB xs ys
        unfold sameB
        symm
        rw [Bool.and_eq_false_iff]
        exact .inl (by simpa using h0)
  · cases hs
end Go.Proofs.Ytlbllaocdilafaa
