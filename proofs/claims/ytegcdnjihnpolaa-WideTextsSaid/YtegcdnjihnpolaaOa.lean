import Derived.Test.YtegcdnjihnpolaaWm
import Derived.Test.YtegcdnjihnpolaaEy
set_option linter.unusedSimpArgs false
set_option linter.unusedVariables false
namespace Go.Eng
open Go
/-- turned round, as far as it reaches -/
def revN (f : F) (n : Nat) : F := fun j => if j < n then f (n - 1 - j) else f j
structure LB where
  fits : Nat → Nat → Prop
  rev : F → Nat → F
def lbR : LB where
  fits n m := n ≤ m ∧ (n : Int) ≤ 4611686018427387904
  rev := revN
def slB : List A → List Blk → Option (Nat × Nat × F)
  | [.one (.sl 0 (.lit 0) (.sym n) _)], [⟨false, .ints .u8 (.sym m) f⟩] => some (n, m, f)
  | _, _ => none
theorem slB_some {las : List A} {lbs : List Blk} {n m : Nat} {f : F} (h : slB las lbs = some (n, m, f)) : ∃ c, las = [.one (.sl 0 (.lit 0) (.sym n) c)] ∧ lbs = [⟨false, .ints .u8 (.sym m) f⟩] := by
  unfold slB at h
  split at h
  · cases h; exact ⟨_, rfl, rfl⟩
  · cases h
def hRevB (l : LB) : HSpec := fun las lbs => match slB las lbs with
  | some (n, m, f) => some (.tup [], [⟨false, .ints .u8 (.sym m) (l.rev f n)⟩], [l.fits n m])
  | none => none
theorem updF_at' {p : F} {i j : Nat} {x : Int} : updF p i x j = if j = i then x else p j := by unfold updF; rfl
end Go.Eng
namespace Go.Proofs.Ytegcdnjihnpolaa
open Go Go.Eng Go.Proofs Go.RowKit
theorem rcmp_l (x y : Int) : rcmp .lss x y = decide (x < y) := by unfold rcmp; rfl
attribute [local irreducible] CallOk HOk Run TIok rbin rcmp run1 words val updF shfF blitF
def to0 (l : LB) : Tbl := tbL [] []
theorem to0_ok : TblOk Try.prog (to0 lbR) := tbL_ok (by simp) (by simp)
set_option maxRecDepth 100000 in
theorem revb_ok : HOk Try.prog 109 (hRevB lbR) := by
  refine .of_run (hc := (to0 lbR).hc) Try.func109 rfl (by kernel_rfl) (by kernel_rfl) fun las lbs v lbs' ps hs hp => ?_
  unfold hRevB at hs
  split at hs
  · rename_i n m f h
    obtain ⟨cc, rfl, rfl⟩ := slB_some h
    cases hs
    have hfit : n ≤ m ∧ (n : Int) ≤ 4611686018427387904 := hp (lbR.fits n m) (by simp)
    clear hp h
    refine ⟨rfl, fun w => ?_⟩
    have esub : rbin .sub .i64 n 1 = (n : Int) - 1 := rbin_subi (by omega)
    refine run_ex hmix ti_ok to0_ok 0 false 800 [] (fun ar lf => by conv => lhs; cbv) (allP ?_) ?_
    · trivial
    refine Run.cut [0, 2, 3] [2, 3] 1 (Nat.le_of_ble_eq_true rfl) rfl rfl ?_
    refine Run.loop (ι := {p : Int × Int × F // 0 ≤ p.1 ∧ p.1 ≤ n ∧ p.2.1 = n - 1 - p.1 ∧ ∀ k : Nat, p.2.2 k = if k < n ∧ ((k : Int) < p.1 ∨ (n : Int) - 1 - p.1 < k) then f (n - 1 - k) else f k})
      (fun i => ([.a (.one (.sl 0 (.lit 0) (.sym n) cc)), .any, .a (.one (.int .i64 i.1.1)), .a (.one (.int .i64 i.1.2.1))] ++ List.replicate 24 .any, [some ⟨false, .ints .u8 (.sym m) i.1.2.2⟩]))
      (fun i => (n - i.1.1).toNat) ⟨(0, rbin .sub .i64 n 1, f), Int.le_refl 0, Int.natCast_nonneg n, by simp only [esub]; omega, fun k => ?_⟩ ?_
    · simp only
      split
      · omega
      · rfl
    rintro ⟨⟨i, j, g⟩, h0, h1, hj, hg⟩ ih
    simp only at h0 h1 hj hg
    by_cases hij : i < j
    · have ei : ∀ x : Int, 0 + x.toNat * 1 = x.toNat := fun x => by omega
      have eadd : rbin .add .i64 i 1 = i + 1 := rbin_addi (by omega)
      have esb : rbin .sub .i64 j 1 = j - 1 := rbin_subi (by omega)
      have emu : ((n : Int) - rbin .add .i64 i 1).toNat < ((n : Int) - i).toNat := by rw [eadd]; omega
      refine run_ex hmix ti_ok to0_ok 1 false 800 [true] (fun ar lf => by conv => lhs; cbv) (allP ?_) ?_
      · simp only [conj, arR, N.val, rcmp_l, ei, decide_eq_true_eq]
        and_intros <;> first | trivial | omega
      · refine Run.cut [0, 2, 3] [2, 3] 1 (Nat.le_of_ble_eq_true rfl) rfl rfl ?_
        refine ih ⟨(_, _, _), ?_, ?_, ?_, ?_⟩ emu _ _
        · simp only [eadd]; omega
        · simp only [eadd]; omega
        · simp only [eadd, esb]; omega
        · simp only [arR, N.val, ei, eadd]
          intro k
          rw [updF_at', updF_at']
          have hgi := hg i.toNat
          have hgj := hg j.toNat
          rw [if_neg (by omega)] at hgi hgj
          by_cases hkj : k = j.toNat
          · rw [if_pos hkj, if_pos (by omega), hgi]
            congr 1; omega
          · rw [if_neg hkj]
            by_cases hki : k = i.toNat
            · rw [if_pos hki, if_pos (by omega), hgj]
              congr 1; omega
            · rw [if_neg hki, hg k]
              by_cases hc : k < n ∧ ((k : Int) < i ∨ (n : Int) - 1 - i < k)
              · rw [if_pos hc, if_pos (by omega)]
              · rw [if_neg hc, if_neg (by omega)]
    · refine run_ex hmix ti_ok to0_ok 1 false 800 [false] (fun ar lf => by conv => lhs; cbv) (allP ?_) ?_
      · simp only [conj, arR, rcmp_l, decide_eq_false_iff_not]
        and_intros <;> first | trivial | omega
      · refine Run.fin ti_ok rfl rfl ⟨.refl rfl, fun q b hb => ?_⟩
        match q with
        | 0 =>
          simp only [List.getElem?_cons_zero, Option.some.injEq] at hb
          subst hb
          refine ⟨_, rfl, rfl, .ints fun k hk => ?_⟩
          show g k = revN f n k
          unfold revN
          rw [hg k]
          by_cases hkn : k < n
          · rw [if_pos hkn]
            split
            · rfl
            · congr 1; omega
          · rw [if_neg hkn, if_neg (by omega)]
        | q + 1 => simp at hb
  · cases hs
end Go.Proofs.Ytegcdnjihnpolaa
