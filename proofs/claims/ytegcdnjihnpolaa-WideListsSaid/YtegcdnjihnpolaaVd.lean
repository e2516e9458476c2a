import Derived.Test.YtegcdnjihnpolaaWt
import Derived.Test.YtegcdnjihnpolaaWr
import Derived.Test.YtegcdnjihnpolaaEh
set_option linter.unusedSimpArgs false
set_option linter.unusedVariables false
namespace Go.Eng
open Go
/-- an element of many, one behind the other -/
def el (F : F) (k : Nat) : Go.Eng.F := fun j => F (4 * k + j)
def sumF (F : F) : Nat → Go.Eng.F
  | 0 => fun _ => 0
  | k + 1 => lfR.wadd (sumF F k) (el F k)
def sumB (F : F) : Nat → Bool
  | 0 => false
  | k + 1 => sumB F k || lfR.waddB (sumF F k) (el F k)
structure LFl where
  lf : LF
  okw : F → Nat → Nat → Prop
  wsum : F → Nat → F
  wsumB : F → Nat → Bool
def lflR : LFl where
  lf := lfR
  okw f n m := (n : Int) ≤ 9223372036854775807 ∧ 4 * n ≤ m ∧ ∀ j, j < m → 0 ≤ f j ∧ f j < (18446744073709551616 : Int)
  wsum := sumF
  wsumB := sumB
def slW : List A → List Blk → Option (Option (Nat × Nat × F))
  | [.one (.sl 0 (.lit 0) (.sym n) _)], [⟨true, .ints .u64 (.sym m) f⟩] => some (some (n, m, f))
  | [.one .nsl], [] => some none
  | _, _ => none
def hSum (l : LFl) : HSpec := fun las lbs => match slW las lbs with
  | some (some (n, m, f)) => some (.tup [W (l.wsum f n), B (l.wsumB f n)], lbs, [l.okw f n m])
  | some none => some (.tup [W fun _ => 0, B false], lbs, [])
  | none => none
theorem slW_some {las : List A} {lbs : List Blk} {n m : Nat} {f : F} (h : slW las lbs = some (some (n, m, f))) : ∃ c, las = [.one (.sl 0 (.lit 0) (.sym n) c)] ∧ lbs = [⟨true, .ints .u64 (.sym m) f⟩] := by
  unfold slW at h
  split at h
  · cases h; exact ⟨_, rfl, rfl⟩
  · cases h
  · cases h
theorem slW_nil {las : List A} {lbs : List Blk} (h : slW las lbs = some none) : las = [.one .nsl] ∧ lbs = [] := by
  unfold slW at h
  split at h
  · cases h
  · exact ⟨rfl, rfl⟩
  · cases h
theorem sumF_bd (f : F) (k : Nat) : bd (sumF f k) := by
  cases k with
  | zero => intro j _; exact ⟨Int.le_refl 0, show (0 : Int) < 18446744073709551616 by decide⟩
  | succ k => exact words_bd _
theorem el_bd {f : F} {n m k : Nat} (h : lflR.okw f n m) (hk : k < n) : bd (el f k) := fun j hj => h.2.2 _ (by have := h.2.1; omega)
theorem el_shf {f : F} {i : Int} {o : Nat} (ho : o = 4 * i.toNat) : ∀ j, j < 4 → shfF f o j = el f i.toNat j := fun j _ => by
  show f (o + j) = f (4 * i.toNat + j)
  rw [ho]
theorem add_like {p q r s : F} (h : ∀ j, j < 4 → p j = q j) (k : ∀ j, j < 4 → r j = s j) : lfR.wadd p r = lfR.wadd q s ∧ lfR.waddB p r = lfR.waddB q s := by
  constructor
  · show words (val p + val r) = words (val q + val s)
    rw [val_congr h, val_congr k]
  · show decide (_ ≤ val p + val r) = decide (_ ≤ val q + val s)
    rw [val_congr h, val_congr k]
end Go.Eng
namespace Go.Proofs.Ytegcdnjihnpolaa
open Go Go.Eng Go.Proofs Go.RowKit
attribute [local irreducible] CallOk HOk Run TIok rbin rcmp run1 words val updF shfF blitF
def tb19 (lf : LF) : Tbl := tbL [(46, sAdd lf)] []
theorem tb19_ok : TblOk Try.prog (tb19 lfR) := tbL_ok (by simpa using add_ok) (by simp)

set_option maxRecDepth 100000 in
theorem sum_ok : HOk Try.prog 26 (hSum lflR) := by
  refine .of_run (hc := (tb19 lfR).hc) Try.func26 rfl (by kernel_rfl) (by kernel_rfl) fun las lbs v lbs' ps hs hp => ?_
  unfold hSum at hs
  split at hs
  · rename_i n m f h
    obtain ⟨cc, rfl, rfl⟩ := slW_some h
    cases hs
    have hok : lflR.okw f n m := hp _ (by simp)
    clear hp h
    refine ⟨rfl, fun w => ?_⟩
    refine run_ex hmix ti_ok tb19_ok 0 false 800 [] (fun ar lf => by conv => lhs; cbv) (allP ?_) ?_
    · trivial
    refine Run.cut [2, 4, 5, 10, 11, 12] [5, 12] 3 (Nat.le_of_ble_eq_true rfl) rfl rfl ?_
    refine Run.loop (ι := {p : Int × F × Bool // 0 ≤ p.1 ∧ p.1 ≤ n ∧ (∀ j, j < 4 → p.2.1 j = sumF f p.1.toNat j) ∧ p.2.2 = sumB f p.1.toNat})
      (fun i => ([.any, .any, .a (.one (.ptr 1 (.lit 0))), .any, .a (.one (.ptr 2 (.lit 0))), .a (.one (.bool i.1.2.2)), .any, .any, .any, .any, .a (.one (.sl 0 (.lit 0) (.sym n) cc)), .a (.one (.int .i64 n)), .a (.one (.int .i64 i.1.1))] ++ List.replicate 17 .any,
        [some ⟨true, .ints .u64 (.sym m) f⟩, some (K4 fun _ => 0), some (K4 i.1.2.1)]))
      (fun i => (n - i.1.1).toNat) ⟨(0, fun _ => 0, false), Int.le_refl 0, Int.natCast_nonneg n, fun j _ => rfl, rfl⟩ ?_
    rintro ⟨⟨i, q, b⟩, h00, h0, h1, h2⟩ ih
    simp only at h00 h0 h1 h2
    have hN := hok.1
    have hM := hok.2.1
    by_cases hk : i < n
    · have hel := el_bd hok (k := i.toNat) (by omega)
      have hqb : bd q := bd.congr (fun j hj => (h1 j hj).symm) (sumF_bd _ _)
      have eadd : rbin .add .i64 i 1 = i + 1 := rbin_addi (by omega)
      have emu : ((n : Int) - rbin .add .i64 i 1).toNat < ((n : Int) - i).toNat := by rw [eadd]; omega
      have eni : (i + 1).toNat = i.toNat + 1 := by omega
      have hvq : val q = val (sumF f i.toNat) := val_congr h1
      have ho : 0 + i.toNat * 4 = 4 * i.toNat := by omega
      have hsb : bd (shfF f (0 + i.toNat * 4)) := bd.congr (fun j hj => (el_shf ho j hj).symm) hel
      obtain ⟨w1, w2⟩ := add_like h1 (el_shf (f := f) ho)
      have hlt : decide (i < Int.ofNat n) = true := decide_eq_true hk
      by_cases hb : b = true
      · refine run_ex hmix ti_ok tb19_ok 2 false 800 [true, true] (fun ar lf => by conv => lhs; cbv) (allP ?_) ?_
        · simp only [conj, arR, N.val, rcmp_lss]
          exact ⟨hb, hqb, hsb, by omega, ⟨h00, hk⟩, hlt, trivial⟩
        · refine Run.cut [2, 4, 5, 10, 11, 12] [5, 12] 3 (Nat.le_of_ble_eq_true rfl) rfl rfl ?_
          refine ih ⟨(_, _, _), ?_, ?_, ?_, ?_⟩ emu _ _
          · simp only [eadd]; omega
          · simp only [eadd]; omega
          · simp only [eadd, eni]
            exact fun j _ => congrFun w1 j
          · simp only [eadd, eni, sumB, ← h2, hb, Bool.true_or]
      · have hbf : b = false := by simpa using hb
        refine run_ex hmix ti_ok tb19_ok 2 false 800 [true, false] (fun ar lf => by conv => lhs; cbv) (allP ?_) ?_
        · simp only [conj, arR, N.val, rcmp_lss]
          exact ⟨hbf, hqb, hsb, by omega, ⟨h00, hk⟩, hlt, trivial⟩
        · refine Run.cut [2, 4, 5, 10, 11, 12] [5, 12] 3 (Nat.le_of_ble_eq_true rfl) rfl rfl ?_
          refine ih ⟨(_, _, _), ?_, ?_, ?_, ?_⟩ emu _ _
          · simp only [eadd]; omega
          · simp only [eadd]; omega
          · simp only [eadd, eni]
            exact fun j _ => congrFun w1 j
          · simp only [eadd, eni, sumB, ← h2, hbf, Bool.false_or]
            exact w2
    · obtain rfl : i = n := by omega
      refine run_ex hmix ti_ok tb19_ok 2 false 800 [false] (fun ar lf => by conv => lhs; cbv) (allP ?_) ?_
      · simp only [conj, arR, N.val, rcmp_lss]
        exact ⟨decide_eq_false (by omega), trivial⟩
      · refine Run.ret ti_ok rfl rfl ⟨.of (.tup2 (.ints ?_) (.bool ?_)), fun i b hb => ?_⟩
        · rw [Int.toNat_natCast] at h1; exact h1
        · rw [Int.toNat_natCast] at h2; exact h2
        · match i with
          | 0 => simp only [List.getElem?_cons_zero, Option.some.injEq] at hb; subst hb; exact ⟨_, rfl, rfl, .refl rfl⟩
          | i + 1 => simp at hb
  · rename_i h
    obtain ⟨rfl, rfl⟩ := slW_nil h
    cases hs
    refine ⟨rfl, fun w => ?_⟩
    refine run_ex hmix ti_ok tb19_ok 99 true 800 [] (fun ar lf => by conv => lhs; cbv) (allP ?_) ?_
    · trivial
    · refine Run.ret ti_ok rfl rfl ⟨.of (.tup2 (.ints fun j _ => rfl) (.lbool rfl)), fun i b hb => by simp at hb⟩
  · cases hs
end Go.Proofs.Ytegcdnjihnpolaa
