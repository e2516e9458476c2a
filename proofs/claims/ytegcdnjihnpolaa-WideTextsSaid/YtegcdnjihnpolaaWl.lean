import Derived.Test.YtegcdnjihnpolaaWk
set_option linter.unusedSimpArgs false
set_option linter.unusedVariables false
namespace Go.Eng
open Go
def sNaN : ESpec := fun l => match num1 l with
  | some x => some (.a (.one (.lbool false)), [])
  | none => none
def sCmp64 (lf : LF) : ESpec := fun l => match num2 l with
  | some (x, y) => some (.a (I (lf.cmp x y)), [])
  | none => none
abbrev S4 (b : Nat) : A := .one (.sl b (.lit 0) (.lit 4) (.lit 4))
abbrev K4 (f : F) : Blk := ⟨false, .ints .u64 (.lit 4) f⟩
def sl1 : List A → List Blk → Option F
  | [.one (.sl 0 (.lit 0) (.lit 4) (.lit 4))], [⟨false, .ints .u64 (.lit 4) f⟩] => some f
  | _, _ => none
def sl2 : List A → List Blk → Option (F × F)
  | [.one (.sl 0 (.lit 0) (.lit 4) (.lit 4)), .one (.sl 1 (.lit 0) (.lit 4) (.lit 4))], [⟨false, .ints .u64 (.lit 4) f⟩, ⟨false, .ints .u64 (.lit 4) g⟩] => some (f, g)
  | _, _ => none
theorem sl1_some {l : List A} {bs : List Blk} {f : F} (h : sl1 l bs = some f) : l = [S4 0] ∧ bs = [K4 f] := by
  unfold sl1 at h
  split at h
  · cases h; exact ⟨rfl, rfl⟩
  · cases h
theorem sl2_some {l : List A} {bs : List Blk} {f g : F} (h : sl2 l bs = some (f, g)) : l = [S4 0, S4 1] ∧ bs = [K4 f, K4 g] := by
  unfold sl2 at h
  split at h
  · cases h; exact ⟨rfl, rfl⟩
  · cases h
def hRev (lf : LF) : HSpec := fun l bs => match sl1 l bs with
  | some f => some (.tup [], [K4 (lf.wrev f)], [])
  | none => none
def hCmp (lf : LF) : HSpec := fun l bs => match sl2 l bs with
  | some (f, g) => some (.a (I (lf.wcmp (lf.wrev f) (lf.wrev g))), [K4 f, K4 g], [lf.bd f, lf.bd g])
  | none => none
end Go.Eng
namespace Go.Proofs.Ytegcdnjihnpolaa
open Go Go.Eng Go.Proofs Go.RowKit
attribute [local irreducible] CallOk HOk Run TIok rbin rcmp run1 words val updF shfF blitF

theorem num1_spec_norm {g : LF → Int → V × List Prop} {s : ESpec} {lf : LF} (hs : ∀ l, s l = match num1 l with
  | some x => some (g lf x)
  | none => none) : ∀ l r, s l = some r → s (l.map A.norm) = some r := by
  intro l r h
  rw [hs] at h ⊢
  split at h
  · rename_i x h1
    rw [num1_norm h1]; exact h
  · cases h
theorem num2_spec_norm {g : LF → Int → Int → V × List Prop} {s : ESpec} {lf : LF} (hs : ∀ l, s l = match num2 l with
  | some (x, y) => some (g lf x y)
  | none => none) : ∀ l r, s l = some r → s (l.map A.norm) = some r := by
  intro l r h
  rw [hs] at h ⊢
  split at h
  · rename_i x y h1
    rw [num2_norm h1]; exact h
  · cases h

theorem nan_ok : CallOk Try.prog 138 sNaN := by
  refine .evalN (tb := tb1) hmix ti_ok tb1_ok Try.func138 rfl (by kernel_rfl) (by kernel_rfl) (num1_spec_norm (lf := lfR) (g := fun lf x => (.a (.one (.lbool false)), [])) (fun l => rfl)) fun xs v ps hn hs hp => ?_
  unfold sNaN at hs
  split at hs
  · rename_i x h
    obtain rfl := num1_int h hn
    cases hs
    refine ⟨400, [], _, fun ar lf => by conv => lhs; cbv, allP ?_, ?_⟩
    · trivial
    intro ρ u hu
    have hu : u = .bool (rcmp .neq x x) := hu
    rw [rcmp_neq] at hu
    show u = .bool false
    rw [hu]; simp
  · cases hs
def tb5 (lf : LF) : Tbl := tbL [(138, sNaN), (124, sCmp64 lf)] []
def tb5' (lf : LF) : Tbl := tbL [(138, sNaN)] []
theorem tb5'_ok : TblOk Try.prog (tb5' lfR) := tbL_ok (by simpa using nan_ok) (by simp)
theorem cmp64_ok : CallOk Try.prog 124 (sCmp64 lfR) := by
  refine .evalN (tb := tb5') hmix ti_ok tb5'_ok Try.func124 rfl (by kernel_rfl) (by kernel_rfl) (num2_spec_norm (lf := lfR) (g := fun lf x y => (.a (I (lf.cmp x y)), [])) (fun l => rfl)) fun xs v ps hn hs hp => ?_
  unfold sCmp64 at hs
  split at hs
  · rename_i x y h
    obtain rfl := num2_int h hn
    cases hs
    have e : lfR.cmp x y = if x < y then -1 else if y < x then 1 else 0 := rfl
    by_cases h1 : x < y
    · refine ⟨400, [true], _, fun ar lf => by conv => lhs; cbv, allP ?_, .a (.lit ?_)⟩
      · simp only [conj, arR, rcmp_lss, decide_eq_true_eq]; exact ⟨h1, trivial⟩
      · rw [e, if_pos h1]
    · by_cases h2 : y < x
      · refine ⟨400, [false, true], _, fun ar lf => by conv => lhs; cbv, allP ?_, .a (.lit ?_)⟩
        · simp only [conj, arR, rcmp_lss, rcmp_gtr, decide_eq_true_eq, decide_eq_false_iff_not]; exact ⟨h2, h1, trivial⟩
        · rw [e, if_neg h1, if_pos h2]
      · refine ⟨400, [false, false], _, fun ar lf => by conv => lhs; cbv, allP ?_, .a (.lit ?_)⟩
        · simp only [conj, arR, rcmp_lss, rcmp_gtr, decide_eq_true_eq, decide_eq_false_iff_not]; exact ⟨h2, h1, trivial⟩
        · rw [e, if_neg h1, if_neg h2]
  · cases hs
theorem tb5_ok : TblOk Try.prog (tb5 lfR) := tbL_ok (by simpa using ⟨nan_ok, cmp64_ok⟩) (by simp)

set_option maxRecDepth 100000 in
theorem rev_ok : HOk Try.prog 107 (hRev lfR) := by
  refine .of_run (hc := (tb5 lfR).hc) Try.func107 rfl (by kernel_rfl) (by kernel_rfl) fun las lbs v lbs' ps hs hp => ?_
  unfold hRev at hs
  split at hs
  · rename_i f h
    obtain ⟨rfl, rfl⟩ := sl1_some h
    cases hs
    refine ⟨rfl, fun w => ?_⟩
    refine run_ex hmix ti_ok tb5_ok 0 true 800 [] (fun ar lf => by conv => lhs; cbv) (allP ?_) ?_
    · trivial
    · refine Run.fin ti_ok rfl rfl ⟨.refl rfl, fun i b hb => ?_⟩
      match i with
      | 0 =>
        simp only [List.getElem?_cons_zero, Option.some.injEq] at hb
        subst hb
        refine ⟨_, rfl, rfl, .ints (four ?_ ?_ ?_ ?_)⟩ <;> rfl
      | i + 1 => simp at hb
  · cases hs

theorem cmp_c {x y : Int} : (lfR.cmp x y = 0 ↔ x = y) := by
  show (if x < y then (-1 : Int) else if y < x then 1 else 0) = 0 ↔ _
  split
  · omega
  · split <;> omega
theorem lex {f g : F} (hf : bd f) (hg : bd g) : lfR.wcmp (lfR.wrev f) (lfR.wrev g) = if f 0 ≠ g 0 then lfR.cmp (f 0) (g 0) else if f 1 ≠ g 1 then lfR.cmp (f 1) (g 1) else if f 2 ≠ g 2 then lfR.cmp (f 2) (g 2) else lfR.cmp (f 3) (g 3) := by
  have := hf.at
  have := hg.at
  show (if val (fun j => f (3 - j)) < val (fun j => g (3 - j)) then (-1 : Int) else if val (fun j => g (3 - j)) < val (fun j => f (3 - j)) then 1 else 0) = _
  simp only [show ∀ x y, lfR.cmp x y = if x < y then (-1 : Int) else if y < x then 1 else 0 from fun _ _ => rfl]
  unfold val
  simp only [Nat.sub_zero, Nat.reduceSub]
  omega

set_option maxRecDepth 100000 in
theorem scmp_ok : HOk Try.prog 108 (hCmp lfR) := by
  refine .of_run (hc := (tb5 lfR).hc) Try.func108 rfl (by kernel_rfl) (by kernel_rfl) fun las lbs v lbs' ps hs hp => ?_
  unfold hCmp at hs
  split at hs
  · rename_i f g h
    obtain ⟨rfl, rfl⟩ := sl2_some h
    cases hs
    have hf : bd f := hp (lfR.bd f) (by simp)
    have hg : bd g := hp (lfR.bd g) (by simp)
    have hx := lex hf hg
    refine ⟨rfl, fun w => ?_⟩
    have hB : BLe 2 [K4 f, K4 g] [some (K4 f), some (K4 g)] := by
      intro i b hb
      match i with
      | 0 => simp only [List.getElem?_cons_zero, Option.some.injEq] at hb; subst hb; exact ⟨_, rfl, rfl, .refl rfl⟩
      | 1 => simp only [List.getElem?_cons_succ, List.getElem?_cons_zero, Option.some.injEq] at hb; subst hb; exact ⟨_, rfl, rfl, .refl rfl⟩
      | i + 2 => simp at hb
    by_cases h0 : f 0 = g 0
    · by_cases h1 : f 1 = g 1
      · by_cases h2 : f 2 = g 2
        · by_cases h3 : f 3 = g 3
          · refine run_ex hmix ti_ok tb5_ok 0 true 800 [false, false, false, false] (fun ar lf => by conv => lhs; cbv) (allP ?_) ?_
            · simp only [conj, arR, N.val, rcmp_neq, decide_eq_false_iff_not, Classical.not_not, cmp_c]
              exact ⟨h3, h2, h1, h0, trivial⟩
            · refine Run.ret ti_ok rfl rfl ⟨.of (.a (.lit ?_)), hB⟩
              rw [hx, if_neg (by omega), if_neg (by omega), if_neg (by omega), cmp_c.2 h3]
          · refine run_ex hmix ti_ok tb5_ok 0 true 800 [false, false, false, true] (fun ar lf => by conv => lhs; cbv) (allP ?_) ?_
            · simp only [conj, arR, N.val, rcmp_neq, decide_eq_false_iff_not, decide_eq_true_eq, Classical.not_not, cmp_c, ne_eq]
              exact ⟨h3, h2, h1, h0, trivial⟩
            · refine Run.ret ti_ok rfl rfl ⟨.of (.a (.int ?_)), hB⟩
              rw [hx, if_neg (by omega), if_neg (by omega), if_neg (by omega)]; rfl
        · refine run_ex hmix ti_ok tb5_ok 0 true 800 [false, false, true] (fun ar lf => by conv => lhs; cbv) (allP ?_) ?_
          · simp only [conj, arR, N.val, rcmp_neq, decide_eq_false_iff_not, decide_eq_true_eq, Classical.not_not, cmp_c, ne_eq]
            exact ⟨h2, h1, h0, trivial⟩
          · refine Run.ret ti_ok rfl rfl ⟨.of (.a (.int ?_)), hB⟩
            rw [hx, if_neg (by omega), if_neg (by omega), if_pos (by omega)]; rfl
      · refine run_ex hmix ti_ok tb5_ok 0 true 800 [false, true] (fun ar lf => by conv => lhs; cbv) (allP ?_) ?_
        · simp only [conj, arR, N.val, rcmp_neq, decide_eq_false_iff_not, decide_eq_true_eq, Classical.not_not, cmp_c, ne_eq]
          exact ⟨h1, h0, trivial⟩
        · refine Run.ret ti_ok rfl rfl ⟨.of (.a (.int ?_)), hB⟩
          rw [hx, if_neg (by omega), if_pos (by omega)]; rfl
    · refine run_ex hmix ti_ok tb5_ok 0 true 800 [true] (fun ar lf => by conv => lhs; cbv) (allP ?_) ?_
      · simp only [conj, arR, N.val, rcmp_neq, decide_eq_false_iff_not, decide_eq_true_eq, Classical.not_not, cmp_c, ne_eq]
        exact ⟨h0, trivial⟩
      · refine Run.ret ti_ok rfl rfl ⟨.of (.a (.int ?_)), hB⟩
        rw [hx, if_pos (by omega)]; rfl
  · cases hs

def tb6 (lf : LF) : Tbl := tbL [] [(107, hRev lf), (108, hCmp lf)]
theorem tb6_ok : TblOk Try.prog (tb6 lfR) := tbL_ok (by simp) (by simpa using ⟨rev_ok, scmp_ok⟩)
set_option maxRecDepth 100000 in
theorem wcmp_ok : CallOk Try.prog 51 (sCmp lfR) := by
  refine .eval (tb := tb6) hmix ti_ok tb6_ok Try.func51 rfl (by kernel_rfl) (by kernel_rfl) fun xs v ps hs hp => ?_
  unfold sCmp at hs
  split at hs
  · rename_i f g h
    obtain rfl := arr2_some h
    cases hs
    have hf : bd f := hp (lfR.bd f) (by simp)
    have hg : bd g := hp (lfR.bd g) (by simp)
    refine ⟨400, [], _, fun ar lf => by conv => lhs; cbv, allP ?_, ?_⟩
    · simp only [conj]
      refine ⟨?_, ?_, trivial⟩
      · intro j hj; exact hf (3 - j) (by omega)
      · intro j hj; exact hg (3 - j) (by omega)
    · refine .a (.int ?_)
      show (if val _ < val _ then (-1 : Int) else if val _ < val _ then 1 else 0) = if val _ < val _ then (-1 : Int) else if val _ < val _ then 1 else 0
      have e : ∀ f : F, val (lfR.wrev (lfR.wrev f)) = val f := fun f => val_congr (four rfl rfl rfl rfl)
      rw [e, e]
  · cases hs
end Go.Proofs.Ytegcdnjihnpolaa
