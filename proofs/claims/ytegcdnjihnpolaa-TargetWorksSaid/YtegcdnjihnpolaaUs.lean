import Derived.Test.YtegcdnjihnpolaaUr
set_option linter.unusedSimpArgs false
set_option linter.unusedVariables false
namespace Go.Eng
open Go
section
/-- the state as one of a family -/
theorem Run.fam {P : Program} {hc : FuncId → Bool} {W0 : World} {m0 : Nat} {fn : Func} {R : V → Heap → Prop} {ι : Type} (S : ι → List V × Heap) {x : Item} {T : List Item} (i0 : ι)
    (h : ∀ i, Run P hc W0 m0 fn R ⟨(S i).1, (S i).2, x :: T, [], []⟩) : Run P hc W0 m0 fn R ⟨(S i0).1, (S i0).2, x :: T, [], []⟩ := h i0
end
def num32b : List A → Option (Int × Int)
  | [.one a, .one b] => match a.num?, b.num? with
    | some (.u32, x, _), some (.u32, y, _) => some (x, y)
    | _, _ => none
  | _ => none
theorem num32b_some {l : List A} {x y : Int} (h : num32b l = some (x, y)) : ∃ a b u v, l = [.one a, .one b] ∧ a.num? = some (.u32, x, u) ∧ b.num? = some (.u32, y, v) := by
  unfold num32b at h
  split at h
  · split at h
    · rename_i h1 h2; cases h; exact ⟨_, _, _, _, rfl, h1, h2⟩
    · cases h
  · cases h
theorem num32b_norm {l : List A} {x y : Int} (h : num32b l = some (x, y)) : num32b (l.map A.norm) = some (x, y) := by
  obtain ⟨a, b, u, v, rfl, h1, h2⟩ := num32b_some h
  rcases num_cases h1 with rfl | rfl <;> rcases num_cases h2 with rfl | rfl <;> rfl
theorem num32b_int {l : List A} {x y : Int} (h : num32b l = some (x, y)) (hn : l.map A.norm = l) : l = [U32 x, U32 y] := by
  obtain ⟨a, b, u, v, rfl, h1, h2⟩ := num32b_some h
  rcases num_cases h1 with rfl | rfl <;> rcases num_cases h2 with rfl | rfl <;> first | rfl | cases hn
theorem num32b_spec_norm {g : Int → Int → V × List Prop} {s : ESpec} (hs : ∀ l, s l = match num32b l with
  | some (x, y) => some (g x y)
  | none => none) : ∀ l r, s l = some r → s (l.map A.norm) = some r := by
  intro l r h
  rw [hs] at h ⊢
  split at h
  · rename_i x y h1
    rw [num32b_norm h1]; exact h
  · cases h
def sHarder (l : LN) : ESpec := fun a => match num32b a with
  | some (x, y) => some (.a (B (l.harder x y)), [l.l5.u32 x, l.l5.u32 y])
  | none => none
def sLawW (l : LN) : ESpec := fun a => match num32b a with
  | some (x, y) => some (.a (.one (.lbool true)), [l.l5.u32 x, l.l5.u32 y])
  | none => none
end Go.Eng
namespace Go.Proofs.Ytegcdnjihnpolaa
open Go Go.Eng Go.Proofs Go.RowKit
attribute [local irreducible] CallOk HOk Run TIok rbin rcmp run1 words val updF shfF blitF pv V40 nb wq tgt rb tlim tgood tval cmant bytesOf gk workOf cpt
theorem te_good {b : Int} (h : tgood b = true) : l5R.te b = 0 := by show (if tgood b = true then (0 : Int) else 50) = 0; rw [h]; rfl
theorem te_bad {b : Int} (h : tgood b = false) : l5R.te b = 50 := by show (if tgood b = true then (0 : Int) else 50) = 50; rw [h]; rfl
theorem neq_yes {x y : Int} (h : x ≠ y) : rcmp .neq x y = true := by rw [rcmp_neq]; exact decide_eq_true h
theorem eql_no {x y : Int} (h : x ≠ y) : rcmp .eql x y = false := by rw [rcmp_eql]; exact decide_eq_false h
theorem eql_te {b : Int} (h : tgood b = false) : rcmp .eql (l5R.te b) 0 = false := eql_no (by rw [te_bad h]; decide)
def tw1 (l : LN) : Tbl := tbL [(83, sWork l), (94, sLow l.l5)] []
theorem tw1_ok : TblOk Try.prog (tw1 lnR) := tbL_ok (by simpa [lnl5] using ⟨work_ok, low_ok⟩) (by simp)
set_option maxRecDepth 100000 in
theorem tries_ok : CallOk Try.prog 85 (sTries lnR) := by
  refine .evalN (tb := tw1) hmix ti_ok tw1_ok Try.func85 rfl (by kernel_rfl) (by kernel_rfl) (num32_spec_norm (g := fun b => (.tup [U (lnR.tries b), I (lnR.l5.te b)], [lnR.l5.u32 b])) (fun l => rfl)) fun xs v ps hn hs hp => ?_
  unfold sTries at hs
  split at hs
  · rename_i b h
    obtain rfl := num32_int h hn
    cases hs
    have hb : 0 ≤ b ∧ b < 4294967296 := hp (l5R.u32 b) (by simp [lnR])
    clear hp h hn
    have hw := workOf_lt b
    have hvw : val (lnR.ww b) = workOf b := val_words_of hw.1 hw.2
    by_cases hg : tgood b = true
    · have hte := te_good hg
      have hte2 : rcmp .neq (l5R.te b) 0 = false := by rw [hte]; exact neq_self 0
      by_cases hs : workOf b < (18446744073709551616 : Int)
      · have hlb : l5R.lowB (lnR.ww b) = true := decide_eq_true (by rw [hvw]; exact hs)
        refine ⟨800, [false, false], _, fun ar lf => by conv => lhs; cbv, allP ?_, .tup2 (.int ?_) (.lit hte.symm)⟩
        · simp only [conj]
          exact ⟨congrArg (fun b => !b) hlb, words_bd _, hte2, hb, trivial⟩
        · show (if val (lnR.ww b) < (18446744073709551616 : Int) then val (lnR.ww b) else 0) = if workOf b < (18446744073709551616 : Int) then workOf b else 18446744073709551615
          rw [hvw, if_pos hs, if_pos hs]
      · have hlb : l5R.lowB (lnR.ww b) = false := decide_eq_false (by rw [hvw]; exact hs)
        refine ⟨800, [false, true], _, fun ar lf => by conv => lhs; cbv, allP ?_, .tup2 (.lit ?_) (.lit hte.symm)⟩
        · simp only [conj]
          exact ⟨congrArg (fun b => !b) hlb, words_bd _, hte2, hb, trivial⟩
        · exact (if_neg hs).symm
    · have hg0 : tgood b = false := by simpa using hg
      have hte2 : rcmp .neq (l5R.te b) 0 = true := by rw [te_bad hg0]; exact neq_yes (by decide)
      have hw0 : workOf b = 0 := by unfold workOf; rw [hg0]; rfl
      refine ⟨800, [true], _, fun ar lf => by conv => lhs; cbv, allP ?_, .tup2 (.lit ?_) (.int rfl)⟩
      · simp only [conj]
        exact ⟨hte2, hb, trivial⟩
      · show 0 = if workOf b < (18446744073709551616 : Int) then workOf b else 18446744073709551615
        rw [hw0]; rfl
  · cases hs
theorem cmp_lt0 {f g : F} : rcmp .lss (lfR.wcmp f g) 0 = decide (val f < val g) := by
  rw [rcmp_lss']
  show decide ((if val f < val g then (-1 : Int) else if val g < val f then 1 else 0) < 0) = _
  rw [decide_eq_decide]
  split
  · omega
  · split <;> omega
def tw2 (l : LN) : Tbl := tbL [(62, sExpand l.l5), (51, sCmp l.l5.lf)] []
theorem tw2_ok : TblOk Try.prog (tw2 lnR) := tbL_ok (by simpa [lnl5, l5lf] using ⟨expand_ok, wcmp_ok⟩) (by simp)
set_option maxRecDepth 100000 in
theorem harder_ok : CallOk Try.prog 86 (sHarder lnR) := by
  refine .evalN (tb := tw2) hmix ti_ok tw2_ok Try.func86 rfl (by kernel_rfl) (by kernel_rfl) (num32b_spec_norm (g := fun x y => (.a (B (lnR.harder x y)), [lnR.l5.u32 x, lnR.l5.u32 y])) (fun l => rfl)) fun xs v ps hn hs hp => ?_
  unfold sHarder at hs
  split at hs
  · rename_i x y h
    obtain rfl := num32b_int h hn
    cases hs
    have hx : 0 ≤ x ∧ x < 4294967296 := hp (l5R.u32 x) (by simp [lnR])
    have hy : 0 ≤ y ∧ y < 4294967296 := hp (l5R.u32 y) (by simp [lnR])
    clear hp h hn
    have hl := tlim_lt
    have hvx : val (l5R.tw x) = tval x := val_words_of (tval_lt x).1 (by have := (tval_lt x).2; omega)
    have hvy : val (l5R.tw y) = tval y := val_words_of (tval_lt y).1 (by have := (tval_lt y).2; omega)
    by_cases hgx : tgood x = true
    · by_cases hgy : tgood y = true
      · refine ⟨800, [true, true], _, fun ar lf => by conv => lhs; cbv, allP ?_, .a (.bool ?_)⟩
        · simp only [conj]
          exact ⟨words_bd _, words_bd _, eql_yes (te_good hgy), eql_yes (te_good hgx), hy, hx, trivial⟩
        · refine cmp_lt0.trans ?_
          show decide (val (l5R.tw x) < val (l5R.tw y)) = (tgood x && tgood y && decide (tval x < tval y))
          rw [hvx, hvy, hgx, hgy, Bool.true_and, Bool.true_and]
      · have hgy0 : tgood y = false := by simpa using hgy
        refine ⟨800, [true, false], _, fun ar lf => by conv => lhs; cbv, allP ?_, .a (.lbool ?_)⟩
        · simp only [conj]
          exact ⟨eql_te hgy0, eql_yes (te_good hgx), hy, hx, trivial⟩
        · show false = (tgood x && tgood y && decide (tval x < tval y))
          rw [hgy0, Bool.and_false, Bool.false_and]
    · have hgx0 : tgood x = false := by simpa using hgx
      refine ⟨800, [false], _, fun ar lf => by conv => lhs; cbv, allP ?_, .a (.lbool ?_)⟩
      · simp only [conj]
        exact ⟨eql_te hgx0, hy, hx, trivial⟩
      · show false = (tgood x && tgood y && decide (tval x < tval y))
        rw [hgx0, Bool.false_and, Bool.false_and]
  · cases hs
end Go.Proofs.Ytegcdnjihnpolaa
