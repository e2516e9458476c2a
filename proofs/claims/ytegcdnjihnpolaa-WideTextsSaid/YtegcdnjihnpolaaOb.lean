import Derived.Test.YtegcdnjihnpolaaOa
import Derived.Test.YtegcdnjihnpolaaEy
import Derived.Test.YtegcdnjihnpolaaWn
import Derived.Test.YtegcdnjihnpolaaVh
set_option linter.unusedSimpArgs false
set_option linter.unusedVariables false
namespace Go.Eng
open Go
/-- how many digits -/
def ndigF : Nat → Int → Nat
  | 0, _ => 1
  | k + 1, n => if n / 10 = 0 then 1 else ndigF k (n / 10) + 1
def ndig (n : Int) : Nat := ndigF 100 n
theorem ndigF_eq : ∀ {k m : Nat} {n : Int}, 0 ≤ n → n / 10 ^ (k + 1) = 0 → (k = 0 ∨ n / 10 ^ k ≠ 0) → k < m → ndigF m n = k + 1
  | k, 0, n, _, _, _, hm => by omega
  | 0, m + 1, n, h0, h1, _, _ => by
    rw [Nat.zero_add, Int.pow_succ, Int.pow_zero, Int.one_mul] at h1
    simp only [ndigF, h1, if_pos]
  | k + 1, m + 1, n, h0, h1, h2, hm => by
    have hp : (0 : Int) < 10 ^ (k + 1) := Int.pow_pos (by decide)
    have e1 : n / 10 ^ (k + 1 + 1) = n / 10 / 10 ^ (k + 1) := by
      rw [Int.ediv_ediv_of_nonneg (by decide), ← Int.pow_succ']
    have e2 : n / 10 ^ (k + 1) = n / 10 / 10 ^ k := by
      rw [Int.ediv_ediv_of_nonneg (by decide), ← Int.pow_succ']
    rw [e1] at h1
    rw [e2] at h2
    have hne : n / 10 ≠ 0 := by
      intro h
      rw [h, Int.zero_ediv] at h2
      rcases h2 with h2 | h2
      · omega
      · exact h2 rfl
    have ih := ndigF_eq (k := k) (m := m) (n := n / 10) (by omega) h1 (.inr (by
      rcases h2 with h2 | h2
      · omega
      · exact h2)) (by omega)
    simp only [ndigF, if_neg hne, ih]
def textOf (n : Int) : ByteArray := strOf (fun j => 48 + n / 10 ^ (ndig n - 1 - j) % 10) (ndig n)
structure LT where
  lf : LF
  lb : LB
  text : F → ByteArray
def ltR : LT := ⟨lfR, lbR, fun f => textOf (val f)⟩
def sText (l : LT) : ESpec := fun a => match arr1 a with
  | some f => some (.a (.one (.str (l.text f))), [l.lf.bd f])
  | none => none
end Go.Eng
namespace Go.Proofs.Ytegcdnjihnpolaa
open Go Go.Eng Go.Proofs Go.RowKit
attribute [local irreducible] CallOk HOk Run Mid TIok rbin rcmp run1 words val updF shfF blitF strOf textOf ndig
theorem ltlf : ltR.lf = lfR := rfl
theorem ltlb : ltR.lb = lbR := rfl
def to1 (l : LT) : Tbl := tbL [(93, sFrom l.lf), (56, sDiv l.lf), (55, sZero l.lf)] [(109, hRevB l.lb)]
theorem to1_ok : TblOk Try.prog (to1 ltR) := tbL_ok (by simpa [ltlf] using ⟨from_ok, div_ok, zero_ok⟩) (by simpa [ltlb] using revb_ok)
theorem AppT.of {P : Program} {T e : TypeId} {k : IntKind} {size bytes : Nat} (ht : P.underlying T = some (.slice e)) (h : (P.info? e).map (fun i => (i.size, i.bytes, i.zero.map Value.cells)) = some (size, bytes, some (Array.replicate size (.int k 0)))) (hp : 0 < size) : AppT P T e k size bytes := by
  refine ⟨ht, ?_, hp⟩
  cases hi : P.info? e with
  | none => rw [hi] at h; cases h
  | some i =>
    rw [hi] at h
    simp only [Option.map_some, Option.some.injEq, Prod.mk.injEq] at h
    obtain ⟨h1, h2, h3⟩ := h
    cases hz : i.zero with
    | none => rw [hz] at h3; cases h3
    | some z =>
      rw [hz] at h3
      simp only [Option.map_some, Option.some.injEq] at h3
      exact ⟨i, z, rfl, hz, h1, h2, h3⟩
theorem bytesT : AppT Try.prog 143 5 .u8 1 1 := AppT.of Try.underlying143 (by kernel_rfl) (by decide)
theorem ltbd : ltR.lf.bd = bd := rfl
def TX (n : Int) (μ : Nat) (p : F × (Nat → Int) × Nat × Nat × Nat) : Prop :=
  0 < p.2.2.2.2 ∧ p.2.2.1 = 1 * p.2.2.2.1 ∧ p.2.2.2.2 ≤ p.2.2.2.1 ∧ (∀ j, j < 4 → p.1 j = words (n / 10 ^ p.2.2.2.2) j) ∧ (∀ j, j < p.2.2.2.2 → p.2.1 j = 48 + n / 10 ^ j % 10) ∧
    (p.2.2.2.2 = 1 ∨ n / 10 ^ (p.2.2.2.2 - 1) ≠ 0) ∧ (val p.1 = 0 ∨ (val p.1).toNat < μ)
def TS (n : Int) (i : Option (F × (Nat → Int) × Nat × Nat × Nat)) : Prop := match i with
  | none => True
  | some p => 0 < p.2.2.2.2 ∧ p.2.2.1 = 1 * p.2.2.2.1 ∧ p.2.2.2.2 ≤ p.2.2.2.1 ∧ (∀ j, j < 4 → p.1 j = words (n / 10 ^ p.2.2.2.2) j) ∧ (∀ j, j < p.2.2.2.2 → p.2.1 j = 48 + n / 10 ^ j % 10) ∧
    val p.1 ≠ 0
def TM (f : F) (i : Option (F × (Nat → Int) × Nat × Nat × Nat)) : Nat := match i with
  | none => (val f).toNat
  | some p => (val p.1).toNat
theorem digit8 {n : Int} {r : F} (h0 : 0 ≤ n) (hr : ∀ j, j < 4 → r j = words (n % 10) j) : IntKind.u8.wrap (rbin .add .u64 48 (r (N.lit 0).val)) = 48 + n % 10 := by
  have h := hr 0 (by decide)
  rw [words0] at h
  rw [show (N.lit 0).val = 0 from rfl, h, rbin_add, wrap_u8]
  omega
theorem val_of_words {q : F} {n : Int} (h0 : 0 ≤ n) (h1 : n < (115792089237316195423570985008687907853269984665640564039457584007913129639936 : Int)) (hq : ∀ j, j < 4 → q j = words n j) : val q = n := by
  rw [val_congr hq, val_words_of h0 h1]
theorem pow_div {n : Int} (k : Nat) : n / 10 ^ k / 10 = n / 10 ^ (k + 1) := by
  rw [Int.ediv_ediv_of_nonneg (Int.le_of_lt (Int.pow_pos (by decide))), ← Int.pow_succ]
theorem pow_div_bd {n : Int} (h : 0 ≤ n ∧ n < (115792089237316195423570985008687907853269984665640564039457584007913129639936 : Int)) (k : Nat) : 0 ≤ n / 10 ^ k ∧ n / 10 ^ k < (115792089237316195423570985008687907853269984665640564039457584007913129639936 : Int) := by
  have hp : (0 : Int) < 10 ^ k := Int.pow_pos (by decide)
  exact ⟨Int.ediv_nonneg h.1 (Int.le_of_lt hp), Int.lt_of_le_of_lt (Int.ediv_le_self _ h.1) h.2⟩
theorem few_digits {n : Int} (h : n < (115792089237316195423570985008687907853269984665640564039457584007913129639936 : Int)) (h0 : 0 ≤ n) {k : Nat} (hk : n / 10 ^ k ≠ 0) : k < 78 := by
  apply Decidable.byContradiction
  intro hlt
  apply hk
  have h1 : (10 : Int) ^ 78 ≤ 10 ^ k := by
    have := Nat.pow_le_pow_right (n := 10) (by decide) (show 78 ≤ k by omega)
    exact_mod_cast this
  exact Int.ediv_eq_zero_of_lt h0 (Int.lt_of_lt_of_le (by have : (115792089237316195423570985008687907853269984665640564039457584007913129639936 : Int) < 10 ^ 78 := by decide
                                                          omega) h1)
theorem text_eq {n : Int} {D : Nat → Int} {m : Nat} (h0 : 0 < m) (hn : 0 ≤ n) (hz : n / 10 ^ m = 0) (hd : m = 1 ∨ n / 10 ^ (m - 1) ≠ 0) (hlt : m ≤ 78) (hD : ∀ j, j < m → D j = 48 + n / 10 ^ j % 10) :
    strOf (fun j => lbR.rev D m ((N.lit 0).val + j)) (N.sym m).val = textOf n := by
  obtain ⟨k, rfl⟩ : ∃ k, m = k + 1 := ⟨m - 1, by omega⟩
  have hnd : ndig n = k + 1 := by
    unfold ndig
    refine ndigF_eq hn hz ?_ (by omega)
    rcases hd with hd | hd
    · left; omega
    · right; exact hd
  unfold textOf
  rw [hnd]
  refine strOf_congr fun j hj => ?_
  have hj : j < k + 1 := hj
  show revN D (k + 1) (0 + j) = _
  unfold revN
  rw [Nat.zero_add, if_pos hj, hD _ (by omega)]
set_option maxRecDepth 100000 in
theorem text_ok : CallOk Try.prog 61 (sText ltR) := by
  refine .of_run (hc := (to1 ltR).hc) Try.func61 rfl (by kernel_rfl) (by kernel_rfl) fun xs v ps hs hp w => ?_
  unfold sText at hs
  split at hs
  · rename_i f h
    obtain rfl := arr1_some h
    cases hs
    have hf : bd f := hp (lfR.bd f) (by simp [ltR])
    clear hp h
    have hvf := val_bd hf
    have w10 : ∀ j, j < 4 → lfR.wfrom 10 j = words 10 j := fun j _ => rfl
    have v10 : val (lfR.wfrom 10) = 10 := by rw [val_congr w10, val_words_of (by decide) (by decide)]
    refine run_ex hmix ti_ok to1_ok 0 false 800 [] (fun ar lf => by conv => lhs; cbv) (allP ?_) ?_
    · trivial
    refine Run.cut [1, 3] [] 1 (by decide) rfl rfl ?_
    refine Run.loop (ι := {i : Option (F × (Nat → Int) × Nat × Nat × Nat) // TS (val f) i})
      (fun i => match i.1 with
        | none => ([.any, .a (.one (.ptr 0 (.lit 0))), .any, .a (.one .nsl)] ++ List.replicate 24 .any, [some (K4 f)])
        | some p => ([.any, .a (.one (.ptr 0 (.lit 0))), .any, .a (.one (.sl 1 (.lit 0) (.sym p.2.2.2.2) (.sym p.2.2.2.1)))] ++ List.replicate 24 .any, [some (K4 p.1), some ⟨false, .ints .u8 (.sym p.2.2.1) p.2.1⟩]))
      (fun i => TM f i.1) ⟨none, trivial⟩ ?_
    intro i ih
    refine share ?X ?T (ι := {p : F × (Nat → Int) × Nat × Nat × Nat // TX (val f) (TM f i.1) p} × F)
      (fun i => ([.any, .a (.one (.ptr 0 (.lit 0))), .any, .a (.one (.sl 2 (.lit 0) (.sym i.1.1.2.2.2.2) (.sym i.1.1.2.2.2.1))), .a (.one (.ptr 1 (.lit 0)))] ++ List.replicate 23 .any, [some (K4 i.2), some (K4 i.1.1.1), some ⟨false, .ints .u8 (.sym i.1.1.2.2.1) i.1.1.2.1⟩])) ?_ ?_
    rotate_left 2
    · intro tail
      obtain ⟨i, hi⟩ := i
      cases i with
      | none =>
        simp only at ih ⊢
        refine run_ex hmix ti_ok to1_ok 2 false 800 [] (fun ar lf => by conv => lhs; cbv) (allP ?_) ?_
        · simp only [conj]
          exact ⟨hf, words_bd _, ⟨by decide, by decide⟩, trivial⟩
        refine Run.pack [0, 8, 9] [1, 3, 4, 5] (bs := [K4 f, K4 (lfR.wdivQ f (lfR.wfrom 10)), K4 (lfR.wdivR f (lfR.wfrom 10))]) (by decide) rfl rfl ?_
        refine Run.fam3 (ι := {p : F × F // (∀ j, j < 4 → p.1 j = words (val f / 10) j) ∧ (∀ j, j < 4 → p.2 j = words (val f % 10) j)})
          (fun i => ([.any, .a (.one (.ptr 0 (.lit 0))), .any, .a (.one .nsl), .a (.one (.ptr 1 (.lit 0))), .a (.one (.ptr 2 (.lit 0)))] ++ List.replicate 22 .any, [some (K4 f), some (K4 i.1.1), some (K4 i.1.2)])) ⟨(_, _), ?_, ?_⟩ ?_
        · intro j hj; show words (val f / val (lfR.wfrom 10)) j = _; rw [v10]
        · intro j hj; show words (if val (lfR.wfrom 10) = 0 then 0 else val f % val (lfR.wfrom 10)) j = _; rw [v10]; rfl
        rintro ⟨⟨q, r⟩, hq, hr⟩
        simp only at hq hr
        refine Mid.start (s' := []) (o' := []) ?_
        refine Mid.eval ti_ok to1_ok 5 rfl (fun ar lf => by conv => lhs; cbv) ?_ ?_
        · refine allP ?_
          simp only [conj]
        refine Mid.slice1 rfl rfl rfl rfl bytesT rfl (Nat.zero_le _) ?_
        refine Mid.append_nil rfl rfl rfl rfl bytesT rfl rfl rfl (Nat.le_refl _) (by decide) rfl (Nat.zero_le _) (by decide) (by decide) ?_
        intro c' f' hc hf'
        refine Mid.assign ti_ok to1_ok rfl rfl (.inl rfl) rfl rfl ?_
        refine Mid.done (Nat.le_refl _) ?_
        refine Run.pack [0, 1, 4] [1, 3, 4] (bs := [K4 f, K4 q, ⟨false, .ints .u8 (.sym (1 * c')) f'⟩]) (by decide) rfl rfl ?_
        refine tail (⟨(q, f', 1 * c', c', 1), ?_⟩, f)
        have hvq : val q = val f / 10 := val_of_words (by omega) (by omega) hq
        refine ⟨Nat.one_pos, rfl, hc, fun j hj => by show q j = words (val f / 10 ^ 1) j; rw [hq j hj, Int.pow_succ, Int.pow_zero, Int.one_mul], fun j hj => ?_, .inl rfl, ?_⟩
        · obtain rfl : j = 0 := by simp only at hj; omega
          show f' 0 = 48 + val f / 10 ^ 0 % 10
          rw [hf' 0 (by decide), Int.pow_zero, Int.ediv_one]
          exact digit8 hvf.1 hr
        · simp only [TM, hvq]; omega
      | some p =>
        obtain ⟨A, D, M, C, k⟩ := p
        obtain ⟨hk, hM, hkC, hA, hD, hne⟩ := hi
        simp only at hk hM hkC hA hD hne
        simp only at ih ⊢
        have hvA : val A = val f / 10 ^ k := val_of_words (pow_div_bd hvf k).1 (pow_div_bd hvf k).2 hA
        have hbA : bd A := bd.congr (fun j hj => (hA j hj).symm) (words_bd _)
        have hv := pow_div_bd hvf k
        have hk78 := few_digits hvf.2 hvf.1 (k := k) (by rw [← hvA]; exact hne)
        have hmax : maxLen = 9223372036854775807 := by decide
        refine run_ex hmix ti_ok to1_ok 2 false 800 [] (fun ar lf => by conv => lhs; cbv) (allP ?_) ?_
        · simp only [conj]
          exact ⟨hbA, words_bd _, ⟨by decide, by decide⟩, trivial⟩
        refine Run.pack [0, 9, 10, 1] [1, 3, 4, 5] (bs := [K4 A, K4 (lfR.wdivQ A (lfR.wfrom 10)), K4 (lfR.wdivR A (lfR.wfrom 10)), ⟨false, .ints .u8 (.sym M) D⟩]) (by decide) rfl rfl ?_
        refine Run.fam3 (ι := {p : F × F // (∀ j, j < 4 → p.1 j = words (val A / 10) j) ∧ (∀ j, j < 4 → p.2 j = words (val A % 10) j)})
          (fun i => ([.any, .a (.one (.ptr 0 (.lit 0))), .any, .a (.one (.sl 3 (.lit 0) (.sym k) (.sym C))), .a (.one (.ptr 1 (.lit 0))), .a (.one (.ptr 2 (.lit 0)))] ++ List.replicate 22 .any, [some (K4 A), some (K4 i.1.1), some (K4 i.1.2), some ⟨false, .ints .u8 (.sym M) D⟩])) ⟨(_, _), ?_, ?_⟩ ?_
        · intro j hj; show words (val A / val (lfR.wfrom 10)) j = _; rw [v10]
        · intro j hj; show words (if val (lfR.wfrom 10) = 0 then 0 else val A % val (lfR.wfrom 10)) j = _; rw [v10]; rfl
        rintro ⟨⟨q, r⟩, hq, hr⟩
        simp only at hq hr
        refine Mid.start (s' := []) (o' := []) ?_
        refine Mid.eval ti_ok to1_ok 5 rfl (fun ar lf => by conv => lhs; cbv) ?_ ?_
        · refine allP ?_
          simp only [conj]
        refine Mid.slice1 rfl rfl rfl rfl bytesT rfl (Nat.zero_le _) ?_
        refine Mid.append rfl rfl rfl rfl bytesT rfl rfl (Nat.zero_le _) hM rfl rfl rfl (Nat.le_refl _) (by decide) hkC (Nat.zero_le _) (show k + 1 ≤ maxLen by omega) (show (k + 1) * 1 ≤ 140737488355328 by omega) ?_
        intro c' f' hc hf1 hf2
        refine Mid.assign ti_ok to1_ok rfl rfl (.inl rfl) rfl rfl ?_
        refine Mid.done (Nat.le_refl _) ?_
        refine Run.pack [0, 1, 3] [1, 3, 4] (bs := [K4 A, K4 q, ⟨false, .ints .u8 (.sym (1 * c')) f'⟩]) (by decide) rfl rfl ?_
        refine tail (⟨(q, f', 1 * c', c', k + 1), ?_⟩, A)
        have hvq : val q = val A / 10 := val_of_words (by omega) (by omega) hq
        refine ⟨Nat.succ_pos k, rfl, hc, fun j hj => by show q j = words (val f / 10 ^ (k + 1)) j; rw [hq j hj, hvA, pow_div], fun j hj => ?_, .inr (by show val f / 10 ^ (k + 1 - 1) ≠ 0; rw [show k + 1 - 1 = k from rfl, ← hvA]; exact hne), ?_⟩
        · simp only at hj ⊢
          by_cases hjk : j < k
          · rw [hf1 j (by simp only [N.val]; omega), hD j hjk]
          · obtain rfl : j = k := by omega
            have e := hf2 0 (by decide)
            simp only [N.val, Nat.one_mul, Nat.add_zero] at e
            rw [e, ← hvA]
            exact digit8 (by omega) hr
        · simp only [TM, hvq]; omega
    · rintro ⟨⟨⟨q, D, M, C, n1⟩, ht⟩, A⟩
      obtain ⟨h0, hM, hC, hq, hD, hd, hμ⟩ := ht
      simp only at h0 hM hC hq hD hd hμ
      have hbq : bd q := bd.congr (fun j hj => (hq j hj).symm) (words_bd _)
      have hvq : val q = val f / 10 ^ n1 := val_of_words (pow_div_bd hvf n1).1 (pow_div_bd hvf n1).2 hq
      have h78 : n1 ≤ 78 := by
        rcases hd with hd | hd
        · omega
        · have := few_digits hvf.2 hvf.1 hd; omega
      by_cases hz : val q = 0
      · refine run_ex hmix ti_ok to1_ok 1 false 800 [true] (fun ar lf => by conv => lhs; cbv) (allP ?_) ?_
        · simp only [conj]
          exact ⟨⟨by omega, by omega⟩, by show decide (val q = 0) = true; simpa using hz, hbq, trivial⟩
        refine Run.pack [2] [3] (bs := [⟨false, .ints .u8 (.sym M) (lbR.rev D n1)⟩]) (by decide) rfl rfl ?_
        refine Mid.start (s' := []) (o' := []) ?_
        refine Mid.assign ti_ok to1_ok rfl rfl (.inr rfl) rfl rfl ?_
        refine Mid.toStr rfl rfl rfl rfl Try.underlying143 Try.underlying5 Try.underlying9 rfl rfl (by simp only [N.val]; omega) (by simp only [N.val]; omega) rfl (Nat.zero_le _) ?_
        refine Mid.assign ti_ok to1_ok rfl rfl (.inl rfl) rfl rfl ?_
        refine Mid.done (Nat.le_refl _) ?_
        rw [text_eq h0 hvf.1 (by rw [← hvq]; exact hz) hd h78 hD]
        refine Run.pack [] [2] (bs := []) (by decide) rfl rfl ?_
        refine Run.fam3 (ι := {s : ByteArray // s = textOf (val f)}) (fun i => ([.any, .any, .a (.one (.str i.1))] ++ List.replicate 25 .any, [])) ⟨_, rfl⟩ ?_
        rintro ⟨s, hs⟩
        refine run_ex hmix ti_ok to1_ok 99 false 800 [] (fun ar lf => by conv => lhs; cbv) (allP ?_) ?_
        · trivial
        refine Run.ret ti_ok rfl rfl ?_
        exact .a (.str hs)
      · refine run_ex hmix ti_ok to1_ok 1 false 800 [false] (fun ar lf => by conv => lhs; cbv) (allP ?_) ?_
        · simp only [conj]
          exact ⟨by show decide (val q = 0) = false; simpa using hz, hbq, trivial⟩
        refine Run.pack [0, 2] [1, 3] (bs := [K4 q, ⟨false, .ints .u8 (.sym M) D⟩]) (by decide) rfl rfl ?_
        refine ih ⟨some (q, D, M, C, n1), h0, hM, hC, hq, hD, hz⟩ ?_ _ _
        rcases hμ with hμ | hμ
        · exact absurd hμ hz
        · exact hμ
  · cases hs
end Go.Proofs.Ytegcdnjihnpolaa
