import Derived.Test.YtlbllaocdilafaaMy
set_option linter.unusedSimpArgs false
set_option linter.unusedVariables false
namespace Go.Eng
open Go
def half (n : Nat) : Nat := n / 2 + n % 2
def wid (n : Nat) : Nat → Nat
  | 0 => n
  | k + 1 => half (wid n k)
theorem wid_le (n k : Nat) : wid n k ≤ n ∧ (0 < n → 0 < wid n k) := by
  induction k with
  | zero => exact ⟨Nat.le_refl _, id⟩
  | succ k ih => simp only [wid, half]; omega
theorem dep_le (k n : Nat) (h : n ≤ 2 ^ k) : dep n ≤ k := by
  induction k generalizing n with
  | zero => rw [dep, dif_neg (by simp at h; omega)]; omega
  | succ k ih =>
    rw [dep]
    split
    · have := ih (n / 2 + n % 2) (by rw [Nat.pow_succ] at h; omega)
      omega
    · omega
def wsL (n : Nat) : List D := (List.range (dep n + 1)).map fun k => .int (wid n k : Nat)
theorem wsL_len (n : Nat) : (wsL n).length = dep n + 1 := by simp [wsL]
theorem wsL_get {n k : Nat} (h : k < dep n + 1) : (wsL n).getD k (.int 0) = .int (wid n k : Nat) := by
  rw [List.getD_eq_getElem?_getD, List.getElem?_eq_getElem (by rw [wsL_len]; exact h)]
  simp [wsL]
def leafR (ids : List D) (a : Int) (m : Bool) (s : Rd) : Rd × Fn8 :=
  if (ids.length : Int) ≤ s.i then (⟨s.b, s.i, s.pl, s.me, true⟩, fun _ => 0)
  else leafI ids a m s
def rdR (bits ids : List D) (n : Nat) : Nat → Int → Rd → Rd × Fn8
  | 0, a, s => if s.bad = true ∨ (bits.length : Int) ≤ s.b then (⟨s.b, s.i, s.pl, s.me, true⟩, fun _ => 0)
    else leafR ids a (bits.getD s.b.toNat (.int 0)).bool! ⟨s.b + 1, s.i, s.pl, s.me, s.bad⟩
  | l + 1, a, s => if s.bad = true ∨ (bits.length : Int) ≤ s.b then (⟨s.b, s.i, s.pl, s.me, true⟩, fun _ => 0)
    else if (bits.getD s.b.toNat (.int 0)).bool! = true then
      (let x := rdR bits ids n l (2 * a) ⟨s.b + 1, s.i, s.pl, s.me, s.bad⟩
       if (wid n l : Int) ≤ 2 * a + 1 then (x.1, prF x.2 x.2)
       else (let y := rdR bits ids n l (2 * a + 1) x.1
        (⟨y.1.b, y.1.i, y.1.pl, y.1.me, y.1.bad || eqF x.2 y.2⟩, prF x.2 y.2)))
    else leafR ids a false ⟨s.b + 1, s.i, s.pl, s.me, s.bad⟩
theorem rdR_bad (bits ids : List D) (n l : Nat) (a : Int) (s : Rd) (h : s.bad = true) : (rdR bits ids n l a s).1.bad = true := by
  cases l <;> (unfold rdR; rw [if_pos (.inl h)])
theorem rdI_bad (bits ids ws : List D) (l : Nat) (a : Int) (s : Rd) (h : s.bad = true) : (rdI bits ids ws l a s).1.bad = true := by
  cases l <;> (unfold rdI; rw [if_pos (.inl h)])
theorem leaf_same (ids : List D) (a : Int) (m : Bool) (s : Rd) (hb : s.bad = false) : (leafI ids a m s).1.bad = (leafR ids a m s).1.bad ∧ ((leafI ids a m s).1.bad = false → leafI ids a m s = leafR ids a m s) := by
  unfold leafR
  split
  · rename_i h
    unfold leafI
    rw [if_pos h]
    exact ⟨rfl, fun h => by cases h⟩
  · exact ⟨rfl, fun _ => rfl⟩
/-- both readings come to the same -/
theorem rd_same (bits ids : List D) (n : Nat) (l : Nat) : l < dep n + 1 → ∀ (a : Int) (s : Rd), (rdI bits ids (wsL n) l a s).1.bad = (rdR bits ids n l a s).1.bad ∧ ((rdI bits ids (wsL n) l a s).1.bad = false → rdI bits ids (wsL n) l a s = rdR bits ids n l a s) := by
  induction l with
  | zero =>
    intro hl a s
    unfold rdI rdR
    split
    · exact ⟨rfl, fun _ => rfl⟩
    · rename_i h
      exact leaf_same _ _ _ _ (by simpa using (not_or.1 h).1)
  | succ l ih =>
    intro hl a s
    unfold rdI rdR
    split
    · exact ⟨rfl, fun _ => rfl⟩
    · rename_i h
      split
      · obtain ⟨h1, h2⟩ := ih (by omega) (2 * a) ⟨s.b + 1, s.i, s.pl, s.me, s.bad⟩
        have ew : ((wsL n).getD l (.int 0)).int! = (wid n l : Nat) := by rw [wsL_get (by omega)]; rfl
        simp only [ew]
        generalize hX : rdI bits ids (wsL n) l (2 * a) ⟨s.b + 1, s.i, s.pl, s.me, s.bad⟩ = x at *
        generalize hY : rdR bits ids n l (2 * a) ⟨s.b + 1, s.i, s.pl, s.me, s.bad⟩ = y at *
        obtain ⟨g1, g2⟩ := ih (by omega) (2 * a + 1) y.1
        by_cases hw : (wid n l : Int) ≤ 2 * a + 1
        · simp only [if_pos hw]
          exact ⟨h1, fun h => by rw [h2 h]⟩
        · simp only [if_neg hw]
          by_cases hx : x.1.bad = true
          · have hy : y.1.bad = true := by rw [← h1]; exact hx
            rw [rdI_bad _ _ _ _ _ _ hx, rdR_bad _ _ _ _ _ _ hy]
            exact ⟨rfl, fun h => by cases h⟩
          · have e := h2 (by simpa using hx)
            subst e
            by_cases hz : (rdI bits ids (wsL n) l (2 * a + 1) x.1).1.bad = true
            · rw [← g1, hz]
              exact ⟨rfl, fun h => by cases h⟩
            · rw [g2 (by simpa using hz)]
              exact ⟨rfl, fun _ => rfl⟩
      · exact leaf_same _ _ _ _ (by simpa using (not_or.1 h).1)
theorem rdR_facts (bits ids : List D) (n : Nat) (l : Nat) : ∀ (a : Int) (s : Rd), s.b ≤ (rdR bits ids n l a s).1.b ∧ s.i ≤ (rdR bits ids n l a s).1.i ∧ (rdR bits ids n l a s).1.pl.length ≤ s.pl.length + 2 ^ l ∧ (rdR bits ids n l a s).1.me.length ≤ s.me.length + 2 ^ l := by
  have hleaf : ∀ (a : Int) (m : Bool) (s : Rd), (leafR ids a m s).1.b = s.b ∧ s.i ≤ (leafR ids a m s).1.i ∧ (leafR ids a m s).1.pl.length ≤ s.pl.length + 1 ∧ (leafR ids a m s).1.me.length ≤ s.me.length + 1 := by
    intro a m s
    unfold leafR
    split
    · exact ⟨rfl, Int.le_refl _, by simp, by simp⟩
    · exact leafI_facts ids a m s
  induction l with
  | zero =>
    intro a s
    unfold rdR
    split
    · simp
    · obtain ⟨h1, h2, h3, h4⟩ := hleaf a (bits.getD s.b.toNat (.int 0)).bool! ⟨s.b + 1, s.i, s.pl, s.me, s.bad⟩
      simp only at h1 h2 h3 h4
      exact ⟨by omega, h2, by simpa using h3, by simpa using h4⟩
  | succ l ih =>
    intro a s
    have hp : 2 ^ (l + 1) = 2 ^ l + 2 ^ l := by rw [Nat.pow_succ]; omega
    have hp1 : 1 ≤ 2 ^ l := Nat.one_le_two_pow
    unfold rdR
    split
    · simp
    · split
      · obtain ⟨h1, h2, h3, h4⟩ := ih (2 * a) ⟨s.b + 1, s.i, s.pl, s.me, s.bad⟩
        simp only at h1 h2 h3 h4 ⊢
        generalize rdR bits ids n l (2 * a) ⟨s.b + 1, s.i, s.pl, s.me, s.bad⟩ = x at *
        split
        · (try simp only)
          exact ⟨by omega, h2, by omega, by omega⟩
        · obtain ⟨g1, g2, g3, g4⟩ := ih (2 * a + 1) x.1
          generalize rdR bits ids n l (2 * a + 1) x.1 = y at *
          simp only
          exact ⟨by omega, by omega, by omega, by omega⟩
      · obtain ⟨h1, h2, h3, h4⟩ := hleaf a false ⟨s.b + 1, s.i, s.pl, s.me, s.bad⟩
        simp only at h1 h2 h3 h4
        exact ⟨by omega, h2, by omega, by omega⟩
/-- no more is read than there is -/
theorem rdI_in (bits ids ws : List D) (l : Nat) : ∀ (a : Int) (s : Rd), s.b ≤ bits.length → s.i ≤ ids.length → (rdI bits ids ws l a s).1.b ≤ bits.length ∧ (rdI bits ids ws l a s).1.i ≤ ids.length := by
  have hleaf : ∀ (a : Int) (m : Bool) (s : Rd), s.i ≤ ids.length → (leafI ids a m s).1.b = s.b ∧ (leafI ids a m s).1.i ≤ ids.length := by
    intro a m s h
    unfold leafI
    split
    · exact ⟨rfl, h⟩
    · exact ⟨rfl, by simp only; omega⟩
  induction l with
  | zero =>
    intro a s hb hi
    unfold rdI
    split
    · exact ⟨hb, hi⟩
    · rename_i h
      have h := (not_or.1 h).2
      obtain ⟨h1, h2⟩ := hleaf a (bits.getD s.b.toNat (.int 0)).bool! ⟨s.b + 1, s.i, s.pl, s.me, s.bad⟩ hi
      simp only at h1
      exact ⟨by omega, h2⟩
  | succ l ih =>
    intro a s hb hi
    unfold rdI
    split
    · exact ⟨hb, hi⟩
    · rename_i h
      have h := (not_or.1 h).2
      split
      · obtain ⟨h1, h2⟩ := ih (2 * a) ⟨s.b + 1, s.i, s.pl, s.me, s.bad⟩ (by simp only; omega) hi
        generalize rdI bits ids ws l (2 * a) ⟨s.b + 1, s.i, s.pl, s.me, s.bad⟩ = x at *
        simp only
        split
        · exact ⟨h1, h2⟩
        · exact ih (2 * a + 1) x.1 h1 h2
      · obtain ⟨h1, h2⟩ := hleaf a false ⟨s.b + 1, s.i, s.pl, s.me, s.bad⟩ hi
        simp only at h1
        exact ⟨by omega, h2⟩
structure LU extends LS' where
  wid : Int → Int → Int
  widOk : Int → Int → Prop
  rr : List D → List D → Int → Int → Int → Int → Int → List D → List D → Bool → Rd × Fn8
  rrOk : Nat → List D → List D → Int → Int → Int → Int → Int → List D → List D → Prop
noncomputable def luR : LU where
  toLS' := lsR'
  wid n k := (wid n.toNat k.toNat : Nat)
  widOk n k := 0 ≤ n ∧ n ≤ 65536 ∧ 0 ≤ k ∧ k ≤ 64
  rr bits ids n l a b i pl me bad := rdR bits ids n.toNat l.toNat a ⟨b, i, pl, me, bad⟩
  rrOk m bits ids n l a b i pl me := 0 ≤ l ∧ l < m ∧ l ≤ 40 ∧ 0 ≤ a ∧ a.toNat + 1 ≤ 2 ^ (40 - l.toNat) ∧ 0 ≤ b ∧ 0 ≤ i ∧ bits.length ≤ 9223372036854775807 ∧ ids.length ≤ 9223372036854775807 ∧ 0 ≤ n ∧ n ≤ 65536 ∧ pl.length + 2 ^ (l.toNat + 1) ≤ 1099511627776 ∧ me.length + 2 ^ (l.toNat + 1) ≤ 1099511627776
end Go.Eng
namespace Go.Proofs.Ytlbllaocdilafaa
open Go Go.Eng Go.Proofs Go.RowKit
attribute [local irreducible] CallOk HOk Run TIok rbin rcmp run1 updF shfF blitF
def sWid (lf : LU) : ESpec := fun l => match l with
  | [.one (.int .i64 n), .one (.int .i64 k)] => some (.a (.one (.int .i64 (lf.wid n k))), [lf.widOk n k])
  | _ => none
def tbn (lf : LU) : Tbl := tbL [] []
theorem tbn_ok : TblOk Try.prog (tbn luR) := tbL_ok nofun nofun
theorem wid_ok : CallOk Try.prog 87 (sWid luR) := by
  refine .of_run (hc := (tbn luR).hc) Try.func87 rfl (by kernel_rfl) (by kernel_rfl) fun xs v ps hs hp w => ?_
  unfold sWid at hs
  split at hs
  · rename_i n k
    cases hs
    obtain ⟨hn0, hn1, hk0, hk1⟩ : 0 ≤ n ∧ n ≤ 65536 ∧ 0 ≤ k ∧ k ≤ 64 := hp (luR.widOk n k) (by simp)
    clear hp
    refine run_pa hmix ti_ok tbn_ok 0 false 400 [] [0, 1, 5] [0, 5] (fun ar lf => by conv => lhs; cbv) (allP ?_) ?_
    · trivial
    refine Run.loop (ι := {p : Int × Int // 0 ≤ p.2 ∧ p.2 ≤ k ∧ p.1 = (wid n.toNat p.2.toNat : Nat)})
      (fun i => ([.a (.one (.int .i64 i.1.1)), .a (.one (.int .i64 k)), .any, .any, .any, .a (.one (.int .i64 i.1.2)), .any, .any, .any, .any, .any, .any, .any, .any, .any, .any, .any], []))
      (fun i => (k - i.1.2).toNat) ⟨(n, 0), by simp only; omega, hk0, by simp only [wid, Int.toNat_zero]; omega⟩ ?_
    rintro ⟨⟨m, j⟩, hj0, hj1, hm⟩ ih
    simp only at hj0 hj1 hm
    have hw := (wid_le n.toNat j.toNat).1
    by_cases hlt : j < k
    · have e1 : rbin .quo .i64 m 2 = m / 2 := quo_pos (by omega) (by omega) (by decide)
      have e2 : rbin .rem .i64 m 2 = m % 2 := rem_pos (by omega)
      have e3 : rbin .add .i64 (m / 2) (m % 2) = m / 2 + m % 2 := addi (by omega) (by omega)
      have e4 : rbin .add .i64 j 1 = j + 1 := addi (by omega) (by omega)
      refine run_pa hmix ti_ok tbn_ok 2 true 400 [true] [0, 1, 5] [0, 5] (fun ar lf => by conv => lhs; cbv) (allP ?_) ?_
      · simp only [conj, and_true, Int.ofNat_eq_natCast, arR, rcmp_lss, rcmp_gtr, rcmp_geq, rcmp_eql, rcmp_neq, decide_eq_true_eq, decide_eq_false_iff_not]
        ((repeat' with_reducible apply And.intro) <;> first | omega | assumption | rfl | trivial)
      · refine ih ⟨(_, _), ?_⟩ ?_ _ _
        · simp only [arR, e1, e2, e3, e4]
          refine ⟨by omega, by omega, ?_⟩
          rw [show (j + 1).toNat = j.toNat + 1 by omega, wid, half]
          omega
        · show (k - rbin .add .i64 j 1).toNat < (k - j).toNat
          rw [e4]; omega
    · refine run_ex hmix ti_ok tbn_ok 999 false 400 [false] (fun ar lf => by conv => lhs; cbv) (allP ?_) ?_
      · simp only [conj, and_true, Int.ofNat_eq_natCast, arR, rcmp_lss, rcmp_gtr, rcmp_geq, rcmp_eql, rcmp_neq, decide_eq_true_eq, decide_eq_false_iff_not]
        ((repeat' with_reducible apply And.intro) <;> first | omega | assumption | rfl | trivial)
      · refine Run.ret ti_ok rfl rfl (.a (.int ?_))
        show m = (wid n.toNat k.toNat : Nat)
        rw [hm, show j = k by omega]
  · cases hs
end Go.Proofs.Ytlbllaocdilafaa
