import Derived.Test.YtegcdnjihnpolaaUd
set_option linter.unusedSimpArgs false
set_option linter.unusedVariables false
namespace Go.Eng
open Go
/-- a number of bytes, the lowest first -/
def nb (n : Int) : F := fun j => n / 256 ^ j % 256
def V40 (f : F) : Int := pv 256 f 40
def bd40 (f : F) : Prop := ∀ j, j < 40 → 0 ≤ f j ∧ f j < 256
theorem pow256 (k : Nat) : (256 : Int) ^ k = p2 (8 * k) := by
  rw [show (256 : Int) = 2 ^ 8 by decide, ← Int.pow_mul]; rfl
theorem pow256_pos (k : Nat) : (0 : Int) < 256 ^ k := Int.pow_pos (by decide)
theorem nb_lo (n : Int) (j : Nat) : 0 ≤ nb n j ∧ nb n j < 256 := ⟨Int.emod_nonneg _ (by decide), Int.emod_lt_of_pos _ (by decide)⟩
theorem nb_bd (n : Int) : bd40 (nb n) := fun j _ => nb_lo n j
theorem pv_nb (n : Int) : ∀ k : Nat, pv 256 (nb n) k = n % 256 ^ k
  | 0 => by simp [pv, Int.emod_one]
  | k + 1 => by
    show pv 256 (nb n) k + nb n k * 256 ^ k = _
    rw [pv_nb n k]
    unfold nb
    have hp := pow256_pos k
    rw [Int.pow_succ]
    have e1 := Int.emod_add_mul_ediv n (256 ^ k)
    have h1 := Int.emod_nonneg n (Int.ne_of_gt hp)
    have h2 := Int.emod_lt_of_pos n hp
    generalize n / 256 ^ k = q at *
    have e2 := Int.emod_add_mul_ediv q 256
    have h3 : 0 ≤ q % 256 := Int.emod_nonneg _ (by decide)
    have h4 : q % 256 < 256 := Int.emod_lt_of_pos _ (by decide)
    generalize q / 256 = t at *
    generalize q % 256 = d at *
    generalize hr : n % 256 ^ k = r at *
    have e3 : n = (r + d * 256 ^ k) + (256 ^ k * 256) * t := by grind
    have h5 : 0 ≤ d * 256 ^ k := Int.mul_nonneg h3 (Int.le_of_lt hp)
    have h6 : (d + 1) * 256 ^ k ≤ 256 * 256 ^ k := Int.mul_le_mul_of_nonneg_right (by omega) (Int.le_of_lt hp)
    rw [Int.add_mul] at h6
    rw [e3, Int.add_mul_emod_self_left, Int.emod_eq_of_lt (by omega) (by rw [Int.mul_comm (256 ^ k) 256]; omega)]
theorem pv_bd {f : F} : ∀ {n : Nat}, (∀ j, j < n → 0 ≤ f j ∧ f j < 256) → 0 ≤ pv 256 f n ∧ pv 256 f n < 256 ^ n
  | 0, _ => by simp [pv]
  | n + 1, h => by
    obtain ⟨h1, h2⟩ := pv_bd (n := n) fun j hj => h j (by omega)
    have h3 := h n (by omega)
    have hp := pow256_pos n
    have h5 : 0 ≤ f n * 256 ^ n := Int.mul_nonneg h3.1 (Int.le_of_lt hp)
    have h6 : (f n + 1) * 256 ^ n ≤ 256 * 256 ^ n := Int.mul_le_mul_of_nonneg_right (by omega) (Int.le_of_lt hp)
    rw [Int.add_mul] at h6
    show 0 ≤ pv 256 f n + f n * 256 ^ n ∧ pv 256 f n + f n * 256 ^ n < 256 ^ (n + 1)
    rw [Int.pow_succ]
    omega
theorem V40_bd {f : F} (h : bd40 f) : 0 ≤ V40 f ∧ V40 f < p2 320 := by
  have := pv_bd h
  rw [pow256] at this; exact this
theorem V40_nb {n : Int} (h0 : 0 ≤ n) (h1 : n < p2 320) : V40 (nb n) = n := by
  unfold V40
  rw [pv_nb, pow256, Int.emod_eq_of_lt h0 h1]
/-- digit for digit, by what stands above -/
theorem pv_lex {f g : F} : ∀ {n i : Nat}, (∀ j, j < n → 0 ≤ f j ∧ f j < 256) → (∀ j, j < n → 0 ≤ g j ∧ g j < 256) → i < n → (∀ j, i < j → j < n → f j = g j) → f i < g i → pv 256 f n < pv 256 g n
  | 0, i, _, _, hi, _, _ => by omega
  | n + 1, i, hf, hg, hi, he, hl => by
    show pv 256 f n + f n * 256 ^ n < pv 256 g n + g n * 256 ^ n
    by_cases h : i = n
    · subst h
      have h1 := pv_bd (f := f) (n := i) fun j hj => hf j (by omega)
      have h2 := pv_bd (f := g) (n := i) fun j hj => hg j (by omega)
      have h6 : (f i + 1) * 256 ^ i ≤ g i * 256 ^ i := Int.mul_le_mul_of_nonneg_right (by omega) (Int.le_of_lt (pow256_pos i))
      rw [Int.add_mul] at h6
      omega
    · have := pv_lex (n := n) (fun j hj => hf j (by omega)) (fun j hj => hg j (by omega)) (show i < n by omega) (fun j h1 h2 => he j h1 (by omega)) hl
      rw [he n (by omega) (by omega)]
      omega
theorem nb_of_pv {f : F} {n : Nat} (hf : ∀ j, j < n → 0 ≤ f j ∧ f j < 256) : ∀ j, j < n → f j = nb (pv 256 f n) j := by
  have hb := pv_bd hf
  have e : pv 256 (nb (pv 256 f n)) n = pv 256 f n := by rw [pv_nb, Int.emod_eq_of_lt hb.1 hb.2]
  have key : ∀ k, k ≤ n → ∀ j, n - k ≤ j → j < n → f j = nb (pv 256 f n) j := by
    intro k
    induction k with
    | zero => intro _ j h1 h2; omega
    | succ k ih =>
      intro hk j h1 h2
      by_cases hj : n - k ≤ j
      · exact ih (by omega) j hj h2
      · have hj2 : j = n - (k + 1) := by omega
        have hh := fun i (h3 : j < i) (h4 : i < n) => ih (by omega) i (by omega) h4
        rcases Int.lt_trichotomy (f j) (nb (pv 256 f n) j) with h | h | h
        · have := pv_lex (f := f) (g := nb (pv 256 f n)) (n := n) hf (fun i _ => nb_lo _ i) h2 hh h
          omega
        · exact h
        · have := pv_lex (f := nb (pv 256 f n)) (g := f) (n := n) (fun i _ => nb_lo _ i) hf h2 (fun i a b => (hh i a b).symm) h
          omega
  exact fun j hj => key n (Nat.le_refl _) j (by omega) hj
theorem nb_V40 {f : F} (hf : bd40 f) : ∀ j, j < 40 → f j = nb (V40 f) j := nb_of_pv hf
theorem V40_congr {f g : F} (h : ∀ j, j < 40 → f j = g j) : V40 f = V40 g := pv_congr h
theorem bd40.congr {f g : F} (h : ∀ j, j < 40 → f j = g j) (hf : bd40 f) : bd40 g := fun j hj => by rw [← h j hj]; exact hf j hj

structure LN where
  l5 : L5
  bn : F → Prop
  ntm : Int → Prop
  nov : Int → Prop
  nle : F → F → Prop
  n256 : F → Prop
  nzero : F → Bool
  nless : F → F → Bool
  ntimes : F → Int → F
  nover : F → Int → F
  nminus : F → F → F
  nwords : F → F
  nfrom : F → F
  nraw : Int → F
  nrawB : Int → Bool
  nlim : F
  nexp : Int → F
  ncp : F → Int
  form : Int → Bool
  ww : Int → F
  nww : Int → F
  tries : Int → Int
  harder : Int → Int → Bool
def workOf (b : Int) : Int := if tgood b = true then p2 256 / (tval b + 1) else 0
def lnR : LN where
  l5 := l5R
  bn := bd40
  ntm n := 0 ≤ n ∧ n ≤ 1099511627776
  nov n := 0 < n ∧ n ≤ 1099511627776
  nle f g := V40 f ≤ V40 g
  n256 f := V40 f < (115792089237316195423570985008687907853269984665640564039457584007913129639936 : Int)
  nzero f := decide (V40 f = 0)
  nless f g := decide (V40 f < V40 g)
  ntimes f n := nb (V40 f * n)
  nover f n := nb (V40 f / n)
  nminus f g := nb (V40 f - V40 g)
  nwords f := words (V40 f)
  nfrom f := nb (val f)
  nraw b := nb (if tgt b < p2 320 then tgt b else 0)
  nrawB b := decide (tgt b < p2 320)
  nlim := nb tlim
  nexp b := nb (tval b)
  ncp f := cpt (V40 f)
  form b := tgood b && decide (cpt (tval b) = b)
  ww b := words (workOf b)
  nww b := nb (workOf b)
  tries b := if workOf b < (18446744073709551616 : Int) then workOf b else 18446744073709551615
  harder a b := tgood a && tgood b && decide (tval a < tval b)
abbrev N40 (f : F) : A := .agg (.ints .i64 (.lit 40) f)
abbrev KN (f : F) : Blk := ⟨false, .ints .i64 (.lit 40) f⟩
def nar1 : List A → Option F
  | [.agg (.ints .i64 (.lit 40) f)] => some f
  | _ => none
def nar2 : List A → Option (F × F)
  | [.agg (.ints .i64 (.lit 40) f), .agg (.ints .i64 (.lit 40) g)] => some (f, g)
  | _ => none
def narI : List A → Option (F × Int)
  | [.agg (.ints .i64 (.lit 40) f), .one c] => match c.num? with
    | some (.i64, n, _) => some (f, n)
    | _ => none
  | _ => none
theorem nar1_some {l : List A} {f : F} (h : nar1 l = some f) : l = [N40 f] := by
  unfold nar1 at h
  split at h
  · cases h; rfl
  · cases h
theorem nar2_some {l : List A} {f g : F} (h : nar2 l = some (f, g)) : l = [N40 f, N40 g] := by
  unfold nar2 at h
  split at h
  · cases h; rfl
  · cases h
theorem narI_some {l : List A} {f : F} {n : Int} (h : narI l = some (f, n)) : ∃ a u, l = [N40 f, .one a] ∧ a.num? = some (.i64, n, u) := by
  unfold narI at h
  split at h
  · split at h
    · rename_i h1; cases h; exact ⟨_, _, rfl, h1⟩
    · cases h
  · cases h
theorem narI_norm {l : List A} {f : F} {n : Int} (h : narI l = some (f, n)) : narI (l.map A.norm) = some (f, n) := by
  obtain ⟨a, u, rfl, h1⟩ := narI_some h
  rcases num_cases h1 with rfl | rfl <;> rfl
theorem narI_int {l : List A} {f : F} {n : Int} (h : narI l = some (f, n)) (hn : l.map A.norm = l) : l = [N40 f, I n] := by
  obtain ⟨a, u, rfl, h1⟩ := narI_some h
  rcases num_cases h1 with rfl | rfl
  · rfl
  · cases hn
theorem narI_spec_norm {g : F → Int → V × List Prop} {s : ESpec} (hs : ∀ l, s l = match narI l with
  | some (f, n) => some (g f n)
  | none => none) : ∀ l r, s l = some r → s (l.map A.norm) = some r := by
  intro l r h
  rw [hs] at h ⊢
  split at h
  · rename_i f n h1
    rw [narI_norm h1]; exact h
  · cases h
def sNZero (l : LN) : ESpec := fun a => match nar1 a with
  | some f => some (.a (B (l.nzero f)), [l.bn f])
  | none => none
def sNLess (l : LN) : ESpec := fun a => match nar2 a with
  | some (f, g) => some (.a (B (l.nless f g)), [l.bn f, l.bn g])
  | none => none
def sNTimes (l : LN) : ESpec := fun a => match narI a with
  | some (f, n) => some (.a (N40 (l.ntimes f n)), [l.bn f, l.ntm n])
  | none => none
def sNOver (l : LN) : ESpec := fun a => match narI a with
  | some (f, n) => some (.a (N40 (l.nover f n)), [l.bn f, l.nov n])
  | none => none
def sNMinus (l : LN) : ESpec := fun a => match nar2 a with
  | some (f, g) => some (.a (N40 (l.nminus f g)), [l.bn f, l.bn g, l.nle g f])
  | none => none
def sNWords (l : LN) : ESpec := fun a => match nar1 a with
  | some f => some (.a (W (l.nwords f)), [l.bn f])
  | none => none
def sNFrom (l : LN) : ESpec := fun a => match arr1 a with
  | some f => some (.a (N40 (l.nfrom f)), [l.l5.lf.bd f])
  | none => none
def sNRaw (l : LN) : ESpec := fun a => match num32 a with
  | some b => some (.tup [N40 (l.nraw b), B (l.nrawB b)], [l.l5.u32 b])
  | none => none
def sNLimit (l : LN) : ESpec := fun a => match a with
  | [] => some (.a (N40 l.nlim), [])
  | _ => none
def sNExpand (l : LN) : ESpec := fun a => match num32 a with
  | some b => some (.tup [N40 (l.nexp b), B (l.l5.tb b)], [l.l5.u32 b])
  | none => none
def sNCompact (l : LN) : ESpec := fun a => match nar1 a with
  | some f => some (.a (U32 (l.ncp f)), [l.bn f, l.n256 f])
  | none => none
def sForm (l : LN) : ESpec := fun a => match num32 a with
  | some b => some (.a (B (l.form b)), [l.l5.u32 b])
  | none => none
def sWork (l : LN) : ESpec := fun a => match num32 a with
  | some b => some (.tup [W (l.ww b), I (l.l5.te b)], [l.l5.u32 b])
  | none => none
def sNWork (l : LN) : ESpec := fun a => match num32 a with
  | some b => some (.tup [N40 (l.nww b), B (l.l5.tb b)], [l.l5.u32 b])
  | none => none
def sTries (l : LN) : ESpec := fun a => match num32 a with
  | some b => some (.tup [U (l.tries b), I (l.l5.te b)], [l.l5.u32 b])
  | none => none
end Go.Eng
