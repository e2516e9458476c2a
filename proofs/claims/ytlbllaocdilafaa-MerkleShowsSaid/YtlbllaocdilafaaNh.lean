import Derived.Test.YtlbllaocdilafaaNe
set_option linter.unusedSimpArgs false
set_option linter.unusedVariables false
namespace Go.Eng
open Go
/-! the plain law of MerkleShows -/
theorem txt_congr {f g : Fn8} {n : Nat} (h : ∀ j, j < n → f j = g j) : arR.txt f n = arR.txt g n := by
  show (⟨((List.range n).map fun j => UInt8.ofNat (f j).toNat).toArray⟩ : ByteArray) = ⟨((List.range n).map fun j => UInt8.ofNat (g j).toNat).toArray⟩
  congr 2
  exact List.map_congr_left fun j hj => by rw [h j (List.mem_range.1 hj)]
theorem prF_congr {f f' g g' : Fn8} (h : ∀ j, j < 32 → f j = f' j) (k : ∀ j, j < 32 → g j = g' j) : prF f g = prF f' g' := by
  unfold prF
  rw [txt_congr h, txt_congr k]
theorem dRow_rowD (f : Fn8) {j : Nat} (h : j < 32) : arR.dRow (rowD f) j = f j := by
  show ((List.range 32).map f).getD j 0 = f j
  rw [List.getD_eq_getElem?_getD, List.getElem?_map, List.getElem?_range h]; rfl
theorem chk_congr : ∀ (l : List D) {f f' : Fn8} (p : Nat), (∀ j, j < 32 → f j = f' j) → ∀ j, j < 32 → chk f p l j = chk f' p l j
  | [], f, f', p, h, j, hj => h j hj
  | b :: l, f, f', p, h, j, hj => by
    simp only [chk]
    have e : (if p % 2 = 0 then prF f (arR.dRow b) else prF (arR.dRow b) f) = (if p % 2 = 0 then prF f' (arR.dRow b) else prF (arR.dRow b) f') := by
      split
      · exact prF_congr h (fun _ _ => rfl)
      · exact prF_congr (fun _ _ => rfl) h
    rw [e]
theorem abv_get : ∀ (l : List D) (a : Nat), 2 * a < l.length → (abv l).getD a (.int 0) = prD (l.getD (2 * a) (.int 0)) (l.getD (min (2 * a + 1) (l.length - 1)) (.int 0))
  | [], a, h => by simp at h
  | [x], a, h => by
    simp at h
    have : a = 0 := by omega
    subst this; rfl
  | x :: y :: l, 0, h => by
    show prD x y = prD x ((x :: y :: l).getD (min 1 (l.length + 1 + 1 - 1)) (.int 0))
    rw [show min 1 (l.length + 1 + 1 - 1) = 1 by omega]; rfl
  | x :: y :: l, a + 1, h => by
    simp only [List.length_cons] at h
    have := abv_get l a (by omega)
    show (abv l).getD a (.int 0) = _
    rw [this, show 2 * (a + 1) = 2 * a + 1 + 1 by omega, List.getD_cons_succ, List.getD_cons_succ, List.length_cons, List.length_cons,
      show min (2 * a + 1 + 1 + 1) (l.length + 1 + 1 - 1) = min (2 * a + 1) (l.length - 1) + 1 + 1 by omega, List.getD_cons_succ, List.getD_cons_succ]
theorem chk_root : ∀ (n : Nat) (xs : List D) (p : Nat), xs.length = n → p < xs.length → ∀ j, j < 32 → chk (arR.dRow (xs.getD p (.int 0))) p (brF xs p) j = arR.dRow (rtD xs) j := by
  intro n
  induction n using Nat.strongRecOn with
  | _ n ih =>
    intro xs p hn hp j hj
    rw [brF, rtD]
    by_cases h : 1 < xs.length
    · rw [dif_pos h, dif_pos h]
      simp only [chk]
      have hl := abv_len xs
      rw [← ih (abv xs).length (by omega) (abv xs) (p / 2) rfl (by omega) j hj]
      refine chk_congr _ _ (fun j hj => ?_) j hj
      rw [abv_get xs (p / 2) (by omega)]
      unfold prD
      rw [dRow_rowD _ hj]
      by_cases he : p % 2 = 0
      · rw [if_pos he]
        have e1 : 2 * (p / 2) = p := by omega
        have e2 : sib p xs.length = min (p + 1) (xs.length - 1) := by
          unfold sib
          rw [if_pos he]
          split <;> omega
        rw [e1, e2]
      · rw [if_neg he]
        have e1 : sib p xs.length = 2 * (p / 2) := by
          unfold sib
          rw [if_neg he]; omega
        have e2 : min (2 * (p / 2) + 1) (xs.length - 1) = p := by omega
        rw [e1, e2]
    · rw [dif_neg h, dif_neg h]
      have : p = 0 := by omega
      subst this; rfl
theorem brF_dep (xs : List D) (p : Nat) : (brF xs p).length = dep xs.length := by
  have h1 := brF_len xs p
  have h2 := lvls_dep xs
  omega
/-! the odd list -/
theorem eqD_self (a : D) : eqD a a = true := by unfold eqD; simp
theorem abv_app : ∀ (n : Nat) (a b : List D), a.length = n → a.length % 2 = 0 → abv (a ++ b) = abv a ++ abv b := by
  intro n
  induction n using Nat.strongRecOn with
  | _ n ih =>
    intro a b hn he
    match a, hn with
    | [], _ => rfl
    | [x], hn => simp at he
    | x :: y :: l, hn =>
      show prD x y :: abv (l ++ b) = prD x y :: (abv l ++ abv b)
      rw [ih l.length (by simp at hn; omega) l b rfl (by simp at he; omega)]
theorem abv_dropE : ∀ (k : Nat) (a : List D), abv (a.drop (2 * k)) = (abv a).drop k
  | 0, a => rfl
  | k + 1, [] => by simp [abv]
  | k + 1, [x] => by
    rw [List.drop_of_length_le (by simp; omega), List.drop_of_length_le (by simp [abv])]; rfl
  | k + 1, x :: y :: l => by
    rw [show 2 * (k + 1) = 2 * k + 1 + 1 by omega, List.drop_succ_cons, List.drop_succ_cons]
    exact abv_dropE k l
theorem abv_last : ∀ (n : Nat) (a : List D), a.length = n → a.length % 2 = 1 → abv (a ++ a.drop (a.length - 1)) = abv a ∧ adj (a ++ a.drop (a.length - 1)) = true := by
  intro n
  induction n using Nat.strongRecOn with
  | _ n ih =>
    intro a hn he
    match a, hn with
    | [], _ => simp at he
    | [x], hn => exact ⟨rfl, by simp [adj, eqD_self]⟩
    | x :: y :: l, hn =>
      simp only [List.length_cons] at hn he
      obtain ⟨h1, h2⟩ := ih l.length (by omega) l rfl (by omega)
      rw [show (x :: y :: l).length - 1 = l.length - 1 + 1 + 1 by simp only [List.length_cons]; omega, List.drop_succ_cons, List.drop_succ_cons]
      refine ⟨?_, ?_⟩
      · show prD x y :: abv (l ++ l.drop (l.length - 1)) = prD x y :: abv l
        rw [h1]
      · show (eqD x y || adj (l ++ l.drop (l.length - 1))) = true
        rw [h2, Bool.or_true]
theorem oddN_abv : ∀ (n s : Nat) (xs : List D), n * (2 * s) = xs.length → abv (oddN xs n (2 * s)) = oddN (abv xs) n s ∧ xs.length ≤ (oddN xs n (2 * s)).length ∧ (xs.length < (oddN xs n (2 * s)).length → (abv xs).length < (oddN (abv xs) n s).length) := by
  intro n
  induction n using Nat.strongRecOn with
  | _ n ih =>
    intro s xs hs
    have he : xs.length % 2 = 0 := by
      rw [← hs, Nat.mul_left_comm]; exact Nat.mul_mod_right 2 _
    have hl := abv_len xs
    rw [oddN.eq_def xs n (2 * s), oddN.eq_def (abv xs) n s]
    by_cases h : 1 < n
    · rw [dif_pos h, dif_pos h]
      by_cases ho : n % 2 = 1
      · rw [if_pos ho, if_pos ho]
        have hns : n * (2 * s) = 2 * (n * s) := Nat.mul_left_comm _ _ _
        have hle : s ≤ n * s := Nat.le_mul_of_pos_left _ (by omega)
        have e : xs.length - 2 * s = 2 * ((abv xs).length - s) := by omega
        refine ⟨?_, by rw [List.length_append]; omega, fun hlt => ?_⟩
        · rw [abv_app _ xs _ rfl he, e, abv_dropE]
        · rw [List.length_append, List.length_drop] at hlt ⊢
          omega
      · rw [if_neg ho, if_neg ho]
        obtain ⟨q, hq⟩ : ∃ q, n = 2 * q := ⟨n / 2, by omega⟩
        have hq2 : n / 2 = q := by omega
        rw [hq2]
        exact ih q (by omega) (2 * s) xs (by rw [← hs, hq, Nat.mul_assoc, Nat.mul_left_comm])
    · rw [dif_neg h, dif_neg h]
      exact ⟨rfl, Nat.le_refl _, fun h => absurd h (Nat.lt_irrefl _)⟩
theorem odd_root : ∀ (n : Nat) (xs : List D), xs.length = n → rtD (oddD xs) = rtD xs ∧ xs.length ≤ (oddD xs).length ∧ (xs.length < (oddD xs).length → mutD (oddD xs) = true) := by
  intro n
  induction n using Nat.strongRecOn with
  | _ n ih =>
    intro xs hn
    by_cases h : 1 < xs.length
    · by_cases ho : xs.length % 2 = 1
      · have e : oddD xs = xs ++ xs.drop (xs.length - 1) := by
          unfold oddD
          rw [oddN, dif_pos h, if_pos ho]
        obtain ⟨h1, h2⟩ := abv_last _ xs rfl ho
        have hl : 1 < (xs ++ xs.drop (xs.length - 1)).length := by rw [List.length_append]; omega
        refine ⟨?_, by rw [e, List.length_append]; omega, fun _ => ?_⟩
        · rw [e, rtD, dif_pos hl, h1]
          conv => rhs; rw [rtD, dif_pos h]
        · rw [e, mutD, dif_pos hl, h2, Bool.true_or]
      · have e : oddD xs = oddN xs (xs.length / 2) (2 * 1) := by
          unfold oddD
          rw [oddN, dif_pos h, if_neg ho]
        have hl := abv_len xs
        obtain ⟨h1, h2, h3⟩ := oddN_abv (xs.length / 2) 1 xs (by omega)
        have e2 : oddN (abv xs) (xs.length / 2) 1 = oddD (abv xs) := by
          unfold oddD
          rw [hl, show (xs.length + 1) / 2 = xs.length / 2 by omega]
        rw [← e, e2] at h1 h3
        rw [← e] at h2
        obtain ⟨g1, g2, g3⟩ := ih (abv xs).length (by omega) (abv xs) rfl
        have hz : 1 < (oddD xs).length := by omega
        refine ⟨?_, h2, fun hlt => ?_⟩
        · rw [rtD, dif_pos hz, h1, g1]
          conv => rhs; rw [rtD, dif_pos h]
        · rw [mutD, dif_pos hz, h1, g3 (h3 hlt), Bool.or_true]
    · have e : oddD xs = xs := by
        unfold oddD
        rw [oddN, dif_neg h]
      rw [e]
      exact ⟨rfl, Nat.le_refl _, fun h => absurd h (Nat.lt_irrefl _)⟩
/-! the partial tree is read back -/
theorem wid_lt (n : Nat) : ∀ (k a : Nat), a < wid n k ↔ a * 2 ^ k < n
  | 0, a => by simp [wid]
  | k + 1, a => by
    have h := wid_lt n k (2 * a)
    have e : 2 * a * 2 ^ k = a * 2 ^ (k + 1) := by rw [Nat.pow_succ, Nat.mul_comm 2 a, Nat.mul_assoc, Nat.mul_comm 2 (2 ^ k)]
    rw [e] at h
    rw [← h]
    show a < half (wid n k) ↔ _
    unfold half
    omega
theorem lvl_wid {xs : List D} : ∀ k, k < (lvls xs).length → lvLen (lvls xs) k = wid xs.length k ∧ ∃ ys, (lvls xs).drop k = lvls ys
  | 0, _ => by
    have h : (lvls xs).drop 0 = lvls xs := rfl
    obtain ⟨-, e2, -⟩ := lvls_get h
    exact ⟨e2, xs, rfl⟩
  | k + 1, hk => by
    obtain ⟨h1, ys, h2⟩ := lvl_wid (xs := xs) k (by omega)
    obtain ⟨g1, g2, g3, g4⟩ := drop_lvls h2
    obtain ⟨-, e2, -⟩ := lvls_get h2
    have h6 : 1 < ys.length := by omega
    have h7 := g2 h6
    obtain ⟨-, e3, -⟩ := lvls_get h7
    refine ⟨?_, _, h7⟩
    rw [e3, abv_len]
    show _ = half (wid xs.length k)
    rw [← h1, e2]; unfold half; omega
theorem lvl_up {xs : List D} {k a : Nat} (hk : k + 1 < (lvls xs).length) (ha : 2 * a < lvLen (lvls xs) k) : lvAt (lvls xs) (k + 1) a = prD (lvAt (lvls xs) k (2 * a)) (lvAt (lvls xs) k (min (2 * a + 1) (lvLen (lvls xs) k - 1))) := by
  obtain ⟨-, ys, h2⟩ := lvl_wid (xs := xs) k (by omega)
  obtain ⟨g1, g2, g3, g4⟩ := drop_lvls h2
  obtain ⟨-, e2, e3⟩ := lvls_get h2
  have h6 : 1 < ys.length := by omega
  obtain ⟨-, -, e5⟩ := lvls_get (g2 h6)
  rw [e5, e3, e3, e2]
  exact abv_get ys a (by omega)
theorem adj_of : ∀ (l : List D) (a : Nat), 2 * a + 1 < l.length → eqD (l.getD (2 * a) (.int 0)) (l.getD (2 * a + 1) (.int 0)) = true → adj l = true
  | [], a, h, _ => by simp at h
  | [x], a, h, _ => by simp at h
  | x :: y :: l, 0, h, e => by
    show (eqD x y || adj l) = true
    rw [show eqD x y = true from e, Bool.true_or]
  | x :: y :: l, a + 1, h, e => by
    simp only [List.length_cons] at h
    show (eqD x y || adj l) = true
    rw [adj_of l a (by omega) e, Bool.or_true]
theorem mut_of {xs : List D} {k a : Nat} (hk : k < (lvls xs).length) (ha : 2 * a + 1 < lvLen (lvls xs) k) (e : eqD (lvAt (lvls xs) k (2 * a)) (lvAt (lvls xs) k (2 * a + 1)) = true) : mutD xs = true := by
  rw [← lvls_adj]
  unfold anyAdj
  rw [List.any_eq_true]
  refine ⟨(lvls xs).getD k (.int 0), ?_, adj_of _ a ha e⟩
  rw [List.getD_eq_getElem?_getD, List.getElem?_eq_getElem hk]
  exact List.getElem_mem hk
def mkd (ms : List D) (i : Nat) : Bool := (ms.getD i (.int 0)).bool!
/-- the places that are marked, from one on -/
def mkP (ms : List D) (lo k : Nat) : List Nat := (List.range' lo k).filter (mkd ms)
theorem mkP_add (ms : List D) (lo k j : Nat) : mkP ms lo (k + j) = mkP ms lo k ++ mkP ms (lo + k) j := by
  unfold mkP
  rw [← List.filter_append]
  congr 1
  rw [List.range'_append_1]
theorem segB_get {ms : List D} {l a i : Nat} (h1 : a * 2 ^ l ≤ i) (h2 : i < (a + 1) * 2 ^ l) (h3 : i < ms.length) : ms.getD i (.int 0) ∈ segB ms l a := by
  unfold segB
  rw [List.mem_iff_getElem?]
  refine ⟨i - a * 2 ^ l, ?_⟩
  rw [List.getElem?_drop, show a * 2 ^ l + (i - a * 2 ^ l) = i by omega, List.getElem?_take_of_lt h2, List.getElem?_eq_getElem h3, List.getD_eq_getElem?_getD, List.getElem?_eq_getElem h3]; rfl
theorem not_mnt {ms : List D} {l a : Nat} (h : mnt ms l a = false) : mkP ms (a * 2 ^ l) (min ((a + 1) * 2 ^ l) ms.length - a * 2 ^ l) = [] := by
  unfold mkP
  rw [List.filter_eq_nil_iff]
  intro i hi
  rw [List.mem_range'_1] at hi
  unfold mnt at h
  rw [List.any_eq_false] at h
  exact h _ (segB_get (by omega) (by omega) (by omega))
theorem mnt_zero {ms : List D} {a : Nat} (h : a < ms.length) : mnt ms 0 a = mkd ms a := by
  unfold mnt mkd segB
  rw [Nat.pow_zero, Nat.mul_one, Nat.mul_one]
  have : (ms.take (a + 1)).drop a = [ms.getD a (.int 0)] := by
    rw [List.drop_take, drop_at h, show a + 1 - a = 1 by omega]; rfl
  rw [this]; simp
def plD (l : List Nat) : List D := l.map fun i => .int (i : Nat)
def meD (xs : List D) (l : List Nat) : List D := l.map fun i => xs.getD i (.int 0)
/-- what reading comes to at a position -/
structure RdOk (xs ms : List D) (l a : Nat) (s : Rd) (r : Rd × Fn8) : Prop where
  bad : r.1.bad = true → mutD xs = true
  b : r.1.bad = false → r.1.b = s.b + (pt (lvls xs) ms l a).1.length
  i : r.1.bad = false → r.1.i = s.i + (pt (lvls xs) ms l a).2.length
  h : r.1.bad = false → ∀ j, j < 32 → r.2 j = arR.dRow (lvAt (lvls xs) l a) j
  pl : r.1.bad = false → r.1.pl = s.pl ++ plD (mkP ms (a * 2 ^ l) (min ((a + 1) * 2 ^ l) ms.length - a * 2 ^ l))
  me : r.1.bad = false → r.1.me = s.me ++ meD xs (mkP ms (a * 2 ^ l) (min ((a + 1) * 2 ^ l) ms.length - a * 2 ^ l))
theorem get_mid {A : Type} {p q r : List A} {x : A} {l : List A} (h : l = p ++ (x :: q) ++ r) (d : A) : l.getD p.length d = x := by
  subst h
  rw [List.append_assoc, List.getD_eq_getElem?_getD, List.getElem?_append_right (Nat.le_refl _), Nat.sub_self]; rfl
theorem rd_ok {xs ms : List D} (hx : ∀ d ∈ xs, isHash d) (hm : ms.length = xs.length) (h0 : 0 < xs.length) (hsz : HL xs ∧ xs.length ≤ 65536) {bits ids : List D} :
    ∀ (l a : Nat), l < (lvls xs).length → a < lvLen (lvls xs) l → ∀ (s : Rd) (pb qb pi qi : List D), bits = pb ++ (pt (lvls xs) ms l a).1 ++ qb → ids = pi ++ (pt (lvls xs) ms l a).2 ++ qi → s.b = pb.length → s.i = pi.length → s.bad = false →
      RdOk xs ms l a s (rdI bits ids (wsL xs.length) l a s) := by
  intro l
  induction l with
  | zero =>
    intro a hl ha s pb qb pi qi hb hi hsb hsi hbad
    have hlw := (lvl_wid (xs := xs) 0 hl).1
    have hax : a < xs.length := by rw [hlw] at ha; exact ha
    have hL0 : ∀ k, lvAt (lvls xs) 0 k = xs.getD k (.int 0) := (lvls_get (xs := xs) (ys := xs) (k := 0) rfl).2.2
    have hh : isHash (xs.getD a (.int 0)) := by
      rw [List.getD_eq_getElem?_getD, List.getElem?_eq_getElem hax]; exact hx _ (List.getElem_mem hax)
    simp only [pt] at hb hi
    have eb := get_mid hb (.int 0)
    have ei := get_mid hi (.int 0)
    have hbl : ¬ (bits.length : Int) ≤ s.b := by
      rw [hb, hsb]; simp only [List.length_append, List.length_cons, List.length_nil]; omega
    have hil : ¬ (ids.length : Int) ≤ s.i := by
      rw [hi, hsi]; simp only [List.length_append, List.length_cons, List.length_nil]; omega
    have hm0 := mnt_zero (ms := ms) (a := a) (by omega)
    have hk : min ((a + 1) * 2 ^ 0) ms.length - a * 2 ^ 0 = 1 := by simp only [Nat.pow_zero, Nat.mul_one]; omega
    have hP : mkP ms (a * 2 ^ 0) (min ((a + 1) * 2 ^ 0) ms.length - a * 2 ^ 0) = if mnt ms 0 a = true then [a] else [] := by
      rw [hk, hm0]
      unfold mkP
      rw [Nat.pow_zero, Nat.mul_one]
      show List.filter _ [a] = _
      rw [List.filter_cons]
      rfl
    rw [rdI, if_neg (by rw [hbad]; simp only [Bool.false_eq_true, false_or]; exact hbl), hsb, Int.toNat_natCast, eb]
    have hF : leafI ids a (mnt ms 0 a) ⟨(pb.length : Int) + 1, s.i, s.pl, s.me, s.bad⟩ = (⟨(pb.length : Int) + 1, s.i + 1, if mnt ms 0 a = true then s.pl ++ [.int a] else s.pl, if mnt ms 0 a = true then s.me ++ [xs.getD a (.int 0)] else s.me, false⟩, arR.dRow (xs.getD a (.int 0))) := by
      unfold leafI
      rw [if_neg hil, hsi, Int.toNat_natCast, ei, hL0, hash_row hh, hbad]
    show RdOk xs ms 0 a s (leafI ids a (mnt ms 0 a) _)
    rw [hF]
    refine ⟨fun e => (by cases e), fun _ => ?_, fun _ => ?_, fun _ j hj => by rw [hL0], fun _ => ?_, fun _ => ?_⟩
    · simp only [pt, List.length_cons, List.length_nil]; omega
    · simp only [pt, List.length_cons, List.length_nil]; omega
    · simp only
      rw [hP]
      split
      · rfl
      · simp [plD]
    · simp only
      rw [hP]
      split
      · rfl
      · simp [meD]
  | succ l ih =>
    intro a hl ha s pb qb pi qi hb hi hsb hsi hbad
    obtain ⟨hlw, -⟩ := lvl_wid (xs := xs) l (by omega)
    obtain ⟨hlw1, -⟩ := lvl_wid (xs := xs) (l + 1) hl
    have ha1 : a < half (wid xs.length l) := by rw [hlw1] at ha; exact ha
    have ha2 : 2 * a < wid xs.length l := by unfold half at ha1; omega
    have hup := lvl_up (a := a) hl (by rw [hlw]; exact ha2)
    have hpw : 2 ^ (l + 1) = 2 ^ l + 2 ^ l := by rw [Nat.pow_succ]; omega
    have hpw1 : 1 ≤ 2 ^ l := Nat.one_le_two_pow
    have hws : ((wsL xs.length).getD l (.int 0)).int! = (wid xs.length l : Nat) := by
      have hd := lvls_dep xs
      rw [wsL_get (by omega)]; rfl
    have hlo : a * 2 ^ (l + 1) = 2 * a * 2 ^ l := by rw [Nat.pow_succ, Nat.mul_comm 2 a, Nat.mul_assoc, Nat.mul_comm 2 (2 ^ l)]
    have hhi : (a + 1) * 2 ^ (l + 1) = (2 * a + 1 + 1) * 2 ^ l := by
      rw [Nat.pow_succ, show 2 * a + 1 + 1 = (a + 1) * 2 by omega, Nat.mul_assoc, Nat.mul_comm 2 (2 ^ l)]
    have hmid : (2 * a + 1) * 2 ^ l = 2 * a * 2 ^ l + 2 ^ l := Nat.succ_mul _ _
    have hmid2 : (2 * a + 1 + 1) * 2 ^ l = (2 * a + 1) * 2 ^ l + 2 ^ l := Nat.succ_mul _ _
    have hw1 := wid_lt xs.length l (2 * a + 1)
    by_cases hmn : mnt ms (l + 1) a = true
    · have ept : (pt (lvls xs) ms (l + 1) a) = (if 2 * a + 1 < lvLen (lvls xs) l then (.bool true :: ((pt (lvls xs) ms l (2 * a)).1 ++ (pt (lvls xs) ms l (2 * a + 1)).1), (pt (lvls xs) ms l (2 * a)).2 ++ (pt (lvls xs) ms l (2 * a + 1)).2)
        else (.bool true :: (pt (lvls xs) ms l (2 * a)).1, (pt (lvls xs) ms l (2 * a)).2)) := by
        simp only [pt]; rw [if_pos hmn]
      have hbl : ∀ q : List D, bits = pb ++ (D.bool true :: q) ++ qb → ¬ (bits.length : Int) ≤ s.b ∧ (bits.getD s.b.toNat (.int 0)).bool! = true := by
        intro q hq
        refine ⟨?_, ?_⟩
        · rw [hq, hsb]; simp only [List.length_append, List.length_cons]; omega
        · rw [hsb, Int.toNat_natCast, get_mid hq (.int 0)]; rfl
      by_cases hr : 2 * a + 1 < lvLen (lvls xs) l
      · rw [if_pos hr] at ept
        rw [ept] at hb hi
        simp only at hb hi
        obtain ⟨c1, c2⟩ := hbl _ hb
        have hx1 := ih (2 * a) (by omega) (by omega) ⟨s.b + 1, s.i, s.pl, s.me, s.bad⟩ (pb ++ [.bool true]) ((pt (lvls xs) ms l (2 * a + 1)).1 ++ qb) pi ((pt (lvls xs) ms l (2 * a + 1)).2 ++ qi) (by rw [hb]; simp) (by rw [hi]; simp) (by simp only [List.length_append, List.length_cons, List.length_nil]; omega) hsi hbad
        rw [rdI, if_neg (by rw [hbad]; simp only [Bool.false_eq_true, false_or]; exact c1), if_pos c2]
        have hcast : (2 * (a : Int)) = ((2 * a : Nat) : Int) := by omega
        simp only [hcast]
        rw [if_neg (by rw [hws]; rw [hlw] at hr; omega)]
        generalize hX : rdI bits ids (wsL xs.length) l ((2 * a : Nat) : Int) ⟨s.b + 1, s.i, s.pl, s.me, s.bad⟩ = x at hx1 ⊢
        have hcast2 : ((2 * a : Nat) : Int) + 1 = ((2 * a + 1 : Nat) : Int) := by omega
        simp only [hcast2]
        by_cases hxb : x.1.bad = true
        · have hy : (rdI bits ids (wsL xs.length) l ((2 * a + 1 : Nat) : Int) x.1).1.bad = true := rdI_bad _ _ _ _ _ _ hxb
          generalize rdI bits ids (wsL xs.length) l ((2 * a + 1 : Nat) : Int) x.1 = y at hy ⊢
          have hbd : (y.1.bad || eqF x.2 y.2) = true := by rw [hy, Bool.true_or]
          refine ⟨fun _ => hx1.bad hxb, fun e => ?_, fun e => ?_, fun e => ?_, fun e => ?_, fun e => ?_⟩ <;>
            (simp only at e; rw [hbd] at e; cases e)
        · have hxb : x.1.bad = false := by simpa using hxb
          have k1 := hx1.b hxb
          have k2 := hx1.i hxb
          simp only at k1 k2
          have hy1 := ih (2 * a + 1) (by omega) hr x.1 (pb ++ .bool true :: (pt (lvls xs) ms l (2 * a)).1) qb (pi ++ (pt (lvls xs) ms l (2 * a)).2) qi (by rw [hb]; simp) (by rw [hi]; simp) (by simp only [List.length_append, List.length_cons]; omega) (by simp only [List.length_append]; omega) hxb
          generalize hY : rdI bits ids (wsL xs.length) l ((2 * a + 1 : Nat) : Int) x.1 = y at hy1 ⊢
          have hfb : y.1.bad = false → (eqF x.2 y.2 = true → mutD xs = true) := by
            intro hyb e
            refine mut_of (k := l) (a := a) (by omega) hr ?_
            unfold eqD
            rw [beq_iff_eq]
            have e2 := (eqF_iff _ _).1 e
            refine List.map_congr_left fun j hj => ?_
            have hj := List.mem_range.1 hj
            rw [← hx1.h hxb j hj, ← hy1.h hyb j hj]
            exact e2 j hj
          refine ⟨fun e => ?_, fun e => ?_, fun e => ?_, fun e j hj => ?_, fun e => ?_, fun e => ?_⟩
          · simp only [Bool.or_eq_true] at e
            by_cases hyb : y.1.bad = true
            · exact hy1.bad hyb
            · exact hfb (by simpa using hyb) (e.resolve_left hyb)
          all_goals
            simp only [Bool.or_eq_false_iff] at e
          · have := hy1.b e.1
            rw [ept]; simp only [List.length_cons, List.length_append] at *; omega
          · have := hy1.i e.1
            rw [ept]; simp only [List.length_append] at *; omega
          · rw [hup]
            unfold prD
            rw [dRow_rowD _ hj]
            show prF x.2 y.2 j = _
            rw [show min (2 * a + 1) (lvLen (lvls xs) l - 1) = 2 * a + 1 by omega]
            exact congrFun (prF_congr (hx1.h hxb) (hy1.h e.1)) j
          all_goals
            have e3 : min ((a + 1) * 2 ^ (l + 1)) ms.length - a * 2 ^ (l + 1) = (min ((2 * a + 1) * 2 ^ l) ms.length - 2 * a * 2 ^ l) + (min ((2 * a + 1 + 1) * 2 ^ l) ms.length - (2 * a + 1) * 2 ^ l) := by
              rw [hlw] at hr
              have := hw1.1 hr
              rw [hhi, hlo]; omega
            have e4 : mkP ms (a * 2 ^ (l + 1)) (min ((a + 1) * 2 ^ (l + 1)) ms.length - a * 2 ^ (l + 1)) = mkP ms (2 * a * 2 ^ l) (min ((2 * a + 1) * 2 ^ l) ms.length - 2 * a * 2 ^ l) ++ mkP ms ((2 * a + 1) * 2 ^ l) (min ((2 * a + 1 + 1) * 2 ^ l) ms.length - (2 * a + 1) * 2 ^ l) := by
              rw [e3, mkP_add, hlo]
              congr 2
              rw [hlw] at hr
              have := hw1.1 hr
              omega
          · have := hy1.pl e.1
            simp only at this ⊢
            rw [this, hx1.pl hxb, e4]
            unfold plD
            rw [List.map_append, List.append_assoc]
          · have := hy1.me e.1
            simp only at this ⊢
            rw [this, hx1.me hxb, e4]
            unfold meD
            rw [List.map_append, List.append_assoc]
      · rw [if_neg hr] at ept
        rw [ept] at hb hi
        simp only at hb hi
        obtain ⟨c1, c2⟩ := hbl _ hb
        have hx1 := ih (2 * a) (by omega) (by omega) ⟨s.b + 1, s.i, s.pl, s.me, s.bad⟩ (pb ++ [.bool true]) qb pi qi (by rw [hb]; simp) hi (by simp only [List.length_append, List.length_cons, List.length_nil]; omega) hsi hbad
        rw [rdI, if_neg (by rw [hbad]; simp only [Bool.false_eq_true, false_or]; exact c1), if_pos c2]
        have hcast : (2 * (a : Int)) = ((2 * a : Nat) : Int) := by omega
        simp only [hcast]
        rw [if_pos (by rw [hws]; rw [hlw] at hr; omega)]
        generalize hX : rdI bits ids (wsL xs.length) l ((2 * a : Nat) : Int) ⟨s.b + 1, s.i, s.pl, s.me, s.bad⟩ = x at hx1 ⊢
        have e3 : min ((a + 1) * 2 ^ (l + 1)) ms.length - a * 2 ^ (l + 1) = min ((2 * a + 1) * 2 ^ l) ms.length - 2 * a * 2 ^ l := by
          rw [hlw] at hr
          have : ¬ (2 * a + 1) * 2 ^ l < xs.length := fun h => hr (hw1.2 h)
          rw [hhi, hlo]; omega
        refine ⟨hx1.bad, fun e => ?_, fun e => ?_, fun e j hj => ?_, fun e => ?_, fun e => ?_⟩
        · have := hx1.b e
          rw [ept]; simp only [List.length_cons] at *; omega
        · have := hx1.i e
          rw [ept]; exact this
        · rw [hup]
          unfold prD
          rw [dRow_rowD _ hj]
          show prF x.2 x.2 j = _
          rw [show min (2 * a + 1) (lvLen (lvls xs) l - 1) = 2 * a by omega]
          exact congrFun (prF_congr (hx1.h e) (hx1.h e)) j
        · rw [e3, hlo]; exact hx1.pl e
        · rw [e3, hlo]; exact hx1.me e
    · have hmn : mnt ms (l + 1) a = false := by simpa using hmn
      have ept : (pt (lvls xs) ms (l + 1) a) = ([.bool false], [lvAt (lvls xs) (l + 1) a]) := by
        simp only [pt]; rw [if_neg (by rw [hmn]; simp)]
      rw [ept] at hb hi
      simp only at hb hi
      have hbl : ¬ (bits.length : Int) ≤ s.b := by
        rw [hb, hsb]; simp only [List.length_append, List.length_cons, List.length_nil]; omega
      have hil : ¬ (ids.length : Int) ≤ s.i := by
        rw [hi, hsi]; simp only [List.length_append, List.length_cons, List.length_nil]; omega
      have eb := get_mid hb (.int 0)
      have ei := get_mid hi (.int 0)
      have hF : leafI ids a false ⟨s.b + 1, s.i, s.pl, s.me, s.bad⟩ = (⟨s.b + 1, s.i + 1, s.pl, s.me, false⟩, arR.dRow (lvAt (lvls xs) (l + 1) a)) := by
        unfold leafI
        rw [if_neg hil, hsi, Int.toNat_natCast, ei, hbad]
        simp
      rw [rdI, if_neg (by rw [hbad]; simp only [Bool.false_eq_true, false_or]; exact hbl), if_neg (by rw [hsb, Int.toNat_natCast, eb]; simp [D.bool!]), hF]
      refine ⟨fun e => (by cases e), fun _ => ?_, fun _ => ?_, fun _ j hj => rfl, fun _ => ?_, fun _ => ?_⟩
      · rw [ept]; simp only [List.length_cons, List.length_nil]; omega
      · rw [ept]; simp only [List.length_cons, List.length_nil]; omega
      · rw [not_mnt hmn]; simp [plD]
      · rw [not_mnt hmn]; simp [meD]
/-- ALL THAT WAS MARKED IS READ AGAIN, or two neighbours are the same -/
theorem part_read {xs ms : List D} (hx : HL xs) (hm : ms.length = xs.length) (h0 : 0 < xs.length) (hsz : xs.length ≤ 65536) :
    (rdB (lrR.pBits xs ms) (lrR.pIds xs ms) (lrR.pCnt xs ms) ∧ (rdA (lrR.pBits xs ms) (lrR.pIds xs ms) (lrR.pCnt xs ms)).1.pl = plD (mkP ms 0 xs.length) ∧ (rdA (lrR.pBits xs ms) (lrR.pIds xs ms) (lrR.pCnt xs ms)).1.me = meD xs (mkP ms 0 xs.length) ∧ ∀ j, j < 32 → (rdA (lrR.pBits xs ms) (lrR.pIds xs ms) (lrR.pCnt xs ms)).2 j = rootF xs j)
    ∨ (¬ rdB (lrR.pBits xs ms) (lrR.pIds xs ms) (lrR.pCnt xs ms) ∧ mutD xs = true) := by
  have hok : partOk xs ms := ⟨h0, hm⟩
  have e1 : lrR.pBits xs ms = (pt (lvls xs) ms ((lvls xs).length - 1) 0).1 := if_pos hok
  have e2 : lrR.pIds xs ms = (pt (lvls xs) ms ((lvls xs).length - 1) 0).2 := if_pos hok
  have e3 : lrR.pCnt xs ms = (xs.length : Int) := if_pos hok
  rw [e1, e2, e3]
  have hd := lvls_dep xs
  have hdp : (lvls xs).length - 1 = dep xs.length := by omega
  obtain ⟨hlw, ys, hys⟩ := lvl_wid (xs := xs) (dep xs.length) (by omega)
  obtain ⟨-, -, g3, -⟩ := drop_lvls hys
  obtain ⟨-, k2, k3⟩ := lvls_get hys
  have hy1 : ¬ 1 < ys.length := g3.1 (by omega)
  have hw1 : ¬ 1 < wid xs.length (dep xs.length) := by rw [← hlw, k2]; exact hy1
  have hw2 := fun h => hw1 ((wid_lt xs.length (dep xs.length) 1).2 h)
  rw [Nat.one_mul] at hw2
  have hw0 : 0 < wid xs.length (dep xs.length) := (wid_lt xs.length (dep xs.length) 0).2 (by omega)
  rw [hdp]
  have R := rd_ok hx.2 hm h0 ⟨hx, hsz⟩ (bits := (pt (lvls xs) ms (dep xs.length) 0).1) (ids := (pt (lvls xs) ms (dep xs.length) 0).2) (dep xs.length) 0 (by omega) (by rw [hlw]; exact hw0) ⟨0, 0, [], [], false⟩ [] [] [] [] (by simp) (by simp) rfl rfl rfl
  have hA : rdA (pt (lvls xs) ms (dep xs.length) 0).1 (pt (lvls xs) ms (dep xs.length) 0).2 (xs.length : Int) = rdI (pt (lvls xs) ms (dep xs.length) 0).1 (pt (lvls xs) ms (dep xs.length) 0).2 (wsL xs.length) (dep xs.length) ((0 : Nat) : Int) ⟨0, 0, [], [], false⟩ := by
    unfold rdA
    rw [Int.toNat_natCast]; rfl
  rw [← hA] at R
  have hB : rdB (pt (lvls xs) ms (dep xs.length) 0).1 (pt (lvls xs) ms (dep xs.length) 0).2 (xs.length : Int) ↔ (rdA (pt (lvls xs) ms (dep xs.length) 0).1 (pt (lvls xs) ms (dep xs.length) 0).2 (xs.length : Int)).1.bad = false := by
    unfold rdB
    refine ⟨fun h => h.2.2.1, fun h => ⟨by omega, by omega, h, ?_, ?_⟩⟩
    · have := R.b h; simp only at this; omega
    · have := R.i h; simp only at this; omega
  generalize rdA (pt (lvls xs) ms (dep xs.length) 0).1 (pt (lvls xs) ms (dep xs.length) 0).2 (xs.length : Int) = r at R hB ⊢
  have hmn : min ((0 + 1) * 2 ^ dep xs.length) ms.length - 0 * 2 ^ dep xs.length = xs.length := by
    rw [Nat.zero_add, Nat.one_mul, Nat.zero_mul, hm]
    have : xs.length ≤ 2 ^ dep xs.length := Nat.le_of_not_lt hw2
    omega
  by_cases hb : r.1.bad = false
  · left
    have p1 := R.pl hb
    have p2 := R.me hb
    rw [hmn] at p1 p2
    rw [Nat.zero_mul] at p1 p2
    refine ⟨hB.2 hb, by simpa using p1, by simpa using p2, fun j hj => ?_⟩
    rw [R.h hb j hj]
    unfold rootF
    rw [if_neg (by omega)]
    have hla := lvls_last xs h0
    unfold lvAt
    rw [hdp] at hla
    rw [hla]; rfl
  · right
    have hb : r.1.bad = true := by simpa using hb
    exact ⟨fun h => (by rw [hB.1 h] at hb; cases hb), R.bad hb⟩
end Go.Eng
namespace Go.Proofs.Ytlbllaocdilafaa
open Go Go.Eng Go.Proofs Go.RowKit
attribute [local irreducible] CallOk HOk Run TIok rbin rcmp run1 updF shfF blitF

end Go.Proofs.Ytlbllaocdilafaa
