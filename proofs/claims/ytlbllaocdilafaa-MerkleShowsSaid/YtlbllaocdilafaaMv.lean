import Derived.Test.YtlbllaocdilafaaMu
set_option linter.unusedSimpArgs false
set_option linter.unusedVariables false
namespace Go.Eng
open Go
def lvAt (L : List D) (l a : Nat) : D := (L.getD l (.int 0)).sl!.getD a (.int 0)
def lvLen (L : List D) (l : Nat) : Nat := (L.getD l (.int 0)).sl!.length
def pt (L ms : List D) : Nat → Nat → List D × List D
  | 0, a => ([.bool (mnt ms 0 a)], [lvAt L 0 a])
  | l + 1, a => if mnt ms (l + 1) a = true then
      (if 2 * a + 1 < lvLen L l then (.bool true :: ((pt L ms l (2 * a)).1 ++ (pt L ms l (2 * a + 1)).1), (pt L ms l (2 * a)).2 ++ (pt L ms l (2 * a + 1)).2)
        else (.bool true :: (pt L ms l (2 * a)).1, (pt L ms l (2 * a)).2))
      else ([.bool false], [lvAt L (l + 1) a])
theorem pt_len (L ms : List D) : ∀ l a, (pt L ms l a).1.length < 2 ^ (l + 1) ∧ (pt L ms l a).2.length < 2 ^ (l + 1)
  | 0, a => by simp [pt]
  | l + 1, a => by
    have h1 := pt_len L ms l (2 * a)
    have h2 := pt_len L ms l (2 * a + 1)
    have h3 : 2 ^ (l + 1 + 1) = 2 ^ (l + 1) + 2 ^ (l + 1) := by rw [Nat.pow_succ]; omega
    have h4 : 1 < 2 ^ (l + 1) := Nat.one_lt_two_pow (by omega)
    simp only [pt]
    split
    · split
      · simp only [List.length_cons, List.length_append]; omega
      · simp only [List.length_cons]; omega
    · simp only [List.length_cons, List.length_nil]; omega
theorem lvls_at {xs : List D} (hx : HL xs) (h0 : 0 < xs.length) : ∀ k, k < (lvls xs).length → ∃ ys, (lvls xs).drop k = lvls ys ∧ HL ys ∧ 0 < ys.length ∧ (∀ a, a < ys.length → a * 2 ^ k < xs.length) ∧ 2 ^ k < 2 * xs.length
  | 0, _ => ⟨xs, rfl, hx, h0, fun a ha => by omega, by omega⟩
  | k + 1, hk => by
    obtain ⟨ys, h1, h2, h3, h4, h5⟩ := lvls_at hx h0 k (by omega)
    obtain ⟨g1, g2, g3, g4⟩ := drop_lvls h1
    have h6 : 1 < ys.length := by omega
    refine ⟨abv ys, g2 h6, abv_HL h2, by rw [abv_len]; omega, fun a ha => ?_, ?_⟩
    · rw [abv_len] at ha
      have := h4 (2 * a) (by omega)
      rw [Nat.pow_succ, Nat.mul_comm (2 ^ k) 2, ← Nat.mul_assoc, Nat.mul_comm a 2]
      exact this
    · have := h4 1 h6
      rw [Nat.pow_succ]; omega
theorem lvls_get {xs ys : List D} {k : Nat} (h : (lvls xs).drop k = lvls ys) : (lvls xs).getD k (.int 0) = .sl ys ∧ lvLen (lvls xs) k = ys.length ∧ ∀ a, lvAt (lvls xs) k a = ys.getD a (.int 0) := by
  obtain ⟨g1, -⟩ := drop_lvls h
  exact ⟨g1, by unfold lvLen; rw [g1]; rfl, fun a => by unfold lvAt; rw [g1]; rfl⟩
theorem shl_pos {a n : Int} (h0 : 0 ≤ a) (h1 : 0 ≤ n) (h2 : n ≤ 62) (h : a.toNat * 2 ^ n.toNat < 4611686018427387904) : rbin .shl .i64 a n = ((a.toNat * 2 ^ n.toNat : Nat) : Int) := by
  show IntKind.i64.wrap (a * 2 ^ (min n.toNat 64)) = _
  have e : min n.toNat 64 = n.toNat := by omega
  rw [e]
  have h3 : a * (2 : Int) ^ n.toNat = ((a.toNat * 2 ^ n.toNat : Nat) : Int) := by
    rw [Int.natCast_mul, Int.toNat_of_nonneg h0, Int.natCast_pow]; rfl
  rw [h3]
  exact wrap_i64 (by omega) (by omega)
theorem take_min (xs : List D) (n : Nat) : xs.take (min n xs.length) = xs.take n := by
  by_cases h : n ≤ xs.length
  · rw [Nat.min_eq_left h]
  · rw [Nat.min_eq_right (by omega), List.take_length, List.take_of_length_le (by omega)]
/-- what holds at a position that is there -/
def posIn (L ms : List D) (l a : Nat) : Prop := ∃ xs, L = lvls xs ∧ HL xs ∧ 0 < xs.length ∧ xs.length ≤ 65536 ∧ ms.length = xs.length ∧ l < L.length ∧ a < lvLen L l
theorem posIn_facts {L ms : List D} {l a : Nat} (h : posIn L ms l a) : a * 2 ^ l < ms.length ∧ 2 ^ l < 131072 ∧ l ≤ 17 ∧ (a + 1) * 2 ^ l < 262144 ∧ ms.length ≤ 65536 ∧ isHash (lvAt L l a) ∧ L.length ≤ 65537 ∧ lvLen L l ≤ 4294967296 ∧ l < L.length ∧ a < (L.getD l (.int 0)).sl!.length := by
  obtain ⟨xs, rfl, h1, h2, h3, h4, h5, h6⟩ := h
  obtain ⟨ys, g1, g2, g3, g4, g5⟩ := lvls_at h1 h2 l h5
  obtain ⟨e1, e2, e3⟩ := lvls_get g1
  have h7 := g4 a (by rw [← e2]; exact h6)
  have h8 : l ≤ 17 := by
    rcases Nat.lt_or_ge 17 l with h | h
    · have : 2 ^ 18 ≤ 2 ^ l := Nat.pow_le_pow_right (by decide) h
      have h9 : (2 : Nat) ^ 18 = 262144 := by decide
      omega
    · exact h
  have h9 : (a + 1) * 2 ^ l = a * 2 ^ l + 2 ^ l := Nat.succ_mul _ _
  have h10 := lvls_len xs
  refine ⟨by omega, by omega, h8, by omega, by omega, ?_, by omega, by rw [e2]; exact g2.1, h5, h6⟩
  rw [e3]
  rw [e2] at h6
  rw [List.getD_eq_getElem?_getD, List.getElem?_eq_getElem h6]
  exact g2.2 _ (List.getElem_mem _)
theorem posIn_left {L ms : List D} {l a : Nat} (h : posIn L ms (l + 1) a) : posIn L ms l (2 * a) ∧ (2 * a + 1 < lvLen L l → posIn L ms l (2 * a + 1)) := by
  obtain ⟨xs, rfl, h1, h2, h3, h4, h5, h6⟩ := h
  obtain ⟨ys, g1, g2, g3, g4, g5⟩ := lvls_at h1 h2 l (by omega)
  obtain ⟨k1, k2, k3, k4⟩ := drop_lvls g1
  obtain ⟨e1, e2, e3⟩ := lvls_get g1
  have h7 : 1 < ys.length := by omega
  obtain ⟨-, e5, -⟩ := lvls_get (k2 h7)
  rw [e5, abv_len] at h6
  exact ⟨⟨xs, rfl, h1, h2, h3, h4, by omega, by rw [e2]; omega⟩, fun h => ⟨xs, rfl, h1, h2, h3, h4, by omega, h⟩⟩
structure LR extends LQ where
  ptB : List D → List D → Int → Int → List D
  ptI : List D → List D → Int → Int → List D
  posOk : Nat → List D → List D → Int → Int → List D → List D → Prop
  pCnt : List D → List D → Int
  pBits : List D → List D → List D
  pIds : List D → List D → List D
  pErr : List D → List D → Int
  len16 : List D → Prop
  lvls : List D → List D
def partOk (xs ms : List D) : Prop := 0 < xs.length ∧ ms.length = xs.length
open Classical in
noncomputable def lrR : LR where
  toLQ := lqR
  ptB L ms l a := (pt L ms l.toNat a.toNat).1
  ptI L ms l a := (pt L ms l.toNat a.toNat).2
  posOk n L ms l a bits ids := 0 ≤ l ∧ l < n ∧ 0 ≤ a ∧ posIn L ms l.toNat a.toNat ∧ bits.length + 2 ^ (l.toNat + 1) ≤ 1048576 ∧ ids.length + 2 ^ (l.toNat + 1) ≤ 1048576
  pCnt xs ms := if partOk xs ms then xs.length else 0
  pBits xs ms := if partOk xs ms then (pt (lvls xs) ms ((lvls xs).length - 1) 0).1 else []
  pIds xs ms := if partOk xs ms then (pt (lvls xs) ms ((lvls xs).length - 1) 0).2 else []
  pErr xs ms := if partOk xs ms then 0 else 1
  lvls := lvls
  len16 xs := HL xs ∧ xs.length ≤ 65536
end Go.Eng
namespace Go.Proofs.Ytlbllaocdilafaa
open Go Go.Eng Go.Proofs Go.RowKit
attribute [local irreducible] CallOk HOk Run TIok rbin rcmp run1 updF shfF blitF
def hPos (n : Nat) (lf : LR) : HSpec := fun l bs => match l, bs with
  | [.one (.ptr 0 (.lit 0)), b, c], [⟨false, .lst [.dat (.sl (.arr .u8 32)) L none, .dat .bool ms none, .int .i64 cnt, .dat .bool bits (some 1), .dat (.arr .u8 32) ids (some 2)]⟩, ⟨false, .tail⟩, ⟨false, .tail⟩] => match numA .i64 b, numA .i64 c with
    | some lev, some at_ => some (.tup [], [⟨false, .lst [.dat (.sl (.arr .u8 32)) L none, .dat .bool ms none, .int .i64 cnt, .dat .bool (lf.cat bits (lf.ptB L ms lev at_)) (some 3), .dat (.arr .u8 32) (lf.cat ids (lf.ptI L ms lev at_)) (some 4)]⟩, ⟨true, .dead⟩, ⟨true, .dead⟩, ⟨false, .tail⟩, ⟨false, .tail⟩], [lf.posOk n L ms lev at_ bits ids])
    | _, _ => none
  | _, _ => none
theorem hPos_norm (n : Nat) (lf : LR) : ∀ l bs r, hPos n lf l bs = some r → hPos n lf (l.map A.norm) bs = some r := by
  intro l bs r h
  unfold hPos at h ⊢
  split at h
  · rename_i b c L ms cnt bits ids
    split at h
    · rename_i lev at_ h1 h2
      simp only [List.map_cons, List.map_nil, show A.norm (.one (.ptr 0 (.lit 0))) = .one (.ptr 0 (.lit 0)) from rfl, numA_norm h1, numA_norm h2]; exact h
    · cases h
  · cases h
def tbv (n : Nat) (lf : LR) : Tbl := tbL [(84, sContains lf.toLQ)] [(53, hPos n lf)]
set_option maxRecDepth 100000 in
theorem pos_ok (n : Nat) : HOk Try.prog 53 (hPos n lrR) := by
  induction n with
  | zero =>
    refine .of_run (hc := (tbu1 lqR).hc) Try.func53 rfl (by kernel_rfl) (by kernel_rfl) fun las lbs v lbs' ps hs hp w => ?_
    unfold hPos at hs
    split at hs
    · split at hs
      · rename_i lev at_ h1 h2
        cases hs
        have := hp _ (List.mem_singleton.2 rfl)
        exact absurd this.2.1 (by have := this.1; omega)
      · cases hs
    · cases hs
  | succ n ihn =>
    have tbv_ok : TblOk Try.prog (tbv n lrR) := tbL_ok (List.forall_mem_cons.2 ⟨contains_ok, nofun⟩) (List.forall_mem_cons.2 ⟨ihn, nofun⟩)
    refine .nrm (hPos_norm _ _) ?_
    refine .of_run (hc := (tbv n lrR).hc) Try.func53 rfl (by kernel_rfl) (by kernel_rfl) fun las lbs v lbs' ps hs hp w => ?_
    split at hs
    · rename_i hn
      unfold hPos at hs
      split at hs
      · rename_i b c L ms cnt bits ids
        split at hs
        · rename_i lev at_ e1 e2
          simp only [List.map_cons, List.map_nil, List.cons.injEq, and_true, true_and] at hn
          obtain rfl := numA_int e1 hn.2.1
          obtain rfl := numA_int e2 hn.2.2
          cases hs
          obtain ⟨hl0, hln, ha0, hpi, hbl, hil⟩ : 0 ≤ lev ∧ lev < (n + 1 : Nat) ∧ 0 ≤ at_ ∧ posIn L ms lev.toNat at_.toNat ∧ bits.length + 2 ^ (lev.toNat + 1) ≤ 1048576 ∧ ids.length + 2 ^ (lev.toNat + 1) ≤ 1048576 := hp (lrR.posOk (n + 1) L ms lev at_ bits ids) (by simp)
          clear hp hn e1 e2
          obtain ⟨p1, p2, p3, p4, p5, p6, p7, p8, p9, p10⟩ := posIn_facts hpi
          simp only [List.length_cons, List.length_nil]
          have hexp : (at_.toNat + 1) * 2 ^ lev.toNat = at_.toNat * 2 ^ lev.toNat + 2 ^ lev.toNat := Nat.succ_mul _ _
          have hone : 1 ≤ 2 ^ lev.toNat := Nat.one_le_two_pow
          have f1 : rbin .shl .i64 at_ lev = ((at_.toNat * 2 ^ lev.toNat : Nat) : Int) := shl_pos ha0 hl0 (by omega) (by omega)
          have f2 : rbin .add .i64 at_ 1 = at_ + 1 := addi (by omega) (by have : at_.toNat ≤ at_.toNat * 2 ^ lev.toNat := Nat.le_mul_of_pos_right _ (by omega); omega)
          have f3 : rbin .shl .i64 (at_ + 1) lev = (((at_.toNat + 1) * 2 ^ lev.toNat : Nat) : Int) := by
            have e : (at_ + 1).toNat = at_.toNat + 1 := by omega
            have := shl_pos (a := at_ + 1) (n := lev) (by omega) hl0 (by omega) (by rw [e]; omega)
            rw [e] at this; exact this
          have hseg : (ms.take (if (ms.length : Int) < (((at_.toNat + 1) * 2 ^ lev.toNat : Nat) : Int) then (ms.length : Int) else (((at_.toNat + 1) * 2 ^ lev.toNat : Nat) : Int)).toNat).drop (at_.toNat * 2 ^ lev.toNat) = segB ms lev.toNat at_.toNat := by
            unfold segB
            congr 1
            rw [← take_min ms ((at_.toNat + 1) * 2 ^ lev.toNat)]
            congr 1
            split <;> omega
          have hany : (segB ms lev.toNat at_.toNat).any D.bool! = mnt ms lev.toNat at_.toNat := rfl
          have hsl : (segB ms lev.toNat at_.toNat).length ≤ 4294967296 := by
            unfold segB
            rw [List.length_drop, List.length_take]; omega
          have hrow : D.row ((List.range 32).map fun j => ((L.getD lev.toNat (.int 0)).sl!.getD at_.toNat (.int 0)).row!.getD j 0) = lvAt L lev.toNat at_.toNat := hash_same p6
          by_cases hlev : lev = 0
          · have hpt : pt L ms lev.toNat at_.toNat = ([.bool (mnt ms lev.toNat at_.toNat)], [lvAt L lev.toNat at_.toNat]) := by
              rw [show lev.toNat = 0 by omega]; rfl
            refine run_pa hmix ti_ok tbv_ok 999 false 400 [true] [0] [] (fun ar lf => by conv => lhs; cbv) (allP ?_) ?_
            · simp only [conj, and_true, Int.ofNat_eq_natCast, arR, rcmp_lss, rcmp_gtr, rcmp_geq, rcmp_eql, rcmp_neq, decide_eq_true_eq, decide_eq_false_iff_not, lrR, lqR, f1, f2, f3, hseg, hany, Int.toNat_natCast, List.length_cons, List.length_nil, maxLen]
              ((repeat' with_reducible apply And.intro) <;> first | omega | assumption | rfl | trivial)
            · refine Run.ret ti_ok rfl rfl ?_
              have eB : lrR.cat bits (lrR.ptB L ms lev at_) = bits ++ [.bool (mnt ms lev.toNat at_.toNat)] := by
                show bits ++ (pt L ms lev.toNat at_.toNat).1 = _
                rw [hpt]
              have eI : lrR.cat ids (lrR.ptI L ms lev at_) = ids ++ [lvAt L lev.toNat at_.toNat] := by
                show ids ++ (pt L ms lev.toNat at_.toNat).2 = _
                rw [hpt]
              rw [eB, eI]
              refine HEnd.pack [0, 1, 2, 3, 4] rfl rfl ?_ rfl
              simp only [Int.ofNat_eq_natCast, arR, lrR, lqR, f1, f2, f3, hseg, hany, Int.toNat_natCast, hrow]
              rfl
          · obtain ⟨l', hl'⟩ : ∃ l' : Nat, lev.toNat = l' + 1 := ⟨lev.toNat - 1, by omega⟩
            cases hm : mnt ms lev.toNat at_.toNat with
            | false =>
              have hpt : pt L ms lev.toNat at_.toNat = ([.bool (mnt ms lev.toNat at_.toNat)], [lvAt L lev.toNat at_.toNat]) := by
                rw [hm, hl']
                rw [hl'] at hm
                simp only [pt]
                rw [if_neg (by rw [hm]; simp)]
              refine run_pa hmix ti_ok tbv_ok 999 false 400 [false, true] [0] [] (fun ar lf => by conv => lhs; cbv) (allP ?_) ?_
              · simp only [conj, and_true, Int.ofNat_eq_natCast, arR, rcmp_lss, rcmp_gtr, rcmp_geq, rcmp_eql, rcmp_neq, decide_eq_true_eq, decide_eq_false_iff_not, lrR, lqR, f1, f2, f3, hseg, hany, Int.toNat_natCast, List.length_cons, List.length_nil, maxLen, hm, Bool.not_false]
                ((repeat' with_reducible apply And.intro) <;> first | omega | assumption | rfl | trivial)
              · refine Run.ret ti_ok rfl rfl ?_
                have eB : lrR.cat bits (lrR.ptB L ms lev at_) = bits ++ [.bool (mnt ms lev.toNat at_.toNat)] := by
                  show bits ++ (pt L ms lev.toNat at_.toNat).1 = _
                  rw [hpt]
                have eI : lrR.cat ids (lrR.ptI L ms lev at_) = ids ++ [lvAt L lev.toNat at_.toNat] := by
                  show ids ++ (pt L ms lev.toNat at_.toNat).2 = _
                  rw [hpt]
                rw [eB, eI]
                refine HEnd.pack [0, 1, 2, 3, 4] rfl rfl ?_ rfl
                simp only [Int.ofNat_eq_natCast, arR, lrR, lqR, f1, f2, f3, hseg, hany, Int.toNat_natCast, hrow, hm]
                rfl
            | true =>
              have f4 : rbin .sub .i64 lev 1 = lev - 1 := subi (by omega) (by omega)
              have hle : at_.toNat ≤ at_.toNat * 2 ^ lev.toNat := Nat.le_mul_of_pos_right _ (by omega)
              have f5 : rbin .mul .i64 2 at_ = 2 * at_ := muli (by omega) (by omega)
              have f6 : rbin .add .i64 (2 * at_) 1 = 2 * at_ + 1 := addi (by omega) (by omega)
              have n1 : (lev - 1).toNat = l' := by omega
              have n2 : (2 * at_).toNat = 2 * at_.toNat := by omega
              have n3 : (2 * at_ + 1).toNat = 2 * at_.toNat + 1 := by omega
              have hm' := hm
              have hpi' := hpi
              rw [hl'] at hm' hpi' hbl hil
              obtain ⟨q1, q2⟩ := posIn_left hpi'
              obtain ⟨-, -, -, -, -, -, -, -, q9, q10⟩ := posIn_facts q1
              have hpw : 2 ^ (l' + 1 + 1) = 2 ^ (l' + 1) + 2 ^ (l' + 1) := by rw [Nat.pow_succ]; omega
              have hpw1 : 1 ≤ 2 ^ (l' + 1) := Nat.one_le_two_pow
              have ln1 := pt_len L ms l' (2 * at_.toNat)
              have hlv : lvLen L l' = (L.getD l' (.int 0)).sl!.length := rfl
              by_cases hr : 2 * at_.toNat + 1 < lvLen L l'
              · have q3 := q2 hr
                have hpt : pt L ms lev.toNat at_.toNat = (.bool true :: ((pt L ms l' (2 * at_.toNat)).1 ++ (pt L ms l' (2 * at_.toNat + 1)).1), (pt L ms l' (2 * at_.toNat)).2 ++ (pt L ms l' (2 * at_.toNat + 1)).2) := by
                  rw [hl']
                  simp only [pt]
                  rw [if_pos hm', if_pos hr]
                refine run_pa hmix ti_ok tbv_ok 999 false 400 [false, false, true] [0] [] (fun ar lf => by conv => lhs; cbv) (allP ?_) ?_
                · simp only [conj, and_true, Int.ofNat_eq_natCast, arR, rcmp_lss, rcmp_gtr, rcmp_geq, rcmp_eql, rcmp_neq, decide_eq_true_eq, decide_eq_false_iff_not, lrR, lqR, loR, lnR, lkR, ltR, lpR, lhR, f1, f2, f3, f4, f5, f6, n1, n2, n3, hseg, hany, hm, Int.toNat_natCast, List.length_append, List.length_cons, List.length_nil, maxLen, Bool.not_true]
                  rw [hlv] at hr
                  ((repeat' with_reducible apply And.intro) <;> first | omega | assumption | rfl | trivial)
                · refine Run.fin ti_ok rfl rfl ?_
                  have eB : lrR.cat bits (lrR.ptB L ms lev at_) = ((bits ++ [.bool true]) ++ (pt L ms l' (2 * at_.toNat)).1) ++ (pt L ms l' (2 * at_.toNat + 1)).1 := by
                    show bits ++ (pt L ms lev.toNat at_.toNat).1 = _
                    (rw [hpt]) <;> simp
                  have eI : lrR.cat ids (lrR.ptI L ms lev at_) = (ids ++ (pt L ms l' (2 * at_.toNat)).2) ++ (pt L ms l' (2 * at_.toNat + 1)).2 := by
                    show ids ++ (pt L ms lev.toNat at_.toNat).2 = _
                    (rw [hpt]) <;> simp
                  rw [eB, eI]
                  refine HEnd.pack [0, 1, 2, 3, 4] rfl rfl ?_ rfl
                  simp only [Int.ofNat_eq_natCast, arR, lrR, lqR, loR, lnR, lkR, ltR, lpR, lhR, f1, f2, f3, f4, f5, f6, n1, n2, n3, hseg, hany, hm, Int.toNat_natCast]
                  rfl
              · have hpt : pt L ms lev.toNat at_.toNat = (.bool true :: (pt L ms l' (2 * at_.toNat)).1, (pt L ms l' (2 * at_.toNat)).2) := by
                  rw [hl']
                  simp only [pt]
                  rw [if_pos hm', if_neg hr]
                refine run_pa hmix ti_ok tbv_ok 999 false 400 [false, false, false] [0] [] (fun ar lf => by conv => lhs; cbv) (allP ?_) ?_
                · simp only [conj, and_true, Int.ofNat_eq_natCast, arR, rcmp_lss, rcmp_gtr, rcmp_geq, rcmp_eql, rcmp_neq, decide_eq_true_eq, decide_eq_false_iff_not, lrR, lqR, loR, lnR, lkR, ltR, lpR, lhR, f1, f2, f3, f4, f5, f6, n1, n2, n3, hseg, hany, hm, Int.toNat_natCast, List.length_append, List.length_cons, List.length_nil, maxLen, Bool.not_true]
                  rw [hlv] at hr
                  ((repeat' with_reducible apply And.intro) <;> first | omega | assumption | rfl | trivial)
                · refine Run.fin ti_ok rfl rfl ?_
                  have eB : lrR.cat bits (lrR.ptB L ms lev at_) = ((bits ++ [.bool true]) ++ (pt L ms l' (2 * at_.toNat)).1) := by
                    show bits ++ (pt L ms lev.toNat at_.toNat).1 = _
                    (rw [hpt]) <;> simp
                  have eI : lrR.cat ids (lrR.ptI L ms lev at_) = (ids ++ (pt L ms l' (2 * at_.toNat)).2) := by
                    show ids ++ (pt L ms lev.toNat at_.toNat).2 = _
                    (rw [hpt]) <;> simp
                  rw [eB, eI]
                  refine HEnd.pack [0, 1, 2, 3, 4] rfl rfl ?_ rfl
                  simp only [Int.ofNat_eq_natCast, arR, lrR, lqR, loR, lnR, lkR, ltR, lpR, lhR, f1, f2, f3, f4, f5, f6, n1, n2, n3, hseg, hany, hm, Int.toNat_natCast]
                  rfl
        · cases hs
      · cases hs
    · cases hs
end Go.Proofs.Ytlbllaocdilafaa
