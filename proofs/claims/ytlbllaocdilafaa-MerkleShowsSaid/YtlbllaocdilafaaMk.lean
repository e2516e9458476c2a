import Derived.Test.YtlbllaocdilafaaMj
import Derived.Test.YtlbllaocdilafaaMa
set_option linter.unusedSimpArgs false
set_option linter.unusedVariables false
namespace Go.Eng
open Go
def prF (f g : Fn8) : Fn8 := sha (arR.txt (sha (arR.txt f 32 ++ arR.txt g 32)) 32)
def rowD (f : Fn8) : D := .row ((List.range 32).map f)
def prD (a b : D) : D := rowD (prF (arR.dRow a) (arR.dRow b))
def eqD (a b : D) : Bool := (List.range 32).map (arR.dRow a) == (List.range 32).map (arR.dRow b)
theorem hash_row {d : D} (h : isHash d) : rowD (arR.dRow d) = d := hash_same h
theorem eqD_iff {a b : D} (ha : isHash a) (hb : isHash b) : eqD a b = true ↔ a = b := by
  unfold eqD
  rw [beq_iff_eq]
  constructor
  · intro h
    rw [← hash_row ha, ← hash_row hb]
    exact congrArg D.row h
  · rintro rfl; rfl
theorem rowD_hash {f : Fn8} (h : isU8s 32 f) : isHash (rowD f) := by
  refine ⟨_, rfl, by simp, fun x hx => ?_⟩
  obtain ⟨j, hj, rfl⟩ := List.mem_map.1 hx
  exact h j (List.mem_range.1 hj)
theorem prD_hash (a b : D) : isHash (prD a b) := rowD_hash (dg_u8 _)
/-- the level above -/
def abv : List D → List D
  | a :: b :: l => prD a b :: abv l
  | [a] => [prD a a]
  | [] => []
/-- do two that stand together agree? -/
def adj : List D → Bool
  | a :: b :: l => eqD a b || adj l
  | _ => false
theorem abv_len : ∀ l : List D, (abv l).length = (l.length + 1) / 2
  | a :: b :: l => by simp only [abv, List.length_cons, abv_len l]; omega
  | [a] => by simp [abv]
  | [] => rfl
theorem abv_hash : ∀ l : List D, ∀ d ∈ abv l, isHash d
  | a :: b :: l, d, h => by
    rcases List.mem_cons.1 h with rfl | h
    · exact prD_hash a b
    · exact abv_hash l d h
  | [a], d, h => by
    rcases List.mem_cons.1 h with rfl | h
    · exact prD_hash a a
    · cases h
theorem abv_HL {l : List D} (h : HL l) : HL (abv l) := ⟨by have := h.1; rw [abv_len]; omega, abv_hash l⟩
theorem drop_at {l : List D} {i : Nat} (h : i < l.length) : l.drop i = l.getD i (.int 0) :: l.drop (i + 1) := by
  rw [List.drop_eq_getElem_cons h, List.getD_eq_getElem?_getD, List.getElem?_eq_getElem h]; rfl
theorem abv_drop {l : List D} {i : Nat} (h : i < l.length) : abv (l.drop i) = prD (l.getD i (.int 0)) (l.getD (min (i + 1) (l.length - 1)) (.int 0)) :: abv (l.drop (i + 2)) := by
  rw [drop_at h]
  by_cases h2 : i + 1 < l.length
  · rw [drop_at h2, show min (i + 1) (l.length - 1) = i + 1 by omega]; rfl
  · rw [List.drop_of_length_le (by omega : l.length ≤ i + 1), List.drop_of_length_le (by omega : l.length ≤ i + 2), show min (i + 1) (l.length - 1) = i by omega]; rfl
theorem adj_drop {l : List D} {i : Nat} (h : i + 1 < l.length) : adj (l.drop i) = (eqD (l.getD i (.int 0)) (l.getD (i + 1) (.int 0)) || adj (l.drop (i + 2))) := by
  rw [drop_at (by omega), drop_at h]; rfl
theorem adj_end {l : List D} {i : Nat} (h : l.length ≤ i + 1) : adj (l.drop i) = false := by
  by_cases h2 : i < l.length
  · rw [drop_at h2, List.drop_of_length_le h]; rfl
  · rw [List.drop_of_length_le (by omega)]; rfl
/-- all levels -/
def lvls (xs : List D) : List D := if h : 1 < xs.length then .sl xs :: lvls (abv xs) else [.sl xs]
  termination_by xs.length
  decreasing_by rw [abv_len]; omega
def levels (xs : List D) : List D := if xs.length = 0 then [] else lvls xs
def rtD (xs : List D) : D := if h : 1 < xs.length then rtD (abv xs) else xs.getD 0 (.int 0)
  termination_by xs.length
  decreasing_by rw [abv_len]; omega
def mutD (xs : List D) : Bool := if h : 1 < xs.length then adj xs || mutD (abv xs) else false
  termination_by xs.length
  decreasing_by rw [abv_len]; omega
def rootF (xs : List D) : Fn8 := if xs.length = 0 then fun _ => 0 else arR.dRow (rtD xs)
def anyAdj (L : List D) : Bool := L.any fun d => adj d.sl!
theorem lvls_ne (xs : List D) : 0 < (lvls xs).length := by
  rw [lvls]; split <;> simp
theorem lvls_len : ∀ (xs : List D), (lvls xs).length ≤ xs.length + 1 := by
  intro xs
  generalize hn : xs.length = n
  induction n using Nat.strongRecOn generalizing xs with
  | _ n ih =>
    rw [lvls]
    split
    · have := ih (abv xs).length (by rw [abv_len]; omega) _ rfl
      rw [List.length_cons]
      have h2 := abv_len xs
      omega
    · simp
theorem lvls_last : ∀ (xs : List D), 0 < xs.length → (lvls xs).getD ((lvls xs).length - 1) (.int 0) = .sl [rtD xs] := by
  intro xs
  generalize hn : xs.length = n
  induction n using Nat.strongRecOn generalizing xs with
  | _ n ih =>
    intro h0
    rw [lvls, rtD]
    split
    · have := ih (abv xs).length (by rw [abv_len]; omega) _ rfl (by rw [abv_len]; omega)
      have hp := lvls_ne (abv xs)
      rw [List.length_cons, show (lvls (abv xs)).length + 1 - 1 = (lvls (abv xs)).length - 1 + 1 by omega, List.getD_cons_succ]
      exact this
    · match xs, hn with
      | [a], _ => rfl
      | [], hn => (first | (simp at hn; done) | (simp at hn; omega))
      | a :: b :: l, hn => (first | (simp at *; done) | (simp at *; omega))
theorem lvls_adj : ∀ (xs : List D), anyAdj (lvls xs) = mutD xs := by
  intro xs
  generalize hn : xs.length = n
  induction n using Nat.strongRecOn generalizing xs with
  | _ n ih =>
    rw [lvls, mutD]
    split
    · have := ih (abv xs).length (by rw [abv_len]; omega) _ rfl
      rw [← this]; rfl
    · match xs, hn with
      | [a], _ => rfl
      | [], hn => rfl
      | a :: b :: l, hn => simp at *
theorem levels_adj (xs : List D) : anyAdj (levels xs) = mutD xs := by
  unfold levels
  split
  · rename_i h
    rw [mutD, dif_neg (by omega)]; rfl
  · exact lvls_adj xs
theorem anyAdj_drop {L : List D} {i : Nat} (h : i < L.length) : anyAdj (L.drop i) = (adj (L.getD i (.int 0)).sl! || anyAdj (L.drop (i + 1))) := by
  rw [drop_at h]; rfl
theorem levels_HL {xs : List D} (hx : HL xs) : ∀ d ∈ levels xs, ∃ l, d = .sl l ∧ HL l := by
  unfold levels
  split
  · simp
  · revert hx
    generalize hn : xs.length = n
    induction n using Nat.strongRecOn generalizing xs with
    | _ n ih =>
      intro hx d hd
      rw [lvls] at hd
      split at hd
      · rcases List.mem_cons.1 hd with rfl | hd
        · exact ⟨_, rfl, hx⟩
        · exact ih (abv xs).length (by rw [abv_len]; omega) (by rw [abv_len]; omega) rfl (abv_HL hx) d hd
      · rcases List.mem_cons.1 hd with rfl | hd
        · exact ⟨_, rfl, hx⟩
        · cases hd
theorem map_row (a : D) : D.row ((List.range 32).map (arR.dRow a)) = rowD (arR.dRow a) := rfl
structure LK extends LT where
  pr : Fn8 → Fn8 → Fn8
  hl : List D → Prop
  abv : List D → List D
  levels : List D → List D
  root : List D → Fn8
  mu : List D → Bool
  adj : List D → Bool
def lkR : LK where
  toLT := ltR
  pr := prF
  hl := HL
  abv := abv
  levels := levels
  root := rootF
  mu := mutD
  adj := adj
end Go.Eng
namespace Go.Proofs.Ytlbllaocdilafaa
open Go Go.Eng Go.Proofs Go.RowKit
attribute [local irreducible] CallOk HOk Run TIok rbin rcmp run1 updF shfF blitF
def tbm0 (lf : LK) : Tbl := tbL [(51, sTwice lf.toLT), (52, sTwice lf.toLT)] []
theorem tbm0_ok : TblOk Try.prog (tbm0 lkR) := tbL_ok (List.forall_mem_cons.2 ⟨twice_ok, List.forall_mem_cons.2 ⟨rtwice_ok, nofun⟩⟩) nofun
def sPair (lf : LK) : ESpec := fun l => match l with
  | [.agg (.ints .u8 (.lit 32) f), .agg (.ints .u8 (.lit 32) g)] => some (.a (aF .u8 32 (lf.pr f g)), [])
  | _ => none
theorem pair_ok : CallOk Try.prog 21 (sPair lkR) := by
  refine .eval (tb := tbm0) hmix ti_ok tbm0_ok Try.func21 rfl (by kernel_rfl) (by kernel_rfl) fun xs v ps h1 hp => ?_
  unfold sPair at h1
  split at h1
  · rename_i f g
    cases h1
    clear hp
    refine ⟨400, [], _, fun ar lf => by conv => lhs; cbv, ?_, ?_⟩
    · refine allP ⟨?_, ?_, trivial⟩
      · show (arR.txt _ 32 ++ arR.txt _ 32).size ≤ 140737488355328
        rw [size_append, text_size, text_size]; decide
      · show (((arR.txt _ 32).size + (arR.txt _ 32).size : Nat) : Int) ≤ 9223372036854775807
        rw [text_size, text_size]; decide
    · refine .a (.ints fun j hj => ?_)
      show sha (arR.txt (sha (arR.txt (fun j => f (0 + j)) 32 ++ arR.txt (fun j => g (0 + j)) 32)) 32) j = prF f g j
      simp only [Nat.zero_add]
      rfl
  · cases h1
theorem rpair_ok : CallOk Try.prog 22 (sPair lkR) := by
  refine .eval (tb := tbm0) hmix ti_ok tbm0_ok Try.func22 rfl (by kernel_rfl) (by kernel_rfl) fun xs v ps h1 hp => ?_
  unfold sPair at h1
  split at h1
  · rename_i f g
    cases h1
    clear hp
    refine ⟨400, [], _, fun ar lf => by conv => lhs; cbv, ?_, ?_⟩
    · refine allP ⟨?_, ?_, trivial⟩
      · show (arR.txt _ 32 ++ arR.txt _ 32).size ≤ 140737488355328
        rw [size_append, text_size, text_size]; decide
      · show (((arR.txt _ 32).size + (arR.txt _ 32).size : Nat) : Int) ≤ 9223372036854775807
        rw [text_size, text_size]; decide
    · refine .a (.ints fun j hj => ?_)
      show sha (arR.txt (sha (arR.txt (fun j => f (0 + j)) 32 ++ arR.txt (fun j => g (0 + j)) 32)) 32) j = prF f g j
      simp only [Nat.zero_add]
      rfl
  · cases h1
def tbm1 (lf : LK) : Tbl := tbL [(21, sPair lf), (22, sPair lf)] []
theorem tbm1_ok : TblOk Try.prog (tbm1 lkR) := tbL_ok (List.forall_mem_cons.2 ⟨pair_ok, List.forall_mem_cons.2 ⟨rpair_ok, nofun⟩⟩) nofun
def sAbove (lf : LK) : ESpec := fun l => match l with
  | [.one (.dat (.arr .u8 32) xs none)] => some (.a (.one (.dat (.arr .u8 32) (lf.abv xs) none)), [lf.hl xs])
  | _ => none
theorem above_ok : CallOk Try.prog 50 (sAbove lkR) := by
  refine .of_run (hc := (tbm1 lkR).hc) Try.func50 rfl (by kernel_rfl) (by kernel_rfl) fun xs v ps hs hp w => ?_
  unfold sAbove at hs
  split at hs
  · rename_i xs
    cases hs
    have hx : HL xs := hp (lkR.hl xs) (by simp)
    clear hp
    refine run_pa hmix ti_ok tbm1_ok 0 false 400 [] [0, 3, 4] [3, 4] (fun ar lf => by conv => lhs; cbv) (allP ?_) ?_
    · trivial
    refine Run.room 3 (.arr .u8 32) rfl (Nat.zero_le _) ?_
    refine Run.loop (ι := {p : Int × List D // (0 ≤ p.1 ∧ p.1 ≤ xs.length + 1) ∧ p.2 ++ abv (xs.drop p.1.toNat) = abv xs})
      (fun i => ([.a (.one (.dat (.arr .u8 32) xs none)), .any, .any, .a (.one (.dat (.arr .u8 32) i.1.2 (some 0))), .a (.one (.int .i64 i.1.1)), .any, .any, .any, .any, .any, .any, .any, .any, .any, .any, .any, .any, .any, .any, .any, .any, .any, .any, .any, .any, .any, .any, .any, .any], [some ⟨false, .tail⟩]))
      (fun i => (xs.length + 1 - i.1.1).toNat) ⟨(0, []), by simp only; omega, rfl⟩ ?_
    rintro ⟨⟨k, ys⟩, hk, hys⟩ ih
    simp only at hk hys
    have hlen := hx.1
    by_cases hlt : k < xs.length
    · have e1 : rbin .add .i64 k 1 = k + 1 := addi (by omega) (by omega)
      have e2 : rbin .add .i64 k 2 = k + 2 := addi (by omega) (by omega)
      have e3 : rbin .sub .i64 xs.length 1 = xs.length - 1 := subi (by omega) (by omega)
      have hyl : ys.length ≤ xs.length := by
        have h1 := congrArg List.length hys
        rw [List.length_append, abv_len xs] at h1
        omega
      refine run_pa hmix ti_ok tbm1_ok 2 true 400 [true] [0, 3, 4] [3, 4] (fun ar lf => by conv => lhs; cbv) (allP ?_) ?_
      · simp only [conj, and_true, Int.ofNat_eq_natCast, arR, rcmp_lss, decide_eq_true_eq, e1, e3, List.length_cons, List.length_nil, maxLen]
        refine ⟨by omega, ?_, by omega, hlt⟩
        split <;> omega
      · refine ih ⟨(_, _), ?_⟩ ?_ _ _
        · simp only
          show (0 ≤ rbin .add .i64 k 2 ∧ rbin .add .i64 k 2 ≤ xs.length + 1) ∧ (ys ++ [prD (xs.getD k.toNat (.int 0)) (xs.getD (arR.mn (rbin .add .i64 k 1) (rbin .sub .i64 xs.length 1)).toNat (.int 0))]) ++ abv (xs.drop (rbin .add .i64 k 2).toNat) = abv xs
          rw [e1, e2, e3]
          have hm : (arR.mn (k + 1) ((xs.length : Int) - 1)).toNat = min (k.toNat + 1) (xs.length - 1) := by
            show (if ((xs.length : Int) - 1) < k + 1 then ((xs.length : Int) - 1) else k + 1).toNat = _
            split <;> omega
          refine ⟨by omega, ?_⟩
          rw [hm, ← hys, abv_drop (by omega : k.toNat < xs.length), show (k + 2).toNat = k.toNat + 2 by omega, List.append_assoc]
          rfl
        · show ((xs.length : Int) + 1 - rbin .add .i64 k 2).toNat < ((xs.length : Int) + 1 - k).toNat
          rw [e2]; omega
    · refine run_ex hmix ti_ok tbm1_ok 999 false 400 [false] (fun ar lf => by conv => lhs; cbv) (allP ?_) ?_
      · simp only [conj, and_true, Int.ofNat_eq_natCast, arR, rcmp_lss, decide_eq_false_iff_not]
        exact hlt
      · refine Run.ret ti_ok rfl rfl ?_
        refine .a (.dat ?_)
        rw [List.drop_of_length_le (by omega)] at hys
        exact (List.append_nil ys).symm.trans hys
  · cases hs
end Go.Proofs.Ytlbllaocdilafaa
