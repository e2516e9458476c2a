import Derived.Test.YtjiciplcdklfcaaDoorGd
set_option linter.unusedSimpArgs false
set_option linter.unusedVariables false
namespace Go.Eng
open Go
theorem leV_lay (n : Nat) : ∀ k, leV ((List.range k).map fun i => UInt8.ofNat (n / 256 ^ i % 256)) = n % 256 ^ k := by
  intro k
  induction k with
  | zero => simp [leV, Nat.mod_one]
  | succ k ih =>
    rw [List.range_succ, List.map_append, List.map_cons, List.map_nil, leV_snoc, ih, List.length_map, List.length_range]
    have e : (UInt8.ofNat (n / 256 ^ k % 256)).toNat = n / 256 ^ k % 256 := by
      rw [UInt8.toNat_ofNat']; omega
    rw [e, Nat.pow_succ, Nat.mod_mul]
theorem lay_list (n : Int) (k : Nat) : (layB n k).data.toList = (List.range k).map fun i => UInt8.ofNat (n.toNat / 256 ^ i % 256) := rfl
theorem get4_lay {n : Int} (h0 : 0 ≤ n) (h1 : n < 4294967296) {s : ByteArray} (hs : s.data.toList.take 4 = (layB n 4).data.toList) : get4 s = n := by
  unfold get4
  rw [hs, lay_list, leV_lay]
  have e4 : (256 : Nat) ^ 4 = 4294967296 := by decide
  rw [e4]
  omega
theorem trim_zeros {c : ByteArray} (h : okCmd c = true) (k : Nat) : Go.Lib.trimRightB (c.data.toList ++ List.replicate k 0) 0 = c.data.toList := by
  have hz := okCmd_size h
  have hl : c.data.toList.length = c.size := by rw [Array.length_toList]; rfl
  have hall : c.data.toList.all cmdByte = true := by
    unfold okCmd at h
    simp only [Bool.and_eq_true] at h
    exact h.2.2
  unfold Go.Lib.trimRightB
  rw [List.reverse_append, List.reverse_replicate]
  have h1 : ∀ (k : Nat) (l : List UInt8), (List.replicate k (0 : UInt8) ++ l).dropWhile (· == 0) = l.dropWhile (· == 0) := by
    intro k
    induction k with
    | zero => intro l; rfl
    | succ k ih => intro l; rw [List.replicate_succ, List.cons_append, List.dropWhile_cons_of_pos (by rfl), ih]
  rw [h1]
  match hr : c.data.toList.reverse with
  | [] =>
    have : c.data.toList.reverse.length = 0 := by rw [hr]; rfl
    rw [List.length_reverse] at this
    omega
  | b :: l =>
    have hb : b ∈ c.data.toList := by rw [← List.mem_reverse, hr]; exact List.mem_cons_self
    have hcb := List.all_eq_true.1 hall b hb
    have hne : (b == (0 : UInt8)) = false := by
      rw [beq_eq_false_iff_ne]
      rintro rfl
      simp [cmdByte] at hcb
    rw [List.dropWhile_cons_of_neg (by rw [hne]; simp), ← hr, List.reverse_reverse]
theorem ba_list {a : ByteArray} {l : List UInt8} (h : a.data.toList = l) : a = ⟨l.toArray⟩ := by
  cases a with
  | mk d => simp only at h; subst h; simp
theorem ba_eq {a b : ByteArray} (h : a.data.toList = b.data.toList) : a = b := by
  rw [ba_list h, ← ba_list (a := b) rfl]
theorem app_list (a b : ByteArray) : (a ++ b).data.toList = a.data.toList ++ b.data.toList := ByteArray.toList_data_append
/-- where a frame stands at the front -/
structure Front (m : Int) (c p : ByteArray) (T : ByteArray) : Prop where
  e : hdE m T = 0
  c : hdC m T = c
  n : hdN m T = p.size
  s : hdS m T = sumV p
  q : T.extract 24 (24 + p.size) = p
  z : 24 + p.size ≤ T.size
theorem front_of {m : Int} {c p : ByteArray} (rest : List UInt8) (hc : okCmd c = true) (hp : p.size ≤ 16384) (T : ByteArray) (hT : T.data.toList = (enB m c p).data.toList ++ rest) : Front m c p T := by
  have hz := okCmd_size hc
  have hcl : c.data.toList.length = c.size := by rw [Array.length_toList]; rfl
  have hpl : p.data.toList.length = p.size := by rw [Array.length_toList]; rfl
  have hTl : T.data.toList.length = T.size := by rw [Array.length_toList]; rfl
  have l4 : ∀ n : Int, (layB n 4).data.toList.length = 4 := fun n => by rw [Array.length_toList]; exact lay_len n 4
  have hzl : (zerosB (12 - c.size)).data.toList = List.replicate (12 - c.size) 0 := by
    show (List.replicate ((12 : Int) - c.size).toNat 0).toArray.toList = _
    rw [show ((12 : Int) - c.size).toNat = 12 - c.size by omega]
  have hT2 : T.data.toList = (layB m 4).data.toList ++ ((c.data.toList ++ List.replicate (12 - c.size) 0) ++ ((layB p.size 4).data.toList ++ ((layB (sumV p) 4).data.toList ++ (p.data.toList ++ rest)))) := by
    rw [hT]
    unfold enB
    simp only [app_list, hzl, List.append_assoc]
  have hn : (c.data.toList ++ List.replicate (12 - c.size) (0 : UInt8)).length = 12 := by
    rw [List.length_append, List.length_replicate]; omega
  have hsz : T.size = 24 + p.size + rest.length := by
    rw [← hTl, hT2]
    simp only [List.length_append, l4, List.length_replicate]
    omega
  have x1 : T.data.toList.take 4 = (layB m 4).data.toList := by
    rw [hT2, List.take_append_of_le_length (by rw [l4]; omega), List.take_of_length_le (by rw [l4]; omega)]
  have d4 : T.data.toList.drop 4 = (c.data.toList ++ List.replicate (12 - c.size) 0) ++ ((layB p.size 4).data.toList ++ ((layB (sumV p) 4).data.toList ++ (p.data.toList ++ rest))) := by
    rw [hT2, List.drop_append_of_le_length (by rw [l4]; omega), List.drop_of_length_le (by rw [l4]; omega), List.nil_append]
  have d16 : T.data.toList.drop 16 = (layB p.size 4).data.toList ++ ((layB (sumV p) 4).data.toList ++ (p.data.toList ++ rest)) := by
    rw [show 16 = 4 + 12 by rfl, ← List.drop_drop, d4, List.drop_append_of_le_length (by omega), List.drop_of_length_le (by omega), List.nil_append]
  have d20 : T.data.toList.drop 20 = (layB (sumV p) 4).data.toList ++ (p.data.toList ++ rest) := by
    rw [show 20 = 16 + 4 by rfl, ← List.drop_drop, d16, List.drop_append_of_le_length (by rw [l4]; omega), List.drop_of_length_le (by rw [l4]; omega), List.nil_append]
  have d24 : T.data.toList.drop 24 = p.data.toList ++ rest := by
    rw [show 24 = 20 + 4 by rfl, ← List.drop_drop, d20, List.drop_append_of_le_length (by rw [l4]; omega), List.drop_of_length_le (by rw [l4]; omega), List.nil_append]
  have hmag : magB m T = true := by
    unfold magB
    rw [x1, List.take_of_length_le (by rw [l4]; omega)]
    exact beq_self_eq_true _
  have hname : hdName T = c := by
    apply ba_eq
    show (Go.Lib.trimRightB (T.extract 4 16).data.toList 0).toArray.toList = _
    rw [ext_list, List.drop_take, d4, List.take_append_of_le_length (by omega), List.take_of_length_le (by omega)]
    exact trim_zeros hc _
  have hlong : hdLong T = p.size := by
    refine get4_lay (by omega) (by omega) ?_
    rw [ext_list, List.drop_take, d16, List.take_append_of_le_length (by rw [l4]; omega), List.take_take, List.take_of_length_le (by rw [l4]; decide)]
  have hsum : hdSum T = sumV p := by
    have := sum_lay p
    refine get4_lay this.1 this.2 ?_
    rw [ext_list, List.drop_take, d20, List.take_append_of_le_length (by rw [l4]; omega), List.take_take, List.take_of_length_le (by rw [l4]; decide)]
  have hE : hdE m T = 0 := by
    unfold hdE
    rw [if_neg (by rw [hmag]; simp), if_neg (by omega), if_neg (by rw [hname, hc]; simp), if_neg (by rw [hlong]; omega)]
  obtain ⟨e1, e2, e3⟩ := hd_good hE
  refine ⟨hE, by rw [e1, hname], by rw [e2, hlong], by rw [e3, hsum], ?_, by omega⟩
  apply ba_eq
  rw [ext_list, List.drop_take, d24, List.take_append_of_le_length (by omega), List.take_of_length_le (by omega)]
/-- a frame at the front is decoded -/
theorem dec_front {m : Int} {c p T : ByteArray} (h : Front m c p T) : deE m T 0 = 0 ∧ deC m T 0 = c ∧ deP m T 0 = p ∧ deTo m T 0 = 24 + p.size := by
  have hz := h.z
  have e0 : deT T 0 = T := by
    unfold deT
    apply ba_eq
    rw [ext_list, Int.toNat_zero, List.drop_zero, List.take_of_length_le (by rw [Array.length_toList]; exact Nat.le_refl _)]
  have hpay : dePay m T 0 = p := by
    unfold dePay
    rw [e0, h.n, Int.toNat_natCast]; exact h.q
  have hE : deE m T 0 = 0 := by
    unfold deE
    rw [if_neg (by omega), e0, if_neg (by rw [h.e]; simp), if_neg (by rw [h.n]; omega), hpay, h.s, if_neg (by simp)]
  refine ⟨hE, ?_, ?_, ?_⟩
  · unfold deC; rw [if_pos hE, e0, h.c]
  · unfold deP; rw [if_pos hE, hpay]
  · unfold deTo; rw [if_pos hE, e0, h.n]; omega
end Go.Eng
namespace Go.Proofs.YtjiciplcdklfcaaDoor
open Go Go.Eng Go.Proofs Go.RowKit
attribute [local irreducible] CallOk HOk Run TIok rbin rcmp run1 updF shfF blitF

end Go.Proofs.YtjiciplcdklfcaaDoor
