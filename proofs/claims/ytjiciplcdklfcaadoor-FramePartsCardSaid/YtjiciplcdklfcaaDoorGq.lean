import Derived.Test.YtjiciplcdklfcaaDoorGv
import Derived.Test.YtjiciplcdklfcaaDoorGn
set_option linter.unusedSimpArgs false
set_option linter.unusedVariables false
namespace Go.Eng
open Go
structure LG7 extends LG5 where
  isL : List D → Prop
  isI : List D → Prop
def lg7 : LG7 where
  toLG5 := lg5
  isL xs := xs.length ≤ 4398046511104 ∧ ∀ d ∈ xs, isFr d
  isI cs := cs.length ≤ 140737488355328
/-- those that may be told -/
def goods (l : List D) : List D := l.filter fun d => enE (frC d) (frP d) == 0
theorem goods_ok {l : List D} (h : ∀ d ∈ l, isFr d) : ∀ d ∈ goods l, okFr d := by
  intro d hd
  have := List.mem_filter.1 hd
  exact okFr_of (h d this.1) (eq_of_beq this.2)
theorem goods_snoc (l : List D) (d : D) : goods (l ++ [d]) = goods l ++ (if enE (frC d) (frP d) = 0 then [d] else []) := by
  unfold goods
  rw [List.filter_append]
  congr 1
  by_cases h : enE (frC d) (frP d) = 0
  · rw [if_pos h]; simp [h]
  · rw [if_neg h]; simp [h]
theorem goods_len (l : List D) : (goods l).length ≤ l.length := List.length_filter_le _ _
theorem lg7_nx : lg7.nx = nextF := rfl
theorem mn_eq (x y : Int) : arR.mn x y = min x y := by
  show (if y < x then y else x) = _
  split <;> omega
theorem mx_eq (x y : Int) : arR.mx x y = max x y := by
  show (if y > x then y else x) = _
  split <;> omega
end Go.Eng
namespace Go.Proofs.YtjiciplcdklfcaaDoor
open Go Go.Eng Go.Proofs Go.RowKit
attribute [local irreducible] CallOk HOk Run TIok rbin rcmp run1 updF shfF blitF
def tgr (lf : LG7) : Tbl := tbL [(9, sAwakeF lf.toLG4), (7, nP (kP [none, some FS] (sEncF lf.toLG4.toLG3))), (14, nP (sDecF lf.toLG4.toLG3))] [(16, nH (hNewS lf.toLG4)), (18, nH (hFeed lf.toLG4)), (19, nH (hNext lf.toLG4)), (17, nH (hHeld lf.toLG4)), (20, nH (hTaken lf.toLG4)), (21, nH (hBroken lf.toLG4))]
theorem tgr_ok : TblOk Tryd.prog (tgr lg7) := tbL_ok (List.forall_mem_cons.2 ⟨awakef_ok, List.forall_mem_cons.2 ⟨encf_ok.kP.nP, List.forall_mem_cons.2 ⟨decf_ok.nP, nofun⟩⟩⟩) (List.forall_mem_cons.2 ⟨news_ok.nH, List.forall_mem_cons.2 ⟨feed_ok.nH, List.forall_mem_cons.2 ⟨next_ok.nH, List.forall_mem_cons.2 ⟨held_ok.nH, List.forall_mem_cons.2 ⟨taken_ok.nH, List.forall_mem_cons.2 ⟨broken_ok.nH, nofun⟩⟩⟩⟩⟩⟩)
def sLParts (lf : LG7) : ESpec := fun l => match l with
  | [.one (.int .u32 m), .one (.dat s xs none), .one (.dat s2 cuts none)] => if shEq s (.two .str .str) && shEq s2 (.int .i64) then some (.a (.one (.bool true)), [lf.layOk m 4, lf.isL xs, lf.isI cuts]) else none
  | _ => none
attribute [local irreducible] hdE hdC hdN hdS deE deC deP deTo sumV needF nextF feedH feedN enT enE okCmd enB

set_option maxRecDepth 100000 in
set_option maxHeartbeats 8000000 in
theorem parts_run (w : World) {m : Int} {cuts wn : List D} {s : ByteArray} (hm : lg7.layOk m 4) (hwb : wn.length ≤ 4398046511104) (hcl : cuts.length ≤ 140737488355328) (hgo : ∀ d ∈ wn, okFr d) (hs : s.data.toList = catB m wn) : Run Tryd.prog (tgr lg7).hc w 0 Tryd.f4 (fun x _ => VLe x (.a (.one (.bool true)))) ⟨(([.any, .any, .a (.one (.dat (.int .i64) cuts none)), .any, .any, .any, .any, .a (.one (.str s)), .a (.one (.dat (.two .str .str) wn (some 0))), .any, .any, .any, .any, .any, .any, .any, .a (.one (.ptr 1 (.lit 0))), .a (.one (.int .i64 0)), .a (.one (.int .i64 0)), .any, .any, .any, .any, .any, .any, .any, .any, .any, .any, .any, .any, .any, .any, .any, .any, .any, .any, .any, .any, .any, .any, .any, .any, .any, .any, .any, .any, .any, .any, .any, .any, .any, .any, .any, .any, .any, .any, .any, .any, .any, .any, .any, .any, .any, .any, .any, .any, .any, .any, .any, .any, .any, .any, .any, .any, .any, .any, .any, .any, .any, .any, .any, .any, .any, .any, .any, .any, .any, .any, .any, .any, .any, .any, .any, .any, .any, .any, .any, .any, .any, .any, .any, .any, .any, .any, .any, .any, .any, .any, .any, .any, .any, .any, .any, .any, .any, .any, .any, .any, .any, .any, .any, .any, .any, .any, .any, .any, .any, .any, .any, .any, .any, .any, .any, .any, .any, .any, .any, .any, .any, .any, .any, .any, .any, .any, .any, .any, .any, .any, .any, .any], [some ⟨false, .tail⟩, some ⟨false, .lst [.int .u32 m, .str .empty, .int .i64 0, .int .i64 0]⟩]) : List V × Heap).1, (([.any, .any, .a (.one (.dat (.int .i64) cuts none)), .any, .any, .any, .any, .a (.one (.str s)), .a (.one (.dat (.two .str .str) wn (some 0))), .any, .any, .any, .any, .any, .any, .any, .a (.one (.ptr 1 (.lit 0))), .a (.one (.int .i64 0)), .a (.one (.int .i64 0)), .any, .any, .any, .any, .any, .any, .any, .any, .any, .any, .any, .any, .any, .any, .any, .any, .any, .any, .any, .any, .any, .any, .any, .any, .any, .any, .any, .any, .any, .any, .any, .any, .any, .any, .any, .any, .any, .any, .any, .any, .any, .any, .any, .any, .any, .any, .any, .any, .any, .any, .any, .any, .any, .any, .any, .any, .any, .any, .any, .any, .any, .any, .any, .any, .any, .any, .any, .any, .any, .any, .any, .any, .any, .any, .any, .any, .any, .any, .any, .any, .any, .any, .any, .any, .any, .any, .any, .any, .any, .any, .any, .any, .any, .any, .any, .any, .any, .any, .any, .any, .any, .any, .any, .any, .any, .any, .any, .any, .any, .any, .any, .any, .any, .any, .any, .any, .any, .any, .any, .any, .any, .any, .any, .any, .any, .any, .any, .any, .any, .any, .any, .any], [some ⟨false, .tail⟩, some ⟨false, .lst [.int .u32 m, .str .empty, .int .i64 0, .int .i64 0]⟩]) : List V × Heap).2, todoAt Tryd.f4 1, [], []⟩ := by
  have hsz : s.size ≤ wn.length * 16408 := by
    have := catB_len m hgo
    rw [← hs, Array.length_toList] at this
    exact this
  have held0 : lg7.held .empty := (by decide : ByteArray.empty.size ≤ 32816)
  refine Run.loop (ι := {p : ((Int × Int) × ByteArray) × ByteArray × Int × Int // (0 ≤ p.1.1.2 ∧ p.1.1.2 + p.1.2.size ≤ cuts.length + s.size) ∧ p.1.2.size ≤ s.size ∧ (invP m wn p.1.1.1 p.2.1 p.1.2 ∧ waitP wn p.1.1.1 p.2.1) ∧ p.2.2.1 = 0 ∧ p.2.2.2 = p.1.1.1})
    (fun i => ([.any, .any, .a (.one (.dat (.int .i64) cuts none)), .any, .any, .any, .any, .a (.one (.str i.1.1.2)), .a (.one (.dat (.two .str .str) wn (some 0))), .any, .any, .any, .any, .any, .any, .any, .a (.one (.ptr 1 (.lit 0))), .a (.one (.int .i64 i.1.1.1.1)), .a (.one (.int .i64 i.1.1.1.2)), .any, .any, .any, .any, .any, .any, .any, .any, .any, .any, .any, .any, .any, .any, .any, .any, .any, .any, .any, .any, .any, .any, .any, .any, .any, .any, .any, .any, .any, .any, .any, .any, .any, .any, .any, .any, .any, .any, .any, .any, .any, .any, .any, .any, .any, .any, .any, .any, .any, .any, .any, .any, .any, .any, .any, .any, .any, .any, .any, .any, .any, .any, .any, .any, .any, .any, .any, .any, .any, .any, .any, .any, .any, .any, .any, .any, .any, .any, .any, .any, .any, .any, .any, .any, .any, .any, .any, .any, .any, .any, .any, .any, .any, .any, .any, .any, .any, .any, .any, .any, .any, .any, .any, .any, .any, .any, .any, .any, .any, .any, .any, .any, .any, .any, .any, .any, .any, .any, .any, .any, .any, .any, .any, .any, .any, .any, .any, .any, .any, .any, .any, .any], [some ⟨false, .tail⟩, some ⟨false, .lst [.int .u32 m, .str i.1.2.1, .int .i64 i.1.2.2.1, .int .i64 i.1.2.2.2]⟩]))
    (fun i => i.1.1.2.size + (cuts.length - i.1.1.1.2).toNat) ⟨(((0, 0), s), .empty, 0, 0), by simp only; omega, Nat.le_refl _, ⟨⟨by simp only; omega, by simp only [Int.toNat_zero, List.drop_zero]; exact hs⟩, fun d _ => by show (0 : Nat) < _; omega⟩, rfl, rfl⟩ ?_
  rintro ⟨⟨⟨⟨n, i⟩, s1⟩, h, b, t⟩, hi, hs1, ⟨hI, hW⟩, hb, ht⟩ ih
  simp only at hi hs1 hI hW hb ht
  subst b
  subst t
  have hnb := hI.1
  have hh := held_lt hgo hI hW
  have hh' : lg7.held h := (by omega : h.size ≤ 32816)
  have f1 : rbin .sub .i64 32816 (h.size : Nat) = 32816 - (h.size : Nat) := subi (by omega) (by omega)
  have e1 : rbin .add .i64 i 1 = i + 1 := addi (by omega) (by omega)
  by_cases h0 : s1.size = 0
  · obtain rfl : s1 = .empty := ba_eq (by rw [List.eq_nil_of_length_eq_zero (l := s1.data.toList) (by rw [sz_list]; exact h0)]; rfl)
    obtain ⟨hn, rfl⟩ := all_told hgo hI hW
    refine run_ex hmix ti_ok tgr_ok 999 false 400 [false, true, true, true] (fun ar lf => by conv => lhs; cbv) (allP ?_) ?_
    · simp only [conj, and_true, Int.ofNat_eq_natCast, arR, rcmp_lss, rcmp_gtr, rcmp_geq, rcmp_leq, rcmp_eql, rcmp_neq, decide_eq_true_eq, decide_eq_false_iff_not, ne_eq, not_true_eq_false, not_false_eq_true, Int.toNat_natCast, List.length_cons, List.length_nil]
      exact ⟨trivial, rfl, hn, by simp only [beq_self_eq_true, Bool.not_true]⟩
    · refine Run.ret ti_ok rfl rfl (.a (.bool ?_))
      show rcmp .eql 0 0 = true
      rw [rcmp_eql]; simp
  · have inner : ∀ h2 s2, invP m wn n h2 s2 → h2.size ≤ 32816 → s2.size ≤ s.size → (i + 1) + s2.size ≤ cuts.length + s.size → s2.size + (cuts.length - (i + 1)).toNat < s1.size + (cuts.length - i).toNat → Run Tryd.prog (tgr lg7).hc w 0 Tryd.f4 (fun x _ => VLe x (.a (.one (.bool true)))) ⟨(([.any, .any, .a (.one (.dat (.int .i64) cuts none)), .any, .any, .any, .any, .a (.one (.str s2)), .a (.one (.dat (.two .str .str) wn (some 0))), .any, .any, .any, .any, .any, .any, .any, .a (.one (.ptr 1 (.lit 0))), .a (.one (.int .i64 n)), .a (.one (.int .i64 i)), .any, .any, .any, .any, .any, .any, .any, .any, .any, .any, .any, .any, .any, .any, .any, .any, .any, .any, .any, .any, .any, .any, .any, .any, .any, .any, .any, .any, .any, .any, .any, .any, .any, .any, .any, .any, .any, .any, .any, .any, .any, .any, .any, .any, .any, .any, .any, .any, .any, .any, .any, .any, .any, .any, .any, .any, .any, .any, .any, .any, .any, .any, .any, .any, .any, .any, .any, .any, .any, .any, .any, .any, .any, .any, .any, .any, .any, .any, .any, .any, .any, .any, .any, .any, .any, .any, .any, .any, .any, .any, .any, .any, .any, .any, .any, .any, .any, .any, .any, .any, .any, .any, .any, .any, .any, .any, .any, .any, .any, .any, .any, .any, .any, .any, .any, .any, .any, .any, .any, .any, .any, .any, .any, .any, .any, .any, .any, .any, .any, .any, .any, .any], [some ⟨false, .tail⟩, some ⟨false, .lst [.int .u32 m, .str h2, .int .i64 0, .int .i64 n]⟩]) : List V × Heap).1, (([.any, .any, .a (.one (.dat (.int .i64) cuts none)), .any, .any, .any, .any, .a (.one (.str s2)), .a (.one (.dat (.two .str .str) wn (some 0))), .any, .any, .any, .any, .any, .any, .any, .a (.one (.ptr 1 (.lit 0))), .a (.one (.int .i64 n)), .a (.one (.int .i64 i)), .any, .any, .any, .any, .any, .any, .any, .any, .any, .any, .any, .any, .any, .any, .any, .any, .any, .any, .any, .any, .any, .any, .any, .any, .any, .any, .any, .any, .any, .any, .any, .any, .any, .any, .any, .any, .any, .any, .any, .any, .any, .any, .any, .any, .any, .any, .any, .any, .any, .any, .any, .any, .any, .any, .any, .any, .any, .any, .any, .any, .any, .any, .any, .any, .any, .any, .any, .any, .any, .any, .any, .any, .any, .any, .any, .any, .any, .any, .any, .any, .any, .any, .any, .any, .any, .any, .any, .any, .any, .any, .any, .any, .any, .any, .any, .any, .any, .any, .any, .any, .any, .any, .any, .any, .any, .any, .any, .any, .any, .any, .any, .any, .any, .any, .any, .any, .any, .any, .any, .any, .any, .any, .any, .any, .any, .any, .any, .any, .any, .any, .any, .any], [some ⟨false, .tail⟩, some ⟨false, .lst [.int .u32 m, .str h2, .int .i64 0, .int .i64 n]⟩]) : List V × Heap).2, todoAt Tryd.f4 2, [], []⟩ := by
      intro h2 s2 hI2 hh2 hs2 hb2 hmu
      refine Run.loop (ι := {p : Int × ByteArray × Int × Int // invP m wn p.1 p.2.1 s2 ∧ p.2.1.size ≤ 32816 ∧ p.2.2.1 = 0 ∧ p.2.2.2 = p.1})
        (fun i2 => ([.any, .any, .a (.one (.dat (.int .i64) cuts none)), .any, .any, .any, .any, .a (.one (.str s2)), .a (.one (.dat (.two .str .str) wn (some 0))), .any, .any, .any, .any, .any, .any, .any, .a (.one (.ptr 1 (.lit 0))), .a (.one (.int .i64 i2.1.1)), .a (.one (.int .i64 i)), .any, .any, .any, .any, .any, .any, .any, .any, .any, .any, .any, .any, .any, .any, .any, .any, .any, .any, .any, .any, .any, .any, .any, .any, .any, .any, .any, .any, .any, .any, .any, .any, .any, .any, .any, .any, .any, .any, .any, .any, .any, .any, .any, .any, .any, .any, .any, .any, .any, .any, .any, .any, .any, .any, .any, .any, .any, .any, .any, .any, .any, .any, .any, .any, .any, .any, .any, .any, .any, .any, .any, .any, .any, .any, .any, .any, .any, .any, .any, .any, .any, .any, .any, .any, .any, .any, .any, .any, .any, .any, .any, .any, .any, .any, .any, .any, .any, .any, .any, .any, .any, .any, .any, .any, .any, .any, .any, .any, .any, .any, .any, .any, .any, .any, .any, .any, .any, .any, .any, .any, .any, .any, .any, .any, .any, .any, .any, .any, .any, .any, .any, .any], [some ⟨false, .tail⟩, some ⟨false, .lst [.int .u32 m, .str i2.1.2.1, .int .i64 i2.1.2.2.1, .int .i64 i2.1.2.2.2]⟩]))
        (fun i2 => i2.1.2.1.size) ⟨(n, h2, 0, n), hI2, hh2, rfl, rfl⟩ ?_
      rintro ⟨⟨n3, h3, b, t⟩, hI3, hh3, hb, ht⟩ ih2
      simp only at hI3 hh3 hb ht
      subst b
      subst t
      have hnb3 := hI3.1
      have hh3' : lg7.held h3 := hh3
      have e3 : rbin .add .i64 n3 1 = n3 + 1 := addi (by omega) (by omega)
      rcases next_parts n3 hgo hI3 with ⟨hW3, hN⟩ | ⟨d, hd, ho, hn3, hN, hI4, hl4⟩
      · refine run_pa hmix ti_ok tgr_ok 2 false 400 [false, true] [2, 7, 8, 16, 17, 18] [7, 17, 18] (fun ar lf => by conv => lhs; cbv) (allP ?_) ?_
        · simp only [conj, and_true, Int.ofNat_eq_natCast, arR, rcmp_lss, rcmp_gtr, rcmp_geq, rcmp_leq, rcmp_eql, rcmp_neq, decide_eq_true_eq, decide_eq_false_iff_not, ne_eq, not_true_eq_false, not_false_eq_true, Int.toNat_natCast, List.length_cons, List.length_nil, lg7_nx, hN]
          exact ⟨rfl, trivial, hh3', hm⟩
        · simp only [lg7_nx, hN]
          refine ih ⟨(((_, _), _), _, _, _), ?_, hs2, ⟨hI3, hW3⟩, rfl, rfl⟩ ?_ _ _
          · show 0 ≤ rbin .add .i64 i 1 ∧ rbin .add .i64 i 1 + s2.size ≤ cuts.length + s.size
            rw [e1]; omega
          · show s2.size + (cuts.length - rbin .add .i64 i 1).toNat < s1.size + (cuts.length - i).toNat
            rw [e1]; exact hmu
      · obtain ⟨⟨c, q, rfl, hc, hq⟩, ho2⟩ := ho
        refine run_pa hmix ti_ok tgr_ok 6 true 400 [false, false, false, false] [2, 7, 8, 16, 17, 18] [17] (fun ar lf => by conv => lhs; cbv) (allP ?_) ?_
        · simp only [conj, and_true, Int.ofNat_eq_natCast, arR, rcmp_lss, rcmp_gtr, rcmp_geq, rcmp_leq, rcmp_eql, rcmp_neq, decide_eq_true_eq, decide_eq_false_iff_not, ne_eq, not_true_eq_false, not_false_eq_true, Int.toNat_natCast, List.length_cons, List.length_nil, lg7_nx, hN]
          exact ⟨by rw [hd]; show (![c.toList == c.toList, q.toList == q.toList].all id) = false; simp, by omega, by omega, rfl, trivial, hh3', hm⟩
        · simp only [lg7_nx, hN]
          refine ih2 ⟨(_, _, _, _), ?_, ?_, rfl, rfl⟩ ?_ _ _
          · show invP m wn (rbin .add .i64 n3 1) _ s2
            rw [e3]; exact hI4
          · show (h3.extract _ _).size ≤ 32816
            omega
          · exact hl4
    have hne : (!s1.toList == ((⟨⟨[]⟩⟩ : ByteArray)).toList) = true := by
      rw [Go.Lib.toList_data, Go.Lib.toList_data]
      cases hb : (s1.data.toList == ((⟨⟨[]⟩⟩ : ByteArray)).data.toList) with
      | false => rfl
      | true => exact absurd (by rw [← sz_list, eq_of_beq hb]; rfl) h0
    by_cases hic : i < cuts.length
    · have hq1 : 0 ≤ (arR.mn (arR.mn (arR.mx (cuts.getD i.toNat (.int 0)).int! 0) (s1.size : Nat)) (rbin .sub .i64 32816 (h.size : Nat))) ∧ (arR.mn (arR.mn (arR.mx (cuts.getD i.toNat (.int 0)).int! 0) (s1.size : Nat)) (rbin .sub .i64 32816 (h.size : Nat))) ≤ s1.size ∧ (arR.mn (arR.mn (arR.mx (cuts.getD i.toNat (.int 0)).int! 0) (s1.size : Nat)) (rbin .sub .i64 32816 (h.size : Nat))) ≤ 32816 - h.size ∧ (i < cuts.length ∨ 1 ≤ (arR.mn (arR.mn (arR.mx (cuts.getD i.toNat (.int 0)).int! 0) (s1.size : Nat)) (rbin .sub .i64 32816 (h.size : Nat)))) := by
        rw [mn_eq, mn_eq, mx_eq, f1]
        omega
      obtain ⟨c1, c2⟩ := feed_cut (h := h) (s := s1) hq1.1 hq1.2.1 hq1.2.2.1
      have hqs : (s1.extract 0 (arR.mn (arR.mn (arR.mx (cuts.getD i.toNat (.int 0)).int! 0) (s1.size : Nat)) (rbin .sub .i64 32816 (h.size : Nat))).toNat).size ≤ 9223372036854775807 := by rw [ByteArray.size_extract]; omega
      have hin := inner (feedH h 0 (s1.extract 0 (arR.mn (arR.mn (arR.mx (cuts.getD i.toNat (.int 0)).int! 0) (s1.size : Nat)) (rbin .sub .i64 32816 (h.size : Nat))).toNat)) (s1.extract (arR.mn (arR.mn (arR.mx (cuts.getD i.toNat (.int 0)).int! 0) (s1.size : Nat)) (rbin .sub .i64 32816 (h.size : Nat))).toNat s1.size) (by rw [c2]; exact inv_feed hI (by omega)) (by rw [c2, ByteArray.size_append, ByteArray.size_extract]; omega) (by rw [ByteArray.size_extract]; omega) (by rw [ByteArray.size_extract]; omega) (by rw [ByteArray.size_extract]; omega)
      refine run_pa hmix ti_ok tgr_ok 2 false 400 [true, true, false] [2, 7, 8, 16, 17, 18] [17] (fun ar lf => by conv => lhs; cbv) (allP ?_) ?_
      · simp only [conj, and_true, Int.ofNat_eq_natCast, arR, rcmp_lss, rcmp_gtr, rcmp_geq, rcmp_leq, rcmp_eql, rcmp_neq, decide_eq_true_eq, decide_eq_false_iff_not, ne_eq, not_true_eq_false, not_false_eq_true, Int.toNat_natCast, List.length_cons, List.length_nil]
        exact ⟨⟨hq1.1, hq1.2.1⟩, fun hx => hx c1, hh', hqs, ⟨hq1.1, hq1.2.1⟩, ⟨hi.1, hic⟩, hic, hne⟩
      · exact hin
    · have hq1 : 0 ≤ (arR.mn (s1.size : Nat) (rbin .sub .i64 32816 (h.size : Nat))) ∧ (arR.mn (s1.size : Nat) (rbin .sub .i64 32816 (h.size : Nat))) ≤ s1.size ∧ (arR.mn (s1.size : Nat) (rbin .sub .i64 32816 (h.size : Nat))) ≤ 32816 - h.size ∧ (i < cuts.length ∨ 1 ≤ (arR.mn (s1.size : Nat) (rbin .sub .i64 32816 (h.size : Nat)))) := by
        rw [mn_eq, f1]
        omega
      obtain ⟨c1, c2⟩ := feed_cut (h := h) (s := s1) hq1.1 hq1.2.1 hq1.2.2.1
      have hqs : (s1.extract 0 (arR.mn (s1.size : Nat) (rbin .sub .i64 32816 (h.size : Nat))).toNat).size ≤ 9223372036854775807 := by rw [ByteArray.size_extract]; omega
      have hin := inner (feedH h 0 (s1.extract 0 (arR.mn (s1.size : Nat) (rbin .sub .i64 32816 (h.size : Nat))).toNat)) (s1.extract (arR.mn (s1.size : Nat) (rbin .sub .i64 32816 (h.size : Nat))).toNat s1.size) (by rw [c2]; exact inv_feed hI (by omega)) (by rw [c2, ByteArray.size_append, ByteArray.size_extract]; omega) (by rw [ByteArray.size_extract]; omega) (by rw [ByteArray.size_extract]; omega) (by rw [ByteArray.size_extract]; omega)
      refine run_pa hmix ti_ok tgr_ok 2 false 400 [true, false, false] [2, 7, 8, 16, 17, 18] [17] (fun ar lf => by conv => lhs; cbv) (allP ?_) ?_
      · simp only [conj, and_true, Int.ofNat_eq_natCast, arR, rcmp_lss, rcmp_gtr, rcmp_geq, rcmp_leq, rcmp_eql, rcmp_neq, decide_eq_true_eq, decide_eq_false_iff_not, ne_eq, not_true_eq_false, not_false_eq_true, Int.toNat_natCast, List.length_cons, List.length_nil]
        exact ⟨⟨hq1.1, hq1.2.1⟩, fun hx => hx c1, hh', hqs, ⟨hq1.1, hq1.2.1⟩, hic, hne⟩
      · exact hin
end Go.Proofs.YtjiciplcdklfcaaDoor
