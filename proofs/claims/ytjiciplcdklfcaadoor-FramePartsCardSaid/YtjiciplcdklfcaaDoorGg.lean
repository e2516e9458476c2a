import Derived.Test.YtjiciplcdklfcaaDoorGf
set_option linter.unusedSimpArgs false
set_option linter.unusedVariables false
namespace Go.Eng
open Go
def txA : ByteArray := ⟨⟨[97]⟩⟩
def txXY : ByteArray := ⟨⟨[120, 121]⟩⟩
theorem okA : okCmd txA = true := by decide
theorem en_size {m : Int} {c p : ByteArray} (hc : okCmd c = true) : (enB m c p).size = 24 + p.size := by
  have hz := okCmd_size hc
  have zs : (zerosB (12 - (c.size : Nat))).size = 12 - c.size := by
    show (List.replicate ((12 : Int) - c.size).toNat (0 : UInt8)).toArray.size = _
    rw [List.size_toArray, List.length_replicate]; omega
  unfold enB
  rw [ByteArray.size_append, ByteArray.size_append, ByteArray.size_append, ByteArray.size_append, ByteArray.size_append, lay_len, lay_len, lay_len, zs]
  omega
theorem feed_all {s : ByteArray} (h : s.size ≤ 32816) : feedH .empty 0 s = s ∧ feedN .empty 0 s = s.size := by
  have e : feedN .empty 0 s = s.size := by
    unfold feedN
    rw [if_neg (by simp)]
    show min (s.size : Int) (32816 - (0 : Nat)) = _
    omega
  refine ⟨?_, e⟩
  unfold feedH
  rw [if_neg (by simp), e, ByteArray.empty_append]
  apply ba_eq
  rw [ext_list, List.drop_zero, Int.toNat_natCast, List.take_of_length_le (by rw [Array.length_toList]; exact Nat.le_refl _)]
theorem awake_nx : nextF 7 (feedH .empty 0 (enT 7 txA txXY)) 0 0 = ⟨txA, txXY, true, 0, .empty, 0, 1⟩ ∧ enE txA txXY = 0 ∧ feedN .empty 0 (enT 7 txA txXY) = (enT 7 txA txXY).size ∧ (enT 7 txA txXY).size = 26 := by
  have hE : enE txA txXY = 0 := by
    unfold enE
    rw [if_neg (by rw [okA]; simp), if_neg (by decide)]
  have hT : enT 7 txA txXY = enB 7 txA txXY := if_pos hE
  have hs : (enT 7 txA txXY).size = 26 := by rw [hT, en_size okA]; rfl
  obtain ⟨f1, f2⟩ := feed_all (s := enT 7 txA txXY) (by omega)
  have hF : Front 7 txA txXY (enT 7 txA txXY) := front_of [] okA (by decide) _ (by rw [hT, List.append_nil])
  obtain ⟨d1, d2, d3, d4⟩ := dec_front hF
  refine ⟨?_, hE, f2, hs⟩
  rw [f1]
  unfold nextF
  rw [if_neg (by simp), if_pos d1, d2, d3, d4]
  have e1 : rbin .add .i64 0 1 = 1 := by decide
  have e2 : (enT 7 txA txXY).extract ((24 + (txXY.size : Nat) : Int)).toNat (enT 7 txA txXY).size = .empty := by
    apply ba_eq
    rw [ext_list, List.drop_of_length_le (by rw [List.length_take]; rw [hs]; show min _ _ ≤ ((24 + ((2 : Nat) : Int)) : Int).toNat; omega)]
    rfl
  rw [e1, e2]
end Go.Eng
namespace Go.Proofs.YtjiciplcdklfcaaDoor
open Go Go.Eng Go.Proofs Go.RowKit
attribute [local irreducible] CallOk HOk Run TIok rbin rcmp run1 updF shfF blitF
def tgh (lf : LG4) : Tbl := tbL [(7, nP (kP [none, some FS] (sEncF lf.toLG3)))] [(16, nH (hNewS lf)), (18, nH (hFeed lf)), (19, nH (hNext lf))]
theorem tgh_ok : TblOk Tryd.prog (tgh lg4) := tbL_ok (List.forall_mem_cons.2 ⟨encf_ok.kP.nP, nofun⟩) (List.forall_mem_cons.2 ⟨news_ok.nH, List.forall_mem_cons.2 ⟨feed_ok.nH, List.forall_mem_cons.2 ⟨next_ok.nH, nofun⟩⟩⟩)
def sAwakeF (lf : LG4) : ESpec := fun l => match l with
  | [] => some (.a (.one (.bool true)), [])
  | _ => none
set_option maxHeartbeats 1000000 in
theorem awakef_ok : CallOk Tryd.prog 9 (sAwakeF lg4) := by
  obtain ⟨l, hl⟩ : ∃ l, l = lg4 := ⟨_, rfl⟩
  have htb : TblOk Tryd.prog (tgh l) := by rw [hl]; exact tgh_ok
  obtain ⟨a1, a2, a3, a4⟩ := awake_nx
  have hfh : feedH .empty 0 (enT 7 txA txXY) = enT 7 txA txXY := (feed_all (by omega)).1
  have q1 : l.nx 7 (l.fdH .empty 0 (l.enT 7 (.pair (.str txA) (.str txXY)))) 0 0 = ⟨txA, txXY, true, 0, .empty, 0, 1⟩ := by rw [hl]; exact a1
  have q2 : l.enE (.pair (.str txA) (.str txXY)) = 0 := by rw [hl]; exact a2
  have q3 : l.fdN .empty 0 (l.enT 7 (.pair (.str txA) (.str txXY))) = ((l.enT 7 (.pair (.str txA) (.str txXY))).size : Nat) := by rw [hl]; exact a3
  have q4 : l.held (l.fdH .empty 0 (l.enT 7 (.pair (.str txA) (.str txXY)))) := by
    rw [hl]
    show (feedH .empty 0 (enT 7 txA txXY)).size ≤ 32816
    rw [hfh]; omega
  have q5 : l.layOk 7 4 := by rw [hl]; exact ⟨by decide, by decide, by decide, by decide⟩
  have q6 : l.held .empty := by rw [hl]; exact (by decide : ByteArray.empty.size ≤ 32816)
  have q7 : l.fit (l.enT 7 (.pair (.str txA) (.str txXY))) := by
    rw [hl]
    show (enT 7 txA txXY).size ≤ 9223372036854775807
    omega
  have q8 : l.isF (.pair (.str txA) (.str txXY)) := by rw [hl]; exact ⟨_, _, rfl, by decide, by decide⟩
  rw [← hl]
  clear a1 a2 a3 a4 hfh
  refine .of_run (hc := (tgh l).hc) Tryd.func9 rfl (by kernel_rfl) (by kernel_rfl) fun xs v ps hs hp w => ?_
  unfold sAwakeF at hs
  split at hs
  · cases hs
    clear hp
    refine run_ex hmix ti_ok htb 999 false 400 [false, false, true, true] (fun ar lf => by conv => lhs; cbv) (allP ?_) ?_
    · simp only [conj, and_true, Int.ofNat_eq_natCast, arR, rcmp_lss, rcmp_gtr, rcmp_geq, rcmp_leq, rcmp_eql, rcmp_neq, decide_eq_true_eq, decide_eq_false_iff_not, ne_eq, not_true_eq_false, not_false_eq_true, Int.toNat_natCast, List.length_cons, List.length_nil]
      exact ⟨congrArg NxV.e q1, congrArg NxV.ok q1, q4, q5, fun h => h q3, q6, q7, fun h => h q2, q5, q8⟩
    · refine Run.ret ti_ok rfl rfl (.a (.bool ?_))
      show [(l.nx 7 (l.fdH .empty 0 (l.enT 7 (.pair (.str txA) (.str txXY)))) 0 0).c.toList == txA.toList, (l.nx 7 (l.fdH .empty 0 (l.enT 7 (.pair (.str txA) (.str txXY)))) 0 0).p.toList == txXY.toList].all id = true
      rw [q1]
      simp
  · cases hs

def tgi (lf : LG4) : Tbl := tbL [(9, sAwakeF lf), (19, sNextN lf), (18, sFeedN lf), (17, sHeldN lf), (26, sNeedN lf), (20, sTakenN lf), (21, sBrokenN lf), (24, sCloneN lf)] []
theorem tgi_ok : TblOk Tryd.prog (tgi lg4) := tbL_ok (List.forall_mem_cons.2 ⟨awakef_ok, List.forall_mem_cons.2 ⟨nextn_ok, List.forall_mem_cons.2 ⟨feedn_ok, List.forall_mem_cons.2 ⟨heldn_ok, List.forall_mem_cons.2 ⟨needn_ok, List.forall_mem_cons.2 ⟨takenn_ok, List.forall_mem_cons.2 ⟨brokenn_ok, List.forall_mem_cons.2 ⟨clonen_ok, nofun⟩⟩⟩⟩⟩⟩⟩⟩) nofun
def sLNil (lf : LG4) : ESpec := fun l => match l with
  | [.one (.str s)] => some (.a (.one (.bool true)), [])
  | _ => none
set_option maxHeartbeats 1000000 in
theorem lnil_ok : CallOk Tryd.prog 6 (sLNil lg4) := by
  refine .of_run (hc := (tgi lg4).hc) Tryd.func6 rfl (by kernel_rfl) (by kernel_rfl) fun xs v ps hs hp w => ?_
  unfold sLNil at hs
  split at hs
  · cases hs
    clear hp
    refine run_ex hmix ti_ok tgi_ok 999 false 400 [true, true, true, true, true, true, true, true, true, true, true, true] (fun ar lf => by conv => lhs; cbv) (allP ?_) ?_
    · simp only [conj, and_true, Int.ofNat_eq_natCast, arR, rcmp_lss, rcmp_gtr, rcmp_geq, rcmp_leq, rcmp_eql, rcmp_neq, decide_eq_true_eq, decide_eq_false_iff_not, ne_eq, not_true_eq_false, not_false_eq_true, Int.toNat_natCast, List.length_cons, List.length_nil]
      refine ⟨trivial, trivial, trivial, trivial, trivial, rfl, ?_⟩
      simp
    · exact Run.ret ti_ok rfl rfl (.a (.bool rfl))
  · cases hs
end Go.Proofs.YtjiciplcdklfcaaDoor
