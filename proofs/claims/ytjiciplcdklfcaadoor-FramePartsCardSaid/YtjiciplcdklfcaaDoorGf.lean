import Derived.Test.YtjiciplcdklfcaaDoorGe
set_option linter.unusedSimpArgs false
set_option linter.unusedVariables false
namespace Go.Eng
open Go
structure NxV where
  c : ByteArray
  p : ByteArray
  ok : Bool
  e : Int
  h : ByteArray
  b : Int
  t : Int
def nextF (m : Int) (h : ByteArray) (b t : Int) : NxV :=
  if b ≠ 0 then ⟨.empty, .empty, false, b, h, b, t⟩
  else if deE m h 0 = 0 then ⟨deC m h 0, deP m h 0, true, 0, h.extract (deTo m h 0).toNat h.size, b, rbin .add .i64 t 1⟩
  else if deE m h 0 = 4 then ⟨.empty, .empty, false, 0, h, b, t⟩
  else if deE m h 0 = 83 then ⟨.empty, .empty, false, 83, h.extract (24 + hdN m h).toNat h.size, b, t⟩
  else ⟨.empty, .empty, false, deE m h 0, .empty, deE m h 0, t⟩
def feedN (h : ByteArray) (b : Int) (s : ByteArray) : Int := if b ≠ 0 then 0 else min (s.size : Int) (32816 - h.size)
def feedH (h : ByteArray) (b : Int) (s : ByteArray) : ByteArray := if b ≠ 0 then h else h ++ s.extract 0 (feedN h b s).toNat
def needF (m : Int) (h : ByteArray) (b : Int) : Int := if b ≠ 0 then 0 else if hdE m h = 0 then max 0 (24 + hdN m h - h.size) else if hdE m h = 4 then 24 - h.size else 0
structure LG4 extends LG3 where
  nx : Int → ByteArray → Int → Int → NxV
  fdN : ByteArray → Int → ByteArray → Int
  fdH : ByteArray → Int → ByteArray → ByteArray
  need : Int → ByteArray → Int → Int
  held : ByteArray → Prop
def lg4 : LG4 where
  toLG3 := lg3
  nx := nextF
  fdN := feedN
  fdH := feedH
  need := needF
  held h := h.size ≤ 32816
theorem deT0 (s : ByteArray) : deT s 0 = s := by
  unfold deT
  apply ba_eq
  rw [ext_list, Int.toNat_zero, List.drop_zero, List.take_of_length_le (by rw [Array.length_toList]; exact Nat.le_refl _)]
/-- what an error of a frame at the front says of its head -/
theorem deE_head {m : Int} {s : ByteArray} : (deE m s 0 = 0 ∨ deE m s 0 = 83 → hdE m s = 0 ∧ 24 + hdN m s ≤ s.size ∧ 24 ≤ s.size) ∧ (deE m s 0 = 4 → hdE m s = 4 ∨ (hdE m s = 0 ∧ (s.size : Int) - 24 < hdN m s)) ∧ (deE m s 0 ≠ 0 → deE m s 0 ≠ 4 → deE m s 0 ≠ 83 → hdE m s = deE m s 0) := by
  have h24 : hdE m s = 0 → 24 ≤ s.size := by
    intro h
    refine Nat.not_lt.1 fun hl => ?_
    unfold hdE at h
    split at h
    · cases h
    · cases h
  have hn83 : hdE m s ≠ 83 := by
    unfold hdE
    split
    · decide
    split
    · decide
    split
    · decide
    split <;> decide
  have e : deE m s 0 = if hdE m s ≠ 0 then hdE m s else if (s.size : Int) - (0 + 24) < hdN m s then 4 else if sumV (dePay m s 0) ≠ hdS m s then 83 else 0 := by
    unfold deE
    rw [if_neg (by omega), deT0]
  by_cases h0 : hdE m s = 0
  · rw [if_neg (by rw [h0]; simp)] at e
    have := h24 h0
    by_cases h1 : (s.size : Int) - (0 + 24) < hdN m s
    · rw [if_pos h1] at e
      rw [e]
      refine ⟨fun h => ?_, fun _ => .inr ⟨h0, by omega⟩, fun _ h => absurd rfl h⟩
      rcases h with h | h <;> cases h
    · rw [if_neg h1] at e
      by_cases h2 : sumV (dePay m s 0) = hdS m s
      · rw [if_neg (fun h => h h2)] at e
        rw [e]
        refine ⟨fun _ => ⟨h0, by omega, this⟩, fun h => ?_, fun h => absurd rfl h⟩
        cases h
      · rw [if_pos h2] at e
        rw [e]
        refine ⟨fun _ => ⟨h0, by omega, this⟩, fun h => ?_, fun _ _ h => absurd rfl h⟩
        cases h
  · rw [if_pos h0] at e
    rw [e]
    refine ⟨fun h => ?_, fun h => .inl h, fun _ _ _ => rfl⟩
    rcases h with h | h
    · exact absurd h h0
    · exact absurd h hn83
end Go.Eng
namespace Go.Proofs.YtjiciplcdklfcaaDoor
open Go Go.Eng Go.Proofs Go.RowKit
attribute [local irreducible] CallOk HOk Run TIok rbin rcmp run1 updF shfF blitF
def tgg (lf : LG4) : Tbl := tbL [(14, nP (sDecF lf.toLG3)), (38, nP (sRead lf.toLG3.toLG2))] []
theorem tgg_ok : TblOk Tryd.prog (tgg lg4) := tbL_ok (List.forall_mem_cons.2 ⟨decf_ok.nP, List.forall_mem_cons.2 ⟨fread_ok.nP, nofun⟩⟩) nofun
def hNewS (lf : LG4) : HSpec := fun l bs => match l, bs with
  | [.one (.int .u32 m)], [] => some (.a (.one (.ptr 0 (.lit 0))), [⟨false, .lst [.int .u32 m, .str .empty, .int .i64 0, .int .i64 0]⟩], [])
  | _, _ => none
theorem news_ok : HOk Tryd.prog 16 (hNewS lg4) := by
  refine .of_run (hc := (tgg lg4).hc) Tryd.func16 rfl (by kernel_rfl) (by kernel_rfl) fun las lbs v lbs' ps hs hp w => ?_
  unfold hNewS at hs
  split at hs
  · rename_i m
    cases hs
    refine run_pa hmix ti_ok tgg_ok 999 false 400 [] [2] [] (fun ar lf => by conv => lhs; cbv) (allP ?_) ?_
    · trivial
    exact Run.ret ti_ok rfl rfl (HEnd.pack [0] rfl rfl rfl rfl)
  · cases hs
def hHeld (lf : LG4) : HSpec := fun l bs => match l, bs with
  | [.one (.ptr 0 (.lit 0))], [⟨false, .lst [.int .u32 m, .str h, .int .i64 b, .int .i64 t]⟩] => some (.a (.one (.int .i64 (lf.size h))), [⟨false, .lst [.int .u32 m, .str h, .int .i64 b, .int .i64 t]⟩], [])
  | _, _ => none
theorem held_ok : HOk Tryd.prog 17 (hHeld lg4) := by
  refine .of_run (hc := (tgg lg4).hc) Tryd.func17 rfl (by kernel_rfl) (by kernel_rfl) fun las lbs v lbs' ps hs hp w => ?_
  unfold hHeld at hs
  split at hs
  · rename_i m h b t
    cases hs
    refine run_pa hmix ti_ok tgg_ok 999 false 400 [] [2] [] (fun ar lf => by conv => lhs; cbv) (allP ?_) ?_
    · trivial
    exact Run.ret ti_ok rfl rfl (HEnd.pack [0] rfl rfl rfl rfl)
  · cases hs
def hTaken (lf : LG4) : HSpec := fun l bs => match l, bs with
  | [.one (.ptr 0 (.lit 0))], [⟨false, .lst [.int .u32 m, .str h, .int .i64 b, .int .i64 t]⟩] => some (.a (.one (.int .i64 t)), [⟨false, .lst [.int .u32 m, .str h, .int .i64 b, .int .i64 t]⟩], [])
  | _, _ => none
theorem taken_ok : HOk Tryd.prog 20 (hTaken lg4) := by
  refine .of_run (hc := (tgg lg4).hc) Tryd.func20 rfl (by kernel_rfl) (by kernel_rfl) fun las lbs v lbs' ps hs hp w => ?_
  unfold hTaken at hs
  split at hs
  · rename_i m h b t
    cases hs
    refine run_pa hmix ti_ok tgg_ok 999 false 400 [] [2] [] (fun ar lf => by conv => lhs; cbv) (allP ?_) ?_
    · trivial
    exact Run.ret ti_ok rfl rfl (HEnd.pack [0] rfl rfl rfl rfl)
  · cases hs
def hBroken (lf : LG4) : HSpec := fun l bs => match l, bs with
  | [.one (.ptr 0 (.lit 0))], [⟨false, .lst [.int .u32 m, .str h, .int .i64 b, .int .i64 t]⟩] => some (.a (.one (.int .i64 b)), [⟨false, .lst [.int .u32 m, .str h, .int .i64 b, .int .i64 t]⟩], [])
  | _, _ => none
theorem broken_ok : HOk Tryd.prog 21 (hBroken lg4) := by
  refine .of_run (hc := (tgg lg4).hc) Tryd.func21 rfl (by kernel_rfl) (by kernel_rfl) fun las lbs v lbs' ps hs hp w => ?_
  unfold hBroken at hs
  split at hs
  · rename_i m h b t
    cases hs
    refine run_pa hmix ti_ok tgg_ok 999 false 400 [] [2] [] (fun ar lf => by conv => lhs; cbv) (allP ?_) ?_
    · trivial
    exact Run.ret ti_ok rfl rfl (HEnd.pack [0] rfl rfl rfl rfl)
  · cases hs
def hCloneS (lf : LG4) : HSpec := fun l bs => match l, bs with
  | [.one (.ptr 0 (.lit 0))], [⟨false, .lst [.int .u32 m, .str h, .int .i64 b, .int .i64 t]⟩] => some (.a (.one (.ptr 1 (.lit 0))), [⟨false, .lst [.int .u32 m, .str h, .int .i64 b, .int .i64 t]⟩, ⟨false, .lst [.int .u32 m, .str h, .int .i64 b, .int .i64 t]⟩], [])
  | _, _ => none
theorem clone_ok2 : HOk Tryd.prog 24 (hCloneS lg4) := by
  refine .of_run (hc := (tgg lg4).hc) Tryd.func24 rfl (by kernel_rfl) (by kernel_rfl) fun las lbs v lbs' ps hs hp w => ?_
  unfold hCloneS at hs
  split at hs
  · rename_i m h b t
    cases hs
    refine run_pa hmix ti_ok tgg_ok 999 false 400 [] [2] [] (fun ar lf => by conv => lhs; cbv) (allP ?_) ?_
    · trivial
    exact Run.ret ti_ok rfl rfl (HEnd.pack [0, 1] rfl rfl rfl rfl)
  · cases hs
def hFeed (lf : LG4) : HSpec := fun l bs => match l, bs with
  | [.one (.ptr 0 (.lit 0)), .one (.str s)], [⟨false, .lst [.int .u32 m, .str h, .int .i64 b, .int .i64 t]⟩] => some (.a (.one (.int .i64 (lf.fdN h b s))), [⟨false, .lst [.int .u32 m, .str (lf.fdH h b s), .int .i64 b, .int .i64 t]⟩], [lf.held h, lf.fit s])
  | _, _ => none

set_option maxHeartbeats 1000000 in
theorem feed_ok : HOk Tryd.prog 18 (hFeed lg4) := by
  refine .of_run (hc := (tgg lg4).hc) Tryd.func18 rfl (by kernel_rfl) (by kernel_rfl) fun las lbs v lbs' ps hs hp w => ?_
  unfold hFeed at hs
  split at hs
  · rename_i s m h b t
    cases hs
    have hh : h.size ≤ 32816 := hp (lg4.held h) (by simp)
    have hz : s.size ≤ 9223372036854775807 := hp (lg4.fit s) (by simp)
    clear hp
    by_cases hb : b = 0
    · have f1 : rbin .sub .i64 32816 (h.size : Nat) = 32816 - (h.size : Nat) := subi (by omega) (by omega)
      have f2 : arR.mn (s.size : Nat) (rbin .sub .i64 32816 (h.size : Nat)) = feedN h b s := by
        rw [f1]
        unfold feedN
        rw [if_neg (by omega)]
        show (if (32816 - (h.size : Nat) : Int) < (s.size : Nat) then (32816 - (h.size : Nat) : Int) else (s.size : Nat)) = _
        split <;> omega
      have f4 : 0 ≤ feedN h b s ∧ feedN h b s ≤ s.size ∧ feedN h b s + h.size ≤ 32816 := by unfold feedN; rw [if_neg (by omega)]; omega
      have f5 : lg4.fdH h b s = h ++ s.extract 0 (feedN h b s).toNat := if_neg (by omega)
      have f5' : lg4.fdH h b s = h ++ s.extract 0 (arR.mn (s.size : Nat) (rbin .sub .i64 32816 (h.size : Nat))).toNat := by rw [f2]; exact f5
      have f6 : lg4.fdN h b s = arR.mn (s.size : Nat) (rbin .sub .i64 32816 (h.size : Nat)) := f2.symm
      rw [f5', f6]
      refine run_ex hmix ti_ok tgg_ok 999 false 400 [false] (fun ar lf => by conv => lhs; cbv) (allP ?_) ?_
      · simp only [conj, and_true, Int.ofNat_eq_natCast, arR, rcmp_lss, rcmp_gtr, rcmp_geq, rcmp_leq, rcmp_eql, rcmp_neq, decide_eq_true_eq, decide_eq_false_iff_not, ne_eq, not_true_eq_false, not_false_eq_true, Int.toNat_natCast, List.length_cons, List.length_nil]
        have f7 : (if rbin .sub .i64 32816 (h.size : Nat) < (s.size : Nat) then rbin .sub .i64 32816 (h.size : Nat) else (s.size : Nat)) = feedN h b s := f2
        rw [f7, ByteArray.size_extract]
        omega
      exact Run.ret ti_ok rfl rfl (HEnd.pack [0] rfl rfl rfl rfl)
    · have e1 : lg4.fdN h b s = 0 := if_pos hb
      have e2 : lg4.fdH h b s = h := if_pos hb
      rw [e1, e2]
      refine run_ex hmix ti_ok tgg_ok 999 false 400 [true] (fun ar lf => by conv => lhs; cbv) (allP ?_) ?_
      · simp only [conj, and_true, Int.ofNat_eq_natCast, arR, rcmp_lss, rcmp_gtr, rcmp_geq, rcmp_leq, rcmp_eql, rcmp_neq, decide_eq_true_eq, decide_eq_false_iff_not, ne_eq, not_true_eq_false, not_false_eq_true, Int.toNat_natCast, List.length_cons, List.length_nil]
        exact hb
      exact Run.ret ti_ok rfl rfl (HEnd.packV [0] rfl rfl rfl (.of (.a (.lit rfl))))
  · cases hs
def hNeed (lf : LG4) : HSpec := fun l bs => match l, bs with
  | [.one (.ptr 0 (.lit 0))], [⟨false, .lst [.int .u32 m, .str h, .int .i64 b, .int .i64 t]⟩] => some (.a (.one (.int .i64 (lf.need m h b))), [⟨false, .lst [.int .u32 m, .str h, .int .i64 b, .int .i64 t]⟩], [lf.held h, lf.layOk m 4])
  | _, _ => none

set_option maxHeartbeats 1000000 in
theorem need_ok : HOk Tryd.prog 26 (hNeed lg4) := by
  refine .of_run (hc := (tgg lg4).hc) Tryd.func26 rfl (by kernel_rfl) (by kernel_rfl) fun las lbs v lbs' ps hs hp w => ?_
  unfold hNeed at hs
  split at hs
  · rename_i m h b t
    cases hs
    have hh : h.size ≤ 32816 := hp (lg4.held h) (by simp)
    have h1 : lg4.layOk m 4 := hp (lg4.layOk m 4) (by simp)
    clear hp
    have hf : lg4.fit h := by show h.size ≤ 9223372036854775807; omega
    have hr := hdN_rng m h
    by_cases hb : b = 0
    · subst hb
      by_cases h0 : hdE m h = 0
      · have e : lg4.need m h 0 = max 0 (24 + hdN m h - h.size) := by show needF m h 0 = _; unfold needF; rw [if_neg (by simp), if_pos h0]
        have f1 : rbin .add .i64 24 (hdN m h) = 24 + hdN m h := addi (by omega) (by omega)
        have f2 : rbin .sub .i64 (24 + hdN m h) (h.size : Nat) = 24 + hdN m h - (h.size : Nat) := subi (by omega) (by omega)
        rw [e]
        refine run_ex hmix ti_ok tgg_ok 999 false 400 [false, true] (fun ar lf => by conv => lhs; cbv) (allP ?_) ?_
        · simp only [conj, and_true, Int.ofNat_eq_natCast, arR, rcmp_lss, rcmp_gtr, rcmp_geq, rcmp_leq, rcmp_eql, rcmp_neq, decide_eq_true_eq, decide_eq_false_iff_not, ne_eq, not_true_eq_false, not_false_eq_true, Int.toNat_natCast, List.length_cons, List.length_nil]
          exact ⟨h0, h1, hf⟩
        refine Run.ret ti_ok rfl rfl (HEnd.packV [0] rfl rfl rfl (.of (.a (.int ?_))))
        show arR.mx 0 (rbin .sub .i64 (rbin .add .i64 24 (hdN m h)) (h.size : Nat)) = _
        rw [f1, f2]
        show (if _ < _ then _ else _) = _
        split <;> omega
      · by_cases h4 : hdE m h = 4
        · have e : lg4.need m h 0 = 24 - h.size := by show needF m h 0 = _; unfold needF; rw [if_neg (by simp), if_neg h0, if_pos h4]
          rw [e]
          refine run_ex hmix ti_ok tgg_ok 999 false 400 [false, false, true] (fun ar lf => by conv => lhs; cbv) (allP ?_) ?_
          · simp only [conj, and_true, Int.ofNat_eq_natCast, arR, rcmp_lss, rcmp_gtr, rcmp_geq, rcmp_leq, rcmp_eql, rcmp_neq, decide_eq_true_eq, decide_eq_false_iff_not, ne_eq, not_true_eq_false, not_false_eq_true, Int.toNat_natCast, List.length_cons, List.length_nil]
            exact ⟨h4, h0, h1, hf⟩
          refine Run.ret ti_ok rfl rfl (HEnd.packV [0] rfl rfl rfl (.of (.a (.int ?_))))
          show rbin .sub .i64 24 (h.size : Nat) = 24 - (h.size : Nat)
          exact subi (by omega) (by omega)
        · have e : lg4.need m h 0 = 0 := by show needF m h 0 = _; unfold needF; rw [if_neg (by simp), if_neg h0, if_neg h4]
          rw [e]
          refine run_ex hmix ti_ok tgg_ok 999 false 400 [false, false, false] (fun ar lf => by conv => lhs; cbv) (allP ?_) ?_
          · simp only [conj, and_true, Int.ofNat_eq_natCast, arR, rcmp_lss, rcmp_gtr, rcmp_geq, rcmp_leq, rcmp_eql, rcmp_neq, decide_eq_true_eq, decide_eq_false_iff_not, ne_eq, not_true_eq_false, not_false_eq_true, Int.toNat_natCast, List.length_cons, List.length_nil]
            exact ⟨h4, h0, h1, hf⟩
          exact Run.ret ti_ok rfl rfl (HEnd.packV [0] rfl rfl rfl (.of (.a (.lit rfl))))
    · have e : lg4.need m h b = 0 := if_pos hb
      rw [e]
      refine run_ex hmix ti_ok tgg_ok 999 false 400 [true] (fun ar lf => by conv => lhs; cbv) (allP ?_) ?_
      · simp only [conj, and_true, Int.ofNat_eq_natCast, arR, rcmp_lss, rcmp_gtr, rcmp_geq, rcmp_leq, rcmp_eql, rcmp_neq, decide_eq_true_eq, decide_eq_false_iff_not, ne_eq, not_true_eq_false, not_false_eq_true, Int.toNat_natCast, List.length_cons, List.length_nil]
        exact hb
      exact Run.ret ti_ok rfl rfl (HEnd.packV [0] rfl rfl rfl (.of (.a (.lit rfl))))
  · cases hs
def hNext (lf : LG4) : HSpec := fun l bs => match l, bs with
  | [.one (.ptr 0 (.lit 0))], [⟨false, .lst [.int .u32 m, .str h, .int .i64 b, .int .i64 t]⟩] => some (.tup [.agg (.lst [.str (lf.nx m h b t).c, .str (lf.nx m h b t).p]), .one (.bool (lf.nx m h b t).ok), .one (.int .i64 (lf.nx m h b t).e)], [⟨false, .lst [.int .u32 m, .str (lf.nx m h b t).h, .int .i64 (lf.nx m h b t).b, .int .i64 (lf.nx m h b t).t]⟩], [lf.held h, lf.layOk m 4])
  | _, _ => none

set_option maxHeartbeats 2000000 in
theorem next_ok : HOk Tryd.prog 19 (hNext lg4) := by
  refine .of_run (hc := (tgg lg4).hc) Tryd.func19 rfl (by kernel_rfl) (by kernel_rfl) fun las lbs v lbs' ps hs hp w => ?_
  unfold hNext at hs
  split at hs
  · rename_i m h b t
    cases hs
    have hh : h.size ≤ 32816 := hp (lg4.held h) (by simp)
    have h1 : lg4.layOk m 4 := hp (lg4.layOk m 4) (by simp)
    clear hp
    have hf : lg4.fit h := by show h.size ≤ 9223372036854775807; omega
    have hr := hdN_rng m h
    obtain ⟨k1, k2, k3⟩ := deE_head (m := m) (s := h)
    by_cases hb : b = 0
    · subst hb
      have e : lg4.nx m h 0 t = if deE m h 0 = 0 then ⟨deC m h 0, deP m h 0, true, 0, h.extract (deTo m h 0).toNat h.size, 0, rbin .add .i64 t 1⟩
          else if deE m h 0 = 4 then ⟨.empty, .empty, false, 0, h, 0, t⟩
          else if deE m h 0 = 83 then ⟨.empty, .empty, false, 83, h.extract (24 + hdN m h).toNat h.size, 0, t⟩
          else ⟨.empty, .empty, false, deE m h 0, .empty, deE m h 0, t⟩ := by
        show nextF m h 0 t = _
        unfold nextF
        rw [if_neg (by simp)]
      by_cases h0 : deE m h 0 = 0
      · rw [if_pos h0] at e
        obtain ⟨j1, j2, j3⟩ := k1 (.inl h0)
        have hto : deTo m h 0 = 24 + hdN m h := by unfold deTo; rw [if_pos h0, deT0]; omega
        rw [e]
        refine run_ex hmix ti_ok tgg_ok 999 false 400 [false, true] (fun ar lf => by conv => lhs; cbv) (allP ?_) ?_
        · simp only [conj, and_true, Int.ofNat_eq_natCast, arR, rcmp_lss, rcmp_gtr, rcmp_geq, rcmp_leq, rcmp_eql, rcmp_neq, decide_eq_true_eq, decide_eq_false_iff_not, ne_eq, not_true_eq_false, not_false_eq_true, Int.toNat_natCast, List.length_cons, List.length_nil]
          exact ⟨(by rw [hto]; omega : 0 ≤ deTo m h 0 ∧ deTo m h 0 ≤ (h.size : Nat)), h0, h1, hf⟩
        refine Run.ret ti_ok rfl rfl (HEnd.packV [0] rfl rfl rfl (.of (VLe.tup3 (ALe.lst (cs := [.str (deC m h 0), .str (deP m h 0)]) ⟨.str rfl, .str rfl, trivial⟩) (.lbool rfl) (.lit rfl))))
      rw [if_neg h0] at e
      by_cases h4 : deE m h 0 = 4
      · rw [if_pos h4] at e
        rw [e]
        refine run_ex hmix ti_ok tgg_ok 999 false 400 [false, false, true] (fun ar lf => by conv => lhs; cbv) (allP ?_) ?_
        · simp only [conj, and_true, Int.ofNat_eq_natCast, arR, rcmp_lss, rcmp_gtr, rcmp_geq, rcmp_leq, rcmp_eql, rcmp_neq, decide_eq_true_eq, decide_eq_false_iff_not, ne_eq, not_true_eq_false, not_false_eq_true, Int.toNat_natCast, List.length_cons, List.length_nil]
          exact ⟨h4, h0, h1, hf⟩
        exact Run.ret ti_ok rfl rfl (HEnd.packV [0] rfl rfl rfl (.of (VLe.tup3 (ALe.lst ⟨.str rfl, .str rfl, trivial⟩) (.lbool rfl) (.lit rfl))))
      rw [if_neg h4] at e
      by_cases h83 : deE m h 0 = 83
      · rw [if_pos h83] at e
        obtain ⟨j1, j2, j3⟩ := k1 (.inr h83)
        have f1 : rbin .add .i64 24 (hdN m h) = 24 + hdN m h := addi (by omega) (by omega)
        rw [← f1] at e
        rw [e]
        refine run_ex hmix ti_ok tgg_ok 999 false 400 [false, false, false, true] (fun ar lf => by conv => lhs; cbv) (allP ?_) ?_
        · simp only [conj, and_true, Int.ofNat_eq_natCast, arR, rcmp_lss, rcmp_gtr, rcmp_geq, rcmp_leq, rcmp_eql, rcmp_neq, decide_eq_true_eq, decide_eq_false_iff_not, ne_eq, not_true_eq_false, not_false_eq_true, Int.toNat_natCast, List.length_cons, List.length_nil]
          exact ⟨(by rw [f1]; omega : 0 ≤ rbin .add .i64 24 (hdN m h) ∧ rbin .add .i64 24 (hdN m h) ≤ (h.size : Nat)), h1, hf, h83, h4, h0, h1, hf⟩
        exact Run.ret ti_ok rfl rfl (HEnd.packV [0] rfl rfl rfl (.of (VLe.tup3 (ALe.lst ⟨.str rfl, .str rfl, trivial⟩) (.lbool rfl) (.lit rfl))))
      · rw [if_neg h83] at e
        rw [e]
        refine run_ex hmix ti_ok tgg_ok 999 false 400 [false, false, false, false] (fun ar lf => by conv => lhs; cbv) (allP ?_) ?_
        · simp only [conj, and_true, Int.ofNat_eq_natCast, arR, rcmp_lss, rcmp_gtr, rcmp_geq, rcmp_leq, rcmp_eql, rcmp_neq, decide_eq_true_eq, decide_eq_false_iff_not, ne_eq, not_true_eq_false, not_false_eq_true, Int.toNat_natCast, List.length_cons, List.length_nil]
          exact ⟨h83, h4, h0, h1, hf⟩
        exact Run.ret ti_ok rfl rfl (HEnd.packV [0] rfl rfl rfl (.of (VLe.tup3 (ALe.lst ⟨.str rfl, .str rfl, trivial⟩) (.lbool rfl) (.int rfl))))
    · have e : lg4.nx m h b t = ⟨.empty, .empty, false, b, h, b, t⟩ := if_pos hb
      rw [e]
      refine run_ex hmix ti_ok tgg_ok 999 false 400 [true] (fun ar lf => by conv => lhs; cbv) (allP ?_) ?_
      · simp only [conj, and_true, Int.ofNat_eq_natCast, arR, rcmp_lss, rcmp_gtr, rcmp_geq, rcmp_leq, rcmp_eql, rcmp_neq, decide_eq_true_eq, decide_eq_false_iff_not, ne_eq, not_true_eq_false, not_false_eq_true, Int.toNat_natCast, List.length_cons, List.length_nil]
        exact hb
      exact Run.ret ti_ok rfl rfl (HEnd.packV [0] rfl rfl rfl (.of (VLe.tup3 (ALe.lst ⟨.str rfl, .str rfl, trivial⟩) (.lbool rfl) (.int rfl))))
  · cases hs
def sNextN (lf : LG4) : ESpec := fun l => match l with
  | [.one .nil] => some (.tup [.agg (.lst [.str .empty, .str .empty]), .one (.bool false), .one (.int .i64 1)], [])
  | _ => none
theorem nextn_ok : CallOk Tryd.prog 19 (sNextN lg4) := by
  refine .of_run (hc := (tgg lg4).hc) Tryd.func19 rfl (by kernel_rfl) (by kernel_rfl) fun xs v ps hs hp w => ?_
  unfold sNextN at hs
  split at hs
  · cases hs
    refine run_ex hmix ti_ok tgg_ok 999 false 400 [] (fun ar lf => by conv => lhs; cbv) (allP ?_) ?_
    · trivial
    · exact Run.ret ti_ok rfl rfl (VLe.tup3 (ALe.lst ⟨.str rfl, .str rfl, trivial⟩) (.lbool rfl) (.lit rfl))
  · cases hs
def sHeldN (lf : LG4) : ESpec := fun l => match l with
  | [.one .nil] => some (.a (.one (.int .i64 0)), [])
  | _ => none
theorem heldn_ok : CallOk Tryd.prog 17 (sHeldN lg4) := by
  refine .of_run (hc := (tgg lg4).hc) Tryd.func17 rfl (by kernel_rfl) (by kernel_rfl) fun xs v ps hs hp w => ?_
  unfold sHeldN at hs
  split at hs
  · cases hs
    refine run_ex hmix ti_ok tgg_ok 999 false 400 [] (fun ar lf => by conv => lhs; cbv) (allP ?_) ?_
    · trivial
    · exact Run.ret ti_ok rfl rfl (.a (.lit rfl))
  · cases hs
def sTakenN (lf : LG4) : ESpec := fun l => match l with
  | [.one .nil] => some (.a (.one (.int .i64 0)), [])
  | _ => none
theorem takenn_ok : CallOk Tryd.prog 20 (sTakenN lg4) := by
  refine .of_run (hc := (tgg lg4).hc) Tryd.func20 rfl (by kernel_rfl) (by kernel_rfl) fun xs v ps hs hp w => ?_
  unfold sTakenN at hs
  split at hs
  · cases hs
    refine run_ex hmix ti_ok tgg_ok 999 false 400 [] (fun ar lf => by conv => lhs; cbv) (allP ?_) ?_
    · trivial
    · exact Run.ret ti_ok rfl rfl (.a (.lit rfl))
  · cases hs
def sBrokenN (lf : LG4) : ESpec := fun l => match l with
  | [.one .nil] => some (.a (.one (.int .i64 1)), [])
  | _ => none
theorem brokenn_ok : CallOk Tryd.prog 21 (sBrokenN lg4) := by
  refine .of_run (hc := (tgg lg4).hc) Tryd.func21 rfl (by kernel_rfl) (by kernel_rfl) fun xs v ps hs hp w => ?_
  unfold sBrokenN at hs
  split at hs
  · cases hs
    refine run_ex hmix ti_ok tgg_ok 999 false 400 [] (fun ar lf => by conv => lhs; cbv) (allP ?_) ?_
    · trivial
    · exact Run.ret ti_ok rfl rfl (.a (.lit rfl))
  · cases hs
def sNeedN (lf : LG4) : ESpec := fun l => match l with
  | [.one .nil] => some (.a (.one (.int .i64 0)), [])
  | _ => none
theorem needn_ok : CallOk Tryd.prog 26 (sNeedN lg4) := by
  refine .of_run (hc := (tgg lg4).hc) Tryd.func26 rfl (by kernel_rfl) (by kernel_rfl) fun xs v ps hs hp w => ?_
  unfold sNeedN at hs
  split at hs
  · cases hs
    refine run_ex hmix ti_ok tgg_ok 999 false 400 [] (fun ar lf => by conv => lhs; cbv) (allP ?_) ?_
    · trivial
    · exact Run.ret ti_ok rfl rfl (.a (.lit rfl))
  · cases hs
def sCloneN (lf : LG4) : ESpec := fun l => match l with
  | [.one .nil] => some (.a (.one .nil), [])
  | _ => none
theorem clonen_ok : CallOk Tryd.prog 24 (sCloneN lg4) := by
  refine .of_run (hc := (tgg lg4).hc) Tryd.func24 rfl (by kernel_rfl) (by kernel_rfl) fun xs v ps hs hp w => ?_
  unfold sCloneN at hs
  split at hs
  · cases hs
    refine run_ex hmix ti_ok tgg_ok 999 false 400 [] (fun ar lf => by conv => lhs; cbv) (allP ?_) ?_
    · trivial
    · exact Run.ret ti_ok rfl rfl (.a fun _ _ h => h)
  · cases hs
def sFeedN (lf : LG4) : ESpec := fun l => match l with
  | [.one .nil, .one (.str s)] => some (.a (.one (.int .i64 0)), [])
  | _ => none
theorem feedn_ok : CallOk Tryd.prog 18 (sFeedN lg4) := by
  refine .of_run (hc := (tgg lg4).hc) Tryd.func18 rfl (by kernel_rfl) (by kernel_rfl) fun xs v ps hs hp w => ?_
  unfold sFeedN at hs
  split at hs
  · cases hs
    refine run_ex hmix ti_ok tgg_ok 999 false 400 [] (fun ar lf => by conv => lhs; cbv) (allP ?_) ?_
    · trivial
    · exact Run.ret ti_ok rfl rfl (.a (.lit rfl))
  · cases hs
end Go.Proofs.YtjiciplcdklfcaaDoor
