import Derived.Test.YtjiciplcdklfcaaDoorPd
set_option linter.unusedSimpArgs false
set_option linter.unusedVariables false
namespace Go.Eng
open Go
/-- a byte of a command -/
def cmdByte (b : UInt8) : Bool := decide (33 ≤ b.toNat) && decide (b.toNat ≤ 126)
def okCmd (s : ByteArray) : Bool := decide (1 ≤ s.size) && (decide (s.size ≤ 12) && s.data.toList.all cmdByte)
theorem all_upto {s : ByteArray} {k : Nat} (h1 : k ≤ s.size) (h2 : (s.data.toList.take k).all cmdByte = true) (h3 : s.size ≤ k) : s.data.toList.all cmdByte = true := by
  have hl : s.data.toList.length = s.size := by rw [Array.length_toList]; rfl
  rw [List.take_of_length_le (by omega)] at h2
  exact h2
theorem sb_at {s : ByteArray} {k : Nat} (h : k < s.data.toList.length) : arR.sb s k = ((s.data.toList[k]).toNat : Nat) := by
  show (((s[k]?).getD 0).toNat : Int) = _
  have hl : s.data.toList.length = s.size := by rw [Array.length_toList]; rfl
  rw [ByteArray.getElem?_lt' s _ (by omega)]
  rfl
theorem all_step {s : ByteArray} {k : Nat} (h : k < s.data.toList.length) (h2 : (s.data.toList.take k).all cmdByte = true) (h3 : cmdByte s.data.toList[k] = true) : (s.data.toList.take (k + 1)).all cmdByte = true := by
  rw [List.take_succ_eq_append_getElem h, List.all_append, h2, Bool.true_and, List.all_cons, List.all_nil, Bool.and_true]
  exact h3
theorem all_not {s : ByteArray} {k : Nat} (h : k < s.data.toList.length) (h3 : cmdByte s.data.toList[k] = false) : s.data.toList.all cmdByte = false := by
  rw [Bool.eq_false_iff]
  intro e
  have := List.all_eq_true.1 e _ (List.getElem_mem h)
  rw [h3] at this; cases this
structure LG0 extends LA where
  okC : ByteArray → Bool
  fit : ByteArray → Prop
def lg0 : LG0 where
  toLA := laR
  okC := okCmd
  fit s := s.size ≤ 9223372036854775807
end Go.Eng
namespace Go.Proofs.YtjiciplcdklfcaaDoor
open Go Go.Eng Go.Proofs Go.RowKit
attribute [local irreducible] CallOk HOk Run TIok rbin rcmp run1 updF shfF blitF
def tga (lf : LG0) : Tbl := tbL [] []
theorem tga_ok : TblOk Tryd.prog (tga lg0) := tbL_ok nofun nofun
def sFCmd (lf : LG0) : ESpec := fun l => match l with
  | [.one (.str s)] => some (.a (.one (.bool (lf.okC s))), [lf.fit s])
  | _ => none
set_option maxHeartbeats 1000000 in
theorem fcmd_ok : CallOk Tryd.prog 10 (sFCmd lg0) := by
  refine .of_run (hc := (tga lg0).hc) Tryd.func10 rfl (by kernel_rfl) (by kernel_rfl) fun xs v ps hs hp w => ?_
  unfold sFCmd at hs
  split at hs
  · rename_i s
    cases hs
    have hsz : s.size ≤ 9223372036854775807 := hp (lg0.fit s) (by simp)
    clear hp
    have hl : s.data.toList.length = s.size := by rw [Array.length_toList]; rfl
    by_cases h1 : s.size < 1
    · refine run_ex hmix ti_ok tga_ok 999 false 400 [true, true] (fun ar lf => by conv => lhs; cbv) (allP ?_) ?_
      · simp only [conj, and_true, Int.ofNat_eq_natCast, arR, rcmp_lss, rcmp_gtr, rcmp_geq, rcmp_leq, rcmp_eql, rcmp_neq, decide_eq_true_eq, decide_eq_false_iff_not, ne_eq, not_true_eq_false, not_false_eq_true, Int.toNat_natCast, List.length_cons, List.length_nil]
        ((repeat' with_reducible apply And.intro) <;> first | omega | assumption | rfl | trivial)
      · refine Run.ret ti_ok rfl rfl (.a (.lbool ?_))
        show _ = okCmd s
        unfold okCmd
        rw [decide_eq_false (by omega)]; rfl
    by_cases h12 : s.size > 12
    · refine run_ex hmix ti_ok tga_ok 999 false 400 [false, true] (fun ar lf => by conv => lhs; cbv) (allP ?_) ?_
      · simp only [conj, and_true, Int.ofNat_eq_natCast, arR, rcmp_lss, rcmp_gtr, rcmp_geq, rcmp_leq, rcmp_eql, rcmp_neq, decide_eq_true_eq, decide_eq_false_iff_not, ne_eq, not_true_eq_false, not_false_eq_true, Int.toNat_natCast, List.length_cons, List.length_nil]
        ((repeat' with_reducible apply And.intro) <;> first | omega | assumption | rfl | trivial)
      · refine Run.ret ti_ok rfl rfl (.a (.lbool ?_))
        show _ = okCmd s
        unfold okCmd
        rw [decide_eq_false (p := s.size ≤ 12) (by omega), Bool.false_and, Bool.and_false]
    have hok : okCmd s = s.data.toList.all cmdByte := by
      unfold okCmd
      rw [decide_eq_true (by omega), decide_eq_true (by omega), Bool.true_and, Bool.true_and]
    refine run_pa hmix ti_ok tga_ok 0 false 400 [false, false] [0, 13, 14] [14] (fun ar lf => by conv => lhs; cbv) (allP ?_) ?_
    · simp only [conj, and_true, Int.ofNat_eq_natCast, arR, rcmp_lss, rcmp_gtr, rcmp_geq, rcmp_leq, rcmp_eql, rcmp_neq, decide_eq_true_eq, decide_eq_false_iff_not, ne_eq, not_true_eq_false, not_false_eq_true, Int.toNat_natCast, List.length_cons, List.length_nil]
      ((repeat' with_reducible apply And.intro) <;> first | omega | assumption | rfl | trivial)
    refine Run.loop (ι := {p : Int × Int // (0 ≤ p.1 ∧ p.1 ≤ s.size) ∧ p.2 = s.size ∧ (s.data.toList.take p.1.toNat).all cmdByte = true})
      (fun i => ([.a (.one (.str s)), .any, .any, .any, .any, .any, .any, .any, .any, .any, .any, .any, .any, .a (.one (.int .i64 i.1.2)), .a (.one (.int .i64 i.1.1)), .any, .any, .any, .any, .any, .any, .any, .any, .any, .any, .any, .any, .any], []))
      (fun i => (s.size - i.1.1).toNat) ⟨(0, _), by omega, rfl, rfl⟩ ?_
    rintro ⟨⟨p, n⟩, hp, hn, hall⟩ ih
    simp only at hp hn hall
    have e1 : rbin .add .i64 p 1 = p + 1 := addi (by omega) (by omega)
    by_cases hlt : p < s.size
    · have hk : p.toNat < s.data.toList.length := by omega
      have hb : (((s[p.toNat]?).getD 0).toNat : Int) = ((s.data.toList[p.toNat]).toNat : Nat) := sb_at hk
      have hst : ∀ b, (s.data.toList[p.toNat]) = b → (s.data.toList.take p.toNat).all cmdByte = true → cmdByte b = true → (s.data.toList.take (p.toNat + 1)).all cmdByte = true := fun b e h1 h2 => all_step hk h1 (by rw [e]; exact h2)
      have hno : ∀ b, (s.data.toList[p.toNat]) = b → cmdByte b = false → s.data.toList.all cmdByte = false := fun b e h2 => all_not hk (by rw [e]; exact h2)
      generalize hbd : s.data.toList[p.toNat] = b at hb hst hno
      cases hc : cmdByte b with
      | true =>
        have hc' : 33 ≤ b.toNat ∧ b.toNat ≤ 126 := by simpa [cmdByte] using hc
        refine run_pa hmix ti_ok tga_ok 2 true 400 [true, false, false] [0, 13, 14] [14] (fun ar lf => by conv => lhs; cbv) (allP ?_) ?_
        · simp only [conj, and_true, Int.ofNat_eq_natCast, arR, rcmp_lss, rcmp_gtr, rcmp_geq, rcmp_leq, rcmp_eql, rcmp_neq, decide_eq_true_eq, decide_eq_false_iff_not, ne_eq, not_true_eq_false, not_false_eq_true, Int.toNat_natCast, List.length_cons, List.length_nil, hn]
          omega
        · refine ih ⟨(_, _), ?_, hn, ?_⟩ ?_ _ _
          · show 0 ≤ rbin .add .i64 p 1 ∧ rbin .add .i64 p 1 ≤ s.size
            rw [e1]; omega
          · show (s.data.toList.take (rbin .add .i64 p 1).toNat).all cmdByte = true
            rw [e1, show (p + 1).toNat = p.toNat + 1 by omega]
            exact hst b rfl hall hc
          · show (s.size - rbin .add .i64 p 1).toNat < (s.size - p).toNat
            rw [e1]; omega
      | false =>
        have hc' : b.toNat < 33 ∨ 126 < b.toNat := by
          have : ¬ (33 ≤ b.toNat ∧ b.toNat ≤ 126) := by
            intro h; rw [show cmdByte b = true by simp [cmdByte, h]] at hc; cases hc
          omega
        by_cases h33 : b.toNat < 33
        · refine run_ex hmix ti_ok tga_ok 999 false 400 [true, true] (fun ar lf => by conv => lhs; cbv) (allP ?_) ?_
          · simp only [conj, and_true, Int.ofNat_eq_natCast, arR, rcmp_lss, rcmp_gtr, rcmp_geq, rcmp_leq, rcmp_eql, rcmp_neq, decide_eq_true_eq, decide_eq_false_iff_not, ne_eq, not_true_eq_false, not_false_eq_true, Int.toNat_natCast, List.length_cons, List.length_nil, hn]
            omega
          · refine Run.ret ti_ok rfl rfl (.a (.lbool ?_))
            show _ = okCmd s
            rw [hok, hno b rfl hc]
        · refine run_ex hmix ti_ok tga_ok 999 false 400 [true, false, true] (fun ar lf => by conv => lhs; cbv) (allP ?_) ?_
          · simp only [conj, and_true, Int.ofNat_eq_natCast, arR, rcmp_lss, rcmp_gtr, rcmp_geq, rcmp_leq, rcmp_eql, rcmp_neq, decide_eq_true_eq, decide_eq_false_iff_not, ne_eq, not_true_eq_false, not_false_eq_true, Int.toNat_natCast, List.length_cons, List.length_nil, hn]
            omega
          · refine Run.ret ti_ok rfl rfl (.a (.lbool ?_))
            show _ = okCmd s
            rw [hok, hno b rfl hc]
    · refine run_ex hmix ti_ok tga_ok 999 false 400 [false] (fun ar lf => by conv => lhs; cbv) (allP ?_) ?_
      · simp only [conj, and_true, Int.ofNat_eq_natCast, arR, rcmp_lss, rcmp_gtr, rcmp_geq, rcmp_leq, rcmp_eql, rcmp_neq, decide_eq_true_eq, decide_eq_false_iff_not, ne_eq, not_true_eq_false, not_false_eq_true, Int.toNat_natCast, List.length_cons, List.length_nil, hn]
        omega
      · refine Run.ret ti_ok rfl rfl (.a (.lbool ?_))
        show _ = okCmd s
        rw [hok, all_upto (k := p.toNat) (by omega) hall (by omega)]
  · cases hs
set_option maxHeartbeats 1000000 in
theorem rfcmd_ok : CallOk Tryd.prog 11 (sFCmd lg0) := by
  refine .of_run (hc := (tga lg0).hc) Tryd.func11 rfl (by kernel_rfl) (by kernel_rfl) fun xs v ps hs hp w => ?_
  unfold sFCmd at hs
  split at hs
  · rename_i s
    cases hs
    have hsz : s.size ≤ 9223372036854775807 := hp (lg0.fit s) (by simp)
    clear hp
    have hl : s.data.toList.length = s.size := by rw [Array.length_toList]; rfl
    have hnok : s.data.toList.all cmdByte = false → okCmd s = false := fun h => by unfold okCmd; rw [h, Bool.and_false, Bool.and_false]
    refine run_pa hmix ti_ok tga_ok 0 false 400 [] [0, 3] [3] (fun ar lf => by conv => lhs; cbv) (allP ?_) ?_
    · trivial
    refine Run.loop (ι := {p : Int // (0 ≤ p ∧ p ≤ s.size) ∧ (s.data.toList.take p.toNat).all cmdByte = true})
      (fun i => ([.a (.one (.str s)), .any, .any, .a (.one (.int .i64 i.1)), .any, .any, .any, .any, .any, .any, .any, .any, .any, .any, .any, .any, .any, .any, .any, .any, .any, .any, .any, .any, .any, .any, .any, .any], []))
      (fun i => (s.size - i.1).toNat) ⟨0, by omega, rfl⟩ ?_
    rintro ⟨p, hp, hall⟩ ih
    try simp only at hp hall
    by_cases hlt : p < s.size
    · have e1 : rbin .add .i64 p 1 = p + 1 := addi (by omega) (by omega)
      have hk : p.toNat < s.data.toList.length := by omega
      have hb : (((s[p.toNat]?).getD 0).toNat : Int) = ((s.data.toList[p.toNat]).toNat : Nat) := sb_at hk
      have hst : ∀ b, (s.data.toList[p.toNat]) = b → (s.data.toList.take p.toNat).all cmdByte = true → cmdByte b = true → (s.data.toList.take (p.toNat + 1)).all cmdByte = true := fun b e h1 h2 => all_step hk h1 (by rw [e]; exact h2)
      have hno : ∀ b, (s.data.toList[p.toNat]) = b → cmdByte b = false → s.data.toList.all cmdByte = false := fun b e h2 => all_not hk (by rw [e]; exact h2)
      generalize hbd : s.data.toList[p.toNat] = b at hb hst hno
      cases hc : cmdByte b with
      | true =>
        have hc' : 33 ≤ b.toNat ∧ b.toNat ≤ 126 := by simpa [cmdByte] using hc
        refine run_pa hmix ti_ok tga_ok 2 true 400 [true, false, false] [0, 3] [3] (fun ar lf => by conv => lhs; cbv) (allP ?_) ?_
        · simp only [conj, and_true, Int.ofNat_eq_natCast, arR, rcmp_lss, rcmp_gtr, rcmp_geq, rcmp_leq, rcmp_eql, rcmp_neq, decide_eq_true_eq, decide_eq_false_iff_not, ne_eq, not_true_eq_false, not_false_eq_true, Int.toNat_natCast, List.length_cons, List.length_nil]
          omega
        · refine ih ⟨_, ?_, ?_⟩ ?_ _ _
          · show 0 ≤ rbin .add .i64 p 1 ∧ rbin .add .i64 p 1 ≤ s.size
            rw [e1]; omega
          · show (s.data.toList.take (rbin .add .i64 p 1).toNat).all cmdByte = true
            rw [e1, show (p + 1).toNat = p.toNat + 1 by omega]
            exact hst b rfl hall hc
          · show (s.size - rbin .add .i64 p 1).toNat < (s.size - p).toNat
            rw [e1]; omega
      | false =>
        have hc' : b.toNat < 33 ∨ 126 < b.toNat := by
          have : ¬ (33 ≤ b.toNat ∧ b.toNat ≤ 126) := by
            intro h; rw [show cmdByte b = true by simp [cmdByte, h]] at hc; cases hc
          omega
        by_cases h33 : b.toNat < 33
        · refine run_ex hmix ti_ok tga_ok 999 false 400 [true, true] (fun ar lf => by conv => lhs; cbv) (allP ?_) ?_
          · simp only [conj, and_true, Int.ofNat_eq_natCast, arR, rcmp_lss, rcmp_gtr, rcmp_geq, rcmp_leq, rcmp_eql, rcmp_neq, decide_eq_true_eq, decide_eq_false_iff_not, ne_eq, not_true_eq_false, not_false_eq_true, Int.toNat_natCast, List.length_cons, List.length_nil]
            omega
          · refine Run.ret ti_ok rfl rfl (.a (.lbool ?_))
            show _ = okCmd s
            rw [hnok (hno b rfl hc)]
        · refine run_ex hmix ti_ok tga_ok 999 false 400 [true, false, true] (fun ar lf => by conv => lhs; cbv) (allP ?_) ?_
          · simp only [conj, and_true, Int.ofNat_eq_natCast, arR, rcmp_lss, rcmp_gtr, rcmp_geq, rcmp_leq, rcmp_eql, rcmp_neq, decide_eq_true_eq, decide_eq_false_iff_not, ne_eq, not_true_eq_false, not_false_eq_true, Int.toNat_natCast, List.length_cons, List.length_nil]
            omega
          · refine Run.ret ti_ok rfl rfl (.a (.lbool ?_))
            show _ = okCmd s
            rw [hnok (hno b rfl hc)]
    · have hall' := all_upto (k := p.toNat) (by omega) hall (by omega)
      have hok : okCmd s = (decide (1 ≤ s.size) && decide (s.size ≤ 12)) := by
        unfold okCmd
        rw [hall', Bool.and_true]
      by_cases h1 : 1 ≤ s.size
      · refine run_ex hmix ti_ok tga_ok 999 false 400 [false, true] (fun ar lf => by conv => lhs; cbv) (allP ?_) ?_
        · simp only [conj, and_true, Int.ofNat_eq_natCast, arR, rcmp_lss, rcmp_gtr, rcmp_geq, rcmp_leq, rcmp_eql, rcmp_neq, decide_eq_true_eq, decide_eq_false_iff_not, ne_eq, not_true_eq_false, not_false_eq_true, Int.toNat_natCast, List.length_cons, List.length_nil]
          omega
        · refine Run.ret ti_ok rfl rfl (.a (.bool ?_))
          show rcmp .leq (s.size : Int) 12 = okCmd s
          rw [hok, decide_eq_true h1, Bool.true_and, rcmp_leq, decide_eq_decide]
          omega
      · refine run_ex hmix ti_ok tga_ok 999 false 400 [false, false] (fun ar lf => by conv => lhs; cbv) (allP ?_) ?_
        · simp only [conj, and_true, Int.ofNat_eq_natCast, arR, rcmp_lss, rcmp_gtr, rcmp_geq, rcmp_leq, rcmp_eql, rcmp_neq, decide_eq_true_eq, decide_eq_false_iff_not, ne_eq, not_true_eq_false, not_false_eq_true, Int.toNat_natCast, List.length_cons, List.length_nil]
          omega
        · refine Run.ret ti_ok rfl rfl (.a (.lbool ?_))
          show _ = okCmd s
          rw [hok, decide_eq_false h1]; rfl
  · cases hs
end Go.Proofs.YtjiciplcdklfcaaDoor
