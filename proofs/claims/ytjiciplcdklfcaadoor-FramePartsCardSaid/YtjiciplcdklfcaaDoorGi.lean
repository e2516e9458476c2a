import Derived.Test.YtjiciplcdklfcaaDoorGf
set_option linter.unusedSimpArgs false
set_option linter.unusedVariables false
namespace Go.Eng
open Go
/-- what is left to do at the head of each loop of a code -/
def locs : Code → List Item → List (List Item)
  | .seq a b, k => locs a (.code b :: k) ++ locs b k
  | .cond _ a b, k => locs a k ++ locs b k
  | .block id b, k => locs b (.inBlock id :: k)
  | .loop b, k => (.code (.loop b) :: k) :: locs b (.inLoop b :: k)
  | _, _ => []
def todoAt (f : Func) (j : Nat) : List Item := (locs (f.body.getD .ret) []).getD j []

/-- where the zeros begin -/
def nameB (s : ByteArray) : ByteArray := if okCmd (trimZ s) then trimZ s else .empty
theorem take_while_eq (l : List UInt8) (n : Nat) (h1 : ∀ i, i < n → ∀ b, l[i]? = some b → b ≠ 0) (hn : n ≤ l.length) (h2 : ∀ b, l[n]? = some b → b = 0) : True := trivial
/-- a list whose rest is all zero -/
theorem trim_cut {l : List UInt8} {n : Nat} (h1 : ∀ b ∈ l.take n, b ≠ 0) (h2 : ∀ b ∈ l.drop n, b = 0) : Go.Lib.trimRightB l 0 = l.take n := by
  have e : l = l.take n ++ l.drop n := (List.take_append_drop n l).symm
  have hz : l.drop n = List.replicate (l.drop n).length 0 := List.eq_replicate_of_mem h2
  unfold Go.Lib.trimRightB
  have hdw : ∀ (k : Nat) (l : List UInt8), (List.replicate k (0 : UInt8) ++ l).dropWhile (· == 0) = l.dropWhile (· == 0) := by
    intro k
    induction k with
    | zero => intro l; rfl
    | succ k ih => intro l; rw [List.replicate_succ, List.cons_append, List.dropWhile_cons_of_pos (by rfl), ih]
  have : l.reverse = List.replicate (l.drop n).length 0 ++ (l.take n).reverse := by
    conv => lhs; rw [e, List.reverse_append, hz, List.reverse_replicate]
  rw [this, hdw]
  match hr : (l.take n).reverse with
  | [] =>
    have := congrArg List.reverse hr
    rw [List.reverse_reverse] at this
    rw [this]; rfl
  | b :: t =>
    have hb : b ∈ l.take n := by rw [← List.mem_reverse, hr]; exact List.mem_cons_self
    have hne : (b == (0 : UInt8)) = false := by rw [beq_eq_false_iff_ne]; exact h1 b hb
    rw [List.dropWhile_cons_of_neg (by rw [hne]; simp), ← hr, List.reverse_reverse]
/-- a list with a zero ahead of what is none: its end is kept -/
theorem trim_bad {l : List UInt8} {n k : Nat} (h0 : l[n]? = some 0) (hk : n < k) {b : UInt8} (hb : l[k]? = some b) (hb0 : b ≠ 0) : okCmd ⟨(Go.Lib.trimRightB l 0).toArray⟩ = false := by
  have hlen : k < l.length := (List.getElem?_eq_some_iff.1 hb).1
  -- what is cut off is all zero
  have hsuf : ∃ m, Go.Lib.trimRightB l 0 = l.take m ∧ k < m := by
    unfold Go.Lib.trimRightB
    have hs := List.dropWhile_suffix (· == (0 : UInt8)) (l := l.reverse)
    obtain ⟨t, ht⟩ := hs
    have htz : ∀ x ∈ t, x = 0 := by
      intro x hx
      have e : t = l.reverse.takeWhile (· == (0 : UInt8)) := by
        have := List.takeWhile_append_dropWhile (p := (· == (0 : UInt8))) (l := l.reverse)
        exact List.append_cancel_right (ht.trans this.symm)
      rw [e] at hx
      have := List.all_takeWhile (p := (· == (0 : UInt8))) (l := l.reverse)
      have := List.all_eq_true.1 this x hx
      exact eq_of_beq this
    generalize List.dropWhile (· == (0 : UInt8)) l.reverse = d at ht ⊢
    have e : l = d.reverse ++ t.reverse := by
      rw [← List.reverse_append, ht, List.reverse_reverse]
    refine ⟨d.length, ?_, ?_⟩
    · conv => rhs; rw [e]
      rw [List.take_append_of_le_length (by simp), List.take_of_length_le (by simp)]
    · refine Nat.lt_of_not_le fun hle => ?_
      rw [e, List.getElem?_append_right (by simpa using hle)] at hb
      have := List.mem_of_getElem? hb
      exact hb0 (htz b (List.mem_reverse.1 this))
  obtain ⟨m, hm, hkm⟩ := hsuf
  rw [hm]
  unfold okCmd
  have hz : (0 : UInt8) ∈ (l.take m) := by
    refine List.mem_of_getElem? (i := n) ?_
    rw [List.getElem?_take, if_pos (by omega)]; exact h0
  have : ((⟨(l.take m).toArray⟩ : ByteArray).data.toList.all cmdByte) = false := by
    rw [Bool.eq_false_iff]
    intro e
    have := List.all_eq_true.1 e 0 hz
    cases this
  rw [this, Bool.and_false, Bool.and_false]
structure LG5 extends LG4 where
  nameOf : ByteArray → ByteArray
  s12 : ByteArray → Prop
def lg5 : LG5 where
  toLG4 := lg4
  nameOf := nameB
  s12 s := s.size = 12
end Go.Eng
namespace Go.Proofs.YtjiciplcdklfcaaDoor
open Go Go.Eng Go.Proofs Go.RowKit
attribute [local irreducible] CallOk HOk Run TIok rbin rcmp run1 updF shfF blitF
def tgj (lf : LG5) : Tbl := tbL [(11, sFCmd lf.toLG4.toLG3.toLG2.toLG1.toLG0)] []
theorem tgj_ok : TblOk Tryd.prog (tgj lg5) := tbL_ok (List.forall_mem_cons.2 ⟨rfcmd_ok, nofun⟩) nofun
def sNamed (lf : LG5) : ESpec := fun l => match l with
  | [.one (.str s)] => some (.a (.one (.str (lf.nameOf s))), [lf.s12 s])
  | _ => none
set_option maxHeartbeats 1000000 in
theorem named_ok : CallOk Tryd.prog 54 (sNamed lg5) := by
  refine .of_run (hc := (tgj lg5).hc) Tryd.func54 rfl (by kernel_rfl) (by kernel_rfl) fun xs v ps hs hp w => ?_
  unfold sNamed at hs
  split at hs
  · rename_i s
    cases hs
    have h12 : s.size = 12 := hp (lg5.s12 s) (by simp)
    clear hp
    have hl : s.data.toList.length = 12 := by rw [Array.length_toList]; exact h12
    refine run_pa hmix ti_ok tgj_ok 0 false 400 [] [0, 3] [3] (fun ar lf => by conv => lhs; cbv) (allP ?_) ?_
    · trivial
    refine Run.loop (ι := {p : Int // (0 ≤ p ∧ p ≤ 12) ∧ ∀ b ∈ s.data.toList.take p.toNat, b ≠ 0})
      (fun i => ([.a (.one (.str s)), .any, .any, .a (.one (.int .i64 i.1)), .any, .any, .any, .any, .any, .any, .any, .any, .any, .any, .any, .any, .any, .any, .any, .any, .any, .any, .any, .any, .any, .any, .any, .any, .any, .any, .any, .any], []))
      (fun i => (12 - i.1).toNat) ⟨0, by omega, by simp⟩ ?_
    rintro ⟨p, hp, hnz⟩ ih
    try simp only at hp hnz
    by_cases hc : p < 12 ∧ ∀ b, s.data.toList[p.toNat]? = some b → b ≠ 0
    · have hk : p.toNat < s.data.toList.length := by omega
      have e1 : rbin .add .i64 p 1 = p + 1 := addi (by omega) (by omega)
      have hb : (((s[p.toNat]?).getD 0).toNat : Int) = ((s.data.toList[p.toNat]).toNat : Nat) := sb_at hk
      have hb0 := hc.2 _ (List.getElem?_eq_getElem hk)
      have hb1 : (s.data.toList[p.toNat]).toNat ≠ 0 := fun h => hb0 (UInt8.toNat_inj.1 h)
      have hstep : ∀ b ∈ s.data.toList.take (p + 1).toNat, b ≠ 0 := by
        rw [show (p + 1).toNat = p.toNat + 1 by omega, List.take_succ_eq_append_getElem hk]
        intro b hbm
        rcases List.mem_append.1 hbm with h | h
        · exact hnz b h
        · rw [List.mem_singleton.1 h]; exact hb0
      generalize hbd : s.data.toList[p.toNat] = bb at hb hb1
      refine run_pa hmix ti_ok tgj_ok 2 true 400 [true, true] [0, 3] [3] (fun ar lf => by conv => lhs; cbv) (allP ?_) ?_
      · simp only [conj, and_true, Int.ofNat_eq_natCast, arR, rcmp_lss, rcmp_gtr, rcmp_geq, rcmp_leq, rcmp_eql, rcmp_neq, decide_eq_true_eq, decide_eq_false_iff_not, ne_eq, not_true_eq_false, not_false_eq_true, Int.toNat_natCast, List.length_cons, List.length_nil]
        omega
      · refine ih ⟨_, ?_, ?_⟩ ?_ _ _
        · show 0 ≤ rbin .add .i64 p 1 ∧ rbin .add .i64 p 1 ≤ 12
          rw [e1]; omega
        · show ∀ b ∈ s.data.toList.take (rbin .add .i64 p 1).toNat, b ≠ 0
          rw [e1]; exact hstep
        · show (12 - rbin .add .i64 p 1).toNat < (12 - p).toNat
          rw [e1]; omega
    · -- the zeros begin at p
      have h2 : p = 12 ∨ (p < 12 ∧ s.data.toList[p.toNat]? = some 0) := by
        by_cases h : p = 12
        · exact .inl h
        · refine .inr ⟨by omega, ?_⟩
          have hk : p.toNat < s.data.toList.length := by omega
          rw [List.getElem?_eq_getElem hk]
          by_cases hz : s.data.toList[p.toNat] = 0
          · rw [hz]
          · exact absurd ⟨by omega, fun b hb => by rw [List.getElem?_eq_getElem hk] at hb; cases hb; exact hz⟩ hc
      have key : Run Tryd.prog (tgj lg5).hc w 0 Tryd.f54 (fun x _ => VLe x (.a (.one (.str (nameB s))))) ⟨(([.a (.one (.str s)), .any, .any, .a (.one (.int .i64 p)), .a (.one (.int .i64 p)), .any, .any, .any, .any, .any, .any, .any, .any, .any, .any, .any, .any, .any, .any, .any, .any, .any, .any, .any, .any, .any, .any, .any, .any, .any, .any, .any], []) : List V × Heap).1, (([.a (.one (.str s)), .any, .any, .a (.one (.int .i64 p)), .a (.one (.int .i64 p)), .any, .any, .any, .any, .any, .any, .any, .any, .any, .any, .any, .any, .any, .any, .any, .any, .any, .any, .any, .any, .any, .any, .any, .any, .any, .any, .any], []) : List V × Heap).2, todoAt Tryd.f54 1, [], []⟩ := by
        refine Run.loop (ι := {q : Int // (p ≤ q ∧ q ≤ 12) ∧ ∀ b ∈ (s.data.toList.take q.toNat).drop p.toNat, b = 0})
          (fun i => ([.a (.one (.str s)), .any, .any, .a (.one (.int .i64 p)), .a (.one (.int .i64 i.1)), .any, .any, .any, .any, .any, .any, .any, .any, .any, .any, .any, .any, .any, .any, .any, .any, .any, .any, .any, .any, .any, .any, .any, .any, .any, .any, .any], []))
          (fun i => (12 - i.1).toNat) ⟨p, by omega, by rw [List.drop_of_length_le (by rw [List.length_take]; omega)]; simp⟩ ?_
        rintro ⟨q, hq, hz⟩ ih2
        try simp only at hq hz
        by_cases hlt : q < 12
        · have hk : q.toNat < s.data.toList.length := by omega
          have e1 : rbin .add .i64 q 1 = q + 1 := addi (by omega) (by omega)
          have hb : (((s[q.toNat]?).getD 0).toNat : Int) = ((s.data.toList[q.toNat]).toNat : Nat) := sb_at hk
          by_cases hqz : s.data.toList[q.toNat] = 0
          · have hstep : ∀ b ∈ (s.data.toList.take (q + 1).toNat).drop p.toNat, b = 0 := by
              rw [show (q + 1).toNat = q.toNat + 1 by omega, List.take_succ_eq_append_getElem hk, List.drop_append_of_le_length (by rw [List.length_take]; omega)]
              intro b hbm
              rcases List.mem_append.1 hbm with h | h
              · exact hz b h
              · rw [List.mem_singleton.1 h]; exact hqz
            have hb1 : (s.data.toList[q.toNat]).toNat = 0 := by rw [hqz]; rfl
            generalize hbd : s.data.toList[q.toNat] = bb at hb hb1
            refine run_pa hmix ti_ok tgj_ok 2 true 400 [true, false] [0, 3, 4] [4] (fun ar lf => by conv => lhs; cbv) (allP ?_) ?_
            · simp only [conj, and_true, Int.ofNat_eq_natCast, arR, rcmp_lss, rcmp_gtr, rcmp_geq, rcmp_leq, rcmp_eql, rcmp_neq, decide_eq_true_eq, decide_eq_false_iff_not, ne_eq, not_true_eq_false, not_false_eq_true, Int.toNat_natCast, List.length_cons, List.length_nil]
              omega
            · refine ih2 ⟨_, ?_, ?_⟩ ?_ _ _
              · show p ≤ rbin .add .i64 q 1 ∧ rbin .add .i64 q 1 ≤ 12
                rw [e1]; omega
              · show ∀ b ∈ (s.data.toList.take (rbin .add .i64 q 1).toNat).drop p.toNat, b = 0
                rw [e1]; exact hstep
              · show (12 - rbin .add .i64 q 1).toNat < (12 - q).toNat
                rw [e1]; omega
          · have hpq : p < q := by
              rcases h2 with h | ⟨h, h0⟩
              · omega
              · by_cases e : p = q
                · subst e
                  rw [List.getElem?_eq_getElem hk] at h0
                  exact absurd (Option.some.inj h0) hqz
                · omega
            have hp0 : s.data.toList[p.toNat]? = some 0 := by
              rcases h2 with h | ⟨h, h0⟩
              · omega
              · exact h0
            have hbad : nameB s = .empty := by
              unfold nameB
              rw [if_neg]
              rw [show okCmd (trimZ s) = false from trim_bad hp0 (by omega) (List.getElem?_eq_getElem hk) hqz]
              simp
            have hb1 : (s.data.toList[q.toNat]).toNat ≠ 0 := fun h => hqz (UInt8.toNat_inj.1 h)
            generalize hbd : s.data.toList[q.toNat] = bb at hb hb1
            refine run_ex hmix ti_ok tgj_ok 999 false 400 [true, true] (fun ar lf => by conv => lhs; cbv) (allP ?_) ?_
            · simp only [conj, and_true, Int.ofNat_eq_natCast, arR, rcmp_lss, rcmp_gtr, rcmp_geq, rcmp_leq, rcmp_eql, rcmp_neq, decide_eq_true_eq, decide_eq_false_iff_not, ne_eq, not_true_eq_false, not_false_eq_true, Int.toNat_natCast, List.length_cons, List.length_nil]
              omega
            · exact Run.ret ti_ok rfl rfl (.a (.str hbad.symm))
        · have hz2 : ∀ b ∈ s.data.toList.drop p.toNat, b = 0 := by
            rw [List.take_of_length_le (by omega)] at hz; exact hz
          have ht : trimZ s = s.extract 0 p.toNat := by
            apply ba_eq
            rw [ext_list, List.drop_zero]
            show (Go.Lib.trimRightB s.data.toList 0).toArray.toList = _
            exact trim_cut hnz hz2
          have hfit : lg5.fit (s.extract 0 p.toNat) := by show (s.extract 0 p.toNat).size ≤ 9223372036854775807; rw [ByteArray.size_extract]; omega
          cases hk : okCmd (s.extract 0 p.toNat) with
          | true =>
            have hn : nameB s = s.extract 0 p.toNat := by unfold nameB; rw [ht, if_pos hk]
            refine run_ex hmix ti_ok tgj_ok 999 false 400 [false, false] (fun ar lf => by conv => lhs; cbv) (allP ?_) ?_
            · simp only [conj, and_true, Int.ofNat_eq_natCast, arR, rcmp_lss, rcmp_gtr, rcmp_geq, rcmp_leq, rcmp_eql, rcmp_neq, decide_eq_true_eq, decide_eq_false_iff_not, ne_eq, not_true_eq_false, not_false_eq_true, Int.toNat_natCast, List.length_cons, List.length_nil]
              exact ⟨by omega, congrArg Bool.not hk, hfit, by omega, hlt⟩
            · exact Run.ret ti_ok rfl rfl (.a (.str hn.symm))
          | false =>
            have hn : nameB s = .empty := by unfold nameB; rw [ht, if_neg (by rw [hk]; simp)]
            refine run_ex hmix ti_ok tgj_ok 999 false 400 [false, true] (fun ar lf => by conv => lhs; cbv) (allP ?_) ?_
            · simp only [conj, and_true, Int.ofNat_eq_natCast, arR, rcmp_lss, rcmp_gtr, rcmp_geq, rcmp_leq, rcmp_eql, rcmp_neq, decide_eq_true_eq, decide_eq_false_iff_not, ne_eq, not_true_eq_false, not_false_eq_true, Int.toNat_natCast, List.length_cons, List.length_nil]
              exact ⟨congrArg Bool.not hk, hfit, by omega, hlt⟩
            · exact Run.ret ti_ok rfl rfl (.a (.str hn.symm))
      by_cases h : p < 12
      · have h0 : s.data.toList[p.toNat]? = some 0 := by
          rcases h2 with h' | h'
          · omega
          · exact h'.2
        have hk : p.toNat < s.data.toList.length := by omega
        have hb : (((s[p.toNat]?).getD 0).toNat : Int) = ((s.data.toList[p.toNat]).toNat : Nat) := sb_at hk
        have hb1 : (s.data.toList[p.toNat]).toNat = 0 := by
          rw [List.getElem?_eq_getElem hk] at h0
          rw [Option.some.inj h0]; rfl
        generalize hbd : s.data.toList[p.toNat] = bb at hb hb1
        refine run_pa hmix ti_ok tgj_ok 2 false 400 [true, false] [0, 3, 4] [4] (fun ar lf => by conv => lhs; cbv) (allP ?_) ?_
        · simp only [conj, and_true, Int.ofNat_eq_natCast, arR, rcmp_lss, rcmp_gtr, rcmp_geq, rcmp_leq, rcmp_eql, rcmp_neq, decide_eq_true_eq, decide_eq_false_iff_not, ne_eq, not_true_eq_false, not_false_eq_true, Int.toNat_natCast, List.length_cons, List.length_nil]
          omega
        · exact key
      · refine run_pa hmix ti_ok tgj_ok 2 false 400 [false] [0, 3, 4] [4] (fun ar lf => by conv => lhs; cbv) (allP ?_) ?_
        · simp only [conj, and_true, Int.ofNat_eq_natCast, arR, rcmp_lss, rcmp_gtr, rcmp_geq, rcmp_leq, rcmp_eql, rcmp_neq, decide_eq_true_eq, decide_eq_false_iff_not, ne_eq, not_true_eq_false, not_false_eq_true, Int.toNat_natCast, List.length_cons, List.length_nil]
          omega
        · exact key
  · cases hs
end Go.Proofs.YtjiciplcdklfcaaDoor
