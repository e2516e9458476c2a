import Derived.Test.YtlbllaocdilafaaNb
set_option linter.unusedSimpArgs false
set_option linter.unusedVariables false
namespace Go.Eng
open Go
theorem VLe.tup4 {a b c d a' b' c' d' : A} (h1 : ALe a a') (h2 : ALe b b') (h3 : ALe c c') (h4 : ALe d d') : VLe (.tup [a, b, c, d]) (.tup [a', b', c', d']) := by
  rintro ρ u ⟨arr, e, hs, h⟩
  refine ⟨arr, e, hs, fun j x hx => ?_⟩
  match j with
  | 0 => simp at hx; subst hx; obtain ⟨v, a1, a2⟩ := h 0 a rfl; exact ⟨v, a1, h1 ρ _ a2⟩
  | 1 => simp at hx; subst hx; obtain ⟨v, a1, a2⟩ := h 1 b rfl; exact ⟨v, a1, h2 ρ _ a2⟩
  | 2 => simp at hx; subst hx; obtain ⟨v, a1, a2⟩ := h 2 c rfl; exact ⟨v, a1, h3 ρ _ a2⟩
  | 3 => simp at hx; subst hx; obtain ⟨v, a1, a2⟩ := h 3 d rfl; exact ⟨v, a1, h4 ρ _ a2⟩
  | j + 4 => simp at hx
/-- what is read in all -/
def rdA (bits ids : List D) (cnt : Int) : Rd × Fn8 := rdI bits ids (wsL cnt.toNat) (dep cnt.toNat) 0 ⟨0, 0, [], [], false⟩
def rdB (bits ids : List D) (cnt : Int) : Prop := 1 ≤ cnt ∧ cnt ≤ 65536 ∧ (rdA bits ids cnt).1.bad = false ∧ (rdA bits ids cnt).1.b = bits.length ∧ (rdA bits ids cnt).1.i = ids.length
structure LW extends LU where
  rdH : List D → List D → Int → Fn8
  rdP : List D → List D → Int → List D
  rdM : List D → List D → Int → List D
  rdE : List D → List D → Int → Int
  rdG : List D → List D → Int → Bool
  longOk : List D → List D → Prop
  hl2 : List D → Prop
  ptIn : List D → List D → Prop
open Classical in
noncomputable def lwR : LW where
  toLU := luR
  rdH bits ids cnt := if rdB bits ids cnt then (rdA bits ids cnt).2 else fun _ => 0
  rdP bits ids cnt := if rdB bits ids cnt then (rdA bits ids cnt).1.pl else []
  rdM bits ids cnt := if rdB bits ids cnt then (rdA bits ids cnt).1.me else []
  rdE bits ids cnt := if rdB bits ids cnt then 0 else 61
  rdG bits ids cnt := if rdB bits ids cnt then true else false
  longOk bits ids := bits.length ≤ 9223372036854775807 ∧ ids.length ≤ 9223372036854775807
  ptIn xs ms := partOk xs ms ∧ xs.length ≤ 65536
  hl2 xs := xs.length ≤ 4398046511104 ∧ ∀ d ∈ xs, isHash d
end Go.Eng
namespace Go.Proofs.Ytlbllaocdilafaa
open Go Go.Eng Go.Proofs Go.RowKit
attribute [local irreducible] CallOk HOk Run TIok rbin rcmp run1 updF shfF blitF
def sRead (lf : LW) : ESpec := fun l => match l with
  | [.agg (.lst [.int .i64 cnt, .dat .bool bits none, .dat (.arr .u8 32) ids none])] => some (.tup [aF .u8 32 (lf.rdH bits ids cnt), .one (.dat (.int .i64) (lf.rdP bits ids cnt) none), .one (.dat (.arr .u8 32) (lf.rdM bits ids cnt) none), .one (.int .i64 (lf.rdE bits ids cnt))], [lf.longOk bits ids])
  | _ => none
def tbc (lf : LW) : Tbl := tbL [] [(56, hRead 64 lf.toLS')]
theorem tbc_ok : TblOk Try.prog (tbc lwR) := tbL_ok nofun (List.forall_mem_cons.2 ⟨read_ok 64, nofun⟩)
set_option maxRecDepth 100000 in
set_option maxHeartbeats 4000000 in
theorem mread_ok : CallOk Try.prog 31 (sRead lwR) := by
  refine .of_run (hc := (tbc lwR).hc) Try.func31 rfl (by kernel_rfl) (by kernel_rfl) fun xs v ps hs hp w => ?_
  unfold sRead at hs
  split at hs
  · rename_i cnt bits ids
    cases hs
    obtain ⟨hb, hi⟩ : bits.length ≤ 9223372036854775807 ∧ ids.length ≤ 9223372036854775807 := hp (lwR.longOk bits ids) (by simp)
    clear hp
    have hq : True := trivial
    have hl1 : True := trivial
    by_cases h0 : cnt < 1
    · have hn : ¬ rdB bits ids cnt := fun h => by have := h.1; omega
      refine run_ex hmix ti_ok tbc_ok 999 false 400 [true] (fun ar lf => by conv => lhs; cbv) (allP ?_) ?_
      · simp only [conj, and_true, Int.ofNat_eq_natCast, arR, rcmp_lss, rcmp_gtr, rcmp_geq, rcmp_eql, rcmp_neq, decide_eq_true_eq, decide_eq_false_iff_not, lwR, luR, lsR', lrR, lqR, loR, lnR, lkR, ltR, lpR, lhR, hq, hl1, Int.toNat_natCast, Int.toNat_zero, List.length_nil]
        ((repeat' with_reducible apply And.intro) <;> first | omega | assumption | rfl | trivial)
      · have e1 : lwR.rdH bits ids cnt = fun _ => 0 := if_neg hn
        have e2 : lwR.rdP bits ids cnt = [] := if_neg hn
        have e3 : lwR.rdM bits ids cnt = [] := if_neg hn
        have e4 : lwR.rdE bits ids cnt = 61 := if_neg hn
        rw [e1, e2, e3, e4]
        exact Run.ret ti_ok rfl rfl (.tup4 (.ints fun j hj => rfl) .nsl .nsl (.lit rfl))
    by_cases h1 : 65536 < cnt
    · have hn : ¬ rdB bits ids cnt := fun h => by have := h.2.1; omega
      refine run_ex hmix ti_ok tbc_ok 999 false 400 [false, true] (fun ar lf => by conv => lhs; cbv) (allP ?_) ?_
      · simp only [conj, and_true, Int.ofNat_eq_natCast, arR, rcmp_lss, rcmp_gtr, rcmp_geq, rcmp_eql, rcmp_neq, decide_eq_true_eq, decide_eq_false_iff_not, lwR, luR, lsR', lrR, lqR, loR, lnR, lkR, ltR, lpR, lhR, hq, hl1, Int.toNat_natCast, Int.toNat_zero, List.length_nil]
        ((repeat' with_reducible apply And.intro) <;> first | omega | assumption | rfl | trivial)
      · have e1 : lwR.rdH bits ids cnt = fun _ => 0 := if_neg hn
        have e2 : lwR.rdP bits ids cnt = [] := if_neg hn
        have e3 : lwR.rdM bits ids cnt = [] := if_neg hn
        have e4 : lwR.rdE bits ids cnt = 61 := if_neg hn
        rw [e1, e2, e3, e4]
        exact Run.ret ti_ok rfl rfl (.tup4 (.ints fun j hj => rfl) .nsl .nsl (.lit rfl))
    clear hq hl1
    refine run_pa hmix ti_ok tbc_ok 0 false 400 [false, false] [1, 2, 6, 7] [7] (fun ar lf => by conv => lhs; cbv) (allP ?_) ?_
    · simp only [conj, and_true, Int.ofNat_eq_natCast, arR, rcmp_lss, rcmp_gtr, rcmp_geq, rcmp_eql, rcmp_neq, decide_eq_true_eq, decide_eq_false_iff_not]
      ((repeat' with_reducible apply And.intro) <;> first | omega | assumption | rfl | trivial)
    refine Run.roomAt 2 5 (.int .i64) rfl rfl (Nat.zero_le _) ?_
    refine Run.roomAt 2 6 (.int .i64) rfl rfl (Nat.zero_le _) ?_
    refine Run.roomAt 2 7 (.arr .u8 32) rfl rfl (Nat.zero_le _) ?_
    have hd16 : dep cnt.toNat ≤ 16 := dep_le 16 _ (by omega)
    refine Run.loop (ι := {p : Int × List D // ∃ k : Nat, p.1 = (wid cnt.toNat k : Nat) ∧ p.2 = (List.range k).map (fun k => D.int (wid cnt.toNat k : Nat)) ∧ k + dep (wid cnt.toNat k) = dep cnt.toNat ∧ 0 < wid cnt.toNat k})
      (fun i => ([.any, .a (.one (.ptr 0 (.lit 0))), .a (.one (.ptr 1 (.lit 0))), .any, .any, .any, .a (.one (.ptr 2 (.lit 0))), .a (.one (.int .i64 i.1.1)), .any, .any, .any, .any, .any, .any, .any, .any, .any, .any, .any, .any, .any, .any, .any, .any, .any, .any, .any, .any, .any, .any, .any, .any, .any, .any, .any, .any, .any, .any, .any, .any, .any, .any, .any, .any, .any, .any, .any, .any, .any, .any, .any, .any, .any, .any, .any, .any, .any, .any, .any, .any, .any, .any, .any, .any, .any, .any, .any, .any, .any, .any, .any, .any, .any, .any, .any, .any, .any, .any, .any, .any, .any, .any], [some ⟨false, .lst [.int .i64 cnt, .dat .bool bits none, .dat (.arr .u8 32) ids none]⟩, some ⟨false, .ints .u8 (.lit 32) (fun _ => 0)⟩, some ⟨false, .lst [.int .i64 cnt, .dat .bool bits none, .dat (.arr .u8 32) ids none, .int .i64 0, .int .i64 0, .dat (.int .i64) i.1.2 (some 3), .dat (.int .i64) [] (some 4), .dat (.arr .u8 32) [] (some 5), .bool false]⟩, some ⟨false, .tail⟩, some ⟨false, .tail⟩, some ⟨false, .tail⟩]))
      (fun i => i.1.1.toNat) ⟨(cnt, []), 0, by simp only [wid]; omega, rfl, by simp [wid], by simp only [wid]; omega⟩ ?_
    rintro ⟨⟨m, ws⟩, k, hm, hws, hk, hk0⟩ ih
    simp only at hm hws
    have hwl : ws.length = k := by rw [hws]; simp
    have hwm := (wid_le cnt.toNat k).1
    by_cases hlt : m = 1
    · have hdk : dep (wid cnt.toNat k) = 0 := by rw [dep, dif_neg (by omega)]
      have hws1 : ws ++ [D.int m] = wsL cnt.toNat := by
        unfold wsL
        rw [hws, ← hk, hdk, Nat.add_zero, List.range_succ, List.map_append, hm]; rfl
      refine run_pk hmix ti_ok tbc_ok 999 false 400 [true] [0, 1, 2, 4, 5] [1, 2, 6] [] (fun ar lf => by conv => lhs; cbv) (allP ?_) ?_
      · simp only [conj, and_true, Int.ofNat_eq_natCast, arR, rcmp_lss, rcmp_gtr, rcmp_geq, rcmp_eql, rcmp_neq, decide_eq_true_eq, decide_eq_false_iff_not, List.length_append, List.length_cons, List.length_nil, maxLen]
        ((repeat' with_reducible apply And.intro) <;> first | omega | assumption | rfl | trivial)
      refine Run.fam3 (ι := {p : List D // p = wsL cnt.toNat}) (fun i => ([.any, .a (.one (.ptr 0 (.lit 0))), .a (.one (.ptr 1 (.lit 0))), .any, .any, .any, .a (.one (.ptr 2 (.lit 0))), .any, .any, .any, .any, .any, .any, .any, .any, .any, .any, .any, .any, .any, .any, .any, .any, .any, .any, .any, .any, .any, .any, .any, .any, .any, .any, .any, .any, .any, .any, .any, .any, .any, .any, .any, .any, .any, .any, .any, .any, .any, .any, .any, .any, .any, .any, .any, .any, .any, .any, .any, .any, .any, .any, .any, .any, .any, .any, .any, .any, .any, .any, .any, .any, .any, .any, .any, .any, .any, .any, .any, .any, .any, .any, .any], [some ⟨false, .lst [.int .i64 cnt, .dat .bool bits none, .dat (.arr .u8 32) ids none]⟩, some ⟨false, .ints .u8 (.lit 32) (fun _ => 0)⟩, some ⟨false, .lst [.int .i64 cnt, .dat .bool bits none, .dat (.arr .u8 32) ids none, .int .i64 0, .int .i64 0, .dat (.int .i64) i.1 none, .dat (.int .i64) [] (some 3), .dat (.arr .u8 32) [] (some 4), .bool false]⟩, some ⟨false, .tail⟩, some ⟨false, .tail⟩])) ⟨ws ++ [D.int m], hws1⟩ ?_
      rintro ⟨W, hW⟩
      simp only
      have hWl : W.length = dep cnt.toNat + 1 := by rw [hW, wsL_len]
      have hl1 : rbin .sub .i64 W.length 1 = (dep cnt.toNat : Nat) := by rw [subi (by omega) (by omega), hWl]; omega
      have hq : rdI bits ids W (dep cnt.toNat) 0 ⟨0, 0, [], [], false⟩ = rdA bits ids cnt := by
        rw [hW]; rfl
      have hone : 1 ≤ 2 ^ (40 - dep cnt.toNat) := Nat.one_le_two_pow
      have hpw : 2 ^ (dep cnt.toNat + 1) ≤ 131072 := Nat.le_trans (Nat.pow_le_pow_right (by decide) (by omega : dep cnt.toNat + 1 ≤ 17)) (by decide)
      generalize hX : rdA bits ids cnt = x at *
      obtain ⟨⟨xb, xi, xpl, xme, xbad⟩, xh⟩ := x
      by_cases hbd : xbad = true
      · have hn : ¬ rdB bits ids cnt := fun h => by have := h.2.2.1; rw [hX] at this; simp only at this; rw [this] at hbd; cases hbd
        refine run_ex hmix ti_ok tbc_ok 999 false 400 [true] (fun ar lf => by conv => lhs; cbv) (allP ?_) ?_
        · simp only [conj, and_true, Int.ofNat_eq_natCast, arR, rcmp_lss, rcmp_gtr, rcmp_geq, rcmp_eql, rcmp_neq, decide_eq_true_eq, decide_eq_false_iff_not, lwR, luR, lsR', lrR, lqR, loR, lnR, lkR, ltR, lpR, lhR, hq, hl1, Int.toNat_natCast, Int.toNat_zero, List.length_nil]
          ((repeat' with_reducible apply And.intro) <;> first | omega | assumption | rfl | trivial)
        · have e1 : lwR.rdH bits ids cnt = fun _ => 0 := if_neg hn
          have e2 : lwR.rdP bits ids cnt = [] := if_neg hn
          have e3 : lwR.rdM bits ids cnt = [] := if_neg hn
          have e4 : lwR.rdE bits ids cnt = 61 := if_neg hn
          rw [e1, e2, e3, e4]
          exact Run.ret ti_ok rfl rfl (.tup4 (.ints fun j hj => rfl) .nsl .nsl (.lit rfl))
      have hbd : xbad = false := by simpa using hbd
      by_cases hbl : xb = bits.length
      · by_cases hil : xi = ids.length
        · have hn : rdB bits ids cnt := ⟨by omega, by omega, by rw [hX]; exact hbd, by rw [hX]; exact hbl, by rw [hX]; exact hil⟩
          have e1 : lwR.rdH bits ids cnt = xh := (if_pos hn).trans (by rw [hX])
          have e2 : lwR.rdP bits ids cnt = xpl := (if_pos hn).trans (by rw [hX])
          have e3 : lwR.rdM bits ids cnt = xme := (if_pos hn).trans (by rw [hX])
          have e4 : lwR.rdE bits ids cnt = 0 := if_pos hn
          rw [e1, e2, e3, e4]
          refine run_ex hmix ti_ok tbc_ok 999 false 400 [false, false, false] (fun ar lf => by conv => lhs; cbv) (allP ?_) ?_
          · simp only [conj, and_true, Int.ofNat_eq_natCast, arR, rcmp_lss, rcmp_gtr, rcmp_geq, rcmp_eql, rcmp_neq, decide_eq_true_eq, decide_eq_false_iff_not, lwR, luR, lsR', lrR, lqR, loR, lnR, lkR, ltR, lpR, lhR, hq, hl1, Int.toNat_natCast, Int.toNat_zero, List.length_nil]
            ((repeat' with_reducible apply And.intro) <;> first | omega | assumption | rfl | trivial)
          · refine Run.ret ti_ok rfl rfl (.tup4 (.ints fun j hj => ?_) (.dat ?_) (.dat ?_) (.lit rfl)) <;>
              simp only [lwR, luR, lsR', lrR, lqR, loR, lnR, lkR, ltR, lpR, lhR, Int.ofNat_eq_natCast, arR, hl1, hq, Nat.zero_add, Int.toNat_natCast]
        · have hn : ¬ rdB bits ids cnt := fun h => by have := h.2.2.2.2; rw [hX] at this; exact hil this
          refine run_ex hmix ti_ok tbc_ok 999 false 400 [false, false, true] (fun ar lf => by conv => lhs; cbv) (allP ?_) ?_
          · simp only [conj, and_true, Int.ofNat_eq_natCast, arR, rcmp_lss, rcmp_gtr, rcmp_geq, rcmp_eql, rcmp_neq, decide_eq_true_eq, decide_eq_false_iff_not, lwR, luR, lsR', lrR, lqR, loR, lnR, lkR, ltR, lpR, lhR, hq, hl1, Int.toNat_natCast, Int.toNat_zero, List.length_nil]
            ((repeat' with_reducible apply And.intro) <;> first | omega | assumption | rfl | trivial)
          · have e1 : lwR.rdH bits ids cnt = fun _ => 0 := if_neg hn
            have e2 : lwR.rdP bits ids cnt = [] := if_neg hn
            have e3 : lwR.rdM bits ids cnt = [] := if_neg hn
            have e4 : lwR.rdE bits ids cnt = 61 := if_neg hn
            rw [e1, e2, e3, e4]
            exact Run.ret ti_ok rfl rfl (.tup4 (.ints fun j hj => rfl) .nsl .nsl (.lit rfl))
      · have hn : ¬ rdB bits ids cnt := fun h => by have := h.2.2.2.1; rw [hX] at this; exact hbl this
        refine run_ex hmix ti_ok tbc_ok 999 false 400 [false, true] (fun ar lf => by conv => lhs; cbv) (allP ?_) ?_
        · simp only [conj, and_true, Int.ofNat_eq_natCast, arR, rcmp_lss, rcmp_gtr, rcmp_geq, rcmp_eql, rcmp_neq, decide_eq_true_eq, decide_eq_false_iff_not, lwR, luR, lsR', lrR, lqR, loR, lnR, lkR, ltR, lpR, lhR, hq, hl1, Int.toNat_natCast, Int.toNat_zero, List.length_nil]
          ((repeat' with_reducible apply And.intro) <;> first | omega | assumption | rfl | trivial)
        · have e1 : lwR.rdH bits ids cnt = fun _ => 0 := if_neg hn
          have e2 : lwR.rdP bits ids cnt = [] := if_neg hn
          have e3 : lwR.rdM bits ids cnt = [] := if_neg hn
          have e4 : lwR.rdE bits ids cnt = 61 := if_neg hn
          rw [e1, e2, e3, e4]
          exact Run.ret ti_ok rfl rfl (.tup4 (.ints fun j hj => rfl) .nsl .nsl (.lit rfl))
    · have hne : wid cnt.toNat k ≠ 1 := by omega
      have f1 : rbin .quo .i64 m 2 = m / 2 := quo_pos (by omega) (by omega) (by decide)
      have f2 : rbin .rem .i64 m 2 = m % 2 := rem_pos (by omega)
      have f3 : rbin .add .i64 (m / 2) (m % 2) = m / 2 + m % 2 := addi (by omega) (by omega)
      refine run_pa hmix ti_ok tbc_ok 2 true 400 [false] [1, 2, 6, 7] [7] (fun ar lf => by conv => lhs; cbv) (allP ?_) ?_
      · simp only [conj, and_true, Int.ofNat_eq_natCast, arR, rcmp_lss, rcmp_gtr, rcmp_geq, rcmp_eql, rcmp_neq, decide_eq_true_eq, decide_eq_false_iff_not, List.length_append, List.length_cons, List.length_nil, maxLen]
        ((repeat' with_reducible apply And.intro) <;> first | omega | assumption | rfl | trivial)
      · refine ih ⟨(_, _), k + 1, ?_⟩ ?_ _ _
        · simp only [arR, f1, f2, f3]
          have hw1 : wid cnt.toNat (k + 1) = wid cnt.toNat k / 2 + wid cnt.toNat k % 2 := rfl
          refine ⟨by omega, ?_, ?_, by omega⟩
          · show ws ++ [D.int m] = _
            rw [hws, List.range_succ, List.map_append, hm]; rfl
          · rw [hw1]
            rw [dep, dif_pos (by omega)] at hk
            omega
        · show (rbin .add .i64 (rbin .quo .i64 m 2) (rbin .rem .i64 m 2)).toNat < m.toNat
          rw [f1, f2, f3]; omega
  · cases hs
end Go.Proofs.Ytlbllaocdilafaa
