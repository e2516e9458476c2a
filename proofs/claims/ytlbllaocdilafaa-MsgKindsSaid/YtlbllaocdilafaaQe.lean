import Derived.Test.YtlbllaocdilafaaQd
set_option linter.unusedSimpArgs false
set_option linter.unusedVariables false
namespace Go.Eng
open Go
theorem eqL_len_of {s : Sh} {xs ys : List D} (h : eqL s xs ys = true) : xs.length = ys.length := by
  unfold eqL at h
  rw [Bool.and_eq_true] at h
  simpa using h.1
theorem eqL_at {s : Sh} {xs ys : List D} (h : eqL s xs ys = true) {i : Nat} (hi : i < xs.length) : eqD s (xs.getD i (.int 0)) (ys.getD i (.int 0)) = true := by
  unfold eqL at h
  rw [Bool.and_eq_true, List.all_eq_true] at h
  exact h.2 i (List.mem_range.2 hi)
end Go.Eng
namespace Go.Proofs.Ytlbllaocdilafaa
open Go Go.Eng Go.Proofs Go.RowKit
attribute [local irreducible] CallOk HOk Run TIok rbin rcmp run1 updF shfF blitF
def rL (a b : D) : Prop := eqD (.int .i64) a.fst! b.fst! = true ∧ eqD (.int .u32) a.snd!.fst! b.snd!.fst! = true ∧ eqD (.int .u64) a.snd!.snd!.fst! b.snd!.snd!.fst! = true ∧ eqD (.int .u64) a.snd!.snd!.snd!.fst! b.snd!.snd!.snd!.fst! = true ∧ eqD (.int .i64) a.snd!.snd!.snd!.snd!.fst! b.snd!.snd!.snd!.snd!.fst! = true ∧ eqD (.two (.int .u32) (.two (.int .u64) (.two (.arr .u8 16) (.int .u16)))) a.snd!.snd!.snd!.snd!.snd!.fst! b.snd!.snd!.snd!.snd!.snd!.fst! = true ∧ eqD (.two (.int .u32) (.two (.int .u64) (.two (.arr .u8 16) (.int .u16)))) a.snd!.snd!.snd!.snd!.snd!.snd!.fst! b.snd!.snd!.snd!.snd!.snd!.snd!.fst! = true ∧ eqD (.str) a.snd!.snd!.snd!.snd!.snd!.snd!.snd!.fst! b.snd!.snd!.snd!.snd!.snd!.snd!.snd!.fst! = true ∧ eqD (.int .u32) a.snd!.snd!.snd!.snd!.snd!.snd!.snd!.snd!.fst! b.snd!.snd!.snd!.snd!.snd!.snd!.snd!.snd!.fst! = true ∧ eqD (.bool) a.snd!.snd!.snd!.snd!.snd!.snd!.snd!.snd!.snd!.fst! b.snd!.snd!.snd!.snd!.snd!.snd!.snd!.snd!.snd!.fst! = true ∧ eqD (.bool) a.snd!.snd!.snd!.snd!.snd!.snd!.snd!.snd!.snd!.snd!.fst! b.snd!.snd!.snd!.snd!.snd!.snd!.snd!.snd!.snd!.snd!.fst! = true ∧ eqD (.arr .u8 32) a.snd!.snd!.snd!.snd!.snd!.snd!.snd!.snd!.snd!.snd!.snd!.snd!.snd!.snd!.fst! b.snd!.snd!.snd!.snd!.snd!.snd!.snd!.snd!.snd!.snd!.snd!.snd!.snd!.snd!.fst! = true ∧ eqD (.arr .u8 32) a.snd!.snd!.snd!.snd!.snd!.snd!.snd!.snd!.snd!.snd!.snd!.snd!.snd!.snd!.snd!.fst! b.snd!.snd!.snd!.snd!.snd!.snd!.snd!.snd!.snd!.snd!.snd!.snd!.snd!.snd!.snd!.fst! = true ∧ eqD (.str) a.snd!.snd!.snd!.snd!.snd!.snd!.snd!.snd!.snd!.snd!.snd!.snd!.snd!.snd!.snd!.snd!.snd!.fst! b.snd!.snd!.snd!.snd!.snd!.snd!.snd!.snd!.snd!.snd!.snd!.snd!.snd!.snd!.snd!.snd!.snd!.fst! = true ∧ eqD (.str) a.snd!.snd!.snd!.snd!.snd!.snd!.snd!.snd!.snd!.snd!.snd!.snd!.snd!.snd!.snd!.snd!.snd!.snd!.fst! b.snd!.snd!.snd!.snd!.snd!.snd!.snd!.snd!.snd!.snd!.snd!.snd!.snd!.snd!.snd!.snd!.snd!.snd!.fst! = true ∧ ¬ ((a.snd!.snd!.snd!.snd!.snd!.snd!.snd!.snd!.snd!.snd!.snd!.fst!).sl!.length = (b.snd!.snd!.snd!.snd!.snd!.snd!.snd!.snd!.snd!.snd!.snd!.fst!).sl!.length ∧ (a.snd!.snd!.snd!.snd!.snd!.snd!.snd!.snd!.snd!.snd!.snd!.snd!.fst!).sl!.length = (b.snd!.snd!.snd!.snd!.snd!.snd!.snd!.snd!.snd!.snd!.snd!.snd!.fst!).sl!.length ∧ (a.snd!.snd!.snd!.snd!.snd!.snd!.snd!.snd!.snd!.snd!.snd!.snd!.snd!.fst!).sl!.length = (b.snd!.snd!.snd!.snd!.snd!.snd!.snd!.snd!.snd!.snd!.snd!.snd!.snd!.fst!).sl!.length ∧ (a.snd!.snd!.snd!.snd!.snd!.snd!.snd!.snd!.snd!.snd!.snd!.snd!.snd!.snd!.snd!.snd!.fst!).sl!.length = (b.snd!.snd!.snd!.snd!.snd!.snd!.snd!.snd!.snd!.snd!.snd!.snd!.snd!.snd!.snd!.snd!.fst!).sl!.length ∧ (a.snd!.snd!.snd!.snd!.snd!.snd!.snd!.snd!.snd!.snd!.snd!.snd!.snd!.snd!.snd!.snd!.snd!.snd!.snd!.fst!).sl!.length = (b.snd!.snd!.snd!.snd!.snd!.snd!.snd!.snd!.snd!.snd!.snd!.snd!.snd!.snd!.snd!.snd!.snd!.snd!.snd!.fst!).sl!.length ∧ (a.snd!.snd!.snd!.snd!.snd!.snd!.snd!.snd!.snd!.snd!.snd!.snd!.snd!.snd!.snd!.snd!.snd!.snd!.snd!.snd!.fst!).sl!.length = (b.snd!.snd!.snd!.snd!.snd!.snd!.snd!.snd!.snd!.snd!.snd!.snd!.snd!.snd!.snd!.snd!.snd!.snd!.snd!.snd!.fst!).sl!.length ∧ (a.snd!.snd!.snd!.snd!.snd!.snd!.snd!.snd!.snd!.snd!.snd!.snd!.snd!.snd!.snd!.snd!.snd!.snd!.snd!.snd!.snd!.fst!).sl!.length = (b.snd!.snd!.snd!.snd!.snd!.snd!.snd!.snd!.snd!.snd!.snd!.snd!.snd!.snd!.snd!.snd!.snd!.snd!.snd!.snd!.snd!.fst!).sl!.length ∧ (a.snd!.snd!.snd!.snd!.snd!.snd!.snd!.snd!.snd!.snd!.snd!.snd!.snd!.snd!.snd!.snd!.snd!.snd!.snd!.snd!.snd!.snd!).sl!.length = (b.snd!.snd!.snd!.snd!.snd!.snd!.snd!.snd!.snd!.snd!.snd!.snd!.snd!.snd!.snd!.snd!.snd!.snd!.snd!.snd!.snd!.snd!).sl!.length)
set_option maxRecDepth 100000 in
set_option maxHeartbeats 40000000 in
theorem rsame_rL : CallOk Try.prog 35 (sSameG rL) := by
  refine .of_run (hc := (tr0 lqmR).hc) Try.func35 rfl (by kernel_rfl) (by kernel_rfl) fun xs v ps hs hp w => ?_
  unfold sSameG at hs
  split at hs
  · rename_i s1 a s2 b
    split at hs
    · rename_i hsh
      rw [Bool.and_eq_true] at hsh
      obtain rfl := shEq_eq hsh.1
      obtain rfl := shEq_eq hsh.2
      clear hsh
      cases hs
      obtain ⟨⟨a0, a1, a2, a3, a4, ⟨a5t, a5s, a5i, a5p⟩, ⟨a6t, a6s, a6i, a6p⟩, a7, a8, a9, a10, a11, a12, a13, a14, a15, a16, a17, a18, a19, a20, a21, a22⟩, rfl, ha⟩ : mOk a := hp (mOk a) (by simp)
      obtain ⟨⟨b0, b1, b2, b3, b4, ⟨b5t, b5s, b5i, b5p⟩, ⟨b6t, b6s, b6i, b6p⟩, b7, b8, b9, b10, b11, b12, b13, b14, b15, b16, b17, b18, b19, b20, b21, b22⟩, rfl, hb⟩ : mOk b := hp (mOk b) (by simp)
      have hg := hp (rL _ _) (List.mem_cons_of_mem _ (List.mem_cons_of_mem _ List.mem_cons_self))
      clear hp
      obtain ⟨h0, h1, h2, h3, h4, h5, h6, h7, h8, h9, h10, h14, h15, h17, h18, hn⟩ := hg
      replace h0 : eqD (.int .i64) (.int a0) (.int b0) = true := h0
      replace h1 : eqD (.int .u32) (.int a1) (.int b1) = true := h1
      replace h2 : eqD (.int .u64) (.int a2) (.int b2) = true := h2
      replace h3 : eqD (.int .u64) (.int a3) (.int b3) = true := h3
      replace h4 : eqD (.int .i64) (.int a4) (.int b4) = true := h4
      replace h5 : eqD (.two (.int .u32) (.two (.int .u64) (.two (.arr .u8 16) (.int .u16)))) (.pair (.int a5t) (.pair (.int a5s) (.pair (.row a5i) (.int a5p)))) (.pair (.int b5t) (.pair (.int b5s) (.pair (.row b5i) (.int b5p)))) = true := h5
      replace h6 : eqD (.two (.int .u32) (.two (.int .u64) (.two (.arr .u8 16) (.int .u16)))) (.pair (.int a6t) (.pair (.int a6s) (.pair (.row a6i) (.int a6p)))) (.pair (.int b6t) (.pair (.int b6s) (.pair (.row b6i) (.int b6p)))) = true := h6
      replace h7 : eqD (.str) (.str a7) (.str b7) = true := h7
      replace h8 : eqD (.int .u32) (.int a8) (.int b8) = true := h8
      replace h9 : eqD (.bool) (.bool a9) (.bool b9) = true := h9
      replace h10 : eqD (.bool) (.bool a10) (.bool b10) = true := h10
      replace h14 : eqD (.arr .u8 32) (.row a14) (.row b14) = true := h14
      replace h15 : eqD (.arr .u8 32) (.row a15) (.row b15) = true := h15
      replace h17 : eqD (.str) (.str a17) (.str b17) = true := h17
      replace h18 : eqD (.str) (.str a18) (.str b18) = true := h18
      replace hn : ¬ (a11.length = b11.length ∧ a12.length = b12.length ∧ a13.length = b13.length ∧ a16.length = b16.length ∧ a19.length = b19.length ∧ a20.length = b20.length ∧ a21.length = b21.length ∧ a22.length = b22.length) := hn
      have e0 : a0 = b0 := of_decide_eq_true h0
      have e1 : a1 = b1 := of_decide_eq_true h1
      have e2 : a2 = b2 := of_decide_eq_true h2
      have e3 : a3 = b3 := of_decide_eq_true h3
      have e4 : a4 = b4 := of_decide_eq_true h4
      have e5 : (!(decide (a5t = b5t) && (decide (a5s = b5s) && ([a5i.getD 0 0, a5i.getD 1 0, a5i.getD 2 0, a5i.getD 3 0, a5i.getD 4 0, a5i.getD 5 0, a5i.getD 6 0, a5i.getD 7 0, a5i.getD 8 0, a5i.getD 9 0, a5i.getD 10 0, a5i.getD 11 0, a5i.getD 12 0, a5i.getD 13 0, a5i.getD 14 0, a5i.getD 15 0] == [b5i.getD 0 0, b5i.getD 1 0, b5i.getD 2 0, b5i.getD 3 0, b5i.getD 4 0, b5i.getD 5 0, b5i.getD 6 0, b5i.getD 7 0, b5i.getD 8 0, b5i.getD 9 0, b5i.getD 10 0, b5i.getD 11 0, b5i.getD 12 0, b5i.getD 13 0, b5i.getD 14 0, b5i.getD 15 0] && decide (a5p = b5p))))) = false := by rw [← eqR5, h5]; rfl
      have e6 : (!(decide (a6t = b6t) && (decide (a6s = b6s) && ([a6i.getD 0 0, a6i.getD 1 0, a6i.getD 2 0, a6i.getD 3 0, a6i.getD 4 0, a6i.getD 5 0, a6i.getD 6 0, a6i.getD 7 0, a6i.getD 8 0, a6i.getD 9 0, a6i.getD 10 0, a6i.getD 11 0, a6i.getD 12 0, a6i.getD 13 0, a6i.getD 14 0, a6i.getD 15 0] == [b6i.getD 0 0, b6i.getD 1 0, b6i.getD 2 0, b6i.getD 3 0, b6i.getD 4 0, b6i.getD 5 0, b6i.getD 6 0, b6i.getD 7 0, b6i.getD 8 0, b6i.getD 9 0, b6i.getD 10 0, b6i.getD 11 0, b6i.getD 12 0, b6i.getD 13 0, b6i.getD 14 0, b6i.getD 15 0] && decide (a6p = b6p))))) = false := by rw [← eqR6, h6]; rfl
      have e7 : (!(a7.toList == b7.toList)) = false := by rw [← eqR7, h7]; rfl
      have e8 : a8 = b8 := of_decide_eq_true h8
      have e9 : (!(a9 == b9)) = false := by rw [← eqR9, h9]; rfl
      have e10 : (!(a10 == b10)) = false := by rw [← eqR10, h10]; rfl
      have e14 : (!([a14.getD 0 0, a14.getD 1 0, a14.getD 2 0, a14.getD 3 0, a14.getD 4 0, a14.getD 5 0, a14.getD 6 0, a14.getD 7 0, a14.getD 8 0, a14.getD 9 0, a14.getD 10 0, a14.getD 11 0, a14.getD 12 0, a14.getD 13 0, a14.getD 14 0, a14.getD 15 0, a14.getD 16 0, a14.getD 17 0, a14.getD 18 0, a14.getD 19 0, a14.getD 20 0, a14.getD 21 0, a14.getD 22 0, a14.getD 23 0, a14.getD 24 0, a14.getD 25 0, a14.getD 26 0, a14.getD 27 0, a14.getD 28 0, a14.getD 29 0, a14.getD 30 0, a14.getD 31 0] == [b14.getD 0 0, b14.getD 1 0, b14.getD 2 0, b14.getD 3 0, b14.getD 4 0, b14.getD 5 0, b14.getD 6 0, b14.getD 7 0, b14.getD 8 0, b14.getD 9 0, b14.getD 10 0, b14.getD 11 0, b14.getD 12 0, b14.getD 13 0, b14.getD 14 0, b14.getD 15 0, b14.getD 16 0, b14.getD 17 0, b14.getD 18 0, b14.getD 19 0, b14.getD 20 0, b14.getD 21 0, b14.getD 22 0, b14.getD 23 0, b14.getD 24 0, b14.getD 25 0, b14.getD 26 0, b14.getD 27 0, b14.getD 28 0, b14.getD 29 0, b14.getD 30 0, b14.getD 31 0])) = false := by rw [← eqR14, h14]; rfl
      have e15 : (!([a15.getD 0 0, a15.getD 1 0, a15.getD 2 0, a15.getD 3 0, a15.getD 4 0, a15.getD 5 0, a15.getD 6 0, a15.getD 7 0, a15.getD 8 0, a15.getD 9 0, a15.getD 10 0, a15.getD 11 0, a15.getD 12 0, a15.getD 13 0, a15.getD 14 0, a15.getD 15 0, a15.getD 16 0, a15.getD 17 0, a15.getD 18 0, a15.getD 19 0, a15.getD 20 0, a15.getD 21 0, a15.getD 22 0, a15.getD 23 0, a15.getD 24 0, a15.getD 25 0, a15.getD 26 0, a15.getD 27 0, a15.getD 28 0, a15.getD 29 0, a15.getD 30 0, a15.getD 31 0] == [b15.getD 0 0, b15.getD 1 0, b15.getD 2 0, b15.getD 3 0, b15.getD 4 0, b15.getD 5 0, b15.getD 6 0, b15.getD 7 0, b15.getD 8 0, b15.getD 9 0, b15.getD 10 0, b15.getD 11 0, b15.getD 12 0, b15.getD 13 0, b15.getD 14 0, b15.getD 15 0, b15.getD 16 0, b15.getD 17 0, b15.getD 18 0, b15.getD 19 0, b15.getD 20 0, b15.getD 21 0, b15.getD 22 0, b15.getD 23 0, b15.getD 24 0, b15.getD 25 0, b15.getD 26 0, b15.getD 27 0, b15.getD 28 0, b15.getD 29 0, b15.getD 30 0, b15.getD 31 0])) = false := by rw [← eqR15, h15]; rfl
      have e17 : (!(a17.toList == b17.toList)) = false := by rw [← eqR17, h17]; rfl
      have e18 : (!(a18.toList == b18.toList)) = false := by rw [← eqR18, h18]; rfl
      refine run_pa hmix ti_ok tr0_ok 999 false 400 [false, false, false, false, false, false, false, false, false, false, false, false, false, false, false] [2, 3] [] (fun ar lf => by conv => lhs; cbv) (allP ?_) ?_
      · simp only [conj, and_true, Int.ofNat_eq_natCast, arR, rcmp_lss, rcmp_gtr, rcmp_geq, rcmp_leq, rcmp_eql, rcmp_neq, decide_eq_true_eq, decide_eq_false_iff_not, ne_eq, not_true_eq_false, not_false_eq_true, Int.toNat_natCast, List.length_cons, List.length_nil, dF_m, dS_m, dI_m, dB_m, dX_m, dL_m, List.all_cons, List.all_nil, Bool.and_true, id_eq]
        exact ⟨e18, e17, e15, e14, e10, e9, fun h => h e8, e7, e6, e5, fun h => h e4, fun h => h e3, fun h => h e2, fun h => h e1, fun h => h e0⟩
      clear e0 e1 e2 e3 e4 e5 e6 e7 e8 e9 e10 e14 e15 e17 e18
      refine Run.fam3 (ι := Unit) (fun _ => ([.any, .any, .a (.one (.ptr 0 (.lit 0))), .a (.one (.ptr 1 (.lit 0))), .any, .any, .any, .any, .any, .any, .any, .any, .any, .any, .any, .any, .any, .any, .any, .any, .any, .any, .any, .any, .any, .any, .any, .any, .any, .any, .any, .any, .any, .any, .any, .any, .any, .any, .any, .any, .any, .any, .any, .any, .any, .any, .any, .any, .any, .any, .any, .any, .any, .any, .any, .any, .any, .any, .any, .any, .any, .any, .any, .any, .any, .any, .any, .any, .any, .any, .any, .any, .any, .any, .any, .any, .any, .any, .any, .any, .any, .any, .any, .any, .any, .any, .any, .any, .any, .any, .any, .any, .any, .any, .any, .any, .any, .any, .any, .any, .any, .any, .any, .any, .any, .any, .any, .any, .any, .any, .any, .any, .any, .any, .any, .any, .any, .any, .any, .any, .any, .any, .any, .any, .any, .any, .any, .any, .any, .any, .any, .any, .any, .any, .any, .any, .any, .any, .any, .any, .any, .any, .any, .any, .any, .any, .any, .any, .any, .any, .any, .any, .any, .any, .any, .any, .any, .any, .any, .any, .any, .any, .any, .any, .any, .any, .any, .any, .any, .any, .any, .any, .any, .any, .any, .any, .any, .any, .any, .any, .any, .any, .any, .any, .any, .any, .any, .any, .any, .any, .any, .any, .any, .any, .any, .any, .any, .any, .any, .any, .any, .any, .any, .any, .any, .any, .any, .any, .any, .any, .any, .any, .any, .any, .any, .any, .any, .any, .any, .any, .any, .any, .any, .any, .any, .any, .any, .any, .any, .any, .any, .any, .any, .any, .any, .any, .any, .any, .any, .any, .any, .any, .any, .any, .any, .any, .any, .any, .any, .any, .any, .any, .any, .any, .any, .any, .any, .any, .any, .any, .any, .any, .any, .any, .any, .any, .any, .any, .any, .any, .any, .any, .any, .any, .any, .any, .any, .any, .any, .any, .any, .any, .any, .any, .any, .any, .any, .any, .any, .any, .any, .any, .any, .any, .any, .any, .any, .any, .any, .any, .any, .any, .any, .any, .any, .any, .any, .any, .any, .any, .any, .any, .any, .any, .any, .any, .any, .any, .any, .any, .any, .any, .any, .any, .any, .any, .any, .any, .any, .any], [some ⟨false, .prt [.v MS (.pair (.int a0) (.pair (.int a1) (.pair (.int a2) (.pair (.int a3) (.pair (.int a4) (.pair (.pair (.int a5t) (.pair (.int a5s) (.pair (.row a5i) (.int a5p)))) (.pair (.pair (.int a6t) (.pair (.int a6s) (.pair (.row a6i) (.int a6p)))) (.pair (.str a7) (.pair (.int a8) (.pair (.bool a9) (.pair (.bool a10) (.pair (.sl a11) (.pair (.sl a12) (.pair (.sl a13) (.pair (.row a14) (.pair (.row a15) (.pair (.sl a16) (.pair (.str a17) (.pair (.str a18) (.pair (.sl a19) (.pair (.sl a20) (.pair (.sl a21) (.sl a22)))))))))))))))))))))))]⟩, some ⟨false, .prt [.v MS (.pair (.int b0) (.pair (.int b1) (.pair (.int b2) (.pair (.int b3) (.pair (.int b4) (.pair (.pair (.int b5t) (.pair (.int b5s) (.pair (.row b5i) (.int b5p)))) (.pair (.pair (.int b6t) (.pair (.int b6s) (.pair (.row b6i) (.int b6p)))) (.pair (.str b7) (.pair (.int b8) (.pair (.bool b9) (.pair (.bool b10) (.pair (.sl b11) (.pair (.sl b12) (.pair (.sl b13) (.pair (.row b14) (.pair (.row b15) (.pair (.sl b16) (.pair (.str b17) (.pair (.str b18) (.pair (.sl b19) (.pair (.sl b20) (.pair (.sl b21) (.sl b22)))))))))))))))))))))))]⟩])) () ?_
      intro _
      by_cases n11 : a11.length = b11.length
      rotate_left
      · refine run_ex hmix ti_ok tr0_ok 999 false 400 [true] (fun ar lf => by conv => lhs; cbv) (allP ?_) ?_
        · simp only [conj, and_true, Int.ofNat_eq_natCast, arR, rcmp_lss, rcmp_gtr, rcmp_geq, rcmp_leq, rcmp_eql, rcmp_neq, decide_eq_true_eq, decide_eq_false_iff_not, ne_eq, not_true_eq_false, not_false_eq_true, Int.toNat_natCast, List.length_cons, List.length_nil, dF_m, dS_m, dI_m, dB_m, dX_m, dL_m, List.all_cons, List.all_nil, Bool.and_true, id_eq]
          ((repeat' with_reducible apply And.intro) <;> omega)
        · refine Run.ret ti_ok rfl rfl (.a (.lbool (eqM_no11 (fun h => n11 ?_)).symm))
          exact eqL_len_of (eqD_sl.trans h)
      by_cases n12 : a12.length = b12.length
      rotate_left
      · refine run_ex hmix ti_ok tr0_ok 999 false 400 [false, true] (fun ar lf => by conv => lhs; cbv) (allP ?_) ?_
        · simp only [conj, and_true, Int.ofNat_eq_natCast, arR, rcmp_lss, rcmp_gtr, rcmp_geq, rcmp_leq, rcmp_eql, rcmp_neq, decide_eq_true_eq, decide_eq_false_iff_not, ne_eq, not_true_eq_false, not_false_eq_true, Int.toNat_natCast, List.length_cons, List.length_nil, dF_m, dS_m, dI_m, dB_m, dX_m, dL_m, List.all_cons, List.all_nil, Bool.and_true, id_eq]
          ((repeat' with_reducible apply And.intro) <;> omega)
        · refine Run.ret ti_ok rfl rfl (.a (.lbool (eqM_no12 (fun h => n12 ?_)).symm))
          exact eqL_len_of (eqD_sl.trans h)
      by_cases n13 : a13.length = b13.length
      rotate_left
      · refine run_ex hmix ti_ok tr0_ok 999 false 400 [false, false, true] (fun ar lf => by conv => lhs; cbv) (allP ?_) ?_
        · simp only [conj, and_true, Int.ofNat_eq_natCast, arR, rcmp_lss, rcmp_gtr, rcmp_geq, rcmp_leq, rcmp_eql, rcmp_neq, decide_eq_true_eq, decide_eq_false_iff_not, ne_eq, not_true_eq_false, not_false_eq_true, Int.toNat_natCast, List.length_cons, List.length_nil, dF_m, dS_m, dI_m, dB_m, dX_m, dL_m, List.all_cons, List.all_nil, Bool.and_true, id_eq]
          ((repeat' with_reducible apply And.intro) <;> omega)
        · refine Run.ret ti_ok rfl rfl (.a (.lbool (eqM_no13 (fun h => n13 ?_)).symm))
          exact eqL_len_of (eqD_sl.trans h)
      by_cases n16 : a16.length = b16.length
      rotate_left
      · refine run_ex hmix ti_ok tr0_ok 999 false 400 [false, false, false, true] (fun ar lf => by conv => lhs; cbv) (allP ?_) ?_
        · simp only [conj, and_true, Int.ofNat_eq_natCast, arR, rcmp_lss, rcmp_gtr, rcmp_geq, rcmp_leq, rcmp_eql, rcmp_neq, decide_eq_true_eq, decide_eq_false_iff_not, ne_eq, not_true_eq_false, not_false_eq_true, Int.toNat_natCast, List.length_cons, List.length_nil, dF_m, dS_m, dI_m, dB_m, dX_m, dL_m, List.all_cons, List.all_nil, Bool.and_true, id_eq]
          ((repeat' with_reducible apply And.intro) <;> omega)
        · refine Run.ret ti_ok rfl rfl (.a (.lbool (eqM_no16 (fun h => n16 ?_)).symm))
          exact eqL_len_of (eqD_sl.trans h)
      by_cases n19 : a19.length = b19.length
      rotate_left
      · refine run_ex hmix ti_ok tr0_ok 999 false 400 [false, false, false, false, true] (fun ar lf => by conv => lhs; cbv) (allP ?_) ?_
        · simp only [conj, and_true, Int.ofNat_eq_natCast, arR, rcmp_lss, rcmp_gtr, rcmp_geq, rcmp_leq, rcmp_eql, rcmp_neq, decide_eq_true_eq, decide_eq_false_iff_not, ne_eq, not_true_eq_false, not_false_eq_true, Int.toNat_natCast, List.length_cons, List.length_nil, dF_m, dS_m, dI_m, dB_m, dX_m, dL_m, List.all_cons, List.all_nil, Bool.and_true, id_eq]
          ((repeat' with_reducible apply And.intro) <;> omega)
        · refine Run.ret ti_ok rfl rfl (.a (.lbool (eqM_no19 (fun h => n19 ?_)).symm))
          exact eqL_len_of (eqD_sl.trans h)
      by_cases n20 : a20.length = b20.length
      rotate_left
      · refine run_ex hmix ti_ok tr0_ok 999 false 400 [false, false, false, false, false, true] (fun ar lf => by conv => lhs; cbv) (allP ?_) ?_
        · simp only [conj, and_true, Int.ofNat_eq_natCast, arR, rcmp_lss, rcmp_gtr, rcmp_geq, rcmp_leq, rcmp_eql, rcmp_neq, decide_eq_true_eq, decide_eq_false_iff_not, ne_eq, not_true_eq_false, not_false_eq_true, Int.toNat_natCast, List.length_cons, List.length_nil, dF_m, dS_m, dI_m, dB_m, dX_m, dL_m, List.all_cons, List.all_nil, Bool.and_true, id_eq]
          ((repeat' with_reducible apply And.intro) <;> omega)
        · refine Run.ret ti_ok rfl rfl (.a (.lbool (eqM_no20 (fun h => n20 ?_)).symm))
          exact eqL_len_of (eqD_sl.trans h)
      by_cases n21 : a21.length = b21.length
      rotate_left
      · refine run_ex hmix ti_ok tr0_ok 999 false 400 [false, false, false, false, false, false, true] (fun ar lf => by conv => lhs; cbv) (allP ?_) ?_
        · simp only [conj, and_true, Int.ofNat_eq_natCast, arR, rcmp_lss, rcmp_gtr, rcmp_geq, rcmp_leq, rcmp_eql, rcmp_neq, decide_eq_true_eq, decide_eq_false_iff_not, ne_eq, not_true_eq_false, not_false_eq_true, Int.toNat_natCast, List.length_cons, List.length_nil, dF_m, dS_m, dI_m, dB_m, dX_m, dL_m, List.all_cons, List.all_nil, Bool.and_true, id_eq]
          ((repeat' with_reducible apply And.intro) <;> omega)
        · refine Run.ret ti_ok rfl rfl (.a (.lbool (eqM_no21 (fun h => n21 ?_)).symm))
          exact eqL_len_of (eqD_sl.trans h)
      by_cases n22 : a22.length = b22.length
      rotate_left
      · refine run_ex hmix ti_ok tr0_ok 999 false 400 [false, false, false, false, false, false, false, true] (fun ar lf => by conv => lhs; cbv) (allP ?_) ?_
        · simp only [conj, and_true, Int.ofNat_eq_natCast, arR, rcmp_lss, rcmp_gtr, rcmp_geq, rcmp_leq, rcmp_eql, rcmp_neq, decide_eq_true_eq, decide_eq_false_iff_not, ne_eq, not_true_eq_false, not_false_eq_true, Int.toNat_natCast, List.length_cons, List.length_nil, dF_m, dS_m, dI_m, dB_m, dX_m, dL_m, List.all_cons, List.all_nil, Bool.and_true, id_eq]
          ((repeat' with_reducible apply And.intro) <;> omega)
        · refine Run.ret ti_ok rfl rfl (.a (.lbool (eqM_no22 (fun h => n22 ?_)).symm))
          exact eqL_len_of (eqD_sl.trans h)
      exact absurd ⟨n11, n12, n13, n16, n19, n20, n21, n22⟩ hn
    · cases hs
  · cases hs
end Go.Proofs.Ytlbllaocdilafaa
