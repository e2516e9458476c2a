import Derived.Test.YtlbllaocdilafaaQl
set_option linter.unusedSimpArgs false
set_option linter.unusedVariables false
namespace Go.Eng
open Go
theorem eqD_refl : ∀ (s : Sh) (d : D), eqD s d d = true := by
  intro s
  induction s with
  | two a b iha ihb => intro d; show (eqD a d.fst! d.fst! && eqD b d.snd! d.snd!) = true; rw [iha, ihb]; rfl
  | sl s ih =>
    intro d
    show ((d.sl!.length == d.sl!.length) && (List.range d.sl!.length).all fun i => eqD s (d.sl!.getD i (.int 0)) (d.sl!.getD i (.int 0))) = true
    rw [Bool.and_eq_true, List.all_eq_true]
    exact ⟨by simp, fun i _ => ih _⟩
  | _ => intro d; simp [eqD]
theorem kindD_ok (k n : Int) : mOk (kindD k n) := ⟨_, rfl, ⟨rfl, rfl, rfl, rfl, Nat.zero_le _, Nat.zero_le _, Nat.zero_le _, Nat.zero_le _, Nat.zero_le _, Nat.zero_le _, Nat.zero_le _, Nat.zero_le _⟩⟩
end Go.Eng
namespace Go.Proofs.Ytlbllaocdilafaa
open Go Go.Eng Go.Proofs Go.RowKit
attribute [local irreducible] CallOk HOk Run TIok rbin rcmp run1 updF shfF blitF
def sRise0 (lf : LN4) : ESpec := fun l => match l with
  | [.one .nsl] => some (.a (.one (.bool true)), [])
  | [.one (.dat s xs none)] => if shEq s (.int .i64) && xs.isEmpty then some (.a (.one (.bool true)), []) else none
  | _ => none
theorem rise0_ok : CallOk Try.prog 88 (sRise0 ln4) := by
  refine .of_run (hc := (tl0 ln4).hc) Try.func88 rfl (by kernel_rfl) (by kernel_rfl) fun xs v ps hs hp w => ?_
  unfold sRise0 at hs
  split at hs
  · cases hs
    refine run_ex hmix ti_ok tl0_ok 999 true 400 [false] (fun ar lf => by conv => lhs; cbv) (allP ?_) ?_
    · simp only [conj, and_true, Int.ofNat_eq_natCast, arR, rcmp_lss, rcmp_gtr, rcmp_geq, rcmp_leq, rcmp_eql, rcmp_neq, decide_eq_true_eq, decide_eq_false_iff_not, ne_eq, not_true_eq_false, not_false_eq_true, Int.toNat_natCast, List.length_cons, List.length_nil] <;> ((repeat' with_reducible apply And.intro) <;> first | omega | assumption | rfl | trivial)
    · exact Run.ret ti_ok rfl rfl (.a (.lbool rfl))
  · rename_i s xs
    split at hs
    · rename_i hc
      rw [Bool.and_eq_true, List.isEmpty_iff] at hc
      obtain rfl := shEq_eq hc.1
      obtain rfl := hc.2
      cases hs
      refine run_ex hmix ti_ok tl0_ok 999 true 400 [false] (fun ar lf => by conv => lhs; cbv) (allP ?_) ?_
      · simp only [conj, and_true, Int.ofNat_eq_natCast, arR, rcmp_lss, rcmp_gtr, rcmp_geq, rcmp_leq, rcmp_eql, rcmp_neq, decide_eq_true_eq, decide_eq_false_iff_not, ne_eq, not_true_eq_false, not_false_eq_true, Int.toNat_natCast, List.length_cons, List.length_nil]
        ((repeat' with_reducible apply And.intro) <;> first | omega | assumption | rfl | trivial)
      · exact Run.ret ti_ok rfl rfl (.a (.lbool rfl))
    · cases hs
  · cases hs
def sPlaces0 (lf : LN4) : ESpec := fun l => match l with
  | [.one (.dat s xs none)] => if shEq s (.two (.int .i64) .str) && xs.isEmpty then some (.a (.one (.dat (.int .i64) [] none)), []) else none
  | _ => none
theorem places0_ok : CallOk Try.prog 89 (sPlaces0 ln4) := by
  refine .of_run (hc := (tl0 ln4).hc) Try.func89 rfl (by kernel_rfl) (by kernel_rfl) fun xs v ps hs hp w => ?_
  unfold sPlaces0 at hs
  split at hs
  · rename_i s xs
    split at hs
    · rename_i hc
      rw [Bool.and_eq_true, List.isEmpty_iff] at hc
      obtain rfl := shEq_eq hc.1
      obtain rfl := hc.2
      cases hs
      refine run_ex hmix ti_ok tl0_ok 999 true 400 [false] (fun ar lf => by conv => lhs; cbv) (allP ?_) ?_
      · simp only [conj, and_true, Int.ofNat_eq_natCast, arR, rcmp_lss, rcmp_gtr, rcmp_geq, rcmp_leq, rcmp_eql, rcmp_neq, decide_eq_true_eq, decide_eq_false_iff_not, ne_eq, not_true_eq_false, not_false_eq_true, Int.toNat_natCast, List.length_cons, List.length_nil]
        ((repeat' with_reducible apply And.intro) <;> first | omega | assumption | rfl | trivial)
      · exact Run.ret ti_ok rfl rfl (.a .nsl)
    · cases hs
  · cases hs
end Go.Proofs.Ytlbllaocdilafaa
