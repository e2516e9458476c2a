import Derived.Test.YtlbllaocdilafaaMw
set_option linter.unusedSimpArgs false
set_option linter.unusedVariables false
namespace Go.Eng
open Go
structure Rd where
  b : Int
  i : Int
  pl : List D
  me : List D
  bad : Bool
def leafI (ids : List D) (a : Int) (m : Bool) (s : Rd) : Rd × Fn8 :=
  if (ids.length : Int) ≤ s.i then (⟨s.b, s.i, if m = true then s.pl ++ [.int a] else s.pl, if m = true then s.me ++ [rowD fun _ => 0] else s.me, true⟩, fun _ => 0)
  else (⟨s.b, s.i + 1, if m = true then s.pl ++ [.int a] else s.pl, if m = true then s.me ++ [rowD (arR.dRow (ids.getD s.i.toNat (.int 0)))] else s.me, s.bad⟩, arR.dRow (ids.getD s.i.toNat (.int 0)))
def eqF (f g : Fn8) : Bool := (List.range 32).map f == (List.range 32).map g
def rdI (bits ids ws : List D) : Nat → Int → Rd → Rd × Fn8
  | 0, a, s => if s.bad = true ∨ (bits.length : Int) ≤ s.b then (⟨s.b, s.i, s.pl, s.me, true⟩, fun _ => 0)
    else leafI ids a (bits.getD s.b.toNat (.int 0)).bool! ⟨s.b + 1, s.i, s.pl, s.me, s.bad⟩
  | l + 1, a, s => if s.bad = true ∨ (bits.length : Int) ≤ s.b then (⟨s.b, s.i, s.pl, s.me, true⟩, fun _ => 0)
    else if (bits.getD s.b.toNat (.int 0)).bool! = true then
      (let x := rdI bits ids ws l (2 * a) ⟨s.b + 1, s.i, s.pl, s.me, s.bad⟩
       if (ws.getD l (.int 0)).int! ≤ 2 * a + 1 then (x.1, prF x.2 x.2)
       else (let y := rdI bits ids ws l (2 * a + 1) x.1
        (⟨y.1.b, y.1.i, y.1.pl, y.1.me, y.1.bad || eqF x.2 y.2⟩, prF x.2 y.2)))
    else leafI ids a false ⟨s.b + 1, s.i, s.pl, s.me, s.bad⟩
theorem leafI_facts (ids : List D) (a : Int) (m : Bool) (s : Rd) : (leafI ids a m s).1.b = s.b ∧ s.i ≤ (leafI ids a m s).1.i ∧ (leafI ids a m s).1.pl.length ≤ s.pl.length + 1 ∧ (leafI ids a m s).1.me.length ≤ s.me.length + 1 := by
  unfold leafI
  split <;> cases m <;> simp <;> omega
theorem rdI_facts (bits ids ws : List D) : ∀ (l : Nat) (a : Int) (s : Rd), s.b ≤ (rdI bits ids ws l a s).1.b ∧ s.i ≤ (rdI bits ids ws l a s).1.i ∧ (rdI bits ids ws l a s).1.pl.length ≤ s.pl.length + 2 ^ l ∧ (rdI bits ids ws l a s).1.me.length ≤ s.me.length + 2 ^ l
  | 0, a, s => by
    unfold rdI
    split
    · simp
    · obtain ⟨h1, h2, h3, h4⟩ := leafI_facts ids a (bits.getD s.b.toNat (.int 0)).bool! ⟨s.b + 1, s.i, s.pl, s.me, s.bad⟩
      simp only at h1 h2 h3 h4
      exact ⟨by omega, h2, by simpa using h3, by simpa using h4⟩
  | l + 1, a, s => by
    have hp : 2 ^ (l + 1) = 2 ^ l + 2 ^ l := by rw [Nat.pow_succ]; omega
    have hp1 : 1 ≤ 2 ^ l := Nat.one_le_two_pow
    unfold rdI
    split
    · simp
    · split
      · obtain ⟨h1, h2, h3, h4⟩ := rdI_facts bits ids ws l (2 * a) ⟨s.b + 1, s.i, s.pl, s.me, s.bad⟩
        simp only at h1 h2 h3 h4 ⊢
        generalize rdI bits ids ws l (2 * a) ⟨s.b + 1, s.i, s.pl, s.me, s.bad⟩ = x at *
        split
        · (try simp only)
          exact ⟨by omega, h2, by omega, by omega⟩
        · obtain ⟨g1, g2, g3, g4⟩ := rdI_facts bits ids ws l (2 * a + 1) x.1
          generalize rdI bits ids ws l (2 * a + 1) x.1 = y at *
          simp only
          exact ⟨by omega, by omega, by omega, by omega⟩
      · obtain ⟨h1, h2, h3, h4⟩ := leafI_facts ids a false ⟨s.b + 1, s.i, s.pl, s.me, s.bad⟩
        simp only at h1 h2 h3 h4
        exact ⟨by omega, h2, by omega, by omega⟩
structure LS' extends LR where
  idH : List D → Int → Bool → Fn8
  idI : List D → Int → Bool → Int
  idBad : List D → Int → Bool → Bool
  idOk : List D → Int → Prop
  rd : List D → List D → List D → Int → Int → Int → Int → List D → List D → Bool → Rd × Fn8
  rdOk : Nat → List D → List D → List D → Int → Int → Int → Int → List D → List D → Prop
noncomputable def lsR' : LS' where
  toLR := lrR
  idH ids i bad := if bad = true ∨ (ids.length : Int) ≤ i then fun _ => 0 else arR.dRow (ids.getD i.toNat (.int 0))
  idI ids i bad := if bad = true ∨ (ids.length : Int) ≤ i then i else i + 1
  idBad ids i bad := bad || decide ((ids.length : Int) ≤ i)
  idOk ids i := 0 ≤ i ∧ ids.length ≤ 9223372036854775807
  rd bits ids ws l a b i pl me bad := rdI bits ids ws l.toNat a ⟨b, i, pl, me, bad⟩
  rdOk n bits ids ws l a b i pl me := 0 ≤ l ∧ l < n ∧ l ≤ 40 ∧ l < ws.length ∧ 0 ≤ a ∧ a.toNat + 1 ≤ 2 ^ (40 - l.toNat) ∧ 0 ≤ b ∧ 0 ≤ i ∧ bits.length ≤ 9223372036854775807 ∧ ids.length ≤ 9223372036854775807 ∧ ws.length ≤ 64 ∧ pl.length + 2 ^ (l.toNat + 1) ≤ 1099511627776 ∧ me.length + 2 ^ (l.toNat + 1) ≤ 1099511627776
end Go.Eng
namespace Go.Proofs.Ytlbllaocdilafaa
open Go Go.Eng Go.Proofs Go.RowKit
attribute [local irreducible] CallOk HOk Run TIok rbin rcmp run1 updF shfF blitF
def hId (lf : LS') : HSpec := fun l bs => match l, bs with
  | [.one (.ptr 0 (.lit 0))], [⟨false, .lst [.int .i64 cnt, .dat .bool bits none, .dat (.arr .u8 32) ids none, .int .i64 b, .int .i64 i, .dat (.int .i64) ws none, .dat (.int .i64) pl (some 1), .dat (.arr .u8 32) me (some 2), .bool bad]⟩, ⟨false, .tail⟩, ⟨false, .tail⟩] => some (.a (aF .u8 32 (lf.idH ids i bad)), [⟨false, .lst [.int .i64 cnt, .dat .bool bits none, .dat (.arr .u8 32) ids none, .int .i64 b, .int .i64 (lf.idI ids i bad), .dat (.int .i64) ws none, .dat (.int .i64) pl (some 1), .dat (.arr .u8 32) me (some 2), .bool (lf.idBad ids i bad)]⟩, ⟨false, .tail⟩, ⟨false, .tail⟩], [lf.idOk ids i])
  | _, _ => none
def tby0 (lf : LS') : Tbl := tbL [] []
theorem tby0_ok : TblOk Try.prog (tby0 lsR') := tbL_ok nofun nofun
theorem id_ok : HOk Try.prog 86 (hId lsR') := by
  refine .of_run (hc := (tby0 lsR').hc) Try.func86 rfl (by kernel_rfl) (by kernel_rfl) fun las lbs v lbs' ps hs hp w => ?_
  unfold hId at hs
  split at hs
  · rename_i cnt bits ids b i ws pl me bad
    cases hs
    obtain ⟨hi0, hil⟩ : 0 ≤ i ∧ ids.length ≤ 9223372036854775807 := hp (lsR'.idOk ids i) (by simp)
    clear hp
    simp only [List.length_cons, List.length_nil]
    by_cases hb : bad = true ∨ (ids.length : Int) ≤ i
    · have e1 : lsR'.idH ids i bad = fun _ => 0 := if_pos hb
      have e2 : lsR'.idI ids i bad = i := if_pos hb
      have e3 : lsR'.idBad ids i bad = true := by
        show (bad || decide ((ids.length : Int) ≤ i)) = true
        rcases hb with hb | hb <;> simp [hb]
      rw [e1, e2, e3]
      cases bad with
      | true =>
        refine run_pa hmix ti_ok tby0_ok 999 false 400 [true] [2] [] (fun ar lf => by conv => lhs; cbv) (allP ?_) ?_
        · simp only [conj, and_true, Int.ofNat_eq_natCast, arR, rcmp_lss, rcmp_gtr, rcmp_geq, rcmp_eql, rcmp_neq, decide_eq_true_eq, decide_eq_false_iff_not]
        · exact Run.ret ti_ok rfl rfl (HEnd.pack [0, 1, 2] rfl rfl rfl rfl)
      | false =>
        have hb := hb.resolve_left (by simp)
        refine run_pa hmix ti_ok tby0_ok 999 false 400 [false, true] [2] [] (fun ar lf => by conv => lhs; cbv) (allP ?_) ?_
        · simp only [conj, and_true, Int.ofNat_eq_natCast, arR, rcmp_lss, rcmp_gtr, rcmp_geq, rcmp_eql, rcmp_neq, decide_eq_true_eq, decide_eq_false_iff_not]
          ((repeat' with_reducible apply And.intro) <;> first | omega | assumption | rfl | trivial)
        · exact Run.ret ti_ok rfl rfl (HEnd.pack [0, 1, 2] rfl rfl rfl rfl)
    · obtain ⟨hb1, hb2⟩ := not_or.1 hb
      have hb1 : bad = false := by simpa using hb1
      subst hb1
      have f1 : rbin .add .i64 i 1 = i + 1 := addi (by omega) (by omega)
      have f2 : rbin .sub .i64 (i + 1) 1 = i := by rw [subi (by omega) (by omega)]; omega
      have e1 : lsR'.idH ids i false = arR.dRow (ids.getD i.toNat (.int 0)) := if_neg hb
      have e2 : lsR'.idI ids i false = i + 1 := if_neg hb
      have e3 : lsR'.idBad ids i false = false := by
        show (false || decide ((ids.length : Int) ≤ i)) = false
        simp; omega
      rw [e1, e2, e3]
      refine run_pa hmix ti_ok tby0_ok 999 false 400 [false, false] [2] [] (fun ar lf => by conv => lhs; cbv) (allP ?_) ?_
      · simp only [conj, and_true, Int.ofNat_eq_natCast, arR, rcmp_lss, rcmp_gtr, rcmp_geq, rcmp_eql, rcmp_neq, decide_eq_true_eq, decide_eq_false_iff_not, f1, f2]
        ((repeat' with_reducible apply And.intro) <;> first | omega | assumption | rfl | trivial)
      · refine Run.ret ti_ok rfl rfl (HEnd.pack [0, 1, 2] rfl rfl ?_ ?_)
        · simp only [arR, f1]; rfl
        · simp only [arR, f1, f2]; rfl
  · cases hs
def hRead (n : Nat) (lf : LS') : HSpec := fun l bs => match l, bs with
  | [.one (.ptr 0 (.lit 0)), b', c'], [⟨false, .lst [.int .i64 cnt, .dat .bool bits none, .dat (.arr .u8 32) ids none, .int .i64 b, .int .i64 i, .dat (.int .i64) ws none, .dat (.int .i64) pl (some 1), .dat (.arr .u8 32) me (some 2), .bool bad]⟩, ⟨false, .tail⟩, ⟨false, .tail⟩] => match numA .i64 b', numA .i64 c' with
    | some lev, some at_ => some (.a (aF .u8 32 (lf.rd bits ids ws lev at_ b i pl me bad).2), [⟨false, .lst [.int .i64 cnt, .dat .bool bits none, .dat (.arr .u8 32) ids none, .int .i64 (lf.rd bits ids ws lev at_ b i pl me bad).1.b, .int .i64 (lf.rd bits ids ws lev at_ b i pl me bad).1.i, .dat (.int .i64) ws none, .dat (.int .i64) (lf.rd bits ids ws lev at_ b i pl me bad).1.pl (some 3), .dat (.arr .u8 32) (lf.rd bits ids ws lev at_ b i pl me bad).1.me (some 4), .bool (lf.rd bits ids ws lev at_ b i pl me bad).1.bad]⟩, ⟨true, .dead⟩, ⟨true, .dead⟩, ⟨false, .tail⟩, ⟨false, .tail⟩], [lf.rdOk n bits ids ws lev at_ b i pl me])
    | _, _ => none
  | _, _ => none
theorem hRead_norm (n : Nat) (lf : LS') : ∀ l bs r, hRead n lf l bs = some r → hRead n lf (l.map A.norm) bs = some r := by
  intro l bs r h
  unfold hRead at h ⊢
  split at h
  · rename_i b' c' cnt bits ids b i ws pl me bad
    split at h
    · rename_i lev at_ h1 h2
      simp only [List.map_cons, List.map_nil, show A.norm (.one (.ptr 0 (.lit 0))) = .one (.ptr 0 (.lit 0)) from rfl, numA_norm h1, numA_norm h2]; exact h
    · cases h
  · cases h
def tby (n : Nat) (lf : LS') : Tbl := tbL [(21, sPair lf.toLK)] [(86, hId lf), (56, hRead n lf)]
set_option maxRecDepth 100000 in
set_option maxHeartbeats 4000000 in
theorem read_ok (n : Nat) : HOk Try.prog 56 (hRead n lsR') := by
  induction n with
  | zero =>
    refine .of_run (hc := (tby0 lsR').hc) Try.func56 rfl (by kernel_rfl) (by kernel_rfl) fun las lbs v lbs' ps hs hp w => ?_
    unfold hRead at hs
    split at hs
    · split at hs
      · cases hs
        have := hp _ (List.mem_singleton.2 rfl)
        exact absurd this.2.1 (by have := this.1; omega)
      · cases hs
    · cases hs
  | succ n ihn =>
    have tby_ok : TblOk Try.prog (tby n lsR') := tbL_ok (List.forall_mem_cons.2 ⟨pair_ok, nofun⟩) (List.forall_mem_cons.2 ⟨id_ok, List.forall_mem_cons.2 ⟨ihn, nofun⟩⟩)
    refine .nrm (hRead_norm _ _) ?_
    refine .of_run (hc := (tby n lsR').hc) Try.func56 rfl (by kernel_rfl) (by kernel_rfl) fun las lbs v lbs' ps hs hp w => ?_
    split at hs
    · rename_i hn
      unfold hRead at hs
      split at hs
      · rename_i b' c' cnt bits ids b i ws pl me bad
        split at hs
        · rename_i lev at_ e1 e2
          simp only [List.map_cons, List.map_nil, List.cons.injEq, and_true, true_and] at hn
          obtain rfl := numA_int e1 hn.2.1
          obtain rfl := numA_int e2 hn.2.2
          cases hs
          obtain ⟨hl0, hln, hl40, hlw, ha0, ha1, hb0, hi0, hbl, hil, hwl, hpl, hml⟩ : 0 ≤ lev ∧ lev < (n + 1 : Nat) ∧ lev ≤ 40 ∧ lev < ws.length ∧ 0 ≤ at_ ∧ at_.toNat + 1 ≤ 2 ^ (40 - lev.toNat) ∧ 0 ≤ b ∧ 0 ≤ i ∧ bits.length ≤ 9223372036854775807 ∧ ids.length ≤ 9223372036854775807 ∧ ws.length ≤ 64 ∧ pl.length + 2 ^ (lev.toNat + 1) ≤ 1099511627776 ∧ me.length + 2 ^ (lev.toNat + 1) ≤ 1099511627776 := hp (lsR'.rdOk (n + 1) bits ids ws lev at_ b i pl me) (by simp)
          clear hp hn e1 e2
          have h40 : 2 ^ (40 - lev.toNat) ≤ 1099511627776 := Nat.le_trans (Nat.pow_le_pow_right (by decide) (by omega : 40 - lev.toNat ≤ 40)) (by decide)
          have hone : 1 ≤ 2 ^ (lev.toNat + 1) := Nat.one_le_two_pow
          simp only [List.length_cons, List.length_nil]
          have hrd : ∀ bad, lsR'.rd bits ids ws lev at_ b i pl me bad = rdI bits ids ws lev.toNat at_ ⟨b, i, pl, me, bad⟩ := fun _ => rfl
          by_cases hbad : bad = true ∨ (bits.length : Int) ≤ b
          · have eR : lsR'.rd bits ids ws lev at_ b i pl me bad = (⟨b, i, pl, me, true⟩, fun _ => 0) := by
              rw [hrd]
              cases lev.toNat <;> (unfold rdI; rw [if_pos hbad])
            rw [eR]
            cases bad with
            | true =>
              refine run_pa hmix ti_ok tby_ok 999 false 400 [true] [6] [] (fun ar lf => by conv => lhs; cbv) (allP ?_) ?_
              · simp only [conj, and_true, Int.ofNat_eq_natCast, arR, rcmp_lss, rcmp_gtr, rcmp_geq, rcmp_eql, rcmp_neq, decide_eq_true_eq, decide_eq_false_iff_not]
              · refine Run.retail 1 rfl (Nat.le_of_ble_eq_true rfl) ?_
                refine Run.retail 2 rfl (Nat.le_of_ble_eq_true rfl) ?_
                exact Run.ret ti_ok rfl rfl (HEnd.pack [0, 1, 2, 4, 5] rfl rfl rfl rfl)
            | false =>
              have hb2 := hbad.resolve_left (by simp)
              refine run_pa hmix ti_ok tby_ok 999 false 400 [false, true] [6] [] (fun ar lf => by conv => lhs; cbv) (allP ?_) ?_
              · simp only [conj, and_true, Int.ofNat_eq_natCast, arR, rcmp_lss, rcmp_gtr, rcmp_geq, rcmp_eql, rcmp_neq, decide_eq_true_eq, decide_eq_false_iff_not]
                ((repeat' with_reducible apply And.intro) <;> first | omega | assumption | rfl | trivial)
              · refine Run.retail 1 rfl (Nat.le_of_ble_eq_true rfl) ?_
                refine Run.retail 2 rfl (Nat.le_of_ble_eq_true rfl) ?_
                exact Run.ret ti_ok rfl rfl (HEnd.pack [0, 1, 2, 4, 5] rfl rfl rfl rfl)
          · obtain ⟨hb1, hb2⟩ := not_or.1 hbad
            have hb1 : bad = false := by simpa using hb1
            subst hb1
            have f1 : rbin .add .i64 b 1 = b + 1 := addi (by omega) (by omega)
            cases hm : (bits.getD b.toNat (.int 0)).bool! with
            | false =>
              have eR : lsR'.rd bits ids ws lev at_ b i pl me false = leafI ids at_ false ⟨b + 1, i, pl, me, false⟩ := by
                rw [hrd]
                cases lev.toNat with
                | zero => unfold rdI; rw [if_neg hbad, hm]
                | succ l => unfold rdI; rw [if_neg hbad, if_neg (by rw [hm]; simp)]
              rw [eR]
              by_cases hlev : lev = 0
              · -- the lowest level
                by_cases hli : (ids.length : Int) ≤ i
                · have eL : leafI ids at_ false ⟨b + 1, i, pl, me, false⟩ = (⟨b + 1, i, pl, me, true⟩, fun _ => 0) := if_pos hli
                  rw [eL]
                  have hc : false = true ∨ (ids.length : Int) ≤ i := .inr hli
                  refine run_pa hmix ti_ok tby_ok 999 false 400 [false, false, true, false] [6] [] (fun ar lf => by conv => lhs; cbv) (allP ?_) ?_
                  · simp only [conj, and_true, Int.ofNat_eq_natCast, arR, rcmp_lss, rcmp_gtr, rcmp_geq, rcmp_eql, rcmp_neq, decide_eq_true_eq, decide_eq_false_iff_not, lsR', f1, hm, Bool.not_false, Bool.not_true, List.length_cons, List.length_nil, maxLen]
                    ((repeat' with_reducible apply And.intro) <;> first | omega | assumption | rfl | trivial)
                  · refine Run.retail 1 rfl (Nat.le_of_ble_eq_true rfl) ?_
                    refine Run.retail 2 rfl (Nat.le_of_ble_eq_true rfl) ?_
                    refine Run.ret ti_ok rfl rfl (HEnd.pack [0, 1, 2, 4, 5] rfl rfl ?_ ?_) <;>
                      (simp only [Int.ofNat_eq_natCast, arR, lsR', f1, if_pos hc, decide_eq_true hli, Bool.false_or]; rfl)
                · have eL : leafI ids at_ false ⟨b + 1, i, pl, me, false⟩ = (⟨b + 1, i + 1, pl, me, false⟩, arR.dRow (ids.getD i.toNat (.int 0))) := if_neg hli
                  rw [eL]
                  have hc : ¬ (false = true ∨ (ids.length : Int) ≤ i) := by simp; omega
                  refine run_pa hmix ti_ok tby_ok 999 false 400 [false, false, true, false] [6] [] (fun ar lf => by conv => lhs; cbv) (allP ?_) ?_
                  · simp only [conj, and_true, Int.ofNat_eq_natCast, arR, rcmp_lss, rcmp_gtr, rcmp_geq, rcmp_eql, rcmp_neq, decide_eq_true_eq, decide_eq_false_iff_not, lsR', f1, hm, Bool.not_false, Bool.not_true, List.length_cons, List.length_nil, maxLen]
                    ((repeat' with_reducible apply And.intro) <;> first | omega | assumption | rfl | trivial)
                  · refine Run.retail 1 rfl (Nat.le_of_ble_eq_true rfl) ?_
                    refine Run.retail 2 rfl (Nat.le_of_ble_eq_true rfl) ?_
                    refine Run.ret ti_ok rfl rfl (HEnd.pack [0, 1, 2, 4, 5] rfl rfl ?_ ?_) <;>
                      (simp only [Int.ofNat_eq_natCast, arR, lsR', f1, if_neg hc, decide_eq_false hli, Bool.false_or]; rfl)
              · -- nothing is meant beneath
                by_cases hli : (ids.length : Int) ≤ i
                · have eL : leafI ids at_ false ⟨b + 1, i, pl, me, false⟩ = (⟨b + 1, i, pl, me, true⟩, fun _ => 0) := if_pos hli
                  rw [eL]
                  have hc : false = true ∨ (ids.length : Int) ≤ i := .inr hli
                  refine run_pa hmix ti_ok tby_ok 999 false 400 [false, false, false, true, false] [6] [] (fun ar lf => by conv => lhs; cbv) (allP ?_) ?_
                  · simp only [conj, and_true, Int.ofNat_eq_natCast, arR, rcmp_lss, rcmp_gtr, rcmp_geq, rcmp_eql, rcmp_neq, decide_eq_true_eq, decide_eq_false_iff_not, lsR', f1, hm, Bool.not_false, Bool.not_true, List.length_cons, List.length_nil, maxLen]
                    ((repeat' with_reducible apply And.intro) <;> first | omega | assumption | rfl | trivial)
                  · refine Run.retail 1 rfl (Nat.le_of_ble_eq_true rfl) ?_
                    refine Run.retail 2 rfl (Nat.le_of_ble_eq_true rfl) ?_
                    refine Run.ret ti_ok rfl rfl (HEnd.pack [0, 1, 2, 4, 5] rfl rfl ?_ ?_) <;>
                      (simp only [Int.ofNat_eq_natCast, arR, lsR', f1, if_pos hc, decide_eq_true hli, Bool.false_or]; rfl)
                · have eL : leafI ids at_ false ⟨b + 1, i, pl, me, false⟩ = (⟨b + 1, i + 1, pl, me, false⟩, arR.dRow (ids.getD i.toNat (.int 0))) := if_neg hli
                  rw [eL]
                  have hc : ¬ (false = true ∨ (ids.length : Int) ≤ i) := by simp; omega
                  refine run_pa hmix ti_ok tby_ok 999 false 400 [false, false, false, true, false] [6] [] (fun ar lf => by conv => lhs; cbv) (allP ?_) ?_
                  · simp only [conj, and_true, Int.ofNat_eq_natCast, arR, rcmp_lss, rcmp_gtr, rcmp_geq, rcmp_eql, rcmp_neq, decide_eq_true_eq, decide_eq_false_iff_not, lsR', f1, hm, Bool.not_false, Bool.not_true, List.length_cons, List.length_nil, maxLen]
                    ((repeat' with_reducible apply And.intro) <;> first | omega | assumption | rfl | trivial)
                  · refine Run.retail 1 rfl (Nat.le_of_ble_eq_true rfl) ?_
                    refine Run.retail 2 rfl (Nat.le_of_ble_eq_true rfl) ?_
                    refine Run.ret ti_ok rfl rfl (HEnd.pack [0, 1, 2, 4, 5] rfl rfl ?_ ?_) <;>
                      (simp only [Int.ofNat_eq_natCast, arR, lsR', f1, if_neg hc, decide_eq_false hli, Bool.false_or]; rfl)
            | true =>
              by_cases hlev : lev = 0
              · have eR : lsR'.rd bits ids ws lev at_ b i pl me false = leafI ids at_ true ⟨b + 1, i, pl, me, false⟩ := by
                  rw [hrd, show lev.toNat = 0 by omega]
                  unfold rdI; rw [if_neg hbad, hm]
                rw [eR]
                by_cases hli : (ids.length : Int) ≤ i
                · have eL : leafI ids at_ true ⟨b + 1, i, pl, me, false⟩ = (⟨b + 1, i, pl ++ [.int at_], me ++ [rowD fun _ => 0], true⟩, fun _ => 0) := if_pos hli
                  rw [eL]
                  have hc : false = true ∨ (ids.length : Int) ≤ i := .inr hli
                  refine run_pa hmix ti_ok tby_ok 999 false 400 [false, false, true, true] [6] [] (fun ar lf => by conv => lhs; cbv) (allP ?_) ?_
                  · simp only [conj, and_true, Int.ofNat_eq_natCast, arR, rcmp_lss, rcmp_gtr, rcmp_geq, rcmp_eql, rcmp_neq, decide_eq_true_eq, decide_eq_false_iff_not, lsR', f1, hm, Bool.not_false, Bool.not_true, List.length_cons, List.length_nil, maxLen]
                    ((repeat' with_reducible apply And.intro) <;> first | omega | assumption | rfl | trivial)
                  · refine Run.ret ti_ok rfl rfl (HEnd.pack [0, 1, 2, 4, 5] rfl rfl ?_ ?_) <;>
                      (simp only [Int.ofNat_eq_natCast, arR, lsR', f1, if_pos hc, decide_eq_true hli, Bool.false_or]; rfl)
                · have eL : leafI ids at_ true ⟨b + 1, i, pl, me, false⟩ = (⟨b + 1, i + 1, pl ++ [.int at_], me ++ [rowD (arR.dRow (ids.getD i.toNat (.int 0)))], false⟩, arR.dRow (ids.getD i.toNat (.int 0))) := if_neg hli
                  rw [eL]
                  have hc : ¬ (false = true ∨ (ids.length : Int) ≤ i) := by simp; omega
                  refine run_pa hmix ti_ok tby_ok 999 false 400 [false, false, true, true] [6] [] (fun ar lf => by conv => lhs; cbv) (allP ?_) ?_
                  · simp only [conj, and_true, Int.ofNat_eq_natCast, arR, rcmp_lss, rcmp_gtr, rcmp_geq, rcmp_eql, rcmp_neq, decide_eq_true_eq, decide_eq_false_iff_not, lsR', f1, hm, Bool.not_false, Bool.not_true, List.length_cons, List.length_nil, maxLen]
                    ((repeat' with_reducible apply And.intro) <;> first | omega | assumption | rfl | trivial)
                  · refine Run.ret ti_ok rfl rfl (HEnd.pack [0, 1, 2, 4, 5] rfl rfl ?_ ?_) <;>
                      (simp only [Int.ofNat_eq_natCast, arR, lsR', f1, if_neg hc, decide_eq_false hli, Bool.false_or]; rfl)
              · obtain ⟨l', hl'⟩ : ∃ l' : Nat, lev.toNat = l' + 1 := ⟨lev.toNat - 1, by omega⟩
                have f4 : rbin .sub .i64 lev 1 = lev - 1 := subi (by omega) (by omega)
                have f5 : rbin .mul .i64 2 at_ = 2 * at_ := muli (by omega) (by omega)
                have f6 : rbin .add .i64 (2 * at_) 1 = 2 * at_ + 1 := addi (by omega) (by omega)
                have n1 : (lev - 1).toNat = l' := by omega
                have hpw : 2 ^ (l' + 1 + 1) = 2 ^ (l' + 1) + 2 ^ (l' + 1) := by rw [Nat.pow_succ]; omega
                have hpw0 : 2 ^ (l' + 1) = 2 ^ l' + 2 ^ l' := by rw [Nat.pow_succ]; omega
                have hpw1 : 1 ≤ 2 ^ l' := Nat.one_le_two_pow
                have hpa : 2 ^ (40 - l') = 2 ^ (40 - (l' + 1)) + 2 ^ (40 - (l' + 1)) := by
                  rw [show 40 - l' = (40 - (l' + 1)) + 1 by omega, Nat.pow_succ]; omega
                have hx0 : rdI bits ids ws l' (2 * at_) ⟨b + 1, i, pl, me, false⟩ = rdI bits ids ws l' (2 * at_) ⟨b + 1, i, pl, me, false⟩ := rfl
                rw [hl'] at hpl hml ha1
                obtain ⟨x1, x2, x3, x4⟩ := rdI_facts bits ids ws l' (2 * at_) ⟨b + 1, i, pl, me, false⟩
                simp only at x1 x2 x3 x4
                have eX : lsR'.rd bits ids ws (lev - 1) (2 * at_) (b + 1) i pl me false = rdI bits ids ws l' (2 * at_) ⟨b + 1, i, pl, me, false⟩ := by
                  show rdI bits ids ws (lev - 1).toNat _ _ = _
                  rw [n1]
                have eR0 : lsR'.rd bits ids ws lev at_ b i pl me false = rdI bits ids ws (l' + 1) at_ ⟨b, i, pl, me, false⟩ := by
                  rw [hrd, hl']
                by_cases hr : (ws.getD l' (.int 0)).int! ≤ 2 * at_ + 1
                · have eR : lsR'.rd bits ids ws lev at_ b i pl me false = ((rdI bits ids ws l' (2 * at_) ⟨b + 1, i, pl, me, false⟩).1, prF (rdI bits ids ws l' (2 * at_) ⟨b + 1, i, pl, me, false⟩).2 (rdI bits ids ws l' (2 * at_) ⟨b + 1, i, pl, me, false⟩).2) := by
                    rw [eR0]
                    conv => lhs; unfold rdI
                    rw [if_neg hbad, if_pos hm]
                    simp only
                    rw [if_pos hr]
                  rw [eR]
                  refine run_pa hmix ti_ok tby_ok 999 false 400 [false, false, false, false, true] [6] [] (fun ar lf => by conv => lhs; cbv) (allP ?_) ?_
                  · simp only [conj, and_true, Int.ofNat_eq_natCast, arR, rcmp_lss, rcmp_gtr, rcmp_geq, rcmp_eql, rcmp_neq, decide_eq_true_eq, decide_eq_false_iff_not, lsR', lsR', lrR, lqR, loR, lnR, lkR, ltR, lpR, lhR, f1, f4, f5, f6, n1, hm, Int.toNat_natCast, List.length_append, List.length_cons, List.length_nil, maxLen, Bool.not_true]
                    ((repeat' with_reducible apply And.intro) <;> first | omega | assumption | rfl | trivial)
                  · refine Run.ret ti_ok rfl rfl (HEnd.pack [0, 1, 2, 4, 5] rfl rfl ?_ ?_) <;>
                      (simp only [Int.ofNat_eq_natCast, arR, f1, f4, f5, f6, eX]; rfl)
                · have eR : lsR'.rd bits ids ws lev at_ b i pl me false = (⟨(rdI bits ids ws l' (2 * at_ + 1) (rdI bits ids ws l' (2 * at_) ⟨b + 1, i, pl, me, false⟩).1).1.b, (rdI bits ids ws l' (2 * at_ + 1) (rdI bits ids ws l' (2 * at_) ⟨b + 1, i, pl, me, false⟩).1).1.i, (rdI bits ids ws l' (2 * at_ + 1) (rdI bits ids ws l' (2 * at_) ⟨b + 1, i, pl, me, false⟩).1).1.pl, (rdI bits ids ws l' (2 * at_ + 1) (rdI bits ids ws l' (2 * at_) ⟨b + 1, i, pl, me, false⟩).1).1.me, (rdI bits ids ws l' (2 * at_ + 1) (rdI bits ids ws l' (2 * at_) ⟨b + 1, i, pl, me, false⟩).1).1.bad || eqF (rdI bits ids ws l' (2 * at_) ⟨b + 1, i, pl, me, false⟩).2 (rdI bits ids ws l' (2 * at_ + 1) (rdI bits ids ws l' (2 * at_) ⟨b + 1, i, pl, me, false⟩).1).2⟩, prF (rdI bits ids ws l' (2 * at_) ⟨b + 1, i, pl, me, false⟩).2 (rdI bits ids ws l' (2 * at_ + 1) (rdI bits ids ws l' (2 * at_) ⟨b + 1, i, pl, me, false⟩).1).2) := by
                    rw [eR0]
                    conv => lhs; unfold rdI
                    rw [if_neg hbad, if_pos hm]
                    simp only
                    rw [if_neg hr]
                  rw [eR]
                  have eY : lsR'.rd bits ids ws (lev - 1) (2 * at_ + 1) (rdI bits ids ws l' (2 * at_) ⟨b + 1, i, pl, me, false⟩).1.b (rdI bits ids ws l' (2 * at_) ⟨b + 1, i, pl, me, false⟩).1.i (rdI bits ids ws l' (2 * at_) ⟨b + 1, i, pl, me, false⟩).1.pl (rdI bits ids ws l' (2 * at_) ⟨b + 1, i, pl, me, false⟩).1.me (rdI bits ids ws l' (2 * at_) ⟨b + 1, i, pl, me, false⟩).1.bad = rdI bits ids ws l' (2 * at_ + 1) (rdI bits ids ws l' (2 * at_) ⟨b + 1, i, pl, me, false⟩).1 := by
                    show rdI bits ids ws (lev - 1).toNat _ _ = _
                    rw [n1]
                  clear eR eR0 hrd
                  generalize hX : rdI bits ids ws l' (2 * at_) ⟨b + 1, i, pl, me, false⟩ = x at *
                  obtain ⟨⟨xb, xi, xpl, xme, xbad⟩, xh⟩ := x
                  generalize hY : rdI bits ids ws l' (2 * at_ + 1) ⟨xb, xi, xpl, xme, xbad⟩ = y at *
                  obtain ⟨⟨yb, yi, ypl, yme, ybad⟩, yh⟩ := y
                  simp only at x1 x2 x3 x4 eX eY
                  cases ybad with
                  | true =>
                    refine run_pa hmix ti_ok tby_ok 999 false 400 [false, false, false, false, false, true] [6] [] (fun ar lf => by conv => lhs; cbv) (allP ?_) ?_
                    · simp only [conj, and_true, Int.ofNat_eq_natCast, arR, rcmp_lss, rcmp_gtr, rcmp_geq, rcmp_eql, rcmp_neq, decide_eq_true_eq, decide_eq_false_iff_not, lsR', lsR', lrR, lqR, loR, lnR, lkR, ltR, lpR, lhR, f1, f4, f5, f6, n1, hm, hX, hY, Int.toNat_natCast, List.length_append, List.length_cons, List.length_nil, maxLen, Bool.not_true]
                      ((repeat' with_reducible apply And.intro) <;> first | omega | assumption | rfl | trivial)
                    · refine Run.ret ti_ok rfl rfl (HEnd.pack [0, 1, 2, 4, 5] rfl rfl ?_ ?_) <;>
                        (simp only [Int.ofNat_eq_natCast, arR, f1, f4, f5, f6, eX, eY, Bool.true_or]; rfl)
                  | false =>
                    refine run_pa hmix ti_ok tby_ok 999 false 400 [false, false, false, false, false, false] [6] [] (fun ar lf => by conv => lhs; cbv) (allP ?_) ?_
                    · simp only [conj, and_true, Int.ofNat_eq_natCast, arR, rcmp_lss, rcmp_gtr, rcmp_geq, rcmp_eql, rcmp_neq, decide_eq_true_eq, decide_eq_false_iff_not, lsR', lsR', lrR, lqR, loR, lnR, lkR, ltR, lpR, lhR, f1, f4, f5, f6, n1, hm, hX, hY, Int.toNat_natCast, List.length_append, List.length_cons, List.length_nil, maxLen, Bool.not_true]
                      ((repeat' with_reducible apply And.intro) <;> first | omega | assumption | rfl | trivial)
                    · refine Run.ret ti_ok rfl rfl (HEnd.pack [0, 1, 2, 4, 5] rfl rfl ?_ ?_) <;>
                        (simp only [Int.ofNat_eq_natCast, arR, f1, f4, f5, f6, eX, eY, Bool.false_or]; rfl)
        · cases hs
      · cases hs
    · cases hs
end Go.Proofs.Ytlbllaocdilafaa
