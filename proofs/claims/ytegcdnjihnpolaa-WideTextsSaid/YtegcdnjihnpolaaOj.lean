import Derived.Test.YtegcdnjihnpolaaOd
import Derived.Test.YtegcdnjihnpolaaWx
set_option linter.unusedSimpArgs false
set_option linter.unusedVariables false
namespace Go.Proofs.Ytegcdnjihnpolaa
open Go Go.Eng Go.Proofs Go.RowKit
theorem dig_low {s : ByteArray} {i : Nat} (h : (((s[i]?.getD 0).toNat : Nat) : Int) < 48) : 10 ≤ pdig s i := by
  unfold pdig
  omega
theorem dig_high {s : ByteArray} {i : Nat} (h : (((s[i]?.getD 0).toNat : Nat) : Int) > 57) : 10 ≤ pdig s i := by
  have := UInt8.toNat_lt (s[i]?.getD 0)
  unfold pdig
  omega
theorem dig_good {s : ByteArray} {i : Nat} (h : ¬ (((s[i]?.getD 0).toNat : Nat) : Int) < 48) (h2 : ¬ (((s[i]?.getD 0).toNat : Nat) : Int) > 57) : ¬ 10 ≤ pdig s i := by
  unfold pdig
  omega
attribute [local irreducible] CallOk HOk Run Mid TIok rbin rcmp run1 words val updF shfF blitF strOf textOf ndig goP parseP pdig
theorem bad_p2 {s : ByteArray} {i : Nat} (h : parseP s = (0, (i : Int))) : (i : Int) = lpR.pat2 s := by
  show _ = (parseP s).2
  rw [h]
theorem hi_val2 {a : F} (ha : bd a) : ∀ j, j < 4 → lfR.wmulH a (fun j => if j = 0 then (10 : Int) else 0) j = words (val a * 10 / (115792089237316195423570985008687907853269984665640564039457584007913129639936 : Int)) j := by
  intro j hj
  show words (val a * val (fun j => if j = 0 then (10 : Int) else 0) / (115792089237316195423570985008687907853269984665640564039457584007913129639936 : Int)) j = _
  rw [val_ten]
theorem hi_bd2 (a : F) : bd (lfR.wmulH a (fun j => if j = 0 then (10 : Int) else 0)) := words_bd _
theorem hi_num {a : F} (ha : bd a) : val (lfR.wmulH a (fun j => if j = 0 then (10 : Int) else 0)) = val a * 10 / (115792089237316195423570985008687907853269984665640564039457584007913129639936 : Int) := by
  have h := val_bd ha
  rw [val_congr (hi_val2 ha)]
  exact val_words_of (by omega) (by omega)
theorem hi_yes2 {a : F} (ha : bd a) (h : (115792089237316195423570985008687907853269984665640564039457584007913129639936 : Int) ≤ val a * 10) : (!arR.lEq [(lfR.wmulH a (fun j => if j = 0 then (10 : Int) else 0)) 0, (lfR.wmulH a (fun j => if j = 0 then (10 : Int) else 0)) 1, (lfR.wmulH a (fun j => if j = 0 then (10 : Int) else 0)) 2, (lfR.wmulH a (fun j => if j = 0 then (10 : Int) else 0)) 3] [0, 0, 0, 0]) = true := by
  rw [eqb_zero (b := false) (hi_bd2 a) (by rw [hi_num ha]; exact decide_eq_false (by omega))]
  rfl
theorem hi_no2 {a : F} (ha : bd a) (h : ¬ (115792089237316195423570985008687907853269984665640564039457584007913129639936 : Int) ≤ val a * 10) : (!arR.lEq [(lfR.wmulH a (fun j => if j = 0 then (10 : Int) else 0)) 0, (lfR.wmulH a (fun j => if j = 0 then (10 : Int) else 0)) 1, (lfR.wmulH a (fun j => if j = 0 then (10 : Int) else 0)) 2, (lfR.wmulH a (fun j => if j = 0 then (10 : Int) else 0)) 3] [0, 0, 0, 0]) = false := by
  have h1 := val_bd ha
  rw [eqb_zero (b := true) (hi_bd2 a) (by rw [hi_num ha]; exact decide_eq_true (by omega))]
  rfl
theorem lo_val2 {a : F} (ha : bd a) (h : ¬ (115792089237316195423570985008687907853269984665640564039457584007913129639936 : Int) ≤ val a * 10) : val (lfR.wmulL a (fun j => if j = 0 then (10 : Int) else 0)) = val a * 10 := by
  have h1 := val_bd ha
  show val (words (val a * val (fun j => if j = 0 then (10 : Int) else 0))) = _
  rw [val_ten]
  exact val_words_of (by omega) (by omega)
theorem one_val (x : Int) : val (fun j => if j = 0 then x else 0) = x := by
  unfold val
  simp
theorem dig_val2 {d x : Int} (h : x = d) (h0 : 0 ≤ d ∧ d < 256) : val (fun j => if j = 0 then IntKind.u64.wrap x else 0) = d := by
  rw [one_val, h, wrap_u64, Int.emod_eq_of_lt h0.1 (by omega)]
theorem dig_bd2 {d x : Int} (h : x = d) (h0 : 0 ≤ d ∧ d < 256) : bd (fun j => if j = 0 then IntKind.u64.wrap x else 0) := by
  have e : IntKind.u64.wrap x = d := by rw [h, wrap_u64, Int.emod_eq_of_lt h0.1 (by omega)]
  rw [e]
  exact bd.of ⟨by simp only [if_pos]; omega, by simp only [if_pos]; omega⟩ (by simp) (by simp) (by simp)
theorem over_val2 {a : F} {d x : Int} (ha : bd a) (hx : x = d) (h0 : 0 ≤ d ∧ d < 256) (h : ¬ (115792089237316195423570985008687907853269984665640564039457584007913129639936 : Int) ≤ val a * 10) :
    lfR.waddB (lfR.wmulL a (fun j => if j = 0 then (10 : Int) else 0)) (fun j => if j = 0 then IntKind.u64.wrap x else 0) = decide ((115792089237316195423570985008687907853269984665640564039457584007913129639936 : Int) ≤ val a * 10 + d) := by
  show decide ((115792089237316195423570985008687907853269984665640564039457584007913129639936 : Int) ≤ val (lfR.wmulL a (fun j => if j = 0 then (10 : Int) else 0)) + val (fun j => if j = 0 then IntKind.u64.wrap x else 0)) = _
  rw [lo_val2 ha h, dig_val2 hx h0]
theorem sum_val2 {a : F} {d x : Int} (ha : bd a) (hx : x = d) (h0 : 0 ≤ d ∧ d < 256) (h : ¬ (115792089237316195423570985008687907853269984665640564039457584007913129639936 : Int) ≤ val a * 10) (h5 : ¬ (115792089237316195423570985008687907853269984665640564039457584007913129639936 : Int) ≤ val a * 10 + d) :
    val (lfR.wadd (lfR.wmulL a (fun j => if j = 0 then (10 : Int) else 0)) (fun j => if j = 0 then IntKind.u64.wrap x else 0)) = val a * 10 + d := by
  have h1 := val_bd ha
  show val (words (val (lfR.wmulL a (fun j => if j = 0 then (10 : Int) else 0)) + val (fun j => if j = 0 then IntKind.u64.wrap x else 0))) = _
  rw [lo_val2 ha h, dig_val2 hx h0]
  exact val_words_of (by omega) (by omega)
def tp2 (l : LP) : Tbl := tbL [(50, sMul l.lf), (27, sAdd l.lf)] []
theorem tp2_ok : TblOk Try.prog (tp2 lpR) := tbL_ok (by simpa [lplf] using ⟨rmul_ok, radd_ok⟩) (by simp)
set_option maxRecDepth 100000 in
theorem rparse_ok : CallOk Try.prog 95 (sParse2 lpR) := by
  refine .of_run (hc := (tp2 lpR).hc) Try.func95 rfl (by kernel_rfl) (by kernel_rfl) fun xs v ps hs hp w => ?_
  unfold sParse2 at hs
  split at hs
  · rename_i s h
    obtain rfl := str1_some h
    cases hs
    have hf : s.size ≤ 9223372036854775807 := hp (lpR.sfits s) (by simp)
    clear hp h
    refine run_ex hmix ti_ok tp2_ok 0 false 800 [] (fun ar lf => by conv => lhs; cbv) (allP ?_) ?_
    · trivial
    refine Run.cut [0, 2, 3, 4, 5] [5] 2 (by decide) rfl rfl ?_
    refine Run.loop (ι := {p : Nat × F // p.1 ≤ s.size ∧ bd p.2 ∧ (s.size ≠ 0 → parseP s = goP s (s.size - p.1) p.1 (val p.2))})
      (fun i => ([.a (.one (.str s)), .any, .a (.one (.ptr 0 (.lit 0))), .a (.one (.lit .i64 0)), .a (.one (.ptr 1 (.lit 0))), .a (.one (.int .i64 (i.1.1 : Nat)))] ++ List.replicate 62 .any,
        [some (K4 fun _ => 0), some (K4 i.1.2)]))
      (fun i => s.size - i.1.1) ⟨(0, fun _ => 0), Nat.zero_le _, bd_zero, fun h0 => ?_⟩ ?_
    · show parseP s = goP s s.size 0 (val fun _ => 0)
      unfold parseP
      rw [if_neg h0, val_zero0]
    rintro ⟨⟨i, a⟩, hi, ha, hP⟩ ih
    simp only at hi ha hP
    have hva := val_bd ha
    by_cases hn : s.size ≤ i
    · have o1 : rcmp .lss (i : Int) (s.size : Int) = false := by rw [rcmp_lss]; exact decide_eq_false (by omega)
      by_cases h0 : s.size = 0
      · have hb : parseP s = (0, ((0 : Nat) : Int)) := by unfold parseP; rw [if_pos h0]; rfl
        have o2 := str_empty h0
        refine run_ex hmix ti_ok tp2_ok 2 false 800 [false, true] (fun ar lf => by conv => lhs; cbv) (allP ?_) ?_
        · simp only [conj]
          repeat (first | exact trivial | refine ⟨by first | exact o1 | exact o2, ?_⟩)
        refine Run.ret ti_ok rfl rfl ?_
        exact .tup2 (.ints (bad_v hb)) (.lit (bad_p2 hb))
      · have o2 := str_some h0
        have hg : parseP s = (val a, -1) := by
          rw [hP h0, show s.size - i = 0 by omega]
          unfold goP; rfl
        refine run_ex hmix ti_ok tp2_ok 2 false 800 [false, false] (fun ar lf => by conv => lhs; cbv) (allP ?_) ?_
        · simp only [conj]
          repeat (first | exact trivial | refine ⟨by first | exact o1 | exact o2, ?_⟩)
        refine Run.ret ti_ok rfl rfl ?_
        refine .tup2 (.ints fun j hj => ?_) (.lit ?_)
        · show a j = words (parseP s).1 j
          rw [hg, words_val ha j hj]
        · show -1 = (parseP s).2
          rw [hg]
    have hlt : i < s.size := by omega
    have hk : s.size - i = (s.size - (i + 1)) + 1 := by omega
    have e := hP (by omega)
    rw [hk] at e
    have o1 : rcmp .lss (i : Int) (s.size : Int) = true := by rw [rcmp_lss]; exact decide_eq_true (by omega)
    have o2 : 0 ≤ (i : Int) ∧ (i : Int) < s.size := by omega
    have hdb := pdig_bd s i
    have hD : (rbin .sub .u8 (((s[i]?.getD 0).toNat : Nat) : Int) 48) = pdig s i := by rw [rbin_sub8]; unfold pdig; rfl
    have hba := ha
    have hbT : bd (fun j => if j = 0 then (10 : Int) else 0) := bd_ten
    have hbD : bd (fun j => if j = 0 then IntKind.u64.wrap (rbin .sub .u8 (((s[i]?.getD 0).toNat : Nat) : Int) 48) else 0) := dig_bd2 hD hdb
    have hbL : bd (lfR.wmulL a (fun j => if j = 0 then (10 : Int) else 0)) := words_bd _
    have hbH : bd (lfR.wmulH a (fun j => if j = 0 then (10 : Int) else 0)) := words_bd _
    by_cases hl : (((s[i]?.getD 0).toNat : Nat) : Int) < 48
    · have ol : rcmp .lss (((s[i]?.getD 0).toNat : Nat) : Int) 48 = true := by rw [rcmp_lss]; exact decide_eq_true hl
      have og := True.intro
      have oi := True.intro
      have oz := True.intro
      have oh := True.intro
      have ov := True.intro
      have hb : parseP s = (0, (i : Int)) := e.trans (go_bad (.inl (dig_low hl)))
      refine run_ex hmix ti_ok tp2_ok 2 false 800 [true, true] (fun ar lf => by conv => lhs; cbv) (allP ?_) ?_
      · simp only [conj]
        repeat (first | exact trivial | refine ⟨by first | exact o1 | exact o2 | exact hba | exact hbT | exact hbD | exact hbL | exact hbH | exact ol | exact og | exact oi | exact oz | exact oh | exact ov, ?_⟩)
      refine Run.ret ti_ok rfl rfl ?_
      exact .tup2 (.ints (bad_v hb)) (.int (bad_p2 hb))
    have ol : rcmp .lss (((s[i]?.getD 0).toNat : Nat) : Int) 48 = false := by rw [rcmp_lss]; exact decide_eq_false hl
    by_cases hgt : (((s[i]?.getD 0).toNat : Nat) : Int) > 57
    · have og : rcmp .gtr (((s[i]?.getD 0).toNat : Nat) : Int) 57 = true := by rw [rcmp_gtr]; exact decide_eq_true hgt
      have oi := True.intro
      have oz := True.intro
      have oh := True.intro
      have ov := True.intro
      have hb : parseP s = (0, (i : Int)) := e.trans (go_bad (.inl (dig_high hgt)))
      refine run_ex hmix ti_ok tp2_ok 2 false 800 [true, false, true] (fun ar lf => by conv => lhs; cbv) (allP ?_) ?_
      · simp only [conj]
        repeat (first | exact trivial | refine ⟨by first | exact o1 | exact o2 | exact hba | exact hbT | exact hbD | exact hbL | exact hbH | exact ol | exact og | exact oi | exact oz | exact oh | exact ov, ?_⟩)
      refine Run.ret ti_ok rfl rfl ?_
      exact .tup2 (.ints (bad_v hb)) (.int (bad_p2 hb))
    have og : rcmp .gtr (((s[i]?.getD 0).toNat : Nat) : Int) 57 = false := by rw [rcmp_gtr]; exact decide_eq_false hgt
    have h1 : ¬ 10 ≤ pdig s i := dig_good hl hgt
    by_cases h2 : 0 < i
    · have oi : rcmp .gtr (i : Int) 0 = true := by rw [rcmp_gtr]; exact decide_eq_true (by omega)
      by_cases h3 : val a = 0
      · have oz := eqb_zero ha (decide_eq_true h3)
        have oh := True.intro
        have ov := True.intro
        have hb : parseP s = (0, (i : Int)) := e.trans (go_bad (.inr (.inl ⟨h2, h3⟩)))
        refine run_ex hmix ti_ok tp2_ok 2 false 800 [true, false, false, true, true] (fun ar lf => by conv => lhs; cbv) (allP ?_) ?_
        · simp only [conj]
          repeat (first | exact trivial | refine ⟨by first | exact o1 | exact o2 | exact hba | exact hbT | exact hbD | exact hbL | exact hbH | exact ol | exact og | exact oi | exact oz | exact oh | exact ov, ?_⟩)
        refine Run.ret ti_ok rfl rfl ?_
        exact .tup2 (.ints (bad_v hb)) (.int (bad_p2 hb))
      have oz := eqb_zero ha (decide_eq_false h3)
      by_cases h4 : (115792089237316195423570985008687907853269984665640564039457584007913129639936 : Int) ≤ val a * 10
      · have oh := hi_yes2 ha h4
        cases ov : lfR.waddB (lfR.wmulL a (fun j => if j = 0 then (10 : Int) else 0)) (fun j => if j = 0 then IntKind.u64.wrap (rbin .sub .u8 (((s[i]?.getD 0).toNat : Nat) : Int) 48) else 0) with
        | true =>
          have hb : parseP s = (0, (i : Int)) := e.trans (go_bad (.inr (.inr (by have := pdig_bd s i; omega))))
          refine run_ex hmix ti_ok tp2_ok 2 false 800 [true, false, false, true, false, true] (fun ar lf => by conv => lhs; cbv) (allP ?_) ?_
          · simp only [conj]
            repeat (first | exact trivial | refine ⟨by first | exact o1 | exact o2 | exact hba | exact hbT | exact hbD | exact hbL | exact hbH | exact ol | exact og | exact oi | exact oz | exact oh | exact ov, ?_⟩)
          refine Run.ret ti_ok rfl rfl ?_
          exact .tup2 (.ints (bad_v hb)) (.int (bad_p2 hb))
        | false =>
          have hb : parseP s = (0, (i : Int)) := e.trans (go_bad (.inr (.inr (by have := pdig_bd s i; omega))))
          refine run_ex hmix ti_ok tp2_ok 2 false 800 [true, false, false, true, false, false, true] (fun ar lf => by conv => lhs; cbv) (allP ?_) ?_
          · simp only [conj]
            repeat (first | exact trivial | refine ⟨by first | exact o1 | exact o2 | exact hba | exact hbT | exact hbD | exact hbL | exact hbH | exact ol | exact og | exact oi | exact oz | exact oh | exact ov, ?_⟩)
          refine Run.ret ti_ok rfl rfl ?_
          exact .tup2 (.ints (bad_v hb)) (.int (bad_p2 hb))
      have oh := hi_no2 ha h4
      by_cases h5 : (115792089237316195423570985008687907853269984665640564039457584007913129639936 : Int) ≤ val a * 10 + pdig s i
      · have ov := (over_val2 ha hD hdb h4).trans (decide_eq_true h5)
        have hb : parseP s = (0, (i : Int)) := e.trans (go_bad (.inr (.inr h5)))
        refine run_ex hmix ti_ok tp2_ok 2 false 800 [true, false, false, true, false, true] (fun ar lf => by conv => lhs; cbv) (allP ?_) ?_
        · simp only [conj]
          repeat (first | exact trivial | refine ⟨by first | exact o1 | exact o2 | exact hba | exact hbT | exact hbD | exact hbL | exact hbH | exact ol | exact og | exact oi | exact oz | exact oh | exact ov, ?_⟩)
        refine Run.ret ti_ok rfl rfl ?_
        exact .tup2 (.ints (bad_v hb)) (.int (bad_p2 hb))
      have ov := (over_val2 ha hD hdb h4).trans (decide_eq_false h5)
      have hsum := sum_val2 ha hD hdb h4 h5
      have hg : ¬ pbad s i (val a) := by rintro (h | h | h) <;> first | exact h1 h | exact h3 h.2 | exact h5 h
      refine run_ex hmix ti_ok tp2_ok 2 false 800 [true, false, false, true, false, false, false] (fun ar lf => by conv => lhs; cbv) (allP ?_) ?_
      · simp only [conj]
        repeat (first | exact trivial | refine ⟨by first | exact o1 | exact o2 | exact hba | exact hbT | exact hbD | exact hbL | exact hbH | exact ol | exact og | exact oi | exact oz | exact oh | exact ov, ?_⟩)
      refine Run.pack [0, 1] [0, 2, 3, 4, 5] (bs := [K4 (fun _ => 0), K4 (lfR.wadd (lfR.wmulL a (fun j => if j = 0 then (10 : Int) else 0)) (fun j => if j = 0 then IntKind.u64.wrap (rbin .sub .u8 (((s[i]?.getD 0).toNat : Nat) : Int) 48) else 0))]) (by decide) rfl rfl ?_
      refine Run.fam3 (ι := {z : Int // z = ((i + 1 : Nat) : Int)}) (fun z => ([.a (.one (.str s)), .any, .a (.one (.ptr 0 (.lit 0))), .a (.one (.lit .i64 0)), .a (.one (.ptr 1 (.lit 0))), .a (.one (.int .i64 z.1))] ++ List.replicate 62 .any, [some (K4 fun _ => 0), some (K4 (lfR.wadd (lfR.wmulL a (fun j => if j = 0 then (10 : Int) else 0)) (fun j => if j = 0 then IntKind.u64.wrap (rbin .sub .u8 (((s[i]?.getD 0).toNat : Nat) : Int) 48) else 0)))])) ⟨_, rbin_addi (x := (i : Int)) (y := 1) (by omega)⟩ ?_
      rintro ⟨z, rfl⟩
      refine ih ⟨(i + 1, _), by simp only; omega, ?_, ?_⟩ ?_ _ _
      · exact words_bd _
      · intro hs0; rw [hP hs0, hk, go_on hg]; congr 1; exact hsum.symm
      · show s.size - (i + 1) < s.size - i; omega
    · have oi : rcmp .gtr (i : Int) 0 = false := by rw [rcmp_gtr]; exact decide_eq_false (by omega)
      have oz := True.intro
      by_cases h4 : (115792089237316195423570985008687907853269984665640564039457584007913129639936 : Int) ≤ val a * 10
      · have oh := hi_yes2 ha h4
        cases ov : lfR.waddB (lfR.wmulL a (fun j => if j = 0 then (10 : Int) else 0)) (fun j => if j = 0 then IntKind.u64.wrap (rbin .sub .u8 (((s[i]?.getD 0).toNat : Nat) : Int) 48) else 0) with
        | true =>
          have hb : parseP s = (0, (i : Int)) := e.trans (go_bad (.inr (.inr (by have := pdig_bd s i; omega))))
          refine run_ex hmix ti_ok tp2_ok 2 false 800 [true, false, false, false, true] (fun ar lf => by conv => lhs; cbv) (allP ?_) ?_
          · simp only [conj]
            repeat (first | exact trivial | refine ⟨by first | exact o1 | exact o2 | exact hba | exact hbT | exact hbD | exact hbL | exact hbH | exact ol | exact og | exact oi | exact oz | exact oh | exact ov, ?_⟩)
          refine Run.ret ti_ok rfl rfl ?_
          exact .tup2 (.ints (bad_v hb)) (.int (bad_p2 hb))
        | false =>
          have hb : parseP s = (0, (i : Int)) := e.trans (go_bad (.inr (.inr (by have := pdig_bd s i; omega))))
          refine run_ex hmix ti_ok tp2_ok 2 false 800 [true, false, false, false, false, true] (fun ar lf => by conv => lhs; cbv) (allP ?_) ?_
          · simp only [conj]
            repeat (first | exact trivial | refine ⟨by first | exact o1 | exact o2 | exact hba | exact hbT | exact hbD | exact hbL | exact hbH | exact ol | exact og | exact oi | exact oz | exact oh | exact ov, ?_⟩)
          refine Run.ret ti_ok rfl rfl ?_
          exact .tup2 (.ints (bad_v hb)) (.int (bad_p2 hb))
      have oh := hi_no2 ha h4
      by_cases h5 : (115792089237316195423570985008687907853269984665640564039457584007913129639936 : Int) ≤ val a * 10 + pdig s i
      · have ov := (over_val2 ha hD hdb h4).trans (decide_eq_true h5)
        have hb : parseP s = (0, (i : Int)) := e.trans (go_bad (.inr (.inr h5)))
        refine run_ex hmix ti_ok tp2_ok 2 false 800 [true, false, false, false, true] (fun ar lf => by conv => lhs; cbv) (allP ?_) ?_
        · simp only [conj]
          repeat (first | exact trivial | refine ⟨by first | exact o1 | exact o2 | exact hba | exact hbT | exact hbD | exact hbL | exact hbH | exact ol | exact og | exact oi | exact oz | exact oh | exact ov, ?_⟩)
        refine Run.ret ti_ok rfl rfl ?_
        exact .tup2 (.ints (bad_v hb)) (.int (bad_p2 hb))
      have ov := (over_val2 ha hD hdb h4).trans (decide_eq_false h5)
      have hsum := sum_val2 ha hD hdb h4 h5
      have hg : ¬ pbad s i (val a) := by rintro (h | h | h) <;> first | exact h1 h | exact h2 h.1 | exact h5 h
      refine run_ex hmix ti_ok tp2_ok 2 false 800 [true, false, false, false, false, false] (fun ar lf => by conv => lhs; cbv) (allP ?_) ?_
      · simp only [conj]
        repeat (first | exact trivial | refine ⟨by first | exact o1 | exact o2 | exact hba | exact hbT | exact hbD | exact hbL | exact hbH | exact ol | exact og | exact oi | exact oz | exact oh | exact ov, ?_⟩)
      refine Run.pack [0, 1] [0, 2, 3, 4, 5] (bs := [K4 (fun _ => 0), K4 (lfR.wadd (lfR.wmulL a (fun j => if j = 0 then (10 : Int) else 0)) (fun j => if j = 0 then IntKind.u64.wrap (rbin .sub .u8 (((s[i]?.getD 0).toNat : Nat) : Int) 48) else 0))]) (by decide) rfl rfl ?_
      refine Run.fam3 (ι := {z : Int // z = ((i + 1 : Nat) : Int)}) (fun z => ([.a (.one (.str s)), .any, .a (.one (.ptr 0 (.lit 0))), .a (.one (.lit .i64 0)), .a (.one (.ptr 1 (.lit 0))), .a (.one (.int .i64 z.1))] ++ List.replicate 62 .any, [some (K4 fun _ => 0), some (K4 (lfR.wadd (lfR.wmulL a (fun j => if j = 0 then (10 : Int) else 0)) (fun j => if j = 0 then IntKind.u64.wrap (rbin .sub .u8 (((s[i]?.getD 0).toNat : Nat) : Int) 48) else 0)))])) ⟨_, rbin_addi (x := (i : Int)) (y := 1) (by omega)⟩ ?_
      rintro ⟨z, rfl⟩
      refine ih ⟨(i + 1, _), by simp only; omega, ?_, ?_⟩ ?_ _ _
      · exact words_bd _
      · intro hs0; rw [hP hs0, hk, go_on hg]; congr 1; exact hsum.symm
      · show s.size - (i + 1) < s.size - i; omega
  · cases hs
end Go.Proofs.Ytegcdnjihnpolaa
