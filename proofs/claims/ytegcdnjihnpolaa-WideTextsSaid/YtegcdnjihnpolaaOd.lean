import Derived.Test.YtegcdnjihnpolaaOc
import Derived.Test.YtegcdnjihnpolaaWw
import Derived.Test.YtegcdnjihnpolaaWp
set_option linter.unusedSimpArgs false
set_option linter.unusedVariables false
namespace Go.Eng
open Go
/-- the digit at a place of a text -/
def pdig (s : ByteArray) (i : Nat) : Int := (((s[i]?.getD 0).toNat : Int) - 48) % 256
/-- what is wrong at a place -/
def pbad (s : ByteArray) (i : Nat) (a : Int) : Prop := 10 ≤ pdig s i ∨ (0 < i ∧ a = 0) ∨ (115792089237316195423570985008687907853269984665640564039457584007913129639936 : Int) ≤ a * 10 + pdig s i
instance (s : ByteArray) (i : Nat) (a : Int) : Decidable (pbad s i a) := by unfold pbad; infer_instance
/-- the number of a text from a place on, and the place of what is wrong, or -1 -/
def goP (s : ByteArray) : Nat → Nat → Int → Int × Int
  | 0, _, a => (a, -1)
  | k + 1, i, a => if pbad s i a then (0, i) else goP s k (i + 1) (a * 10 + pdig s i)
def parseP (s : ByteArray) : Int × Int := if s.size = 0 then (0, 0) else goP s s.size 0 0
theorem go_bad {s : ByteArray} {k i : Nat} {a : Int} (h : pbad s i a) : goP s (k + 1) i a = (0, (i : Int)) := by
  simp only [goP, if_pos h]
theorem go_on {s : ByteArray} {k i : Nat} {a : Int} (h : ¬ pbad s i a) : goP s (k + 1) i a = goP s k (i + 1) (a * 10 + pdig s i) := by
  simp only [goP, if_neg h]
theorem pdig_bd (s : ByteArray) (i : Nat) : 0 ≤ pdig s i ∧ pdig s i < 256 := ⟨Int.emod_nonneg _ (by decide), Int.emod_lt_of_pos _ (by decide)⟩
theorem ndig_ex {n : Int} : ∀ m : Nat, n / 10 ^ (m + 1) = 0 → ∃ k, k ≤ m ∧ n / 10 ^ (k + 1) = 0 ∧ (k = 0 ∨ n / 10 ^ k ≠ 0)
  | 0, h => ⟨0, Nat.le_refl _, h, .inl rfl⟩
  | m + 1, h => by
    by_cases h1 : n / 10 ^ (m + 1) = 0
    · obtain ⟨k, a, b, c⟩ := ndig_ex m h1
      exact ⟨k, by omega, b, c⟩
    · exact ⟨m + 1, Nat.le_refl _, h, .inr h1⟩
theorem ndig_spec {n : Int} (h0 : 0 ≤ n) (h1 : n < (115792089237316195423570985008687907853269984665640564039457584007913129639936 : Int)) :
    ∃ k, ndig n = k + 1 ∧ n / 10 ^ (k + 1) = 0 ∧ (k = 0 ∨ n / 10 ^ k ≠ 0) := by
  obtain ⟨k, a, b, c⟩ := ndig_ex (n := n) 77 (Int.ediv_eq_zero_of_lt h0 (Int.lt_of_lt_of_le h1 (by decide)))
  exact ⟨k, by unfold ndig; exact ndigF_eq h0 b c (by omega), b, c⟩
theorem strOf_get {f : Nat → Int} {n i : Nat} (h : i < n) (h0 : 0 ≤ f i) (h1 : f i < 256) : (((strOf f n)[i]?.getD 0).toNat : Int) = f i := by
  have hs : i < (strOf f n).size := by rw [strOf_size]; exact h
  have e : (strOf f n)[i]? = some (UInt8.ofNat (f i).toNat) := by
    rw [getElem?_pos _ i hs]
    congr 1
    rw [ByteArray.getElem_eq_getElem_data]
    have h2 : ∀ (a : Array UInt8) (h : i < a.size), a = ((List.range n).map fun j => UInt8.ofNat (f j).toNat).toArray → a[i] = UInt8.ofNat (f i).toNat := by
      intro a h e
      subst e
      simp
    exact h2 _ _ rfl
  rw [e]
  show ((UInt8.ofNat (f i).toNat).toNat : Int) = f i
  rw [UInt8.toNat_ofNat']
  omega
theorem parse_go {n : Int} {m : Nat} (h0 : 0 ≤ n) (h1 : n < (115792089237316195423570985008687907853269984665640564039457584007913129639936 : Int)) (hm : ndig n = m + 1) (hd : m = 0 ∨ n / 10 ^ m ≠ 0) :
    ∀ k i a, i + k = m + 1 → a = n / 10 ^ k → goP (textOf n) k i a = (n, -1)
  | 0, i, a, hik, ha => by
    rw [Int.pow_zero, Int.ediv_one] at ha
    rw [ha]; rfl
  | k + 1, i, a, hik, ha => by
    have hp : (0 : Int) < 10 ^ k := Int.pow_pos (by decide)
    have hdig : pdig (textOf n) i = n / 10 ^ k % 10 := by
      unfold pdig textOf
      rw [strOf_get (by omega) (by omega) (by omega), hm, show m + 1 - 1 - i = k by omega]
      omega
    have hk : 0 ≤ n / 10 ^ k := Int.ediv_nonneg h0 (Int.le_of_lt hp)
    have hkn : n / 10 ^ k ≤ n := Int.ediv_le_self _ h0
    rw [← Go.Proofs.Ytegcdnjihnpolaa.pow_div] at ha
    have hok : ¬ pbad (textOf n) i a := by
      unfold pbad
      rw [hdig]
      rintro (h | ⟨hi, h⟩ | h)
      · omega
      · rcases hd with hd | hd
        · omega
        · rw [Go.Proofs.Ytegcdnjihnpolaa.pow_div] at ha
          rw [ha] at h
          apply hd
          have hle : (10 : Int) ^ (k + 1) ≤ 10 ^ m := by
            have := Nat.pow_le_pow_right (n := 10) (by decide) (show k + 1 ≤ m by omega)
            exact_mod_cast this
          have hp1 : (0 : Int) < 10 ^ (k + 1) := Int.pow_pos (by decide)
          have hlt : n < 10 ^ (k + 1) := by
            have := Int.lt_ediv_add_one_mul_self n hp1
            rw [h] at this
            omega
          exact Int.ediv_eq_zero_of_lt h0 (Int.lt_of_lt_of_le hlt hle)
      · omega
    rw [go_on hok]
    refine parse_go h0 h1 hm hd k (i + 1) _ (by omega) ?_
    rw [hdig, ha]
    omega
theorem parse_text {n : Int} (h0 : 0 ≤ n) (h1 : n < (115792089237316195423570985008687907853269984665640564039457584007913129639936 : Int)) : parseP (textOf n) = (n, -1) := by
  obtain ⟨m, hm, hz, hd⟩ := ndig_spec h0 h1
  have hs : (textOf n).size = m + 1 := by
    unfold textOf
    rw [strOf_size, hm]
  unfold parseP
  rw [hs, if_neg (by omega)]
  exact parse_go h0 h1 hm hd (m + 1) 0 0 (by omega) hz.symm
/-- what a text's number is made of -/
structure LP where
  lf : LF
  sfits : ByteArray → Prop
  pv : ByteArray → F
  pat : ByteArray → Int
  pat2 : ByteArray → Int
  pe : ByteArray → Int
def lpR : LP := ⟨lfR, fun s => s.size ≤ 9223372036854775807, fun s => words (parseP s).1, fun s => if (parseP s).2 = -1 then 0 else (parseP s).2, fun s => (parseP s).2, fun s => if (parseP s).2 = -1 then 0 else 41⟩
def str1 : List A → Option ByteArray
  | [.one (.str s)] => some s
  | _ => none
theorem str1_some {a : List A} {s : ByteArray} (h : str1 a = some s) : a = [.one (.str s)] := by
  unfold str1 at h
  split at h
  · cases h; rfl
  · cases h
def sParse (l : LP) : ESpec := fun a => match str1 a with
  | some s => some (.tup [W (l.pv s), I (l.pat s), I (l.pe s)], [l.sfits s])
  | none => none
def sParse2 (l : LP) : ESpec := fun a => match str1 a with
  | some s => some (.tup [W (l.pv s), I (l.pat2 s)], [l.sfits s])
  | none => none
end Go.Eng
namespace Go.Proofs.Ytegcdnjihnpolaa
open Go Go.Eng Go.Proofs Go.RowKit
attribute [local irreducible] CallOk HOk Run Mid TIok rbin rcmp run1 words val updF shfF blitF strOf textOf ndig goP parseP pdig
theorem rbin_sub8 (x y : Int) : rbin .sub .u8 x y = (x - y) % 256 := by
  unfold rbin
  exact wrap_u8 _
theorem lplf : lpR.lf = lfR := rfl
def tp1 (l : LP) : Tbl := tbL [(93, sFrom l.lf), (49, sMul l.lf), (46, sAdd l.lf), (55, sZero l.lf)] []
theorem tp1_ok : TblOk Try.prog (tp1 lpR) := tbL_ok (by simpa [lplf] using ⟨from_ok, mul_ok, add_ok, zero_ok⟩) (by simp)
theorem bd_zero : bd (fun _ => 0) := bd.of (by decide) (by decide) (by decide) (by decide)
theorem val_zero0 : val (fun _ => 0) = 0 := by unfold val; rfl
theorem bad_v {s : ByteArray} {z : Int} (h : parseP s = (0, z)) : ∀ j, j < 4 → (0 : Int) = lpR.pv s j := by
  intro j hj
  show 0 = words (parseP s).1 j
  rw [h]
  exact zero_words j hj
theorem bad_p {s : ByteArray} {i : Nat} (h : parseP s = (0, (i : Int))) : (i : Int) = lpR.pat s := by
  show _ = if (parseP s).2 = -1 then 0 else (parseP s).2
  rw [h]
  exact (if_neg (by simp only; omega)).symm
theorem bad_e {s : ByteArray} {i : Nat} (h : parseP s = (0, (i : Int))) : 41 = lpR.pe s := by
  show 41 = if (parseP s).2 = -1 then 0 else 41
  rw [h]
  exact (if_neg (by simp only; omega)).symm
theorem val_w10 : val (lfR.wfrom 10) = 10 := val_words_of (by decide) (by decide)
theorem hi_val {a : F} (ha : bd a) : val (lfR.wmulH a (lfR.wfrom 10)) = val a * 10 / (115792089237316195423570985008687907853269984665640564039457584007913129639936 : Int) := by
  have h := val_bd ha
  show val (words (val a * val (lfR.wfrom 10) / (115792089237316195423570985008687907853269984665640564039457584007913129639936 : Int))) = _
  rw [val_w10]
  exact val_words_of (by omega) (by omega)
theorem hi_yes {a : F} (ha : bd a) (h : (115792089237316195423570985008687907853269984665640564039457584007913129639936 : Int) ≤ val a * 10) : (!lfR.wzero (lfR.wmulH a (lfR.wfrom 10))) = true := by
  show (!decide (val (lfR.wmulH a (lfR.wfrom 10)) = 0)) = true
  rw [hi_val ha, decide_eq_false (by omega)]
  rfl
theorem hi_no {a : F} (ha : bd a) (h : ¬ (115792089237316195423570985008687907853269984665640564039457584007913129639936 : Int) ≤ val a * 10) : (!lfR.wzero (lfR.wmulH a (lfR.wfrom 10))) = false := by
  have h1 := val_bd ha
  show (!decide (val (lfR.wmulH a (lfR.wfrom 10)) = 0)) = false
  rw [hi_val ha, decide_eq_true (by omega)]
  rfl
theorem lo_val {a : F} (ha : bd a) (h : ¬ (115792089237316195423570985008687907853269984665640564039457584007913129639936 : Int) ≤ val a * 10) : val (lfR.wmulL a (lfR.wfrom 10)) = val a * 10 := by
  have h1 := val_bd ha
  show val (words (val a * val (lfR.wfrom 10))) = _
  rw [val_w10]
  exact val_words_of (by omega) (by omega)
theorem dig_val {d x : Int} (h : x = d) (h0 : 0 ≤ d ∧ d < 256) : val (lfR.wfrom (IntKind.u64.wrap x)) = d := by
  show val (words (IntKind.u64.wrap x)) = d
  rw [h, wrap_u64, Int.emod_eq_of_lt h0.1 (by omega)]
  exact val_words_of h0.1 (by omega)
theorem over_val10 {a : F} {d x : Int} (ha : bd a) (hx : x = d) (h0 : 0 ≤ d ∧ d < 256) (h : ¬ (115792089237316195423570985008687907853269984665640564039457584007913129639936 : Int) ≤ val a * 10) :
    lfR.waddB (lfR.wmulL a (lfR.wfrom 10)) (lfR.wfrom (IntKind.u64.wrap x)) = decide ((115792089237316195423570985008687907853269984665640564039457584007913129639936 : Int) ≤ val a * 10 + d) := by
  show decide ((115792089237316195423570985008687907853269984665640564039457584007913129639936 : Int) ≤ val (lfR.wmulL a (lfR.wfrom 10)) + val (lfR.wfrom (IntKind.u64.wrap x))) = _
  rw [lo_val ha h, dig_val hx h0]
theorem sum_val10 {a : F} {d x : Int} (ha : bd a) (hx : x = d) (h0 : 0 ≤ d ∧ d < 256) (h : ¬ (115792089237316195423570985008687907853269984665640564039457584007913129639936 : Int) ≤ val a * 10) (h5 : ¬ (115792089237316195423570985008687907853269984665640564039457584007913129639936 : Int) ≤ val a * 10 + d) :
    val (lfR.wadd (lfR.wmulL a (lfR.wfrom 10)) (lfR.wfrom (IntKind.u64.wrap x))) = val a * 10 + d := by
  have h1 := val_bd ha
  show val (words (val (lfR.wmulL a (lfR.wfrom 10)) + val (lfR.wfrom (IntKind.u64.wrap x)))) = _
  rw [lo_val ha h, dig_val hx h0]
  exact val_words_of (by omega) (by omega)
theorem str_empty {s : ByteArray} (h : s.size = 0) : arR.sEq s ⟨#[]⟩ = true := by
  show (s.toList == (⟨#[]⟩ : ByteArray).toList) = true
  rw [ByteArray.size_eq_zero_iff.1 h]
  exact beq_self_eq_true _
theorem str_some {s : ByteArray} (h : s.size ≠ 0) : arR.sEq s ⟨#[]⟩ = false := by
  show (s.toList == (⟨#[]⟩ : ByteArray).toList) = false
  rw [beq_eq_false_iff_ne]
  intro hs
  rw [ByteArray.toList_eq, ByteArray.toList_eq] at hs
  have h1 := congrArg List.length hs
  simp only [Array.length_toList] at h1
  exact h h1
set_option maxRecDepth 100000 in
theorem parse_ok : CallOk Try.prog 60 (sParse lpR) := by
  refine .of_run (hc := (tp1 lpR).hc) Try.func60 rfl (by kernel_rfl) (by kernel_rfl) fun xs v ps hs hp w => ?_
  unfold sParse at hs
  split at hs
  · rename_i s h
    obtain rfl := str1_some h
    cases hs
    have hf : s.size ≤ 9223372036854775807 := hp (lpR.sfits s) (by simp)
    clear hp h
    refine run_ex hmix ti_ok tp1_ok 0 false 800 [] (fun ar lf => by conv => lhs; cbv) (allP ?_) ?_
    · trivial
    refine Run.cut [0, 2, 3, 4, 5, 13, 14] [14] 2 (by decide) rfl rfl ?_
    refine Run.loop (ι := {p : Nat × F × Nat // p.1 ≤ p.2.2 ∧ p.2.2 = s.size ∧ bd p.2.1 ∧ (s.size ≠ 0 → parseP s = goP s (s.size - p.1) p.1 (val p.2.1))})
      (fun i => ([.a (.one (.str s)), .any, .a (.one (.ptr 0 (.lit 0))), .a (.one (.lit .i64 0)), .a (.one (.lit .i64 0)), .a (.one (.ptr 1 (.lit 0))), .any, .any, .any, .any, .any, .any, .any, .a (.one (.int .i64 (i.1.2.2 : Nat))), .a (.one (.int .i64 (i.1.1 : Nat)))] ++ List.replicate 46 .any,
        [some (K4 fun _ => 0), some (K4 i.1.2.1)]))
      (fun i => i.1.2.2 - i.1.1) ⟨(0, fun _ => 0, s.size), Nat.zero_le _, rfl, bd_zero, fun h0 => ?_⟩ ?_
    · show parseP s = goP s s.size 0 (val fun _ => 0)
      unfold parseP
      rw [if_neg h0, val_zero0]
    rintro ⟨⟨i, a, N⟩, hi, hN, ha, hP⟩ ih
    simp only at hi hN ha hP
    have hva := val_bd ha
    by_cases hn : N ≤ i
    · have o1 : rcmp .lss (i : Int) (N : Int) = false := by rw [rcmp_lss]; exact decide_eq_false (by omega)
      by_cases h0 : s.size = 0
      · have hb : parseP s = (0, ((0 : Nat) : Int)) := by unfold parseP; rw [if_pos h0]; rfl
        have o2 := str_empty h0
        refine run_ex hmix ti_ok tp1_ok 2 false 800 [false, true] (fun ar lf => by conv => lhs; cbv) (allP ?_) ?_
        · simp only [conj]
          repeat (first | exact trivial | refine ⟨by first | exact o1 | exact o2, ?_⟩)
        refine Run.ret ti_ok rfl rfl ?_
        exact .tup3 (.ints (bad_v hb)) (.lit (bad_p hb)) (.lit (bad_e hb))
      · have o2 := str_some h0
        have hg : parseP s = (val a, -1) := by
          rw [hP h0, show s.size - i = 0 by omega]
          unfold goP; rfl
        refine run_ex hmix ti_ok tp1_ok 2 false 800 [false, false] (fun ar lf => by conv => lhs; cbv) (allP ?_) ?_
        · simp only [conj]
          repeat (first | exact trivial | refine ⟨by first | exact o1 | exact o2, ?_⟩)
        refine Run.ret ti_ok rfl rfl ?_
        refine .tup3 (.ints fun j hj => ?_) (.lit ?_) (.lit ?_)
        · show a j = words (parseP s).1 j
          rw [hg, words_val ha j hj]
        · show 0 = if (parseP s).2 = -1 then 0 else (parseP s).2
          rw [hg]; rfl
        · show 0 = if (parseP s).2 = -1 then 0 else 41
          rw [hg]; rfl
    have hlt : i < s.size := by omega
    have hk : s.size - i = (s.size - (i + 1)) + 1 := by omega
    have e := hP (by omega)
    rw [hk] at e
    have o1 : rcmp .lss (i : Int) (N : Int) = true := by rw [rcmp_lss]; exact decide_eq_true (by omega)
    have o2 : 0 ≤ (i : Int) ∧ (i : Int) < s.size := by omega
    have hdb := pdig_bd s i
    have hD : (rbin .sub .u8 (((s[i]?.getD 0).toNat : Nat) : Int) 48) = pdig s i := by rw [rbin_sub8]; unfold pdig; rfl
    have o3 : 0 ≤ IntKind.u64.wrap (rbin .sub .u8 (((s[i]?.getD 0).toNat : Nat) : Int) 48) ∧ IntKind.u64.wrap (rbin .sub .u8 (((s[i]?.getD 0).toNat : Nat) : Int) 48) < (18446744073709551616 : Int) := by
      rw [wrap_u64]; exact ⟨Int.emod_nonneg _ (by decide), Int.emod_lt_of_pos _ (by decide)⟩
    have o4 : (0 : Int) ≤ 10 ∧ (10 : Int) < 18446744073709551616 := by decide
    have hba := ha
    have hb10 : bd (lfR.wfrom 10) := words_bd _
    have hbD : bd (lfR.wfrom (IntKind.u64.wrap (rbin .sub .u8 (((s[i]?.getD 0).toNat : Nat) : Int) 48))) := words_bd _
    have hbL : bd (lfR.wmulL a (lfR.wfrom 10)) := words_bd _
    have hbH : bd (lfR.wmulH a (lfR.wfrom 10)) := words_bd _
    have hov : ¬ (115792089237316195423570985008687907853269984665640564039457584007913129639936 : Int) ≤ val a * 10 → _ := fun h => over_val10 ha hD hdb h
    have hsm : ¬ (115792089237316195423570985008687907853269984665640564039457584007913129639936 : Int) ≤ val a * 10 → ¬ (115792089237316195423570985008687907853269984665640564039457584007913129639936 : Int) ≤ val a * 10 + pdig s i → _ := fun h h5 => sum_val10 ha hD hdb h h5
    by_cases h1 : 10 ≤ pdig s i
    · have oge : rcmp .geq (rbin .sub .u8 (((s[i]?.getD 0).toNat : Nat) : Int) 48) 10 = true := by rw [rcmp_geq, hD]; exact decide_eq_true h1
      have ogt := True.intro
      have oza := True.intro
      have ohi := True.intro
      have oov := True.intro
      have hb : parseP s = (0, (i : Int)) := e.trans (go_bad (.inl h1))
      refine run_ex hmix ti_ok tp1_ok 2 false 800 [true, true] (fun ar lf => by conv => lhs; cbv) (allP ?_) ?_
      · simp only [conj]
        repeat (first | exact trivial | refine ⟨by first | exact o1 | exact o2 | exact o3 | exact o4 | exact hba | exact hb10 | exact hbD | exact hbL | exact hbH | exact oge | exact ogt | exact oza | exact ohi | exact oov, ?_⟩)
      refine Run.ret ti_ok rfl rfl ?_
      exact .tup3 (.ints (bad_v hb)) (.int (bad_p hb)) (.lit (bad_e hb))
    have oge : rcmp .geq (rbin .sub .u8 (((s[i]?.getD 0).toNat : Nat) : Int) 48) 10 = false := by rw [rcmp_geq, hD]; exact decide_eq_false h1
    by_cases h2 : 0 < i
    · have ogt : rcmp .gtr (i : Int) 0 = true := by rw [rcmp_gtr]; exact decide_eq_true (by omega)
      by_cases h3 : val a = 0
      · have oza : decide (val a = 0) = true := decide_eq_true h3
        have ohi := True.intro
        have oov := True.intro
        have hb : parseP s = (0, (i : Int)) := e.trans (go_bad (.inr (.inl ⟨h2, h3⟩)))
        refine run_ex hmix ti_ok tp1_ok 2 false 800 [true, false, true, true] (fun ar lf => by conv => lhs; cbv) (allP ?_) ?_
        · simp only [conj]
          repeat (first | exact trivial | refine ⟨by first | exact o1 | exact o2 | exact o3 | exact o4 | exact hba | exact hb10 | exact hbD | exact hbL | exact hbH | exact oge | exact ogt | exact oza | exact ohi | exact oov, ?_⟩)
        refine Run.ret ti_ok rfl rfl ?_
        exact .tup3 (.ints (bad_v hb)) (.int (bad_p hb)) (.lit (bad_e hb))
      have oza : decide (val a = 0) = false := decide_eq_false h3
      by_cases h4 : (115792089237316195423570985008687907853269984665640564039457584007913129639936 : Int) ≤ val a * 10
      · have ohi := hi_yes ha h4
        have oov := True.intro
        have hb : parseP s = (0, (i : Int)) := e.trans (go_bad (.inr (.inr (by have := pdig_bd s i; omega))))
        refine run_ex hmix ti_ok tp1_ok 2 false 800 [true, false, true, false, true] (fun ar lf => by conv => lhs; cbv) (allP ?_) ?_
        · simp only [conj]
          repeat (first | exact trivial | refine ⟨by first | exact o1 | exact o2 | exact o3 | exact o4 | exact hba | exact hb10 | exact hbD | exact hbL | exact hbH | exact oge | exact ogt | exact oza | exact ohi | exact oov, ?_⟩)
        refine Run.ret ti_ok rfl rfl ?_
        exact .tup3 (.ints (bad_v hb)) (.int (bad_p hb)) (.lit (bad_e hb))
      have ohi := hi_no ha h4
      by_cases h5 : (115792089237316195423570985008687907853269984665640564039457584007913129639936 : Int) ≤ val a * 10 + pdig s i
      · have oov := (hov h4).trans (decide_eq_true h5)
        have hb : parseP s = (0, (i : Int)) := e.trans (go_bad (.inr (.inr h5)))
        refine run_ex hmix ti_ok tp1_ok 2 false 800 [true, false, true, false, false, true] (fun ar lf => by conv => lhs; cbv) (allP ?_) ?_
        · simp only [conj]
          repeat (first | exact trivial | refine ⟨by first | exact o1 | exact o2 | exact o3 | exact o4 | exact hba | exact hb10 | exact hbD | exact hbL | exact hbH | exact oge | exact ogt | exact oza | exact ohi | exact oov, ?_⟩)
        refine Run.ret ti_ok rfl rfl ?_
        exact .tup3 (.ints (bad_v hb)) (.int (bad_p hb)) (.lit (bad_e hb))
      have oov := (hov h4).trans (decide_eq_false h5)
      have hsum := hsm h4 h5
      have hg : ¬ pbad s i (val a) := by rintro (h | h | h) <;> first | exact h1 h | exact h3 h.2 | exact h5 h
      refine run_ex hmix ti_ok tp1_ok 2 false 800 [true, false, true, false, false, false] (fun ar lf => by conv => lhs; cbv) (allP ?_) ?_
      · simp only [conj]
        repeat (first | exact trivial | refine ⟨by first | exact o1 | exact o2 | exact o3 | exact o4 | exact hba | exact hb10 | exact hbD | exact hbL | exact hbH | exact oge | exact ogt | exact oza | exact ohi | exact oov, ?_⟩)
      refine Run.pack [0, 1] [0, 2, 3, 4, 5, 13, 14] (bs := [K4 (fun _ => 0), K4 (lfR.wadd (lfR.wmulL a (lfR.wfrom 10)) (lfR.wfrom (IntKind.u64.wrap (rbin .sub .u8 (((s[i]?.getD 0).toNat : Nat) : Int) 48))))]) (by decide) rfl rfl ?_
      refine Run.fam3 (ι := {z : Int // z = ((i + 1 : Nat) : Int)}) (fun z => ([.a (.one (.str s)), .any, .a (.one (.ptr 0 (.lit 0))), .a (.one (.lit .i64 0)), .a (.one (.lit .i64 0)), .a (.one (.ptr 1 (.lit 0))), .any, .any, .any, .any, .any, .any, .any, .a (.one (.int .i64 (N : Nat))), .a (.one (.int .i64 z.1))] ++ List.replicate 46 .any,
        [some (K4 fun _ => 0), some (K4 (lfR.wadd (lfR.wmulL a (lfR.wfrom 10)) (lfR.wfrom (IntKind.u64.wrap (rbin .sub .u8 (((s[i]?.getD 0).toNat : Nat) : Int) 48)))))])) ⟨_, rbin_addi (x := (i : Int)) (y := 1) (by omega)⟩ ?_
      rintro ⟨z, rfl⟩
      refine ih ⟨(i + 1, _, N), by simp only; omega, hN, ?_, ?_⟩ ?_ _ _
      · exact words_bd _
      · intro hs0; rw [hP hs0, hk, go_on hg]; congr 1; exact hsum.symm
      · show N - (i + 1) < N - i; omega
    · have ogt : rcmp .gtr (i : Int) 0 = false := by rw [rcmp_gtr]; exact decide_eq_false (by omega)
      have oza := True.intro
      by_cases h4 : (115792089237316195423570985008687907853269984665640564039457584007913129639936 : Int) ≤ val a * 10
      · have ohi := hi_yes ha h4
        have oov := True.intro
        have hb : parseP s = (0, (i : Int)) := e.trans (go_bad (.inr (.inr (by have := pdig_bd s i; omega))))
        refine run_ex hmix ti_ok tp1_ok 2 false 800 [true, false, false, true] (fun ar lf => by conv => lhs; cbv) (allP ?_) ?_
        · simp only [conj]
          repeat (first | exact trivial | refine ⟨by first | exact o1 | exact o2 | exact o3 | exact o4 | exact hba | exact hb10 | exact hbD | exact hbL | exact hbH | exact oge | exact ogt | exact oza | exact ohi | exact oov, ?_⟩)
        refine Run.ret ti_ok rfl rfl ?_
        exact .tup3 (.ints (bad_v hb)) (.int (bad_p hb)) (.lit (bad_e hb))
      have ohi := hi_no ha h4
      by_cases h5 : (115792089237316195423570985008687907853269984665640564039457584007913129639936 : Int) ≤ val a * 10 + pdig s i
      · have oov := (hov h4).trans (decide_eq_true h5)
        have hb : parseP s = (0, (i : Int)) := e.trans (go_bad (.inr (.inr h5)))
        refine run_ex hmix ti_ok tp1_ok 2 false 800 [true, false, false, false, true] (fun ar lf => by conv => lhs; cbv) (allP ?_) ?_
        · simp only [conj]
          repeat (first | exact trivial | refine ⟨by first | exact o1 | exact o2 | exact o3 | exact o4 | exact hba | exact hb10 | exact hbD | exact hbL | exact hbH | exact oge | exact ogt | exact oza | exact ohi | exact oov, ?_⟩)
        refine Run.ret ti_ok rfl rfl ?_
        exact .tup3 (.ints (bad_v hb)) (.int (bad_p hb)) (.lit (bad_e hb))
      have oov := (hov h4).trans (decide_eq_false h5)
      have hsum := hsm h4 h5
      have hg : ¬ pbad s i (val a) := by rintro (h | h | h) <;> first | exact h1 h | exact h2 h.1 | exact h5 h
      refine run_ex hmix ti_ok tp1_ok 2 false 800 [true, false, false, false, false] (fun ar lf => by conv => lhs; cbv) (allP ?_) ?_
      · simp only [conj]
        repeat (first | exact trivial | refine ⟨by first | exact o1 | exact o2 | exact o3 | exact o4 | exact hba | exact hb10 | exact hbD | exact hbL | exact hbH | exact oge | exact ogt | exact oza | exact ohi | exact oov, ?_⟩)
      refine Run.pack [0, 1] [0, 2, 3, 4, 5, 13, 14] (bs := [K4 (fun _ => 0), K4 (lfR.wadd (lfR.wmulL a (lfR.wfrom 10)) (lfR.wfrom (IntKind.u64.wrap (rbin .sub .u8 (((s[i]?.getD 0).toNat : Nat) : Int) 48))))]) (by decide) rfl rfl ?_
      refine Run.fam3 (ι := {z : Int // z = ((i + 1 : Nat) : Int)}) (fun z => ([.a (.one (.str s)), .any, .a (.one (.ptr 0 (.lit 0))), .a (.one (.lit .i64 0)), .a (.one (.lit .i64 0)), .a (.one (.ptr 1 (.lit 0))), .any, .any, .any, .any, .any, .any, .any, .a (.one (.int .i64 (N : Nat))), .a (.one (.int .i64 z.1))] ++ List.replicate 46 .any,
        [some (K4 fun _ => 0), some (K4 (lfR.wadd (lfR.wmulL a (lfR.wfrom 10)) (lfR.wfrom (IntKind.u64.wrap (rbin .sub .u8 (((s[i]?.getD 0).toNat : Nat) : Int) 48)))))])) ⟨_, rbin_addi (x := (i : Int)) (y := 1) (by omega)⟩ ?_
      rintro ⟨z, rfl⟩
      refine ih ⟨(i + 1, _, N), by simp only; omega, hN, ?_, ?_⟩ ?_ _ _
      · exact words_bd _
      · intro hs0; rw [hP hs0, hk, go_on hg]; congr 1; exact hsum.symm
      · show N - (i + 1) < N - i; omega
  · cases hs
end Go.Proofs.Ytegcdnjihnpolaa
