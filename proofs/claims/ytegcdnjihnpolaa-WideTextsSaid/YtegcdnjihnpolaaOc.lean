import Derived.Test.YtegcdnjihnpolaaOb
import Derived.Test.YtegcdnjihnpolaaWu
set_option linter.unusedSimpArgs false
set_option linter.unusedVariables false
namespace Go.Eng
open Go
/-- k digits of a number, the highest first -/
def dgs (n : Int) (k : Nat) : ByteArray := strOf (fun j => 48 + n / 10 ^ (k - 1 - j) % 10) k
theorem dgs_succ (n : Int) (k : Nat) {s : ByteArray} (hs : s = strOf (fun _ => 48 + n / 10 ^ k % 10) 1) : s ++ dgs n k = dgs n (k + 1) := by
  subst hs
  unfold dgs
  rw [strOf_cat, Nat.add_comm 1 k]
  refine strOf_congr fun j hj => ?_
  by_cases h : j < 1
  · rw [if_pos h]
    obtain rfl : j = 0 := by omega
    rfl
  · rw [if_neg h, show k - 1 - (j - 1) = k + 1 - 1 - j by omega]
theorem dgs_text {n : Int} {k : Nat} (hn : 0 ≤ n) (hz : n / 10 ^ (k + 1) = 0) (hd : k = 0 ∨ n / 10 ^ k ≠ 0) (hk : k < 78) : dgs n (k + 1) = textOf n := by
  have hnd : ndig n = k + 1 := by
    unfold ndig
    exact ndigF_eq hn hz hd (by omega)
  unfold textOf dgs
  rw [hnd]
theorem val_ten : val (fun j => if j = 0 then (10 : Int) else 0) = 10 := by decide
theorem bd_ten : bd (fun j => if j = 0 then (10 : Int) else 0) := bd.of (by decide) (by decide) (by decide) (by decide)
theorem dgs_zero (n : Int) : (⟨#[]⟩ : ByteArray) = dgs n 0 := rfl
theorem dgs_size (n : Int) (k : Nat) : (dgs n k).size = k := strOf_size _ _
end Go.Eng
namespace Go.Proofs.Ytegcdnjihnpolaa
open Go Go.Eng Go.Proofs Go.RowKit
attribute [local irreducible] CallOk HOk Run Mid TIok rbin rcmp run1 words val updF shfF blitF strOf textOf ndig dgs
def to2 (l : LT) : Tbl := tbL [(57, sDiv2 l.lf)] []
theorem to2_ok : TblOk Try.prog (to2 ltR) := tbL_ok (by simpa [ltlf] using rdiv_ok) (by simp)
set_option maxRecDepth 100000 in
theorem rtext_ok : CallOk Try.prog 87 (sText ltR) := by
  refine .of_run (hc := (to2 ltR).hc) Try.func87 rfl (by kernel_rfl) (by kernel_rfl) fun xs v ps hs hp w => ?_
  unfold sText at hs
  split at hs
  · rename_i f h
    obtain rfl := arr1_some h
    cases hs
    have hf : bd f := hp (lfR.bd f) (by simp [ltR])
    clear hp h
    have hvf := val_bd hf
    refine run_ex hmix ti_ok to2_ok 0 false 800 [] (fun ar lf => by conv => lhs; cbv) (allP ?_) ?_
    · trivial
    refine Run.cut [1, 3] [] 1 (by decide) rfl rfl ?_
    refine Run.loop (ι := {p : F × ByteArray × Nat // (∀ j, j < 4 → p.1 j = words (val f / 10 ^ p.2.2) j) ∧ p.2.1 = dgs (val f) p.2.2 ∧ (p.2.2 = 0 ∨ val f / 10 ^ p.2.2 ≠ 0)})
      (fun i => ([.any, .a (.one (.ptr 0 (.lit 0))), .any, .a (.one (.str i.1.2.1))] ++ List.replicate 21 .any, [some (K4 i.1.1)]))
      (fun i => (val i.1.1).toNat) ⟨(f, ⟨#[]⟩, 0), fun j hj => ?_, dgs_zero _, .inl rfl⟩ ?_
    · show f j = words (val f / 10 ^ 0) j
      rw [Int.pow_zero, Int.ediv_one, words_val hf j hj]
    rintro ⟨⟨A, S, k⟩, hA, hS, hd⟩ ih
    simp only at hA hS hd
    have hvA : val A = val f / 10 ^ k := val_of_words (pow_div_bd hvf k).1 (pow_div_bd hvf k).2 hA
    have hbA : bd A := bd.congr (fun j hj => (hA j hj).symm) (words_bd _)
    have hv := pow_div_bd hvf k
    have hk78 : k < 78 := by
      rcases hd with hd | hd
      · omega
      · exact few_digits hvf.2 hvf.1 hd
    have v10 : val (fun j => if j = 0 then (10 : Int) else 0) = 10 := val_ten
    refine run_ex hmix ti_ok to2_ok 1 false 800 [] (fun ar lf => by conv => lhs; cbv) (allP ?_) ?_
    · simp only [conj]
      exact ⟨hbA, bd_ten, by show val (fun j => if j = 0 then (10 : Int) else 0) ≠ 0; rw [v10]; decide, trivial⟩
    refine Run.pack [0, 1, 2] [1, 3, 4, 5] (bs := [K4 A, K4 (lfR.wdivQ A (fun j => if j = 0 then 10 else 0)), K4 (lfR.wdivR A (fun j => if j = 0 then 10 else 0))]) (by decide) rfl rfl ?_
    refine Run.fam3 (ι := {p : F × F // (∀ j, j < 4 → p.1 j = words (val A / 10) j) ∧ (∀ j, j < 4 → p.2 j = words (val A % 10) j)})
      (fun i => ([.any, .a (.one (.ptr 0 (.lit 0))), .any, .a (.one (.str S)), .a (.one (.ptr 1 (.lit 0))), .a (.one (.ptr 2 (.lit 0)))] ++ List.replicate 19 .any, [some (K4 A), some (K4 i.1.1), some (K4 i.1.2)])) ⟨(_, _), ?_, ?_⟩ ?_
    · intro j hj; show words (val A / val (fun j => if j = 0 then (10 : Int) else 0)) j = _; rw [v10]
    · intro j hj; show words (if val (fun j => if j = 0 then (10 : Int) else 0) = 0 then 0 else val A % val (fun j => if j = 0 then (10 : Int) else 0)) j = _; rw [v10]; rfl
    rintro ⟨⟨q, r⟩, hq, hr⟩
    simp only at hq hr
    refine Mid.start (s' := []) (o' := []) ?_
    refine Mid.eval ti_ok to2_ok 4 rfl (fun ar lf => by conv => lhs; cbv) ?_ ?_
    · exact allP trivial
    refine Mid.slice1 rfl rfl rfl rfl bytesT rfl (Nat.zero_le _) ?_
    refine Mid.toStr rfl rfl rfl rfl Try.underlying143 Try.underlying5 Try.underlying9 rfl rfl (by decide) (by decide) rfl (Nat.zero_le _) ?_
    refine Mid.keep [1, 3, 4, 17] rfl ?_
    refine Mid.fam (ι := {p : ByteArray × Int // p.1 = strOf (fun _ => 48 + val A % 10) 1})
      (fun i => ([.any, .a (.one (.ptr 0 (.lit 0))), .any, .a (.one (.str S)), .a (.one (.ptr 1 (.lit 0)))] ++ List.replicate 12 .any ++ [.a (.one (.str i.1.1))] ++ List.replicate 7 .any, [some (K4 A), some (K4 q), some (K4 r), some ⟨false, .ints .u8 (.lit 1) fun _ => i.1.2⟩])) ⟨(_, _), ?_⟩ ?_
    · exact strOf_congr fun j _ => digit8 (by omega) hr
    rintro ⟨⟨s1, x1⟩, hs1⟩
    simp only at hs1
    refine Mid.eval ti_ok to2_ok 3 rfl (fun ar lf => by conv => lhs; cbv) ?_ ?_
    · refine allP ⟨?_, trivial⟩
      show ((s1.size + S.size : Nat) : Int) ≤ 9223372036854775807
      rw [hs1, hS, strOf_size, dgs_size]
      omega
    refine Mid.done (Nat.le_refl _) ?_
    refine Run.pack [0, 1] [1, 3, 4] (bs := [K4 A, K4 q]) (by decide) rfl rfl ?_
    refine Run.fam3 (ι := {s : ByteArray // s = dgs (val f) (k + 1)})
      (fun i => ([.any, .a (.one (.ptr 0 (.lit 0))), .any, .a (.one (.str i.1)), .a (.one (.ptr 1 (.lit 0)))] ++ List.replicate 20 .any, [some (K4 A), some (K4 q)])) ⟨_, ?_⟩ ?_
    · show s1 ++ S = _
      rw [hS]
      exact dgs_succ _ _ (by rw [hs1, hvA])
    rintro ⟨S', hS'⟩
    have hbq : bd q := bd.congr (fun j hj => (hq j hj).symm) (words_bd _)
    have hvq : val q = val A / 10 := val_of_words (by omega) (by omega) hq
    have hvq' : val q = val f / 10 ^ (k + 1) := by rw [hvq, hvA, pow_div]
    by_cases hz : val q = 0
    · refine run_ex hmix ti_ok to2_ok 1 false 800 [true] (fun ar lf => by conv => lhs; cbv) (allP ?_) ?_
      · simp only [conj]
        exact ⟨eqb_zero hbq (by simpa using hz), trivial⟩
      refine Run.ret ti_ok rfl rfl ?_
      exact .a (.str (by rw [hS']; exact dgs_text hvf.1 (by rw [← hvq']; exact hz) hd hk78))
    · refine run_ex hmix ti_ok to2_ok 1 false 800 [false] (fun ar lf => by conv => lhs; cbv) (allP ?_) ?_
      · simp only [conj]
        exact ⟨eqb_zero hbq (by simpa using hz), trivial⟩
      refine Run.pack [0] [1, 3] (bs := [K4 q]) (by decide) rfl rfl ?_
      refine ih ⟨(q, S', k + 1), fun j hj => ?_, hS', .inr ?_⟩ ?_ _ _
      · show q j = words (val f / 10 ^ (k + 1)) j
        rw [hq j hj, hvA, pow_div]
      · show val f / 10 ^ (k + 1) ≠ 0
        rw [← hvq']; exact hz
      · show (val q).toNat < (val A).toNat
        omega
  · cases hs
end Go.Proofs.Ytegcdnjihnpolaa
