import Derived.Test.YtegcdnjihnpolaaOg
import Derived.Test.YtegcdnjihnpolaaEy
set_option linter.unusedSimpArgs false
set_option linter.unusedVariables false
namespace Go.Proofs.Ytegcdnjihnpolaa
open Go Go.Eng Go.Proofs Go.RowKit
theorem shr4_all : ∀ b : Fin 256, rbin .shr .u8 (b.1 : Int) 4 = (b.1 : Int) / 16 := by decide +kernel
theorem and15_all : ∀ b : Fin 256, rbin .and .u8 (b.1 : Int) 15 = (b.1 : Int) % 16 := by decide +kernel
theorem shr4 (b : UInt8) : rbin .shr .u8 ((b.toNat : Nat) : Int) 4 = (b.toNat : Int) / 16 := shr4_all ⟨b.toNat, UInt8.toNat_lt b⟩
theorem and15 (b : UInt8) : rbin .and .u8 ((b.toNat : Nat) : Int) 15 = (b.toNat : Int) % 16 := and15_all ⟨b.toNat, UInt8.toNat_lt b⟩
theorem hexN_hi (s : ByteArray) (i : Nat) : hexN s (2 * i) = hexc (((s[i]?.getD 0).toNat : Int) / 16) := by
  unfold hexN
  rw [if_pos (by omega), show 2 * i / 2 = i by omega]
theorem hexN_lo (s : ByteArray) (i : Nat) : hexN s (2 * i + 1) = hexc (((s[i]?.getD 0).toNat : Int) % 16) := by
  unfold hexN
  rw [if_neg (by omega), show (2 * i + 1) / 2 = i by omega]
theorem byte_lt (b : UInt8) : (0 : Int) ≤ (b.toNat : Int) ∧ (b.toNat : Int) < 256 := by
  have := UInt8.toNat_lt b
  omega
theorem hexD_size : hexD.size = 16 := by decide
attribute [local irreducible] CallOk HOk Run Mid TIok rbin rcmp run1 words val updF shfF blitF strOf textOf ndig goP parseP pdig pv bpart V32 hexc hexN rhexN byteW turnF hexS
set_option maxRecDepth 100000 in
theorem hex_ok : CallOk Try.prog 130 (sHexS lyR) := by
  refine .of_run (hc := (tq0 lyR).hc) Try.func130 rfl (by kernel_rfl) (by kernel_rfl) fun xs v ps hs hp w => ?_
  unfold sHexS at hs
  split at hs
  · rename_i s h
    obtain rfl := str1_some h
    cases hs
    have hf : 0 < s.size ∧ s.size ≤ 1099511627776 := hp (lyR.hfit s) (by simp)
    clear hp h
    have hmax : maxLen = 9223372036854775807 := by decide
    have e2 : rbin .mul .i64 2 (s.size : Int) = ((2 * s.size : Nat) : Int) := (rbin_muli (by omega)).trans (by omega)
    generalize hS : (⟨#[48, 49, 50, 51, 52, 53, 54, 55, 56, 57, 97, 98, 99, 100, 101, 102]⟩ : ByteArray) = S
    have hSD : hexD = S := hS
    have hSs : S.size = 16 := by rw [← hSD]; exact hexD_size
    clear hS
    refine run_ex hmix ti_ok tq0_ok 0 false 800 [] (fun ar lf => by conv => lhs; cbv) (allP ?_) ?_
    · trivial
    refine Mid.start (s' := []) (o' := []) ?_
    refine Mid.eval ti_ok tq0_ok 3 rfl (fun ar lf => by conv => lhs; cbv) ?_ ?_
    · exact allP trivial
    refine Mid.make rfl rfl rfl rfl bytesT rfl (by show 0 ≤ rbin .mul .i64 2 (s.size : Int); rw [e2]; omega) (by show ((1 : Nat) : Int) * rbin .mul .i64 2 (s.size : Int) ≤ _; rw [e2]; omega) (by show rbin .mul .i64 2 (s.size : Int) ≤ _; rw [e2]; omega) (Nat.zero_le _) ?_
    refine Mid.assign ti_ok tq0_ok rfl rfl (.inl rfl) rfl rfl ?_
    refine Mid.done (Nat.le_refl _) ?_
    refine Run.pack [0] [0, 2, 3] (bs := [⟨false, .ints .u8 (.sym (1 * (rbin .mul .i64 2 (s.size : Int)).toNat)) (fun _ => 0)⟩]) (by decide) rfl rfl ?_
    refine Run.fam3 (ι := {p : Nat × Nat // p.1 = 2 * s.size ∧ p.2 = 1 * p.1}) (fun p => ([.a (.one (.str s)), .any, .a (.one (.str ⟨#[]⟩)), .a (.one (.sl 0 (.lit 0) (.sym 0) (.sym p.1.1)))] ++ List.replicate 26 .any, [some ⟨false, .ints .u8 (.sym p.1.2) (fun _ => 0)⟩])) ⟨((rbin .mul .i64 2 (s.size : Int)).toNat, 1 * (rbin .mul .i64 2 (s.size : Int)).toNat), by simp only; rw [e2]; rfl, rfl⟩ ?_
    rintro ⟨⟨c, M0⟩, hc, hM0⟩
    simp only at hc hM0
    refine run_ex hmix ti_ok tq0_ok 0 false 800 [] (fun ar lf => by conv => lhs; cbv) (allP ?_) ?_
    · trivial
    refine Run.cut [0, 2, 3, 10, 11] [11] 1 (by decide) rfl rfl ?_
    refine Run.loop (ι := {p : (Nat × Nat) × (Nat → Int) × Nat × Nat × Nat // p.1.1 ≤ p.2.2.2.2 ∧ p.1.2 = 2 * p.1.1 ∧ p.2.2.2.2 = s.size ∧ p.1.2 ≤ p.2.2.2.1 ∧ p.2.2.1 = 1 * p.2.2.2.1 ∧ (∀ j, j < 2 * p.1.1 → p.2.1 j = hexN s j) ∧ 0 < p.2.2.2.1})
      (fun i => ([.a (.one (.str s)), .any, .a (.one (.str ⟨#[]⟩)), .a (.one (.sl 0 (.lit 0) (.sym i.1.1.2) (.sym i.1.2.2.2.1)))] ++ List.replicate 6 .any ++ [.a (.one (.int .i64 (i.1.2.2.2.2 : Nat))), .a (.one (.int .i64 (i.1.1.1 : Nat)))] ++ List.replicate 18 .any,
        [some ⟨false, .ints .u8 (.sym i.1.2.2.1) i.1.2.1⟩]))
      (fun i => i.1.2.2.2.2 - i.1.1.1) ⟨((0, 0), fun _ => 0, M0, c, s.size), Nat.zero_le _, rfl, rfl, Nat.zero_le _, hM0, fun j hj => absurd hj (Nat.not_lt_zero j), by simp only; omega⟩ ?_
    rintro ⟨⟨⟨i, k⟩, D, M, C, L⟩, hi, hk, hN, hC, hM, hD, hC0⟩ ih
    simp only at hi hk hN hC hM hD hC0
    by_cases hn : L ≤ i
    · have o1 : rcmp .lss (i : Int) (L : Int) = false := by rw [rcmp_lss]; exact decide_eq_false (by omega)
      refine run_ex hmix ti_ok tq0_ok 2 false 800 [false] (fun ar lf => by conv => lhs; cbv) (allP ?_) ?_
      · exact ⟨o1, trivial⟩
      refine Run.pack [0] [0, 2, 3] (bs := [⟨false, .ints .u8 (.sym M) D⟩]) (by decide) rfl rfl ?_
      refine Mid.start (s' := []) (o' := []) ?_
      refine Mid.assign ti_ok tq0_ok rfl rfl (.inr rfl) rfl rfl ?_
      refine Mid.toStr rfl rfl rfl rfl Try.underlying143 Try.underlying5 Try.underlying9 rfl rfl (by simp only [N.val]; omega) (by simp only [N.val]; omega) rfl (Nat.zero_le _) ?_
      refine Mid.assign ti_ok tq0_ok rfl rfl (.inl rfl) rfl rfl ?_
      refine Mid.done (Nat.le_refl _) ?_
      refine Run.pack [] [2] (bs := []) (by decide) rfl rfl ?_
      refine Run.fam3 (ι := {x : ByteArray // x = hexS s}) (fun i => ([.any, .any, .a (.one (.str i.1))] ++ List.replicate 27 .any, [])) ⟨_, ?_⟩ ?_
      · unfold hexS
        rw [show k = 2 * s.size by omega]
        refine strOf_congr fun j hj => ?_
        show D (0 + j) = _
        rw [Nat.zero_add]
        have hj : j < 2 * s.size := hj
        exact hD j (by omega)
      rintro ⟨x, hx⟩
      refine run_ex hmix ti_ok tq0_ok 99 false 800 [] (fun ar lf => by conv => lhs; cbv) (allP ?_) ?_
      · trivial
      refine Run.ret ti_ok rfl rfl ?_
      exact .a (.str hx)
    have o1 : rcmp .lss (i : Int) (L : Int) = true := by rw [rcmp_lss]; exact decide_eq_true (by omega)
    refine run_ex hmix ti_ok tq0_ok 2 false 800 [true] (fun ar lf => by conv => lhs; cbv) (allP ?_) ?_
    · exact ⟨o1, trivial⟩
    have hb := byte_lt (s[i]?.getD 0)
    have o2 : 0 ≤ (i : Int) ∧ (i : Int) < s.size := by omega
    have o3 : 0 ≤ rbin .shr .u8 (((s[i]?.getD 0).toNat : Nat) : Int) 4 ∧ rbin .shr .u8 (((s[i]?.getD 0).toNat : Nat) : Int) 4 < (S.size : Int) := by rw [shr4, hSs]; omega
    have o4 : 0 ≤ rbin .and .u8 (((s[i]?.getD 0).toNat : Nat) : Int) 15 ∧ rbin .and .u8 (((s[i]?.getD 0).toNat : Nat) : Int) 15 < (S.size : Int) := by rw [and15, hSs]; omega
    refine Run.pack [0] [0, 2, 3, 4, 10, 11] (bs := [⟨false, .ints .u8 (.sym M) D⟩]) (by decide) rfl rfl ?_
    refine Run.fam3 (ι := {u : Nat // i = u}) (fun u => ([.a (.one (.str s)), .any, .a (.one (.str ⟨#[]⟩)), .a (.one (.sl 0 (.lit 0) (.sym k) (.sym C))), .a (.one (.int .i64 (u.1 : Nat)))] ++ List.replicate 5 .any ++ [.a (.one (.int .i64 (L : Nat))), .a (.one (.int .i64 (u.1 : Nat)))] ++ List.replicate 18 .any,
        [some ⟨false, .ints .u8 (.sym M) D⟩])) ⟨i, rfl⟩ ?_
    rintro ⟨u, rfl⟩
    refine Mid.startDraw hmix ti_ok tq0_ok rfl 12 [] rfl (by kernel_rfl) (by conv => lhs; cbv) rfl (fun ar lf => by conv => lhs; cbv) (allP ?_) ?_
    · simp only [conj]
      repeat (first | exact trivial | refine ⟨by first | exact o2 | exact o3 | exact o4, ?_⟩)
    refine Mid.append rfl rfl rfl rfl bytesT rfl rfl (Nat.zero_le _) hM rfl rfl rfl (by decide) (by decide) hC (Nat.zero_le _) (show k + 2 ≤ maxLen by omega) (show (k + 2) * 1 ≤ 140737488355328 by omega) ?_
    intro c' f' hc' hf1 hf2
    refine Mid.assign ti_ok tq0_ok rfl rfl (.inl rfl) rfl rfl ?_
    refine Mid.done (Nat.le_refl _) ?_
    refine Run.pack [0] [0, 2, 3, 10, 11] (bs := [⟨false, .ints .u8 (.sym (1 * c')) f'⟩]) (by decide) rfl rfl ?_
    refine Run.fam3 (ι := {p : Nat × Nat // p.1 = k + 2 ∧ p.2 = 1 * c'}) (fun p => ([.a (.one (.str s)), .any, .a (.one (.str ⟨#[]⟩)), .a (.one (.sl 0 (.lit 0) (.sym p.1.1) (.sym c')))] ++ List.replicate 6 .any ++ [.a (.one (.int .i64 (L : Nat))), .a (.one (.int .i64 (i : Nat)))] ++ List.replicate 18 .any,
        [some ⟨false, .ints .u8 (.sym p.1.2) f'⟩])) ⟨(k + 2, 1 * c'), rfl, rfl⟩ ?_
    rintro ⟨⟨k', M'⟩, hk', hM'⟩
    simp only at hk' hM'
    refine run_ex hmix ti_ok tq0_ok 2 false 800 [] (fun ar lf => by conv => lhs; cbv) (allP ?_) ?_
    · trivial
    refine Run.pack [0] [0, 2, 3, 10, 11] (bs := [⟨false, .ints .u8 (.sym M') f'⟩]) (by decide) rfl rfl ?_
    refine Run.fam3 (ι := {z : Int // z = ((i + 1 : Nat) : Int)}) (fun z => ([.a (.one (.str s)), .any, .a (.one (.str ⟨#[]⟩)), .a (.one (.sl 0 (.lit 0) (.sym k') (.sym c')))] ++ List.replicate 6 .any ++ [.a (.one (.int .i64 (L : Nat))), .a (.one (.int .i64 z.1))] ++ List.replicate 18 .any,
        [some ⟨false, .ints .u8 (.sym M') f'⟩])) ⟨_, rbin_addi (x := (i : Int)) (y := 1) (by omega)⟩ ?_
    rintro ⟨z, rfl⟩
    have hc'' : k + 2 ≤ c' := hc'
    refine ih ⟨((i + 1, k'), f', M', c', L), by simp only; omega, by simp only; omega, hN, by simp only; omega, hM', fun j hj => ?_, by simp only; omega⟩ ?_ _ _
    · simp only at hj ⊢
      by_cases h1 : j < 2 * i
      · rw [hf1 j (by simp only [N.val]; omega), hD j h1]
      · by_cases h2 : j = 2 * i
        · subst h2
          have := hf2 0 (by decide)
          simp only [N.val, Nat.one_mul, Nat.add_zero, hk] at this
          rw [this, hexN_hi, ← shr4]
          unfold hexc; rw [hSD]; rfl
        · obtain rfl : j = 2 * i + 1 := by omega
          have := hf2 1 (by decide)
          simp only [N.val, Nat.one_mul, Nat.add_zero, hk] at this
          rw [this, hexN_lo, ← and15]
          unfold hexc; rw [hSD]; rfl
    · show L - (i + 1) < L - i
      omega
  · cases hs
end Go.Proofs.Ytegcdnjihnpolaa
