import Derived.Test.YtegcdnjihnpolaaOh
set_option linter.unusedSimpArgs false
set_option linter.unusedVariables false
namespace Go.Proofs.Ytegcdnjihnpolaa
open Go Go.Eng Go.Proofs Go.RowKit
theorem strOf_at {f : Nat → Int} {n i : Nat} (h : i < n) (h0 : 0 ≤ f i) (h1 : f i < 256) : (((strOf f n)[i]?.getD 0).toNat : Int) = f i := strOf_get h h0 h1
theorem byteW_bd (f : F) (j : Nat) : 0 ≤ byteW f j ∧ byteW f j < 256 := ⟨Int.emod_nonneg _ (by decide), Int.emod_lt_of_pos _ (by decide)⟩
theorem nib_hi {x : Int} {m : Nat} : x / p2 m % 256 / 16 = x / p2 (m + 4) % 16 := by
  rw [p2_add, show p2 4 = 16 by decide, ← Int.ediv_ediv_of_nonneg (Int.le_of_lt (p2_pos m))]
  omega
theorem nib_lo {x : Int} {m : Nat} : x / p2 m % 256 % 16 = x / p2 m % 16 := by omega
theorem hex_eq (f : F) : hexS (strOf (turnF (byteW f)) 32) = strOf (rhexN f) 64 := by
  unfold hexS
  rw [strOf_size]
  refine strOf_congr fun p hp => ?_
  have hp : p < 64 := hp
  unfold hexN rhexN
  have hb := byteW_bd f (31 - p / 2)
  rw [strOf_at (by omega) (by unfold turnF; exact hb.1) (by unfold turnF; exact hb.2)]
  congr 1
  unfold turnF byteW
  split
  · rw [nib_hi]
    rw [show (31 - p / 2) / 8 = (63 - p) / 16 by omega, show 8 * ((31 - p / 2) % 8) + 4 = 4 * ((63 - p) % 16) by omega]
  · rw [nib_lo]
    rw [show (31 - p / 2) / 8 = (63 - p) / 16 by omega, show 8 * ((31 - p / 2) % 8) = 4 * ((63 - p) % 16) by omega]
attribute [local irreducible] CallOk HOk Run Mid TIok rbin rcmp run1 words val updF shfF blitF strOf textOf ndig goP parseP pdig pv bpart V32 hexc hexN rhexN byteW turnF hexS
def tq1 (l : LY) : Tbl := tbL [(129, sTurn l), (130, sHexS l)] []
theorem tq1_ok : TblOk Try.prog (tq1 lyR) := tbL_ok (by simpa using ⟨turn_ok, hex_ok⟩) (by simp)
set_option maxRecDepth 100000 in
theorem htext_ok : CallOk Try.prog 119 (sHText lyR) := by
  refine .of_run (hc := (tq1 lyR).hc) Try.func119 rfl (by kernel_rfl) (by kernel_rfl) fun xs v ps hs hp w => ?_
  unfold sHText at hs
  split at hs
  · rename_i f h
    obtain rfl := har1_some h
    cases hs
    clear hp h
    refine run_ex hmix ti_ok tq1_ok 0 false 800 [] (fun ar lf => by conv => lhs; cbv) (allP ?_) ?_
    · trivial
    refine Run.pack [0] [1, 2] (bs := [KH (turnF f)]) (by decide) rfl rfl ?_
    refine Run.fam3 (ι := {g : F // g = turnF f}) (fun g => ([.any, .a (.one (.ptr 0 (.lit 0))), .a (.one (.str ⟨#[]⟩))] ++ List.replicate 5 .any, [some (KH g.1)])) ⟨_, rfl⟩ ?_
    rintro ⟨g, hg⟩
    refine Mid.start (s' := []) (o' := []) ?_
    refine Mid.eval ti_ok tq1_ok 1 rfl (fun ar lf => by conv => lhs; cbv) ?_ ?_
    · exact allP trivial
    refine Mid.toStr rfl rfl rfl rfl Try.underlying143 Try.underlying5 Try.underlying9 rfl rfl (by decide) (by decide) rfl (Nat.zero_le _) ?_
    refine Mid.keep [1, 2, 6] rfl ?_
    refine Mid.fam (ι := {x : ByteArray // x = strOf (turnF f) 32})
      (fun i => ([.any, .a (.one (.ptr 0 (.lit 0))), .a (.one (.str ⟨#[]⟩)), .any, .any, .any, .a (.one (.str i.1)), .any], [some (KH g)])) ⟨_, ?_⟩ ?_
    · exact strOf_congr fun j _ => by show g (0 + j) = _; rw [Nat.zero_add, hg]
    rintro ⟨x, hx⟩
    refine Mid.eval ti_ok tq1_ok 2 rfl (fun ar lf => by conv => lhs; cbv) ?_ ?_
    · refine allP ⟨?_, trivial⟩
      show 0 < x.size ∧ x.size ≤ 1099511627776
      rw [hx, strOf_size]; decide
    refine Mid.done (Nat.le_refl _) ?_
    refine Run.pack [] [2] (bs := []) (by decide) rfl rfl ?_
    refine Run.fam3 (ι := {y : ByteArray // y = hexS (strOf (turnF f) 32)}) (fun i => ([.any, .any, .a (.one (.str i.1))] ++ List.replicate 5 .any, [])) ⟨hexS x, by rw [hx]⟩ ?_
    rintro ⟨y, hy⟩
    refine run_ex hmix ti_ok tq1_ok 99 false 800 [] (fun ar lf => by conv => lhs; cbv) (allP ?_) ?_
    · trivial
    refine Run.ret ti_ok rfl rfl ?_
    exact .a (.str hy)
  · cases hs
def tq2 (l : LY) : Tbl := tbL [(90, sBytes l), (119, sHText l)] []
theorem tq2_ok : TblOk Try.prog (tq2 lyR) := tbL_ok (by simpa using ⟨bytes_ok, htext_ok⟩) (by simp)
theorem whex_ok : CallOk Try.prog 88 (sWHex lyR) := by
  refine .eval (tb := tq2) hmix ti_ok tq2_ok Try.func88 rfl (by kernel_rfl) (by kernel_rfl) fun xs v ps hs hp => ?_
  unfold sWHex at hs
  split at hs
  · rename_i f h
    obtain rfl := arr1_some h
    cases hs
    have hf : bd f := hp (lfR.bd f) (by simp [lyw, lwt, ltlf])
    refine ⟨800, [], _, fun ar lf => by conv => lhs; cbv, allP ?_, .a (.str ?_)⟩
    · simp only [conj]
      exact ⟨fun j _ => byteW_bd f j, hf, trivial⟩
    · exact hex_eq f
  · cases hs
set_option maxRecDepth 100000 in
theorem rhex_ok : CallOk Try.prog 89 (sWHex lyR) := by
  refine .of_run (hc := (tq0 lyR).hc) Try.func89 rfl (by kernel_rfl) (by kernel_rfl) fun xs v ps hs hp w => ?_
  unfold sWHex at hs
  split at hs
  · rename_i f h
    obtain rfl := arr1_some h
    cases hs
    have hf : bd f := hp (lfR.bd f) (by simp [lyw, lwt, ltlf])
    clear hp h
    have hmax : maxLen = 9223372036854775807 := by decide
    generalize hS : (⟨#[48, 49, 50, 51, 52, 53, 54, 55, 56, 57, 97, 98, 99, 100, 101, 102]⟩ : ByteArray) = S
    have hSD : hexD = S := hS
    have hSs : S.size = 16 := by rw [← hSD]; exact hexD_size
    clear hS
    refine run_ex hmix ti_ok tq0_ok 0 false 800 [] (fun ar lf => by conv => lhs; cbv) (allP ?_) ?_
    · trivial
    refine Mid.start (s' := []) (o' := []) ?_
    refine Mid.slice0 rfl rfl rfl rfl bytesT (Nat.zero_le _) ?_
    refine Mid.assign ti_ok tq0_ok rfl rfl (.inl rfl) rfl rfl ?_
    refine Mid.done (Nat.le_refl _) ?_
    refine Run.pack [0, 1] [1, 2, 3] (bs := [K4 f, ⟨false, .ints .u8 (.sym 0) (fun _ => 0)⟩]) (by decide) rfl rfl ?_
    refine Run.fam3 (ι := {c : Nat // c = 0}) (fun c => ([.any, .a (.one (.ptr 0 (.lit 0))), .a (.one (.str ⟨#[]⟩)), .a (.one (.sl 1 (.lit 0) (.sym c.1) (.sym c.1)))] ++ List.replicate 21 .any, [some (K4 f), some ⟨false, .ints .u8 (.sym c.1) (fun _ => 0)⟩])) ⟨0, rfl⟩ ?_
    rintro ⟨c, hc⟩
    refine run_ex hmix ti_ok tq0_ok 0 false 800 [] (fun ar lf => by conv => lhs; cbv) (allP ?_) ?_
    · trivial
    refine Run.cut [1, 2, 3, 4] [4] 2 (by decide) rfl rfl ?_
    refine Run.loop (ι := {p : Int × Nat × (Nat → Int) × Nat × Nat // -1 ≤ p.1 ∧ p.1 = 63 - (p.2.1 : Int) ∧ p.2.1 ≤ p.2.2.2.2 ∧ p.2.2.2.1 = 1 * p.2.2.2.2 ∧ (∀ j, j < p.2.1 → p.2.2.1 j = rhexN f j)})
      (fun i => ([.any, .a (.one (.ptr 0 (.lit 0))), .a (.one (.str ⟨#[]⟩)), .a (.one (.sl 1 (.lit 0) (.sym i.1.2.1) (.sym i.1.2.2.2.2))), .a (.one (.int .i64 i.1.1))] ++ List.replicate 20 .any,
        [some (K4 f), some ⟨false, .ints .u8 (.sym i.1.2.2.2.1) i.1.2.2.1⟩]))
      (fun i => (i.1.1 + 1).toNat) ⟨(63, c, fun _ => 0, c, c), by simp only; omega, by simp only; omega, Nat.le_refl _, by simp only; omega, fun j hj => by simp only at hj; omega⟩ ?_
    rintro ⟨⟨i, k, D, M, C⟩, h0, hi, hC, hM, hD⟩ ih
    simp only at h0 hi hC hM hD
    by_cases hn : i < 0
    · have o1 : rcmp .geq i 0 = false := by rw [rcmp_geq]; exact decide_eq_false (by omega)
      refine run_ex hmix ti_ok tq0_ok 2 false 800 [false] (fun ar lf => by conv => lhs; cbv) (allP ?_) ?_
      · exact ⟨o1, trivial⟩
      refine Run.pack [1] [2, 3] (bs := [⟨false, .ints .u8 (.sym M) D⟩]) (by decide) rfl rfl ?_
      refine Mid.start (s' := []) (o' := []) ?_
      refine Mid.assign ti_ok tq0_ok rfl rfl (.inr rfl) rfl rfl ?_
      refine Mid.toStr rfl rfl rfl rfl Try.underlying143 Try.underlying5 Try.underlying9 rfl rfl (by simp only [N.val]; omega) (by simp only [N.val]; omega) rfl (Nat.zero_le _) ?_
      refine Mid.assign ti_ok tq0_ok rfl rfl (.inl rfl) rfl rfl ?_
      refine Mid.done (Nat.le_refl _) ?_
      refine Run.pack [] [2] (bs := []) (by decide) rfl rfl ?_
      refine Run.fam3 (ι := {x : ByteArray // x = strOf (rhexN f) 64}) (fun i => ([.any, .any, .a (.one (.str i.1))] ++ List.replicate 22 .any, [])) ⟨_, ?_⟩ ?_
      · rw [show k = 64 by omega]
        refine strOf_congr fun j hj => ?_
        have hj : j < 64 := hj
        show D (0 + j) = _
        rw [Nat.zero_add]
        exact hD j (by omega)
      rintro ⟨x, hx⟩
      refine run_ex hmix ti_ok tq0_ok 99 false 800 [] (fun ar lf => by conv => lhs; cbv) (allP ?_) ?_
      · trivial
      refine Run.ret ti_ok rfl rfl ?_
      exact .a (.str hx)
    have o1 : rcmp .geq i 0 = true := by rw [rcmp_geq]; exact decide_eq_true (by omega)
    refine run_ex hmix ti_ok tq0_ok 2 false 800 [true] (fun ar lf => by conv => lhs; cbv) (allP ?_) ?_
    · exact ⟨o1, trivial⟩
    refine Run.pack [0, 1] [1, 2, 3, 4] (bs := [K4 f, ⟨false, .ints .u8 (.sym M) D⟩]) (by decide) rfl rfl ?_
    refine Run.fam3 (ι := {u : Int // i = u}) (fun u => ([.any, .a (.one (.ptr 0 (.lit 0))), .a (.one (.str ⟨#[]⟩)), .a (.one (.sl 1 (.lit 0) (.sym k) (.sym C))), .a (.one (.int .i64 u.1))] ++ List.replicate 20 .any,
        [some (K4 f), some ⟨false, .ints .u8 (.sym M) D⟩])) ⟨i, rfl⟩ ?_
    rintro ⟨u, rfl⟩
    have equo : rbin .quo .i64 i 16 = i / 16 := rbin_quoi (by omega) (by omega) (by decide)
    have erem : rbin .rem .i64 i 16 = i % 16 := rbin_remi (by omega)
    have emul : rbin .mul .i64 4 (i % 16) = 4 * (i % 16) := rbin_muli (by omega)
    have hfi := hf (i.toNat / 16) (by omega)
    have eshr : rbin .shr .u64 (f (i.toNat / 16)) (4 * (i % 16)) = f (i.toNat / 16) / p2 (4 * (i.toNat % 16)) := rbin_shr (m := 4 * (i.toNat % 16)) _ (by omega)
    have hq0 : 0 ≤ f (i.toNat / 16) / p2 (4 * (i.toNat % 16)) := Int.ediv_nonneg hfi.1 (Int.le_of_lt (p2_pos _))
    have erm2 : rbin .rem .u64 (f (i.toNat / 16) / p2 (4 * (i.toNat % 16))) 16 = f (i.toNat / 16) / p2 (4 * (i.toNat % 16)) % 16 := rbin_rem hq0
    have ev : rbin .rem .u64 (rbin .shr .u64 (f (0 + (rbin .quo .i64 i 16).toNat * 1)) (rbin .mul .i64 4 (rbin .rem .i64 i 16))) 16 = f (i.toNat / 16) / p2 (4 * (i.toNat % 16)) % 16 := by
      rw [equo, erem, emul, show 0 + (i / 16).toNat * 1 = i.toNat / 16 by omega, eshr, erm2]
    have o2 : 0 ≤ rbin .quo .i64 i 16 ∧ rbin .quo .i64 i 16 < ((4 : Nat) : Int) := by rw [equo]; omega
    have o3 : 0 ≤ rbin .mul .i64 4 (rbin .rem .i64 i 16) := by rw [erem, emul]; omega
    have o4 : 0 ≤ rbin .rem .u64 (rbin .shr .u64 (f (0 + (rbin .quo .i64 i 16).toNat * 1)) (rbin .mul .i64 4 (rbin .rem .i64 i 16))) 16 ∧ rbin .rem .u64 (rbin .shr .u64 (f (0 + (rbin .quo .i64 i 16).toNat * 1)) (rbin .mul .i64 4 (rbin .rem .i64 i 16))) 16 < (S.size : Int) := by
      rw [ev, hSs]; omega
    have o5 : 0 + (rbin .quo .i64 i 16).toNat * 1 + 1 ≤ 4 := by rw [equo]; omega
    refine Mid.start (s' := []) (o' := []) ?_
    refine Mid.eval ti_ok tq0_ok 12 rfl (fun ar lf => by conv => lhs; cbv) ?_ ?_
    · refine allP ?_
      simp only [conj]
      repeat (first | exact trivial | refine ⟨by first | exact o2 | exact o3 | exact o4 | exact o5, ?_⟩)
    refine Mid.append rfl rfl rfl rfl bytesT rfl rfl (Nat.zero_le _) hM rfl rfl rfl (by decide) (by decide) hC (Nat.zero_le _) (show k + 1 ≤ maxLen by omega) (show (k + 1) * 1 ≤ 140737488355328 by omega) ?_
    intro c' f' hc' hf1 hf2
    refine Mid.assign ti_ok tq0_ok rfl rfl (.inl rfl) rfl rfl ?_
    refine Mid.done (Nat.le_refl _) ?_
    refine Run.pack [0, 1] [1, 2, 3, 4] (bs := [K4 f, ⟨false, .ints .u8 (.sym (1 * c')) f'⟩]) (by decide) rfl rfl ?_
    refine Run.fam3 (ι := {p : Nat × Nat // p.1 = k + 1 ∧ p.2 = 1 * c'}) (fun p => ([.any, .a (.one (.ptr 0 (.lit 0))), .a (.one (.str ⟨#[]⟩)), .a (.one (.sl 1 (.lit 0) (.sym p.1.1) (.sym c'))), .a (.one (.int .i64 i))] ++ List.replicate 20 .any,
        [some (K4 f), some ⟨false, .ints .u8 (.sym p.1.2) f'⟩])) ⟨(k + 1, 1 * c'), rfl, rfl⟩ ?_
    rintro ⟨⟨k', M'⟩, hk', hM'⟩
    simp only at hk' hM'
    have hc'' : k + 1 ≤ c' := hc'
    refine run_ex hmix ti_ok tq0_ok 2 false 800 [] (fun ar lf => by conv => lhs; cbv) (allP ?_) ?_
    · trivial
    refine Run.pack [0, 1] [1, 2, 3, 4] (bs := [K4 f, ⟨false, .ints .u8 (.sym M') f'⟩]) (by decide) rfl rfl ?_
    have esub : rbin .sub .i64 i 1 = i - 1 := rbin_subi (by omega)
    refine ih ⟨(_, k', f', M', c'), ?_, ?_, ?_, hM', fun j hj => ?_⟩ ?_ _ _
    · show -1 ≤ rbin .sub .i64 i 1; rw [esub]; omega
    · show rbin .sub .i64 i 1 = 63 - (k' : Int); rw [esub]; omega
    · simp only; omega
    · simp only at hj ⊢
      by_cases h1 : j < k
      · rw [hf1 j (by simp only [N.val]; omega), hD j h1]
      · obtain rfl : j = k := by omega
        have := hf2 0 (by decide)
        simp only [N.val, Nat.one_mul, Nat.add_zero] at this
        rw [this]
        unfold rhexN hexc
        rw [hSD, show 63 - j = i.toNat by omega, ← ev]
        rfl
    · show (rbin .sub .i64 i 1 + 1).toNat < (i + 1).toNat
      rw [esub]; omega
  · cases hs
end Go.Proofs.Ytegcdnjihnpolaa
