import Derived.Test.YtegcdnjihnpolaaWc
set_option linter.unusedSimpArgs false
set_option linter.unusedVariables false
namespace Go.Eng
open Go
theorem rbin_add (x y : Int) : rbin .add .u64 x y = (x + y) % (18446744073709551616 : Int) := wrap_u64 _
theorem rbin_sub (x y : Int) : rbin .sub .u64 x y = (x - y) % (18446744073709551616 : Int) := wrap_u64 _
theorem rbin_mul (x y : Int) : rbin .mul .u64 x y = (x * y) % (18446744073709551616 : Int) := wrap_u64 _
theorem rbin_shr {n : Int} {m : Nat} (x : Int) (h : min n.toNat 64 = m) : rbin .shr .u64 x n = x / p2 m := by
  subst h
  show x.fdiv (2 ^ (min n.toNat 64)) = _
  rw [Int.fdiv_eq_ediv_of_nonneg _ (Int.le_of_lt (Int.pow_pos (by decide)))]; rfl
theorem rbin_shl {n : Int} {m : Nat} (x : Int) (h : min n.toNat 64 = m) : rbin .shl .u64 x n = x * p2 m % (18446744073709551616 : Int) := by
  subst h; exact wrap_u64 _
theorem rbin_and32 (x : Int) (h0 : 0 ≤ x) (h1 : x < (18446744073709551616 : Int)) : rbin .and .u64 x 4294967295 = x % 4294967296 := and_low32 x h0 h1
theorem rbin_and1 (x : Int) (h0 : 0 ≤ x) (h1 : x < (18446744073709551616 : Int)) : rbin .and .u64 x 1 = x % 2 := by
  show bits .and .u64 x 1 = _
  go_bits2

/-- a numeral taken as a number -/
def C.norm : C → C
  | .lit k n => .int k n
  | .lbool b => .bool b
  | c => c
def A.norm : A → A
  | .one c => .one c.norm
  | .agg g => .agg g
theorem A.norm_norm (x : A) : x.norm.norm = x.norm := by
  cases x with
  | one c => cases c <;> rfl
  | agg g => rfl
theorem A.norm_rel {ρ : Ren} {x : A} {v : Value} (h : ARel ρ x v) : ARel ρ x.norm v := by
  cases x with
  | one c => cases c <;> exact h
  | agg g => exact h

section
variable {P : Program} {fn : Func}
open Classical in
theorem CallOk.nrm {f : FuncId} {s : ESpec} (hs : ∀ l r, s l = some r → s (l.map A.norm) = some r) (h : CallOk P f (fun l => if l.map A.norm = l then s l else none)) : CallOk P f s := by
  unfold CallOk at h ⊢
  intro l v ps hl hp args w ha
  have e : (l.map A.norm).map A.norm = l.map A.norm := by
    rw [List.map_map]; exact List.map_congr_left (fun x _ => A.norm_norm x)
  refine h (l.map A.norm) v ps ?_ hp args w ?_
  · simp only [if_pos e]; exact hs l _ hl
  · refine ⟨by rw [ha.1]; simp, fun j x hx => ?_⟩
    simp only [List.getElem?_map, Option.map_eq_some_iff] at hx
    obtain ⟨y, hy, rfl⟩ := hx
    obtain ⟨u, h1, h2⟩ := ha.2 j y hy
    exact ⟨u, h1, A.norm_rel h2⟩

theorem CallOk.evalN {Λ : Type} {ti : TypeId → TI} (hm : P.follows .mixedOrders = true) (hti : TIok P ti) {tb : Λ → Tbl} {l0 : Λ} (htbl : TblOk P (tb l0)) {f : FuncId} {body : Code} (hf : P.funcs[f]? = some fn) (hb : fn.body = some body) (hname : (fn.name == "runtime.NumGoroutine") = false) (hok : codeOk (tb l0).hc body = true) {s : ESpec}
    (hs : ∀ l r, s l = some r → s (l.map A.norm) = some r)
    (h : ∀ xs v ps, xs.map A.norm = xs → s xs = some (v, ps) → (∀ p ∈ ps, p) → ∃ n hints, ∃ F : Ar → Λ → V × List Prop, (∀ ar l, Go.Eng.evalFn ar ti (tb l) n hints fn.results.toList (xs.map V.a ++ List.replicate (fn.ntmps - xs.length) (.tup [])) [] [.code body] = some (F ar l)) ∧
      (∀ q ∈ (F arR l0).2, q) ∧ VLe (F arR l0).1 v) : CallOk P f s := by
  refine .nrm hs (.eval hm hti htbl hf hb hname hok fun xs v ps h1 hp => ?_)
  by_cases hn : xs.map A.norm = xs
  · simp only [if_pos hn] at h1; exact h xs v ps hn h1 hp
  · simp only [if_neg hn] at h1; cases h1
end

theorem num1_norm {l : List A} {x : Int} (h : num1 l = some x) : num1 (l.map A.norm) = some x := by
  obtain ⟨a, u, rfl, h1⟩ := num1_some h
  rcases num_cases h1 with rfl | rfl <;> rfl
theorem num2_norm {l : List A} {x y : Int} (h : num2 l = some (x, y)) : num2 (l.map A.norm) = some (x, y) := by
  obtain ⟨a, b, u, v, rfl, h1, h2⟩ := num2_some h
  rcases num_cases h1 with rfl | rfl <;> rcases num_cases h2 with rfl | rfl <;> rfl
theorem arrI_norm {l : List A} {f : F} {n : Int} (h : arrI l = some (f, n)) : arrI (l.map A.norm) = some (f, n) := by
  obtain ⟨a, u, rfl, h1⟩ := arrI_some h
  rcases num_cases h1 with rfl | rfl <;> rfl
theorem num1_int {l : List A} {x : Int} (h : num1 l = some x) (hn : l.map A.norm = l) : l = [U x] := by
  obtain ⟨a, u, rfl, h1⟩ := num1_some h
  rcases num_cases h1 with rfl | rfl
  · rfl
  · cases hn
theorem num2_int {l : List A} {x y : Int} (h : num2 l = some (x, y)) (hn : l.map A.norm = l) : l = [U x, U y] := by
  obtain ⟨a, b, u, v, rfl, h1, h2⟩ := num2_some h
  rcases num_cases h1 with rfl | rfl <;> rcases num_cases h2 with rfl | rfl <;> first | rfl | cases hn
theorem arrI_int {l : List A} {f : F} {n : Int} (h : arrI l = some (f, n)) (hn : l.map A.norm = l) : l = [W f, I n] := by
  obtain ⟨a, u, rfl, h1⟩ := arrI_some h
  rcases num_cases h1 with rfl | rfl
  · rfl
  · cases hn
end Go.Eng
namespace Go.Proofs.Ytegcdnjihnpolaa
open Go Go.Eng Go.Proofs Go.RowKit
attribute [local irreducible] CallOk HOk Run TIok

theorem sMul64_norm (lf : LF) : ∀ l r, sMul64 lf l = some r → sMul64 lf (l.map A.norm) = some r := by
  intro l r h
  unfold sMul64 at h
  split at h
  · rename_i x y h1
    unfold sMul64; rw [num2_norm h1]; exact h
  · cases h
theorem sLen64_norm (lf : LF) : ∀ l r, sLen64 lf l = some r → sLen64 lf (l.map A.norm) = some r := by
  intro l r h
  unfold sLen64 at h
  split at h
  · rename_i x h1
    unfold sLen64; rw [num1_norm h1]; exact h
  · cases h
theorem sBit_norm (lf : LF) : ∀ l r, sBit lf l = some r → sBit lf (l.map A.norm) = some r := by
  intro l r h
  unfold sBit at h
  split at h
  · rename_i x n h1
    unfold sBit; rw [arrI_norm h1]; exact h
  · cases h

theorem mul64_ok : CallOk Try.prog 106 (sMul64 lfR) := by
  refine .evalN (tb := tb1) hmix ti_ok tb1_ok Try.func106 rfl (by kernel_rfl) (by kernel_rfl) (sMul64_norm _) fun xs v ps hn hs hp => ?_
  unfold sMul64 at hs
  split at hs
  · rename_i x y h
    obtain rfl := num2_int h hn
    cases hs
    have hx : 0 ≤ x ∧ x < (18446744073709551616 : Int) := hp (lfR.u64 x) (by simp)
    have hy : 0 ≤ y ∧ y < (18446744073709551616 : Int) := hp (lfR.u64 y) (by simp)
    have key := mul64_arith x y hx.1 hx.2 hy.1 hy.2
    refine ⟨400, [], _, fun ar lf => by conv => lhs; cbv, ?_, ?_⟩
    · refine allP ?_
      simp only [conj]
    · refine .tup2 (.int ?_) (.int ?_)
      · simp only [lfR, arR, rbin_add, rbin_mul, rbin_shr (m := 32) _ (by decide : min (32 : Int).toNat 64 = 32), rbin_and32 x hx.1 hx.2, rbin_and32 y hy.1 hy.2, show p2 32 = 4294967296 from by decide]
        rw [rbin_and32 _ (by omega) (by omega)]
        exact key
      · simp only [lfR, arR, rbin_mul]
  · cases hs

theorem wrap_u8 (n : Int) : IntKind.u8.wrap n = n % 256 := by simp [IntKind.wrap, IntKind.bits, IntKind.signed]
theorem len_in {S : ByteArray} {y : Int} (hsz : S.size = 256) (hy : 0 ≤ y ∧ y < 256) : 0 ≤ IntKind.u8.wrap y ∧ IntKind.u8.wrap y < (S.size : Int) := by
  rw [hsz, wrap_u8]; omega
theorem wrap_small {n : Nat} (h : n < 256) : IntKind.i64.wrap (n : Int) = n := by
  unfold IntKind.wrap; simp [IntKind.bits, IntKind.signed]; omega
theorem len_val {S : ByteArray} {y : Int} {m : Nat} {n : Int} {X : Nat} (hS : ∀ i : Fin 256, (S[i.1]?.getD 0).toNat = bitLen i.1) (hy : 0 ≤ y ∧ y < 256) (hn : n = m) (hm : m < 100) (hx : bitLen X = m + bitLen y.toNat) :
    rbin .add .i64 n (IntKind.i64.wrap ((S[(IntKind.u8.wrap y).toNat]?.getD 0).toNat : Nat)) = bitLen X := by
  subst hn
  have e : IntKind.u8.wrap y = y := by rw [wrap_u8]; omega
  have hb : bitLen y.toNat ≤ 8 := bitLen_le8 _ (by omega)
  have hS' := hS ⟨y.toNat, by omega⟩
  simp only at hS'
  rw [e, hS', wrap_small (by omega), hx]
  have := wrap_small (n := m + bitLen y.toNat) (by omega)
  rw [← this]
  show IntKind.i64.wrap _ = _
  rw [Int.natCast_add]
theorem len_sh {x : Int} {b : Nat} {c : Int} (hc : c = 2 ^ b) (h0 : 0 ≤ x) (h : x / c ≠ 0) : bitLen x.toNat = b + bitLen (x / c).toNat := by
  obtain ⟨n, rfl⟩ := Int.eq_ofNat_of_zero_le h0
  have e : (n : Int) / c = ((n / 2 ^ b : Nat) : Int) := by rw [hc]; norm_cast
  rw [e] at h ⊢
  simp only [Int.toNat_natCast]
  exact bitLen_shift n b (by omega)

set_option maxRecDepth 100000 in
theorem len64_ok : CallOk Try.prog 98 (sLen64 lfR) := by
  refine .evalN (tb := tb1) hmix ti_ok tb1_ok Try.func98 rfl (by kernel_rfl) (by kernel_rfl) (sLen64_norm _) fun xs v ps hn hs hp => ?_
  unfold sLen64 at hs
  split at hs
  · rename_i x h
    obtain rfl := num1_int h hn
    cases hs
    have hx : 0 ≤ x ∧ x < (18446744073709551616 : Int) := hp (lfR.u64 x) (by simp)
    clear hp hn h
    have r32 : ∀ z, rbin .shr .u64 z 32 = z / 4294967296 := fun z => rbin_shr (m := 32) z (by decide)
    have r16 : ∀ z, rbin .shr .u64 z 16 = z / 65536 := fun z => rbin_shr (m := 16) z (by decide)
    have r8 : ∀ z, rbin .shr .u64 z 8 = z / 256 := fun z => rbin_shr (m := 8) z (by decide)
    by_cases h0 : 4294967296 ≤ x
    · have e0 := len_sh (b := 32) (c := 4294967296) (by decide) (show 0 ≤ x by omega) (by omega)
      by_cases h1 : 65536 ≤ x / 4294967296
      · have e1 := len_sh (b := 16) (c := 65536) (by decide) (show 0 ≤ x / 4294967296 by omega) (by omega)
        by_cases h2 : 256 ≤ x / 4294967296 / 65536
        · have e2 := len_sh (b := 8) (c := 256) (by decide) (show 0 ≤ x / 4294967296 / 65536 by omega) (by omega)
          refine ⟨400, [true, true, true], _, fun ar lf => by conv => lhs; cbv, ?_, ?_⟩
          · refine allP ?_
            simp only [conj, lfR, arR, r32, r16, r8, rcmp, decide_eq_true_eq, decide_eq_false_iff_not]
            exact ⟨len_in rfl (by omega), by omega, by omega, by omega, trivial⟩
          · refine .a (.int ?_)
            simp only [lfR, arR, r32, r16, r8]
            refine len_val (m := 56) (by decide +kernel) ?_ (by decide) (by decide) ?_
            · omega
            · omega
        · refine ⟨400, [true, true, false], _, fun ar lf => by conv => lhs; cbv, ?_, ?_⟩
          · refine allP ?_
            simp only [conj, lfR, arR, r32, r16, r8, rcmp, decide_eq_true_eq, decide_eq_false_iff_not]
            exact ⟨len_in rfl (by omega), by omega, by omega, by omega, trivial⟩
          · refine .a (.int ?_)
            simp only [lfR, arR, r32, r16, r8]
            refine len_val (m := 48) (by decide +kernel) ?_ (by decide) (by decide) ?_
            · omega
            · omega
      · by_cases h2 : 256 ≤ x / 4294967296
        · have e2 := len_sh (b := 8) (c := 256) (by decide) (show 0 ≤ x / 4294967296 by omega) (by omega)
          refine ⟨400, [true, false, true], _, fun ar lf => by conv => lhs; cbv, ?_, ?_⟩
          · refine allP ?_
            simp only [conj, lfR, arR, r32, r16, r8, rcmp, decide_eq_true_eq, decide_eq_false_iff_not]
            exact ⟨len_in rfl (by omega), by omega, by omega, by omega, trivial⟩
          · refine .a (.int ?_)
            simp only [lfR, arR, r32, r16, r8]
            refine len_val (m := 40) (by decide +kernel) ?_ (by decide) (by decide) ?_
            · omega
            · omega
        · refine ⟨400, [true, false, false], _, fun ar lf => by conv => lhs; cbv, ?_, ?_⟩
          · refine allP ?_
            simp only [conj, lfR, arR, r32, r16, r8, rcmp, decide_eq_true_eq, decide_eq_false_iff_not]
            exact ⟨len_in rfl (by omega), by omega, by omega, by omega, trivial⟩
          · refine .a (.int ?_)
            simp only [lfR, arR, r32, r16, r8]
            refine len_val (m := 32) (by decide +kernel) ?_ (by decide) (by decide) ?_
            · omega
            · omega
    · by_cases h1 : 65536 ≤ x
      · have e1 := len_sh (b := 16) (c := 65536) (by decide) (show 0 ≤ x by omega) (by omega)
        by_cases h2 : 256 ≤ x / 65536
        · have e2 := len_sh (b := 8) (c := 256) (by decide) (show 0 ≤ x / 65536 by omega) (by omega)
          refine ⟨400, [false, true, true], _, fun ar lf => by conv => lhs; cbv, ?_, ?_⟩
          · refine allP ?_
            simp only [conj, lfR, arR, r32, r16, r8, rcmp, decide_eq_true_eq, decide_eq_false_iff_not]
            exact ⟨len_in rfl (by omega), by omega, by omega, by omega, trivial⟩
          · refine .a (.int ?_)
            simp only [lfR, arR, r32, r16, r8]
            refine len_val (m := 24) (by decide +kernel) ?_ (by decide) (by decide) ?_
            · omega
            · omega
        · refine ⟨400, [false, true, false], _, fun ar lf => by conv => lhs; cbv, ?_, ?_⟩
          · refine allP ?_
            simp only [conj, lfR, arR, r32, r16, r8, rcmp, decide_eq_true_eq, decide_eq_false_iff_not]
            exact ⟨len_in rfl (by omega), by omega, by omega, by omega, trivial⟩
          · refine .a (.int ?_)
            simp only [lfR, arR, r32, r16, r8]
            refine len_val (m := 16) (by decide +kernel) ?_ (by decide) (by decide) ?_
            · omega
            · omega
      · by_cases h2 : 256 ≤ x
        · have e2 := len_sh (b := 8) (c := 256) (by decide) (show 0 ≤ x by omega) (by omega)
          refine ⟨400, [false, false, true], _, fun ar lf => by conv => lhs; cbv, ?_, ?_⟩
          · refine allP ?_
            simp only [conj, lfR, arR, r32, r16, r8, rcmp, decide_eq_true_eq, decide_eq_false_iff_not]
            exact ⟨len_in rfl (by omega), by omega, by omega, by omega, trivial⟩
          · refine .a (.int ?_)
            simp only [lfR, arR, r32, r16, r8]
            refine len_val (m := 8) (by decide +kernel) ?_ (by decide) (by decide) ?_
            · omega
            · omega
        · refine ⟨400, [false, false, false], _, fun ar lf => by conv => lhs; cbv, ?_, ?_⟩
          · refine allP ?_
            simp only [conj, lfR, arR, r32, r16, r8, rcmp, decide_eq_true_eq, decide_eq_false_iff_not]
            exact ⟨len_in rfl (by omega), by omega, by omega, by omega, trivial⟩
          · refine .a (.int ?_)
            simp only [lfR, arR, r32, r16, r8]
            refine len_val (m := 0) (by decide +kernel) ?_ (by decide) (by decide) ?_
            · omega
            · omega
  · cases hs
end Go.Proofs.Ytegcdnjihnpolaa
