import Derived.Test.YtegcdnjihnpolaaUl
set_option linter.unusedSimpArgs false
set_option linter.unusedVariables false
namespace Go.Eng
open Go
theorem pv_split (β : Int) (f : F) (m : Nat) : ∀ n : Nat, pv β f (m + n) = pv β f m + pv β (fun j => f (m + j)) n * β ^ m
  | 0 => by show pv β f m = pv β f m + 0 * _; omega
  | n + 1 => by
    show pv β f (m + n) + f (m + n) * β ^ (m + n) = pv β f m + (pv β (fun j => f (m + j)) n + f (m + n) * β ^ n) * β ^ m
    rw [pv_split β f m n, Int.pow_add]
    grind
theorem rbin64_or {x y : Int} {k : Nat} (hk : k < 64) (hx : 0 ≤ x) (hx1 : x * p2 k < (18446744073709551616 : Int)) (hy : 0 ≤ y) (hy1 : y < p2 k) : rbin .or .u64 y (x * p2 k) = y + x * p2 k := by
  obtain ⟨a, rfl⟩ := Int.eq_ofNat_of_zero_le hx
  obtain ⟨b, rfl⟩ := Int.eq_ofNat_of_zero_le hy
  have ep : p2 k = ((2 ^ k : Nat) : Int) := p2_nat k
  have h1 := p2_lt hk
  rw [ep] at hx1 hy1 h1 ⊢
  have e1 : (a : Int) * ((2 ^ k : Nat) : Int) = ((a * 2 ^ k : Nat) : Int) := by rw [Int.natCast_mul]
  rw [e1] at hx1 ⊢
  rw [rbin_or_nat b (a * 2 ^ k) (by omega) (by omega), Nat.or_comm, Nat.mul_comm, ← Nat.two_pow_add_eq_or_of_lt (by omega), Nat.add_comm]
  rfl
def bd32 (f : F) : Prop := ∀ j, j < 32 → 0 ≤ f j ∧ f j < 256
def V32 (f : F) : Int := pv 256 f 32
theorem V32_bd {f : F} (h : bd32 f) : 0 ≤ V32 f ∧ V32 f < (115792089237316195423570985008687907853269984665640564039457584007913129639936 : Int) := by
  have := pv_bd h
  rw [pow256, show 8 * 32 = 256 from rfl, p2_256] at this; exact this
/-- the bytes of a word that stand there, where there are i in all -/
def bpart (f : F) (i k : Nat) : Int := pv 256 (fun j => f (8 * k + j)) (min (i - 8 * k) 8)
theorem bpart_bd {f : F} (h : bd32 f) {i k : Nat} (hk : k < 4) : 0 ≤ bpart f i k ∧ bpart f i k < 256 ^ min (i - 8 * k) 8 := pv_bd fun j hj => h _ (by omega)
theorem bpart_step (f : F) {i : Nat} : bpart f (i + 1) (i / 8) = bpart f i (i / 8) + f i * 256 ^ (i % 8) := by
  unfold bpart
  rw [show min (i + 1 - 8 * (i / 8)) 8 = i % 8 + 1 by omega, show min (i - 8 * (i / 8)) 8 = i % 8 by omega]
  show pv _ _ _ + f (8 * (i / 8) + i % 8) * _ = _
  rw [Nat.div_add_mod]
theorem bpart_other (f : F) {i k : Nat} (h : i / 8 ≠ k) : bpart f (i + 1) k = bpart f i k := by
  unfold bpart
  congr 1
  omega
theorem bpart_zero (f : F) (k : Nat) : bpart f 0 k = 0 := by
  unfold bpart
  rw [Nat.zero_sub]; rfl
theorem bpart_all {f q : F} (hq : ∀ k, k < 4 → q k = bpart f 32 k) : val q = V32 f := by
  have e : ∀ k, k < 4 → q k = pv 256 (fun j => f (8 * k + j)) 8 := fun k hk => by
    rw [hq k hk]; unfold bpart; rw [show min (32 - 8 * k) 8 = 8 by omega]
  have s1 := pv_split 256 f 8 24
  have s2 := pv_split 256 (fun j => f (8 + j)) 8 16
  have s3 := pv_split 256 (fun j => f (8 + (8 + j))) 8 8
  have q0 := e 0 (by decide)
  have q1 := e 1 (by decide)
  have q2 := e 2 (by decide)
  have q3 := e 3 (by decide)
  have c : ∀ g h : F, (∀ j, g j = h j) → pv 256 g 8 = pv 256 h 8 := fun g h hh => pv_congr fun j _ => hh j
  rw [c _ f (fun j => by show f (8 * 0 + j) = f j; congr 1; omega)] at q0
  rw [c _ (fun j => f (8 + j)) (fun j => by show f (8 * 1 + j) = f (8 + j); congr 1)] at q1
  rw [c _ (fun j => f (8 + (8 + j))) (fun j => by show f (8 * 2 + j) = f (8 + (8 + j)); congr 1; omega)] at q2
  rw [c _ (fun j => f (8 + (8 + (8 + j)))) (fun j => by show f (8 * 3 + j) = f (8 + (8 + (8 + j))); congr 1; omega)] at q3
  unfold V32
  rw [show (32 : Nat) = 8 + 24 from rfl, s1, show (24 : Nat) = 8 + 16 from rfl, s2, show (16 : Nat) = 8 + 8 from rfl, s3, ← q0, ← q1, ← q2, ← q3, show (256 : Int) ^ 8 = (18446744073709551616 : Int) by decide]
  unfold val
  omega
structure LH where
  ln : LN
  b32 : F → Prop
  ofW : F → F
  ofN : F → F
  meets : F → Int → Bool
def lhR : LH where
  ln := lnR
  b32 := bd32
  ofW f := words (V32 f)
  ofN f := nb (V32 f)
  meets f b := tgood b && decide (V32 f ≤ tval b)
abbrev H32 (f : F) : A := .agg (.ints .u8 (.lit 32) f)
abbrev KH (f : F) : Blk := ⟨false, .ints .u8 (.lit 32) f⟩
def har1 : List A → Option F
  | [.agg (.ints .u8 (.lit 32) f)] => some f
  | _ => none
def har2 : List A → Option (F × F)
  | [.agg (.ints .u8 (.lit 32) f), .agg (.ints .u8 (.lit 32) g)] => some (f, g)
  | _ => none
def harU : List A → Option (F × Int)
  | [.agg (.ints .u8 (.lit 32) f), .one c] => match c.num? with
    | some (.u32, n, _) => some (f, n)
    | _ => none
  | _ => none
theorem har1_some {l : List A} {f : F} (h : har1 l = some f) : l = [H32 f] := by
  unfold har1 at h
  split at h
  · cases h; rfl
  · cases h
theorem harU_some {l : List A} {f : F} {n : Int} (h : harU l = some (f, n)) : ∃ a u, l = [H32 f, .one a] ∧ a.num? = some (.u32, n, u) := by
  unfold harU at h
  split at h
  · split at h
    · rename_i h1; cases h; exact ⟨_, _, rfl, h1⟩
    · cases h
  · cases h
theorem harU_norm {l : List A} {f : F} {n : Int} (h : harU l = some (f, n)) : harU (l.map A.norm) = some (f, n) := by
  obtain ⟨a, u, rfl, h1⟩ := harU_some h
  rcases num_cases h1 with rfl | rfl <;> rfl
theorem harU_int {l : List A} {f : F} {n : Int} (h : harU l = some (f, n)) (hn : l.map A.norm = l) : l = [H32 f, U32 n] := by
  obtain ⟨a, u, rfl, h1⟩ := harU_some h
  rcases num_cases h1 with rfl | rfl
  · rfl
  · cases hn
theorem harU_spec_norm {g : F → Int → V × List Prop} {s : ESpec} (hs : ∀ l, s l = match harU l with
  | some (f, n) => some (g f n)
  | none => none) : ∀ l r, s l = some r → s (l.map A.norm) = some r := by
  intro l r h
  rw [hs] at h ⊢
  split at h
  · rename_i f n h1
    rw [harU_norm h1]; exact h
  · cases h
def sOfW (l : LH) : ESpec := fun a => match har1 a with
  | some f => some (.a (W (l.ofW f)), [l.b32 f])
  | none => none
def sOfN (l : LH) : ESpec := fun a => match har1 a with
  | some f => some (.a (N40 (l.ofN f)), [l.b32 f])
  | none => none
def sMeets (l : LH) : ESpec := fun a => match harU a with
  | some (f, b) => some (.a (B (l.meets f b)), [l.b32 f, l.ln.l5.u32 b])
  | none => none
def sLawM (l : LH) : ESpec := fun a => match harU a with
  | some (f, b) => some (.a (.one (.lbool true)), [l.b32 f, l.ln.l5.u32 b])
  | none => none
end Go.Eng
namespace Go.Proofs.Ytegcdnjihnpolaa
open Go Go.Eng Go.Proofs Go.RowKit
attribute [local irreducible] CallOk HOk Run TIok rbin rcmp run1 words val updF shfF blitF pv V40 nb wq tgt rb tlim tgood tval cmant bytesOf gk workOf cpt bpart V32
def th0 (l : LH) : Tbl := tbL [] []
theorem th0_ok : TblOk Try.prog (th0 lhR) := tbL_ok (by simp) (by simp)
set_option maxRecDepth 100000 in
theorem of_ok : CallOk Try.prog 92 (sOfW lhR) := by
  refine .of_run (hc := (th0 lhR).hc) Try.func92 rfl (by kernel_rfl) (by kernel_rfl) fun xs v ps hs hp w => ?_
  unfold sOfW at hs
  split at hs
  · rename_i f h
    obtain rfl := har1_some h
    cases hs
    have hf : bd32 f := hp (lhR.b32 f) (by simp)
    clear hp h
    refine run_ex hmix ti_ok th0_ok 0 false 800 [] (fun ar lf => by conv => lhs; cbv) (allP ?_) ?_
    · trivial
    refine Run.cut [2, 3, 6, 7] [7] 3 (by decide) rfl rfl ?_
    refine Run.loop (ι := {p : Int × F // 0 ≤ p.1 ∧ p.1 ≤ 32 ∧ ∀ k, k < 4 → p.2 k = bpart f p.1.toNat k})
      (fun i => ([.any, .any, .a (.one (.ptr 1 (.lit 0))), .a (.one (.ptr 2 (.lit 0))), .any, .any, .a (H32 f), .a (.one (.int .i64 i.1.1))] ++ List.replicate 17 .any, [some (KH f), some (K4 fun _ => 0), some (K4 i.1.2)]))
      (fun i => (32 - i.1.1).toNat) ⟨(0, fun _ => 0), Int.le_refl 0, show (0 : Int) ≤ 32 by decide, fun k _ => (bpart_zero f k).symm⟩ ?_
    rintro ⟨⟨i, q⟩, h0, h1, hq⟩ ih
    simp only at h0 h1 hq
    by_cases hn : i < 32
    · have ei : 0 + i.toNat * 1 = i.toNat := by omega
      have eadd : rbin .add .i64 i 1 = i + 1 := rbin_addi (by omega)
      have eni : (i + 1).toNat = i.toNat + 1 := by omega
      have emu : (32 - rbin .add .i64 i 1).toNat < (32 - i).toNat := by rw [eadd]; omega
      have equo : rbin .quo .i64 i 8 = i / 8 := rbin_quoi h0 (by omega) (by decide)
      have erem : rbin .rem .i64 i 8 = i % 8 := rbin_remi h0
      have emul : rbin .mul .i64 8 (i % 8) = 8 * (i % 8) := rbin_muli (by omega)
      have hfi := hf i.toNat (by omega)
      have econ : IntKind.u64.wrap (f i.toNat) = f i.toNat := by rw [wrap_u64]; omega
      have hk : (i / 8).toNat = i.toNat / 8 := by omega
      obtain ⟨b0, b1⟩ := bpart_bd hf (i := i.toNat) (k := i.toNat / 8) (by omega)
      rw [show min (i.toNat - 8 * (i.toNat / 8)) 8 = i.toNat % 8 by omega, pow256] at b1
      have hsm : f i.toNat * p2 (8 * (i.toNat % 8)) < (18446744073709551616 : Int) := by
        have h2 : f i.toNat * p2 (8 * (i.toNat % 8)) < 256 * p2 (8 * (i.toNat % 8)) := Int.mul_lt_mul_of_pos_right hfi.2 (p2_pos _)
        have h3 : 256 * p2 (8 * (i.toNat % 8)) ≤ (18446744073709551616 : Int) := by
          rw [← p2_64, show (256 : Int) = p2 8 by decide, ← p2_add]; exact p2_le (by omega)
        omega
      have eshl : rbin .shl .u64 (f i.toNat) (8 * (i % 8)) = f i.toNat * p2 (8 * (i.toNat % 8)) := by
        rw [rbin_shl (m := 8 * (i.toNat % 8)) _ (by omega)]
        exact Int.emod_eq_of_lt (Int.mul_nonneg hfi.1 (Int.le_of_lt (p2_pos _))) hsm
      have ev : ∀ x, x = i.toNat / 8 → rbin .or .u64 (q x) (f i.toNat * p2 (8 * (i.toNat % 8))) = bpart f (i.toNat + 1) (i.toNat / 8) := by
        intro x hx
        rw [hx, hq _ (by omega), rbin64_or (by omega) hfi.1 hsm b0 b1, bpart_step, pow256]
      refine run_ex hmix ti_ok th0_ok 2 false 800 [true] (fun ar lf => by conv => lhs; cbv) (allP ?_) ?_
      · simp only [conj, arR, N.val, rcmp_lss', ei, equo, erem, emul, econ, decide_eq_true_eq]
        and_intros <;> first | trivial | omega
      · refine Run.cut [2, 3, 6, 7] [7] 3 (by decide) rfl rfl ?_
        refine ih ⟨(_, _), ?_, ?_, ?_⟩ emu _ _
        · simp only [eadd]; omega
        · simp only [eadd]; omega
        · simp only [arR, N.val, ei, equo, erem, emul, econ, eshl, eadd, eni]
          intro k hk4
          rw [updF_at, ev _ (by omega)]
          split
          · rename_i h; rw [h, Nat.zero_add, Nat.mul_one, hk]
          · rw [hq k hk4]; exact (bpart_other f (by omega)).symm
    · obtain rfl : i = 32 := by omega
      refine run_ex hmix ti_ok th0_ok 2 false 800 [false] (fun ar lf => by conv => lhs; cbv) (allP ?_) ?_
      · simp only [conj, arR, rcmp_lss']
        decide
      · refine Run.ret ti_ok rfl rfl (.a (.ints fun j hj => ?_))
        show q j = words (V32 f) j
        have hj : j < 4 := hj
        have hqb : bd q := fun k hk => by
          have := bpart_bd hf (i := 32) (k := k) hk
          rw [hq k hk]
          have e : (256 : Int) ^ min (32 - 8 * k) 8 = (18446744073709551616 : Int) := by rw [show min (32 - 8 * k) 8 = 8 by omega]; decide
          rw [e] at this; exact this
        rw [← bpart_all hq]
        exact (words_val hqb j hj).symm
  · cases hs
end Go.Proofs.Ytegcdnjihnpolaa
