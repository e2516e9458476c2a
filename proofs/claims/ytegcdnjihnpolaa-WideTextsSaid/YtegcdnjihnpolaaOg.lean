import Derived.Test.YtegcdnjihnpolaaOe
import Derived.Test.YtegcdnjihnpolaaUo
import Derived.Test.YtegcdnjihnpolaaEy
set_option linter.unusedSimpArgs false
set_option linter.unusedVariables false
namespace Go.Eng
open Go
/-- a byte of a number's words -/
def byteW (f : F) (j : Nat) : Int := f (j / 8) / p2 (8 * (j % 8)) % 256
/-- bytes from the last to the first -/
def turnF (f : F) : F := fun j => f (31 - j)
def hexD : ByteArray := ⟨#[48, 49, 50, 51, 52, 53, 54, 55, 56, 57, 97, 98, 99, 100, 101, 102]⟩
def hexc (d : Int) : Int := (hexD[d.toNat]?.getD 0).toNat
def hexN (s : ByteArray) (p : Nat) : Int := hexc (if p % 2 = 0 then ((s[p / 2]?.getD 0).toNat : Int) / 16 else ((s[p / 2]?.getD 0).toNat : Int) % 16)
def hexS (s : ByteArray) : ByteArray := strOf (hexN s) (2 * s.size)
def rhexN (f : F) (p : Nat) : Int := hexc (f ((63 - p) / 16) / p2 (4 * ((63 - p) % 16)) % 16)
structure LY where
  w : LW
  h : LH
  bytes : F → F
  turn : F → F
  hfit : ByteArray → Prop
  hexS : ByteArray → ByteArray
  htxt : F → ByteArray
  whex : F → ByteArray
def lyR : LY where
  w := lwR
  h := lhR
  bytes := byteW
  turn := turnF
  hfit s := 0 < s.size ∧ s.size ≤ 1099511627776
  hexS := Go.Eng.hexS
  htxt f := Go.Eng.hexS (strOf (turnF f) 32)
  whex f := strOf (rhexN f) 64
def sBytes (l : LY) : ESpec := fun a => match arr1 a with
  | some f => some (.a (H32 (l.bytes f)), [l.w.t.lf.bd f])
  | none => none
def sTurn (l : LY) : ESpec := fun a => match har1 a with
  | some f => some (.a (H32 (l.turn f)), [])
  | none => none
def sHexS (l : LY) : ESpec := fun a => match str1 a with
  | some s => some (.a (.one (.str (l.hexS s))), [l.hfit s])
  | none => none
def sHText (l : LY) : ESpec := fun a => match har1 a with
  | some f => some (.a (.one (.str (l.htxt f))), [l.h.b32 f])
  | none => none
def sWHex (l : LY) : ESpec := fun a => match arr1 a with
  | some f => some (.a (.one (.str (l.whex f))), [l.w.t.lf.bd f])
  | none => none
end Go.Eng
namespace Go.Proofs.Ytegcdnjihnpolaa
open Go Go.Eng Go.Proofs Go.RowKit
attribute [local irreducible] CallOk HOk Run Mid TIok rbin rcmp run1 words val updF shfF blitF strOf textOf ndig goP parseP pdig pv bpart V32
theorem lyw : lyR.w = lwR := rfl
theorem lyh : lyR.h = lhR := rfl
theorem rcmp_lsb (x y : Int) : rcmp .lss x y = decide (x < y) := by unfold rcmp; rfl
def tq0 (l : LY) : Tbl := tbL [] []
theorem tq0_ok : TblOk Try.prog (tq0 lyR) := tbL_ok (by simp) (by simp)
/-- one more byte -/
theorem bytes_step {f q : F} {i : Int} (h0 : 0 ≤ i) (h1 : i < 32) {v : Int} (hv : v = byteW f i.toNat) {m : Nat} (hm : m = i.toNat) (hq : ∀ k, k < 32 → q k = if k < i.toNat then byteW f k else 0) :
    ∀ k, k < 32 → updF q m v k = if k < (i + 1).toNat then byteW f k else 0 := by
  intro k hk
  subst hm hv
  rw [updF_at]
  split
  · rename_i h; subst h; rw [if_pos (by omega)]
  · rw [hq k hk]
    by_cases h : k < i.toNat
    · rw [if_pos h, if_pos (by omega)]
    · rw [if_neg h, if_neg (by omega)]
theorem byte_val {f : F} {i : Int} (h0 : 0 ≤ i) (h1 : i < 32) {x : Int} (hx : x = f (i.toNat / 8)) : IntKind.u8.wrap (rbin .shr .u64 x (8 * (i % 8))) = byteW f i.toNat := by
  rw [rbin_shr (m := 8 * (i.toNat % 8)) _ (by omega), wrap_u8, hx]
  rfl
set_option maxRecDepth 100000 in
theorem bytes_ok : CallOk Try.prog 90 (sBytes lyR) := by
  refine .of_run (hc := (tq0 lyR).hc) Try.func90 rfl (by kernel_rfl) (by kernel_rfl) fun xs v ps hs hp w => ?_
  unfold sBytes at hs
  split at hs
  · rename_i f h
    obtain rfl := arr1_some h
    cases hs
    have hf : bd f := hp (lfR.bd f) (by simp [lyw, lwt, ltlf])
    clear hp h
    refine run_ex hmix ti_ok tq0_ok 0 false 800 [] (fun ar lf => by conv => lhs; cbv) (allP ?_) ?_
    · trivial
    refine Run.cut [1, 2, 3, 5] [5] 3 (by decide) rfl rfl ?_
    refine Run.loop (ι := {p : Int × F // 0 ≤ p.1 ∧ p.1 ≤ 32 ∧ ∀ k, k < 32 → p.2 k = if k < p.1.toNat then byteW f k else 0})
      (fun i => ([.any, .a (.one (.ptr 0 (.lit 0))), .a (.one (.ptr 1 (.lit 0))), .a (.one (.ptr 2 (.lit 0))), .any, .a (.one (.int .i64 i.1.1))] ++ List.replicate 15 .any, [some (K4 f), some (KH fun _ => 0), some (KH i.1.2)]))
      (fun i => (32 - i.1.1).toNat) ⟨(0, fun _ => 0), Int.le_refl 0, show (0 : Int) ≤ 32 by decide, fun k _ => (if_neg (Nat.not_lt_zero k)).symm⟩ ?_
    rintro ⟨⟨i, q⟩, h0, h1, hq⟩ ih
    simp only at h0 h1 hq
    by_cases hn : i < 32
    · have ei : 0 + i.toNat * 1 = i.toNat := by omega
      have eadd : rbin .add .i64 i 1 = i + 1 := rbin_addi (by omega)
      have equo : rbin .quo .i64 i 8 = i / 8 := rbin_quoi h0 (by omega) (by decide)
      have erem : rbin .rem .i64 i 8 = i % 8 := rbin_remi h0
      have emul : rbin .mul .i64 8 (i % 8) = 8 * (i % 8) := rbin_muli (by omega)
      have hk : (i / 8).toNat = i.toNat / 8 := by omega
      refine run_ex hmix ti_ok tq0_ok 2 false 800 [true] (fun ar lf => by conv => lhs; cbv) (allP ?_) ?_
      · simp only [conj, arR, N.val, rcmp_lsb, ei, equo, erem, emul, decide_eq_true_eq]
        and_intros <;> first | trivial | omega
      · refine Run.cut [1, 2, 3, 5] [5] 3 (by decide) rfl rfl ?_
        refine ih ⟨(_, _), ?_, ?_, ?_⟩ ?_ _ _
        · simp only [eadd]; omega
        · simp only [eadd]; omega
        · simp only [arR, N.val, ei, equo, erem, emul, eadd]
          exact bytes_step h0 hn (byte_val h0 hn (by rw [show 0 + (i / 8).toNat * 1 = i.toNat / 8 by omega])) (by omega) hq
        · simp only [eadd]; omega
    · obtain rfl : i = 32 := by omega
      refine run_ex hmix ti_ok tq0_ok 2 false 800 [false] (fun ar lf => by conv => lhs; cbv) (allP ?_) ?_
      · simp only [conj, arR, rcmp_lsb]
        decide
      · refine Run.ret ti_ok rfl rfl (.a (.ints fun j hj => ?_))
        have hj : j < 32 := hj
        show q j = byteW f j
        exact (hq j hj).trans (if_pos hj)
  · cases hs
set_option maxRecDepth 100000 in
theorem rbytes_ok : CallOk Try.prog 91 (sBytes lyR) := by
  refine .of_run (hc := (tq0 lyR).hc) Try.func91 rfl (by kernel_rfl) (by kernel_rfl) fun xs v ps hs hp w => ?_
  unfold sBytes at hs
  split at hs
  · rename_i f h
    obtain rfl := arr1_some h
    cases hs
    have hf : bd f := hp (lfR.bd f) (by simp [lyw, lwt, ltlf])
    clear hp h
    refine run_ex hmix ti_ok tq0_ok 0 false 800 [] (fun ar lf => by conv => lhs; cbv) (allP ?_) ?_
    · trivial
    refine Run.cut [1, 2, 3, 4] [4] 3 (by decide) rfl rfl ?_
    refine Run.loop (ι := {p : Int × F // 0 ≤ p.1 ∧ p.1 ≤ 32 ∧ ∀ k, k < 32 → p.2 k = if k < p.1.toNat then byteW f k else 0})
      (fun i => ([.any, .a (.one (.ptr 0 (.lit 0))), .a (.one (.ptr 1 (.lit 0))), .a (.one (.ptr 2 (.lit 0))), .a (.one (.int .i64 i.1.1))] ++ List.replicate 17 .any, [some (K4 f), some (KH fun _ => 0), some (KH i.1.2)]))
      (fun i => (32 - i.1.1).toNat) ⟨(0, fun _ => 0), Int.le_refl 0, show (0 : Int) ≤ 32 by decide, fun k _ => (if_neg (Nat.not_lt_zero k)).symm⟩ ?_
    rintro ⟨⟨i, q⟩, h0, h1, hq⟩ ih
    simp only at h0 h1 hq
    by_cases hn : i < 32
    · have ei : 0 + i.toNat * 1 = i.toNat := by omega
      have eadd : rbin .add .i64 i 1 = i + 1 := rbin_addi (by omega)
      have equo : rbin .quo .i64 i 8 = i / 8 := rbin_quoi h0 (by omega) (by decide)
      have erem : rbin .rem .i64 i 8 = i % 8 := rbin_remi h0
      have emul : rbin .mul .i64 8 (i % 8) = 8 * (i % 8) := rbin_muli (by omega)
      have hk : (i / 8).toNat = i.toNat / 8 := by omega
      refine run_ex hmix ti_ok tq0_ok 2 false 800 [true] (fun ar lf => by conv => lhs; cbv) (allP ?_) ?_
      · simp only [conj, arR, N.val, rcmp_lsb, ei, equo, erem, emul, decide_eq_true_eq]
        and_intros <;> first | trivial | omega
      · refine Run.cut [1, 2, 3, 4] [4] 3 (by decide) rfl rfl ?_
        refine ih ⟨(_, _), ?_, ?_, ?_⟩ ?_ _ _
        · simp only [eadd]; omega
        · simp only [eadd]; omega
        · simp only [arR, N.val, ei, equo, erem, emul, eadd]
          exact bytes_step h0 hn (byte_val h0 hn (by rw [show 0 + (i / 8).toNat * 1 = i.toNat / 8 by omega])) (by omega) hq
        · simp only [eadd]; omega
    · obtain rfl : i = 32 := by omega
      refine run_ex hmix ti_ok tq0_ok 2 false 800 [false] (fun ar lf => by conv => lhs; cbv) (allP ?_) ?_
      · simp only [conj, arR, rcmp_lsb]
        decide
      · refine Run.ret ti_ok rfl rfl (.a (.ints fun j hj => ?_))
        have hj : j < 32 := hj
        show q j = byteW f j
        exact (hq j hj).trans (if_pos hj)
  · cases hs
set_option maxRecDepth 100000 in
theorem turn_ok : CallOk Try.prog 129 (sTurn lyR) := by
  refine .of_run (hc := (tq0 lyR).hc) Try.func129 rfl (by kernel_rfl) (by kernel_rfl) fun xs v ps hs hp w => ?_
  unfold sTurn at hs
  split at hs
  · rename_i f h
    obtain rfl := har1_some h
    cases hs
    clear hp h
    refine run_ex hmix ti_ok tq0_ok 0 false 800 [] (fun ar lf => by conv => lhs; cbv) (allP ?_) ?_
    · trivial
    refine Run.cut [2, 3, 6, 7] [7] 3 (by decide) rfl rfl ?_
    refine Run.loop (ι := {p : Int × F // 0 ≤ p.1 ∧ p.1 ≤ 32 ∧ ∀ k, k < 32 → p.2 k = if 31 - k < p.1.toNat then f (31 - k) else 0})
      (fun i => ([.any, .any, .a (.one (.ptr 1 (.lit 0))), .a (.one (.ptr 2 (.lit 0))), .any, .any, .a (H32 f), .a (.one (.int .i64 i.1.1))] ++ List.replicate 9 .any, [some (KH f), some (KH fun _ => 0), some (KH i.1.2)]))
      (fun i => (32 - i.1.1).toNat) ⟨(0, fun _ => 0), Int.le_refl 0, show (0 : Int) ≤ 32 by decide, fun k _ => (if_neg (Nat.not_lt_zero _)).symm⟩ ?_
    rintro ⟨⟨i, q⟩, h0, h1, hq⟩ ih
    simp only at h0 h1 hq
    by_cases hn : i < 32
    · have ei : 0 + i.toNat * 1 = i.toNat := by omega
      have eadd : rbin .add .i64 i 1 = i + 1 := rbin_addi (by omega)
      have esub : rbin .sub .i64 31 i = 31 - i := rbin_subi (by omega)
      refine run_ex hmix ti_ok tq0_ok 2 false 800 [true] (fun ar lf => by conv => lhs; cbv) (allP ?_) ?_
      · simp only [conj, arR, N.val, rcmp_lsb, ei, esub, decide_eq_true_eq]
        and_intros <;> first | trivial | omega
      · refine Run.cut [2, 3, 6, 7] [7] 3 (by decide) rfl rfl ?_
        refine ih ⟨(_, _), ?_, ?_, ?_⟩ ?_ _ _
        · simp only [eadd]; omega
        · simp only [eadd]; omega
        · simp only [arR, N.val, ei, esub, eadd]
          intro k hk
          rw [updF_at]
          split
          · rename_i h
            rw [if_pos (by omega)]
            congr 1; omega
          · rw [hq k hk]
            by_cases h : 31 - k < i.toNat
            · rw [if_pos h, if_pos (by omega)]
            · rw [if_neg h, if_neg (by omega)]
        · simp only [eadd]; omega
    · obtain rfl : i = 32 := by omega
      refine run_ex hmix ti_ok tq0_ok 2 false 800 [false] (fun ar lf => by conv => lhs; cbv) (allP ?_) ?_
      · simp only [conj, arR, rcmp_lsb]
        decide
      · refine Run.ret ti_ok rfl rfl (.a (.ints fun j hj => ?_))
        have hj : j < 32 := hj
        show q j = f (31 - j)
        exact (hq j hj).trans (if_pos (show 31 - j < 32 by omega))
  · cases hs
end Go.Proofs.Ytegcdnjihnpolaa
