import Derived.Test.YtjiciplcdklfcaaDoorMa
set_option linter.unusedSimpArgs false
set_option linter.unusedVariables false
namespace Go.Eng
open Go
abbrev Fn8 := Nat → Int
def rotr (x n : Int) : Int := rbin .or .u32 (rbin .shl .u32 x (32 - n)) (rbin .shr .u32 x n)
def rotns : List Int := [2, 6, 7, 11, 13, 17, 18, 19, 22, 25]
def rotn (n : Int) : Prop := n ∈ rotns
def isU32 (x : Int) : Prop := 0 ≤ x ∧ x < 4294967296
def isU32s (n : Nat) (f : Fn8) : Prop := ∀ j, j < n → 0 ≤ f j ∧ f j < 4294967296
def isU8s (n : Nat) (f : Fn8) : Prop := ∀ j, j < n → 0 ≤ f j ∧ f j < 256
def W16 (b : Fn8) (i : Nat) : Int := b (4 * i) * 16777216 + b (4 * i + 1) * 65536 + b (4 * i + 2) * 256 + b (4 * i + 3)
def sg (p q r a : Int) : Int := rbin .xor .u32 (rbin .xor .u32 (rotr a p) (rotr a q)) (rbin .shr .u32 a r)
def wt (b : Fn8) (t : Nat) : Int := if h : t < 16 then W16 b t else
  rbin .add .u32 (rbin .add .u32 (rbin .add .u32 (sg 17 19 10 (wt b (t - 2))) (wt b (t - 7))) (sg 7 18 3 (wt b (t - 15)))) (wt b (t - 16))
  termination_by t
def KT : List Int := [0x428a2f98, 0x71374491, 0xb5c0fbcf, 0xe9b5dba5, 0x3956c25b, 0x59f111f1, 0x923f82a4, 0xab1c5ed5, 0xd807aa98, 0x12835b01, 0x243185be, 0x550c7dc3, 0x72be5d74, 0x80deb1fe, 0x9bdc06a7, 0xc19bf174,
  0xe49b69c1, 0xefbe4786, 0x0fc19dc6, 0x240ca1cc, 0x2de92c6f, 0x4a7484aa, 0x5cb0a9dc, 0x76f988da, 0x983e5152, 0xa831c66d, 0xb00327c8, 0xbf597fc7, 0xc6e00bf3, 0xd5a79147, 0x06ca6351, 0x14292967,
  0x27b70a85, 0x2e1b2138, 0x4d2c6dfc, 0x53380d13, 0x650a7354, 0x766a0abb, 0x81c2c92e, 0x92722c85, 0xa2bfe8a1, 0xa81a664b, 0xc24b8b70, 0xc76c51a3, 0xd192e819, 0xd6990624, 0xf40e3585, 0x106aa070,
  0x19a4c116, 0x1e376c08, 0x2748774c, 0x34b0bcb5, 0x391c0cb3, 0x4ed8aa4a, 0x5b9cca4f, 0x682e6ff3, 0x748f82ee, 0x78a5636f, 0x84c87814, 0x8cc70208, 0x90befffa, 0xa4506ceb, 0xbef9a3f7, 0xc67178f2]
def kt (t : Nat) : Int := KT.getD t 0
def sig (p q r a : Int) : Int := rbin .xor .u32 (rbin .xor .u32 (rotr a p) (rotr a q)) (rotr a r)
def ch (e f g : Int) : Int := rbin .xor .u32 (rbin .and .u32 e f) (rbin .and .u32 (run1 .xor .u32 e) g)
def maj (a b c : Int) : Int := rbin .xor .u32 (rbin .xor .u32 (rbin .and .u32 a b) (rbin .and .u32 a c)) (rbin .and .u32 b c)
def t1 (k w : Int) (y : Fn8) : Int := rbin .add .u32 (rbin .add .u32 (rbin .add .u32 (rbin .add .u32 (y 7) (sig 6 11 25 (y 4))) (ch (y 4) (y 5) (y 6))) k) w
def rnd (k w : Int) (y : Fn8) : Fn8 := fun j => match j with
  | 0 => rbin .add .u32 (rbin .add .u32 (t1 k w y) (sig 2 13 22 (y 0))) (maj (y 0) (y 1) (y 2))
  | 1 => y 0
  | 2 => y 1
  | 3 => y 2
  | 4 => rbin .add .u32 (y 3) (t1 k w y)
  | 5 => y 4
  | 6 => y 5
  | 7 => y 6
  | _ => 0
def rnds (b x : Fn8) : Nat → Fn8
  | 0 => x
  | t + 1 => rnd (kt t) (wt b t) (rnds b x t)
def stepS (x b : Fn8) : Fn8 := fun j => rbin .add .u32 (rnds b x 64 j) (x j)
def IV : List Int := [0x6a09e667, 0xbb67ae85, 0x3c6ef372, 0xa54ff53a, 0x510e527f, 0x9b05688c, 0x1f83d9ab, 0x5be0cd19]
def iv (t : Nat) : Int := IV.getD t 0
structure LS where
  rotl : Int → Int → Int
  rotln : Int → Prop
  rotr : Int → Int → Int
  rotn : Int → Prop
  u32 : Int → Prop
  u32s : Nat → Fn8 → Prop
  u8s : Nat → Fn8 → Prop
  kt : Fn8
  iv : Fn8
  wt : Fn8 → Fn8
  step : Fn8 → Fn8 → Fn8
def lsR : LS where
  rotl x n := rotr x (-n)
  rotln n := rotn (-n)
  rotr := rotr
  rotn := rotn
  u32 := isU32
  u32s := isU32s
  u8s := isU8s
  kt := kt
  iv := iv
  wt := wt
  step := stepS

def aF (k : IntKind) (n : Nat) (f : Fn8) : A := .agg (.ints k (.lit n) f)
/-- the number of kind k that an argument is -/
def numA (k : IntKind) : A → Option Int
  | .one c => numK k c
  | _ => none
theorem numA_norm {k : IntKind} {a : A} {n : Int} (h : numA k a = some n) : numA k a.norm = some n := by
  cases a with
  | one c => cases c <;> first | exact h | cases h
  | agg g => cases h
theorem numA_int {k : IntKind} {a : A} {n : Int} (h : numA k a = some n) (hn : a.norm = a) : a = .one (.int k n) := by
  cases a with
  | agg g => cases h
  | one c =>
    cases c <;> simp only [numA, numK, C.num?] at h <;> first | (cases hn; done) | (cases h; done) | skip
    split at h
    · rename_i hk
      simp only [Option.some.injEq] at h
      rw [kindEq_eq hk, h]
    · cases h
theorem numA_lit (k : IntKind) (n : Int) : numA k (.one (.lit k n)) = some n := by
  cases k <;> rfl
end Go.Eng
namespace Go.Proofs.YtjiciplcdklfcaaDoor
open Go Go.Eng Go.Proofs Go.RowKit
attribute [local irreducible] CallOk HOk Run TIok rbin rcmp run1 updF shfF blitF
def sRotL (lf : LS) : ESpec := fun l => match l with
  | [a, b] => match numA .u32 a, numA .i64 b with
    | some x, some n => some (.a (.one (.int .u32 (lf.rotl x n))), [lf.u32 x, lf.rotln n])
    | _, _ => none
  | _ => none
def sRot (lf : LS) : ESpec := fun l => match l with
  | [a, b] => match numA .u32 a, numA .i64 b with
    | some x, some n => some (.a (.one (.int .u32 (lf.rotr x n))), [lf.u32 x, lf.rotn n])
    | _, _ => none
  | _ => none
theorem sRotL_norm : ∀ l r, sRotL lsR l = some r → sRotL lsR (l.map A.norm) = some r := by
  intro l r h
  unfold sRotL at h ⊢
  split at h
  · rename_i a b
    split at h
    · rename_i x n h1 h2
      simp only [List.map_cons, List.map_nil, numA_norm h1, numA_norm h2]; exact h
    · cases h
  · cases h
theorem sRot_norm : ∀ l r, sRot lsR l = some r → sRot lsR (l.map A.norm) = some r := by
  intro l r h
  unfold sRot at h ⊢
  split at h
  · rename_i a b
    split at h
    · rename_i x n h1 h2
      simp only [List.map_cons, List.map_nil, numA_norm h1, numA_norm h2]; exact h
    · cases h
  · cases h
def tbs0 (lf : LS) : Tbl := tbL [] []
theorem tbs0_ok : TblOk Tryd.prog (tbs0 lsR) := tbL_ok (by simp) (by simp)
theorem rot_and (n : Int) (h : rotn (-n)) : rbin .and .u64 (IntKind.u64.wrap n) 31 = 32 + n ∧ rbin .sub .u64 32 (32 + n) = -n ∧ (0 : Int) ≤ 32 + n ∧ 0 ≤ -n := by
  have h : -n ∈ [(2 : Int), 6, 7, 11, 13, 17, 18, 19, 22, 25] := h
  simp only [List.mem_cons, List.not_mem_nil, or_false] at h
  have e : n = -2 ∨ n = -6 ∨ n = -7 ∨ n = -11 ∨ n = -13 ∨ n = -17 ∨ n = -18 ∨ n = -19 ∨ n = -22 ∨ n = -25 := by omega
  unfold rbin
  rcases e with rfl | rfl | rfl | rfl | rfl | rfl | rfl | rfl | rfl | rfl <;> decide
theorem rotl_ok : CallOk Tryd.prog 90 (sRotL lsR) := by
  refine .nrm sRotL_norm (.eval (tb := tbs0) hmix ti_ok tbs0_ok Tryd.func90 rfl (by kernel_rfl) (by kernel_rfl) fun xs v ps h1 hp => ?_)
  split at h1
  · rename_i hn
    unfold sRotL at h1
    split at h1
    · rename_i a b
      split at h1
      · rename_i x n e1 e2
        simp only [List.map_cons, List.map_nil, List.cons.injEq, and_true] at hn
        obtain rfl := numA_int e1 hn.1
        obtain rfl := numA_int e2 hn.2
        cases h1
        have hx : isU32 x := hp (lsR.u32 x) (by simp)
        have hr : rotn (-n) := hp (lsR.rotln n) (by simp)
        obtain ⟨r1, r2, r3, r4⟩ := rot_and n hr
        refine ⟨400, [], _, fun ar lf => by conv => lhs; cbv, ?_, ?_⟩
        · refine allP ?_
          simp only [conj, arR, r1, r2, and_true]
          exact ⟨r4, r3⟩
        · refine .a (.int ?_)
          simp only [arR, r1, r2, lsR, rotr]
          rw [show 32 - -n = 32 + n by omega]
      · cases h1
    · cases h1
  · cases h1
def tbs1 (lf : LS) : Tbl := tbL [(90, sRotL lf)] []
theorem tbs1_ok : TblOk Tryd.prog (tbs1 lsR) := tbL_ok (by simpa using rotl_ok) (by simp)
theorem turned_ok : CallOk Tryd.prog 86 (sRot lsR) := by
  refine .nrm sRot_norm (.eval (tb := tbs1) hmix ti_ok tbs1_ok Tryd.func86 rfl (by kernel_rfl) (by kernel_rfl) fun xs v ps h1 hp => ?_)
  split at h1
  · rename_i hn
    unfold sRot at h1
    split at h1
    · rename_i a b
      split at h1
      · rename_i x n e1 e2
        simp only [List.map_cons, List.map_nil, List.cons.injEq, and_true] at hn
        obtain rfl := numA_int e1 hn.1
        obtain rfl := numA_int e2 hn.2
        cases h1
        have hx : isU32 x := hp (lsR.u32 x) (by simp)
        have hr : rotn n := hp (lsR.rotn n) (by simp)
        have hneg : run1 .neg .i64 n = -n := by
          have h : n ∈ [(2 : Int), 6, 7, 11, 13, 17, 18, 19, 22, 25] := hr
          simp only [List.mem_cons, List.not_mem_nil, or_false] at h
          unfold run1
          rcases h with rfl | rfl | rfl | rfl | rfl | rfl | rfl | rfl | rfl | rfl <;> decide
        refine ⟨400, [], _, fun ar lf => by conv => lhs; cbv, ?_, ?_⟩
        · refine allP ?_
          simp only [conj, arR, and_true, hneg, lsR, Int.neg_neg]
          exact ⟨hx, hr⟩
        · refine .a (.int ?_)
          simp only [arR, hneg, lsR, Int.neg_neg]
      · cases h1
    · cases h1
  · cases h1
theorem rbin_or_comm (x y : Int) : rbin .or .u32 x y = rbin .or .u32 y x := by
  unfold rbin
  simp only [BitVec.or_comm]
theorem turn_ok : CallOk Tryd.prog 80 (sRot lsR) := by
  refine .nrm sRot_norm (.eval (tb := tbs0) hmix ti_ok tbs0_ok Tryd.func80 rfl (by kernel_rfl) (by kernel_rfl) fun xs v ps h1 hp => ?_)
  split at h1
  · rename_i hn
    unfold sRot at h1
    split at h1
    · rename_i a b
      split at h1
      · rename_i x n e1 e2
        simp only [List.map_cons, List.map_nil, List.cons.injEq, and_true] at hn
        obtain rfl := numA_int e1 hn.1
        obtain rfl := numA_int e2 hn.2
        cases h1
        have hx : isU32 x := hp (lsR.u32 x) (by simp)
        have hr : rotn n := hp (lsR.rotn n) (by simp)
        have h2 : 0 ≤ n ∧ n < 32 := by
          have h : n ∈ [(2 : Int), 6, 7, 11, 13, 17, 18, 19, 22, 25] := hr
          simp only [List.mem_cons, List.not_mem_nil, or_false] at h
          omega
        have hsub : rbin .sub .i64 32 n = 32 - n := subi (by omega) (by omega)
        refine ⟨400, [], _, fun ar lf => by conv => lhs; cbv, ?_, ?_⟩
        · refine allP ?_
          simp only [conj, arR, and_true, hsub, lsR]
          omega
        · refine .a (.int ?_)
          simp only [arR, hsub, lsR, rotr]
          exact rbin_or_comm _ _
      · cases h1
    · cases h1
  · cases h1
end Go.Proofs.YtjiciplcdklfcaaDoor
