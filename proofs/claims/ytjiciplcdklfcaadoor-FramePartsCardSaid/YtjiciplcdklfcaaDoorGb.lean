import Derived.Test.YtjiciplcdklfcaaDoorGa
import Derived.Test.YtjiciplcdklfcaaDoorMj
set_option linter.unusedSimpArgs false
set_option linter.unusedVariables false
namespace Go.Eng
open Go
theorem or_add32 {x y : Int} (k K : Nat) (hK : K = 2 ^ k) (hx : 0 ≤ x ∧ x < K) (a : Nat) (hy : y = (K : Int) * (a : Int)) (hs : x + y < 4294967296) : rbin .or .u32 x y = x + y := by
  obtain ⟨x', rfl⟩ := Int.eq_ofNat_of_zero_le hx.1
  have hy' : y = ((K * a : Nat) : Int) := by rw [hy]; simp
  subst hy'
  have hxl : x' < 2 ^ k := by rw [← hK]; omega
  show IntKind.u32.wrap ((BitVec.ofInt 32 (x' : Int) ||| BitVec.ofInt 32 ((K * a : Nat) : Int)).toNat : Nat) = _
  have e1 : (BitVec.ofInt 32 (x' : Int)).toNat = x' := by rw [BitVec.toNat_ofInt]; omega
  have e2 : (BitVec.ofInt 32 ((K * a : Nat) : Int)).toNat = K * a := by rw [BitVec.toNat_ofInt]; omega
  rw [BitVec.toNat_or, e1, e2, hK, Nat.or_comm, ← Nat.two_pow_add_eq_or_of_lt hxl]
  have hsum : 2 ^ k * a + x' < 4294967296 := by
    rw [← hK]; omega
  have : IntKind.u32.wrap ((2 ^ k * a + x' : Nat) : Int) = ((2 ^ k * a + x' : Nat) : Int) := by
    show ((2 ^ k * a + x' : Nat) : Int) % 4294967296 = _
    omega
  rw [this]
  omega
theorem shl32 (x n : Int) : rbin .shl .u32 x n = (x * 2 ^ (min n.toNat 32)) % 4294967296 := rfl
theorem shr32 (x n : Int) : rbin .shr .u32 x n = x.fdiv (2 ^ (min n.toNat 32)) := rfl
def get4 (s : ByteArray) : Int := (leV (s.data.toList.take 4) : Nat)
def twb (s : ByteArray) : Nat → Int := sha (arR.txt (sha s) 32)
def sumV (s : ByteArray) : Int := get4 (arR.txt (twb s) 4)
theorem ext_list (b : ByteArray) (i j : Nat) : (b.extract i j).data.toList = (b.data.toList.take j).drop i := by
  rw [ByteArray.data_extract, Array.toList_extract, List.extract_eq_take_drop]
  rw [← List.drop_take]
theorem get_four {b0 b1 b2 b3 : UInt8} : rbin .or .u32 (rbin .or .u32 (rbin .or .u32 (b0.toNat : Nat) (rbin .shl .u32 (b1.toNat : Nat) 8)) (rbin .shl .u32 (b2.toNat : Nat) 16)) (rbin .shl .u32 (b3.toNat : Nat) 24) = (leV [b0, b1, b2, b3] : Nat) := by
  have h0 := b0.toNat_lt; have h1 := b1.toNat_lt; have h2 := b2.toNat_lt; have h3 := b3.toNat_lt
  have f1 : rbin .shl .u32 (b1.toNat : Nat) 8 = ((256 * b1.toNat : Nat) : Int) := by
    rw [shl32, show (2 : Int) ^ (min (8 : Int).toNat 32) = 256 by decide]; omega
  have f2 : rbin .shl .u32 (b2.toNat : Nat) 16 = ((65536 * b2.toNat : Nat) : Int) := by
    rw [shl32, show (2 : Int) ^ (min (16 : Int).toNat 32) = 65536 by decide]; omega
  have f3 : rbin .shl .u32 (b3.toNat : Nat) 24 = ((16777216 * b3.toNat : Nat) : Int) := by
    rw [shl32, show (2 : Int) ^ (min (24 : Int).toNat 32) = 16777216 by decide]; omega
  rw [f1, f2, f3]
  have g1 : rbin .or .u32 (b0.toNat : Nat) ((256 * b1.toNat : Nat) : Int) = (b0.toNat : Nat) + ((256 * b1.toNat : Nat) : Int) := or_add32 8 256 rfl (by omega) b1.toNat (by simp) (by omega)
  have g2 : rbin .or .u32 ((b0.toNat : Nat) + ((256 * b1.toNat : Nat) : Int)) ((65536 * b2.toNat : Nat) : Int) = (b0.toNat : Nat) + ((256 * b1.toNat : Nat) : Int) + ((65536 * b2.toNat : Nat) : Int) := or_add32 16 65536 rfl (by omega) b2.toNat (by simp) (by omega)
  have g3 : rbin .or .u32 ((b0.toNat : Nat) + ((256 * b1.toNat : Nat) : Int) + ((65536 * b2.toNat : Nat) : Int)) ((16777216 * b3.toNat : Nat) : Int) = (b0.toNat : Nat) + ((256 * b1.toNat : Nat) : Int) + ((65536 * b2.toNat : Nat) : Int) + ((16777216 * b3.toNat : Nat) : Int) := or_add32 24 16777216 rfl (by omega) b3.toNat (by simp) (by omega)
  rw [g1, g2, g3]
  simp only [leV]
  omega
theorem four_take : ∀ {l : List UInt8} (h : 4 ≤ l.length) (h0 : 0 < l.length) (h1 : 1 < l.length) (h2 : 2 < l.length) (h3 : 3 < l.length), ((leV [l[0], l[1], l[2], l[3]] : Nat) : Int) = (leV (l.take 4) : Nat)
  | _ :: _ :: _ :: _ :: _, _, _, _, _, _ => rfl
theorem lay_four {n : Int} (h : 0 ≤ n) : (⟨[UInt8.ofNat (IntKind.u8.wrap n).toNat, UInt8.ofNat (IntKind.u8.wrap (rbin .shr .u32 n 8)).toNat, UInt8.ofNat (IntKind.u8.wrap (rbin .shr .u32 n 16)).toNat, UInt8.ofNat (IntKind.u8.wrap (rbin .shr .u32 n 24)).toNat].toArray⟩ : ByteArray) = layB n 4 := by
  have e0 : (IntKind.u8.wrap n).toNat = n.toNat / 256 ^ 0 % 256 := by show (n % 256).toNat = _; rw [Nat.pow_zero, Nat.div_one]; omega
  have e1 : (IntKind.u8.wrap (rbin .shr .u32 n 8)).toNat = n.toNat / 256 ^ 1 % 256 := by
    rw [shr32, show (2 : Int) ^ (min (8 : Int).toNat 32) = 256 by decide, Int.fdiv_eq_ediv_of_nonneg _ (by decide)]
    show (n / 256 % 256).toNat = _; rw [show (256 : Nat) ^ 1 = 256 by decide]; omega
  have e2 : (IntKind.u8.wrap (rbin .shr .u32 n 16)).toNat = n.toNat / 256 ^ 2 % 256 := by
    rw [shr32, show (2 : Int) ^ (min (16 : Int).toNat 32) = 65536 by decide, Int.fdiv_eq_ediv_of_nonneg _ (by decide)]
    show (n / 65536 % 256).toNat = _; rw [show (256 : Nat) ^ 2 = 65536 by decide]; omega
  have e3 : (IntKind.u8.wrap (rbin .shr .u32 n 24)).toNat = n.toNat / 256 ^ 3 % 256 := by
    rw [shr32, show (2 : Int) ^ (min (24 : Int).toNat 32) = 16777216 by decide, Int.fdiv_eq_ediv_of_nonneg _ (by decide)]
    show (n / 16777216 % 256).toNat = _; rw [show (256 : Nat) ^ 3 = 16777216 by decide]; omega
  rw [e0, e1, e2, e3]; rfl
theorem sum_eq {s : ByteArray} {f : Nat → Int} (hf : ∀ j, f j = twb s j) : ((leV (rdT (arR.txt (fun j => f (0 + j)) 32) 0 0 4).data.toList : Nat) : Int) = sumV s := by
  have e : rdT (arR.txt (fun j => f (0 + j)) 32) 0 0 4 = (arR.txt (fun j => f (0 + j)) 32).extract 0 4 := if_pos (by rw [text_size]; decide)
  have e2 : (fun j => f (0 + j)) = twb s := by funext j; rw [Nat.zero_add, hf]
  rw [e, ext_list, e2]
  rfl
structure LG1 extends LG0 where
  get4 : ByteArray → Int
  four : ByteArray → Prop
  sum : ByteArray → Int
  tws : Go.Eng.LT
  fit47 : ByteArray → Prop
def lg1 : LG1 where
  toLG0 := lg0
  get4 := get4
  four s := 4 ≤ s.size ∧ s.size ≤ 9223372036854775807
  sum := sumV
  tws := ltR
  fit47 s := s.size ≤ 140737488355328
end Go.Eng
namespace Go.Proofs.YtjiciplcdklfcaaDoor
open Go Go.Eng Go.Proofs Go.RowKit
attribute [local irreducible] CallOk HOk Run TIok rbin rcmp run1 updF shfF blitF
def tgb (lf : LG1) : Tbl := tbL [] []
theorem tgb_ok : TblOk Tryd.prog (tgb lg1) := tbL_ok nofun nofun
def sRLay (lf : LG1) : ESpec := fun l => match l with
  | [.one (.int .u32 n)] => some (.a (.one (.str (lf.lay n 4))), [lf.layOk n 4])
  | _ => none
theorem rlay_ok : CallOk Tryd.prog 32 (sRLay lg1) := by
  refine .of_run (hc := (tgb lg1).hc) Tryd.func32 rfl (by kernel_rfl) (by kernel_rfl) fun xs v ps hs hp w => ?_
  unfold sRLay at hs
  split at hs
  · rename_i n
    cases hs
    have h : lg1.layOk n 4 := hp (lg1.layOk n 4) (by simp)
    refine run_ex hmix ti_ok tgb_ok 999 false 400 [] (fun ar lf => by conv => lhs; cbv) (allP ?_) ?_
    · simp only [conj, and_true, Int.ofNat_eq_natCast, arR, rcmp_lss, rcmp_gtr, rcmp_geq, rcmp_leq, rcmp_eql, rcmp_neq, decide_eq_true_eq, decide_eq_false_iff_not, ne_eq, not_true_eq_false, not_false_eq_true, Int.toNat_natCast, List.length_cons, List.length_nil]
    · refine Run.ret ti_ok rfl rfl (.a (.str ?_))
      exact lay_four h.1
  · cases hs
def sRTake (lf : LG1) : ESpec := fun l => match l with
  | [.one (.str s)] => some (.a (.one (.int .u32 (lf.get4 s))), [lf.four s])
  | _ => none
theorem rtake_ok : CallOk Tryd.prog 37 (sRTake lg1) := by
  refine .of_run (hc := (tgb lg1).hc) Tryd.func37 rfl (by kernel_rfl) (by kernel_rfl) fun xs v ps hs hp w => ?_
  unfold sRTake at hs
  split at hs
  · rename_i s
    cases hs
    have h : 4 ≤ s.size ∧ s.size ≤ 9223372036854775807 := hp (lg1.four s) (by simp)
    refine run_ex hmix ti_ok tgb_ok 999 false 400 [] (fun ar lf => by conv => lhs; cbv) (allP ?_) ?_
    · simp only [conj, and_true, Int.ofNat_eq_natCast, arR, rcmp_lss, rcmp_gtr, rcmp_geq, rcmp_leq, rcmp_eql, rcmp_neq, decide_eq_true_eq, decide_eq_false_iff_not, ne_eq, not_true_eq_false, not_false_eq_true, Int.toNat_natCast, List.length_cons, List.length_nil]
      omega
    · refine Run.ret ti_ok rfl rfl (.a (.int ?_))
      have hl : s.data.toList.length = s.size := by rw [Array.length_toList]; rfl
      have k0 := sb_at (s := s) (k := 0) (by omega)
      have k1 := sb_at (s := s) (k := 1) (by omega)
      have k2 := sb_at (s := s) (k := 2) (by omega)
      have k3 := sb_at (s := s) (k := 3) (by omega)
      have cv : ∀ b : UInt8, arR.conv .u32 (b.toNat : Nat) = ((b.toNat : Nat) : Int) := fun b => by
        have := b.toNat_lt
        show ((b.toNat : Nat) : Int) % 4294967296 = _
        omega
      show rbin .or .u32 (rbin .or .u32 (rbin .or .u32 (arR.conv .u32 (arR.sb s 0)) (rbin .shl .u32 (arR.conv .u32 (arR.sb s 1)) 8)) (rbin .shl .u32 (arR.conv .u32 (arR.sb s 2)) 16)) (rbin .shl .u32 (arR.conv .u32 (arR.sb s 3)) 24) = get4 s
      rw [k0, k1, k2, k3, cv, cv, cv, cv, get_four]
      exact four_take (by omega) _ _ _ _
  · cases hs
def tgb1 (lf : LG1) : Tbl := tbL [(33, sTwice lf.tws)] [(34, hNewR lf.toLA), (35, nH (hU32 lf.toLA))]
theorem tgb1_ok : TblOk Tryd.prog (tgb1 lg1) := tbL_ok (List.forall_mem_cons.2 ⟨twice_ok, nofun⟩) (List.forall_mem_cons.2 ⟨newR_ok, List.forall_mem_cons.2 ⟨u32_ok.nH, nofun⟩⟩)
def sSumF (lf : LG1) : ESpec := fun l => match l with
  | [.one (.str s)] => some (.a (.one (.int .u32 (lf.sum s))), [lf.fit47 s])
  | _ => none
theorem sumf_ok : CallOk Tryd.prog 12 (sSumF lg1) := by
  refine .of_run (hc := (tgb1 lg1).hc) Tryd.func12 rfl (by kernel_rfl) (by kernel_rfl) fun xs v ps hs hp w => ?_
  unfold sSumF at hs
  split at hs
  · rename_i s
    cases hs
    have h : s.size ≤ 140737488355328 := hp (lg1.fit47 s) (by simp)
    refine run_ex hmix ti_ok tgb1_ok 999 false 400 [] (fun ar lf => by conv => lhs; cbv) (allP ?_) ?_
    · simp only [conj, and_true, Int.ofNat_eq_natCast, arR, rcmp_lss, rcmp_gtr, rcmp_geq, rcmp_leq, rcmp_eql, rcmp_neq, decide_eq_true_eq, decide_eq_false_iff_not, ne_eq, not_true_eq_false, not_false_eq_true, Int.toNat_natCast, List.length_cons, List.length_nil]
      refine ⟨?_, h⟩
      show (0 : Int) ≤ 0 ∧ (0 : Int) ≤ (arR.txt _ 32).size ∧ (arR.txt _ 32).size ≤ 9223372036854775807
      rw [text_size]; decide
    · refine Run.ret ti_ok rfl rfl (.a (.int ?_))
      exact sum_eq fun j => rfl
  · cases hs
def tgb2 (lf : LG1) : Tbl := tbL [(36, sTwice lf.tws), (37, sRTake lf)] []
theorem tgb2_ok : TblOk Tryd.prog (tgb2 lg1) := tbL_ok (List.forall_mem_cons.2 ⟨rtwice_ok, List.forall_mem_cons.2 ⟨rtake_ok, nofun⟩⟩) nofun
theorem rsumf_ok : CallOk Tryd.prog 13 (sSumF lg1) := by
  refine .of_run (hc := (tgb2 lg1).hc) Tryd.func13 rfl (by kernel_rfl) (by kernel_rfl) fun xs v ps hs hp w => ?_
  unfold sSumF at hs
  split at hs
  · rename_i s
    cases hs
    have h : s.size ≤ 140737488355328 := hp (lg1.fit47 s) (by simp)
    refine run_ex hmix ti_ok tgb2_ok 999 false 400 [] (fun ar lf => by conv => lhs; cbv) (allP ?_) ?_
    · simp only [conj, and_true, Int.ofNat_eq_natCast, arR, rcmp_lss, rcmp_gtr, rcmp_geq, rcmp_leq, rcmp_eql, rcmp_neq, decide_eq_true_eq, decide_eq_false_iff_not, ne_eq, not_true_eq_false, not_false_eq_true, Int.toNat_natCast, List.length_cons, List.length_nil]
      refine ⟨?_, h⟩
      show 4 ≤ (arR.txt _ 4).size ∧ (arR.txt _ 4).size ≤ 9223372036854775807
      rw [text_size]; decide
    · refine Run.ret ti_ok rfl rfl (.a (.int ?_))
      have e2 : (fun j => twb s (0 + j)) = twb s := by funext j; rw [Nat.zero_add]
      show get4 (arR.txt (fun j => twb s (0 + j)) 4) = sumV s
      rw [e2]; rfl
  · cases hs
end Go.Proofs.YtjiciplcdklfcaaDoor
