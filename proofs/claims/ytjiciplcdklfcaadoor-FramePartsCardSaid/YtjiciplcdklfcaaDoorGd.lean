import Derived.Test.YtjiciplcdklfcaaDoorGc
import Derived.Test.YtjiciplcdklfcaaDoorFk
set_option linter.unusedSimpArgs false
set_option linter.unusedVariables false
namespace Go.Eng
open Go
def FS : Sh := .two .str .str
def frC (d : D) : ByteArray := d.fst!.str!
def frP (d : D) : ByteArray := d.snd!.str!
theorem dF_mk (a b : D) : dF arR (.pair a b) = a := rfl
def isFr (d : D) : Prop := ∃ c p : ByteArray, d = .pair (.str c) (.str p) ∧ c.size ≤ 9223372036854775807 ∧ p.size ≤ 9223372036854775807
def enE (c p : ByteArray) : Int := if okCmd c = false then 81 else if p.size > 16384 then 82 else 0
def enB (m : Int) (c p : ByteArray) : ByteArray := (((layB m 4 ++ (c ++ zerosB (12 - c.size))) ++ layB p.size 4) ++ layB (sumV p) 4) ++ p
def enT (m : Int) (c p : ByteArray) : ByteArray := if enE c p = 0 then enB m c p else .empty
def deT (s : ByteArray) (a : Int) : ByteArray := s.extract a.toNat s.size
def dePay (m : Int) (s : ByteArray) (a : Int) : ByteArray := (deT s a).extract 24 (24 + (hdN m (deT s a)).toNat)
def deE (m : Int) (s : ByteArray) (a : Int) : Int := if a < 0 ∨ a > s.size then 1 else if hdE m (deT s a) ≠ 0 then hdE m (deT s a) else if (s.size : Int) - (a + 24) < hdN m (deT s a) then 4 else if sumV (dePay m s a) ≠ hdS m (deT s a) then 83 else 0
def deC (m : Int) (s : ByteArray) (a : Int) : ByteArray := if deE m s a = 0 then hdC m (deT s a) else .empty
def deP (m : Int) (s : ByteArray) (a : Int) : ByteArray := if deE m s a = 0 then dePay m s a else .empty
def deTo (m : Int) (s : ByteArray) (a : Int) : Int := if deE m s a = 0 then a + 24 + hdN m (deT s a) else 0
theorem sum_lay (s : ByteArray) : 0 ≤ sumV s ∧ sumV s < 4294967296 := by
  have h := leV_lt ((arR.txt (twb s) 4).data.toList.take 4)
  have h2 : ((arR.txt (twb s) 4).data.toList.take 4).length ≤ 4 := List.length_take_le _ _
  have h3 : (256 : Nat) ^ ((arR.txt (twb s) 4).data.toList.take 4).length ≤ 256 ^ 4 := Nat.pow_le_pow_right (by decide) h2
  have h4 : (256 : Nat) ^ 4 = 4294967296 := by decide
  unfold sumV get4
  omega
theorem get4_rng (s : ByteArray) : 0 ≤ get4 s ∧ get4 s < 4294967296 := by
  have h := leV_lt (s.data.toList.take 4)
  have h2 : (s.data.toList.take 4).length ≤ 4 := List.length_take_le _ _
  have h3 : (256 : Nat) ^ (s.data.toList.take 4).length ≤ 256 ^ 4 := Nat.pow_le_pow_right (by decide) h2
  have h4 : (256 : Nat) ^ 4 = 4294967296 := by decide
  unfold get4
  omega
theorem hdN_rng (m : Int) (s : ByteArray) : 0 ≤ hdN m s ∧ hdN m s ≤ 16384 := by
  unfold hdN
  split
  · rename_i h
    refine ⟨(get4_rng _).1, ?_⟩
    unfold hdE at h
    split at h
    · cases h
    split at h
    · cases h
    split at h
    · cases h
    split at h
    · cases h
    · rename_i h2; exact Int.not_lt.1 h2
  · omega
theorem okCmd_size {c : ByteArray} (h : okCmd c = true) : 1 ≤ c.size ∧ c.size ≤ 12 := by
  unfold okCmd at h
  simp only [Bool.and_eq_true, decide_eq_true_eq] at h
  exact ⟨h.1, h.2.1⟩
structure LG3 extends LG2 where
  isF : D → Prop
  enT : Int → D → ByteArray
  enE : D → Int
  dC : Int → ByteArray → Int → ByteArray
  dP : Int → ByteArray → Int → ByteArray
  dTo : Int → ByteArray → Int → Int
  dE : Int → ByteArray → Int → Int
  fitI : ByteArray → Prop
def lg3 : LG3 where
  toLG2 := lg2
  isF := isFr
  enT m d := enT m (frC d) (frP d)
  enE d := enE (frC d) (frP d)
  dC := deC
  dP := deP
  dTo := deTo
  dE := deE
  fitI s := s.size ≤ 140737488355328
end Go.Eng
namespace Go.Proofs.YtjiciplcdklfcaaDoor
open Go Go.Eng Go.Proofs Go.RowKit
attribute [local irreducible] CallOk HOk Run TIok rbin rcmp run1 updF shfF blitF
def tge (lf : LG3) : Tbl := tbL [(10, sFCmd lf.toLG2.toLG1.toLG0), (30, sRep lf.toLG2), (12, sSumF lf.toLG2.toLG1)] [(27, hNewW lf.toLG2.toLG1.toLG0.toLA.toLB), (28, nH (hWU32 lf.toLG2.toLG1.toLG0.toLA)), (29, nH (hWBytes lf.toLG2.toLG1.toLG0.toLA)), (31, nH (hWText lf.toLG2.toLG1.toLG0.toLA))]
theorem tge_ok : TblOk Tryd.prog (tge lg3) := tbL_ok (List.forall_mem_cons.2 ⟨fcmd_ok, List.forall_mem_cons.2 ⟨rep_ok, List.forall_mem_cons.2 ⟨sumf_ok, nofun⟩⟩⟩) (List.forall_mem_cons.2 ⟨newW_ok, List.forall_mem_cons.2 ⟨wu32_ok.nH, List.forall_mem_cons.2 ⟨wbytes_ok.nH, List.forall_mem_cons.2 ⟨wtext_ok.nH, nofun⟩⟩⟩⟩)
def sEncF (lf : LG3) : ESpec := fun l => match l with
  | [.one (.int .u32 m), .agg (.prt [.v s d])] => if shEq s FS then some (.tup [.one (.str (lf.enT m d)), .one (.int .i64 (lf.enE d))], [lf.layOk m 4, lf.isF d]) else none
  | _ => none
set_option maxHeartbeats 1000000 in
theorem encf_ok : CallOk Tryd.prog 7 (sEncF lg3) := by
  refine .of_run (hc := (tge lg3).hc) Tryd.func7 rfl (by kernel_rfl) (by kernel_rfl) fun xs v ps hs hp w => ?_
  unfold sEncF at hs
  split at hs
  · rename_i m s d
    split at hs
    · rename_i hsh
      obtain rfl := shEq_eq hsh
      clear hsh
      cases hs
      have h1 : lg3.layOk m 4 := hp (lg3.layOk m 4) (by simp)
      have hd : isFr d := hp (lg3.isF d) (by simp)
      obtain ⟨c, p, rfl, hc, hpp⟩ := hd
      clear hp
      have eT : lg3.enT m (.pair (.str c) (.str p)) = enT m c p := rfl
      have eE : lg3.enE (.pair (.str c) (.str p)) = enE c p := rfl
      rw [eT, eE]
      cases hk : okCmd c with
      | false =>
        have e : enE c p = 81 := if_pos hk
        have e2 : enT m c p = .empty := if_neg (by rw [e]; decide)
        refine run_ex hmix ti_ok tge_ok 999 false 400 [true] (fun ar lf => by conv => lhs; cbv) (allP ?_) ?_
        · simp only [conj, and_true, Int.ofNat_eq_natCast, arR, rcmp_lss, rcmp_gtr, rcmp_geq, rcmp_leq, rcmp_eql, rcmp_neq, decide_eq_true_eq, decide_eq_false_iff_not, ne_eq, not_true_eq_false, not_false_eq_true, Int.toNat_natCast, List.length_cons, List.length_nil]
          exact ⟨congrArg Bool.not hk, hc⟩
        · exact Run.ret ti_ok rfl rfl (VLe.tup2 (.str e2.symm) (.lit e.symm))
      | true =>
        have hc12 := okCmd_size hk
        by_cases hl : p.size > 16384
        · have e : enE c p = 82 := by unfold enE; rw [if_neg (by rw [hk]; simp), if_pos hl]
          have e2 : enT m c p = .empty := if_neg (by rw [e]; decide)
          refine run_ex hmix ti_ok tge_ok 999 false 400 [false, true] (fun ar lf => by conv => lhs; cbv) (allP ?_) ?_
          · simp only [conj, and_true, Int.ofNat_eq_natCast, arR, rcmp_lss, rcmp_gtr, rcmp_geq, rcmp_leq, rcmp_eql, rcmp_neq, decide_eq_true_eq, decide_eq_false_iff_not, ne_eq, not_true_eq_false, not_false_eq_true, Int.toNat_natCast, List.length_cons, List.length_nil]
            exact ⟨by omega, congrArg Bool.not hk, hc⟩
          · exact Run.ret ti_ok rfl rfl (VLe.tup2 (.str e2.symm) (.lit e.symm))
        · have e : enE c p = 0 := by unfold enE; rw [if_neg (by rw [hk]; simp), if_neg hl]
          have e2 : enT m c p = enB m c p := if_pos e
          have g0 : rbin .sub .i64 12 (c.size : Nat) = 12 - (c.size : Nat) := subi (by omega) (by omega)
          have gw : IntKind.u32.wrap (p.size : Nat) = (p.size : Nat) := by show ((p.size : Nat) : Int) % 4294967296 = _; omega
          have hsl := sum_lay p
          have zs : (zerosB (rbin .sub .i64 12 (c.size : Nat))).size = 12 - c.size := by
            rw [g0]; show (List.replicate ((12 : Int) - c.size).toNat (0 : UInt8)).toArray.size = _
            rw [List.size_toArray, List.length_replicate]; omega
          have b1 : (ByteArray.empty ++ layB m 4).size = 4 := by rw [ByteArray.size_append, lay_len]; rfl
          have b2 : ((ByteArray.empty ++ layB m 4) ++ (c ++ zerosB (rbin .sub .i64 12 (c.size : Nat)))).size = 16 := by rw [ByteArray.size_append, b1, ByteArray.size_append, zs]; omega
          have b3 : (((ByteArray.empty ++ layB m 4) ++ (c ++ zerosB (rbin .sub .i64 12 (c.size : Nat)))) ++ layB (IntKind.u32.wrap (p.size : Nat)) 4).size = 20 := by rw [ByteArray.size_append, b2, lay_len]
          have b4 : ((((ByteArray.empty ++ layB m 4) ++ (c ++ zerosB (rbin .sub .i64 12 (c.size : Nat)))) ++ layB (IntKind.u32.wrap (p.size : Nat)) 4) ++ layB (sumV p) 4).size = 24 := by rw [ByteArray.size_append, b3, lay_len]
          have b5 : (((((ByteArray.empty ++ layB m 4) ++ (c ++ zerosB (rbin .sub .i64 12 (c.size : Nat)))) ++ layB (IntKind.u32.wrap (p.size : Nat)) 4) ++ layB (sumV p) 4) ++ p).size = 24 + p.size := by rw [ByteArray.size_append, b4]
          refine run_ex hmix ti_ok tge_ok 999 false 400 [false, false] (fun ar lf => by conv => lhs; cbv) (allP ?_) ?_
          · simp only [conj, and_true, Int.ofNat_eq_natCast, arR, rcmp_lss, rcmp_gtr, rcmp_geq, rcmp_leq, rcmp_eql, rcmp_neq, decide_eq_true_eq, decide_eq_false_iff_not, ne_eq, not_true_eq_false, not_false_eq_true, Int.toNat_natCast, List.length_cons, List.length_nil]
            exact ⟨(by rw [b5]; omega : (((((ByteArray.empty ++ layB m 4) ++ (c ++ zerosB (rbin .sub .i64 12 (c.size : Nat)))) ++ layB (IntKind.u32.wrap (p.size : Nat)) 4) ++ layB (sumV p) 4) ++ p).size ≤ 9223372036854775807), (by rw [b4]; omega : ((((ByteArray.empty ++ layB m 4) ++ (c ++ zerosB (rbin .sub .i64 12 (c.size : Nat)))) ++ layB (IntKind.u32.wrap (p.size : Nat)) 4) ++ layB (sumV p) 4).size + p.size ≤ 140737488355328), (⟨hsl.1, Int.lt_trans hsl.2 (by decide), by decide, by decide⟩ : laR.layOk (sumV p) 4), (by rw [b3, lay_len]; decide : (((ByteArray.empty ++ layB m 4) ++ (c ++ zerosB (rbin .sub .i64 12 (c.size : Nat)))) ++ layB (IntKind.u32.wrap (p.size : Nat)) 4).size + (layB (sumV p) 4).size ≤ 140737488355328), (by omega : p.size ≤ 140737488355328), (by rw [gw]; exact ⟨by omega, by omega, by decide, by decide⟩ : laR.layOk (IntKind.u32.wrap (p.size : Nat)) 4), (by rw [b2, lay_len]; decide : ((ByteArray.empty ++ layB m 4) ++ (c ++ zerosB (rbin .sub .i64 12 (c.size : Nat)))).size + (layB (IntKind.u32.wrap (p.size : Nat)) 4).size ≤ 140737488355328), (by rw [b1, ByteArray.size_append, zs]; omega : (ByteArray.empty ++ layB m 4).size + (c ++ zerosB (rbin .sub .i64 12 (c.size : Nat))).size ≤ 140737488355328), (by rw [zs]; omega : ((c.size + (zerosB (rbin .sub .i64 12 (c.size : Nat))).size : Nat) : Int) ≤ 9223372036854775807), rfl, (by rw [g0]; omega : 0 ≤ rbin .sub .i64 12 (c.size : Nat) ∧ rbin .sub .i64 12 (c.size : Nat) ≤ 12), h1, (by rw [lay_len]; decide : ByteArray.empty.size + (layB m 4).size ≤ 140737488355328), by omega, congrArg Bool.not hk, hc⟩
          · refine Run.ret ti_ok rfl rfl (VLe.tup2 (.str ?_) (.lit e.symm))
            rw [e2]
            show (((((ByteArray.empty ++ layB m 4) ++ (c ++ zerosB (rbin .sub .i64 12 (c.size : Nat)))) ++ layB (IntKind.u32.wrap (p.size : Nat)) 4) ++ layB (sumV p) 4) ++ p) = enB m c p
            unfold enB
            rw [g0, gw, ByteArray.empty_append]
    · cases hs
  · cases hs
def tgf (lf : LG3) : Tbl := tbL [(38, nP (sRead lf.toLG2)), (12, sSumF lf.toLG2.toLG1)] []
theorem tgf_ok : TblOk Tryd.prog (tgf lg3) := tbL_ok (List.forall_mem_cons.2 ⟨fread_ok.nP, List.forall_mem_cons.2 ⟨sumf_ok, nofun⟩⟩) nofun
def sDecF (lf : LG3) : ESpec := fun l => match l with
  | [.one (.int .u32 m), .one (.str s), .one (.int .i64 a)] => some (.tup [.agg (.lst [.str (lf.dC m s a), .str (lf.dP m s a)]), .one (.int .i64 (lf.dTo m s a)), .one (.int .i64 (lf.dE m s a))], [lf.layOk m 4, lf.fit s])
  | _ => none
set_option maxHeartbeats 1000000 in
theorem decf_ok : CallOk Tryd.prog 14 (sDecF lg3) := by
  refine .of_run (hc := (tgf lg3).hc) Tryd.func14 rfl (by kernel_rfl) (by kernel_rfl) fun xs v ps hs hp w => ?_
  unfold sDecF at hs
  split at hs
  · rename_i m s a
    cases hs
    have h1 : lg3.layOk m 4 := hp (lg3.layOk m 4) (by simp)
    have h2 : s.size ≤ 9223372036854775807 := hp (lg3.fit s) (by simp)
    clear hp
    have bad : ∀ n : Int, deE m s a = n → n ≠ 0 → deC m s a = .empty ∧ deP m s a = .empty ∧ deTo m s a = 0 := fun n h h' => ⟨if_neg (by rw [h]; exact h'), if_neg (by rw [h]; exact h'), if_neg (by rw [h]; exact h')⟩
    by_cases ha0 : a < 0
    · have e : deE m s a = 1 := if_pos (.inl ha0)
      obtain ⟨e1, e2, e3⟩ := bad _ e (by decide)
      refine run_ex hmix ti_ok tgf_ok 999 false 400 [true, true] (fun ar lf => by conv => lhs; cbv) (allP ?_) ?_
      · simp only [conj, and_true, Int.ofNat_eq_natCast, arR, rcmp_lss, rcmp_gtr, rcmp_geq, rcmp_leq, rcmp_eql, rcmp_neq, decide_eq_true_eq, decide_eq_false_iff_not, ne_eq, not_true_eq_false, not_false_eq_true, Int.toNat_natCast, List.length_cons, List.length_nil]
        omega
      · exact Run.ret ti_ok rfl rfl (VLe.tup3 (ALe.lst ⟨.str e1.symm, .str e2.symm, trivial⟩) (.lit e3.symm) (.lit e.symm))
    by_cases ha1 : a > s.size
    · have e : deE m s a = 1 := if_pos (.inr ha1)
      obtain ⟨e1, e2, e3⟩ := bad _ e (by decide)
      refine run_ex hmix ti_ok tgf_ok 999 false 400 [false, true] (fun ar lf => by conv => lhs; cbv) (allP ?_) ?_
      · simp only [conj, and_true, Int.ofNat_eq_natCast, arR, rcmp_lss, rcmp_gtr, rcmp_geq, rcmp_leq, rcmp_eql, rcmp_neq, decide_eq_true_eq, decide_eq_false_iff_not, ne_eq, not_true_eq_false, not_false_eq_true, Int.toNat_natCast, List.length_cons, List.length_nil]
        omega
      · exact Run.ret ti_ok rfl rfl (VLe.tup3 (ALe.lst ⟨.str e1.symm, .str e2.symm, trivial⟩) (.lit e3.symm) (.lit e.symm))
    have hE : deE m s a = if hdE m (deT s a) ≠ 0 then hdE m (deT s a) else if (s.size : Int) - (a + 24) < hdN m (deT s a) then 4 else if sumV (dePay m s a) ≠ hdS m (deT s a) then 83 else 0 := if_neg (by omega)
    have hts : (deT s a).size = s.size - a.toNat := by unfold deT; rw [ByteArray.size_extract]; omega
    have f1 : lg3.fit (deT s a) := by show (deT s a).size ≤ 9223372036854775807; omega
    have hr := hdN_rng m (deT s a)
    by_cases hh : hdE m (deT s a) = 0
    · rw [if_neg (by rw [hh]; simp)] at hE
      have h24 : 24 ≤ (deT s a).size := by
        refine Nat.not_lt.1 fun h => ?_
        unfold hdE at hh
        split at hh
        · cases hh
        · cases hh
      have g1 : rbin .add .i64 a 24 = a + 24 := addi (by omega) (by omega)
      have g2 : rbin .sub .i64 (s.size : Nat) (a + 24) = (s.size : Nat) - (a + 24) := subi (by omega) (by omega)
      by_cases hc : (s.size : Int) - (a + 24) < hdN m (deT s a)
      · rw [if_pos hc] at hE
        obtain ⟨e1, e2, e3⟩ := bad _ hE (by decide)
        refine run_ex hmix ti_ok tgf_ok 999 false 400 [false, false, false, true] (fun ar lf => by conv => lhs; cbv) (allP ?_) ?_
        · simp only [conj, and_true, Int.ofNat_eq_natCast, arR, rcmp_lss, rcmp_gtr, rcmp_geq, rcmp_leq, rcmp_eql, rcmp_neq, decide_eq_true_eq, decide_eq_false_iff_not, ne_eq, not_true_eq_false, not_false_eq_true, Int.toNat_natCast, List.length_cons, List.length_nil]
          exact ⟨(by rw [g1, g2]; exact hc : rbin .sub .i64 (s.size : Nat) (rbin .add .i64 a 24) < hdN m (deT s a)), fun h => h hh, h1, f1, by omega, ha1, ha0⟩
        · exact Run.ret ti_ok rfl rfl (VLe.tup3 (ALe.lst ⟨.str e1.symm, .str e2.symm, trivial⟩) (.lit e3.symm) (.lit hE.symm))
      rw [if_neg hc] at hE
      have g3 : rbin .add .i64 (a + 24) (hdN m (deT s a)) = a + 24 + hdN m (deT s a) := addi (by omega) (by omega)
      have hpay : s.extract (a + 24).toNat (a + 24 + hdN m (deT s a)).toNat = dePay m s a := by
        unfold dePay deT
        rw [cut_cut s a.toNat s.size 24 _ (by unfold deT at hr hc; omega) (by omega)]
        unfold deT at hr
        congr 1 <;> omega
      have hps : (dePay m s a).size ≤ 16384 := by
        unfold dePay; rw [ByteArray.size_extract]; omega
      by_cases hsm : sumV (dePay m s a) = hdS m (deT s a)
      · rw [if_neg (fun h => h hsm)] at hE
        have e1 : deC m s a = hdC m (deT s a) := if_pos hE
        have e2 : deP m s a = dePay m s a := if_pos hE
        have e3 : deTo m s a = a + 24 + hdN m (deT s a) := if_pos hE
        refine run_ex hmix ti_ok tgf_ok 999 false 400 [false, false, false, false, false] (fun ar lf => by conv => lhs; cbv) (allP ?_) ?_
        · simp only [conj, and_true, Int.ofNat_eq_natCast, arR, rcmp_lss, rcmp_gtr, rcmp_geq, rcmp_leq, rcmp_eql, rcmp_neq, decide_eq_true_eq, decide_eq_false_iff_not, ne_eq, not_true_eq_false, not_false_eq_true, Int.toNat_natCast, List.length_cons, List.length_nil]
          have big : ¬¬(sumV (s.extract (rbin .add .i64 a 24).toNat (rbin .add .i64 (rbin .add .i64 a 24) (hdN m (deT s a))).toNat) = hdS m (deT s a)) ∧ (s.extract (rbin .add .i64 a 24).toNat (rbin .add .i64 (rbin .add .i64 a 24) (hdN m (deT s a))).toNat).size ≤ 140737488355328 ∧ (0 ≤ rbin .add .i64 a 24 ∧ rbin .add .i64 a 24 ≤ (((rbin .add .i64 (rbin .add .i64 a 24) (hdN m (deT s a))).toNat : Nat) : Int)) ∧ (0 ≤ rbin .add .i64 (rbin .add .i64 a 24) (hdN m (deT s a)) ∧ rbin .add .i64 (rbin .add .i64 a 24) (hdN m (deT s a)) ≤ (s.size : Nat)) ∧ ¬ (rbin .sub .i64 (s.size : Nat) (rbin .add .i64 a 24) < hdN m (deT s a)) ∧ ¬¬(hdE m (deT s a) = 0) := by
            rw [g1, g3, g2, hpay]
            exact ⟨fun h => h hsm, by omega, by omega, by omega, hc, fun h => h hh⟩
          obtain ⟨y1, y2, y3, y4, y5, y6⟩ := big
          exact ⟨y1, y2, y3, y4, y5, y6, h1, f1, by omega, ha1, ha0⟩
        · refine Run.ret ti_ok rfl rfl (VLe.tup3 (ALe.lst ⟨.str e1.symm, .str ?_, trivial⟩) (.int ?_) (.lit hE.symm))
          · show s.extract (rbin .add .i64 a 24).toNat (rbin .add .i64 (rbin .add .i64 a 24) (hdN m (deT s a))).toNat = deP m s a
            rw [e2, g1, g3, hpay]
          · show rbin .add .i64 (rbin .add .i64 a 24) (hdN m (deT s a)) = deTo m s a
            rw [e3, g1, g3]
      · rw [if_pos hsm] at hE
        obtain ⟨e1, e2, e3⟩ := bad _ hE (by decide)
        refine run_ex hmix ti_ok tgf_ok 999 false 400 [false, false, false, false, true] (fun ar lf => by conv => lhs; cbv) (allP ?_) ?_
        · simp only [conj, and_true, Int.ofNat_eq_natCast, arR, rcmp_lss, rcmp_gtr, rcmp_geq, rcmp_leq, rcmp_eql, rcmp_neq, decide_eq_true_eq, decide_eq_false_iff_not, ne_eq, not_true_eq_false, not_false_eq_true, Int.toNat_natCast, List.length_cons, List.length_nil]
          have big : ¬(sumV (s.extract (rbin .add .i64 a 24).toNat (rbin .add .i64 (rbin .add .i64 a 24) (hdN m (deT s a))).toNat) = hdS m (deT s a)) ∧ (s.extract (rbin .add .i64 a 24).toNat (rbin .add .i64 (rbin .add .i64 a 24) (hdN m (deT s a))).toNat).size ≤ 140737488355328 ∧ (0 ≤ rbin .add .i64 a 24 ∧ rbin .add .i64 a 24 ≤ (((rbin .add .i64 (rbin .add .i64 a 24) (hdN m (deT s a))).toNat : Nat) : Int)) ∧ (0 ≤ rbin .add .i64 (rbin .add .i64 a 24) (hdN m (deT s a)) ∧ rbin .add .i64 (rbin .add .i64 a 24) (hdN m (deT s a)) ≤ (s.size : Nat)) ∧ ¬ (rbin .sub .i64 (s.size : Nat) (rbin .add .i64 a 24) < hdN m (deT s a)) ∧ ¬¬(hdE m (deT s a) = 0) := by
            rw [g1, g3, g2, hpay]
            exact ⟨hsm, by omega, by omega, by omega, hc, fun h => h hh⟩
          obtain ⟨y1, y2, y3, y4, y5, y6⟩ := big
          exact ⟨y1, y2, y3, y4, y5, y6, h1, f1, by omega, ha1, ha0⟩
        · exact Run.ret ti_ok rfl rfl (VLe.tup3 (ALe.lst ⟨.str e1.symm, .str e2.symm, trivial⟩) (.lit e3.symm) (.lit hE.symm))
    · rw [if_pos hh] at hE
      obtain ⟨e1, e2, e3⟩ := bad _ hE hh
      refine run_ex hmix ti_ok tgf_ok 999 false 400 [false, false, true] (fun ar lf => by conv => lhs; cbv) (allP ?_) ?_
      · simp only [conj, and_true, Int.ofNat_eq_natCast, arR, rcmp_lss, rcmp_gtr, rcmp_geq, rcmp_leq, rcmp_eql, rcmp_neq, decide_eq_true_eq, decide_eq_false_iff_not, ne_eq, not_true_eq_false, not_false_eq_true, Int.toNat_natCast, List.length_cons, List.length_nil]
        exact ⟨hh, h1, f1, by omega, ha1, ha0⟩
      · exact Run.ret ti_ok rfl rfl (VLe.tup3 (ALe.lst ⟨.str e1.symm, .str e2.symm, trivial⟩) (.lit e3.symm) (.int hE.symm))
  · cases hs
end Go.Proofs.YtjiciplcdklfcaaDoor
