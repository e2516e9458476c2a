import Derived.Test.YtjiciplcdklfcaaDoorGb
import Derived.Test.YtjiciplcdklfcaaDoorSh
set_option linter.unusedSimpArgs false
set_option linter.unusedVariables false
namespace Go.Eng
open Go
theorem CallOk.of_calls {P : Program} {f : FuncId} {s : ESpec} {fn : Func} (hf : P.funcs[f]? = some fn) (hname : (fn.name == "runtime.NumGoroutine") = false) (hb : fn.body.isSome = true)
    (h : ∀ l v ps, s l = some (v, ps) → (∀ p ∈ ps, p) → ∀ (z : Nat → Nat → Option Value) (args' : Array Value) (w : World), AsRel (Ren.none z) l args' →
      Calls P f args' w fun e w' => ∃ v', e = .returned v' ∧ VRel (Ren.none z) v v' ∧ Go.RowKit.Below w.heap.size w w') : CallOk P f s := by
  unfold CallOk
  intro l v ps hs hp z args' w hz ha o a K Q hK
  have hent : (callFunc f args').run P w = .ok (.enter f args') w := by
    have h1 : fn.name ≠ "runtime.NumGoroutine" := by simpa using hname
    obtain ⟨c, hb⟩ := Option.isSome_iff_exists.1 hb
    simp [callFunc, hf, h1, hb, mark]
  rw [hent, Oper.upon_enter]
  refine (h l v ps hs hp z args' w ha).mono ?_
  rintro e w' ⟨v', rfl, hv, hb⟩
  refine hK z v' w' (fun _ _ _ h => h) (fun _ _ _ h => .inl h) (fun r i u hu => ?_) hv hb
  obtain ⟨c, ty, fz, h1, h2⟩ := hz r i u hu
  have hlt : r < w.heap.size := (Array.getElem?_eq_some_iff.1 h1).1
  exact ⟨c, ty, fz, by rw [hb.block r hlt]; exact h1, h2⟩
def zerosB (n : Int) : ByteArray := ⟨(List.replicate n.toNat 0).toArray⟩
def trimZ (s : ByteArray) : ByteArray := ⟨(Go.Lib.trimRightB s.data.toList 0).toArray⟩
theorem repeatL_one : ∀ n, Go.Lib.repeatL [0] n = List.replicate n 0
  | 0 => rfl
  | n + 1 => by rw [Go.Lib.repeatL, repeatL_one n]; rfl
def magB (m : Int) (s : ByteArray) : Bool := s.data.toList.take 4 == (layB m 4).data.toList.take s.size
def hdName (s : ByteArray) : ByteArray := trimZ (s.extract 4 16)
def hdLong (s : ByteArray) : Int := get4 (s.extract 16 20)
def hdSum (s : ByteArray) : Int := get4 (s.extract 20 24)
/-- what a head says: its error -/
def hdE (m : Int) (s : ByteArray) : Int := if magB m s = false then 80 else if s.size < 24 then 4 else if okCmd (hdName s) = false then 81 else if hdLong s > 16384 then 82 else 0
def hdC (m : Int) (s : ByteArray) : ByteArray := if hdE m s = 0 then hdName s else .empty
def hdN (m : Int) (s : ByteArray) : Int := if hdE m s = 0 then hdLong s else 0
def hdS (m : Int) (s : ByteArray) : Int := if hdE m s = 0 then hdSum s else 0
theorem wrap_id64 {n : Int} (h1 : -9223372036854775808 ≤ n) (h2 : n < 9223372036854775808) : IntKind.i64.wrap n = n := by
  have := addi (x := n) (y := 0) (by omega) (by omega)
  have h : IntKind.i64.wrap (n + 0) = n + 0 := this
  rwa [Int.add_zero] at h
structure LG2 extends LG1 where
  zero1 : ByteArray → Prop
  up12 : Int → Prop
  zeros : Int → ByteArray
  trim : ByteArray → ByteArray
  mag : Int → ByteArray → Bool
  hE : Int → ByteArray → Int
  hC : Int → ByteArray → ByteArray
  hN : Int → ByteArray → Int
  hS : Int → ByteArray → Int
def lg2 : LG2 where
  toLG1 := lg1
  zero1 s := s = ⟨#[0]⟩
  up12 n := 0 ≤ n ∧ n ≤ 12
  zeros := zerosB
  trim := trimZ
  mag := magB
  hE := hdE
  hC := hdC
  hN := hdN
  hS := hdS
theorem trim_size (s : ByteArray) : (trimZ s).size ≤ s.size := by
  show (Go.Lib.trimRightB s.data.toList 0).toArray.size ≤ _
  rw [List.size_toArray, Go.Lib.trimRightB, List.length_reverse]
  have h1 := (List.dropWhile_suffix (· == (0 : UInt8)) (l := s.data.toList.reverse)).length_le
  rw [List.length_reverse, Array.length_toList] at h1
  exact h1
theorem lay_len (n : Int) (k : Nat) : (layB n k).size = k := by simp [layB, ByteArray.size]
theorem mag_eq (m : Int) (s : ByteArray) : ((s.extract 0 (min s.size 4)).data.toList == ((layB m 4).extract 0 (min s.size 4)).data.toList) = magB m s := by
  have hl : s.data.toList.length = s.size := by rw [Array.length_toList]; rfl
  have hy : (layB m 4).data.toList.length = 4 := by rw [Array.length_toList]; exact lay_len m 4
  unfold magB
  rw [ext_list, ext_list, List.drop_zero, List.drop_zero]
  congr 1
  · rw [show s.data.toList.take (min s.size 4) = s.data.toList.take 4 from List.take_eq_take_iff.2 (by omega)]
  · exact List.take_eq_take_iff.2 (by omega)
theorem cut_cut (s : ByteArray) (a b c d : Nat) (h1 : a + d ≤ b) (h2 : c ≤ d) : (s.extract a b).extract c d = s.extract (a + c) (a + d) := by
  apply ByteArray.ext
  apply Array.toList_inj.1
  rw [ext_list, ext_list, ext_list]
  apply List.ext_getElem?
  intro i
  simp only [List.getElem?_drop, List.getElem?_take]
  by_cases h : c + i < d
  · rw [if_pos h, if_pos (by omega), if_pos (by omega), Nat.add_assoc]
  · rw [if_neg h, if_neg (by omega)]
theorem get_four4 {s : ByteArray} (h : s.size ≤ 4) : ((leV s.data.toList : Nat) : Int) = get4 s := by
  unfold get4
  rw [List.take_of_length_le (by rw [Array.length_toList]; exact h)]
theorem hd_facts {m : Int} {s : ByteArray} (hm : magB m s = true) (h24 : ¬ s.size < 24) : hdE m s = (if okCmd (hdName s) = false then 81 else if hdLong s > 16384 then 82 else 0) := by
  unfold hdE; rw [if_neg (by rw [hm]; simp), if_neg h24]
theorem hd_bad {m : Int} {s : ByteArray} (h : hdE m s ≠ 0) : hdC m s = .empty ∧ hdN m s = 0 ∧ hdS m s = 0 := ⟨if_neg h, if_neg h, if_neg h⟩
theorem hd_good {m : Int} {s : ByteArray} (h : hdE m s = 0) : hdC m s = hdName s ∧ hdN m s = hdLong s ∧ hdS m s = hdSum s := ⟨if_pos h, if_pos h, if_pos h⟩
theorem rd_head {s : ByteArray} (h : 24 ≤ s.size) : rdT (s.extract 4 24) 0 0 12 = s.extract 4 16 ∧ rdAt (s.extract 4 24) 0 0 12 = 12 ∧ rdE (s.extract 4 24) 0 0 12 = 0 ∧ rdT (s.extract 4 24) 12 0 4 = s.extract 16 20 ∧ rdAt (s.extract 4 24) 12 0 4 = 16 ∧ rdE (s.extract 4 24) 12 0 4 = 0 ∧ rdT (s.extract 4 24) 16 0 4 = s.extract 20 24 := by
  have hz : (s.extract 4 24).size = 20 := by rw [ByteArray.size_extract]; omega
  have hzi : ((s.extract 4 24).size : Int) = 20 := by rw [hz]; rfl
  refine ⟨?_, ?_, ?_, ?_, ?_, ?_, ?_⟩
  · unfold rdT; rw [if_pos (by rw [hzi]; decide)]; exact cut_cut s 4 24 0 12 (by decide) (by decide)
  · unfold rdAt; rw [if_pos (by rw [hzi]; decide)]; rfl
  · unfold rdE; rw [if_neg (by simp), if_neg (by decide), if_pos (by rw [hzi]; decide)]
  · unfold rdT; rw [if_pos (by rw [hzi]; decide)]; exact cut_cut s 4 24 12 16 (by decide) (by decide)
  · unfold rdAt; rw [if_pos (by rw [hzi]; decide)]; rfl
  · unfold rdE; rw [if_neg (by simp), if_neg (by decide), if_pos (by rw [hzi]; decide)]
  · unfold rdT; rw [if_pos (by rw [hzi]; decide)]; exact cut_cut s 4 24 16 20 (by decide) (by decide)
end Go.Eng
namespace Go.Proofs.YtjiciplcdklfcaaDoor
open Go Go.Eng Go.Proofs Go.RowKit
attribute [local irreducible] CallOk HOk Run TIok rbin rcmp run1 updF shfF blitF
def sRep (lf : LG2) : ESpec := fun l => match l with
  | [.one (.str u), .one (.int .i64 n)] => some (.a (.one (.str (lf.zeros n))), [lf.zero1 u, lf.up12 n])
  | _ => none
theorem rep_ok : CallOk Tryd.prog 30 (sRep lg2) := by
  refine .of_calls Tryd.func30 (by kernel_rfl) (by kernel_rfl) fun l v ps hs hp z args w ha => ?_
  unfold sRep at hs
  split at hs
  · rename_i u n
    cases hs
    have hu : u = ⟨#[0]⟩ := hp (lg2.zero1 u) (by simp)
    obtain ⟨h0, h12⟩ : 0 ≤ n ∧ n ≤ 12 := hp (lg2.up12 n) (by simp)
    subst hu
    obtain ⟨x, y, rfl, hx, hy⟩ := args2 ha
    cases hx
    cases hy
    obtain ⟨c, rfl⟩ := Int.eq_ofNat_of_zero_le h0
    refine (Tryd.strings_Repeat ⟨#[0]⟩ c w (by omega) (by show 1 * c ≤ _; omega)).mono ?_
    rintro e w' ⟨rfl, hb⟩
    refine ⟨_, rfl, ?_, hb⟩
    show Value.string _ = .string _
    congr 2
    show (Go.Lib.repeatL [0] c).toArray = _
    rw [repeatL_one]; rfl
  · cases hs
def sTrim (lf : LG2) : ESpec := fun l => match l with
  | [.one (.str s), .one (.str u)] => some (.a (.one (.str (lf.trim s))), [lf.zero1 u, lf.fit s])
  | _ => none
theorem trim_ok : CallOk Tryd.prog 53 (sTrim lg2) := by
  refine .of_calls Tryd.func53 (by kernel_rfl) (by kernel_rfl) fun l v ps hs hp z args w ha => ?_
  unfold sTrim at hs
  split at hs
  · rename_i s u
    cases hs
    have hu : u = ⟨#[0]⟩ := hp (lg2.zero1 u) (by simp)
    have hf : s.size ≤ 9223372036854775807 := hp (lg2.fit s) (by simp)
    subst hu
    obtain ⟨x, y, rfl, hx, hy⟩ := args2 ha
    cases hx
    cases hy
    refine (Tryd.strings_TrimRight_one s 0 (by decide) w hf).mono ?_
    rintro e w' ⟨rfl, rfl⟩
    exact ⟨_, rfl, rfl, Below.refl _ _⟩
  · cases hs
def tgc (lf : LG2) : Tbl := tbL [] [(27, hNewW lf.toLA.toLB), (28, nH (hWU32 lf.toLA)), (31, nH (hWText lf.toLA))]
theorem tgc_ok : TblOk Tryd.prog (tgc lg2) := tbL_ok nofun (List.forall_mem_cons.2 ⟨newW_ok, List.forall_mem_cons.2 ⟨wu32_ok.nH, List.forall_mem_cons.2 ⟨wtext_ok.nH, nofun⟩⟩⟩)
def sRight (lf : LG2) : ESpec := fun l => match l with
  | [.one (.int .u32 m), .one (.str s)] => some (.a (.one (.bool (lf.mag m s))), [lf.layOk m 4, lf.fit s])
  | _ => none
set_option maxHeartbeats 1000000 in
theorem right_ok : CallOk Tryd.prog 52 (sRight lg2) := by
  refine .of_run (hc := (tgc lg2).hc) Tryd.func52 rfl (by kernel_rfl) (by kernel_rfl) fun xs v ps hs hp w => ?_
  unfold sRight at hs
  split at hs
  · rename_i m s
    cases hs
    have h1 : lg2.layOk m 4 := hp (lg2.layOk m 4) (by simp)
    have h2 : s.size ≤ 9223372036854775807 := hp (lg2.fit s) (by simp)
    clear hp
    refine run_ex hmix ti_ok tgc_ok 999 false 400 [] (fun ar lf => by conv => lhs; cbv) (allP ?_) ?_
    · simp only [conj, and_true, Int.ofNat_eq_natCast, arR, rcmp_lss, rcmp_gtr, rcmp_geq, rcmp_leq, rcmp_eql, rcmp_neq, decide_eq_true_eq, decide_eq_false_iff_not, ne_eq, not_true_eq_false, not_false_eq_true, Int.toNat_natCast, List.length_cons, List.length_nil]
      have hsz : (ByteArray.empty ++ layB m 4).size = 4 := by rw [ByteArray.size_append, lay_len]; rfl
      refine ⟨?_, ?_, ?_, h1, ?_⟩
      · show _ ∧ _ ≤ (((ByteArray.empty ++ layB m 4).size : Nat) : Int)
        rw [hsz]
        split <;> omega
      · show (ByteArray.empty ++ layB m 4).size ≤ 9223372036854775807
        rw [hsz]; decide
      · split <;> omega
      · show ByteArray.empty.size + (layB m 4).size ≤ 140737488355328
        rw [lay_len]; decide
    · refine Run.ret ti_ok rfl rfl (.a (.bool ?_))
      have e1 : (ByteArray.empty ++ layB m 4) = layB m 4 := ByteArray.empty_append
      have e2 : (arR.mn ((s.size : Nat) : Int) 4).toNat = min s.size 4 := by
        show (if (4 : Int) < s.size then (4 : Int) else s.size).toNat = _
        split <;> omega
      show ((s.extract 0 (arR.mn ((s.size : Nat) : Int) 4).toNat).toList == ((ByteArray.empty ++ layB m 4).extract 0 (arR.mn ((s.size : Nat) : Int) 4).toNat).toList) = magB m s
      rw [e1, e2, Go.Lib.toList_data, Go.Lib.toList_data, mag_eq]
  · cases hs
def tgd (lf : LG2) : Tbl := tbL [(52, nP (sRight lf)), (53, sTrim lf), (10, sFCmd lf.toLG1.toLG0)] [(34, hNewR lf.toLA), (50, nH (hBytes lf.toLA)), (35, nH (hU32 lf.toLA))]
theorem tgd_ok : TblOk Tryd.prog (tgd lg2) := tbL_ok (List.forall_mem_cons.2 ⟨right_ok.nP, List.forall_mem_cons.2 ⟨trim_ok, List.forall_mem_cons.2 ⟨fcmd_ok, nofun⟩⟩⟩) (List.forall_mem_cons.2 ⟨newR_ok, List.forall_mem_cons.2 ⟨bytes_ok.nH, List.forall_mem_cons.2 ⟨u32_ok.nH, nofun⟩⟩⟩)
def sRead (lf : LG2) : ESpec := fun l => match l with
  | [.one (.int .u32 m), .one (.str s)] => some (.tup [.agg (.lst [.str (lf.hC m s), .int .i64 (lf.hN m s), .int .u32 (lf.hS m s)]), .one (.int .i64 (lf.hE m s))], [lf.layOk m 4, lf.fit s])
  | _ => none
set_option maxHeartbeats 1000000 in
theorem fread_ok : CallOk Tryd.prog 38 (sRead lg2) := by
  refine .of_run (hc := (tgd lg2).hc) Tryd.func38 rfl (by kernel_rfl) (by kernel_rfl) fun xs v ps hs hp w => ?_
  unfold sRead at hs
  split at hs
  · rename_i m s
    cases hs
    have h1 : lg2.layOk m 4 := hp (lg2.layOk m 4) (by simp)
    have h2 : s.size ≤ 9223372036854775807 := hp (lg2.fit s) (by simp)
    clear hp
    cases hm : magB m s with
    | false =>
      have e : hdE m s = 80 := by unfold hdE; rw [if_pos hm]
      obtain ⟨e1, e2, e3⟩ := hd_bad (m := m) (s := s) (by rw [e]; decide)
      refine run_ex hmix ti_ok tgd_ok 999 false 400 [true] (fun ar lf => by conv => lhs; cbv) (allP ?_) ?_
      · simp only [conj, and_true, Int.ofNat_eq_natCast, arR, rcmp_lss, rcmp_gtr, rcmp_geq, rcmp_leq, rcmp_eql, rcmp_neq, decide_eq_true_eq, decide_eq_false_iff_not, ne_eq, not_true_eq_false, not_false_eq_true, Int.toNat_natCast, List.length_cons, List.length_nil]
        exact ⟨congrArg Bool.not hm, h1, h2⟩
      · exact Run.ret ti_ok rfl rfl (VLe.tup2 (ALe.lst ⟨.str e1.symm, .lit e2.symm, .lit e3.symm, trivial⟩) (.lit e.symm))
    | true =>
      by_cases h24 : s.size < 24
      · have e : hdE m s = 4 := by unfold hdE; rw [if_neg (by rw [hm]; simp), if_pos h24]
        obtain ⟨e1, e2, e3⟩ := hd_bad (m := m) (s := s) (by rw [e]; decide)
        refine run_ex hmix ti_ok tgd_ok 999 false 400 [false, true] (fun ar lf => by conv => lhs; cbv) (allP ?_) ?_
        · simp only [conj, and_true, Int.ofNat_eq_natCast, arR, rcmp_lss, rcmp_gtr, rcmp_geq, rcmp_leq, rcmp_eql, rcmp_neq, decide_eq_true_eq, decide_eq_false_iff_not, ne_eq, not_true_eq_false, not_false_eq_true, Int.toNat_natCast, List.length_cons, List.length_nil]
          exact ⟨by omega, congrArg Bool.not hm, h1, h2⟩
        · exact Run.ret ti_ok rfl rfl (VLe.tup2 (ALe.lst ⟨.str e1.symm, .lit e2.symm, .lit e3.symm, trivial⟩) (.lit e.symm))
      have hf := hd_facts hm h24
      obtain ⟨q1, q2, q3, q4, q5, q6, q7⟩ := rd_head (s := s) (by omega)
      have hz : (s.extract 4 24).size = 20 := by rw [ByteArray.size_extract]; omega
      have z1 := trim_size (s.extract 4 16)
      have z2 : (s.extract 4 16).size = 12 := by rw [ByteArray.size_extract]; omega
      have o1 : lg2.fit (trimZ (rdT (s.extract 4 24) 0 0 12)) := by rw [q1]; show _ ≤ 9223372036854775807; omega
      have o2 : laR.rOk (s.extract 4 24) (rdAt (s.extract 4 24) (rdAt (s.extract 4 24) 0 0 12) (rdE (s.extract 4 24) 0 0 12) 4) := by
        rw [q2, q3, q5]; exact ⟨by decide, by rw [hz]; decide, by rw [hz]; decide⟩
      have o3 : laR.rOk (s.extract 4 24) (rdAt (s.extract 4 24) 0 0 12) := by
        rw [q2]; exact ⟨by decide, by rw [hz]; decide, by rw [hz]; decide⟩
      have o4 : lg2.fit (rdT (s.extract 4 24) 0 0 12) := by rw [q1]; show _ ≤ 9223372036854775807; omega
      have o5 : laR.rOk (s.extract 4 24) 0 := ⟨by decide, by rw [hz]; decide, by rw [hz]; decide⟩
      have o6 : laR.i64 12 := ⟨by decide, by decide⟩
      have n1 : trimZ (rdT (s.extract 4 24) 0 0 12) = hdName s := by rw [q1]; rfl
      have z20 : (s.extract 16 20).size ≤ 4 := by rw [ByteArray.size_extract]; omega
      have z24 : (s.extract 20 24).size ≤ 4 := by rw [ByteArray.size_extract]; omega
      have n2 : laR.get (rdT (s.extract 4 24) (rdAt (s.extract 4 24) 0 0 12) (rdE (s.extract 4 24) 0 0 12) 4) = hdLong s := by
        rw [q2, q3, q4]; exact get_four4 z20
      have n3 : laR.get (rdT (s.extract 4 24) (rdAt (s.extract 4 24) (rdAt (s.extract 4 24) 0 0 12) (rdE (s.extract 4 24) 0 0 12) 4) (rdE (s.extract 4 24) (rdAt (s.extract 4 24) 0 0 12) (rdE (s.extract 4 24) 0 0 12) 4) 4) = hdSum s := by
        rw [q2, q3, q5, q6, q7]; exact get_four4 z24
      have hm' : (!magB m s) = false := congrArg Bool.not hm
      cases hc : okCmd (hdName s) with
      | false =>
        refine run_ex hmix ti_ok tgd_ok 999 false 400 [false, false, true] (fun ar lf => by conv => lhs; cbv) (allP ?_) ?_
        · simp only [conj, and_true, Int.ofNat_eq_natCast, arR, rcmp_lss, rcmp_gtr, rcmp_geq, rcmp_leq, rcmp_eql, rcmp_neq, decide_eq_true_eq, decide_eq_false_iff_not, ne_eq, not_true_eq_false, not_false_eq_true, Int.toNat_natCast, List.length_cons, List.length_nil]
          refine ⟨?_, o1, o2, o3, rfl, o4, o5, o6, by omega, by omega, hm', h1, h2⟩
          show (!okCmd (trimZ (rdT (s.extract 4 24) 0 0 12))) = true
          rw [n1, hc]; rfl
        · rw [if_pos hc] at hf
          obtain ⟨e1, e2, e3⟩ := hd_bad (m := m) (s := s) (by rw [hf]; decide)
          exact Run.ret ti_ok rfl rfl (VLe.tup2 (ALe.lst ⟨.str e1.symm, .lit e2.symm, .lit e3.symm, trivial⟩) (.lit hf.symm))
      | true =>
        by_cases hl : hdLong s > 16384
        · refine run_ex hmix ti_ok tgd_ok 999 false 400 [false, false, false, true] (fun ar lf => by conv => lhs; cbv) (allP ?_) ?_
          · simp only [conj, and_true, Int.ofNat_eq_natCast, arR, rcmp_lss, rcmp_gtr, rcmp_geq, rcmp_leq, rcmp_eql, rcmp_neq, decide_eq_true_eq, decide_eq_false_iff_not, ne_eq, not_true_eq_false, not_false_eq_true, Int.toNat_natCast, List.length_cons, List.length_nil]
            refine ⟨?_, ?_, o1, o2, o3, rfl, o4, o5, o6, by omega, by omega, hm', h1, h2⟩
            · show laR.get (rdT (s.extract 4 24) (rdAt (s.extract 4 24) 0 0 12) (rdE (s.extract 4 24) 0 0 12) 4) > 16384
              rw [n2]; exact hl
            · show (!okCmd (trimZ (rdT (s.extract 4 24) 0 0 12))) = false
              rw [n1, hc]; rfl
          · rw [if_neg (by rw [hc]; simp), if_pos hl] at hf
            obtain ⟨e1, e2, e3⟩ := hd_bad (m := m) (s := s) (by rw [hf]; decide)
            exact Run.ret ti_ok rfl rfl (VLe.tup2 (ALe.lst ⟨.str e1.symm, .lit e2.symm, .lit e3.symm, trivial⟩) (.lit hf.symm))
        · refine run_ex hmix ti_ok tgd_ok 999 false 400 [false, false, false, false] (fun ar lf => by conv => lhs; cbv) (allP ?_) ?_
          · simp only [conj, and_true, Int.ofNat_eq_natCast, arR, rcmp_lss, rcmp_gtr, rcmp_geq, rcmp_leq, rcmp_eql, rcmp_neq, decide_eq_true_eq, decide_eq_false_iff_not, ne_eq, not_true_eq_false, not_false_eq_true, Int.toNat_natCast, List.length_cons, List.length_nil]
            refine ⟨?_, ?_, o1, o2, o3, rfl, o4, o5, o6, by omega, by omega, hm', h1, h2⟩
            · show ¬ laR.get (rdT (s.extract 4 24) (rdAt (s.extract 4 24) 0 0 12) (rdE (s.extract 4 24) 0 0 12) 4) > 16384
              rw [n2]; exact hl
            · show (!okCmd (trimZ (rdT (s.extract 4 24) 0 0 12))) = false
              rw [n1, hc]; rfl
          · rw [if_neg (by rw [hc]; simp), if_neg hl] at hf
            obtain ⟨e1, e2, e3⟩ := hd_good hf
            have h0 : 0 ≤ hdLong s := Int.natCast_nonneg _
            refine Run.ret ti_ok rfl rfl (VLe.tup2 (ALe.lst ⟨.str (n1.trans e1.symm), .int ?_, .int (n3.trans e3.symm), trivial⟩) (.lit hf.symm))
            show IntKind.i64.wrap (laR.get (rdT (s.extract 4 24) (rdAt (s.extract 4 24) 0 0 12) (rdE (s.extract 4 24) 0 0 12) 4)) = hdN m s
            rw [n2, e2]
            exact wrap_id64 (by omega) (by omega)
  · cases hs
end Go.Proofs.YtjiciplcdklfcaaDoor
