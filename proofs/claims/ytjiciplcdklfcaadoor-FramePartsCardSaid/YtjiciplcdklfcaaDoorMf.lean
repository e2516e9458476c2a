import Derived.Test.YtjiciplcdklfcaaDoorMe
set_option linter.unusedSimpArgs false
set_option linter.unusedVariables false
namespace Go.Eng
open Go
theorem byt_len (s : ByteArray) : (arR.dByt s).length = s.size := by
  show (s.data.toList.map _).length = _
  rw [List.length_map, Array.length_toList]; rfl
theorem fn8_eq {x : Fn8} (j : Nat) (hj : j < 8) : fnL [x 0, x 1, x 2, x 3, x 4, x 5, x 6, x 7] j = x j := by
  match j, hj with
  | 0, _ => rfl
  | 1, _ => rfl
  | 2, _ => rfl
  | 3, _ => rfl
  | 4, _ => rfl
  | 5, _ => rfl
  | 6, _ => rfl
  | 7, _ => rfl
theorem fn8_u32 {x : Fn8} (h : isU32s 8 x) : isU32s 8 (fnL [x 0, x 1, x 2, x 3, x 4, x 5, x 6, x 7]) := fun j hj => by
  rw [fn8_eq j hj]; exact h j hj
theorem hC_le {ns : List Nat} {x y : Fn8} {l l' n n' : C} (h : ∀ j, j < 8 → x j = y j) (hl : CLe ns l l') (hn : CLe ns n n') : GLe ns (.lst (hC x l n)) (.lst (hC y l' n')) := by
  have num : ∀ a b : Int, a = b → CLe ns (.int .u32 a) (.int .u32 b) := fun a b e => by subst e; exact fun ρ u hu => hu
  refine ⟨rfl, by simp, by simp, fun j z hz => ?_⟩
  match j with
  | 0 => cases hz; exact ⟨_, rfl, num _ _ (h 0 (by decide))⟩
  | 1 => cases hz; exact ⟨_, rfl, num _ _ (h 1 (by decide))⟩
  | 2 => cases hz; exact ⟨_, rfl, num _ _ (h 2 (by decide))⟩
  | 3 => cases hz; exact ⟨_, rfl, num _ _ (h 3 (by decide))⟩
  | 4 => cases hz; exact ⟨_, rfl, num _ _ (h 4 (by decide))⟩
  | 5 => cases hz; exact ⟨_, rfl, num _ _ (h 5 (by decide))⟩
  | 6 => cases hz; exact ⟨_, rfl, num _ _ (h 6 (by decide))⟩
  | 7 => cases hz; exact ⟨_, rfl, num _ _ (h 7 (by decide))⟩
  | 8 => cases hz; exact ⟨_, rfl, hl⟩
  | 9 => cases hz; exact ⟨_, rfl, hn⟩
  | j + 10 => cases hz
end Go.Eng
namespace Go.Proofs.YtjiciplcdklfcaaDoor
open Go Go.Eng Go.Proofs Go.RowKit
attribute [local irreducible] CallOk HOk Run TIok rbin rcmp run1 updF shfF blitF
def hWrite (lf : LH) : HSpec := fun l bs => match l, bs with
  | [.one (.ptr 0 (.lit 0)), .one (.str s)], [⟨false, .lst [.int .u32 x0, .int .u32 x1, .int .u32 x2, .int .u32 x3, .int .u32 x4, .int .u32 x5, .int .u32 x6, .int .u32 x7, .nsl, .int .u64 n]⟩] =>
    some (.tup [], [⟨false, .lst (hC (lf.wx (lf.fnL [x0, x1, x2, x3, x4, x5, x6, x7]) (lf.byt s)) (.dat U8 (lf.wl (lf.byt s)) (some 1)) (.int .u64 (lf.alen n s)))⟩, ⟨false, .tail⟩], [lf.u32s 8 (lf.fnL [x0, x1, x2, x3, x4, x5, x6, x7]), lf.sfit s])
  | [.one (.ptr 0 (.lit 0)), .one (.str s)], [⟨false, .lst [.int .u32 x0, .int .u32 x1, .int .u32 x2, .int .u32 x3, .int .u32 x4, .int .u32 x5, .int .u32 x6, .int .u32 x7, .dat (.int .u8) xs (some 1), .int .u64 n]⟩, ⟨false, .tail⟩] =>
    some (.tup [], [⟨false, .lst (hC (lf.wx (lf.fnL [x0, x1, x2, x3, x4, x5, x6, x7]) (lf.cat xs (lf.byt s))) (.dat U8 (lf.wl (lf.cat xs (lf.byt s))) (some 2)) (.int .u64 (lf.alen n s)))⟩, ⟨true, .dead⟩, ⟨false, .tail⟩], [lf.u32s 8 (lf.fnL [x0, x1, x2, x3, x4, x5, x6, x7]), lf.bytesD xs, lf.fits xs s])
  | _, _ => none
def tbh1 (lf : LH) : Tbl := tbL [(76, sStepA lf)] []
theorem tbh1_ok : TblOk Tryd.prog (tbh1 lhR) := tbL_ok (List.forall_mem_cons.2 ⟨stepA_ok, nofun⟩) nofun
theorem write_ok : HOk Tryd.prog 61 (hWrite lhR) := by
  refine .of_run (hc := (tbh1 lhR).hc) Tryd.func61 rfl (by kernel_rfl) (by kernel_rfl) fun las lbs v lbs' ps hs hp w => ?_
  unfold hWrite at hs
  split at hs
  · rename_i s x0 x1 x2 x3 x4 x5 x6 x7 n
    cases hs
    have hx : isU32s 8 (fnL [x0, x1, x2, x3, x4, x5, x6, x7]) := hp (lhR.u32s 8 (lhR.fnL [x0, x1, x2, x3, x4, x5, x6, x7])) (by simp)
    have hf : s.size ≤ 140737488355328 := hp (lhR.sfit s) (by simp)
    clear hp
    simp only [List.length_cons, List.length_nil]

    refine run_pk hmix ti_ok tbh1_ok 0 false 400 [false] [0, 1] [0] [] (fun ar lf => by conv => lhs; cbv) (allP ?_) ?_
    · refine ⟨?_, trivial⟩
      have e := byt_len s
      show 0 + (arR.dByt s).length ≤ 9223372036854775807 ∧ (0 + (arR.dByt s).length) * 1 ≤ 140737488355328
      omega
    refine Run.loop (ι := {p : Fn8 × List D × Int // isU32s 8 p.1 ∧ bytesD p.2.1 ∧ (∀ j, j < 8 → wx p.1 p.2.1 j = wx (fnL [x0, x1, x2, x3, x4, x5, x6, x7]) (arR.dByt s) j) ∧ wl p.2.1 = wl (arR.dByt s) ∧ p.2.2 = rbin .add .u64 n (IntKind.u64.wrap s.size) ∧ p.2.1.length ≤ 140737488355328})
      (fun i => ([.a (.one (.ptr 0 (.lit 0))), .any, .any, .any, .any, .any, .any, .any, .any, .any, .any, .any, .any, .any, .any, .any, .any, .any, .any, .any, .any, .any, .any, .any, .any, .any, .any, .any, .any, .any, .any, .any, .any, .any, .any, .any, .any, .any, .any, .any, .any, .any, .any, .any, .any, .any, .any, .any, .any, .any, .any, .any, .any], [some ⟨false, .lst [.int .u32 (i.1.1 0), .int .u32 (i.1.1 1), .int .u32 (i.1.1 2), .int .u32 (i.1.1 3), .int .u32 (i.1.1 4), .int .u32 (i.1.1 5), .int .u32 (i.1.1 6), .int .u32 (i.1.1 7), .dat (.int .u8) i.1.2.1 (some 1), .int .u64 i.1.2.2]⟩, some ⟨false, .tail⟩]))
      (fun i => i.1.2.1.length) ⟨(fnL [x0, x1, x2, x3, x4, x5, x6, x7], arR.dCat [] (arR.dByt s), _), hx, bytesD_byt s, fun j hj => rfl, rfl, rfl, by show (arR.dByt s).length ≤ _; rw [byt_len]; exact hf⟩ ?_
    rintro ⟨⟨x, ys, m⟩, hu, hb, hw, hl, hm, hlen⟩ ih
    simp only at hu hb hw hl hm hlen
    by_cases hlt : 64 ≤ ys.length
    · refine run_pk hmix ti_ok tbh1_ok 1 true 400 [true] [0, 1] [0] [] (fun ar lf => by conv => lhs; cbv) (allP ?_) ?_
      · simp only [conj, and_true, arR, lhR, lsR, rcmp_geq, decide_eq_true_eq, Int.ofNat_eq_natCast]
        refine ⟨by omega, ?_, rowF_u8 hb hlt, by omega, by omega⟩
        intro j hj
        exact fn8_u32 hu j hj
      · refine ih ⟨(stepS (fnL [x 0, x 1, x 2, x 3, x 4, x 5, x 6, x 7]) (rowF ys), _, _), ?_⟩ ?_ _ _
        · simp only
          have e : arR.dCut ys (arR.tn 64) ys.length = ys.drop 64 := by
            show (ys.take ys.length).drop 64 = _
            rw [List.take_length]
          refine ⟨stepS_u32, ?_, ?_, ?_, hm, ?_⟩
          · exact (e ▸ bytesD_drop hb 64 : bytesD (arR.dCut ys (arR.tn 64) ys.length))
          · intro j hj
            rw [← hw j hj, wx.eq_def x ys, dif_pos hlt]
            refine (?_ : wx _ (arR.dCut ys (arR.tn 64) ys.length) j = _)
            rw [e]
            exact wx_congr _ (stepS_congr (fun j hj => fn8_eq j hj) rfl) j hj
          · rw [← hl, wl.eq_def ys, dif_pos hlt]
            exact congrArg wl e
          · have : (arR.dCut ys (arR.tn 64) ys.length).length ≤ 140737488355328 := by rw [e, List.length_drop]; omega
            exact this
        · have e : arR.dCut ys (arR.tn 64) ys.length = ys.drop 64 := by
            show (ys.take ys.length).drop 64 = _
            rw [List.take_length]
          show (arR.dCut ys (arR.tn 64) ys.length).length < ys.length
          rw [e, List.length_drop]; omega
    · refine run_ex hmix ti_ok tbh1_ok 1 false 400 [false] (fun ar lf => by conv => lhs; cbv) (allP ?_) ?_
      · simp only [conj, and_true, arR, rcmp_geq, decide_eq_false_iff_not, Int.ofNat_eq_natCast]
        omega
      · have e1 : wx x ys = x := by rw [wx, dif_neg hlt]
        have e2 : wl ys = ys := by rw [wl, dif_neg hlt]
        rw [e1] at hw
        rw [e2] at hl
        refine Run.fin ti_ok rfl rfl ⟨[0, 1], by decide, fun j hj => ?_, rfl, .of_map rfl, fun i b' hi => ?_⟩
        · obtain rfl : j = 0 := by omega
          rfl
        · match i with
          | 0 =>
            simp only [List.getElem?_cons_zero, Option.some.injEq] at hi
            subst hi
            refine ⟨0, _, rfl, rfl, rfl, hC_le (x := x) hw (.of ?_) (.of ?_)⟩
            · show some (C.dat (.int .u8) ys (some 1)) = some (C.dat U8 (wl (arR.dByt s)) (some 1))
              rw [← hl]; rfl
            · show some (C.int .u64 m) = some (C.int .u64 _)
              rw [hm]; rfl
          | 1 =>
            simp only [List.getElem?_cons_succ, List.getElem?_cons_zero, Option.some.injEq] at hi
            subst hi
            exact ⟨1, _, rfl, rfl, rfl, .of_map rfl⟩
          | i + 2 => simp at hi

  · rename_i s x0 x1 x2 x3 x4 x5 x6 x7 xs n
    cases hs
    have hx : isU32s 8 (fnL [x0, x1, x2, x3, x4, x5, x6, x7]) := hp (lhR.u32s 8 (lhR.fnL [x0, x1, x2, x3, x4, x5, x6, x7])) (by simp)
    have hxs : bytesD xs := hp (lhR.bytesD xs) (by simp)
    have hf : xs.length + s.size ≤ 140737488355328 := hp (lhR.fits xs s) (by simp)
    clear hp
    simp only [List.length_cons, List.length_nil]

    refine run_pk hmix ti_ok tbh1_ok 0 false 400 [false] [0, 1, 2] [0] [] (fun ar lf => by conv => lhs; cbv) (allP ?_) ?_
    · refine ⟨?_, trivial⟩
      have e := byt_len s
      show xs.length + (arR.dByt s).length ≤ 9223372036854775807 ∧ (xs.length + (arR.dByt s).length) * 1 ≤ 140737488355328
      omega
    refine Run.loop (ι := {p : Fn8 × List D × Int // isU32s 8 p.1 ∧ bytesD p.2.1 ∧ (∀ j, j < 8 → wx p.1 p.2.1 j = wx (fnL [x0, x1, x2, x3, x4, x5, x6, x7]) (xs ++ arR.dByt s) j) ∧ wl p.2.1 = wl (xs ++ arR.dByt s) ∧ p.2.2 = rbin .add .u64 n (IntKind.u64.wrap s.size) ∧ p.2.1.length ≤ 140737488355328})
      (fun i => ([.a (.one (.ptr 0 (.lit 0))), .any, .any, .any, .any, .any, .any, .any, .any, .any, .any, .any, .any, .any, .any, .any, .any, .any, .any, .any, .any, .any, .any, .any, .any, .any, .any, .any, .any, .any, .any, .any, .any, .any, .any, .any, .any, .any, .any, .any, .any, .any, .any, .any, .any, .any, .any, .any, .any, .any, .any, .any, .any], [some ⟨false, .lst [.int .u32 (i.1.1 0), .int .u32 (i.1.1 1), .int .u32 (i.1.1 2), .int .u32 (i.1.1 3), .int .u32 (i.1.1 4), .int .u32 (i.1.1 5), .int .u32 (i.1.1 6), .int .u32 (i.1.1 7), .dat (.int .u8) i.1.2.1 (some 2), .int .u64 i.1.2.2]⟩, some ⟨true, .dead⟩, some ⟨false, .tail⟩]))
      (fun i => i.1.2.1.length) ⟨(fnL [x0, x1, x2, x3, x4, x5, x6, x7], arR.dCat xs (arR.dByt s), _), hx, bytesD_append hxs (bytesD_byt s), fun j hj => rfl, rfl, rfl, by show (xs ++ arR.dByt s).length ≤ _; rw [List.length_append, byt_len]; exact hf⟩ ?_
    rintro ⟨⟨x, ys, m⟩, hu, hb, hw, hl, hm, hlen⟩ ih
    simp only at hu hb hw hl hm hlen
    by_cases hlt : 64 ≤ ys.length
    · refine run_pk hmix ti_ok tbh1_ok 1 true 400 [true] [0, 1, 2] [0] [] (fun ar lf => by conv => lhs; cbv) (allP ?_) ?_
      · simp only [conj, and_true, arR, lhR, lsR, rcmp_geq, decide_eq_true_eq, Int.ofNat_eq_natCast]
        refine ⟨by omega, ?_, rowF_u8 hb hlt, by omega, by omega⟩
        intro j hj
        exact fn8_u32 hu j hj
      · refine ih ⟨(stepS (fnL [x 0, x 1, x 2, x 3, x 4, x 5, x 6, x 7]) (rowF ys), _, _), ?_⟩ ?_ _ _
        · simp only
          have e : arR.dCut ys (arR.tn 64) ys.length = ys.drop 64 := by
            show (ys.take ys.length).drop 64 = _
            rw [List.take_length]
          refine ⟨stepS_u32, ?_, ?_, ?_, hm, ?_⟩
          · exact (e ▸ bytesD_drop hb 64 : bytesD (arR.dCut ys (arR.tn 64) ys.length))
          · intro j hj
            rw [← hw j hj, wx.eq_def x ys, dif_pos hlt]
            refine (?_ : wx _ (arR.dCut ys (arR.tn 64) ys.length) j = _)
            rw [e]
            exact wx_congr _ (stepS_congr (fun j hj => fn8_eq j hj) rfl) j hj
          · rw [← hl, wl.eq_def ys, dif_pos hlt]
            exact congrArg wl e
          · have : (arR.dCut ys (arR.tn 64) ys.length).length ≤ 140737488355328 := by rw [e, List.length_drop]; omega
            exact this
        · have e : arR.dCut ys (arR.tn 64) ys.length = ys.drop 64 := by
            show (ys.take ys.length).drop 64 = _
            rw [List.take_length]
          show (arR.dCut ys (arR.tn 64) ys.length).length < ys.length
          rw [e, List.length_drop]; omega
    · refine run_ex hmix ti_ok tbh1_ok 1 false 400 [false] (fun ar lf => by conv => lhs; cbv) (allP ?_) ?_
      · simp only [conj, and_true, arR, rcmp_geq, decide_eq_false_iff_not, Int.ofNat_eq_natCast]
        omega
      · have e1 : wx x ys = x := by rw [wx, dif_neg hlt]
        have e2 : wl ys = ys := by rw [wl, dif_neg hlt]
        rw [e1] at hw
        rw [e2] at hl
        refine Run.fin ti_ok rfl rfl ⟨[0, 1, 2], by decide, fun j hj => ?_, rfl, .of_map rfl, fun i b' hi => ?_⟩
        · rcases (by omega : j = 0 ∨ j = 1) with rfl | rfl <;> rfl
        · match i with
          | 0 =>
            simp only [List.getElem?_cons_zero, Option.some.injEq] at hi
            subst hi
            refine ⟨0, _, rfl, rfl, rfl, hC_le (x := x) hw (.of ?_) (.of ?_)⟩
            · show some (C.dat (.int .u8) ys (some 2)) = some (C.dat U8 (wl (xs ++ arR.dByt s)) (some 2))
              rw [← hl]; rfl
            · show some (C.int .u64 m) = some (C.int .u64 _)
              rw [hm]; rfl
          | 1 =>
            simp only [List.getElem?_cons_succ, List.getElem?_cons_zero, Option.some.injEq] at hi
            subst hi
            exact ⟨1, _, rfl, rfl, rfl, .of_map rfl⟩
          | 2 =>
            simp only [List.getElem?_cons_succ, List.getElem?_cons_zero, Option.some.injEq] at hi
            subst hi
            exact ⟨2, _, rfl, rfl, rfl, .of_map rfl⟩
          | i + 3 => simp at hi

  · cases hs
end Go.Proofs.YtjiciplcdklfcaaDoor
