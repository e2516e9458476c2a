import Derived.Test.YtjiciplcdklfcaaDoorMg
set_option linter.unusedSimpArgs false
set_option linter.unusedVariables false
namespace Go.Eng
open Go
/-- a state's bytes -/
def dg (x : Fn8) : Fn8 := fun j => IntKind.u8.wrap (rbin .shr .u32 (x (j / 4)) (24 - 8 * ((j % 4 : Nat) : Int)))
def sha (s : ByteArray) : Fn8 := dg (wx iv (arR.dByt s ++ arR.dByt (padT (IntKind.u64.wrap s.size))))
theorem txt_size (l : List D) : (arR.dTxt l).size = l.length := by
  show (List.map _ l).toArray.size = _
  simp
theorem text_size (f : Fn8) (n : Nat) : (arR.txt f n).size = n := by
  show (List.map _ (List.range n)).toArray.size = _
  simp
theorem pad_size (n : Int) : (padT n).size = padZ n + 9 := by
  unfold padT
  rw [txt_size]
  simp [padL]
theorem padZ_lt (n : Int) : padZ n < 64 := by unfold padZ; omega
theorem dg_u8 (x : Fn8) : isU8s 32 (dg x) := fun j _ => by
  show 0 ≤ IntKind.u8.wrap _ ∧ IntKind.u8.wrap _ < 256
  rw [wrap_u8]; omega
theorem dg_at {x : Fn8} {q r : Nat} (h : r < 4) : dg x (4 * q + r) = IntKind.u8.wrap (rbin .shr .u32 (x q) (24 - 8 * (r : Int))) := by
  unfold dg
  rw [show (4 * q + r) / 4 = q by omega, show (4 * q + r) % 4 = r by omega]
theorem dg_congr {x y : Fn8} (h : ∀ j, j < 8 → x j = y j) : ∀ j, j < 32 → dg x j = dg y j := fun j hj => by
  unfold dg
  rw [h (j / 4) (by omega)]
theorem iv_u32 : isU32s 8 iv := by
  intro j hj
  match j, hj with
  | 0, _ => decide
  | 1, _ => decide
  | 2, _ => decide
  | 3, _ => decide
  | 4, _ => decide
  | 5, _ => decide
  | 6, _ => decide
  | 7, _ => decide
theorem add_u64 (x y : Int) : 0 ≤ rbin .add .u64 x y ∧ rbin .add .u64 x y < 18446744073709551616 := by
  show 0 ≤ IntKind.u64.wrap (x + y) ∧ IntKind.u64.wrap (x + y) < 18446744073709551616
  rw [wrap_u64]
  omega
theorem add0 (x : Int) : rbin .add .u64 0 (IntKind.u64.wrap x) = IntKind.u64.wrap x := by
  show IntKind.u64.wrap (0 + IntKind.u64.wrap x) = _
  rw [wrap_u64, wrap_u64]
  omega
structure LT extends LP where
  dg : Fn8 → Fn8
  sha : ByteArray → Fn8
  short : List D → Prop
  txt : Fn8 → Nat → ByteArray
def ltR : LT where
  toLP := lpR
  dg := dg
  sha := sha
  short xs := xs.length < 64
  txt := arR.txt
theorem ints_rel {ρ : Ren} {k : IntKind} {n : Nat} {f g : Fn8} {u : Value} (h : ∀ j, j < n → f j = g j) (hu : ARel ρ (.agg (.ints k (.lit n) f)) u) : ARel ρ (.agg (.ints k (.lit n) g)) u := by
  obtain ⟨arr, e, h1, h2⟩ := hu
  refine ⟨arr, e, h1, fun j y hy => ?_⟩
  simp only [G.at] at hy
  by_cases hj : j < n
  · rw [if_pos (show j < (N.lit n).val from hj)] at hy
    simp only [Option.some.injEq] at hy
    subst hy
    obtain ⟨v, a1, a2⟩ := h2 j (.int k (f j)) (by simp only [G.at]; rw [if_pos (show j < (N.lit n).val from hj)])
    exact ⟨v, a1, by rw [← h j hj]; exact a2⟩
  · rw [if_neg (show ¬ j < (N.lit n).val from hj)] at hy; cases hy
/-- a slot's value in another form -/
theorem Run.as {P : Program} {hc : FuncId → Bool} {W0 : World} {m0 : Nat} {fn : Func} {R : V → Heap → Prop} {t : List V} {h : Heap} {T : List Item} {o : List Prop} {s : List Bool} (i : Nat) (v : V) (hv : ∀ (ρ : Ren) u, VRel ρ (t.getD i (.tup [])) u → VRel ρ v u)
    (hr : Run P hc W0 m0 fn R ⟨t.set i v, h, T, [], []⟩) : Run P hc W0 m0 fn R ⟨t, h, T, o, s⟩ := by
  intro hok hm ρ tmps w b cs hT hH
  refine hr hok hm ρ tmps w b cs ⟨by rw [hT.1]; simp, fun j x hx => ?_⟩ hH
  simp only at hx hT
  rw [List.getElem?_set] at hx
  by_cases hij : i = j
  · subst hij
    rw [if_pos rfl] at hx
    by_cases hl : i < t.length
    · rw [if_pos hl] at hx
      simp only [Option.some.injEq] at hx
      subst hx
      obtain ⟨u, h1, h2⟩ := hT.2 i t[i] (List.getElem?_eq_getElem hl)
      exact ⟨u, h1, hv ρ u (by rw [List.getD_eq_getElem?_getD, List.getElem?_eq_getElem hl]; exact h2)⟩
    · rw [if_neg hl] at hx; cases hx
  · rw [if_neg hij] at hx
    exact hT.2 j x hx
end Go.Eng
namespace Go.Proofs.YtjiciplcdklfcaaDoor
open Go Go.Eng Go.Proofs Go.RowKit
attribute [local irreducible] CallOk HOk Run TIok rbin rcmp run1 updF shfF blitF
def hSum (lf : LT) : HSpec := fun l bs => match l, bs with
  | [.one (.ptr 0 (.lit 0))], [⟨false, .lst [.int .u32 x0, .int .u32 x1, .int .u32 x2, .int .u32 x3, .int .u32 x4, .int .u32 x5, .int .u32 x6, .int .u32 x7, .dat (.int .u8) xs (some 1), .int .u64 n]⟩, ⟨false, .tail⟩] =>
    some (.a (aF .u8 32 (lf.dg (lf.wx (lf.fnL [x0, x1, x2, x3, x4, x5, x6, x7]) (lf.cat xs (lf.byt (lf.pad n)))))), [⟨false, .lst [.int .u32 x0, .int .u32 x1, .int .u32 x2, .int .u32 x3, .int .u32 x4, .int .u32 x5, .int .u32 x6, .int .u32 x7, .dat (.int .u8) xs (some 1), .int .u64 n]⟩, ⟨false, .tail⟩], [lf.u32s 8 (lf.fnL [x0, x1, x2, x3, x4, x5, x6, x7]), lf.bytesD xs, lf.short xs, lf.u64 n])
  | _, _ => none
def tbt0 (lf : LT) : Tbl := tbL [(78, sPad lf.toLP)] [(77, hClone lf.toLH), (61, hWrite lf.toLH)]
theorem tbt0_ok : TblOk Tryd.prog (tbt0 ltR) := tbL_ok (List.forall_mem_cons.2 ⟨pad_ok, nofun⟩) (List.forall_mem_cons.2 ⟨clone_ok, List.forall_mem_cons.2 ⟨write_ok, nofun⟩⟩)
set_option maxRecDepth 100000 in
theorem hsum_ok : HOk Tryd.prog 62 (hSum ltR) := by
  refine .of_run (hc := (tbt0 ltR).hc) Tryd.func62 rfl (by kernel_rfl) (by kernel_rfl) fun las lbs v lbs' ps hs hp w => ?_
  unfold hSum at hs
  split at hs
  · rename_i x0 x1 x2 x3 x4 x5 x6 x7 xs n
    cases hs
    have hx : isU32s 8 (fnL [x0, x1, x2, x3, x4, x5, x6, x7]) := hp (ltR.u32s 8 (ltR.fnL [x0, x1, x2, x3, x4, x5, x6, x7])) (by simp)
    have hxs : bytesD xs := hp (ltR.bytesD xs) (by simp)
    have hl : xs.length < 64 := hp (ltR.short xs) (by simp)
    have hn : 0 ≤ n ∧ n < 18446744073709551616 := hp (ltR.u64 n) (by simp)
    clear hp
    simp only [List.length_cons, List.length_nil]
    refine run_pk hmix ti_ok tbt0_ok 0 false 2000 [] [0, 1, 2, 11] [2, 4, 24, 25] [25] (fun ar lf => by conv => lhs; cbv) (allP ?_) ?_
    · have h1 := pad_size n
      have h2 := padZ_lt n
      refine ⟨hx, hxs, ?_, hn, ?_, trivial⟩
      · show xs.length + (padT n).size ≤ 140737488355328
        omega
      · show xs.length + 0 ≤ 140737488355328
        omega
    generalize hX : wx (fnL [x0, x1, x2, x3, x4, x5, x6, x7]) (xs ++ arR.dByt (padT n)) = X
    refine Run.as 24 (.a (aF .u32 8 X)) (fun ρ u hu => ?_) ?_
    · subst hX
      have h1 : fnA fnL (.agg (.lst [.int .u32 (wx (fnL [x0, x1, x2, x3, x4, x5, x6, x7]) (xs ++ arR.dByt (padT n)) 0), .int .u32 (wx (fnL [x0, x1, x2, x3, x4, x5, x6, x7]) (xs ++ arR.dByt (padT n)) 1), .int .u32 (wx (fnL [x0, x1, x2, x3, x4, x5, x6, x7]) (xs ++ arR.dByt (padT n)) 2), .int .u32 (wx (fnL [x0, x1, x2, x3, x4, x5, x6, x7]) (xs ++ arR.dByt (padT n)) 3),
        .int .u32 (wx (fnL [x0, x1, x2, x3, x4, x5, x6, x7]) (xs ++ arR.dByt (padT n)) 4), .int .u32 (wx (fnL [x0, x1, x2, x3, x4, x5, x6, x7]) (xs ++ arR.dByt (padT n)) 5), .int .u32 (wx (fnL [x0, x1, x2, x3, x4, x5, x6, x7]) (xs ++ arR.dByt (padT n)) 6), .int .u32 (wx (fnL [x0, x1, x2, x3, x4, x5, x6, x7]) (xs ++ arR.dByt (padT n)) 7)])) = some _ := rfl
      exact ints_rel (fun j hj => fn8_eq j hj) (fnA_rel h1 hu)
    refine Run.loop (ι := {p : Int × Fn8 × Fn8 // (0 ≤ p.1 ∧ p.1 ≤ 8) ∧ p.2.1 = X ∧ ∀ j : Nat, j < 4 * p.1 → p.2.2 j = dg X j})
      (fun i => ([.any, .any, .a (.one (.ptr 2 (.lit 0))), .any, .a (.one (.ptr 3 (.lit 0))), .any, .any, .any, .any, .any, .any, .any, .any, .any, .any, .any, .any, .any, .any, .any, .any, .any, .any, .any, .a (.agg (.ints .u32 (.lit 8) i.1.2.1)), .a (.one (.int .i64 i.1.1)), .any, .any, .any, .any, .any, .any, .any, .any, .any, .any, .any, .any, .any, .any, .any, .any, .any, .any, .any, .any], [some ⟨false, .lst [.int .u32 x0, .int .u32 x1, .int .u32 x2, .int .u32 x3, .int .u32 x4, .int .u32 x5, .int .u32 x6, .int .u32 x7, .dat (.int .u8) xs (some 1), .int .u64 n]⟩, some ⟨false, .tail⟩, some ⟨false, .ints .u8 (.lit 32) (fun _ => 0)⟩, some ⟨false, .ints .u8 (.lit 32) i.1.2.2⟩]))
      (fun i => (8 - i.1.1).toNat) ⟨(0, X, fun _ => 0), by simp only; omega, rfl, fun j hj => by simp only at hj; omega⟩ ?_
    rintro ⟨⟨i, x, f⟩, hi, hxx, hf⟩ ih
    simp only at hi hxx hf
    have e3 : rbin .add .i64 i 1 = i + 1 := addi (by omega) (by omega)
    have e1 : rbin .mul .i64 4 i = 4 * i := muli (by omega) (by omega)
    have e4 : rbin .add .i64 (4 * i) 0 = 4 * i + 0 := addi (by omega) (by omega)
    have e5 : rbin .add .i64 (4 * i) 1 = 4 * i + 1 := addi (by omega) (by omega)
    have e6 : rbin .add .i64 (4 * i) 2 = 4 * i + 2 := addi (by omega) (by omega)
    have e7 : rbin .add .i64 (4 * i) 3 = 4 * i + 3 := addi (by omega) (by omega)
    by_cases hlt : i < 8
    · refine run_pk hmix ti_ok tbt0_ok 2 true 400 [true] [0, 1, 2, 3] [2, 4, 24, 25] [25] (fun ar lf => by conv => lhs; cbv) (allP ?_) ?_
      · simp only [conj, and_true, arR, rcmp_lss, decide_eq_true_eq, e1, e4, e5, e6, e7, Nat.succ_eq_add_one, Int.ofNat_eq_natCast]
        omega
      · refine ih ⟨(_, _, _), ?_⟩ ?_ _ _
        · simp only [arR, e1, e3, e4, e5, e6, e7, N.val]
          refine ⟨by omega, hxx, fun j hj => ?_⟩
          obtain ⟨q, rfl⟩ : ∃ q : Nat, i = q := ⟨i.toNat, by omega⟩
          subst hxx
          rw [show 0 + (q : Int).toNat * 1 = q by omega, show 0 + (4 * (q : Int) + 0).toNat * 1 = 4 * q by omega, show 0 + (4 * (q : Int) + 1).toNat * 1 = 4 * q + 1 by omega, show 0 + (4 * (q : Int) + 2).toNat * 1 = 4 * q + 2 by omega, show 0 + (4 * (q : Int) + 3).toNat * 1 = 4 * q + 3 by omega]
          rcases (by omega : j < 4 * q ∨ j = 4 * q ∨ j = 4 * q + 1 ∨ j = 4 * q + 2 ∨ j = 4 * q + 3) with h | rfl | rfl | rfl | rfl
          · rw [updF_ne (by omega), updF_ne (by omega), updF_ne (by omega), updF_ne (by omega)]
            exact hf j (by omega)
          · rw [updF_ne (by omega), updF_ne (by omega), updF_ne (by omega), updF_at]
            exact (dg_at (r := 0) (by decide)).symm
          · rw [updF_ne (by omega), updF_ne (by omega), updF_at]
            exact (dg_at (r := 1) (by decide)).symm
          · rw [updF_ne (by omega), updF_at]
            exact (dg_at (r := 2) (by decide)).symm
          · rw [updF_at]
            exact (dg_at (r := 3) (by decide)).symm
        · show (8 - rbin .add .i64 i 1).toNat < (8 - i).toNat
          rw [e3]; omega
    · obtain rfl : i = 8 := by omega
      refine run_ex hmix ti_ok tbt0_ok 2 false 400 [false] (fun ar lf => by conv => lhs; cbv) (allP ?_) ?_
      · simp only [conj, and_true, arR, rcmp_lss]
        decide
      · refine Run.ret ti_ok rfl rfl ⟨[0, 1], by decide, fun j hj => ?_, rfl, .of (.a (.ints fun j hj => ?_)), fun i b' hi => ?_⟩
        · rcases (by omega : j = 0 ∨ j = 1) with rfl | rfl <;> rfl
        · have hj : j < 32 := hj
          rw [hf j (by omega), ← hX]; rfl
        · match i with
          | 0 =>
            simp only [List.getElem?_cons_zero, Option.some.injEq] at hi
            subst hi
            exact ⟨0, _, rfl, rfl, rfl, .of_map rfl⟩
          | 1 =>
            simp only [List.getElem?_cons_succ, List.getElem?_cons_zero, Option.some.injEq] at hi
            subst hi
            exact ⟨1, _, rfl, rfl, rfl, .of_map rfl⟩
          | i + 2 => simp at hi
  · cases hs
def sSum (lf : LT) : ESpec := fun l => match l with
  | [.one (.str s)] => some (.a (aF .u8 32 (lf.sha s)), [lf.sfit s])
  | _ => none
def tbt1 (lf : LT) : Tbl := tbL [] [(60, hNew lf.toLH), (61, hWrite lf.toLH), (62, hSum lf)]
theorem tbt1_ok : TblOk Tryd.prog (tbt1 ltR) := tbL_ok nofun (List.forall_mem_cons.2 ⟨new_ok, List.forall_mem_cons.2 ⟨write_ok, List.forall_mem_cons.2 ⟨hsum_ok, nofun⟩⟩⟩)
set_option maxRecDepth 100000 in
theorem sum_ok : CallOk Tryd.prog 48 (sSum ltR) := by
  refine .eval (tb := tbt1) hmix ti_ok tbt1_ok Tryd.func48 rfl (by kernel_rfl) (by kernel_rfl) fun xs v ps h1 hp => ?_
  unfold sSum at h1
  split at h1
  · rename_i s
    cases h1
    have hf : s.size ≤ 140737488355328 := hp (ltR.sfit s) (by simp)
    clear hp
    refine ⟨1000, [], _, fun ar lf => by conv => lhs; cbv, ?_, ?_⟩
    · refine allP ?_
      exact ⟨fn8_u32 (wx_u32 _ (fn8_u32 iv_u32)), wl_bytes (bytesD_byt s), wl_len _, add_u64 _ _, fn8_u32 iv_u32, hf, trivial⟩
    · refine .a (.ints fun j hj => ?_)
      have hj : j < 32 := hj
      show dg (wx (fnL [wx (fnL [iv 0, iv 1, iv 2, iv 3, iv 4, iv 5, iv 6, iv 7]) (arR.dByt s) 0, _, _, _, _, _, _, _]) (wl (arR.dByt s) ++ arR.dByt (padT (rbin .add .u64 0 (IntKind.u64.wrap s.size))))) j = dg (wx iv (arR.dByt s ++ arR.dByt (padT (IntKind.u64.wrap s.size)))) j
      rw [add0]
      refine dg_congr (fun j hj => ?_) j hj
      refine (wx_congr _ (fun j hj => fn8_eq (x := wx (fnL [iv 0, iv 1, iv 2, iv 3, iv 4, iv 5, iv 6, iv 7]) (arR.dByt s)) j hj) j hj).trans ?_
      rw [wx_cat]
      exact wx_congr _ (fun j hj => fn8_eq j hj) j hj
  · cases h1
def sTwice (lf : LT) : ESpec := fun l => match l with
  | [.one (.str s)] => some (.a (aF .u8 32 (lf.sha (lf.txt (lf.sha s) 32))), [lf.sfit s])
  | _ => none
def tbt2 (lf : LT) : Tbl := tbL [(48, sSum lf)] []
theorem tbt2_ok : TblOk Tryd.prog (tbt2 ltR) := tbL_ok (List.forall_mem_cons.2 ⟨sum_ok, nofun⟩) nofun
theorem twice_ok : CallOk Tryd.prog 33 (sTwice ltR) := by
  refine .eval (tb := tbt2) hmix ti_ok tbt2_ok Tryd.func33 rfl (by kernel_rfl) (by kernel_rfl) fun xs v ps h1 hp => ?_
  unfold sTwice at h1
  split at h1
  · rename_i s
    cases h1
    have hf : s.size ≤ 140737488355328 := hp (ltR.sfit s) (by simp)
    clear hp
    refine ⟨1000, [], _, fun ar lf => by conv => lhs; cbv, ?_, ?_⟩
    · refine allP ⟨?_, hf, trivial⟩
      show (arR.txt _ 32).size ≤ 140737488355328
      rw [text_size]; decide
    · refine .a (.ints fun j hj => ?_)
      show sha (arR.txt (fun j => sha s (0 + j)) 32) j = sha (arR.txt (sha s) 32) j
      simp only [Nat.zero_add]
  · cases h1
end Go.Proofs.YtjiciplcdklfcaaDoor
