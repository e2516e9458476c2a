import Derived.Test.YtjiciplcdklfcaaDoorMd
set_option linter.unusedSimpArgs false
set_option linter.unusedVariables false
namespace Go.Eng
open Go
def fnL (l : List Int) : Fn8 := fun j => l.getD j 0
def bytesD (xs : List D) : Prop := ∀ d ∈ xs, ∃ n, d = .int n ∧ 0 ≤ n ∧ n < 256
def rowF (xs : List D) : Fn8 := fun j => ((xs.take 64).map D.int!).getD j 0
/-- the state behind all whole blocks -/
def wx (x : Fn8) (xs : List D) : Fn8 := if h : 64 ≤ xs.length then wx (stepS x (rowF xs)) (xs.drop 64) else x
  termination_by xs.length
  decreasing_by simp; omega
/-- what is left -/
def wl (xs : List D) : List D := if h : 64 ≤ xs.length then wl (xs.drop 64) else xs
  termination_by xs.length
  decreasing_by simp; omega
theorem rowF_u8 {xs : List D} (h : bytesD xs) (hl : 64 ≤ xs.length) : isU8s 64 (rowF xs) := by
  intro j hj
  unfold rowF
  have e : (xs.take 64)[j]? = some xs[j] := by
    rw [List.getElem?_take_of_lt hj]
    exact List.getElem?_eq_getElem (by omega)
  obtain ⟨n, h1, h2⟩ := h xs[j] (List.getElem_mem _)
  rw [List.getD_eq_getElem?_getD, List.getElem?_map, e, h1]
  exact h2
theorem bytesD_drop {xs : List D} (h : bytesD xs) (n : Nat) : bytesD (xs.drop n) := fun d hd => h d (List.mem_of_mem_drop hd)
theorem bytesD_append {xs ys : List D} (h : bytesD xs) (k : bytesD ys) : bytesD (xs ++ ys) := fun d hd => (List.mem_append.1 hd).elim (h d) (k d)
theorem bytesD_byt (s : ByteArray) : bytesD (arR.dByt s) := by
  intro d hd
  have hd : d ∈ s.data.toList.map fun b => D.int b.toNat := hd
  obtain ⟨b, -, rfl⟩ := List.mem_map.1 hd
  refine ⟨_, rfl, by omega, ?_⟩
  have := b.toNat_lt
  omega
theorem stepS_u32 {x b : Fn8} : isU32s 8 (stepS x b) := fun j _ => add_u32 _ _
theorem stepS_congr {x y b c : Fn8} (h : ∀ j, j < 8 → x j = y j) (hb : b = c) : ∀ j, j < 8 → stepS x b j = stepS y c j := by
  subst hb
  have key : ∀ t j, j < 8 → rnds b x t j = rnds b y t j := by
    intro t
    induction t with
    | zero => exact h
    | succ t ih => exact fun j hj => rnd_congr ih j hj
  intro j hj
  show rbin .add .u32 _ _ = rbin .add .u32 _ _
  rw [key 64 j hj, h j hj]
theorem wx_congr : ∀ (xs : List D) {x y : Fn8}, (∀ j, j < 8 → x j = y j) → ∀ j, j < 8 → wx x xs j = wx y xs j := by
  intro xs
  generalize hn : xs.length = n
  induction n using Nat.strongRecOn generalizing xs with
  | _ n ih =>
    intro x y h j hj
    rw [wx, wx.eq_def y]
    split
    · exact ih (xs.drop 64).length (by simp; omega) _ rfl (stepS_congr h rfl) j hj
    · exact h j hj
theorem wx_cat : ∀ (xs ys : List D) (x : Fn8), wx (wx x xs) (wl xs ++ ys) = wx x (xs ++ ys) := by
  intro xs
  generalize hn : xs.length = n
  induction n using Nat.strongRecOn generalizing xs with
  | _ n ih =>
    intro ys x
    rw [wx.eq_def x xs, wl]
    split
    · rename_i h
      rw [ih (xs.drop 64).length (by simp; omega) _ rfl, wx.eq_def x (xs ++ ys), dif_pos (by simp; omega), List.drop_append_of_le_length h]
      congr 2
      unfold rowF
      rw [List.take_append_of_le_length h]
    · rfl
theorem wl_bytes : ∀ {xs : List D}, bytesD xs → bytesD (wl xs) := by
  intro xs
  generalize hn : xs.length = n
  induction n using Nat.strongRecOn generalizing xs with
  | _ n ih =>
    intro h
    rw [wl]
    split
    · exact ih (xs.drop 64).length (by simp; omega) rfl (bytesD_drop h 64)
    · exact h
theorem wl_len : ∀ (xs : List D), (wl xs).length < 64 := by
  intro xs
  generalize hn : xs.length = n
  induction n using Nat.strongRecOn generalizing xs with
  | _ n ih =>
    rw [wl]
    split
    · exact ih (xs.drop 64).length (by simp; omega) _ rfl
    · omega
theorem wx_u32 : ∀ (xs : List D) {x : Fn8}, isU32s 8 x → isU32s 8 (wx x xs) := by
  intro xs
  generalize hn : xs.length = n
  induction n using Nat.strongRecOn generalizing xs with
  | _ n ih =>
    intro x h
    rw [wx]
    split
    · exact ih (xs.drop 64).length (by simp; omega) _ rfl stepS_u32
    · exact h
structure LH extends LS where
  fnL : List Int → Fn8
  bytesD : List D → Prop
  wx : Fn8 → List D → Fn8
  wl : List D → List D
  cat : List D → List D → List D
  byt : ByteArray → List D
  alen : Int → ByteArray → Int
  fits : List D → ByteArray → Prop
  sfit : ByteArray → Prop
def lhR : LH where
  toLS := lsR
  fnL := fnL
  bytesD := bytesD
  wx := wx
  wl := wl
  cat xs ys := xs ++ ys
  byt := arR.dByt
  alen n s := rbin .add .u64 n (IntKind.u64.wrap s.size)
  fits xs s := xs.length + s.size ≤ 140737488355328
  sfit s := s.size ≤ 140737488355328
/-- the hasher's cells -/
def hC (x : Fn8) (left : C) (n : C) : List C := [.int .u32 (x 0), .int .u32 (x 1), .int .u32 (x 2), .int .u32 (x 3), .int .u32 (x 4), .int .u32 (x 5), .int .u32 (x 6), .int .u32 (x 7), left, n]
def U8 : Sh := .int .u8
/-- eight numbers, as an array or cell by cell -/
def fnA (f : List Int → Fn8) : A → Option Fn8
  | .agg (.ints .u32 (.lit 8) x) => some x
  | .agg (.lst [.int .u32 x0, .int .u32 x1, .int .u32 x2, .int .u32 x3, .int .u32 x4, .int .u32 x5, .int .u32 x6, .int .u32 x7]) => some (f [x0, x1, x2, x3, x4, x5, x6, x7])
  | _ => none
theorem fnA_rel {ρ : Ren} {a : A} {x : Fn8} {v : Value} (h : fnA fnL a = some x) (hv : ARel ρ a v) : ARel ρ (aF .u32 8 x) v := by
  unfold fnA at h
  split at h
  · cases h; exact hv
  · cases h
    obtain ⟨arr, e, h1, h2⟩ := hv
    refine ⟨arr, e, h1, fun j y hy => ?_⟩
    simp only [G.at] at hy
    by_cases hj : j < 8
    · rw [if_pos (show j < (N.lit 8).val from hj)] at hy
      simp only [Option.some.injEq] at hy
      subst hy
      match j, hj with
      | 0, _ => exact h2 0 _ rfl
      | 1, _ => exact h2 1 _ rfl
      | 2, _ => exact h2 2 _ rfl
      | 3, _ => exact h2 3 _ rfl
      | 4, _ => exact h2 4 _ rfl
      | 5, _ => exact h2 5 _ rfl
      | 6, _ => exact h2 6 _ rfl
      | 7, _ => exact h2 7 _ rfl
    · rw [if_neg (show ¬ j < (N.lit 8).val from hj)] at hy; cases hy
  · cases h
end Go.Eng
namespace Go.Proofs.YtjiciplcdklfcaaDoor
open Go Go.Eng Go.Proofs Go.RowKit
attribute [local irreducible] CallOk HOk Run TIok rbin rcmp run1 updF shfF blitF
def sStepA (lf : LH) : ESpec := fun l => match l with
  | [a, .agg (.ints .u8 (.lit 64) b)] => match fnA lf.fnL a with
    | some x => some (.a (aF .u32 8 (lf.step x b)), [lf.u32s 8 x, lf.u8s 64 b])
    | none => none
  | _ => none
theorem stepA_ok : CallOk Tryd.prog 76 (sStepA lhR) := by
  refine .via step_ok fun as' v ps hs hp => ?_
  unfold sStepA at hs
  split at hs
  · rename_i a b
    split at hs
    · rename_i x hx
      cases hs
      refine ⟨[aF .u32 8 x, .agg (.ints .u8 (.lit 64) b)], fun z args hA => ⟨hA.1, fun j y hy => ?_⟩, _, _, rfl, hp, fun z u hu => hu⟩
      match j with
      | 0 =>
        simp at hy; subst hy
        obtain ⟨u, h1, h2⟩ := hA.2 0 a rfl
        exact ⟨u, h1, fnA_rel hx h2⟩
      | 1 => exact hA.2 1 y (by simpa using hy)
      | j + 2 => simp at hy
    · cases hs
  · cases hs
def hNew (lf : LH) : HSpec := fun l bs => match l, bs with
  | [], [] => some (.a (.one (.ptr 0 (.lit 0))), [⟨false, .lst (hC lf.iv .nsl (.int .u64 0))⟩], [])
  | _, _ => none
def tbh0 (lf : LH) : Tbl := tbL [(75, sFirst lf.toLS)] []
theorem tbh0_ok : TblOk Tryd.prog (tbh0 lhR) := tbL_ok (List.forall_mem_cons.2 ⟨first_ok, nofun⟩) nofun
theorem new_ok : HOk Tryd.prog 60 (hNew lhR) := by
  refine .of_run (hc := (tbh0 lhR).hc) Tryd.func60 rfl (by kernel_rfl) (by kernel_rfl) fun las lbs v lbs' ps hs hp w => ?_
  unfold hNew at hs
  split at hs
  · cases hs
    refine run_ex hmix ti_ok tbh0_ok 0 false 400 [] (fun ar lf => by conv => lhs; cbv) (allP ?_) ?_
    · trivial
    · refine Run.ret ti_ok rfl rfl ⟨[0], by simp, fun j hj => by simp at hj, rfl, .of_map rfl, fun i b' hi => ?_⟩
      cases i with
      | succ i => simp at hi
      | zero =>
        simp at hi
        subst hi
        refine ⟨0, _, rfl, rfl, rfl, rfl, by simp, by simp, fun j y hy => ?_⟩
        match j with
        | 0 => cases hy; exact ⟨_, rfl, .of rfl⟩
        | 1 => cases hy; exact ⟨_, rfl, .of rfl⟩
        | 2 => cases hy; exact ⟨_, rfl, .of rfl⟩
        | 3 => cases hy; exact ⟨_, rfl, .of rfl⟩
        | 4 => cases hy; exact ⟨_, rfl, .of rfl⟩
        | 5 => cases hy; exact ⟨_, rfl, .of rfl⟩
        | 6 => cases hy; exact ⟨_, rfl, .of rfl⟩
        | 7 => cases hy; exact ⟨_, rfl, .of rfl⟩
        | 8 => cases hy; exact ⟨_, rfl, .of rfl⟩
        | 9 => cases hy; exact ⟨_, rfl, fun ρ u hu => hu⟩
        | j + 10 => cases hy
  · cases hs
end Go.Proofs.YtjiciplcdklfcaaDoor
