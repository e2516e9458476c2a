import Derived.Test.YtjiciplcdklfcaaDoorMi
set_option linter.unusedSimpArgs false
set_option linter.unusedVariables false
namespace Go.Eng
open Go
theorem byt_cat (a b : ByteArray) : arR.dByt (a ++ b) = arR.dByt a ++ arR.dByt b := by
  show (a ++ b).data.toList.map _ = _
  rw [ByteArray.data_append, Array.toList_append, List.map_append]
  rfl
theorem byt_get {s : ByteArray} {i : Nat} (h : i < s.size) : (arR.dByt s)[i]? = some (.int (arR.sb s i)) := by
  show (s.data.toList.map fun b => D.int b.toNat)[i]? = some (.int ((s[i]?.getD 0).toNat))
  rw [List.getElem?_map, Array.getElem?_toList, getElem?_pos s i h, Array.getElem?_eq_getElem (by exact h)]
  rfl
theorem wt_congr {b c : Fn8} (h : ∀ j, j < 64 → b j = c j) : ∀ t, t < 64 → wt b t = wt c t := by
  intro t
  induction t using Nat.strongRecOn with
  | _ t ih =>
    intro ht
    rw [wt, wt.eq_def c]
    split
    · unfold W16
      rw [h _ (by omega), h _ (by omega), h _ (by omega), h _ (by omega)]
    · rw [ih (t - 2) (by omega) (by omega), ih (t - 7) (by omega) (by omega), ih (t - 15) (by omega) (by omega), ih (t - 16) (by omega) (by omega)]
theorem stepS_congr2 {x b c : Fn8} (h : ∀ j, j < 64 → b j = c j) (j : Nat) : stepS x b j = stepS x c j := by
  have key : ∀ t, t ≤ 64 → rnds b x t = rnds c x t := by
    intro t
    induction t with
    | zero => exact fun _ => rfl
    | succ t ih =>
      intro ht
      show rnd (kt t) (wt b t) (rnds b x t) = rnd (kt t) (wt c t) (rnds c x t)
      rw [ih (by omega), wt_congr h t (by omega)]
  show rbin .add .u32 (rnds b x 64 j) (x j) = rbin .add .u32 (rnds c x 64 j) (x j)
  rw [key 64 (by omega)]
theorem rowF_byt {S : ByteArray} {i j : Nat} (h : i + 64 ≤ S.size) (hj : j < 64) : rowF ((arR.dByt S).drop i) j = arR.sb S (i + j) := by
  unfold rowF
  rw [List.getD_eq_getElem?_getD, List.getElem?_map, List.getElem?_take_of_lt hj, List.getElem?_drop, byt_get (by omega)]
  rfl
theorem bytesD_sb (S : ByteArray) (i : Nat) : 0 ≤ arR.sb S i ∧ arR.sb S i < 256 := by
  show (0 : Int) ≤ ((S[i]?.getD 0).toNat : Int) ∧ ((S[i]?.getD 0).toNat : Int) < 256
  have := (S[i]?.getD 0).toNat_lt
  omega
theorem size_append (a b : ByteArray) : (a ++ b).size = a.size + b.size := ByteArray.size_append
theorem add_wrap64 (n : Int) (m : Nat) : rbin .add .u64 n (IntKind.u64.wrap (m : Nat)) = (n + m) % 18446744073709551616 := by
  show IntKind.u64.wrap _ = _
  rw [wrap_u64, wrap_u64]
  omega
theorem mul8 (n : Int) : rbin .mul .u64 8 n = rbin .shl .u64 n 3 := by
  show IntKind.u64.wrap (8 * n) = IntKind.u64.wrap (n * 2 ^ (min (3 : Int).toNat 64))
  rw [show (2 : Int) ^ (min (3 : Int).toNat 64) = 8 by decide, Int.mul_comm]
theorem add_u64' (x : Int) : 0 ≤ IntKind.u64.wrap x ∧ IntKind.u64.wrap x < 18446744073709551616 := by
  rw [wrap_u64]; omega
theorem pad_mod {n : Nat} (h : n < 9223372036854775808) : (n + (padT (IntKind.u64.wrap n)).size) % 64 = 0 := by
  rw [pad_size]
  unfold padZ
  rw [wrap_u64]
  omega
end Go.Eng
namespace Go.Proofs.YtjiciplcdklfcaaDoor
open Go Go.Eng Go.Proofs Go.RowKit
attribute [local irreducible] CallOk HOk Run TIok rbin rcmp run1 updF shfF blitF
def tbq0 (lf : LP) : Tbl := tbL [] []
theorem tbq0_ok : TblOk Tryd.prog (tbq0 lpR) := tbL_ok nofun nofun
set_option maxRecDepth 100000 in
theorem rpad_ok : CallOk Tryd.prog 65 (sPad lpR) := by
  refine .of_run (hc := (tbq0 lpR).hc) Tryd.func65 rfl (by kernel_rfl) (by kernel_rfl) fun xs v ps hs hp w => ?_
  unfold sPad at hs
  split at hs
  · rename_i n
    cases hs
    have hn : 0 ≤ n ∧ n < 18446744073709551616 := hp (lpR.u64 n) (by simp)
    clear hp
    have hz3 : padZ n < 64 := by unfold padZ; omega
    refine run_pk hmix ti_ok tbq0_ok 0 false 400 [] [0] [0, 3] [3] (fun ar lf => by conv => lhs; cbv) (allP ?_) ?_
    · trivial
    refine Run.loop (ι := {p : Nat × List D // p.1 ≤ padZ n ∧ p.2 = .int 128 :: List.replicate p.1 (.int 0)})
      (fun i => ([.a (.one (.int .u64 n)), .any, .any, .a (.one (.dat (.int .u8) i.1.2 (some 0))), .any, .any, .any, .any, .any, .any, .any, .any, .any, .any, .any, .any, .any, .any, .any, .any, .any, .any, .any, .any, .any, .any, .any, .any, .any, .any, .any, .any, .any], [some ⟨false, .tail⟩]))
      (fun i => padZ n - i.1.1) ⟨(0, [.int 128]), by simp only; omega, rfl⟩ ?_
    rintro ⟨⟨m, ys⟩, hm, hys⟩ ih
    simp only at hm hys
    have hl : ys.length = m + 1 := by rw [hys]; simp
    have hc : (rbin .rem .u64 (rbin .add .u64 n (IntKind.u64.wrap (m + 1 : Nat))) 64 = 56) ↔ m = padZ n := by
      have e := add_wrap64 n (m + 1)
      rw [e, rem_pos (by omega)]
      unfold padZ at hm ⊢
      omega
    by_cases hlt : m = padZ n
    · refine run_ex hmix ti_ok tbq0_ok 999 true 1000 [false] (fun ar lf => by conv => lhs; cbv) (allP ?_) ?_
      · simp only [conj, and_true, arR, rcmp_neq, hl, decide_eq_false_iff_not, List.length_append, List.length_cons, List.length_nil, maxLen]
        have hc := hc.2 hlt
        exact ⟨by omega, by omega, by omega, by omega, by omega, by omega, by omega, by omega, fun h => h hc⟩
      · refine Run.ret ti_ok rfl rfl ?_
        refine .a (.str ?_)
        show (⟨(List.map _ _).toArray⟩ : ByteArray) = ⟨(List.map _ (padL n)).toArray⟩
        simp only [arR, mul8, hys, hlt]
        simp only [padL, pb, List.append_assoc, List.cons_append, List.nil_append]
    · refine run_pa hmix ti_ok tbq0_ok 2 true 400 [true] [0, 3] [3] (fun ar lf => by conv => lhs; cbv) (allP ?_) ?_
      · simp only [conj, and_true, arR, rcmp_neq, hl, decide_eq_true_eq, List.length_cons, List.length_nil, maxLen]
        exact ⟨by omega, fun h => hlt (hc.1 h)⟩
      · refine ih ⟨(m + 1, _), ?_⟩ ?_ _ _
        · refine ⟨by simp only; omega, ?_⟩
          show ys ++ [D.int 0] = .int 128 :: List.replicate (m + 1) (.int 0)
          rw [hys, List.replicate_succ']
          rfl
        · simp only; omega
  · cases hs
def tbq1 (lf : LT) : Tbl := tbL [(65, sPad lf.toLP), (66, sFirst lf.toLS), (67, sStep lf.toLS), (68, sBytes lf)] []
theorem tbq1_ok : TblOk Tryd.prog (tbq1 ltR) := tbL_ok (List.forall_mem_cons.2 ⟨rpad_ok, List.forall_mem_cons.2 ⟨rfirst_ok, List.forall_mem_cons.2 ⟨rstep_ok, List.forall_mem_cons.2 ⟨rbytes_ok, nofun⟩⟩⟩⟩) nofun
set_option maxRecDepth 100000 in
theorem rsum_ok : CallOk Tryd.prog 51 (sSum ltR) := by
  refine .of_run (hc := (tbq1 ltR).hc) Tryd.func51 rfl (by kernel_rfl) (by kernel_rfl) fun xs v ps hs hp w => ?_
  unfold sSum at hs
  split at hs
  · rename_i s
    cases hs
    have hf : s.size ≤ 140737488355328 := hp (ltR.sfit s) (by simp)
    clear hp
    have hpz : (padT (IntKind.u64.wrap s.size)).size = padZ (IntKind.u64.wrap s.size) + 9 := pad_size _
    have hpl := padZ_lt (IntKind.u64.wrap s.size)
    have hpm := pad_mod (n := s.size) (by omega)
    refine run_pk hmix ti_ok tbq1_ok 0 false 400 [] [0, 1] [0, 2, 3, 4] [4] (fun ar lf => by conv => lhs; cbv) (allP ?_) ?_
    · refine ⟨?_, add_u64' _, trivial⟩
      show ((s.size + (padT (IntKind.u64.wrap s.size)).size : Nat) : Int) ≤ 9223372036854775807
      omega
    refine Run.loop (ι := {p : Int × Fn8 × ByteArray // (∃ q : Nat, p.1 = 64 * q ∧ 64 * q ≤ p.2.2.size) ∧ isU32s 8 p.2.1 ∧ p.2.2 = s ++ padT (IntKind.u64.wrap s.size) ∧ ∀ j, j < 8 → wx p.2.1 ((arR.dByt p.2.2).drop p.1.toNat) j = wx iv (arR.dByt p.2.2) j})
      (fun i => ([.a (.one (.str i.1.2.2)), .any, .a (.one (.ptr 0 (.lit 0))), .a (.one (.ptr 1 (.lit 0))), .a (.one (.int .i64 i.1.1)), .any, .any, .any, .any, .any, .any, .any, .any, .any, .any, .any, .any, .any, .any, .any, .any, .any, .any, .any, .any, .any, .any, .any, .any, .any, .any, .any, .any, .any, .any, .any, .any], [some ⟨false, .ints .u8 (.lit 32) (fun _ => 0)⟩, some ⟨false, .ints .u32 (.lit 8) i.1.2.1⟩]))
      (fun i => (i.1.2.2.size - i.1.1).toNat) ⟨(0, iv, s ++ padT (IntKind.u64.wrap s.size)), ⟨0, rfl, by omega⟩, iv_u32, rfl, fun j hj => by simp⟩ ?_
    rintro ⟨⟨i, x, S⟩, ⟨q, hi, hq⟩, hx, hS, hw⟩ ih
    simp only at hi hq hx hS hw
    have hsz : S.size = s.size + (padZ (IntKind.u64.wrap s.size) + 9) := by rw [hS, size_append, hpz]
    have e3 : rbin .add .i64 i 64 = i + 64 := addi (by omega) (by omega)
    by_cases hlt : i < S.size
    · have h64 : i.toNat + 64 ≤ S.size := by
        have hS2 : S.size % 64 = 0 := by rw [hS, size_append]; exact hpm
        omega
      refine run_pk hmix ti_ok tbq1_ok 2 false 400 [true] [0, 1, 2] [0, 2, 3, 4, 5, 6] [6] (fun ar lf => by conv => lhs; cbv) (allP ?_) ?_
      · simp only [conj, and_true, arR, rcmp_lss, decide_eq_true_eq]
        exact hlt
      refine Run.loop (ι := {p : Int × Fn8 × Int × Fn8 × ByteArray // (0 ≤ p.1 ∧ p.1 ≤ 64) ∧ (∀ j : Nat, j < p.1 → p.2.1 j = arR.sb S (i.toNat + j)) ∧ p.2.2.1 = i ∧ p.2.2.2.1 = x ∧ p.2.2.2.2 = S})
        (fun p => ([.a (.one (.str p.1.2.2.2.2)), .any, .a (.one (.ptr 0 (.lit 0))), .a (.one (.ptr 1 (.lit 0))), .a (.one (.int .i64 p.1.2.2.1)), .a (.one (.ptr 2 (.lit 0))), .a (.one (.int .i64 p.1.1)), .any, .any, .any, .any, .any, .any, .any, .any, .any, .any, .any, .any, .any, .any, .any, .any, .any, .any, .any, .any, .any, .any, .any, .any, .any, .any, .any, .any, .any, .any], [some ⟨false, .ints .u8 (.lit 32) (fun _ => 0)⟩, some ⟨false, .ints .u32 (.lit 8) p.1.2.2.2.1⟩, some ⟨false, .ints .u8 (.lit 64) p.1.2.1⟩]))
        (fun p => (64 - p.1.1).toNat) ⟨(0, fun _ => 0, i, x, S), by simp only; omega, fun j hj => by simp only at hj; omega, rfl, rfl, rfl⟩ ?_
      rintro ⟨⟨k, f, i', x', S'⟩, hk, hf', hi', hx', hS'⟩ ih2
      simp only at hk hf' hi' hx' hS'
      subst i' x' S'
      have e4 : rbin .add .i64 k 1 = k + 1 := addi (by omega) (by omega)
      have e5 : rbin .add .i64 i k = i + k := addi (by omega) (by omega)
      by_cases hk2 : k < 64
      · refine run_pk hmix ti_ok tbq1_ok 7 true 400 [true] [0, 1, 2] [0, 2, 3, 4, 5, 6] [6] (fun ar lf => by conv => lhs; cbv) (allP ?_) ?_
        · simp only [conj, and_true, arR, rcmp_lss, decide_eq_true_eq, e5, Nat.succ_eq_add_one, Int.ofNat_eq_natCast]
          omega
        · refine ih2 ⟨(_, _, _, _, _), ?_⟩ ?_ _ _
          · simp only [arR, e4, e5, N.val]
            refine ⟨by omega, fun j hj => ?_, trivial, trivial, trivial⟩
            by_cases hjk : j = 0 + k.toNat * 1
            · subst hjk
              rw [updF_at, show i.toNat + (0 + k.toNat * 1) = (i + k).toNat by omega]
            · rw [updF_ne hjk]; exact hf' j (by omega)
          · show (64 - rbin .add .i64 k 1).toNat < (64 - k).toNat
            rw [e4]; omega
      · obtain rfl : k = 64 := by omega
        refine run_pk hmix ti_ok tbq1_ok 2 false 400 [false] [0, 1] [0, 2, 3, 4] [4] (fun ar lf => by conv => lhs; cbv) (allP ?_) ?_
        · simp only [conj, and_true, arR, lsR, ltR, lpR, lhR, rcmp_lss]
          refine ⟨hx, fun j hj => ?_, by decide⟩
          rw [hf' j (by omega)]
          exact bytesD_sb _ _
        · refine ih ⟨(_, _, _), ?_⟩ ?_ _ _
          · show (∃ q : Nat, rbin .add .i64 i 64 = 64 * q ∧ 64 * q ≤ S.size) ∧ isU32s 8 (stepS x f) ∧ S = s ++ padT (IntKind.u64.wrap s.size) ∧ ∀ j, j < 8 → wx (stepS x f) ((arR.dByt S).drop (rbin .add .i64 i 64).toNat) j = wx iv (arR.dByt S) j
            rw [e3]
            have hlen : 64 ≤ ((arR.dByt S).drop i.toNat).length := by rw [List.length_drop, byt_len]; omega
            refine ⟨⟨q + 1, by omega, by omega⟩, stepS_u32, hS, fun j hj => ?_⟩
            rw [← hw j hj, wx.eq_def x ((arR.dByt S).drop i.toNat), dif_pos hlen, List.drop_drop, show i.toNat + 64 = (i + 64).toNat by omega]
            refine wx_congr _ (fun j hj => stepS_congr2 (fun j hj => ?_) j) j hj
            rw [hf' j (by omega)]
            exact (rowF_byt h64 hj).symm
          · show ((S.size : Int) - rbin .add .i64 i 64).toNat < ((S.size : Int) - i).toNat
            rw [e3]; omega
    · refine run_ex hmix ti_ok tbq1_ok 999 false 400 [false] (fun ar lf => by conv => lhs; cbv) (allP ?_) ?_
      · simp only [conj, and_true, arR, rcmp_lss, decide_eq_false_iff_not]
        exact hlt
      · refine Run.ret ti_ok rfl rfl ?_
        refine .a (.ints fun j hj => ?_)
        have hj : j < 32 := hj
        show dg x j = dg (wx iv (arR.dByt s ++ arR.dByt (padT (IntKind.u64.wrap s.size)))) j
        refine dg_congr (fun j hj => ?_) j hj
        have h1 := hw j hj
        rw [List.drop_of_length_le (by rw [byt_len]; omega), wx, dif_neg (by simp), hS, byt_cat] at h1
        exact h1
  · cases hs
def tbq2 (lf : LT) : Tbl := tbL [(51, sSum lf)] []
theorem tbq2_ok : TblOk Tryd.prog (tbq2 ltR) := tbL_ok (List.forall_mem_cons.2 ⟨rsum_ok, nofun⟩) nofun
theorem rtwice_ok : CallOk Tryd.prog 36 (sTwice ltR) := by
  refine .eval (tb := tbq2) hmix ti_ok tbq2_ok Tryd.func36 rfl (by kernel_rfl) (by kernel_rfl) fun xs v ps h1 hp => ?_
  unfold sTwice at h1
  split at h1
  · rename_i s
    cases h1
    have hf : s.size ≤ 140737488355328 := hp (ltR.sfit s) (by simp)
    clear hp
    refine ⟨1000, [], _, fun ar lf => by conv => lhs; cbv, ?_, ?_⟩
    · refine allP ⟨?_, hf, trivial⟩
      show (arR.txt _ 32).size ≤ 140737488355328
      rw [text_size]; decide
    · refine .a (.ints fun j hj => ?_)
      show sha (arR.txt (fun j => sha s (0 + j)) 32) j = sha (arR.txt (sha s) 32) j
      simp only [Nat.zero_add]
  · cases h1
end Go.Proofs.YtjiciplcdklfcaaDoor
