import Derived.Test.YtlbllaocdilafaaNh
import Derived.Test.YtlbllaocdilafaaMr
set_option linter.unusedSimpArgs false
set_option linter.unusedVariables false
namespace Go.Eng
open Go
section
variable {P : Program} {hc : FuncId → Bool} {W0 : World} {m0 : Nat} {fn : Func} {R : V → Heap → Prop} {ρ : Ren}
/-- a block of truths that is not written any more, as a slice that is frozen -/
theorem Run.frozeCol {t : List V} {h : Heap} {T : List Item} {o : List Prop} {s : List Bool} (i b : Nat) {n c m : N} {f : Nat → D} (hi : t[i]? = some (.a (.one (.sl b (.lit 0) n c)))) (hb : h[b]? = some (some ⟨false, .col .bool m f⟩)) (h0 : 0 < m.val) (h1 : n.val ≤ c.val) (h2 : n.val ≤ m.val) (hm : m0 ≤ h.length)
    (hr : Run P hc W0 m0 fn R ⟨t.set i (.a (.one (.dat .bool ((List.range n.val).map fun j => .bool (f j).bool!) none))), (h.set b (some ⟨true, .dead⟩)) ++ [some ⟨false, .tail⟩], T, [], []⟩) : Run P hc W0 m0 fn R ⟨t, h, T, o, s⟩ := by
  intro hok hm0 ρ tmps w fr css hT hH
  obtain ⟨u, hu, r, o', hρ, rfl⟩ := hT.2 i _ hi
  obtain ⟨r2, o2, e1, cc, ty, fz, e2, e3, e4⟩ := hH.blk b _ hb rfl
  rw [hρ] at e1
  cases e1
  have e5 := e3 rfl
  subst e5
  have hfit := block_size (b := ⟨false, .col .bool m f⟩) e4 h0
  have hvs : ∀ (j : Nat) v, ((List.range n.val).map fun j => Value.bool (f j).bool!)[j]? = some v → j < n.val ∧ v = .bool (f j).bool! := fun j v hj => by
    rw [List.getElem?_map, Option.map_eq_some_iff] at hj
    obtain ⟨y, hy, rfl⟩ := hj
    have hlt : j < n.val := by
      have := (List.getElem?_eq_some_iff.1 hy).1
      simpa using this
    rw [List.getElem?_range hlt] at hy
    cases hy
    exact ⟨hlt, rfl⟩
  have hlt : b < h.length := (List.getElem?_eq_some_iff.1 hb).1
  obtain ⟨ρ', hx, k1, k2, k3, k4⟩ := fix_rel (g := .col .bool m f) (hH.pad 1) rfl (by rw [List.getElem?_append_left hlt]; exact hb) hρ (nm := h.length) (by simp) hm ((List.range n.val).map fun j => Value.bool (f j).bool!) 0 e2 (fun j v hj => by
    obtain ⟨q1, rfl⟩ := hvs j v hj
    obtain ⟨v, a1, a2⟩ := e4 j (.bool (f j).bool!) (by simp only [G.at]; rw [if_pos (by omega)]; rfl)
    rw [a1, show v = .bool (f j).bool! from a2]) (by
    simp only [List.length_map, List.length_range]
    have : (G.col .bool m f).len = m.val := rfl
    simp only at hfit
    omega)
  have e : ((h ++ List.replicate 1 none).set b (some ⟨true, .dead⟩)).set h.length (some ⟨false, .tail⟩) = (h.set b (some ⟨true, .dead⟩)) ++ [some ⟨false, .tail⟩] := by
    rw [List.set_append_left _ _ hlt]
    simp [List.set_append]
  rw [e] at k1
  refine .ext hx (hr hok (by simp only [List.length_append, List.length_set]; omega) ρ' tmps w fr css ⟨by rw [hT.1]; simp, fun j x hx' => ?_⟩ k1)
  simp only at hx' hT
  rw [List.getElem?_set] at hx'
  by_cases hij : i = j
  · subst hij
    rw [if_pos rfl] at hx'
    split at hx'
    · simp only [Option.some.injEq] at hx'
      subst hx'
      refine ⟨_, hu, .inr ⟨r, o', n.val, c.val, by simp [N.val], by simp, h1, fun q x hq => ?_, fun t ht => by cases ht⟩⟩
      rw [List.getElem?_map, Option.map_eq_some_iff] at hq
      obtain ⟨y, hy, rfl⟩ := hq
      have hqn : q < n.val := by
        have := (List.getElem?_eq_some_iff.1 hy).1
        simpa using this
      rw [List.getElem?_range hqn] at hy
      cases hy
      refine ⟨_, rfl, ?_⟩
      have := k4 q (.bool (f q).bool!) (by rw [List.getElem?_map, List.getElem?_range hqn]; rfl)
      simpa [Sh.width] using this
    · cases hx'
  · rw [if_neg hij] at hx'
    obtain ⟨u2, a1, a2⟩ := hT.2 j x hx'
    exact ⟨u2, a1, a2.ext hx.toSub⟩
end
theorem place_norm {p : Int} {n : Nat} (h0 : 0 < n) (h1 : n ≤ 300) : ∃ q : Nat, q < n ∧ rbin .rem .i64 (rbin .add .i64 (rbin .rem .i64 p n) n) n = (q : Int) := by
  have hr : rbin .rem .i64 p n = p.tmod n := rfl
  have hb : -(n : Int) < p.tmod n ∧ p.tmod n < n := by
    have h2 : (0 : Int) < n := by omega
    rcases Int.le_total 0 p with h | h
    · rw [Int.tmod_eq_emod_of_nonneg h]
      have := Int.emod_nonneg p (by omega : (n : Int) ≠ 0)
      have := Int.emod_lt_of_pos p h2
      omega
    · have e : p.tmod n = -((-p).tmod n) := by rw [Int.neg_tmod, Int.neg_neg]
      rw [e, Int.tmod_eq_emod_of_nonneg (by omega : 0 ≤ -p)]
      have := Int.emod_nonneg (-p) (by omega : (n : Int) ≠ 0)
      have := Int.emod_lt_of_pos (-p) h2
      omega
  have ha : rbin .add .i64 (p.tmod n) n = p.tmod n + n := by
    show IntKind.i64.wrap (p.tmod n + n) = _
    exact wrap_i64 (by omega) (by omega)
  rw [hr, ha]
  have he : rbin .rem .i64 (p.tmod n + n) n = (p.tmod n + n) % n := Int.tmod_eq_emod_of_nonneg (by omega)
  rw [he]
  have h3 := Int.emod_nonneg (p.tmod n + n) (by omega : (n : Int) ≠ 0)
  have h4 := Int.emod_lt_of_pos (p.tmod n + n) (by omega : (0 : Int) < n)
  exact ⟨((p.tmod n + n) % n).toNat, by omega, by omega⟩
theorem dep_small {n : Nat} (h : n ≤ 300) : dep n ≤ 9 := by
  have e : (2 : Nat) ^ 9 = 512 := by decide
  exact dep_le 9 n (by omega)
theorem le_pow_dep (n : Nat) : n ≤ 2 ^ dep n := by
  induction n using Nat.strongRecOn with
  | _ n ih =>
    rw [dep]
    split
    · have := ih (n / 2 + n % 2) (by omega)
      rw [Nat.pow_succ]; omega
    · have : (2 : Nat) ^ 0 = 1 := rfl
      omega
theorem check_root {zs : List D} {q : Nat} (hq : q < zs.length) : (List.range 32).map (chk (arR.dRow (zs.getD q (.int 0))) q (brF zs q)) = (List.range 32).map (rootF zs) := by
  refine List.map_congr_left fun j hj => ?_
  rw [chk_root _ zs q rfl hq j (List.mem_range.1 hj)]
  unfold rootF
  rw [if_neg (by omega)]
theorem root_odd {zs : List D} (h : 0 < zs.length) : rootF (oddD zs) = rootF zs ∧ ((oddD zs).length = zs.length ∨ ((oddD zs).length ≠ zs.length ∧ mutD (oddD zs) = true ∧ zs.length < (oddD zs).length)) := by
  obtain ⟨h1, h2, h3⟩ := odd_root _ zs rfl
  refine ⟨?_, ?_⟩
  · unfold rootF
    rw [if_neg (by omega), if_neg (by omega), h1]
  · by_cases h : (oddD zs).length = zs.length
    · exact .inl h
    · exact .inr ⟨h, h3 (by omega), by omega⟩
theorem mkP_step {ms : List D} {k n : Nat} (h : k < n) : mkP ms 0 n = mkP ms 0 k ++ (if mkd ms k = true then [k] else []) ++ mkP ms (k + 1) (n - k - 1) ∧ mkP ms 0 (k + 1) = mkP ms 0 k ++ (if mkd ms k = true then [k] else []) := by
  have h1 : mkP ms k 1 = if mkd ms k = true then [k] else [] := by
    unfold mkP
    show List.filter _ [k] = _
    rw [List.filter_cons]; rfl
  have h2 : mkP ms 0 (k + 1) = mkP ms 0 k ++ mkP ms (0 + k) 1 := mkP_add ms 0 k 1
  have h3 : mkP ms 0 (k + 1 + (n - k - 1)) = mkP ms 0 (k + 1) ++ mkP ms (0 + (k + 1)) (n - k - 1) := mkP_add ms 0 (k + 1) (n - k - 1)
  rw [Nat.zero_add, h1] at h2
  rw [show k + 1 + (n - k - 1) = n by omega, Nat.zero_add, h2] at h3
  exact ⟨h3, h2⟩
theorem mark_at {zs ms : List D} {k n : Nat} (h : k < n) (hm : mkd ms k = true) : (mkP ms 0 k).length < (plD (mkP ms 0 n)).length ∧ (plD (mkP ms 0 n)).getD (mkP ms 0 k).length (.int 0) = .int (k : Nat) ∧ (meD zs (mkP ms 0 n)).getD (mkP ms 0 k).length (.int 0) = zs.getD k (.int 0) ∧ (mkP ms 0 (k + 1)).length = (mkP ms 0 k).length + 1 ∧ (mkP ms 0 k).length < (meD zs (mkP ms 0 n)).length := by
  obtain ⟨h1, h2⟩ := mkP_step (ms := ms) h
  rw [if_pos hm] at h1 h2
  have e1 : plD (mkP ms 0 n) = plD (mkP ms 0 k) ++ (.int (k : Nat) :: []) ++ plD (mkP ms (k + 1) (n - k - 1)) := by
    rw [h1]; unfold plD; rw [List.map_append, List.map_append]; rfl
  have e2 : meD zs (mkP ms 0 n) = meD zs (mkP ms 0 k) ++ (zs.getD k (.int 0) :: []) ++ meD zs (mkP ms (k + 1) (n - k - 1)) := by
    rw [h1]; unfold meD; rw [List.map_append, List.map_append]; rfl
  have l1 : (plD (mkP ms 0 k)).length = (mkP ms 0 k).length := by simp [plD]
  have l2 : (meD zs (mkP ms 0 k)).length = (mkP ms 0 k).length := by simp [meD]
  have g1 := get_mid e1 (.int 0)
  have g2 := get_mid e2 (.int 0)
  rw [l1] at g1
  rw [l2] at g2
  refine ⟨?_, g1, g2, by rw [h2]; simp, ?_⟩
  · rw [e1]; simp only [List.length_append, List.length_cons]; omega
  · rw [e2]; simp only [List.length_append, List.length_cons]; omega
theorem unmark_at {ms : List D} {k n : Nat} (h : k < n) (hm : mkd ms k = false) : (mkP ms 0 (k + 1)).length = (mkP ms 0 k).length := by
  obtain ⟨-, h2⟩ := mkP_step (ms := ms) h
  rw [if_neg (by rw [hm]; simp)] at h2
  rw [h2]; simp
structure Sq where
  zs : List D
  pl : Int
  rt : Fn8
  mu : Bool
  n : Nat
  f : Nat → D
  len : Int
  k : Int
structure Sr where
  zs : List D
  rt : Fn8
  x : Fn8
  P : List D
  I : List D
  c : Int
  ms : List D
  len : Int
  k : Int
end Go.Eng
namespace Go.Proofs.Ytlbllaocdilafaa
open Go Go.Eng Go.Proofs Go.RowKit
attribute [local irreducible] CallOk HOk Run TIok rbin rcmp run1 updF shfF blitF
def sLaw4 (lf : LW) : ESpec := fun l => match l with
  | [.one (.dat (.arr .u8 32) xs none), .one (.int .i64 p)] => some (.a (.one (.bool true)), [lf.hs xs, lf.int64 p])
  | _ => none
def tbi (lf : LW) : Tbl := tbL [(10, sFew lf.toLN), (11, sRoot lf.toLK), (14, sAwake lf.toLN), (24, sBranch lf.toLO), (26, sCheck lf.toLO), (15, sDepth lf.toLN), (28, sPart lf.toLR), (31, sRead lf), (18, sOdd lf.toLN)] []
theorem tbi_ok : TblOk Try.prog (tbi lwR) := tbL_ok (List.forall_mem_cons.2 ⟨few_ok, List.forall_mem_cons.2 ⟨root_ok, List.forall_mem_cons.2 ⟨awake_ok6, List.forall_mem_cons.2 ⟨branch_ok, List.forall_mem_cons.2 ⟨check_ok, List.forall_mem_cons.2 ⟨depth_ok, List.forall_mem_cons.2 ⟨part_ok, List.forall_mem_cons.2 ⟨mread_ok, List.forall_mem_cons.2 ⟨odd_ok, nofun⟩⟩⟩⟩⟩⟩⟩⟩⟩) nofun
set_option maxRecDepth 100000 in
set_option maxHeartbeats 4000000 in
theorem shows_ok : CallOk Try.prog 6 (sLaw4 lwR) := by
  refine .of_run (hc := (tbi lwR).hc) Try.func6 rfl (by kernel_rfl) (by kernel_rfl) fun xs v ps hs hp w => ?_
  unfold sLaw4 at hs
  split at hs
  · rename_i xs p
    cases hs
    have hx : ∀ d ∈ xs, isHash d := hp (lwR.hs xs) (by simp)
    clear hp
    have hy := HL_take hx
    have hyl : (xs.take 300).length ≤ 300 := by rw [List.length_take]; omega
    have hodd := HL_odd hx
    by_cases h0 : (xs.take 300).length = 0
    · refine run_ex hmix ti_ok tbi_ok 999 false 400 [false, true] (fun ar lf => by conv => lhs; cbv) (allP ?_) ?_
      · simp only [conj, and_true, Int.ofNat_eq_natCast, arR, lwR, luR, lsR', lrR, lqR, loR, lnR, lkR, rcmp_lss, rcmp_gtr, rcmp_geq, rcmp_eql, rcmp_neq, decide_eq_true_eq, decide_eq_false_iff_not, List.length_nil, maxLen, beq_self_eq_true, Bool.not_true, Bool.not_false, List.nil_append, ne_eq, not_true_eq_false, not_false_eq_true, decide_true, decide_false, Int.toNat_natCast, Nat.mul_one, Nat.zero_add, h0]
        ((repeat' with_reducible apply And.intro) <;> first | omega | assumption | rfl | trivial)
      · exact Run.ret ti_ok rfl rfl (.a (.bool rfl))
    have h0 : 0 < (xs.take 300).length := by omega
    obtain ⟨q, hq, hpn⟩ := place_norm (p := p) h0 hyl
    have hdl := brF_dep (xs.take 300) q
    have hds := dep_small hyl
    have hpd := le_pow_dep (xs.take 300).length
    have hck := check_root hq
    have hckL : (!((List.range 32).map (chk (fun j => ((List.take 300 xs).getD q (D.int 0)).row!.getD j 0) q (brF (List.take 300 xs) q)) == (List.range 32).map (rootF (List.take 300 xs)))) = false := by
      have e : (List.range 32).map (chk (fun j => ((List.take 300 xs).getD q (D.int 0)).row!.getD j 0) q (brF (List.take 300 xs) q)) = (List.range 32).map (rootF (List.take 300 xs)) := hck
      rw [e]; simp
    have cb : 0 ≤ (q : Int) ∧ (q : Int) < ((xs.take 300).length : Int) := by omega
    have cc : (brF (xs.take 300) q).length ≤ 32 ∧ 0 ≤ (q : Int) ∧ (q : Int) < ((2 ^ (brF (xs.take 300) q).length : Nat) : Int) := by
      rw [hdl]; omega
    have cm : ¬ 32 < (brF (xs.take 300) q).length := by omega
    have cp : 0 ≤ (q : Int) ∧ (q : Int) < ((2 ^ (brF (xs.take 300) q).length : Nat) : Int) := cc.2
    refine run_pa hmix ti_ok tbi_ok 0 false 400 [false, false, false, false, false, false] [0, 1, 5, 6, 11, 87, 88] [88] (fun ar lf => by conv => lhs; cbv) (allP ?_) ?_
    · simp only [conj, and_true, Int.ofNat_eq_natCast, arR, lwR, luR, lsR', lrR, lqR, loR, lnR, lkR, rcmp_lss, rcmp_gtr, rcmp_geq, rcmp_eql, rcmp_neq, decide_eq_true_eq, decide_eq_false_iff_not, List.length_nil, maxLen, beq_self_eq_true, Bool.not_true, Bool.not_false, List.nil_append, ne_eq, not_true_eq_false, not_false_eq_true, decide_true, decide_false, Int.toNat_natCast, Nat.mul_one, Nat.zero_add, hpn, if_pos cb, if_pos cc, if_neg cm, if_pos cp]
      ((repeat' with_reducible apply And.intro) <;> first | omega | assumption | rfl | trivial | exact hckL | (rw [hdl]; rfl))
    refine Run.loop (ι := {s : Sq // (0 ≤ s.k ∧ s.k ≤ s.len) ∧ s.zs = xs.take 300 ∧ s.pl = (q : Int) ∧ s.rt = rootF (xs.take 300) ∧ s.mu = mutD (xs.take 300) ∧ s.n = (xs.take 300).length ∧ s.len = (xs.take 300).length})
      (fun i => ([.a (.one (.dat (.arr .u8 32) i.1.zs none)), .a (.one (.int .i64 i.1.pl)), .any, .any, .any, .a (.one (.ptr 0 (.lit 0))), .a (.one (.bool i.1.mu)), .any, .any, .any, .any, .a (.one (.sl 1 (.lit 0) (.sym i.1.n) (.sym i.1.n))), .any, .any, .any, .any, .any, .any, .any, .any, .any, .any, .any, .any, .any, .any, .any, .any, .any, .any, .any, .any, .any, .any, .any, .any, .any, .any, .any, .any, .any, .any, .any, .any, .any, .any, .any, .any, .any, .any, .any, .any, .any, .any, .any, .any, .any, .any, .any, .any, .any, .any, .any, .any, .any, .any, .any, .any, .any, .any, .any, .any, .any, .any, .any, .any, .any, .any, .any, .any, .any, .any, .any, .any, .any, .any, .any, .a (.one (.int .i64 i.1.len)), .a (.one (.int .i64 i.1.k)), .any, .any, .any, .any, .any, .any, .any, .any, .any, .any, .any, .any, .any, .any, .any, .any, .any, .any, .any, .any, .any, .any, .any, .any, .any, .any, .any, .any, .any, .any, .any, .any, .any, .any, .any, .any, .any, .any, .any, .any, .any, .any, .any, .any, .any, .any, .any, .any, .any, .any, .any, .any, .any, .any, .any, .any, .any, .any, .any, .any, .any, .any, .any, .any, .any, .any, .any, .any, .any, .any, .any, .any, .any, .any, .any, .any, .any, .any, .any, .any, .any, .any, .any, .any, .any, .any, .any, .any, .any, .any, .any, .any, .any, .any, .any, .any, .any, .any, .any, .any, .any, .any, .any, .any, .any, .any], [some ⟨false, .ints .u8 (.lit 32) i.1.rt⟩, some ⟨false, .col .bool (.sym i.1.n) i.1.f⟩]))
      (fun i => (i.1.len - i.1.k).toNat) ⟨⟨xs.take 300, _, _, _, _, fun _ => .bool false, _, 0⟩, ?_⟩ ?_
    · exact ⟨⟨Int.le_refl _, Int.natCast_nonneg _⟩, rfl, hpn, rfl, rfl, rfl, rfl⟩
    rintro ⟨⟨zs, pl, rt, mu, n, f, len, k⟩, hk, hz, hpl, hrt, hmu, hn, hlen⟩ ih
    simp only at hk hz hpl hrt hmu hn hlen
    have hz0 : 0 < zs.length := by rw [hz]; exact h0
    by_cases hlt : k < len
    · have f1 : rbin .add .i64 k 1 = k + 1 := addi (by omega) (by omega)
      have f2 : rbin .add .i64 pl 2 = pl + 2 := addi (by omega) (by omega)
      by_cases he : k = pl
      · refine run_pa hmix ti_ok tbi_ok 2 true 400 [true, true] [0, 1, 5, 6, 11, 87, 88] [88] (fun ar lf => by conv => lhs; cbv) (allP ?_) ?_
        · simp only [conj, and_true, Int.ofNat_eq_natCast, arR, lwR, luR, lsR', lrR, lqR, loR, lnR, lkR, rcmp_lss, rcmp_gtr, rcmp_geq, rcmp_eql, rcmp_neq, decide_eq_true_eq, decide_eq_false_iff_not, List.length_nil, maxLen, beq_self_eq_true, Bool.not_true, Bool.not_false, List.nil_append, ne_eq, not_true_eq_false, not_false_eq_true, decide_true, decide_false, Int.toNat_natCast, Nat.mul_one, Nat.zero_add, f2]
          ((repeat' with_reducible apply And.intro) <;> first | omega | assumption | rfl | trivial)
        · refine ih ⟨⟨_, _, _, _, _, _, _, _⟩, ?_⟩ ?_ _ _
          · refine ⟨?_, hz, hpl, hrt, hmu, hn, hlen⟩
            simp only [arR, f1]; omega
          · simp only [arR, f1]; omega
      · refine run_pa hmix ti_ok tbi_ok 2 true 400 [true, false] [0, 1, 5, 6, 11, 87, 88] [88] (fun ar lf => by conv => lhs; cbv) (allP ?_) ?_
        · simp only [conj, and_true, Int.ofNat_eq_natCast, arR, lwR, luR, lsR', lrR, lqR, loR, lnR, lkR, rcmp_lss, rcmp_gtr, rcmp_geq, rcmp_eql, rcmp_neq, decide_eq_true_eq, decide_eq_false_iff_not, List.length_nil, maxLen, beq_self_eq_true, Bool.not_true, Bool.not_false, List.nil_append, ne_eq, not_true_eq_false, not_false_eq_true, decide_true, decide_false, Int.toNat_natCast, Nat.mul_one, Nat.zero_add, f2]
          ((repeat' with_reducible apply And.intro) <;> first | omega | assumption | rfl | trivial)
        · refine ih ⟨⟨_, _, _, _, _, _, _, _⟩, ?_⟩ ?_ _ _
          · refine ⟨?_, hz, hpl, hrt, hmu, hn, hlen⟩
            simp only [arR, f1]; omega
          · simp only [arR, f1]; omega
    · refine run_pa hmix ti_ok tbi_ok 999 false 400 [false] [0, 5, 6, 11] [] (fun ar lf => by conv => lhs; cbv) (allP ?_) ?_
      · simp only [conj, and_true, Int.ofNat_eq_natCast, arR, lwR, luR, lsR', lrR, lqR, loR, lnR, lkR, rcmp_lss, rcmp_gtr, rcmp_geq, rcmp_eql, rcmp_neq, decide_eq_true_eq, decide_eq_false_iff_not, List.length_nil, maxLen, beq_self_eq_true, Bool.not_true, Bool.not_false, List.nil_append, ne_eq, not_true_eq_false, not_false_eq_true, decide_true, decide_false, Int.toNat_natCast, Nat.mul_one, Nat.zero_add]
        ((repeat' with_reducible apply And.intro) <;> first | omega | assumption | rfl | trivial)
      refine Run.frozeCol 11 1 rfl rfl (by simp only [N.val_sym]; omega) (Nat.le_refl _) (Nat.le_refl _) (Nat.zero_le _) ?_
      refine Run.fam3 (ι := {s : Sr // s.zs = xs.take 300 ∧ s.rt = rootF (xs.take 300) ∧ s.ms.length = (xs.take 300).length})
        (fun i => (([.a (.one (.dat (.arr .u8 32) i.1.zs none)), .any, .any, .any, .any, .a (.one (.ptr 0 (.lit 0))), .a (.one (.bool mu)), .any, .any, .any, .any, .a (.one (.dat .bool i.1.ms none)), .any, .any, .any, .any, .any, .any, .any, .any, .any, .any, .any, .any, .any, .any, .any, .any, .any, .any, .any, .any, .any, .any, .any, .any, .any, .any, .any, .any, .any, .any, .any, .any, .any, .any, .any, .any, .any, .any, .any, .any, .any, .any, .any, .any, .any, .any, .any, .any, .any, .any, .any, .any, .any, .any, .any, .any, .any, .any, .any, .any, .any, .any, .any, .any, .any, .any, .any, .any, .any, .any, .any, .any, .any, .any, .any, .any, .any, .any, .any, .any, .any, .any, .any, .any, .any, .any, .any, .any, .any, .any, .any, .any, .any, .any, .any, .any, .any, .any, .any, .any, .any, .any, .any, .any, .any, .any, .any, .any, .any, .any, .any, .any, .any, .any, .any, .any, .any, .any, .any, .any, .any, .any, .any, .any, .any, .any, .any, .any, .any, .any, .any, .any, .any, .any, .any, .any, .any, .any, .any, .any, .any, .any, .any, .any, .any, .any, .any, .any, .any, .any, .any, .any, .any, .any, .any, .any, .any, .any, .any, .any, .any, .any, .any, .any, .any, .any, .any, .any, .any, .any, .any, .any, .any, .any, .any, .any, .any, .any, .any, .any, .any, .any, .any], [some ⟨false, .ints .u8 (.lit 32) i.1.rt⟩, some ⟨true, .dead⟩, some ⟨false, .tail⟩]))) ⟨⟨zs, rt, rt, [], [], 0, (List.range n).map fun j => .bool (f j).bool!, 0, 0⟩, hz, hrt, by simp only [List.length_map, List.length_range]; exact hn⟩ ?_
      rintro ⟨⟨zs, rt, -, -, -, -, ms, -, -⟩, hz, hrt, hms⟩
      simp only at hz hrt hms ⊢
      have hz0 : 0 < zs.length := by rw [hz]; exact h0
      have hyz : HL zs ∧ zs.length ≤ 65536 := by rw [hz]; exact ⟨hy, by omega⟩
      have hyo : HL (oddD zs) := by rw [hz]; exact hodd
      have hyz1 := hyz.1
      have hzl : zs.length ≤ 300 := by rw [hz]; exact hyl
      have hok : partOk zs ms := ⟨hz0, by rw [hms, hz]⟩
      rw [← hz] at hms hrt hmu
      clear hck hckL ih hlt hz hpl hlen hn hk hpn hdl hds hpd cb cc cm cp
      have hbl := pt_len (lvls zs) ms ((lvls zs).length - 1) 0
      obtain ⟨hw1, -, -⟩ := pow_dep hyz1 hz0 hyz.2
      have hpw : 2 ^ ((lvls zs).length - 1 + 1) = 2 ^ ((lvls zs).length - 1) + 2 ^ ((lvls zs).length - 1) := by rw [Nat.pow_succ]; omega
      have eb : lrR.pBits zs ms = (pt (lvls zs) ms ((lvls zs).length - 1) 0).1 := if_pos hok
      have ei : lrR.pIds zs ms = (pt (lvls zs) ms ((lvls zs).length - 1) 0).2 := if_pos hok
      have ec : lrR.pCnt zs ms = (zs.length : Int) := if_pos hok
      have hpr := part_read hyz1 hms hz0 hyz.2
      rcases hpr with ⟨hR0, hpl, hme, hh⟩ | ⟨hR0, hmt⟩
      · have hR := hR0
        rw [eb, ei, ec] at hR
        refine run_pa hmix ti_ok tbi_ok 0 false 400 [false, true] [0, 5, 14, 15, 16, 17, 122, 123, 124] [17, 124] (fun ar lf => by conv => lhs; cbv) (allP ?_) ?_
        · simp only [if_pos hok, if_pos hR, conj, and_true, Int.ofNat_eq_natCast, arR, lwR, luR, lsR', lrR, lqR, loR, lnR, lkR, rcmp_lss, rcmp_gtr, rcmp_geq, rcmp_eql, rcmp_neq, decide_eq_true_eq, decide_eq_false_iff_not, List.length_nil, maxLen, beq_self_eq_true, Bool.not_true, Bool.not_false, List.nil_append, ne_eq, not_true_eq_false, not_false_eq_true, decide_true, decide_false, Int.toNat_natCast, Nat.mul_one, Nat.zero_add]
          ((repeat' with_reducible apply And.intro) <;> first | omega | assumption | rfl | trivial)
        refine Run.loop (ι := {s : Sr // (0 ≤ s.k ∧ s.k ≤ s.len) ∧ s.P = plD (mkP ms 0 zs.length) ∧ s.I = meD zs (mkP ms 0 zs.length) ∧ s.c = ((mkP ms 0 s.k.toNat).length : Nat) ∧ s.len = zs.length ∧ ∀ j, j < 32 → s.x j = rootF zs j})
          (fun i => ([.a (.one (.dat (.arr .u8 32) zs none)), .any, .any, .any, .any, .a (.one (.ptr 0 (.lit 0))), .any, .any, .any, .any, .any, .any, .any, .any, .a (.one (.ptr 1 (.lit 0))), .a (.one (.dat (.int .i64) i.1.P none)), .a (.one (.dat (.arr .u8 32) i.1.I none)), .a (.one (.int .i64 i.1.c)), .any, .any, .any, .any, .any, .any, .any, .any, .any, .any, .any, .any, .any, .any, .any, .any, .any, .any, .any, .any, .any, .any, .any, .any, .any, .any, .any, .any, .any, .any, .any, .any, .any, .any, .any, .any, .any, .any, .any, .any, .any, .any, .any, .any, .any, .any, .any, .any, .any, .any, .any, .any, .any, .any, .any, .any, .any, .any, .any, .any, .any, .any, .any, .any, .any, .any, .any, .any, .any, .any, .any, .any, .any, .any, .any, .any, .any, .any, .any, .any, .any, .any, .any, .any, .any, .any, .any, .any, .any, .any, .any, .any, .any, .any, .any, .any, .any, .any, .any, .any, .any, .any, .any, .any, .a (.one (.dat .bool ms none)), .a (.one (.int .i64 i.1.len)), .a (.one (.int .i64 i.1.k)), .any, .any, .any, .any, .any, .any, .any, .any, .any, .any, .any, .any, .any, .any, .any, .any, .any, .any, .any, .any, .any, .any, .any, .any, .any, .any, .any, .any, .any, .any, .any, .any, .any, .any, .any, .any, .any, .any, .any, .any, .any, .any, .any, .any, .any, .any, .any, .any, .any, .any, .any, .any, .any, .any, .any, .any, .any, .any, .any, .any, .any, .any, .any, .any, .any, .any, .any, .any, .any, .any], [some ⟨false, .ints .u8 (.lit 32) rt⟩, some ⟨false, .ints .u8 (.lit 32) i.1.x⟩]))
          (fun i => (i.1.len - i.1.k).toNat) ⟨⟨zs, rt, _, _, _, 0, ms, _, 0⟩, ?_⟩ ?_
        · refine ⟨?_, (if_pos hR0).trans hpl, (if_pos hR0).trans hme, rfl, ?_, fun j hj => ?_⟩
          · show 0 ≤ 0 ∧ (0 : Int) ≤ ms.length
            omega
          · show (ms.length : Int) = zs.length
            rw [hms]
          · exact (congrFun (if_pos hR0) j).trans (hh j hj)
        rintro ⟨⟨zs', rt', x, P, I, c, ms', len, k⟩, hk, hP, hI, hc, hlen, hxr⟩ ih
        simp only at hk hP hI hc hlen hxr
        have hmsl : (ms.length : Int) = len := by rw [hlen, hms]
        have hPl : P.length = (mkP ms 0 zs.length).length := by rw [hP]; simp [plD]
        have hIl : I.length = (mkP ms 0 zs.length).length := by rw [hI]; simp [meD]
        by_cases hlt : k < len
        · have f1 : rbin .add .i64 k 1 = k + 1 := addi (by omega) (by omega)
          have hkn : k.toNat < zs.length := by omega
          have ek1 : (k + 1).toNat = k.toNat + 1 := by omega
          cases hmk : mkd ms k.toNat with
          | false =>
            have hmk2 : (ms.getD k.toNat (.int 0)).bool! = false := hmk
            have hst := unmark_at (n := zs.length) hkn hmk
            refine run_pa hmix ti_ok tbi_ok 3 true 400 [true, true] [0, 5, 14, 15, 16, 17, 122, 123, 124] [17, 124] (fun ar lf => by conv => lhs; cbv) (allP ?_) ?_
            · simp only [hmk2, conj, and_true, Int.ofNat_eq_natCast, arR, lwR, luR, lsR', lrR, lqR, loR, lnR, lkR, rcmp_lss, rcmp_gtr, rcmp_geq, rcmp_eql, rcmp_neq, decide_eq_true_eq, decide_eq_false_iff_not, List.length_nil, maxLen, beq_self_eq_true, Bool.not_true, Bool.not_false, List.nil_append, ne_eq, not_true_eq_false, not_false_eq_true, decide_true, decide_false, Int.toNat_natCast, Nat.mul_one, Nat.zero_add]
              ((repeat' with_reducible apply And.intro) <;> first | omega | assumption | rfl | trivial)
            · refine ih ⟨⟨zs, rt, _, _, _, _, ms, _, _⟩, ?_⟩ ?_ _ _
              · refine ⟨?_, hP, hI, ?_, hlen, hxr⟩
                · simp only [arR, f1]; omega
                · simp only [arR, f1, ek1, hst]; exact hc
              · simp only [arR, f1]; omega
          | true =>
            have hmk2 : (ms.getD k.toNat (.int 0)).bool! = true := hmk
            obtain ⟨q1, q2, q3, q4, q5⟩ := mark_at (zs := zs) (n := zs.length) hkn hmk
            rw [← hP] at q1 q2
            rw [← hI] at q3 q5
            have hcl : (mkP ms 0 k.toNat).length ≤ k.toNat := by
              unfold mkP; exact Nat.le_trans (List.length_filter_le _ _) (by simp)
            have hct : c.toNat = (mkP ms 0 k.toNat).length := by omega
            have f2 : rbin .add .i64 c 1 = c + 1 := addi (by omega) (by omega)
            rw [← hct] at q1 q2 q3 q5
            have q6 : (P.getD c.toNat (.int 0)).int! = k := by
              rw [q2]
              show ((k.toNat : Nat) : Int) = k
              omega
            refine run_pa hmix ti_ok tbi_ok 3 true 400 [true, false, false, false, false] [0, 5, 14, 15, 16, 17, 122, 123, 124] [17, 124] (fun ar lf => by conv => lhs; cbv) (allP ?_) ?_
            · simp only [hmk2, q6, q3, conj, and_true, Int.ofNat_eq_natCast, arR, lwR, luR, lsR', lrR, lqR, loR, lnR, lkR, rcmp_lss, rcmp_gtr, rcmp_geq, rcmp_eql, rcmp_neq, decide_eq_true_eq, decide_eq_false_iff_not, List.length_nil, maxLen, beq_self_eq_true, Bool.not_true, Bool.not_false, List.nil_append, ne_eq, not_true_eq_false, not_false_eq_true, decide_true, decide_false, Int.toNat_natCast, Nat.mul_one, Nat.zero_add]
              ((repeat' with_reducible apply And.intro) <;> first | omega | assumption | rfl | trivial)
            · refine ih ⟨⟨zs, rt, _, _, _, _, ms, _, _⟩, ?_⟩ ?_ _ _
              · refine ⟨?_, hP, hI, ?_, hlen, hxr⟩
                · simp only [arR, f1]; omega
                · simp only [arR, f1, f2, ek1, q4]; omega
              · simp only [arR, f1]; omega
        · have hkl : k.toNat = zs.length := by omega
          rw [hkl] at hc
          have hxL : (!((List.range 32).map x == (List.range 32).map (rootF zs))) = false := by
            have e : (List.range 32).map x = (List.range 32).map (rootF zs) := List.map_congr_left fun j hj => hxr j (List.mem_range.1 hj)
            rw [e]; simp
          have hcP : c = (P.length : Int) := by omega
          obtain ⟨ho1, ho2⟩ := root_odd (zs := zs) hz0
          rcases ho2 with ho3 | ⟨ho3, ho4, ho5⟩
          · refine run_ex hmix ti_ok tbi_ok 999 false 1000 [false, false, false, true, true] (fun ar lf => by conv => lhs; cbv) (allP ?_) ?_
            · simp only [hrt, hcP, ho1, ho3, conj, and_true, Int.ofNat_eq_natCast, arR, lwR, luR, lsR', lrR, lqR, loR, lnR, lkR, rcmp_lss, rcmp_gtr, rcmp_geq, rcmp_eql, rcmp_neq, decide_eq_true_eq, decide_eq_false_iff_not, List.length_nil, maxLen, beq_self_eq_true, Bool.not_true, Bool.not_false, List.nil_append, ne_eq, not_true_eq_false, not_false_eq_true, decide_true, decide_false, Int.toNat_natCast, Nat.mul_one, Nat.zero_add]
              ((repeat' with_reducible apply And.intro) <;> first | omega | assumption | rfl | trivial | exact hxL)
            · exact Run.ret ti_ok rfl rfl (.a (.lbool rfl))
          · refine run_ex hmix ti_ok tbi_ok 999 false 1000 [false, false, false, true, false, true] (fun ar lf => by conv => lhs; cbv) (allP ?_) ?_
            · simp only [hrt, hcP, ho1, ho3, ho4, conj, and_true, Int.ofNat_eq_natCast, arR, lwR, luR, lsR', lrR, lqR, loR, lnR, lkR, rcmp_lss, rcmp_gtr, rcmp_geq, rcmp_eql, rcmp_neq, decide_eq_true_eq, decide_eq_false_iff_not, List.length_nil, maxLen, beq_self_eq_true, Bool.not_true, Bool.not_false, List.nil_append, ne_eq, not_true_eq_false, not_false_eq_true, decide_true, decide_false, Int.toNat_natCast, Nat.mul_one, Nat.zero_add]
              ((repeat' with_reducible apply And.intro) <;> first | omega | assumption | rfl | trivial | exact hxL)
            · refine Run.ret ti_ok rfl rfl (.a (.bool ?_))
              simp only [conj, and_true, Int.ofNat_eq_natCast, arR, lwR, luR, lsR', lrR, lqR, loR, lnR, lkR, rcmp_lss, rcmp_gtr, rcmp_geq, rcmp_eql, rcmp_neq, decide_eq_true_eq, decide_eq_false_iff_not, List.length_nil, maxLen, beq_self_eq_true, Bool.not_true, Bool.not_false, List.nil_append, ne_eq, not_true_eq_false, not_false_eq_true, decide_true, decide_false, Int.toNat_natCast, Nat.mul_one, Nat.zero_add]
              omega
      · have hR := hR0
        rw [eb, ei, ec] at hR
        obtain ⟨ho1, ho2⟩ := root_odd (zs := zs) hz0
        rcases ho2 with ho3 | ⟨ho3, ho4, ho5⟩
        · refine run_ex hmix ti_ok tbi_ok 999 false 1000 [false, false, false, true, true] (fun ar lf => by conv => lhs; cbv) (allP ?_) ?_
          · simp only [hmu, hmt, hrt, if_pos hok, if_neg hR, ho1, ho3, conj, and_true, Int.ofNat_eq_natCast, arR, lwR, luR, lsR', lrR, lqR, loR, lnR, lkR, rcmp_lss, rcmp_gtr, rcmp_geq, rcmp_eql, rcmp_neq, decide_eq_true_eq, decide_eq_false_iff_not, List.length_nil, maxLen, beq_self_eq_true, Bool.not_true, Bool.not_false, List.nil_append, ne_eq, not_true_eq_false, not_false_eq_true, decide_true, decide_false, Int.toNat_natCast, Nat.mul_one, Nat.zero_add]
            ((repeat' with_reducible apply And.intro) <;> first | omega | assumption | rfl | trivial)
          · exact Run.ret ti_ok rfl rfl (.a (.lbool rfl))
        · refine run_ex hmix ti_ok tbi_ok 999 false 1000 [false, false, false, true, false, true] (fun ar lf => by conv => lhs; cbv) (allP ?_) ?_
          · simp only [hmu, hmt, hrt, if_pos hok, if_neg hR, ho1, ho3, ho4, conj, and_true, Int.ofNat_eq_natCast, arR, lwR, luR, lsR', lrR, lqR, loR, lnR, lkR, rcmp_lss, rcmp_gtr, rcmp_geq, rcmp_eql, rcmp_neq, decide_eq_true_eq, decide_eq_false_iff_not, List.length_nil, maxLen, beq_self_eq_true, Bool.not_true, Bool.not_false, List.nil_append, ne_eq, not_true_eq_false, not_false_eq_true, decide_true, decide_false, Int.toNat_natCast, Nat.mul_one, Nat.zero_add]
            ((repeat' with_reducible apply And.intro) <;> first | omega | assumption | rfl | trivial)
          · refine Run.ret ti_ok rfl rfl (.a (.bool ?_))
            simp only [conj, and_true, Int.ofNat_eq_natCast, arR, lwR, luR, lsR', lrR, lqR, loR, lnR, lkR, rcmp_lss, rcmp_gtr, rcmp_geq, rcmp_eql, rcmp_neq, decide_eq_true_eq, decide_eq_false_iff_not, List.length_nil, maxLen, beq_self_eq_true, Bool.not_true, Bool.not_false, List.nil_append, ne_eq, not_true_eq_false, not_false_eq_true, decide_true, decide_false, Int.toNat_natCast, Nat.mul_one, Nat.zero_add]
            omega
  · cases hs
end Go.Proofs.Ytlbllaocdilafaa
