import Derived.Test.YtegcdnjihnpolaaUl
import Derived.Test.YtegcdnjihnpolaaWw
set_option linter.unusedSimpArgs false
set_option linter.unusedVariables false
namespace Go.Eng
open Go
/-- a number over a little one, by halves of words from the highest down: what is left carries on -/
theorem over_half {r x n : Int} (hn : 0 < n) (hr0 : 0 ≤ r) (hr1 : r < n) (hx0 : 0 ≤ x) (hx1 : x < (18446744073709551616 : Int)) :
    (r * 4294967296 + x / 4294967296) / n * 4294967296 + ((r * 4294967296 + x / 4294967296) % n * 4294967296 + x % 4294967296) / n = (r * (18446744073709551616 : Int) + x) / n ∧
    ((r * 4294967296 + x / 4294967296) % n * 4294967296 + x % 4294967296) % n = (r * (18446744073709551616 : Int) + x) % n := by
  have e1 := Int.emod_add_mul_ediv (r * 4294967296 + x / 4294967296) n
  have hs0 := Int.emod_nonneg (r * 4294967296 + x / 4294967296) (Int.ne_of_gt hn)
  generalize (r * 4294967296 + x / 4294967296) % n = s at *
  generalize hq : (r * 4294967296 + x / 4294967296) / n = q at *
  have e2 : r * (18446744073709551616 : Int) + x = (s * 4294967296 + x % 4294967296) + n * (q * 4294967296) := by
    have : n * (q * 4294967296) = n * q * 4294967296 := by rw [Int.mul_assoc]
    omega
  rw [e2, Int.add_mul_ediv_left _ _ (Int.ne_of_gt hn), Int.add_mul_emod_self_left]
  exact ⟨by omega, rfl⟩
/-- one digit of a quotient -/
theorem over_digit {A x n β : Int} (hn : 0 < n) (hb : 0 < β) (hx0 : 0 ≤ x) (hx1 : x < β) :
    (A % n * β + x) / n = (A * β + x) / n % β ∧ (A % n * β + x) % n = (A * β + x) % n ∧ (A % n * β + x) / n < β := by
  have e1 := Int.emod_add_mul_ediv A n
  have hr0 := Int.emod_nonneg A (Int.ne_of_gt hn)
  have hr1 := Int.emod_lt_of_pos A hn
  generalize A % n = r at *
  generalize A / n = q at *
  have e2 : A * β + x = (r * β + x) + n * (q * β) := by rw [← e1]; grind
  have h0 : 0 ≤ r * β := Int.mul_nonneg hr0 (Int.le_of_lt hb)
  have h1 : (r + 1) * β ≤ n * β := Int.mul_le_mul_of_nonneg_right (by omega) (Int.le_of_lt hb)
  rw [Int.add_mul] at h1
  have h2 : (r * β + x) / n < β := Int.ediv_lt_of_lt_mul hn (by rw [Int.mul_comm β n]; omega)
  have h3 : 0 ≤ (r * β + x) / n := Int.ediv_nonneg (by omega) (Int.le_of_lt hn)
  rw [e2, Int.add_mul_ediv_left _ _ (Int.ne_of_gt hn), Int.add_mul_emod_self_left, Int.add_mul_emod_self_right, Int.emod_eq_of_lt h3 h2]
  exact ⟨rfl, rfl, h2⟩
section
/-- the state as one of a family -/
theorem Run.fam2 {P : Program} {hc : FuncId → Bool} {W0 : World} {m0 : Nat} {fn : Func} {R : V → Heap → Prop} {ι : Type} (S : ι → List V × Heap) {x : Item} {T : List Item} (i0 : ι)
    (h : ∀ i, Run P hc W0 m0 fn R ⟨(S i).1, (S i).2, x :: T, [], []⟩) : Run P hc W0 m0 fn R ⟨(S i0).1, (S i0).2, x :: T, [], []⟩ := h i0
end
def ovm (h lo n : Int) : Int := if h / n = 0 then (h * (115792089237316195423570985008687907853269984665640564039457584007913129639936 : Int) + lo) / n else -1
/-- how long it took, by a fourth and four times at most -/
def spanOf (first last : Int) : Int := if last - first < 120 then 120 else if last - first > 1920 then 1920 else last - first
def nextVal (b first last : Int) : Int := if tlim < tval b * spanOf first last / 480 then tlim else if tval b * spanOf first last / 480 = 0 then 1 else tval b * spanOf first last / 480
structure LX where
  ln : LN
  nlit : Int → Prop
  ov : F → F → Int → F
  nx : Int → Int → Int → Int
def lxR : LX where
  ln := lnR
  nlit n := 0 < n ∧ n < 4294967296
  ov h lo n := words (ovm (val h) (val lo) n)
  nx b f l := if tgood b = true then cpt (nextVal b f l) else 0
def wwn : List A → Option (F × F × Int)
  | [.agg (.ints .u64 (.lit 4) f), .agg (.ints .u64 (.lit 4) g), .one c] => match c.num? with
    | some (.u64, n, _) => some (f, g, n)
    | _ => none
  | _ => none
theorem wwn_some {l : List A} {f g : F} {n : Int} (h : wwn l = some (f, g, n)) : ∃ a u, l = [W f, W g, .one a] ∧ a.num? = some (.u64, n, u) := by
  unfold wwn at h
  split at h
  · split at h
    · rename_i h1; cases h; exact ⟨_, _, rfl, h1⟩
    · cases h
  · cases h
theorem wwn_norm {l : List A} {f g : F} {n : Int} (h : wwn l = some (f, g, n)) : wwn (l.map A.norm) = some (f, g, n) := by
  obtain ⟨a, u, rfl, h1⟩ := wwn_some h
  rcases num_cases h1 with rfl | rfl <;> rfl
theorem wwn_int {l : List A} {f g : F} {n : Int} (h : wwn l = some (f, g, n)) (hn : l.map A.norm = l) : l = [W f, W g, U n] := by
  obtain ⟨a, u, rfl, h1⟩ := wwn_some h
  rcases num_cases h1 with rfl | rfl
  · rfl
  · cases hn
theorem wwn_spec_norm {k : F → F → Int → V × List Prop} {s : ESpec} (hs : ∀ l, s l = match wwn l with
  | some (f, g, n) => some (k f g n)
  | none => none) : ∀ l r, s l = some r → s (l.map A.norm) = some r := by
  intro l r h
  rw [hs] at h ⊢
  split at h
  · rename_i f g n h1
    rw [wwn_norm h1]; exact h
  · cases h
def num32t : List A → Option (Int × Int × Int)
  | [.one a, .one b, .one c] => match a.num?, b.num?, c.num? with
    | some (.u32, x, _), some (.u32, y, _), some (.u32, z, _) => some (x, y, z)
    | _, _, _ => none
  | _ => none
theorem num32t_some {l : List A} {x y z : Int} (h : num32t l = some (x, y, z)) : ∃ a b c u v w, l = [.one a, .one b, .one c] ∧ a.num? = some (.u32, x, u) ∧ b.num? = some (.u32, y, v) ∧ c.num? = some (.u32, z, w) := by
  unfold num32t at h
  split at h
  · split at h
    · rename_i h1 h2 h3; cases h; exact ⟨_, _, _, _, _, _, rfl, h1, h2, h3⟩
    · cases h
  · cases h
theorem num32t_norm {l : List A} {x y z : Int} (h : num32t l = some (x, y, z)) : num32t (l.map A.norm) = some (x, y, z) := by
  obtain ⟨a, b, c, u, v, w, rfl, h1, h2, h3⟩ := num32t_some h
  rcases num_cases h1 with rfl | rfl <;> rcases num_cases h2 with rfl | rfl <;> rcases num_cases h3 with rfl | rfl <;> rfl
theorem num32t_int {l : List A} {x y z : Int} (h : num32t l = some (x, y, z)) (hn : l.map A.norm = l) : l = [U32 x, U32 y, U32 z] := by
  obtain ⟨a, b, c, u, v, w, rfl, h1, h2, h3⟩ := num32t_some h
  rcases num_cases h1 with rfl | rfl <;> rcases num_cases h2 with rfl | rfl <;> rcases num_cases h3 with rfl | rfl <;> first | rfl | cases hn
theorem num32t_spec_norm {g : Int → Int → Int → V × List Prop} {s : ESpec} (hs : ∀ l, s l = match num32t l with
  | some (x, y, z) => some (g x y z)
  | none => none) : ∀ l r, s l = some r → s (l.map A.norm) = some r := by
  intro l r h
  rw [hs] at h ⊢
  split at h
  · rename_i x y z h1
    rw [num32t_norm h1]; exact h
  · cases h
def sOver (l : LX) : ESpec := fun a => match wwn a with
  | some (f, g, n) => some (.a (W (l.ov f g n)), [l.ln.l5.lf.bd f, l.ln.l5.lf.bd g, l.nlit n])
  | none => none
def sNext (l : LX) : ESpec := fun a => match num32t a with
  | some (b, x, y) => some (.tup [U32 (l.nx b x y), I (l.ln.l5.te b)], [l.ln.l5.u32 b, l.ln.l5.u32 x, l.ln.l5.u32 y])
  | none => none
def sNNext (l : LX) : ESpec := fun a => match num32t a with
  | some (b, x, y) => some (.tup [U32 (l.nx b x y), B (l.ln.l5.tb b)], [l.ln.l5.u32 b, l.ln.l5.u32 x, l.ln.l5.u32 y])
  | none => none
def sLawX (l : LX) : ESpec := fun a => match num32t a with
  | some (b, x, y) => some (.a (.one (.lbool true)), [l.ln.l5.u32 b, l.ln.l5.u32 x, l.ln.l5.u32 y])
  | none => none
end Go.Eng
namespace Go.Proofs.Ytegcdnjihnpolaa
open Go Go.Eng Go.Proofs Go.RowKit
theorem te_g {b : Int} (h : tgood b = true) : l5R.te b = 0 := by show (if tgood b = true then (0 : Int) else 50) = 0; rw [h]; rfl
theorem te_b {b : Int} (h : tgood b = false) : l5R.te b = 50 := by show (if tgood b = true then (0 : Int) else 50) = 50; rw [h]; rfl
theorem neq_y {x y : Int} (h : x ≠ y) : rcmp .neq x y = true := by rw [rcmp_neq]; exact decide_eq_true h
theorem eql_n {x y : Int} (h : x ≠ y) : rcmp .eql x y = false := by rw [rcmp_eql]; exact decide_eq_false h
attribute [local irreducible] CallOk HOk Run TIok rbin rcmp run1 words val updF shfF blitF pv V40 nb wq tgt rb tlim tgood tval cmant bytesOf gk workOf cpt ovm
def tx0 (l : LX) : Tbl := tbL [] []
theorem tx0_ok : TblOk Try.prog (tx0 lxR) := tbL_ok (by simp) (by simp)
theorem lxln : lxR.ln = lnR := rfl
theorem lxl5 : lxR.ln.l5 = l5R := rfl
set_option maxRecDepth 100000 in
theorem nover_ok : CallOk Try.prog 121 (sNOver lnR) := by
  refine .nrm (narI_spec_norm (g := fun f n => (.a (N40 (lnR.nover f n)), [lnR.bn f, lnR.nov n])) (fun l => rfl)) (.of_run (hc := (tn0 lnR).hc) Try.func121 rfl (by kernel_rfl) (by kernel_rfl) fun xs v ps hs hp w => ?_)
  split at hs
  case isFalse => cases hs
  rename_i hnm
  unfold sNOver at hs
  split at hs
  · rename_i f n h
    obtain rfl := narI_int h hnm
    cases hs
    have hf : bd40 f := hp (lnR.bn f) (by simp)
    have hi : 0 < n ∧ n ≤ 1099511627776 := hp (lnR.nov n) (by simp)
    clear hp h hnm
    have hV := V40_bd hf
    have hfn := nb_V40 hf
    unfold bd40 at hf
    refine run_ex hmix ti_ok tn0_ok 0 false 800 [] (fun ar lf => by conv => lhs; cbv) (allP ?_) ?_
    · trivial
    refine Run.cut [1, 2, 4, 5, 6] [1, 5, 6] 2 (by decide) rfl rfl ?_
    refine Run.loop (ι := {p : Int × F × Int // -1 ≤ p.1 ∧ p.1 ≤ 39 ∧ p.2.2 = V40 f / 256 ^ (p.1 + 1).toNat % n ∧ (∀ j, j < 40 → p.2.1 j = if (j : Int) ≤ p.1 then f j else nb (V40 f / n) j)})
      (fun i => ([.any, .a (.one (.int .i64 n)), .a (.one (.ptr 0 (.lit 0))), .any, .a (.one (.ptr 1 (.lit 0))), .a (.one (.int .i64 i.1.2.2)), .a (.one (.int .i64 i.1.1))] ++ List.replicate 19 .any, [some (KN i.1.2.1), some (KN fun _ => 0)]))
      (fun i => (i.1.1 + 1).toNat) ⟨(39, f, 0), show (-1 : Int) ≤ 39 by decide, show (39 : Int) ≤ 39 by decide, ?_, ?_⟩ ?_
    · show 0 = V40 f / 256 ^ 40 % n
      rw [Int.ediv_eq_zero_of_lt hV.1 (by rw [pow256]; exact hV.2), Int.zero_emod]
    · intro j hj
      rw [if_pos (show (j : Int) ≤ 39 by omega)]
    rintro ⟨⟨i, p, c⟩, h0, h1, hc, hp1⟩ ih
    simp only at h0 h1 hc hp1
    by_cases hn : 0 ≤ i
    · have en : (i + 1).toNat = i.toNat + 1 := by omega
      rw [en] at hc
      have ei : 0 + i.toNat * 1 = i.toNat := by omega
      have esub : rbin .sub .i64 i 1 = i - 1 := rbin_subi (by omega)
      have emu : (rbin .sub .i64 i 1 + 1).toNat < (i + 1).toNat := by rw [esub]; omega
      have esub1 : rbin .sub .i64 i 1 + 1 = i := by rw [esub]; omega
      have hfi := hf i.toNat (by omega)
      have hpi := hp1 i.toNat (by omega)
      rw [if_pos (by omega)] at hpi
      have hA : V40 f / 256 ^ (i.toNat + 1) * 256 + f i.toNat = V40 f / 256 ^ i.toNat := by
        rw [hfn i.toNat (by omega), Int.pow_succ, ← Int.ediv_ediv_of_nonneg (Int.le_of_lt (pow256_pos _))]
        unfold nb
        generalize V40 f / 256 ^ i.toNat = X
        omega
      obtain ⟨d1, d2, d3⟩ := over_digit (A := V40 f / 256 ^ (i.toNat + 1)) (x := f i.toNat) hi.1 (show (0 : Int) < 256 by decide) hfi.1 hfi.2
      rw [← hc, hA] at d1 d2
      rw [← hc] at d3
      have hc0 : 0 ≤ c := by rw [hc]; exact Int.emod_nonneg _ (Int.ne_of_gt hi.1)
      have hc1 : c < n := by rw [hc]; exact Int.emod_lt_of_pos _ hi.1
      have em : rbin .mul .i64 c 256 = c * 256 := rbin_muli (by omega)
      have ea : rbin .add .i64 (c * 256) (f i.toNat) = c * 256 + f i.toNat := rbin_addi (by omega)
      have eq : rbin .quo .i64 (c * 256 + f i.toNat) n = (c * 256 + f i.toNat) / n := rbin_quoi (by omega) (by omega) hi.1
      have er : rbin .rem .i64 (c * 256 + f i.toNat) n = (c * 256 + f i.toNat) % n := rbin_remi (by omega)
      have hdig : (c * 256 + f i.toNat) / n = nb (V40 f / n) i.toNat := by
        rw [d1]
        unfold nb
        rw [Int.ediv_ediv_of_nonneg (Int.le_of_lt (pow256_pos _)), Int.ediv_ediv_of_nonneg (Int.le_of_lt hi.1), Int.mul_comm]
      refine run_ex hmix ti_ok tn0_ok 2 false 800 [true] (fun ar lf => by conv => lhs; cbv) (allP ?_) ?_
      · simp only [conj, arR, N.val, rcmp_geq, ei, hpi, em, ea, decide_eq_true_eq]
        and_intros <;> first | trivial | omega
      · refine Run.cut [1, 2, 4, 5, 6] [1, 5, 6] 2 (by decide) rfl rfl ?_
        refine ih ⟨(_, _, _), ?_, ?_, ?_, ?_⟩ emu _ _
        · simp only [esub]; omega
        · simp only [esub]; omega
        · simp only [arR, N.val, ei, hpi, em, ea, er, esub1]
          exact d2
        · simp only [arR, N.val, ei, hpi, em, ea, eq, esub]
          intro j hj
          rw [updF_at]
          by_cases hji : j = i.toNat
          · rw [if_pos hji, if_neg (by omega), hji]; exact hdig
          · rw [if_neg hji, hp1 j hj]
            by_cases hle : (j : Int) ≤ i
            · rw [if_pos hle, if_pos (by omega)]
            · rw [if_neg hle, if_neg (by omega)]
    · obtain rfl : i = -1 := by omega
      refine run_ex hmix ti_ok tn0_ok 2 false 800 [false] (fun ar lf => by conv => lhs; cbv) (allP ?_) ?_
      · simp only [conj, arR, rcmp_geq]
        decide
      · refine Run.ret ti_ok rfl rfl (.a (.ints fun j hj => ?_))
        show p j = nb (V40 f / n) j
        have hj : j < 40 := hj
        rw [hp1 j hj, if_neg (by omega)]
  · cases hs
end Go.Proofs.Ytegcdnjihnpolaa
