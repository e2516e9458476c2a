import Derived.Test.YtegcdnjihnpolaaUo
set_option linter.unusedSimpArgs false
set_option linter.unusedVariables false
namespace Go.Eng
open Go
theorem nb_V32 {f : F} (hf : bd32 f) (j : Nat) : nb (V32 f) j = if j < 32 then f j else 0 := by
  split
  · rename_i h
    exact (nb_of_pv hf j h).symm
  · rename_i h
    have hb := pv_bd hf
    have h32 : (256 : Int) ^ 32 ≤ 256 ^ j := by rw [pow256, pow256]; exact p2_le (by omega)
    unfold nb V32
    rw [Int.ediv_eq_zero_of_lt hb.1 (by omega)]; rfl
end Go.Eng
namespace Go.Proofs.Ytegcdnjihnpolaa
open Go Go.Eng Go.Proofs Go.RowKit
attribute [local irreducible] CallOk HOk Run TIok rbin rcmp run1 words val updF shfF blitF pv V40 nb wq tgt rb tlim tgood tval cmant bytesOf gk workOf cpt bpart V32
set_option maxRecDepth 100000 in
theorem nof_ok : CallOk Try.prog 113 (sOfN lhR) := by
  refine .of_run (hc := (th0 lhR).hc) Try.func113 rfl (by kernel_rfl) (by kernel_rfl) fun xs v ps hs hp w => ?_
  unfold sOfN at hs
  split at hs
  · rename_i f h
    obtain rfl := har1_some h
    cases hs
    have hf : bd32 f := hp (lhR.b32 f) (by simp)
    clear hp h
    refine run_ex hmix ti_ok th0_ok 0 false 800 [] (fun ar lf => by conv => lhs; cbv) (allP ?_) ?_
    · trivial
    refine Run.cut [1, 2, 3, 4] [4] 3 (by decide) rfl rfl ?_
    refine Run.loop (ι := {p : Int × F // 0 ≤ p.1 ∧ p.1 ≤ 32 ∧ ∀ j, j < 40 → p.2 j = if j < p.1.toNat then f j else 0})
      (fun i => ([.any, .a (.one (.ptr 0 (.lit 0))), .a (.one (.ptr 1 (.lit 0))), .a (.one (.ptr 2 (.lit 0))), .a (.one (.int .i64 i.1.1))] ++ List.replicate 12 .any, [some (KH f), some (KN fun _ => 0), some (KN i.1.2)]))
      (fun i => (32 - i.1.1).toNat) ⟨(0, fun _ => 0), Int.le_refl 0, show (0 : Int) ≤ 32 by decide, fun j _ => rfl⟩ ?_
    rintro ⟨⟨i, p⟩, h0, h1, hp1⟩ ih
    simp only at h0 h1 hp1
    by_cases hn : i < 32
    · have ei : 0 + i.toNat * 1 = i.toNat := by omega
      have eadd : rbin .add .i64 i 1 = i + 1 := rbin_addi (by omega)
      have eni : (i + 1).toNat = i.toNat + 1 := by omega
      have emu : (32 - rbin .add .i64 i 1).toNat < (32 - i).toNat := by rw [eadd]; omega
      have hfi := hf i.toNat (by omega)
      have econ : IntKind.i64.wrap (f i.toNat) = f i.toNat := wrap_i64 (by omega)
      refine run_ex hmix ti_ok th0_ok 2 false 800 [true] (fun ar lf => by conv => lhs; cbv) (allP ?_) ?_
      · simp only [conj, arR, N.val, rcmp_lss', ei, econ, decide_eq_true_eq]
        and_intros <;> first | trivial | omega
      · refine Run.cut [1, 2, 3, 4] [4] 3 (by decide) rfl rfl ?_
        refine ih ⟨(_, _), ?_, ?_, ?_⟩ emu _ _
        · simp only [eadd]; omega
        · simp only [eadd]; omega
        · simp only [arR, N.val, ei, econ, eadd, eni]
          intro j hj
          rw [updF_at]
          by_cases hji : j = i.toNat
          · rw [if_pos (by omega), if_pos (by omega), hji]
          · rw [if_neg (by omega), hp1 j hj]
            by_cases hlt : j < i.toNat
            · rw [if_pos hlt, if_pos (by omega)]
            · rw [if_neg hlt, if_neg (by omega)]
    · obtain rfl : i = 32 := by omega
      refine run_ex hmix ti_ok th0_ok 2 false 800 [false] (fun ar lf => by conv => lhs; cbv) (allP ?_) ?_
      · simp only [conj, arR, rcmp_lss']
        decide
      · refine Run.ret ti_ok rfl rfl (.a (.ints fun j hj => ?_))
        show p j = nb (V32 f) j
        rw [nb_V32 hf, hp1 j hj]; rfl
  · cases hs
theorem leq_z {f g : F} : rcmp .leq (lfR.wcmp f g) 0 = decide (val f ≤ val g) := by
  unfold rcmp
  show decide ((if val f < val g then (-1 : Int) else if val g < val f then 1 else 0) ≤ 0) = _
  rw [decide_eq_decide]
  split
  · omega
  · split <;> omega
theorem lhl5 : lhR.ln.l5 = l5R := rfl
theorem lhln : lhR.ln = lnR := rfl
def th1 (l : LH) : Tbl := tbL [(62, sExpand l.ln.l5), (92, sOfW l), (51, sCmp l.ln.l5.lf)] []
theorem th1_ok : TblOk Try.prog (th1 lhR) := tbL_ok (by simpa [lhl5, lhln, l5lf] using ⟨expand_ok, of_ok, wcmp_ok⟩) (by simp)
set_option maxRecDepth 100000 in
theorem meets_ok : CallOk Try.prog 76 (sMeets lhR) := by
  refine .evalN (tb := th1) hmix ti_ok th1_ok Try.func76 rfl (by kernel_rfl) (by kernel_rfl) (harU_spec_norm (g := fun f b => (.a (B (lhR.meets f b)), [lhR.b32 f, lhR.ln.l5.u32 b])) (fun l => rfl)) fun xs v ps hn hs hp => ?_
  unfold sMeets at hs
  split at hs
  · rename_i f b h
    obtain rfl := harU_int h hn
    cases hs
    have hf : bd32 f := hp (lhR.b32 f) (by simp)
    have hb : 0 ≤ b ∧ b < 4294967296 := hp (l5R.u32 b) (by simp [lhR, lnR])
    clear hp h hn
    have htv := tval_lt b
    have hV := V32_bd hf
    have hvw : val (l5R.tw b) = tval b := val_words_of htv.1 (by have := tlim_lt; omega)
    have hvo : val (lhR.ofW f) = V32 f := val_words_of hV.1 hV.2
    cases hg : tgood b with
    | true =>
      have hte : l5R.te b = 0 := by show (if tgood b = true then (0 : Int) else 50) = 0; rw [hg]; rfl
      refine ⟨800, [true], _, fun ar lf => by conv => lhs; cbv, allP ?_, .a (.bool ?_)⟩
      · simp only [conj]
        exact ⟨words_bd _, words_bd _, hf, eql_yes hte, hb, trivial⟩
      · refine leq_z.trans ?_
        show decide (val (lhR.ofW f) ≤ val (l5R.tw b)) = (tgood b && decide (V32 f ≤ tval b))
        rw [hvw, hvo, hg, Bool.true_and]
    | false =>
      have hte : rcmp .eql (l5R.te b) 0 = false := by
        have e : l5R.te b = 50 := by show (if tgood b = true then (0 : Int) else 50) = 50; rw [hg]; rfl
        rw [e, rcmp_eql]; rfl
      refine ⟨800, [false], _, fun ar lf => by conv => lhs; cbv, allP ?_, .a (.lbool ?_)⟩
      · simp only [conj]
        exact ⟨hte, hb, trivial⟩
      · show false = (tgood b && decide (V32 f ≤ tval b))
        rw [hg, Bool.false_and]
  · cases hs
def th2 (l : LH) : Tbl := tbL [(63, sNExpand l.ln), (113, sOfN l), (73, sNLess l.ln)] []
theorem th2_ok : TblOk Try.prog (th2 lhR) := tbL_ok (by simpa [lhln] using ⟨nexpand_ok, nof_ok, nless_ok⟩) (by simp)
set_option maxRecDepth 100000 in
theorem nmeets_ok : CallOk Try.prog 77 (sMeets lhR) := by
  refine .evalN (tb := th2) hmix ti_ok th2_ok Try.func77 rfl (by kernel_rfl) (by kernel_rfl) (harU_spec_norm (g := fun f b => (.a (B (lhR.meets f b)), [lhR.b32 f, lhR.ln.l5.u32 b])) (fun l => rfl)) fun xs v ps hn hs hp => ?_
  unfold sMeets at hs
  split at hs
  · rename_i f b h
    obtain rfl := harU_int h hn
    cases hs
    have hf : bd32 f := hp (lhR.b32 f) (by simp)
    have hb : 0 ≤ b ∧ b < 4294967296 := hp (l5R.u32 b) (by simp [lhR, lnR])
    clear hp h hn
    have htv := tval_lt b
    have hV := V32_bd hf
    have h320 := lim320
    have hvw : V40 (lnR.nexp b) = tval b := V40_nb htv.1 (by have := tlim_lt; omega)
    have hvo : V40 (lhR.ofN f) = V32 f := V40_nb hV.1 (by omega)
    cases hg : tgood b with
    | true =>
      refine ⟨800, [true], _, fun ar lf => by conv => lhs; cbv, allP ?_, .a (.bool ?_)⟩
      · simp only [conj]
        exact ⟨nb_bd _, nb_bd _, hf, hg, hb, trivial⟩
      · show (!(decide (V40 (lnR.nexp b) < V40 (lhR.ofN f)))) = (tgood b && decide (V32 f ≤ tval b))
        rw [hvw, hvo, hg, Bool.true_and, ← decide_not, decide_eq_decide]
        omega
    | false =>
      refine ⟨800, [false], _, fun ar lf => by conv => lhs; cbv, allP ?_, .a (.lbool ?_)⟩
      · simp only [conj]
        exact ⟨hg, hb, trivial⟩
      · show false = (tgood b && decide (V32 f ≤ tval b))
        rw [hg, Bool.false_and]
  · cases hs
def th3 (l : LH) : Tbl := tbL [(66, sAwake), (76, sMeets l), (77, sMeets l)] []
theorem th3_ok : TblOk Try.prog (th3 lhR) := tbL_ok (by simpa using ⟨awake5_ok, meets_ok, nmeets_ok⟩) (by simp)
set_option maxRecDepth 100000 in
theorem meets_law : CallOk Try.prog 11 (sLawM lhR) := by
  refine .evalN (tb := th3) hmix ti_ok th3_ok Try.func11 rfl (by kernel_rfl) (by kernel_rfl) (harU_spec_norm (g := fun f b => (.a (.one (.lbool true)), [lhR.b32 f, lhR.ln.l5.u32 b])) (fun l => rfl)) fun xs v ps hn hs hp => ?_
  unfold sLawM at hs
  split at hs
  · rename_i f b h
    obtain rfl := harU_int h hn
    cases hs
    have hf : bd32 f := hp (lhR.b32 f) (by simp)
    have hb : 0 ≤ b ∧ b < 4294967296 := hp (l5R.u32 b) (by simp [lhR, lnR])
    clear hp h hn
    refine ⟨800, [], _, fun ar lf => by conv => lhs; cbv, allP ?_, VLe.yes ?_⟩
    · simp only [conj]
      exact ⟨hf, hb, hf, hb, trivial⟩
    · exact beq_self_eq_true _
  · cases hs
end Go.Proofs.Ytegcdnjihnpolaa
