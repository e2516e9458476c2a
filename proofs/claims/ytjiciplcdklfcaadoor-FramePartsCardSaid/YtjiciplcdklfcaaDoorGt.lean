import Derived.Test.YtjiciplcdklfcaaDoorGq
set_option linter.unusedSimpArgs false
set_option linter.unusedVariables false
namespace Go.Proofs.YtjiciplcdklfcaaDoor
open Go Go.Eng Go.Proofs Go.RowKit
attribute [local irreducible] CallOk HOk Run TIok rbin rcmp run1 updF shfF blitF
attribute [local irreducible] hdE hdC hdN hdS deE deC deP deTo sumV needF nextF feedH feedN enT enE okCmd enB
set_option maxRecDepth 100000 in
set_option maxHeartbeats 8000000 in
theorem lparts_ok : CallOk Tryd.prog 4 (sLParts lg7) := by
  refine .of_run (hc := (tgr lg7).hc) Tryd.func4 rfl (by kernel_rfl) (by kernel_rfl) fun xs v ps hs hp w => ?_
  unfold sLParts at hs
  split at hs
  · rename_i m s1 xs s2 cuts
    split at hs
    · rename_i hsh
      rw [Bool.and_eq_true] at hsh
      obtain rfl := shEq_eq hsh.1
      obtain rfl := shEq_eq hsh.2
      clear hsh
      cases hs
      have hm : lg7.layOk m 4 := hp (lg7.layOk m 4) (by simp)
      obtain ⟨hlen, hel⟩ : xs.length ≤ 4398046511104 ∧ ∀ d ∈ xs, isFr d := hp (lg7.isL xs) (by simp)
      have hcl : cuts.length ≤ 140737488355328 := hp (lg7.isI cuts) (by simp)
      clear hp
      have held0 : lg7.held .empty := (by decide : ByteArray.empty.size ≤ 32816)
      refine run_pa hmix ti_ok tgr_ok 0 false 400 [] [0, 2, 7, 8, 24, 25, 26] [7, 8, 26] (fun ar lf => by conv => lhs; cbv) (allP ?_) ?_
      · simp only [conj, and_true, Int.ofNat_eq_natCast, arR, rcmp_lss, rcmp_gtr, rcmp_geq, rcmp_leq, rcmp_eql, rcmp_neq, decide_eq_true_eq, decide_eq_false_iff_not, ne_eq, not_true_eq_false, not_false_eq_true, Int.toNat_natCast, List.length_cons, List.length_nil]
      refine Run.loop (ι := {p : (Int × Int) × ByteArray × List D // (0 ≤ p.1.1 ∧ p.1.1 ≤ xs.length) ∧ p.1.2 = xs.length ∧ p.2.2 = goods (xs.take p.1.1.toNat) ∧ p.2.1.data.toList = catB m p.2.2})
        (fun i => ([.a (.one (.int .u32 m)), .any, .a (.one (.dat (.int .i64) cuts none)), .any, .any, .any, .any, .a (.one (.str i.1.2.1)), .a (.one (.dat (.two .str .str) i.1.2.2 (some 0))), .any, .any, .any, .any, .any, .any, .any, .any, .any, .any, .any, .any, .any, .any, .any, .a (.one (.dat (.two .str .str) xs none)), .a (.one (.int .i64 i.1.1.2)), .a (.one (.int .i64 i.1.1.1)), .any, .any, .any, .any, .any, .any, .any, .any, .any, .any, .any, .any, .any, .any, .any, .any, .any, .any, .any, .any, .any, .any, .any, .any, .any, .any, .any, .any, .any, .any, .any, .any, .any, .any, .any, .any, .any, .any, .any, .any, .any, .any, .any, .any, .any, .any, .any, .any, .any, .any, .any, .any, .any, .any, .any, .any, .any, .any, .any, .any, .any, .any, .any, .any, .any, .any, .any, .any, .any, .any, .any, .any, .any, .any, .any, .any, .any, .any, .any, .any, .any, .any, .any, .any, .any, .any, .any, .any, .any, .any, .any, .any, .any, .any, .any, .any, .any, .any, .any, .any, .any, .any, .any, .any, .any, .any, .any, .any, .any, .any, .any, .any, .any, .any, .any, .any, .any, .any, .any, .any, .any, .any, .any, .any], [some ⟨false, .tail⟩]))
        (fun i => (xs.length - i.1.1.1).toNat) ⟨((0, _), _, []), by simp only; omega, rfl, rfl, rfl⟩ ?_
      rintro ⟨⟨⟨p, len⟩, s, wn⟩, hp, hl, hwn, hs⟩ ih
      try simp only at hp hl hwn hs
      have hgo : ∀ d ∈ wn, okFr d := by
        rw [hwn]; exact goods_ok fun d hd => hel d (List.mem_of_mem_take hd)
      have hML : maxLen = 9223372036854775807 := by decide
      have hwl : wn.length ≤ p.toNat := by
        rw [hwn]; exact Nat.le_trans (goods_len _) (by rw [List.length_take]; omega)
      have hsz : s.size ≤ wn.length * 16408 := by
        have := catB_len m hgo
        rw [← hs, Array.length_toList] at this
        exact this
      by_cases hlt : p < xs.length
      · have e1 : rbin .add .i64 p 1 = p + 1 := addi (by omega) (by omega)
        have hk : p.toNat < xs.length := by omega
        have hmem : xs.getD p.toNat (.int 0) ∈ xs := by
          rw [List.getD_eq_getElem?_getD, List.getElem?_eq_getElem hk]; exact List.getElem_mem hk
        have htk : xs.take (p + 1).toNat = xs.take p.toNat ++ [xs.getD p.toNat (.int 0)] := by
          rw [show (p + 1).toNat = p.toNat + 1 by omega, List.take_succ_eq_append_getElem hk, List.getD_eq_getElem?_getD, List.getElem?_eq_getElem hk]; rfl
        have hfd := hel _ hmem
        refine run_pa hmix ti_ok tgr_ok 999 false 9 [true] [0, 2, 7, 8, 10, 24, 25, 26] [] (fun ar lf => by conv => lhs; cbv) (allP ?_) ?_
        · simp only [conj, and_true, Int.ofNat_eq_natCast, arR, rcmp_lss, rcmp_gtr, rcmp_geq, rcmp_leq, rcmp_eql, rcmp_neq, decide_eq_true_eq, decide_eq_false_iff_not, ne_eq, not_true_eq_false, not_false_eq_true, Int.toNat_natCast, List.length_cons, List.length_nil, hl]
          first | omega | (trace_state; sorry)
        refine Run.fam3 (ι := {d : D // d = xs.getD p.toNat (.int 0)}) (fun i => ([.a (.one (.int .u32 m)), .any, .a (.one (.dat (.int .i64) cuts none)), .any, .any, .any, .any, .a (.one (.str s)), .a (.one (.dat (.two .str .str) wn (some 0))), .any, .a (.one (.ptr 1 (.lit 0))), .any, .any, .any, .any, .any, .any, .any, .any, .any, .any, .any, .any, .any, .a (.one (.dat (.two .str .str) xs none)), .a (.one (.int .i64 len)), .a (.one (.int .i64 p)), .any, .any, .any, .any, .any, .any, .any, .any, .any, .any, .any, .any, .any, .any, .any, .any, .any, .any, .any, .any, .any, .any, .any, .any, .any, .any, .any, .any, .any, .any, .any, .any, .any, .any, .any, .any, .any, .any, .any, .any, .any, .any, .any, .any, .any, .any, .any, .any, .any, .any, .any, .any, .any, .any, .any, .any, .any, .any, .any, .any, .any, .any, .any, .any, .any, .any, .any, .any, .any, .any, .any, .any, .any, .any, .any, .any, .any, .any, .any, .any, .any, .any, .any, .any, .any, .any, .any, .any, .any, .any, .any, .any, .any, .any, .any, .any, .any, .any, .any, .any, .any, .any, .any, .any, .any, .any, .any, .any, .any, .any, .any, .any, .any, .any, .any, .any, .any, .any, .any, .any, .any, .any, .any, .any], [some ⟨false, .tail⟩, some ⟨false, .prt [.v (.two .str .str) i.1]⟩])) ⟨xs.getD p.toNat (.int 0), rfl⟩ ?_
        rintro ⟨d, hd2⟩
        obtain ⟨c, q, hd, hc, hq⟩ := hfd
        rw [hd] at hd2 htk
        subst hd2
        have hisF : lg7.isF (.pair (.str c) (.str q)) := ⟨c, q, rfl, hc, hq⟩
        have fr1 : frC (.pair (.str c) (.str q)) = c := rfl
        have fr2 : frP (.pair (.str c) (.str q)) = q := rfl
        have hgs := goods_snoc (xs.take p.toNat) (.pair (.str c) (.str q))
        rw [fr1, fr2] at hgs
        by_cases hok : enE c q = 0
        · rw [if_pos hok] at hgs
          have ho : okFr (.pair (.str c) (.str q)) := okFr_of ⟨c, q, rfl, hc, hq⟩ hok
          have hT : enT m c q = enB m c q := by unfold enT; rw [if_pos hok]
          have hF : Front m c q (enT m c q) := front_of [] ho.2.1 ho.2.2 _ (by rw [hT, List.append_nil, fr1, fr2])
          obtain ⟨d1, d2, d3, d4⟩ := dec_front hF
          have hTs : (enT m c q).size = 24 + q.size := by rw [hT]; exact en_size ho.2.1
          have hq16 : q.size ≤ 16384 := ho.2.2
          have hto : deTo m (enT m c q) 0 = ((enT m c q).size : Nat) := by rw [d4, hTs]; omega
          have hall : (![(deC m (enT m c q) 0).toList == c.toList, (deP m (enT m c q) 0).toList == q.toList].all id) = false := by rw [d2, d3]; simp
          refine run_pa hmix ti_ok tgr_ok 2 true 400 [false, false, false, false] [0, 2, 7, 8, 24, 25, 26] [7, 8, 26] (fun ar lf => by conv => lhs; cbv) (allP ?_) ?_
          · simp only [conj, and_true, Int.ofNat_eq_natCast, arR, rcmp_lss, rcmp_gtr, rcmp_geq, rcmp_leq, rcmp_eql, rcmp_neq, decide_eq_true_eq, decide_eq_false_iff_not, ne_eq, not_true_eq_false, not_false_eq_true, Int.toNat_natCast, List.length_cons, List.length_nil]
            exact ⟨by omega, (by rw [hTs]; omega : ((s.size + (enT m c q).size : Nat) : Int) ≤ 9223372036854775807), fun h => h hto, hall, fun h => h d1, fun h => h hok, hm, (by rw [hTs]; omega : (enT m c q).size ≤ 9223372036854775807), hm, hisF⟩
          · refine ih ⟨((_, _), _, _), ?_, hl, ?_, ?_⟩ ?_ _ _
            · show 0 ≤ rbin .add .i64 p 1 ∧ rbin .add .i64 p 1 ≤ xs.length
              rw [e1]; omega
            · show wn ++ [D.pair (.str c) (.str q)] = goods (xs.take (rbin .add .i64 p 1).toNat)
              rw [e1, htk, hgs, hwn]
            · show (s ++ enT m c q).data.toList = catB m (wn ++ [D.pair (.str c) (.str q)])
              rw [app_list, hs, catB_snoc, hT, fr1, fr2]
            · show (xs.length - rbin .add .i64 p 1).toNat < (xs.length - p).toNat
              rw [e1]; omega
        · rw [if_neg hok, List.append_nil] at hgs
          have hTe : enT m c q = .empty := by unfold enT; rw [if_neg hok]
          refine run_pa hmix ti_ok tgr_ok 2 true 400 [true] [0, 2, 7, 8, 24, 25, 26] [7, 8, 26] (fun ar lf => by conv => lhs; cbv) (allP ?_) ?_
          · simp only [conj, and_true, Int.ofNat_eq_natCast, arR, rcmp_lss, rcmp_gtr, rcmp_geq, rcmp_leq, rcmp_eql, rcmp_neq, decide_eq_true_eq, decide_eq_false_iff_not, ne_eq, not_true_eq_false, not_false_eq_true, Int.toNat_natCast, List.length_cons, List.length_nil]
            exact ⟨hok, hm, (by rw [hTe]; decide : (enT m c q).size ≤ 9223372036854775807), hm, hisF⟩
          · refine ih ⟨((_, _), _, _), ?_, hl, ?_, hs⟩ ?_ _ _
            · show 0 ≤ rbin .add .i64 p 1 ∧ rbin .add .i64 p 1 ≤ xs.length
              rw [e1]; omega
            · show wn = goods (xs.take (rbin .add .i64 p 1).toNat)
              rw [e1, htk, hgs, hwn]
            · show (xs.length - rbin .add .i64 p 1).toNat < (xs.length - p).toNat
              rw [e1]; omega
      · have hpe : p = xs.length := by omega
        refine run_pa hmix ti_ok tgr_ok 2 false 400 [false, false, false] [2, 7, 8, 16, 17, 18] [17, 18] (fun ar lf => by conv => lhs; cbv) (allP ?_) ?_
        · simp only [conj, and_true, Int.ofNat_eq_natCast, arR, rcmp_lss, rcmp_gtr, rcmp_geq, rcmp_leq, rcmp_eql, rcmp_neq, decide_eq_true_eq, decide_eq_false_iff_not, ne_eq, not_true_eq_false, not_false_eq_true, Int.toNat_natCast, List.length_cons, List.length_nil, hl]
          first | exact ⟨rfl, hlt⟩ | (trace_state; sorry)
        exact parts_run w hm (by omega) hcl hgo hs
    · cases hs
  · cases hs
end Go.Proofs.YtjiciplcdklfcaaDoor
