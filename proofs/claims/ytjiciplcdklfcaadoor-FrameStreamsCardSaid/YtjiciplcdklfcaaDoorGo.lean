import Derived.Test.YtjiciplcdklfcaaDoorGr
set_option linter.unusedSimpArgs false
set_option linter.unusedVariables false
namespace Go.Proofs.YtjiciplcdklfcaaDoor
open Go Go.Eng Go.Proofs Go.RowKit
attribute [local irreducible] CallOk HOk Run TIok rbin rcmp run1 updF shfF blitF
attribute [local irreducible] hdE hdC hdN hdS deE deC deP deTo sumV needF nextF feedH feedN

def tgq (lf : LG6) : Tbl := tbL [(9, sAwakeF lf.toLG5.toLG4), (22, sRFeed lf.toLG5), (25, sRNext lf.toLG5)] [(16, nH (hNewS lf.toLG5.toLG4)), (18, nH (hFeed lf.toLG5.toLG4)), (19, nH (hNext lf.toLG5.toLG4)), (24, nH (hCloneS lf.toLG5.toLG4)), (23, nH (hStands lf))]
theorem tgq_ok : TblOk Tryd.prog (tgq lg6) := tbL_ok (List.forall_mem_cons.2 ⟨awakef_ok, List.forall_mem_cons.2 ⟨rfeed_ok, List.forall_mem_cons.2 ⟨rnext_ok, nofun⟩⟩⟩) (List.forall_mem_cons.2 ⟨news_ok.nH, List.forall_mem_cons.2 ⟨feed_ok.nH, List.forall_mem_cons.2 ⟨next_ok.nH, List.forall_mem_cons.2 ⟨clone_ok2.nH, List.forall_mem_cons.2 ⟨stands_ok.nH, nofun⟩⟩⟩⟩⟩)
def sLStr (lf : LG6) : ESpec := fun l => match l with
  | [.one (.int .u32 m), .one (.dat s xs none)] => if shEq s (.two .str (.two (.int .i64) .bool)) then some (.a (.one (.bool true)), [lf.layOk m 4, lf.parts xs]) else none
  | _ => none
set_option maxRecDepth 100000 in
set_option maxHeartbeats 8000000 in
theorem lstr_ok : CallOk Tryd.prog 5 (sLStr lg6) := by
  refine .of_run (hc := (tgq lg6).hc) Tryd.func5 rfl (by kernel_rfl) (by kernel_rfl) fun xs v ps hs hp w => ?_
  unfold sLStr at hs
  split at hs
  · rename_i m s xs
    split at hs
    · rename_i hsh
      obtain rfl := shEq_eq hsh
      clear hsh
      cases hs
      have hm : lg6.layOk m 4 := hp (lg6.layOk m 4) (by simp)
      obtain ⟨hlen, hel⟩ : partsOk xs := hp (lg6.parts xs) (by simp)
      clear hp
      have held0 : lg6.held .empty := (by decide : ByteArray.empty.size ≤ 32816)
      refine run_pa hmix ti_ok tgq_ok 0 false 400 [false] [5, 6, 31, 32, 33] [33] (fun ar lf => by conv => lhs; cbv) (allP ?_) ?_
      · simp only [conj, and_true, Int.ofNat_eq_natCast, arR, rcmp_lss, rcmp_gtr, rcmp_geq, rcmp_leq, rcmp_eql, rcmp_neq, decide_eq_true_eq, decide_eq_false_iff_not, ne_eq, not_true_eq_false, not_false_eq_true, Int.toNat_natCast, List.length_cons, List.length_nil]
        rfl
      refine Run.loop (ι := {p : (Int × Int) × ByteArray × Int × Int // (0 ≤ p.1.1 ∧ p.1.1 ≤ xs.length) ∧ p.1.2 = xs.length ∧ p.2.1.size ≤ 32816})
        (fun i => ([.any, .any, .any, .any, .any, .a (.one (.ptr 0 (.lit 0))), .a (.one (.ptr 1 (.lit 0))), .any, .any, .any, .any, .any, .any, .any, .any, .any, .any, .any, .any, .any, .any, .any, .any, .any, .any, .any, .any, .any, .any, .any, .any, .a (.one (.dat (.two .str (.two (.int .i64) .bool)) xs none)), .a (.one (.int .i64 i.1.1.2)), .a (.one (.int .i64 i.1.1.1)), .any, .any, .any, .any, .any, .any, .any, .any, .any, .any, .any, .any, .any, .any, .any, .any, .any, .any, .any, .any, .any, .any, .any, .any, .any, .any, .any, .any, .any, .any, .any, .any, .any, .any, .any, .any, .any, .any, .any, .any, .any, .any, .any, .any, .any, .any, .any, .any, .any, .any, .any, .any, .any, .any, .any, .any, .any, .any, .any, .any, .any, .any, .any, .any, .any, .any, .any, .any, .any, .any, .any, .any, .any, .any, .any, .any, .any, .any, .any, .any, .any, .any, .any, .any], [some ⟨false, .lst [.int .u32 m, .str i.1.2.1, .int .i64 i.1.2.2.1, .int .i64 i.1.2.2.2]⟩, some ⟨false, .lst [.int .u32 m, .str i.1.2.1, .int .i64 i.1.2.2.1, .int .i64 i.1.2.2.2]⟩]))
        (fun i => (xs.length - i.1.1.1).toNat) ⟨((0, _), .empty, 0, 0), by simp only; omega, rfl, (by decide : ByteArray.empty.size ≤ 32816)⟩ ?_
      rintro ⟨⟨⟨p, len⟩, h, b, t⟩, hp, hl, hh⟩ ih
      try simp only at hp hl hh
      by_cases hlt : p < xs.length
      · have e1 : rbin .add .i64 p 1 = p + 1 := addi (by omega) (by omega)
        have hmem : xs.getD p.toNat (.int 0) ∈ xs := by
          have h : p.toNat < xs.length := by omega
          rw [List.getD_eq_getElem?_getD, List.getElem?_eq_getElem h]; exact List.getElem_mem h
        obtain ⟨tx, n, cp, hd, htx⟩ := hel _ hmem
        refine run_pa hmix ti_ok tgq_ok 999 false 9 [true] [5, 6, 8, 31, 32, 33] [] (fun ar lf => by conv => lhs; cbv) (allP ?_) ?_
        · simp only [conj, and_true, Int.ofNat_eq_natCast, arR, rcmp_lss, rcmp_gtr, rcmp_geq, rcmp_leq, rcmp_eql, rcmp_neq, decide_eq_true_eq, decide_eq_false_iff_not, ne_eq, not_true_eq_false, not_false_eq_true, Int.toNat_natCast, List.length_cons, List.length_nil, hl]
          first | omega | (trace_state; sorry)
        refine Run.fam3 (ι := {d : D // d = xs.getD p.toNat (.int 0)}) (fun i => ([.any, .any, .any, .any, .any, .a (.one (.ptr 0 (.lit 0))), .a (.one (.ptr 1 (.lit 0))), .any, .a (.one (.ptr 2 (.lit 0))), .any, .any, .any, .any, .any, .any, .any, .any, .any, .any, .any, .any, .any, .any, .any, .any, .any, .any, .any, .any, .any, .any, .a (.one (.dat (.two .str (.two (.int .i64) .bool)) xs none)), .a (.one (.int .i64 len)), .a (.one (.int .i64 p)), .any, .any, .any, .any, .any, .any, .any, .any, .any, .any, .any, .any, .any, .any, .any, .any, .any, .any, .any, .any, .any, .any, .any, .any, .any, .any, .any, .any, .any, .any, .any, .any, .any, .any, .any, .any, .any, .any, .any, .any, .any, .any, .any, .any, .any, .any, .any, .any, .any, .any, .any, .any, .any, .any, .any, .any, .any, .any, .any, .any, .any, .any, .any, .any, .any, .any, .any, .any, .any, .any, .any, .any, .any, .any, .any, .any, .any, .any, .any, .any, .any, .any, .any, .any], [some ⟨false, .lst [.int .u32 m, .str h, .int .i64 b, .int .i64 t]⟩, some ⟨false, .lst [.int .u32 m, .str h, .int .i64 b, .int .i64 t]⟩, some ⟨false, .prt [.v (.two .str (.two (.int .i64) .bool)) i.1]⟩])) ⟨xs.getD p.toNat (.int 0), rfl⟩ ?_
        rintro ⟨d, hd2⟩
        rw [hd] at hd2
        subst hd2
        cases cp with
        | false =>
          refine run_pa hmix ti_ok tgq_ok 2 false 400 [false, false, false] [5, 6, 31, 32, 33, 77, 78] [78] (fun ar lf => by conv => lhs; cbv) (allP ?_) ?_
          · simp only [conj, and_true, Int.ofNat_eq_natCast, arR, rcmp_lss, rcmp_gtr, rcmp_geq, rcmp_leq, rcmp_eql, rcmp_neq, decide_eq_true_eq, decide_eq_false_iff_not, ne_eq, not_true_eq_false, not_false_eq_true, Int.toNat_natCast, List.length_cons, List.length_nil]
            exact ⟨trivial, rfl, rfl, rfl, rfl, rfl, feed_held hh, hm, trivial, hh, htx, hh, htx⟩
          refine Run.loop (ι := {q : (Int × Int) × ByteArray × Int × Int // (0 ≤ q.1.1) ∧ q.1.2 ≤ 20 ∧ q.2.1.size ≤ 32816})
            (fun i => ([.any, .any, .any, .any, .any, .a (.one (.ptr 0 (.lit 0))), .a (.one (.ptr 1 (.lit 0))), .any, .any, .any, .any, .any, .any, .any, .any, .any, .any, .any, .any, .any, .any, .any, .any, .any, .any, .any, .any, .any, .any, .any, .any, .a (.one (.dat (.two .str (.two (.int .i64) .bool)) xs none)), .a (.one (.int .i64 len)), .a (.one (.int .i64 p)), .any, .any, .any, .any, .any, .any, .any, .any, .any, .any, .any, .any, .any, .any, .any, .any, .any, .any, .any, .any, .any, .any, .any, .any, .any, .any, .any, .any, .any, .any, .any, .any, .any, .any, .any, .any, .any, .any, .any, .any, .any, .any, .any, .a (.one (.int .i64 i.1.1.2)), .a (.one (.int .i64 i.1.1.1)), .any, .any, .any, .any, .any, .any, .any, .any, .any, .any, .any, .any, .any, .any, .any, .any, .any, .any, .any, .any, .any, .any, .any, .any, .any, .any, .any, .any, .any, .any, .any, .any, .any, .any, .any, .any, .any, .any, .any], [some ⟨false, .lst [.int .u32 m, .str i.1.2.1, .int .i64 i.1.2.2.1, .int .i64 i.1.2.2.2]⟩, some ⟨false, .lst [.int .u32 m, .str i.1.2.1, .int .i64 i.1.2.2.1, .int .i64 i.1.2.2.2]⟩]))
            (fun i => (i.1.1.2 - i.1.1.1).toNat) ⟨((0, _), _, _, _), by simp only; omega, ?_, ?_⟩ ?_
          · show arR.mn (arR.mx n 0) 20 ≤ 20
            show (if _ < _ then _ else _) ≤ (20 : Int)
            split <;> omega
          · show (feedH h b tx).size ≤ 32816
            exact feed_held hh
          rintro ⟨⟨⟨q, K⟩, h2, b2, t2⟩, hq, hK, hh2⟩ ih2
          try simp only at hq hK hh2
          have hn2 := next_held (m := m) (b := b2) (t := t2) hh2
          by_cases hqk : q < K
          · have e2 : rbin .add .i64 q 1 = q + 1 := addi (by omega) (by omega)
            refine run_pa hmix ti_ok tgq_ok 6 true 400 [true, false, false, false, false] [5, 6, 31, 32, 33, 77, 78] [78] (fun ar lf => by conv => lhs; cbv) (allP ?_) ?_
            · simp only [conj, and_true, Int.ofNat_eq_natCast, arR, rcmp_lss, rcmp_gtr, rcmp_geq, rcmp_leq, rcmp_eql, rcmp_neq, decide_eq_true_eq, decide_eq_false_iff_not, ne_eq, not_true_eq_false, not_false_eq_true, Int.toNat_natCast, List.length_cons, List.length_nil]
              refine ⟨rfl, rfl, rfl, rfl, rfl, hn2, hm, trivial, ?_, ?_, hh2, hm, hh2, hm, hqk⟩
              · simp only [beq_self_eq_true, Bool.not_true]
              · simp only [beq_self_eq_true, List.all_cons, List.all_nil, id_eq, Bool.and_true, Bool.not_true]
            · refine ih2 ⟨((_, _), _, _, _), ?_, hK, hn2⟩ ?_ _ _
              · show 0 ≤ rbin .add .i64 q 1
                rw [e2]; omega
              · show (K - rbin .add .i64 q 1).toNat < (K - q).toNat
                rw [e2]; omega
          · refine run_pa hmix ti_ok tgq_ok 2 false 400 [false] [5, 6, 31, 32, 33] [33] (fun ar lf => by conv => lhs; cbv) (allP ?_) ?_
            · simp only [conj, and_true, Int.ofNat_eq_natCast, arR, rcmp_lss, rcmp_gtr, rcmp_geq, rcmp_leq, rcmp_eql, rcmp_neq, decide_eq_true_eq, decide_eq_false_iff_not, ne_eq, not_true_eq_false, not_false_eq_true, Int.toNat_natCast, List.length_cons, List.length_nil]
              omega
            · refine ih ⟨((_, _), _, _, _), ?_, hl, hh2⟩ ?_ _ _
              · show 0 ≤ rbin .add .i64 p 1 ∧ rbin .add .i64 p 1 ≤ xs.length
                rw [e1]; omega
              · show (xs.length - rbin .add .i64 p 1).toNat < (xs.length - p).toNat
                rw [e1]; omega
        | true =>
          refine run_pa hmix ti_ok tgq_ok 2 false 400 [false, false, true, false] [5, 6, 31, 32, 33, 77, 78] [78] (fun ar lf => by conv => lhs; cbv) (allP ?_) ?_
          · simp only [conj, and_true, Int.ofNat_eq_natCast, arR, rcmp_lss, rcmp_gtr, rcmp_geq, rcmp_leq, rcmp_eql, rcmp_neq, decide_eq_true_eq, decide_eq_false_iff_not, ne_eq, not_true_eq_false, not_false_eq_true, Int.toNat_natCast, List.length_cons, List.length_nil]
            exact ⟨feed_held (feed_held hh), hm, feed_held hh, (by decide : (⟨⟨[111, 116, 104, 101, 114, 32, 98, 121, 116, 101, 115]⟩⟩ : ByteArray).size ≤ 9223372036854775807), rfl, rfl, rfl, rfl, rfl, feed_held hh, hm, trivial, rfl, rfl, rfl, rfl, rfl, feed_held hh, hm, trivial, hh, htx, hh, htx⟩
          refine Run.loop (ι := {q : (Int × Int) × ByteArray × Int × Int // (0 ≤ q.1.1) ∧ q.1.2 ≤ 20 ∧ q.2.1.size ≤ 32816})
            (fun i => ([.any, .any, .any, .any, .any, .a (.one (.ptr 0 (.lit 0))), .a (.one (.ptr 1 (.lit 0))), .any, .any, .any, .any, .any, .any, .any, .any, .any, .any, .any, .any, .any, .any, .any, .any, .any, .any, .any, .any, .any, .any, .any, .any, .a (.one (.dat (.two .str (.two (.int .i64) .bool)) xs none)), .a (.one (.int .i64 len)), .a (.one (.int .i64 p)), .any, .any, .any, .any, .any, .any, .any, .any, .any, .any, .any, .any, .any, .any, .any, .any, .any, .any, .any, .any, .any, .any, .any, .any, .any, .any, .any, .any, .any, .any, .any, .any, .any, .any, .any, .any, .any, .any, .any, .any, .any, .any, .any, .a (.one (.int .i64 i.1.1.2)), .a (.one (.int .i64 i.1.1.1)), .any, .any, .any, .any, .any, .any, .any, .any, .any, .any, .any, .any, .any, .any, .any, .any, .any, .any, .any, .any, .any, .any, .any, .any, .any, .any, .any, .any, .any, .any, .any, .any, .any, .any, .any, .any, .any, .any, .any], [some ⟨false, .lst [.int .u32 m, .str i.1.2.1, .int .i64 i.1.2.2.1, .int .i64 i.1.2.2.2]⟩, some ⟨false, .lst [.int .u32 m, .str i.1.2.1, .int .i64 i.1.2.2.1, .int .i64 i.1.2.2.2]⟩]))
            (fun i => (i.1.1.2 - i.1.1.1).toNat) ⟨((0, _), _, _, _), by simp only; omega, ?_, ?_⟩ ?_
          · show arR.mn (arR.mx n 0) 20 ≤ 20
            show (if _ < _ then _ else _) ≤ (20 : Int)
            split <;> omega
          · show (feedH h b tx).size ≤ 32816
            exact feed_held hh
          rintro ⟨⟨⟨q, K⟩, h2, b2, t2⟩, hq, hK, hh2⟩ ih2
          try simp only at hq hK hh2
          have hn2 := next_held (m := m) (b := b2) (t := t2) hh2
          by_cases hqk : q < K
          · have e2 : rbin .add .i64 q 1 = q + 1 := addi (by omega) (by omega)
            refine run_pa hmix ti_ok tgq_ok 6 true 400 [true, false, false, false, false] [5, 6, 31, 32, 33, 77, 78] [78] (fun ar lf => by conv => lhs; cbv) (allP ?_) ?_
            · simp only [conj, and_true, Int.ofNat_eq_natCast, arR, rcmp_lss, rcmp_gtr, rcmp_geq, rcmp_leq, rcmp_eql, rcmp_neq, decide_eq_true_eq, decide_eq_false_iff_not, ne_eq, not_true_eq_false, not_false_eq_true, Int.toNat_natCast, List.length_cons, List.length_nil]
              refine ⟨rfl, rfl, rfl, rfl, rfl, hn2, hm, trivial, ?_, ?_, hh2, hm, hh2, hm, hqk⟩
              · simp only [beq_self_eq_true, Bool.not_true]
              · simp only [beq_self_eq_true, List.all_cons, List.all_nil, id_eq, Bool.and_true, Bool.not_true]
            · refine ih2 ⟨((_, _), _, _, _), ?_, hK, hn2⟩ ?_ _ _
              · show 0 ≤ rbin .add .i64 q 1
                rw [e2]; omega
              · show (K - rbin .add .i64 q 1).toNat < (K - q).toNat
                rw [e2]; omega
          · refine run_pa hmix ti_ok tgq_ok 2 false 400 [false] [5, 6, 31, 32, 33] [33] (fun ar lf => by conv => lhs; cbv) (allP ?_) ?_
            · simp only [conj, and_true, Int.ofNat_eq_natCast, arR, rcmp_lss, rcmp_gtr, rcmp_geq, rcmp_leq, rcmp_eql, rcmp_neq, decide_eq_true_eq, decide_eq_false_iff_not, ne_eq, not_true_eq_false, not_false_eq_true, Int.toNat_natCast, List.length_cons, List.length_nil]
              omega
            · refine ih ⟨((_, _), _, _, _), ?_, hl, hh2⟩ ?_ _ _
              · show 0 ≤ rbin .add .i64 p 1 ∧ rbin .add .i64 p 1 ≤ xs.length
                rw [e1]; omega
              · show (xs.length - rbin .add .i64 p 1).toNat < (xs.length - p).toNat
                rw [e1]; omega
      · refine run_ex hmix ti_ok tgq_ok 999 false 400 [false] (fun ar lf => by conv => lhs; cbv) (allP ?_) ?_
        · simp only [conj, and_true, Int.ofNat_eq_natCast, arR, rcmp_lss, rcmp_gtr, rcmp_geq, rcmp_leq, rcmp_eql, rcmp_neq, decide_eq_true_eq, decide_eq_false_iff_not, ne_eq, not_true_eq_false, not_false_eq_true, Int.toNat_natCast, List.length_cons, List.length_nil, hl]
          omega
        · exact Run.ret ti_ok rfl rfl (.a (.lbool rfl))
    · cases hs
  · cases hs
end Go.Proofs.YtjiciplcdklfcaaDoor
