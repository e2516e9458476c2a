import Derived.Test.YtegcdnjihnpolaaOi
import Derived.Test.YtegcdnjihnpolaaOj
import Derived.Test.YtegcdnjihnpolaaUb
set_option linter.unusedSimpArgs false
set_option linter.unusedVariables false
namespace Go.Eng
open Go
def sLawT (l : LY) : ESpec := fun a => match a with
  | [.agg (.ints .u64 (.lit 4) f), .one (.int .u64 n), .one (.str s)] => some (.a (.one (.lbool true)), [l.w.t.lf.bd f, l.w.t.lf.u64 n, l.w.p.sfits s])
  | _ => none
end Go.Eng
namespace Go.Proofs.Ytegcdnjihnpolaa
open Go Go.Eng Go.Proofs Go.RowKit
theorem go_wrong {s : ByteArray} : ∀ k i a, (goP s k i a).2 ≠ -1 → 0 ≤ (goP s k i a).2 ∧ (goP s k i a).1 = 0
  | 0, i, a, h => absurd rfl h
  | k + 1, i, a, h => by
    by_cases hb : pbad s i a
    · rw [go_bad hb]; exact ⟨Int.natCast_nonneg i, rfl⟩
    · rw [go_on hb] at h ⊢
      exact go_wrong k (i + 1) _ h
theorem parse_wrong {s : ByteArray} (h : (parseP s).2 ≠ -1) : 0 ≤ (parseP s).2 ∧ (parseP s).1 = 0 := by
  unfold parseP at h ⊢
  split
  · simp
  · rename_i h0
    rw [if_neg h0] at h
    exact go_wrong _ _ _ h
theorem pv_byte (x : Int) (h : 0 ≤ x ∧ x < (18446744073709551616 : Int)) : pv 256 (fun j => x / p2 (8 * j) % 256) 8 = x := by
  simp only [pv]
  rw [show p2 (8 * 0) = 1 by decide, show p2 (8 * 1) = 256 by decide, show p2 (8 * 2) = 65536 by decide, show p2 (8 * 3) = 16777216 by decide, show p2 (8 * 4) = 4294967296 by decide, show p2 (8 * 5) = 1099511627776 by decide, show p2 (8 * 6) = 281474976710656 by decide, show p2 (8 * 7) = 72057594037927936 by decide,
    show (256 : Int) ^ 0 = 1 by decide, show (256 : Int) ^ 1 = 256 by decide, show (256 : Int) ^ 2 = 65536 by decide, show (256 : Int) ^ 3 = 16777216 by decide, show (256 : Int) ^ 4 = 4294967296 by decide, show (256 : Int) ^ 5 = 1099511627776 by decide, show (256 : Int) ^ 6 = 281474976710656 by decide, show (256 : Int) ^ 7 = 72057594037927936 by decide]
  omega
theorem of_bytes {f : F} (hf : bd f) : val f = V32 (byteW f) := by
  refine bpart_all fun k hk => ?_
  have h1 := pv_byte (f k) (hf k hk)
  unfold bpart
  rw [show min (32 - 8 * k) 8 = 8 by omega]
  refine h1.symm.trans (pv_congr fun j hj => ?_)
  show f k / p2 (8 * j) % 256 = f ((8 * k + j) / 8) / p2 (8 * ((8 * k + j) % 8)) % 256
  rw [show (8 * k + j) / 8 = k by omega, show (8 * k + j) % 8 = j by omega]
attribute [local irreducible] CallOk HOk Run Mid TIok rbin rcmp run1 words val updF shfF blitF strOf textOf ndig goP parseP pdig pv bpart V32 hexc hexN rhexN byteW turnF hexS
def tqw (l : LY) : Tbl := tbL [(17, sAwake), (61, sText l.w.t), (87, sText l.w.t), (88, sWHex l), (89, sWHex l), (90, sBytes l), (91, sBytes l), (92, sOfW l.h), (93, sFrom l.w.t.lf), (94, sLow l.h.ln.l5), (60, sParse l.w.p), (95, sParse2 l.w.p)] []
theorem lhl5 : lhR.ln.l5 = l5R := rfl
theorem tqw_ok : TblOk Try.prog (tqw lyR) := tbL_ok (by simpa [lyw, lyh, lwt, lwp, ltlf, lhl5] using ⟨awake_ok, text_ok, rtext_ok, whex_ok, rhex_ok, bytes_ok, rbytes_ok, of_ok, from_ok, low_ok, parse_ok, rparse_ok⟩) (by simp)
theorem sEq_self (s : ByteArray) : (!arR.sEq s s) = false := by
  show (!(s.toList == s.toList)) = false
  rw [beq_self_eq_true]; rfl
theorem of_lEq {f : F} (hf : bd f) : (!arR.lEq [lhR.ofW (lyR.bytes f) 0, lhR.ofW (lyR.bytes f) 1, lhR.ofW (lyR.bytes f) 2, lhR.ofW (lyR.bytes f) 3] [f 0, f 1, f 2, f 3]) = false := by
  rw [lEq4 (g := f) fun j hj => ?_]
  · rfl
  · show words (V32 (byteW f)) j = f j
    rw [← of_bytes hf, words_val hf j hj]
theorem from_lEq {n : Int} (h : 0 ≤ n ∧ n < (18446744073709551616 : Int)) : (!arR.lEq [lfR.wfrom n 0, lfR.wfrom n 1, lfR.wfrom n 2, lfR.wfrom n 3] [n, 0, 0, 0]) = false := by
  refine congrArg (fun b => !b) (lEq4 (f := lfR.wfrom n) (g := fun j => if j = 0 then n else 0) fun j hj => ?_)
  show words n j = _
  have hb : bd (fun j => if j = 0 then n else 0) := bd.of (by simpa using h) (by simp) (by simp) (by simp)
  have := words_val hb j hj
  rw [one_val] at this
  exact this
set_option maxRecDepth 100000 in
theorem texts_ok : CallOk Try.prog 14 (sLawT lyR) := by
  refine .of_run (hc := (tqw lyR).hc) Try.func14 rfl (by kernel_rfl) (by kernel_rfl) fun xs v ps hs hp w => ?_
  unfold sLawT at hs
  split at hs
  · rename_i f n s
    cases hs
    have hf : bd f := hp (lfR.bd f) (by simp [lyw, lwt, ltlf])
    have hn : 0 ≤ n ∧ n < (18446744073709551616 : Int) := hp (lfR.u64 n) (by simp [lyw, lwt, ltlf])
    have hs : lpR.sfits s := hp (lpR.sfits s) (by simp [lyw, lwp])
    clear hp
    have hb := hf.at
    have hvf : val f = f 0 + (18446744073709551616 : Int) * f 1 + (340282366920938463463374607431768211456 : Int) * f 2 + (6277101735386680763835789423207666416102355444464034512896 : Int) * f 3 := by
      unfold val; omega
    refine share ?X ?T (ι := {p : F × Int × Int × F × Int × Bool // p.1 = lpR.pv s ∧ p.2.1 = lpR.pat s ∧ p.2.2.1 = lpR.pe s ∧ p.2.2.2.1 = lpR.pv s ∧ p.2.2.2.2.1 = lpR.pat2 s ∧ p.2.2.2.2.2 = rcmp .geq (lpR.pat2 s) 0})
      (fun p => (List.replicate 10 .any ++ [.a (.one (.ptr 0 (.lit 0))), .a (.one (.int .i64 p.1.2.1)), .a (.one (.int .i64 p.1.2.2.1)), .a (.one (.ptr 1 (.lit 0))), .a (.one (.int .i64 p.1.2.2.2.2.1))] ++ List.replicate 87 .any ++ [.a (.one (.bool p.1.2.2.2.2.2))] ++ List.replicate 23 .any, [some (K4 p.1.1), some (K4 p.1.2.2.2.1)])) ?_ ?_
    rotate_left 2
    · intro tail
      refine run_ex hmix ti_ok tqw_ok 99 false (6 + 794) [false, false, false, false, false] (fun ar lf => exec_stage (by conv => lhs; cbv) (by conv => lhs; cbv)) (allP ?_) ?_
      · simp only [conj]
        repeat (first | exact trivial | refine ⟨by first | exact hf | exact hn | exact fun j _ => byteW_bd f j | exact sEq_self _ | exact nl_self _ | exact of_lEq hf | exact from_lEq hn, ?_⟩)
      refine Run.pack [0] [2, 3, 7, 8] (bs := [K4 f]) (by decide) rfl rfl ?_
      refine Run.fam3 (ι := {p : Int × Bool // p.1 = (if val f < (18446744073709551616 : Int) then val f else 0) ∧ p.2 = decide (val f < (18446744073709551616 : Int))})
        (fun p => ([.any, .any, .a (.one (.str s)), .a (.one (.ptr 0 (.lit 0))), .any, .any, .any, .a (.one (.int .u64 p.1.1)), .a (.one (.bool p.1.2))] ++ List.replicate 117 .any, [some (K4 f)])) ⟨(_, _), rfl, rfl⟩ ?_
      rintro ⟨⟨lo, lb⟩, hlo, hlb⟩
      simp only at hlo hlb
      by_cases h1 : f 1 = 0
      · have q1 : rcmp .eql (f 1) 0 = true := by rw [rcmp_eql]; exact decide_eq_true h1
        by_cases h2 : f 2 = 0
        · have q2 : rcmp .eql (f 2) 0 = true := by rw [rcmp_eql]; exact decide_eq_true h2
          by_cases h3 : f 3 = 0
          · have q3 : rcmp .eql (f 3) 0 = true := by rw [rcmp_eql]; exact decide_eq_true h3
            have e0 : val f = f 0 := by omega
            have eb : lb = true := by rw [hlb]; exact decide_eq_true (by omega)
            have el : lo = f 0 := by rw [hlo, if_pos (by omega), e0]
            have r1 : (!(lb == rcmp .eql (f 3) 0)) = false := by rw [eb, q3]; rfl
            have r2 : rcmp .neq lo (f 0) = false := by rw [el]; exact neq_self _
            have r3 : (!rcmp .eql (f 3) 0) = false := by rw [q3]; rfl
            refine run_ex hmix ti_ok tqw_ok 99 false 800 [true, true, false, true, false, false] (fun ar lf => by conv => lhs; cbv) (allP ?_) ?_
            · simp only [conj]
              repeat (first | exact trivial | refine ⟨by first | exact q1 | exact q2 | exact q3 | exact r1 | exact r2 | exact r3 | exact hs, ?_⟩)
            refine Run.pack [1, 2] [10, 11, 12, 13, 14, 102] (bs := [K4 (lpR.pv s), K4 (lpR.pv s)]) (by decide) rfl rfl ?_
            exact tail ⟨(_, _, _, _, _, _), rfl, rfl, rfl, rfl, rfl, rfl⟩
          · have q3 : rcmp .eql (f 3) 0 = false := by rw [rcmp_eql]; exact decide_eq_false h3
            have eb : lb = false := by rw [hlb]; exact decide_eq_false (by omega)
            have el : lo = 0 := by rw [hlo, if_neg (by omega)]
            have r1 : (!(lb == rcmp .eql (f 3) 0)) = false := by rw [eb, q3]; rfl
            have r2 : rcmp .neq lo 0 = false := by rw [el]; exact neq_self _
            have r3 : (!rcmp .eql (f 3) 0) = true := by rw [q3]; rfl
            refine run_ex hmix ti_ok tqw_ok 99 false 800 [true, true, false, false, true, false] (fun ar lf => by conv => lhs; cbv) (allP ?_) ?_
            · simp only [conj]
              repeat (first | exact trivial | refine ⟨by first | exact q1 | exact q2 | exact q3 | exact r1 | exact r2 | exact r3 | exact hs, ?_⟩)
            refine Run.pack [1, 2] [10, 11, 12, 13, 14, 102] (bs := [K4 (lpR.pv s), K4 (lpR.pv s)]) (by decide) rfl rfl ?_
            exact tail ⟨(_, _, _, _, _, _), rfl, rfl, rfl, rfl, rfl, rfl⟩
        · have q2 : rcmp .eql (f 2) 0 = false := by rw [rcmp_eql]; exact decide_eq_false h2
          have eb : lb = false := by rw [hlb]; exact decide_eq_false (by omega)
          have el : lo = 0 := by rw [hlo, if_neg (by omega)]
          have r1 : (!(lb == false)) = false := by rw [eb]; rfl
          have r2 : rcmp .neq lo 0 = false := by rw [el]; exact neq_self _
          refine run_ex hmix ti_ok tqw_ok 99 false 800 [true, false, false, false] (fun ar lf => by conv => lhs; cbv) (allP ?_) ?_
          · simp only [conj]
            repeat (first | exact trivial | refine ⟨by first | exact q1 | exact q2 | exact r1 | exact r2 | exact hs, ?_⟩)
          refine Run.pack [1, 2] [10, 11, 12, 13, 14, 102] (bs := [K4 (lpR.pv s), K4 (lpR.pv s)]) (by decide) rfl rfl ?_
          exact tail ⟨(_, _, _, _, _, _), rfl, rfl, rfl, rfl, rfl, rfl⟩
      · have q1 : rcmp .eql (f 1) 0 = false := by rw [rcmp_eql]; exact decide_eq_false h1
        have eb : lb = false := by rw [hlb]; exact decide_eq_false (by omega)
        have el : lo = 0 := by rw [hlo, if_neg (by omega)]
        have r1 : (!(lb == false)) = false := by rw [eb]; rfl
        have r2 : rcmp .neq lo 0 = false := by rw [el]; exact neq_self _
        refine run_ex hmix ti_ok tqw_ok 99 false 800 [false, false, false] (fun ar lf => by conv => lhs; cbv) (allP ?_) ?_
        · simp only [conj]
          repeat (first | exact trivial | refine ⟨by first | exact q1 | exact r1 | exact r2 | exact hs, ?_⟩)
        refine Run.pack [1, 2] [10, 11, 12, 13, 14, 102] (bs := [K4 (lpR.pv s), K4 (lpR.pv s)]) (by decide) rfl rfl ?_
        exact tail ⟨(_, _, _, _, _, _), rfl, rfl, rfl, rfl, rfl, rfl⟩
    · rintro ⟨⟨px, at_, e_, py, wr, gb⟩, hpx, hat, he, hpy, hwr, hgb⟩
      simp only at hpx hat he hpy hwr hgb
      by_cases hw : (parseP s).2 = -1
      · have o1 : gb = false := by rw [hgb, rcmp_geq]; exact decide_eq_false (by show ¬ (parseP s).2 ≥ 0; rw [hw]; decide)
        have o2 : rcmp .eql at_ 0 = true := eql_yes (by rw [hat]; show (if (parseP s).2 = -1 then 0 else (parseP s).2) = 0; rw [if_pos hw])
        have o3 : rcmp .eql e_ 0 = true := eql_yes (by rw [he]; show (if (parseP s).2 = -1 then 0 else 41) = 0; rw [if_pos hw])
        have o4 : arR.lEq [px 0, px 1, px 2, px 3] [py 0, py 1, py 2, py 3] = true := lEq4 fun j _ => by rw [hpx, hpy]
        refine run_ex hmix ti_ok tqw_ok 99 false 800 [false, true, true] (fun ar lf => by conv => lhs; cbv) (allP ?_) ?_
        · simp only [conj]
          repeat (first | exact trivial | refine ⟨by first | exact hs | exact o1 | exact o2 | exact o3 | exact o4, ?_⟩)
        · exact Run.ret ti_ok rfl rfl (VLe.yes o3)
      · have h0 : 0 ≤ (parseP s).2 ∧ (parseP s).1 = 0 := parse_wrong hw
        have o1 : gb = true := by rw [hgb, rcmp_geq]; exact decide_eq_true h0.1
        have o2 : rcmp .eql at_ wr = true := eql_yes (by rw [hat, hwr]; show (if (parseP s).2 = -1 then 0 else (parseP s).2) = (parseP s).2; rw [if_neg hw])
        have o3 : rcmp .eql e_ 41 = true := eql_yes (by rw [he]; show (if (parseP s).2 = -1 then 0 else 41) = 41; rw [if_neg hw])
        have o4 : arR.lEq [px 0, px 1, px 2, px 3] [0, 0, 0, 0] = true := lEq4 (g := fun _ => 0) fun j hj => by
          rw [hpx]
          show words (parseP s).1 j = 0
          rw [h0.2]; exact (zero_words j hj).symm
        refine run_ex hmix ti_ok tqw_ok 99 false 800 [true, true, true] (fun ar lf => by conv => lhs; cbv) (allP ?_) ?_
        · simp only [conj]
          repeat (first | exact trivial | refine ⟨by first | exact hs | exact o1 | exact o2 | exact o3 | exact o4, ?_⟩)
        · exact Run.ret ti_ok rfl rfl (VLe.yes o3)
  · cases hs
end Go.Proofs.Ytegcdnjihnpolaa
