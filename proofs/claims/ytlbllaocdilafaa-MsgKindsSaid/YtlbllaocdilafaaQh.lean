import Derived.Test.YtlbllaocdilafaaQc
import Derived.Test.YtlbllaocdilafaaQe
import Derived.Test.YtlbllaocdilafaaQg
set_option linter.unusedSimpArgs false
set_option linter.unusedVariables false
namespace Go.Proofs.Ytlbllaocdilafaa
open Go Go.Eng Go.Proofs Go.RowKit
attribute [local irreducible] CallOk HOk Run TIok rbin rcmp run1 updF shfF blitF
set_option maxRecDepth 100000 in
set_option maxHeartbeats 40000000 in
theorem rsame_ok : CallOk Try.prog 35 (sSame lqmR) := by
  refine CallOk.split fun l v ps hs hp => ?_
  unfold sSame at hs
  split at hs
  · rename_i s1 a s2 b
    split at hs
    · rename_i hsh
      cases hs
      have ha : mOk a := hp (lqmR.mOk a) (by simp)
      have hb : mOk b := hp (lqmR.mOk b) (by simp)
      have go : ∀ G : D → D → Prop, G a b → (CallOk Try.prog 35 (sSameG G)) → ∃ s' ps', CallOk Try.prog 35 s' ∧ s' [.agg (.prt [.v s1 a]), .agg (.prt [.v s2 b])] = some (.a (.one (.bool (lqmR.eqD MS a b))), ps') ∧ ∀ p ∈ ps', p := fun G hG h =>
        ⟨sSameG G, [mOk a, mOk b, G a b], h, by simp only [sSameG]; rw [if_pos hsh]; rfl, by simp [ha, hb, hG]⟩
      by_cases c0 : eqD (.int .i64) a.fst! b.fst! = true ∧ eqD (.int .u32) a.snd!.fst! b.snd!.fst! = true ∧ eqD (.int .u64) a.snd!.snd!.fst! b.snd!.snd!.fst! = true ∧ eqD (.int .u64) a.snd!.snd!.snd!.fst! b.snd!.snd!.snd!.fst! = true ∧ eqD (.int .i64) a.snd!.snd!.snd!.snd!.fst! b.snd!.snd!.snd!.snd!.fst! = true ∧ eqD (.two (.int .u32) (.two (.int .u64) (.two (.arr .u8 16) (.int .u16)))) a.snd!.snd!.snd!.snd!.snd!.fst! b.snd!.snd!.snd!.snd!.snd!.fst! = true ∧ eqD (.two (.int .u32) (.two (.int .u64) (.two (.arr .u8 16) (.int .u16)))) a.snd!.snd!.snd!.snd!.snd!.snd!.fst! b.snd!.snd!.snd!.snd!.snd!.snd!.fst! = true ∧ eqD (.str) a.snd!.snd!.snd!.snd!.snd!.snd!.snd!.fst! b.snd!.snd!.snd!.snd!.snd!.snd!.snd!.fst! = true
      rotate_left
      · exact go rS0 c0 rsame_rS0
      obtain ⟨x0, x1, x2, x3, x4, x5, x6, x7⟩ := c0
      by_cases c1 : eqD (.int .u32) a.snd!.snd!.snd!.snd!.snd!.snd!.snd!.snd!.fst! b.snd!.snd!.snd!.snd!.snd!.snd!.snd!.snd!.fst! = true ∧ eqD (.bool) a.snd!.snd!.snd!.snd!.snd!.snd!.snd!.snd!.snd!.fst! b.snd!.snd!.snd!.snd!.snd!.snd!.snd!.snd!.snd!.fst! = true ∧ eqD (.bool) a.snd!.snd!.snd!.snd!.snd!.snd!.snd!.snd!.snd!.snd!.fst! b.snd!.snd!.snd!.snd!.snd!.snd!.snd!.snd!.snd!.snd!.fst! = true ∧ eqD (.arr .u8 32) a.snd!.snd!.snd!.snd!.snd!.snd!.snd!.snd!.snd!.snd!.snd!.snd!.snd!.snd!.fst! b.snd!.snd!.snd!.snd!.snd!.snd!.snd!.snd!.snd!.snd!.snd!.snd!.snd!.snd!.fst! = true
      rotate_left
      · exact go rS1 ⟨x0, x1, x2, x3, x4, x5, x6, x7, c1⟩ rsame_rS1
      obtain ⟨x8, x9, x10, x14⟩ := c1
      by_cases c2 : eqD (.arr .u8 32) a.snd!.snd!.snd!.snd!.snd!.snd!.snd!.snd!.snd!.snd!.snd!.snd!.snd!.snd!.snd!.fst! b.snd!.snd!.snd!.snd!.snd!.snd!.snd!.snd!.snd!.snd!.snd!.snd!.snd!.snd!.snd!.fst! = true ∧ eqD (.str) a.snd!.snd!.snd!.snd!.snd!.snd!.snd!.snd!.snd!.snd!.snd!.snd!.snd!.snd!.snd!.snd!.snd!.fst! b.snd!.snd!.snd!.snd!.snd!.snd!.snd!.snd!.snd!.snd!.snd!.snd!.snd!.snd!.snd!.snd!.snd!.fst! = true ∧ eqD (.str) a.snd!.snd!.snd!.snd!.snd!.snd!.snd!.snd!.snd!.snd!.snd!.snd!.snd!.snd!.snd!.snd!.snd!.snd!.fst! b.snd!.snd!.snd!.snd!.snd!.snd!.snd!.snd!.snd!.snd!.snd!.snd!.snd!.snd!.snd!.snd!.snd!.snd!.fst! = true
      rotate_left
      · exact go rS2 ⟨x0, x1, x2, x3, x4, x5, x6, x7, x8, x9, x10, x14, c2⟩ rsame_rS2
      obtain ⟨x15, x17, x18⟩ := c2
      by_cases d0 : (a.snd!.snd!.snd!.snd!.snd!.snd!.snd!.snd!.snd!.snd!.snd!.fst!).sl!.length = (b.snd!.snd!.snd!.snd!.snd!.snd!.snd!.snd!.snd!.snd!.snd!.fst!).sl!.length ∧ (a.snd!.snd!.snd!.snd!.snd!.snd!.snd!.snd!.snd!.snd!.snd!.snd!.fst!).sl!.length = (b.snd!.snd!.snd!.snd!.snd!.snd!.snd!.snd!.snd!.snd!.snd!.snd!.fst!).sl!.length ∧ (a.snd!.snd!.snd!.snd!.snd!.snd!.snd!.snd!.snd!.snd!.snd!.snd!.snd!.fst!).sl!.length = (b.snd!.snd!.snd!.snd!.snd!.snd!.snd!.snd!.snd!.snd!.snd!.snd!.snd!.fst!).sl!.length ∧ (a.snd!.snd!.snd!.snd!.snd!.snd!.snd!.snd!.snd!.snd!.snd!.snd!.snd!.snd!.snd!.snd!.fst!).sl!.length = (b.snd!.snd!.snd!.snd!.snd!.snd!.snd!.snd!.snd!.snd!.snd!.snd!.snd!.snd!.snd!.snd!.fst!).sl!.length ∧ (a.snd!.snd!.snd!.snd!.snd!.snd!.snd!.snd!.snd!.snd!.snd!.snd!.snd!.snd!.snd!.snd!.snd!.snd!.snd!.fst!).sl!.length = (b.snd!.snd!.snd!.snd!.snd!.snd!.snd!.snd!.snd!.snd!.snd!.snd!.snd!.snd!.snd!.snd!.snd!.snd!.snd!.fst!).sl!.length ∧ (a.snd!.snd!.snd!.snd!.snd!.snd!.snd!.snd!.snd!.snd!.snd!.snd!.snd!.snd!.snd!.snd!.snd!.snd!.snd!.snd!.fst!).sl!.length = (b.snd!.snd!.snd!.snd!.snd!.snd!.snd!.snd!.snd!.snd!.snd!.snd!.snd!.snd!.snd!.snd!.snd!.snd!.snd!.snd!.fst!).sl!.length ∧ (a.snd!.snd!.snd!.snd!.snd!.snd!.snd!.snd!.snd!.snd!.snd!.snd!.snd!.snd!.snd!.snd!.snd!.snd!.snd!.snd!.snd!.fst!).sl!.length = (b.snd!.snd!.snd!.snd!.snd!.snd!.snd!.snd!.snd!.snd!.snd!.snd!.snd!.snd!.snd!.snd!.snd!.snd!.snd!.snd!.snd!.fst!).sl!.length ∧ (a.snd!.snd!.snd!.snd!.snd!.snd!.snd!.snd!.snd!.snd!.snd!.snd!.snd!.snd!.snd!.snd!.snd!.snd!.snd!.snd!.snd!.snd!).sl!.length = (b.snd!.snd!.snd!.snd!.snd!.snd!.snd!.snd!.snd!.snd!.snd!.snd!.snd!.snd!.snd!.snd!.snd!.snd!.snd!.snd!.snd!.snd!).sl!.length
      rotate_left
      · exact go rL ⟨x0, x1, x2, x3, x4, x5, x6, x7, x8, x9, x10, x14, x15, x17, x18, d0⟩ rsame_rL
      obtain ⟨y11, y12, y13, y16, y19, y20, y21, y22⟩ := d0
      exact go rM ⟨x0, x1, x2, x3, x4, x5, x6, x7, x8, x9, x10, x14, x15, x17, x18, y11, y12, y13, y16, y19, y20, y21, y22⟩ rsame_rM
    · cases hs
  · cases hs
end Go.Proofs.Ytlbllaocdilafaa
