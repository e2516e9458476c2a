import Derived.Test.YtlbllaocdilafaaQu
import Derived.Test.YtlbllaocdilafaaFg
import Derived.Test.YtlbllaocdilafaaXl
set_option linter.unusedSimpArgs false
set_option linter.unusedVariables false
namespace Go.Eng
open Go
theorem okD_two {a b : Sh} {d : D} (h : okD (.two a b) d) : ∃ x y, d = .pair x y ∧ okD a x ∧ okD b y := by
  cases d with
  | pair x y => exact ⟨x, y, rfl, h.1, h.2⟩
  | _ => exact absurd h id
theorem okD_int {k : IntKind} {d : D} (h : okD (.int k) d) : ∃ n : Int, d = .int n := by
  cases d with
  | int n => exact ⟨n, rfl⟩
  | _ => exact absurd h id
theorem okD_bool {d : D} (h : okD .bool d) : ∃ n, d = .bool n := by
  cases d with
  | bool n => exact ⟨n, rfl⟩
  | _ => exact absurd h id
theorem okD_str {d : D} (h : okD .str d) : ∃ n, d = .str n := by
  cases d with
  | str n => exact ⟨n, rfl⟩
  | _ => exact absurd h id
theorem okD_arr {k : IntKind} {m : Nat} {d : D} (h : okD (.arr k m) d) : ∃ l, d = .row l ∧ l.length = m := by
  cases d with
  | row l => exact ⟨l, rfl, h.1⟩
  | _ => exact absurd h id
theorem okD_sl {s : Sh} {d : D} (h : okD (.sl s) d) : ∃ l, d = .sl l ∧ l.length ≤ maxLen ∧ ∀ x ∈ l, okD s x := by
  cases d with
  | sl l => exact ⟨l, rfl, h.1, h.2⟩
  | _ => exact absurd h id
theorem okD_nrm : ∀ {s : Sh} {d : D}, okD s d → nrmD s d = d := by
  intro s
  induction s with
  | int k => intro d h; obtain ⟨n, rfl⟩ := okD_int h; rfl
  | bool => intro d h; obtain ⟨n, rfl⟩ := okD_bool h; rfl
  | str => intro d h; obtain ⟨n, rfl⟩ := okD_str h; rfl
  | arr k m => intro d h; obtain ⟨l, rfl, e⟩ := okD_arr h; exact congrArg D.row (row_mk e)
  | two a b iha ihb =>
    intro d h
    obtain ⟨x, y, rfl, hx, hy⟩ := okD_two h
    show D.pair (nrmD a x) (nrmD b y) = _
    rw [iha hx, ihb hy]
  | sl s ih => intro d h; obtain ⟨l, rfl, -⟩ := okD_sl h; rfl
theorem okD_net {d : D} (h : okD NS d) : ∃ n : Nt, d = n.D ∧ n.ip.length = 16 := by
  obtain ⟨x1, y1, rfl, h1, g1⟩ := okD_two h
  obtain ⟨x2, y2, rfl, h2, g2⟩ := okD_two g1
  obtain ⟨x3, y3, rfl, h3, g3⟩ := okD_two g2
  obtain ⟨n1, rfl⟩ := okD_int h1
  obtain ⟨n2, rfl⟩ := okD_int h2
  obtain ⟨n3, rfl, e⟩ := okD_arr h3
  obtain ⟨n4, rfl⟩ := okD_int g3
  exact ⟨⟨n1, n2, n3, n4⟩, rfl, e⟩
def lenC (d : D) : Prop := (∀ s l, (cellsD arR MS d)[47]? = some (.dat s l none) → l.length * 40 ≤ 140737488351232) ∧ (∀ s l, (cellsD arR MS d)[48]? = some (.dat s l none) → l.length * 36 ≤ 140737488351232) ∧ (∀ s l, (cellsD arR MS d)[49]? = some (.dat s l none) → l.length * 32 ≤ 140737488351232) ∧ (∀ s l, (cellsD arR MS d)[114]? = some (.dat s l none) → l.length * 16 ≤ 140737488351232) ∧ (∀ s l, (cellsD arR MS d)[117]? = some (.dat s l none) → l.length * 8 ≤ 140737488351232) ∧ (∀ s l, (cellsD arR MS d)[118]? = some (.dat s l none) → l.length * 24 ≤ 140737488351232) ∧ (∀ s l, (cellsD arR MS d)[119]? = some (.dat s l none) → l.length * 8 ≤ 140737488351232) ∧ (∀ s l, (cellsD arR MS d)[120]? = some (.dat s l none) → l.length * 16 ≤ 140737488351232)
theorem prt_rel {ρ : Ren} {s : Sh} {d : D} {v : Value} (h : ARel ρ (.agg (.lst (cellsD arR s d))) v) : ARel ρ (.agg (.prt [.v s d])) v := by
  obtain ⟨arr, rfl, h1, h2⟩ := h
  refine ⟨arr, rfl, ?_, fun j x hx => h2 j x ?_⟩
  · rw [h1]; simp [G.len, cellsP, List.append_nil]
  · simpa [G.at, cellsP, List.append_nil] using hx
set_option maxRecDepth 100000 in
set_option maxHeartbeats 4000000 in
theorem fit_of {d : D} (h : okD MS d) (hl : lenC d) : mFit d := by
  obtain ⟨x0, y0, rfl, h0, g0⟩ := okD_two h
  obtain ⟨x1, y1, rfl, h1, g1⟩ := okD_two g0
  obtain ⟨x2, y2, rfl, h2, g2⟩ := okD_two g1
  obtain ⟨x3, y3, rfl, h3, g3⟩ := okD_two g2
  obtain ⟨x4, y4, rfl, h4, g4⟩ := okD_two g3
  obtain ⟨x5, y5, rfl, h5, g5⟩ := okD_two g4
  obtain ⟨x6, y6, rfl, h6, g6⟩ := okD_two g5
  obtain ⟨x7, y7, rfl, h7, g7⟩ := okD_two g6
  obtain ⟨x8, y8, rfl, h8, g8⟩ := okD_two g7
  obtain ⟨x9, y9, rfl, h9, g9⟩ := okD_two g8
  obtain ⟨x10, y10, rfl, h10, g10⟩ := okD_two g9
  obtain ⟨x11, y11, rfl, h11, g11⟩ := okD_two g10
  obtain ⟨x12, y12, rfl, h12, g12⟩ := okD_two g11
  obtain ⟨x13, y13, rfl, h13, g13⟩ := okD_two g12
  obtain ⟨x14, y14, rfl, h14, g14⟩ := okD_two g13
  obtain ⟨x15, y15, rfl, h15, g15⟩ := okD_two g14
  obtain ⟨x16, y16, rfl, h16, g16⟩ := okD_two g15
  obtain ⟨x17, y17, rfl, h17, g17⟩ := okD_two g16
  obtain ⟨x18, y18, rfl, h18, g18⟩ := okD_two g17
  obtain ⟨x19, y19, rfl, h19, g19⟩ := okD_two g18
  obtain ⟨x20, y20, rfl, h20, g20⟩ := okD_two g19
  obtain ⟨x21, y21, rfl, h21, g21⟩ := okD_two g20
  obtain ⟨a0, rfl⟩ := okD_int h0
  obtain ⟨a1, rfl⟩ := okD_int h1
  obtain ⟨a2, rfl⟩ := okD_int h2
  obtain ⟨a3, rfl⟩ := okD_int h3
  obtain ⟨a4, rfl⟩ := okD_int h4
  obtain ⟨a5, rfl, e5⟩ := okD_net h5
  obtain ⟨a6, rfl, e6⟩ := okD_net h6
  obtain ⟨a7, rfl⟩ := okD_str h7
  obtain ⟨a8, rfl⟩ := okD_int h8
  obtain ⟨a9, rfl⟩ := okD_bool h9
  obtain ⟨a10, rfl⟩ := okD_bool h10
  obtain ⟨a11, rfl, e11, n11⟩ := okD_sl h11
  obtain ⟨a12, rfl, e12, n12⟩ := okD_sl h12
  obtain ⟨a13, rfl, e13, n13⟩ := okD_sl h13
  obtain ⟨a14, rfl, e14⟩ := okD_arr h14
  obtain ⟨a15, rfl, e15⟩ := okD_arr h15
  obtain ⟨a16, rfl, e16, n16⟩ := okD_sl h16
  obtain ⟨a17, rfl⟩ := okD_str h17
  obtain ⟨a18, rfl⟩ := okD_str h18
  obtain ⟨a19, rfl, e19, n19⟩ := okD_sl h19
  obtain ⟨a20, rfl, e20, n20⟩ := okD_sl h20
  obtain ⟨a21, rfl, e21, n21⟩ := okD_sl h21
  obtain ⟨a22, rfl, e22, n22⟩ := okD_sl g21
  have hl : lenC (Ms.D ⟨a0, a1, a2, a3, a4, a5, a6, a7, a8, a9, a10, a11, a12, a13, a14, a15, a16, a17, a18, a19, a20, a21, a22⟩) := hl
  obtain ⟨l11, l12, l13, l16, l19, l20, l21, l22⟩ := hl
  replace l11 : a11.length * 40 ≤ 140737488351232 := l11 _ a11 rfl
  replace l12 : a12.length * 36 ≤ 140737488351232 := l12 _ a12 rfl
  replace l13 : a13.length * 32 ≤ 140737488351232 := l13 _ a13 rfl
  replace l16 : a16.length * 16 ≤ 140737488351232 := l16 _ a16 rfl
  replace l19 : a19.length * 8 ≤ 140737488351232 := l19 _ a19 rfl
  replace l20 : a20.length * 24 ≤ 140737488351232 := l20 _ a20 rfl
  replace l21 : a21.length * 8 ≤ 140737488351232 := l21 _ a21 rfl
  replace l22 : a22.length * 16 ≤ 140737488351232 := l22 _ a22 rfl
  refine ⟨⟨a0, a1, a2, a3, a4, a5, a6, a7, a8, a9, a10, a11, a12, a13, a14, a15, a16, a17, a18, a19, a20, a21, a22⟩, rfl, ⟨e5, e6, e14, e15, (by omega : a11.length ≤ 4611686018427387904), (by omega : a12.length ≤ 4611686018427387904), (by omega : a13.length ≤ 4611686018427387904), (by omega : a16.length ≤ 4611686018427387904), (by omega : a19.length ≤ 4611686018427387904), (by omega : a20.length ≤ 4611686018427387904), (by omega : a21.length ≤ 4611686018427387904), (by omega : a22.length ≤ 4611686018427387904)⟩, fun x hx => okD_nrm (n11 x hx), l11, fun x hx => okD_nrm (n12 x hx), l12, fun x hx => okD_nrm (n13 x hx), l13, fun x hx => okD_nrm (n16 x hx), l16, fun x hx => okD_nrm (n19 x hx), l19, fun x hx => okD_nrm (n20 x hx), l20, fun x hx => okD_nrm (n21 x hx), l21, fun x hx => okD_nrm (n22 x hx), l22⟩
end Go.Eng
namespace Go.Proofs.Ytlbllaocdilafaa
open Go Go.Eng Go.Proofs Go.RowKit
attribute [local irreducible] CallOk HOk Run TIok rbin rcmp run1 updF shfF blitF

end Go.Proofs.Ytlbllaocdilafaa
