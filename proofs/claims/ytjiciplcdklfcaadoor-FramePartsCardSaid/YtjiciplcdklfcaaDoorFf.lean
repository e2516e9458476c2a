import Derived.Test.YtjiciplcdklfcaaDoorFe
set_option linter.unusedSimpArgs false
set_option linter.unusedVariables false
namespace Go.Eng
open Go
section
variable {P : Program} {hc : FuncId → Bool} {W0 : World} {m0 : Nat} {fn : Func} {R : V → Heap → Prop}
/-- a slice that is nil as an empty one with a room that lies nowhere -/
theorem Run.room {t : List V} {h : Heap} {T : List Item} {o : List Prop} {s : List Bool} (i : Nat) (sh : Sh) (hi : t[i]? = some (.a (.one .nsl))) (hm : m0 ≤ h.length)
    (hr : Run P hc W0 m0 fn R ⟨t.set i (.a (.one (.dat sh [] (some h.length)))), h ++ [some ⟨false, .tail⟩], T, [], []⟩) : Run P hc W0 m0 fn R ⟨t, h, T, o, s⟩ := by
  intro hok hm0 ρ tmps w b cs hT hH
  have h1 := (hH.pad 1).tailVoid (nm := h.length) (by simp) hm
  have e : (h ++ List.replicate 1 none).set h.length (some ⟨false, .tail⟩) = h ++ [some ⟨false, .tail⟩] := by simp
  rw [e] at h1
  refine .ext (Ext.void (nm := h.length)) (hr hok (by simp only [List.length_append]; omega) (ρ.void h.length) tmps w b cs ⟨by rw [hT.1]; simp, fun j x hx => ?_⟩ h1)
  simp only at hx hT
  rw [List.getElem?_set] at hx
  by_cases hij : i = j
  · subst hij
    rw [if_pos rfl] at hx
    by_cases hl : i < t.length
    · rw [if_pos hl] at hx
      simp only [Option.some.injEq] at hx
      subst hx
      obtain ⟨u, h1, h2⟩ := hT.2 i _ hi
      exact ⟨u, h1, .inl ⟨h2, rfl⟩⟩
    · rw [if_neg hl] at hx; cases hx
  · rw [if_neg hij] at hx
    obtain ⟨u, h1, h2⟩ := hT.2 j x hx
    exact ⟨u, h1, h2.ext (Ext.void (ρ := ρ) (nm := h.length)).toSub⟩
/-- a truth that says something -/
theorem Run.tri {t : List V} {h : Heap} {K : List Item} {x y : Code} {o : List Prop} {s : List Bool} {i : Nat} {p q : Prop} (hi : t[i]? = some (.a (.one (.tri p q))))
    (h1 : p → Run P hc W0 m0 fn R ⟨t, h, .code x :: K, [], []⟩) (h2 : q → Run P hc W0 m0 fn R ⟨t, h, .code y :: K, [], []⟩) : Run P hc W0 m0 fn R ⟨t, h, .code (.cond (.tmp i) x y) :: K, o, s⟩ := by
  intro hok hm0 ρ tmps w b cs hT hH
  simp only [itemsOk_cons, itemOk, codeOk, Bool.and_eq_true] at hok
  obtain ⟨u, e1, c, rfl, hp, hq⟩ := hT.2 i _ hi
  have hev : (⟨tmps, []⟩ : Act).eval (.tmp i) = .bool c := by
    simp only [Act.eval]
    simp [e1]
  refine .of_steps (.one (step_cond (t := c) hev)) ?_
  cases c
  · exact h2 (hq rfl) (by simp only [itemsOk_cons, itemOk, Bool.and_eq_true]; exact ⟨hok.1.2, hok.2⟩) hm0 ρ tmps w b cs hT hH
  · exact h1 (hp rfl) (by simp only [itemsOk_cons, itemOk, Bool.and_eq_true]; exact ⟨hok.1.1, hok.2⟩) hm0 ρ tmps w b cs hT hH
def namesV : V → List Nat
  | .a x => namesA x
  | .tup xs => xs.flatMap namesA
  | .any => []
def autoB (m0 : Nat) (keep : List Nat) (c : Cfg) : List Nat := clo c.heap 6 (addAll (List.range m0) (keep.flatMap fun i => namesV (c.tmps.getD i .any)))
def packA (m0 : Nat) (keep ns : List Nat) (c : Cfg) : Option Cfg := packC m0 (autoB m0 keep c) keep ns c
/-- an evaluation, and what is kept of its end: the blocks that the kept slots reach -/
theorem run_pa {Λ : Type} {ti : TypeId → TI} (hm : P.follows .mixedOrders = true) (hti : TIok P ti) {tb : Λ → Tbl} {l0 : Λ} (htbl : TblOk P (tb l0)) (d : Nat) (u : Bool) (n : Nat) (hints : List Bool) (keep ns : List Nat) {t : List V} {h : Heap} {T : List Item} {o : List Prop} {s : List Bool} {F : Ar → Λ → Cfg}
    (he : ∀ ar l, packA m0 keep ns (exec ar arR ti (tb l) d u n ⟨t, h, T, [], hints⟩) = some (F ar l)) (hq : ∀ q ∈ (F arR l0).obs, q) (hr : Run P (tb l0).hc W0 m0 fn R ⟨(F arR l0).tmps, (F arR l0).heap, (F arR l0).todo, [], []⟩) : Run P (tb l0).hc W0 m0 fn R ⟨t, h, T, o, s⟩ := by
  have he := he arR l0
  unfold packA packC at he
  split at he
  · rename_i hb
    simp only [Bool.and_eq_true] at hb
    split at he
    · rename_i bs hB
      simp only [Option.some.injEq] at he
      rw [← he] at hq hr
      exact Run.exec hm hti htbl d u n hints rfl hq (Run.cut _ keep ns (nodupB_sem hb.2) hb.1 hB hr)
    · cases he
  · cases he
end
end Go.Eng
