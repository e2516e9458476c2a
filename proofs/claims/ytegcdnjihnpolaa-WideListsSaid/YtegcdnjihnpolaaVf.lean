import Derived.Test.YtegcdnjihnpolaaWo
import Derived.ChangeArms
set_option linter.unusedSimpArgs false
set_option linter.unusedVariables false
namespace Go.Eng
open Go Go.RowKit
/-- a slice of integers, an element being es of them: what a call finds -/
def SlIn (k : IntKind) (lo hi : Int) (es : Nat) (w : World) (v : Value) : Prop :=
  v = .slice none 0 0 ∨ ∃ (r o n c : Nat) (f : F), v = .slice (some ⟨r, o, none⟩) n c ∧ n ≤ c ∧ (c : Int) ≤ 9223372036854775807 ∧
    (∃ cs ty fz, w.heap[r]? = some (.cells cs ty fz) ∧ ∀ j, j < es * n → cs[o + j]? = some (.int k (f j))) ∧ ∀ j, j < es * n → lo ≤ f j ∧ f j < hi

theorem cells_get {w : World} {base n : Nat} {a : Addr} {cs : List Value} (h : w.cells? base a n = some cs) : ∀ j, j < n → w.cell? (a.add j) = cs[j]? := by
  unfold World.cells? at h
  split at h
  · intro j hj
    obtain ⟨y, e1, e2⟩ := mapM_some_get h j j (by simp [hj])
    rw [e1, e2]
  · cases h
theorem add_parts (a : Addr) (n : Nat) (hs : a.spot = none) : (a.add n).block = a.block ∧ (a.add n).off = a.off + n ∧ (a.add n).spot = none := by
  unfold Addr.add
  split
  · subst n; exact ⟨rfl, rfl, hs⟩
  · exact ⟨rfl, rfl, rfl⟩
theorem cell_at {w : World} {a : Addr} {c : Array Value} {ty fz} {v : Value} (hs : a.spot = none) (hw : w.heap[a.block]? = some (.cells c ty fz)) {j : Nat} (h : w.cell? (a.add j) = some v) : c[a.off + j]? = some v := by
  unfold World.cell? at h
  obtain ⟨e1, e2, e3⟩ := add_parts a j hs
  rw [e1, hw] at h
  simpa [e2, e3] using h

theorem slice_arg {H : Type} {enc : TypeId × Value → H} {P : Program} {w : World} {base base2 : Nat} {r : Reach} {sp : Nat → Bool} {held : Bool} {v : Value} {d : DataW H} {p : List MemPlace} {t e : TypeId} {k : IntKind} {lo hi : Int} {es : Nat}
    (ht : P.underlying t = some (.slice e)) (hes : P.cellsOf e = es) (h0 : 0 < es)
    (hel : ∀ fuel cs x, DataW.trod enc P w base2 sp held fuel e cs = some x → ∀ j, j < es → ∃ n, cs[j]? = some (.int k n) ∧ lo ≤ n ∧ n < hi)
    (hok : Value.okWide P w r base t v) (h : DataW.Trod enc P w base2 sp held t v d p) : SlIn k lo hi es w v := by
  obtain ⟨fuel, hf⟩ := h
  obtain ⟨va, vl, vc, rfl⟩ := Go.WideShapes.okWide_slice ht hok
  simp only [Value.okWide, ht, Cell.okWide] at hok
  rcases DataW.trod_slice ht hf with ⟨hc, -⟩ | ⟨a, len, cap, elems, rest, n, -, hc, -, -, hl, -, hn, hel2, -, -⟩
  · refine .inl ?_
    simpa [Value.cells] using hc
  · refine .inr ?_
    have hv : Value.slice va vl vc = .slice (some a) len cap := by
      simpa [Value.cells] using hc
    cases hv
    simp only [Cell.ok, ht] at hok
    obtain ⟨-, hcap, -, hspot, row, cells, hsh, -⟩ := hok
    unfold World.shape? at hsh
    split at hsh
    · rename_i cs ty fz hw
      obtain ⟨blk, off, spot⟩ := a
      simp only at hspot
      subst hspot
      have key : ∀ j, j < es * vl → ∃ n, cs[off + j]? = some (.int k n) ∧ lo ≤ n ∧ n < hi := by
        intro j hj
        have hi1 : j / es < vl := by
          rw [Nat.div_lt_iff_lt_mul h0, Nat.mul_comm]; exact hj
        have hi2 : j % es < es := Nat.mod_lt _ h0
        have e1 := hel2 (j / es) hi1
        rw [List.getElem?_eq_getElem (show j / es < elems.length by omega)] at e1
        simp only [Option.bind_eq_some_iff] at e1
        obtain ⟨l, e2, e3⟩ := e1
        obtain ⟨x, e4, e5⟩ := hel _ _ _ e3 (j % es) hi2
        have e6 := cells_get e2 (j % es) (by rw [hes]; exact hi2)
        rw [e4] at e6
        obtain ⟨p1, p2, p3⟩ := add_parts ⟨blk, off, none⟩ (j / es * P.cellsOf e) rfl
        have e7 := cell_at (a := Addr.add ⟨blk, off, none⟩ (j / es * P.cellsOf e)) p3 (by rw [p1]; exact hw) e6
        refine ⟨x, ?_, e5⟩
        have e8 : (Addr.add ⟨blk, off, none⟩ (j / es * P.cellsOf e)).off + j % es = off + j := by
          rw [p2]
          show off + j / es * P.cellsOf e + j % es = off + j
          rw [hes, Nat.add_assoc, Nat.mul_comm, Nat.div_add_mod]
        rw [e8] at e7
        exact e7
      refine ⟨blk, off, vl, vc, fun j => match cs[off + j]? with
        | some (.int _ x) => x
        | _ => 0, rfl, hl, ?_, ⟨cs, ty, fz, hw, fun j hj => ?_⟩, fun j hj => ?_⟩
      · have : IntKind.i64.max = 9223372036854775807 := by decide
        omega
      · obtain ⟨x, e1, -⟩ := key j hj
        simp only [e1]
      · obtain ⟨x, e1, e2⟩ := key j hj
        simp only [e1]; exact e2
    · cases hsh

theorem wide_el {H : Type} {enc : TypeId × Value → H} {P : Program} {w : World} {base2 : Nat} {sp : Nat → Bool} {held : Bool} {t e : TypeId} {k : IntKind} {es : Nat} (ht : P.underlying t = some (.array es e)) (he : P.underlying e = some (.int k)) (hce : P.cellsOf e = 1) :
    ∀ fuel cs x, DataW.trod enc P w base2 sp held fuel t cs = some x → ∀ j, j < es → ∃ n, cs[j]? = some (.int k n) ∧ k.min ≤ n ∧ n < k.max + 1 := by
  intro fuel cs x hf j hj
  obtain ⟨xs, m, -, -, hl, hn, hel⟩ := DataW.trod_array ht hf
  have h1 := hel j hj
  rw [List.getElem?_eq_getElem (show j < xs.length by omega)] at h1
  obtain ⟨n, e1, -, hwf⟩ := DataW.trod_int (k := k) he h1
  refine ⟨n, ?_, ?_⟩
  · rw [hce, Nat.mul_one] at e1
    have e3 : ((cs.drop j).take 1)[0]? = some (Value.int k n) := by rw [e1]; rfl
    rw [List.getElem?_take_of_lt (by decide), List.getElem?_drop] at e3
    simpa using e3
  · have : k.min ≤ n ∧ n ≤ k.max := by simpa [Lit.wf] using hwf
    omega

/-- the heap at a call: what may only be read -/
theorem HRel.start {w : World} (pl : List (Nat × Nat)) (bs : List Blk) (hl : bs.length = pl.length) (hro : ∀ b ∈ bs, b.ro = true)
    (hb : ∀ (n : Nat) (b : Blk) (r o : Nat), bs[n]? = some b → pl[n]? = some (r, o) → BRel (fun n => pl[n]?) b r o w) : HRel w bs.length (fun n => pl[n]?) (bs.map some) w := by
  have get : ∀ (n : Nat) (b : Blk), (bs.map some)[n]? = some (some b) → bs[n]? = some b := by
    intro n b h
    rw [List.getElem?_map, Option.map_eq_some_iff] at h
    obtain ⟨x, h1, h2⟩ := h
    cases h2; exact h1
  refine ⟨rfl, rfl, rfl, Nat.le_refl _, fun _ _ _ => rfl, fun n p hp => ?_, fun n b h => ?_, fun n m r o o' b hne h hr => ?_, fun n r o hn hp => ?_⟩
  · have hn : n < pl.length := (List.getElem?_eq_some_iff.1 hp).1
    exact ⟨bs[n]'(by omega), by simp [show n < bs.length by omega]⟩
  · have h := get n b h
    have hn : n < bs.length := (List.getElem?_eq_some_iff.1 h).1
    have hn2 : n < pl.length := by omega
    exact ⟨(pl[n]'hn2).1, (pl[n]'hn2).2, List.getElem?_eq_getElem hn2, hb n b _ _ h (List.getElem?_eq_getElem hn2)⟩
  · have := hro b (List.mem_of_getElem? (get n b h))
    rw [this] at hr; cases hr
  · have hn2 : n < pl.length := (List.getElem?_eq_some_iff.1 hp).1
    omega
theorem HRel.below {W0 w : World} {m0 : Nat} {ρ : Ren} {h : Heap} (hH : HRel W0 m0 ρ h w) (hro : ∀ (n : Nat) (b : Blk), h[n]? = some (some b) → b.ro = true) : Below W0.heap.size W0 w :=
  ⟨hH.os, hH.tape, hH.output, hH.size, fun k hk => hH.frame k hk fun n b o hb hr => by rw [hro n b hb] at hr; cases hr⟩

section
variable {P : Program} {fn : Func}
/-- a law's call, out of its contract on what it may read -/
theorem calls_true_h {f : FuncId} {s : HSpec} (hc : HOk P f s) {body : Code} (hf : P.funcs[f]? = some fn) (hb : fn.body = some body) (hname : (fn.name == "runtime.NumGoroutine") = false) {las : List A} {lbs : List Blk} {ps : List Prop} (hs : s las lbs = some (.a (.one (.lbool true)), lbs, ps)) (hp : ∀ p ∈ ps, p) (hro : ∀ b ∈ lbs, b.ro = true)
    {ρ : Ren} {args : Array Value} {w : World} (ha : AsRel ρ las args) (hH : HRel w lbs.length ρ (lbs.map some) w) :
    Calls P f args w fun e w' => e = .returned (.bool true) ∧ Below w.heap.size w w' := by
  unfold HOk at hc
  have h := hc las lbs _ lbs ps hs hp ρ args w ha hH { (default : Oper) with dst := some 0 } { tmps := #[undef], defers := [] } (fun a' w' => a'.tmps = #[.bool true] ∧ Below w.heap.size w w') (fun _ _ _ => False) (fun v' w' hv hh => by
    have hv : v' = .bool true := hv
    subst hv
    refine ⟨rfl, hh.below fun n b hnb => ?_⟩
    rw [List.getElem?_map, Option.map_eq_some_iff] at hnb
    obtain ⟨x, h1, h2⟩ := hnb
    cases h2
    exact hro _ (List.mem_of_getElem? h1))
  rw [callFunc_enter hf hb hname, Oper.upon_enter] at h
  refine h.mono fun e w' he => ?_
  cases e with
  | returned v =>
    obtain ⟨h1, h2⟩ := he
    refine ⟨?_, h2⟩
    have h1 : #[v] = #[Value.bool true] := h1
    simp at h1
    rw [h1]
  | panicked c => exact he.elim
  | outgrown => obtain ⟨_, _, h⟩ := he; exact h.elim
end
end Go.Eng
