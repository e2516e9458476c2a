import Derived.Test.YtegcdnjihnpolaaEe
set_option linter.unusedSimpArgs false
set_option linter.unusedVariables false
namespace Go.Eng
open Go Go.RowKit

def cOf : Value → C
  | .int k n => .lit k n
  | .bool b => .lbool b
  | .string s => .str s
  | .pointer none => .nil
  | .slice none 0 0 => .nsl
  | v => .raw v

theorem cOf_rel {ρ : Ren} {v : Value} (h : one1 v = true) : CRel ρ (cOf v) v := by
  unfold cOf
  split <;> simp_all [CRel]

def mkTD : TypeDesc → TD
  | .int k => .int k
  | .slice e => .slice e
  | .array n e => .arr n e
  | .struct fs => .strct (fs.toList.map fun f => (f.offset, f.type))
  | .bool => .bool
  | .string => .str
  | .pointer e => .ptr e
  | _ => .other

theorem mkTD_rel (d : TypeDesc) : TDRel d (mkTD d) := by
  cases d <;> simp [TDRel, mkTD]

def isZ (k : IntKind) : Value → Bool
  | .int k' 0 => kindEq k k'
  | _ => false

/-- an array's zero: of integers, or of whatever -/
def mkG (arr : Bool) (cs : Array Value) : G :=
  match arr, cs.toList with
  | true, .int k n :: l => if (Value.int k n :: l).all (isZ k) then .ints k (.lit cs.size) (fun _ => 0) else .lst (cs.toList.map cOf)
  | _, _ => .lst (cs.toList.map cOf)

theorem isZ_eq {k : IntKind} {v : Value} (h : isZ k v = true) : v = .int k 0 := by
  unfold isZ at h
  split at h
  · rw [kindEq_eq h]
  · cases h

theorem mkG_rel {ρ : Ren} {arr : Bool} {cs : Array Value} (h : cs.toList.all one1 = true) : GRel ρ (mkG arr cs) cs := by
  have key : GRel ρ (.lst (cs.toList.map cOf)) cs := by
    refine ⟨by simp [G.len], fun j x hx => ?_⟩
    simp only [G.at, List.getElem?_map, Option.map_eq_some_iff] at hx
    obtain ⟨v, hv, rfl⟩ := hx
    exact ⟨v, by simpa using hv, cOf_rel (List.all_eq_true.1 h v (List.mem_of_getElem? hv))⟩
  unfold mkG
  split
  · rename_i k n l e
    split
    · rename_i hz
      rw [← e] at hz
      refine ⟨rfl, fun j x hx => ?_⟩
      simp only [G.at] at hx
      by_cases hj : j < cs.size
      · rw [if_pos (show j < (N.lit cs.size).val from hj)] at hx
        simp only [Option.some.injEq] at hx
        subst hx
        refine ⟨cs[j], Array.getElem?_eq_getElem hj, ?_⟩
        rw [isZ_eq (List.all_eq_true.1 hz cs[j] (by simp))]
        rfl
      · rw [if_neg (show ¬ j < (N.lit cs.size).val from hj)] at hx; cases hx
    · exact key
  · exact key

def zOk : Value → Bool
  | .agg cs => cs.toList.all one1
  | .tuple _ => false
  | _ => true

def isArr : TypeDesc → Bool
  | .array _ _ => true
  | _ => false

def mkZero (d : TypeDesc) : Value → A
  | .agg cs => .agg (mkG (isArr d) cs)
  | v => .one (cOf v)

theorem mkZero_rel {ρ : Ren} {d : TypeDesc} {v : Value} (h : zOk v = true) : ARel ρ (mkZero d v) v := by
  unfold mkZero
  split
  · rename_i cs; exact ⟨cs, rfl, mkG_rel h⟩
  · rename_i hne
    refine cOf_rel ?_
    cases v <;> simp_all [zOk, one1]

def fieldsOk (P : Program) : TypeDesc → Bool
  | .struct fs => fs.all fun f => (P.info? f.type).isSome
  | _ => true

/-- a type's row, off the program -/
def mkTI (P : Program) (t : TypeId) : TI :=
  match P.info? t, P.underlying t with
  | some i, some d =>
    match i.zero with
    | some v => { known := zOk v && fieldsOk P d, td := mkTD d, size := i.size, agg := aggOf d, zero := some (mkZero d v), plain := !(P.eqGuardType P.depth t) }
    | none => { known := fieldsOk P d, td := mkTD d, size := i.size, agg := aggOf d, zero := none, plain := !(P.eqGuardType P.depth t) }
  | _, _ => { known := false, td := .other, size := 0, agg := false, zero := none, plain := false }

theorem mkTI_ok {P : Program} {t : TypeId} (h : (mkTI P t).known = true) : TOk P t (mkTI P t) := by
  unfold mkTI at h ⊢
  split at h
  · rename_i i d hi hd
    have hf : fieldsOk P d = true → ∀ fs, P.underlying t = some (.struct fs) → ∀ f ∈ fs, ∃ i, P.info? f.type = some i := by
      intro hf fs hds f hfm
      rw [hd] at hds
      simp only [Option.some.injEq] at hds
      subst hds
      simp only [fieldsOk, Array.all_eq_true_iff_forall_mem] at hf
      exact Option.isSome_iff_exists.1 (hf f hfm)
    split at h
    · rename_i v hv
      simp only [Bool.and_eq_true] at h
      refine ⟨⟨i, hi, rfl, fun z hz => ⟨v, hv, ?_⟩⟩, ⟨d, hd, mkTD_rel d, rfl⟩, hf h.2, fun hp => by simpa using hp⟩
      simp only [Option.some.injEq] at hz
      rw [← hz]; exact mkZero_rel h.1
    · rename_i hv
      exact ⟨⟨i, hi, rfl, fun z hz => by cases hz⟩, ⟨d, hd, mkTD_rel d, rfl⟩, hf h, fun hp => by simpa using hp⟩
  · cases h

def noTI : TI := { known := false, td := .other, size := 0, agg := false, zero := none, plain := false }

def tiOf (L : List (Nat × TI)) (t : Nat) : TI :=
  match L.lookup t with
  | some x => x
  | none => noTI

theorem lookup_mem' {α : Type} {t : Nat} {x : α} : ∀ {L : List (Nat × α)}, L.lookup t = some x → (t, x) ∈ L
  | [], e => by cases e
  | (y, z) :: l, e => by
    simp only [List.lookup] at e
    split at e
    · rename_i hb
      simp only [Option.some.injEq] at e
      have : t = y := by simpa using hb
      simp [this, e]
    · exact List.mem_cons_of_mem _ (lookup_mem' e)

theorem tiOf_ok {P : Program} {L : List (Nat × TI)} (h : ∀ p ∈ L, TOk P p.1 p.2) : TIok P (tiOf L) := by
  unfold TIok
  intro t hk
  unfold tiOf at hk ⊢
  split at hk
  · rename_i x hx
    exact h _ (lookup_mem' hx)
  · cases hk

theorem TOk.of_eq {P : Program} {t : TypeId} {x : TI} (h : mkTI P t = x) (hk : x.known = true) : TOk P t x := by
  subst h; exact mkTI_ok hk

end Go.Eng
