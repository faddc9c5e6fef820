/- Layer 15: worlds with a defect. Plain Lean. -/
import Derived.Test.YtfodpcpclmnbkaaDoorZPn15
set_option linter.unusedSimpArgs false
set_option linter.unusedVariables false
namespace Go.Proofs.YtfodpcpclmnbkaaDoor
open Go.Fw Go.RowKit
section
variable {t id k : Int} {es : List Ent1} {e : Ent1} {c : Comp}
theorem bad_find {l : List EntP} (h : ¬ ValidW t (ents l)) : findB t id l = false := by unfold findB; rw [decide_eq_false h]; rfl
theorem bad_get (h : ¬ ValidW t es) : getM t id k es = none := if_neg h
theorem bad_set (h : ¬ ValidW t es) : setErr t id c es = 2 := if_neg fun x => h x.1
theorem bad_uns (h : ¬ ValidW t es) : unsErr t id k es = 2 := if_neg h
theorem bad_add (h : ¬ ValidW t es) : addErr t e es = 2 := if_neg fun x => h x.1
theorem bad_rem (h : ¬ ValidW t es) : remErr t id es = 2 := if_neg h
theorem bad_with (h : ¬ ValidW t es) : withM t k es = [] := if_neg h
theorem bad_dup {l : List Ent1} {x y : Ent1} (h : x.id = y.id) : ¬ ValidW t (l ++ [x] ++ [y]) := fun hv => by
  have h1 := hv.up
  unfold Rising at h1
  have := (List.pairwise_append.1 h1).2.2 x (by simp) y (by simp)
  omega
theorem bad_ent (he : e ∈ es) (h : ¬ RightE e) : ¬ ValidW t es := fun hv => h (hv.right e he)
theorem bad_kind {id : Int} {cs : List Comp} : ¬ RightE ⟨id, cs ++ [⟨11, 0, 0, 0, 0⟩]⟩ := fun h => by
  have := (h.fits ⟨11, 0, 0, 0, 0⟩ (by simp)).kind
  simp at this
theorem bad_up {id : Int} {cs : List Comp} : ¬ RightE ⟨id, [⟨10, 0, 0, 0, 0⟩] ++ cs ++ [⟨1, 0, 0, 0, 0⟩]⟩ := fun h => by
  have h1 := h.up
  unfold Rising at h1
  have := (List.pairwise_append.1 h1).2.2 ⟨10, 0, 0, 0, 0⟩ (by simp) ⟨1, 0, 0, 0, 0⟩ (by simp)
  simp at this
theorem bad_id {cs : List Comp} : ¬ RightE ⟨65537, cs⟩ := fun h => by have := h.id; simp at this
theorem last_cut {α : Type} (d : α) {l : List α} {i : Nat} (h : l.length = i + 1) : l = l.take i ++ [l.getD i d] := by
  have := take_snoc (d := d) (l := l) (k := i) (by omega)
  rw [← this, List.take_of_length_le (by omega)]
end
end Go.Proofs.YtfodpcpclmnbkaaDoor
