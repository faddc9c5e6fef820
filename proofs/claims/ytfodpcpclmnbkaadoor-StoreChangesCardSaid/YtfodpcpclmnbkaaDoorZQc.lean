/- Sizes of what the changes of layer 15 make. Plain Lean. -/
import Derived.Test.YtfodpcpclmnbkaaDoorZQb
set_option linter.unusedSimpArgs false
set_option linter.unusedVariables false
namespace Go.Proofs.YtfodpcpclmnbkaaDoor
open Go.Fw Go.RowKit
theorem insK_len2 {α : Type} (key : α → Int) (c : α) (l : List α) : (insK key c l).length ≤ 2 * l.length + 1 := by
  unfold insK
  rw [List.length_append, List.length_cons]
  have h1 := List.length_filter_le (fun x => decide (key x < key c)) l
  have h2 := List.length_filter_le (fun x => decide (key c < key x)) l
  omega
/-- At most 141 entities of at most 29 components. -/
def Small (es : List Ent1) : Prop := es.length ≤ 141 ∧ ∀ e ∈ es, e.comps.length ≤ 29
section
variable {es : List Ent1} (hl : es.length ≤ 70) (h : ∀ e ∈ es, e.comps.length ≤ 14)
include hl h
theorem small_ins {x : Ent1} (hx : x.comps.length ≤ 29) : Small (insK Ent1.id x es) := ⟨by have := insK_len2 Ent1.id x es; omega, fun e he => by
  rcases mem_insK.1 he with rfl | ⟨h1, _⟩
  · exact hx
  · have := h e h1; omega⟩
theorem small_set (id : Int) (c : Comp) : Small (setL id c es) := by
  unfold setL
  cases ht : thg id es with
  | none =>
    show Small es
    exact ⟨by omega, fun e he => by have := h e he; omega⟩
  | some x =>
    have hx := h x (List.mem_of_find?_eq_some ht)
    refine small_ins hl h ?_
    have := insK_len2 kindC c x.comps
    show (insK kindC c x.comps).length ≤ 29
    omega
theorem small_uns (id k : Int) : Small (unsL id k es) := by
  unfold unsL
  cases ht : thg id es with
  | none =>
    show Small es
    exact ⟨by omega, fun e he => by have := h e he; omega⟩
  | some x =>
    have hx := h x (List.mem_of_find?_eq_some ht)
    refine small_ins hl h ?_
    have := List.length_filter_le (fun c => decide (kindC c ≠ k)) x.comps
    show (x.comps.filter fun c => decide (kindC c ≠ k)).length ≤ 29
    omega
theorem small_add {e : Ent1} (he : e.comps.length ≤ 14) : Small (addL e es) := small_ins hl h (by omega)
theorem small_rem (id : Int) : Small (remL id es) := ⟨by
  have := List.length_filter_le (fun e : Ent1 => decide (e.id ≠ id)) es
  show (es.filter fun e => decide (e.id ≠ id)).length ≤ 141
  omega, fun e he => by have := h e (List.mem_filter.1 he).1; omega⟩
end
/-- The sizes of a world that shows small entities. -/
theorem small_sz {L : List EntP} {es : List Ent1} {er : Int} (hL : L.map EntP.e = if er = 0 then es else []) (h : Small es) : Sz L ∧ L.length ≤ 141 ∧ ∀ x ∈ L, x.e.comps.length ≤ 29 := by
  have hn : L.length ≤ 141 := by
    have := congrArg List.length hL
    rw [List.length_map] at this
    rw [this]
    split
    · exact h.1
    · simp
  have hm : ∀ x ∈ L, x.e.comps.length ≤ 29 := fun x hx => by
    have h1 : x.e ∈ L.map EntP.e := List.mem_map_of_mem hx
    rw [hL] at h1
    split at h1
    · exact h.2 _ h1
    · exact absurd h1 List.not_mem_nil
  exact ⟨⟨by omega, fun x hx => by have := hm x hx; omega⟩, hn, hm⟩
end Go.Proofs.YtfodpcpclmnbkaaDoor
