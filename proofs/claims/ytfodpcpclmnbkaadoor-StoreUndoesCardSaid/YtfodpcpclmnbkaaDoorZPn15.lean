/- Layer 15: the next number; what is valid behind a change. Plain Lean. -/
import Derived.Test.YtfodpcpclmnbkaaDoorZPu15
set_option linter.unusedSimpArgs false
set_option linter.unusedVariables false
namespace Go.Proofs.YtfodpcpclmnbkaaDoor
open Go.Fw Go.RowKit
theorem nextI_props : ∀ (es : List Ent1) (j : Int), Rising Ent1.id es → (∀ e ∈ es, j ≤ e.id) → (j ≤ nextI es j ∧ nextI es j ≤ j + es.length) ∧ (∀ k, j ≤ k → k < nextI es j → ∃ e ∈ es, e.id = k) ∧ ∀ e ∈ es, e.id ≠ nextI es j
  | [], j, _, _ => ⟨by unfold nextI; simp, fun k h1 h2 => by unfold nextI at h2; omega, fun e he => by cases he⟩
  | e :: l, j, hr, hj => by
    obtain ⟨hr1, hr2⟩ := List.pairwise_cons.1 hr
    unfold nextI
    by_cases he : e.id = j
    · rw [if_pos he]
      have hj' : ∀ x ∈ l, j + 1 ≤ x.id := fun x hx => by have := hr1 x hx; omega
      obtain ⟨⟨h1, h2⟩, h3, h4⟩ := nextI_props l (j + 1) hr2 hj'
      refine ⟨⟨by omega, by rw [List.length_cons]; omega⟩, fun k hk1 hk2 => ?_, fun x hx => ?_⟩
      · by_cases hkj : k = j
        · exact ⟨e, List.mem_cons_self .., by omega⟩
        · obtain ⟨x, hx, hxk⟩ := h3 k (by omega) hk2
          exact ⟨x, List.mem_cons_of_mem _ hx, hxk⟩
      · rcases List.mem_cons.1 hx with rfl | hx
        · omega
        · exact h4 x hx
    · rw [if_neg he]
      refine ⟨⟨by omega, by omega⟩, fun k hk1 hk2 => by omega, fun x hx => ?_⟩
      have h0 := hj e (List.mem_cons_self ..)
      rcases List.mem_cons.1 hx with rfl | hx
      · exact he
      · have := hr1 x hx; omega
theorem thg_some {es : List Ent1} (h : Rising Ent1.id es) {k : Int} {e : Ent1} (he : e ∈ es) (hk : e.id = k) : thg k es = some e := (find_key h).2 ⟨he, hk⟩
theorem thg_none {es : List Ent1} {k : Int} (h : ∀ e ∈ es, e.id ≠ k) : thg k es = none := List.find?_eq_none.2 fun e he => by have := h e he; simpa using this
theorem findB_thg {t id : Int} {l : List EntP} (h : ValidW t (ents l)) : findB t id l = (thg id (ents l)).isSome := by
  unfold findB
  rw [decide_eq_true h, Bool.true_and, thg_find ((rising_ents l).1 h.up)]
  cases hasK idE id l <;> rfl
theorem add_ok {t : Int} {e : Ent1} {es : List Ent1} (hv : ValidW t es) (he : RightE e) (hn : thg e.id es = none) (hl : es.length < 64) : ValidW t (addL e es) ∧ (addL e es).length = es.length + 1 := by
  have hlen : (addL e es).length ≤ es.length + 1 := insK_len hv.up
  refine ⟨⟨hv.tick, by omega, rising_insK hv.up, fun x hx => ?_⟩, ?_⟩
  · rcases mem_insK.1 hx with rfl | ⟨h, _⟩
    · exact he
    · exact hv.right x h
  · unfold addL insK
    rw [List.length_append, List.length_cons]
    have h0 := fnd_none (key := Ent1.id) (l := es) (k := e.id) hn
    have h1 : es.filter (fun x => decide (x.id < e.id)) ++ es.filter (fun x => decide (e.id < x.id)) = es := by
      refine rising_ext (key := Ent1.id) ?_ hv.up fun x => ?_
      · unfold Rising
        rw [List.pairwise_append]
        refine ⟨rising_filter hv.up _, rising_filter hv.up _, fun a ha b hb => ?_⟩
        have h1 := (List.mem_filter.1 ha).2
        have h2 := (List.mem_filter.1 hb).2
        simp only [decide_eq_true_eq] at h1 h2
        omega
      · simp only [List.mem_append, List.mem_filter, decide_eq_true_eq]
        constructor
        · rintro (⟨h, _⟩ | ⟨h, _⟩) <;> exact h
        · intro h
          have := h0 x h
          by_cases h2 : x.id < e.id
          · exact .inl ⟨h, h2⟩
          · exact .inr ⟨h, by omega⟩
    have h2 := congrArg List.length h1
    rw [List.length_append] at h2
    omega
end Go.Proofs.YtfodpcpclmnbkaaDoor
