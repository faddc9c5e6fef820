/- Layer 24: the view of a valid world. Plain Lean. -/
import Derived.Test.YtjefoecnciepmaaDoorZPw24
set_option linter.unusedSimpArgs false
set_option linter.unusedVariables false
namespace Go.Proofs.YtjefoecnciepmaaDoor
open Go.Fw Go.RowKit
theorem pub_bits : ∀ k < 11, decide (bandK .u32 (bitK ((k : Nat) : Int)) 1310 ≠ 0) = decide (k = 1 ∨ k = 2 ∨ k = 3 ∨ k = 4 ∨ k = 8 ∨ k = 10) := by decide +kernel
theorem all_bits : ∀ k < 11, decide (bandK .u32 (bitK ((k : Nat) : Int)) 4294967295 ≠ 0) = decide (1 ≤ k) := by decide +kernel
theorem inMask_pub {c : Comp} (h : 1 ≤ c.kind ∧ c.kind ≤ 10) : inMask 1310 c = decide (c.kind ≠ 5 ∧ c.kind ≠ 6 ∧ c.kind ≠ 7 ∧ c.kind ≠ 9) := by
  unfold inMask
  have := pub_bits c.kind.toNat (by omega)
  rw [show ((c.kind.toNat : Nat) : Int) = c.kind by omega] at this
  rw [this]
  refine decide_eq_decide.2 ?_
  omega
theorem inMask_all {c : Comp} (h : 1 ≤ c.kind ∧ c.kind ≤ 10) : inMask 4294967295 c = true := by
  unfold inMask
  have := all_bits c.kind.toNat (by omega)
  rw [show ((c.kind.toNat : Nat) : Int) = c.kind by omega] at this
  rw [this]
  exact decide_eq_true (by omega)
section
variable {ct t : Int} {es : List Ent1} {e : Ent1}
/-- Which components of an entity the view has. -/
def keepC (ct : Int) (e : Ent1) (c : Comp) : Bool := ownsE ct e || decide (c.kind ≠ 5 ∧ c.kind ≠ 6 ∧ c.kind ≠ 7 ∧ c.kind ≠ 9)
theorem partC_eq (h : RightE e) : partC (maskE ct e) e.comps = e.comps.filter (keepC ct e) := by
  unfold partC
  refine List.filter_congr fun c hc => ?_
  have hk := (h.fits c hc).kind
  unfold maskE keepC
  cases ho : ownsE ct e
  · simp only [Bool.false_eq_true, if_false, Bool.false_or]
    exact inMask_pub hk
  · simp only [if_true, Bool.true_or]
    exact inMask_all hk
theorem compK_filter {k : Int} {p : Comp → Bool} {l : List Comp} (h : ∀ c ∈ l, c.kind = k → p c = true) : compK k (l.filter p) = compK k l := by
  unfold compK
  rw [List.find?_filter]
  induction l with
  | nil => rfl
  | cons x l ih =>
    have hx := h x (List.mem_cons_self ..)
    have ih := ih (fun c hc => h c (List.mem_cons_of_mem _ hc))
    by_cases hk : x.kind = k
    · rw [List.find?_cons_of_pos (by simp [hx hk, hk]), List.find?_cons_of_pos (by simp [hk])]
    · rw [List.find?_cons_of_neg (by simp [hk]), List.find?_cons_of_neg (by simp [hk])]; exact ih
theorem view_comp (h : RightE e) {k : Int} (hk : k = 1 ∨ k = 4) : compK k (viewE ct e).comps = compK k e.comps := by
  unfold viewE
  simp only
  rw [partC_eq h]
  refine compK_filter fun c _ hc => ?_
  unfold keepC
  cases ownsE ct e
  · rw [Bool.false_or]; exact decide_eq_true (by omega)
  · rfl
theorem view_owns (h : RightE e) : ownsE ct (viewE ct e) = ownsE ct e := by
  unfold ownsE
  rw [view_comp h (.inr rfl)]
theorem view_right (h : RightE e) : RightE (viewE ct e) := by
  unfold viewE
  refine ⟨h.id, ?_, fun c hc => h.fits c ?_⟩
  · exact List.Pairwise.filter _ h.up
  · exact (List.mem_filter.1 hc).1
theorem viewL_ok (h : OkI ct t es) : viewL ct t es = (es.filter (seesE ct.toNat (ptsE ct es))).map (viewE ct) := by unfold viewL; rw [if_pos h]
theorem viewT_ok (h : OkI ct t es) : viewT ct t es = t := by unfold viewT; rw [if_pos h]
theorem view_valid (h : ValidW t es) (p : Ent1 → Bool) : ValidW t ((es.filter p).map (viewE ct)) := by
  refine ⟨h.tick, ?_, ?_, fun e he => ?_⟩
  · rw [List.length_map]
    have := List.length_filter_le p es
    have := h.len
    omega
  · unfold Rising
    rw [List.pairwise_map]
    exact List.Pairwise.filter _ h.up
  · obtain ⟨x, hx, rfl⟩ := List.mem_map.1 he
    exact view_right (h.right _ (List.mem_filter.1 hx).1)
theorem own_sees {ps : List Pt} (hc : 1 ≤ ct) (h : ownsE ct e = true) : seesE ct.toNat ps e = true := by
  unfold seesE
  rw [show ((ct.toNat : Nat) : Int) = ct by omega, h]; rfl
/-- Own entities of the view are those of the world. -/
theorem view_own (h : ValidW t es) (hc : 1 ≤ ct) (ps : List Pt) : (((es.filter (seesE ct.toNat ps)).map (viewE ct)).filter (ownsE ct)).map Ent1.id = (es.filter (ownsE ct)).map Ent1.id := by
  rw [List.filter_map, List.map_map]
  have h1 : (es.filter (seesE ct.toNat ps)).filter (ownsE ct ∘ viewE ct) = es.filter (ownsE ct) := by
    rw [List.filter_filter]
    refine List.filter_congr fun e he => ?_
    simp only [Function.comp]
    rw [view_owns (h.right e he)]
    cases ho : ownsE ct e
    · simp
    · rw [own_sees hc ho]; rfl
  rw [h1]
  rfl
/-- What stands in a list's part at the place behind the part of its beginning. -/
theorem flt_at {α : Type} (d : α) (p : α → Bool) : ∀ (l : List α) (j : Nat), j < l.length → p (l.getD j d) = true → ((l.take j).filter p).length < (l.filter p).length ∧ (l.filter p).getD ((l.take j).filter p).length d = l.getD j d
  | [], j, h, _ => by simp at h
  | x :: l, 0, _, hp => by
    have hp : p x = true := hp
    simp [List.filter_cons, hp]
  | x :: l, j + 1, h, hp => by
    obtain ⟨h1, h2⟩ := flt_at d p l j (by simpa using h) hp
    by_cases hx : p x = true
    · simp only [List.take_succ_cons, List.filter_cons, hx, if_true, List.length_cons, List.getD_cons_succ]
      exact ⟨by omega, h2⟩
    · simp only [List.take_succ_cons, List.filter_cons, hx, List.getD_cons_succ]
      simpa using ⟨h1, h2⟩
theorem flt_next {α : Type} (d : α) (p : α → Bool) (l : List α) {k : Nat} (h : k < l.length) : ((l.take (k + 1)).filter p).length = ((l.take k).filter p).length + (if p (l.getD k d) then 1 else 0) := by
  obtain ⟨x, hx⟩ : ∃ x, l.getD k d = x := ⟨_, rfl⟩
  have e1 : l.take (k + 1) = l.take k ++ [x] := by
    rw [List.take_add_one, ← hx]
    simp [List.getD_eq_getElem?_getD, h]
  rw [hx, e1, List.filter_append, List.length_append]
  congr 1
  cases hp : p x <;> simp [hp]
end
end Go.Proofs.YtjefoecnciepmaaDoor
