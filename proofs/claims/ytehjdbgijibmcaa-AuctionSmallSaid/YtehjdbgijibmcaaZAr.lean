/- Layer 34 (auction): the reference ends lots one by one, the first one that ends first. Plain Lean. -/
import Derived.Test.YtehjdbgijibmcaaZAt
set_option linter.unusedSimpArgs false
set_option linter.unusedVariables false
namespace Go.Proofs.Ytehjdbgijibmcaa
open Go.Fw Go.RowKit
theorem foldl_head {x : Lot} : ∀ (v s : List Lot), (∀ y ∈ v, x.till ≤ y.till) → v.foldl (fun s x => insK Lot.till x s) (x :: s) = x :: v.foldl (fun s x => insK Lot.till x s) s
  | [], _, _ => rfl
  | y :: v, s, h => by
    have e : insK Lot.till y (x :: s) = x :: insK Lot.till y s := by
      have := h y (by simp)
      simp only [insK]; rw [if_neg (by omega)]
    rw [List.foldl_cons, e, foldl_head v _ (fun z hz => h z (by simp [hz])), List.foldl_cons]
theorem sort_min {u v : List Lot} {x : Lot} (hu : ∀ y ∈ u, x.till < y.till) (hv : ∀ y ∈ v, x.till ≤ y.till) : sortL (u ++ x :: v) = x :: sortL (u ++ v) := by
  unfold sortL
  have e : insK Lot.till x (sortK Lot.till u) = x :: sortK Lot.till u := insK_front fun z hz => hu z (sortK_mem.1 hz)
  have e2 : ∀ l : List Lot, (u ++ l).foldl (fun s x => insK Lot.till x s) [] = l.foldl (fun s x => insK Lot.till x s) (sortK Lot.till u) := fun l => by rw [List.foldl_append]; rfl
  show (u ++ x :: v).foldl (fun s x => insK Lot.till x s) [] = x :: (u ++ v).foldl (fun s x => insK Lot.till x s) []
  rw [e2, e2, List.foldl_cons, e, foldl_head v _ hv]
/-- The reference's choice: of those that end up to the tick, the first one that ends first. -/
structure First (tick : Int) (l : List Lot) (i : Nat) : Prop where
  lt : i < l.length
  ends : (l.getD i Flat.dflt).till ≤ tick
  ahead : ∀ j, j < i → (l.getD j Flat.dflt).till ≤ tick → (l.getD i Flat.dflt).till < (l.getD j Flat.dflt).till
  behind : ∀ j, i < j → j < l.length → (l.getD j Flat.dflt).till ≤ tick → (l.getD i Flat.dflt).till ≤ (l.getD j Flat.dflt).till
theorem split_at {l : List Lot} {i : Nat} (h : i < l.length) : l = l.take i ++ l.getD i Flat.dflt :: l.drop (i + 1) := by
  rw [List.getD_eq_getElem?_getD, List.getElem?_eq_getElem h]
  simp
theorem first_ended {tick : Int} {l : List Lot} {i : Nat} (h : First tick l i) : endedL tick l = l.getD i Flat.dflt :: endedL tick (l.eraseIdx i) ∧ later tick (l.eraseIdx i) = later tick l := by
  obtain ⟨h1, h2, h3, h4⟩ := h
  have hs := split_at h1
  have he : l.eraseIdx i = l.take i ++ l.drop (i + 1) := List.eraseIdx_eq_take_drop_succ l i
  have ha : ∀ y ∈ l.take i, y.till ≤ tick → (l.getD i Flat.dflt).till < y.till := fun y hy ht => by
    obtain ⟨j, hj, rfl⟩ := List.mem_iff_getElem.1 hy
    rw [List.length_take] at hj
    rw [List.getElem_take] at ht ⊢
    have := h3 j (by omega)
    rw [show l.getD j Flat.dflt = l[j] by rw [List.getD_eq_getElem?_getD, List.getElem?_eq_getElem (by omega)]; rfl] at this
    exact this ht
  have hb : ∀ y ∈ l.drop (i + 1), y.till ≤ tick → (l.getD i Flat.dflt).till ≤ y.till := fun y hy ht => by
    obtain ⟨j, hj, rfl⟩ := List.mem_iff_getElem.1 hy
    rw [List.length_drop] at hj
    rw [List.getElem_drop] at ht ⊢
    have := h4 (i + 1 + j) (by omega) (by omega)
    rw [show l.getD (i + 1 + j) Flat.dflt = l[i + 1 + j] by rw [List.getD_eq_getElem?_getD, List.getElem?_eq_getElem (by omega)]; rfl] at this
    exact this ht
  generalize l.getD i Flat.dflt = x at *
  rw [he]
  refine ⟨?_, ?_⟩
  · rw [ended_filter, ended_filter]
    conv => lhs; rw [hs]
    rw [List.filter_append, List.filter_append, List.filter_cons_of_pos (by simpa using h2), sort_min]
    · intro y hy
      obtain ⟨a, b⟩ := List.mem_filter.1 hy
      exact ha y a (by simpa using b)
    · intro y hy
      obtain ⟨a, b⟩ := List.mem_filter.1 hy
      exact hb y a (by simpa using b)
  · unfold later
    conv => rhs; rw [hs]
    rw [List.filter_append, List.filter_append, List.filter_cons_of_neg (by simpa using h2)]
theorem none_ended {tick : Int} {l : List Lot} (h : ∀ j, j < l.length → ¬ (l.getD j Flat.dflt).till ≤ tick) : endedL tick l = [] ∧ later tick l = l := by
  have h' : ∀ y ∈ l, ¬ y.till ≤ tick := fun y hy => by
    obtain ⟨j, hj, rfl⟩ := List.mem_iff_getElem.1 hy
    have := h j hj
    rwa [show l.getD j Flat.dflt = l[j] by rw [List.getD_eq_getElem?_getD, List.getElem?_eq_getElem hj]; rfl] at this
  refine ⟨?_, List.filter_eq_self.2 fun y hy => by simpa using h' y hy⟩
  rw [ended_filter, List.filter_eq_nil_iff.2 fun y hy => by simpa using h' y hy]; rfl
/-- What the reference pays out for a lot. -/
def endMovesR (l : Lot) : List Mv :=
  if l.leader = 0 then [⟨0, l.seller, l.item, l.count⟩]
  else [⟨0, l.seller, 0, l.price⟩] ++ (if l.price < l.most then [⟨0, l.leader, 0, l.most - l.price⟩] else []) ++ [⟨0, l.leader, l.item, l.count⟩]
theorem endMoves_same {l : Lot} {tick : Int} (h : Right l tick) : endMovesR l = endMoves l := by
  have hc := h.count
  have hl := h.led
  have hr := h.reserve
  have c0 : ¬ l.count = 0 := by omega
  unfold endMovesR endMoves movesN
  rcases hl with ⟨e1, e2, e3⟩ | h6
  · simp [e1, e2, e3, c0]
  · have l0 : ¬ l.leader = 0 := by omega
    have p0 : ¬ l.price = 0 := by omega
    by_cases e : l.price < l.most
    · have m0 : ¬ l.most - l.price = 0 := by omega
      simp [l0, p0, c0, e, m0]
    · have m0 : l.most - l.price = 0 := by omega
      simp [l0, p0, c0, e, m0]
end Go.Proofs.Ytehjdbgijibmcaa
