/- Lists, for the functions of package slices. Plain Lean. -/
import Derived.Test.YtlfbcoohfnoacaaGreatYVa
set_option linter.unusedSimpArgs false
set_option linter.unusedVariables false
namespace Go.Proofs.YtlfbcoohfnoacaaGreat
open Go.Fw Go.RowKit
theorem idxFrom_spec {α : Type} (p : α → Bool) : ∀ (l : List α) (k : Int), idxFrom p k l = -1 ∧ l.any p = false ∨ ∃ i : Nat, i < l.length ∧ idxFrom p k l = k + i ∧ (l.take (i + 1)).filter (fun x => !p x) = l.take i
  | [], k => .inl ⟨rfl, rfl⟩
  | x :: l, k => by
    by_cases h : p x
    · exact .inr ⟨0, by simp, by simp [idxFrom, h], by simp [h]⟩
    · have h' : p x = false := by simpa using h
      rcases idxFrom_spec p l (k + 1) with ⟨h1, h2⟩ | ⟨i, h1, h2, h3⟩
      · exact .inl ⟨by simp only [idxFrom, h', h1]; simp, by simp [h', h2]⟩
      · refine .inr ⟨i + 1, by simp; omega, by simp only [idxFrom, h']; simp [h2]; omega, ?_⟩
        rw [List.take_succ_cons, List.filter_cons]
        simp only [h', Bool.not_false, if_true, h3, List.take_succ_cons]
theorem filter_none {α : Type} (p : α → Bool) (l : List α) (h : l.any p = false) : l.filter (fun x => !p x) = l := by
  rw [List.filter_eq_self]
  intro x hx
  have := List.any_eq_false.1 h x hx
  simpa using this
theorem take_set_self {α : Type} (L : List α) (i : Nat) (v : α) (h : i < L.length) : (L.set i v).take (i + 1) = L.take i ++ [v] := by
  rw [List.set_eq_take_append_cons_drop, if_pos h, List.take_append, List.length_take]
  have : min i L.length = i := by omega
  rw [this, List.take_of_length_le (by rw [List.length_take]; omega)]
  simp
theorem drop_set_later {α : Type} (L : List α) (i j : Nat) (v : α) (h : i < j) : (L.set i v).drop j = L.drop j := by
  rw [List.drop_set]; simp [h]
theorem getD_of_drop {α : Type} {L l : List α} {j : Nat} (d : α) (h : L.drop j = l.drop j) (hl : L.length = l.length) : L.getD j d = l.getD j d := by
  by_cases hj : j < l.length
  · have h1 := drop_cons (d := d) (l := L) (k := j) (by omega)
    have h2 := drop_cons (d := d) (l := l) (k := j) hj
    rw [h, h2] at h1
    injection h1 with h1 _
    exact h1.symm
  · simp [List.getElem?_eq_none (show l.length ≤ j by omega), List.getElem?_eq_none (show L.length ≤ j by omega)]
theorem drop_next {α : Type} {L l : List α} {j : Nat} (h : L.drop j = l.drop j) : L.drop (j + 1) = l.drop (j + 1) := by
  have := congrArg (List.drop 1) h
  simpa [List.drop_drop, Nat.add_comm] using this
end Go.Proofs.YtlfbcoohfnoacaaGreat
