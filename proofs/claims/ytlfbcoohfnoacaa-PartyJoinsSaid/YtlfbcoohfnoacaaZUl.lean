/- Layer 36 (party): lists with something left out or put in, step by step. Plain Lean. -/
import Derived.Test.YtlfbcoohfnoacaaZUk
set_option linter.unusedSimpArgs false
set_option linter.unusedVariables false
namespace Go.Proofs.Ytlfbcoohfnoacaa
open Go.Fw Go.RowKit
theorem list_split {α : Type} (d : α) {l : List α} {k : Nat} (hk : k < l.length) : l = l.take k ++ l.getD k d :: l.drop (k + 1) := by
  have h1 := List.take_append_drop k l
  rw [List.drop_eq_getElem_cons hk] at h1
  rw [List.getD_eq_getElem?_getD, List.getElem?_eq_getElem hk]
  exact h1.symm
theorem take_snoc36 {α : Type} (d : α) {l : List α} {k : Nat} (hk : k < l.length) : l.take (k + 1) = l.take k ++ [l.getD k d] := by
  rw [List.take_add_one, List.getD_eq_getElem?_getD, List.getElem?_eq_getElem hk]
  rfl
/-- A list beside the list of those of which something is true: here the next of both are the same. -/
theorem beside_yes {α : Type} (d : α) (g : α → Bool) {l : List α} {k : Nat} (hk : k < l.length) (hg : g (l.getD k d) = true) :
    ((l.take k).filter g).length < (l.filter g).length ∧ (l.filter g).getD ((l.take k).filter g).length d = l.getD k d ∧ ((l.take (k + 1)).filter g).length = ((l.take k).filter g).length + 1 := by
  have h1 : l.filter g = (l.take k).filter g ++ l.getD k d :: (l.drop (k + 1)).filter g := by
    have := congrArg (List.filter g) (list_split d hk)
    rw [List.filter_append, List.filter_cons, if_pos hg] at this
    exact this
  refine ⟨?_, ?_, ?_⟩
  · rw [h1, List.length_append, List.length_cons]; omega
  · rw [h1, List.getD_eq_getElem?_getD, List.getElem?_append_right (Nat.le_refl _), Nat.sub_self]; rfl
  · rw [take_snoc36 d hk, List.filter_append, List.length_append, List.filter_cons, if_pos hg]; rfl
/-- .. and here they are not. -/
theorem beside_no {α : Type} (d : α) (g : α → Bool) {l : List α} (hn : l.Nodup) {k : Nat} (hk : k < l.length) (hg : g (l.getD k d) = false) :
    (((l.take k).filter g).length < (l.filter g).length → (l.filter g).getD ((l.take k).filter g).length d ≠ l.getD k d) ∧ ((l.take (k + 1)).filter g).length = ((l.take k).filter g).length := by
  have h1 : l.filter g = (l.take k).filter g ++ (l.drop (k + 1)).filter g := by
    have := congrArg (List.filter g) (list_split d hk)
    rw [List.filter_append, List.filter_cons, if_neg (by rw [hg]; decide)] at this
    exact this
  refine ⟨fun hl => ?_, ?_⟩
  · rw [h1, List.length_append] at hl
    rw [h1, List.getD_eq_getElem?_getD, List.getElem?_append_right (Nat.le_refl _), Nat.sub_self]
    rw [list_split d hk, List.nodup_append, List.nodup_cons] at hn
    have h0 : 0 < ((l.drop (k + 1)).filter g).length := by omega
    rw [List.getElem?_eq_getElem h0]
    intro e
    have hm : ((l.drop (k + 1)).filter g)[0] ∈ l.drop (k + 1) := (List.mem_filter.mp (List.getElem_mem h0)).1
    have e' : ((l.drop (k + 1)).filter g)[0] = l.getD k d := e
    rw [e'] at hm
    exact hn.2.1.1 hm
  · rw [take_snoc36 d hk, List.filter_append, List.length_append, List.filter_cons, if_neg (by rw [hg]; decide)]; rfl
theorem inv_nodup {l : List Inv} (hs : l.Pairwise fun a b => a.who < b.who) : l.Nodup := hs.imp fun h e => by rw [e] at h; omega
/-! The reference's loop that puts an invitation in. -/
theorem insI_in {x y : Inv} {l : List Inv} (h : ∃ z ∈ l, x.who ≤ z.who) : insI x (l ++ [y]) = insI x l ++ [y] := by
  induction l with
  | nil => obtain ⟨z, hz, _⟩ := h; cases hz
  | cons i r ih =>
    show insI x (i :: (r ++ [y])) = insI x (i :: r) ++ [y]
    simp only [insI]
    split
    · rfl
    · rename_i hi
      obtain ⟨z, hz, hle⟩ := h
      have hz' : z ∈ r := (List.mem_cons.mp hz).resolve_left fun e => hi (by rw [← e]; exact hle)
      rw [ih ⟨z, hz', hle⟩]
      rfl
theorem insI_end {x : Inv} {l : List Inv} (h : ∀ z ∈ l, z.who < x.who) : insI x l = l ++ [x] := by
  induction l with
  | nil => rfl
  | cons i r ih =>
    have := h i List.mem_cons_self
    simp only [insI]
    rw [if_neg (by omega), ih fun z hz => h z (List.mem_cons_of_mem _ hz)]
    rfl
theorem insI_at {x y : Inv} {l : List Inv} (h : ∀ z ∈ l, z.who < x.who) (hy : x.who ≤ y.who) : insI x (l ++ [y]) = l ++ [x, y] := by
  induction l with
  | nil =>
    show insI x [y] = [x, y]
    simp only [insI]
    rw [if_pos hy]
  | cons i r ih =>
    have := h i List.mem_cons_self
    show insI x (i :: (r ++ [y])) = i :: r ++ [x, y]
    simp only [insI]
    rw [if_neg (by omega), ih fun z hz => h z (List.mem_cons_of_mem _ hz)]
    rfl
/-- The program's: put in at the place that a binary search finds. -/
theorem insI_place {x : Inv} : ∀ {l : List Inv} {k : Nat}, k ≤ l.length → (∀ j, j < k → (l.getD j ⟨0, 0⟩).who < x.who) → (∀ j, k ≤ j → j < l.length → x.who ≤ (l.getD j ⟨0, 0⟩).who) → insI x l = l.take k ++ x :: l.drop k := by
  intro l
  induction l with
  | nil => intro k hk _ _; have : k = 0 := by simpa using hk
           subst this; rfl
  | cons i r ih =>
    intro k hk h1 h2
    simp only [insI]
    cases k with
    | zero =>
      have := h2 0 (Nat.le_refl _) (by simp only [List.length_cons]; omega)
      rw [if_pos (show x.who ≤ i.who from this)]
      rfl
    | succ k =>
      have h0 : i.who < x.who := h1 0 (by omega)
      rw [if_neg (by omega), ih (k := k) (by simp only [List.length_cons] at hk; omega) (fun j hj => h1 (j + 1) (by omega)) (fun j hj hl => h2 (j + 1) (by omega) (by simp only [List.length_cons]; omega))]
      rfl
/-- Who leaves, in the reference: a list of those that stay. -/
theorem filter_take36 {α : Type} (d : α) (g : α → Bool) {l : List α} {k : Nat} (hk : k < l.length) : (l.take (k + 1)).filter g = (l.take k).filter g ++ (if g (l.getD k d) then [l.getD k d] else []) := by
  rw [take_snoc36 d hk, List.filter_append]
  congr 1
  rw [List.filter_cons]
  split <;> rfl
end Go.Proofs.Ytlfbcoohfnoacaa
