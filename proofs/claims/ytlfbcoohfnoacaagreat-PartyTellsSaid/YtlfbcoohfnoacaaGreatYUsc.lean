/- Where a binary search ends. Plain Lean. -/
import Derived.Test.YtlfbcoohfnoacaaGreatYUsb
import Derived.Test.YtlfbcoohfnoacaaGreatYPa
set_option linter.unusedSimpArgs false
set_option linter.unusedVariables false
namespace Go.Proofs.YtlfbcoohfnoacaaGreat
open Go.Fw Go.RowKit
section
variable {α : Type} (d : α) {key : α → Int} {k : Int}
theorem lbK_le (l : List α) : lbK key k l ≤ l.length := by
  induction l with
  | nil => simp [lbK]
  | cons x l ih =>
    unfold lbK at ih ⊢
    rw [List.takeWhile_cons]
    split
    · simp only [List.length_cons]; omega
    · simp
theorem lbK_lt (l : List α) : ∀ j, j < lbK key k l → key (l.getD j d) < k := by
  induction l with
  | nil => intro j h; simp [lbK] at h
  | cons x l ih =>
    intro j h
    unfold lbK at ih h
    rw [List.takeWhile_cons] at h
    split at h
    · rename_i hx
      cases j with
      | zero => simpa using hx
      | succ j => simpa using ih j (by simpa using h)
    · simp at h
theorem lbK_stop (l : List α) : lbK key k l < l.length → ¬ key (l.getD (lbK key k l) d) < k := by
  induction l with
  | nil => intro h; simp at h
  | cons x l ih =>
    intro h
    unfold lbK at ih h ⊢
    rw [List.takeWhile_cons] at h ⊢
    split
    · rename_i hx
      rw [if_pos hx] at h
      simpa using ih (by simpa using h)
    · rename_i hx
      simpa using hx
theorem lbK_ge {l : List α} (hR : Rising key l) : ∀ j, lbK key k l ≤ j → j < l.length → k ≤ key (l.getD j d) := by
  intro j h1 h2
  have h3 := lbK_stop d (key := key) (k := k) l (by omega)
  by_cases e : lbK key k l = j
  · rw [e] at h3; omega
  · have := rising_at d hR (i := lbK key k l) (j := j) (by omega) h2; omega
end
theorem hasK_mem {l : List Inv} {k : Int} (hR : Rising Inv.who l) : hasK Inv.who k l = decide (k ∈ l.map Inv.who) := by
  rw [Bool.eq_iff_iff]
  unfold hasK
  rw [Bool.and_eq_true, decide_eq_true_eq, decide_eq_true_eq, decide_eq_true_eq, List.mem_map]
  constructor
  · rintro ⟨h1, h2⟩
    exact ⟨_, getD_mem h1, h2⟩
  · rintro ⟨x, hx, hk⟩
    obtain ⟨j, hj, e⟩ := List.mem_iff_getElem.1 hx
    have hj' : l.getD j Flat.dflt = x := by rw [List.getD_eq_getElem?_getD, List.getElem?_eq_getElem hj, e]; rfl
    have h1 : ¬ j < lbK Inv.who k l := fun h => by
      have := lbK_lt (Flat.dflt : Inv) (key := Inv.who) (k := k) l j h
      rw [hj'] at this; omega
    have h2 : lbK Inv.who k l = j := by
      refine Classical.byContradiction fun hne => ?_
      have h3 := lbK_stop (Flat.dflt : Inv) (key := Inv.who) (k := k) l (by omega)
      have h4 := rising_at (Flat.dflt : Inv) hR (i := lbK Inv.who k l) (j := j) (by omega) hj
      rw [hj'] at h4; omega
    rw [h2, hj']
    exact ⟨hj, hk⟩
theorem insI_lb {l : List Inv} (hR : Rising Inv.who l) (x : Inv) : insI x l = l.take (lbK Inv.who x.who l) ++ x :: l.drop (lbK Inv.who x.who l) :=
  insI_place (lbK_le l) (fun j hj => lbK_lt (⟨0, 0⟩ : Inv) (key := Inv.who) l j hj) (fun j h1 h2 => lbK_ge (⟨0, 0⟩ : Inv) hR j h1 h2)
end Go.Proofs.YtlfbcoohfnoacaaGreat
