/- Chapter 34: one thing that is done: what it keeps, what an error leaves. Plain Lean. -/
import Derived.Test.YtehjdbgijibmcaaZGe
import Derived.Test.YtehjdbgijibmcaaZGg
import Derived.Test.YtehjdbgijibmcaaZAk
import Derived.Test.YtehjdbgijibmcaaZAy
set_option linter.unusedSimpArgs false
set_option linter.unusedVariables false
namespace Go.Proofs.Ytehjdbgijibmcaa
open Go.Fw Go.RowKit
theorem oneH_kept {h : House} {x : Do6} (hv : Valid h) (he : (oneH h x).2.2 = 0) : Kept h (oneH h x).1 (oneH h x).2.1 ∧ Small (oneH h x).2.1 := by
  unfold oneH at *
  split at he
  · rename_i h0
    rw [if_pos h0]; exact ⟨kept_open he, small_open he⟩
  · rename_i h0
    rw [if_neg h0]
    split at he
    · rename_i h1
      rw [if_pos h1]; exact ⟨kept_bid he hv, small_bid he hv⟩
    · rename_i h1
      rw [if_neg h1]
      split at he
      · rename_i h2
        rw [if_pos h2]; exact ⟨kept_cancel he, small_cancel he⟩
      · rename_i h2
        rw [if_neg h2]; exact ⟨kept_adv he, small_adv he⟩
theorem bid_err {h : House} {a b c : Int} (he : (bidH h a b c).2.2 ≠ 0) : (bidH h a b c).1 = house0 ∧ (bidH h a b c).2.1 = [] := by
  revert he
  unfold bidH
  repeat' split
  all_goals (intro he; first | exact ⟨rfl, rfl⟩ | exact absurd rfl he)
theorem cancel_err {h : House} {a b : Int} (he : (cancelH h a b).2.2 ≠ 0) : (cancelH h a b).1 = house0 ∧ (cancelH h a b).2.1 = [] := by
  revert he
  unfold cancelH
  repeat' split
  all_goals (intro he; first | exact ⟨rfl, rfl⟩ | exact absurd rfl he)
theorem adv_err {h : House} {a : Int} (he : (advH h a).2.2 ≠ 0) : (advH h a).1 = house0 ∧ (advH h a).2.1 = [] := by
  revert he
  unfold advH
  repeat' split
  all_goals (intro he; first | exact ⟨rfl, rfl⟩ | exact absurd rfl he)
theorem oneH_err {h : House} {x : Do6} (he : (oneH h x).2.2 ≠ 0) : (oneH h x).1 = house0 ∧ (oneH h x).2.1 = [] := by
  unfold oneH at *
  split at he
  · rename_i h0
    rw [if_pos h0]; have := open_err he; exact ⟨this.1, this.2.1⟩
  · rename_i h0
    rw [if_neg h0]
    split at he
    · rename_i h1
      rw [if_pos h1]; exact bid_err he
    · rename_i h1
      rw [if_neg h1]
      split at he
      · rename_i h2
        rw [if_pos h2]; exact cancel_err he
      · rename_i h2
        rw [if_neg h2]; exact adv_err he
theorem any_take {l : List Lot} {j : Nat} (hj : j < l.length) (p : Lot → Bool) : (l.take (j + 1)).any p = ((l.take j).any p || p (l.getD j Flat.dflt)) := by
  rw [take_snoc (d := Flat.dflt) hj, List.any_append]; simp
theorem list4 {l : List Int} (h : l.length = 4) : ∃ a b c d, l = [a, b, c, d] := by
  match l, h with
  | [a, b, c, d], _ => exact ⟨a, b, c, d, rfl⟩
theorem oneH_bad {h : House} (hv : validH h = false) (x : Do6) : oneH h x = (house0, [], 2) := by
  unfold oneH
  rw [wrong_open hv, wrong_bid hv, wrong_cancel hv, wrong_adv hv]
  simp
theorem oneH_small (h : House) (x : Do6) : (oneH h x).1.lots.length ≤ 32 ∧ (oneH h x).2.1.length ≤ 100 := by
  by_cases he : (oneH h x).2.2 = 0
  · cases hv : validH h with
    | false => rw [oneH_bad hv]; exact ⟨Nat.zero_le _, Nat.zero_le _⟩
    | true =>
      obtain ⟨h1, h2⟩ := oneH_kept (valid_iff.1 hv) he
      exact ⟨h1.valid.len, h2.1⟩
  · obtain ⟨h1, h2⟩ := oneH_err he
    rw [h1, h2]; exact ⟨Nat.zero_le _, Nat.zero_le _⟩
end Go.Proofs.Ytehjdbgijibmcaa
