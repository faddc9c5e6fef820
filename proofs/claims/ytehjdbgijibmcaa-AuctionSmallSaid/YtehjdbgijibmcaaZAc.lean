/- Layer 34 (auction): a lot that is opened, and removed. Plain Lean. -/
import Derived.Test.YtehjdbgijibmcaaZAl
set_option linter.unusedSimpArgs false
set_option linter.unusedVariables false
namespace Go.Proofs.Ytehjdbgijibmcaa
open Go.Fw Go.RowKit
theorem open_ok {h : House} {seller item count reserve ticks : Int} (he : (openH h seller item count reserve ticks).2.2 = 0) :
    Valid h ∧ (1 ≤ ticks ∧ ticks ≤ 10000) ∧ Right (newLot h seller item count reserve ticks) h.tick ∧ h.lots.length < 32 ∧ h.last < 1048576 ∧ openH h seller item count reserve ticks = (⟨h.tick, h.last + 1, h.lots ++ [newLot h seller item count reserve ticks]⟩, [⟨seller, 0, item, count⟩], 0) := by
  have hz : openH h seller item count reserve ticks = openH h seller item count reserve ticks := rfl
  conv at hz => rhs; unfold openH
  unfold openH at he
  split at he
  · rename_i hv
    split at he
    · rename_i hr
      split at he
      · rename_i hl
        rw [if_pos hv, if_pos hr, if_pos hl] at hz
        simp only [Bool.and_eq_true, inB_iff, valid_iff] at hv
        have hr' := right_iff.1 hr
        refine ⟨hv.1, hv.2, hr', hl.1, hl.2, ?_⟩
        rw [hz]
        have : count ≠ 0 := by have := hr'.count; simp only [newLot] at this; omega
        simp [movesN, this]
      · simp at he
    · simp at he
  · simp at he
theorem open_err {h : House} {seller item count reserve ticks : Int} (he : (openH h seller item count reserve ticks).2.2 ≠ 0) :
    (openH h seller item count reserve ticks).1 = house0 ∧ (openH h seller item count reserve ticks).2.1 = [] ∧ ((openH h seller item count reserve ticks).2.2 = 2 ∨ (openH h seller item count reserve ticks).2.2 = 4) := by
  unfold openH at *
  split at he
  · split at he
    · split at he
      · simp at he
      · simp [*]
    · simp [*]
  · simp [*]
theorem open_valid {h : House} {l : Lot} (hv : Valid h) (hr : Right l h.tick) (hid : l.id = h.last + 1) (hn : h.lots.length < 32) (hl : h.last < 1048576) : Valid ⟨h.tick, h.last + 1, h.lots ++ [l]⟩ := by
  refine ⟨hv.tick, ⟨by have := hv.last; simp only; omega, by simp only; omega⟩, by simp; omega, fun x hx => ?_, ?_⟩
  · rcases List.mem_append.1 hx with hx | hx
    · have := hv.lot x hx
      exact ⟨this.1, by simp only; omega, this.2.2⟩
    · simp at hx; subst hx
      have := hv.last
      exact ⟨by omega, by simp only; omega, hr⟩
  · refine List.pairwise_append.2 ⟨hv.inc, List.pairwise_singleton _ _, fun x hx y hy => ?_⟩
    simp at hy; subst hy
    have := hv.lot x hx; omega
theorem idxL_last {p : Lot → Bool} {l : Lot} (hp : p l = true) : ∀ {ls : List Lot}, (∀ x ∈ ls, p x = false) → idxL p (ls ++ [l]) = some ls.length
  | [], _ => by simp [idxL, hp]
  | x :: ls, h => by
    rw [List.cons_append, idxL, if_neg (by rw [h x (by simp)]; simp), idxL_last hp (fun y hy => h y (by simp [hy]))]; rfl
theorem getD_last (ls : List Lot) (l : Lot) : (ls ++ [l]).getD ls.length Flat.dflt = l := by simp [List.getD_eq_getElem?_getD]
theorem erase_last (ls : List Lot) (l : Lot) : (ls ++ [l]).eraseIdx ls.length = ls := by
  rw [List.eraseIdx_append_of_length_le (Nat.le_refl _)]; simp
theorem set_last (ls : List Lot) (l l' : Lot) : (ls ++ [l]).set ls.length l' = ls ++ [l'] := by
  rw [List.set_append_right _ _ (Nat.le_refl _)]; simp
theorem idxL_all {p : Lot → Bool} : ∀ {ls : List Lot}, (∀ x ∈ ls, p x = false) → idxL p ls = none
  | [], _ => rfl
  | x :: ls, h => by rw [idxL, if_neg (by rw [h x (by simp)]; simp), idxL_all (fun y hy => h y (by simp [hy]))]; rfl
/-- The last lot, whose ID is above all others. -/
theorem cancel_last {tick last : Int} {ls : List Lot} {l : Lot} (hv : validH ⟨tick, last, ls ++ [l]⟩ = true) (hid : ∀ x ∈ ls, x.id ≠ l.id) (who : Int) :
    cancelH ⟨tick, last, ls ++ [l]⟩ l.id who = if l.seller = who then (if l.leader = 0 then (⟨tick, last, ls⟩, movesN [⟨0, l.seller, l.item, l.count⟩], 0) else (house0, [], 343)) else (house0, [], 344) := by
  unfold cancelH
  rw [if_pos hv, idxL_last (by simp) (fun x hx => by simpa using hid x hx)]
  simp only [getD_last, erase_last]
theorem bid_last {tick last : Int} {ls : List Lot} {l : Lot} (hv : validH ⟨tick, last, ls ++ [l]⟩ = true) (hid : ∀ x ∈ ls, x.id ≠ l.id) (who most : Int) :
    bidH ⟨tick, last, ls ++ [l]⟩ l.id who most = ((if (inB who 1 65536 && inB most 1 2147483647) = true then (if l.seller = who then (house0, [], 340) else match bidLot l who most with | none => (house0, [], 341) | some (l', m) => (⟨tick, last, ls ++ [{ l' with till := max l'.till (tick + 20) }]⟩, m, 0)) else (house0, [], 2)) : Res) := by
  unfold bidH
  rw [if_pos hv, idxL_last (by simp) (fun x hx => by simpa using hid x hx)]
  simp only [getD_last, set_last]
  cases bidLot l who most <;> rfl
theorem cancel_none {h : House} (hv : validH h = true) {id : Int} (hid : ∀ x ∈ h.lots, x.id ≠ id) (who : Int) : cancelH h id who = (house0, [], 6) := by
  unfold cancelH
  rw [if_pos hv, idxL_all (fun x hx => by simpa using hid x hx)]
/-- In a house that is not valid nothing can be done. -/
theorem wrong_open {h : House} (hv : validH h = false) (a b c d e : Int) : openH h a b c d e = (house0, [], 2) := by simp [openH, hv]
theorem wrong_bid {h : House} (hv : validH h = false) (a b c : Int) : bidH h a b c = (house0, [], 2) := by simp [bidH, hv]
theorem wrong_cancel {h : House} (hv : validH h = false) (a b : Int) : cancelH h a b = (house0, [], 2) := by simp [cancelH, hv]
theorem wrong_adv {h : House} (hv : validH h = false) (a : Int) : advH h a = (house0, [], 2) := by simp [advH, hv]
end Go.Proofs.Ytehjdbgijibmcaa
