/- Layer 34 (auction): a house with one fault is not valid. Plain Lean. -/
import Derived.Test.YtehjdbgijibmcaaZAc
set_option linter.unusedSimpArgs false
set_option linter.unusedVariables false
namespace Go.Proofs.Ytehjdbgijibmcaa
open Go.Fw Go.RowKit
theorem bad_lot {tick last : Int} {lots : List Lot} {l : Lot} (hn : 2 ≤ lots.length) (h1 : ¬ Right l tick) : validH ⟨tick, last, lots.set 1 l⟩ = false := by
  cases e : validH ⟨tick, last, lots.set 1 l⟩ with
  | false => rfl
  | true =>
    have hm : l ∈ lots.set 1 l := List.mem_iff_getElem.2 ⟨1, by rw [List.length_set]; omega, by simp⟩
    exact absurd ((valid_iff.1 e).lot l hm).2.2 h1
theorem bad_last {tick last : Int} {lots : List Lot} (hn : 1 ≤ lots.length) (h1 : last < (lots.getD (lots.length - 1) Flat.dflt).id) : validH ⟨tick, last, lots⟩ = false := by
  cases e : validH ⟨tick, last, lots⟩ with
  | false => rfl
  | true =>
    have := ((valid_iff.1 e).lot _ (getD_mem (d := Flat.dflt) (show lots.length - 1 < lots.length by omega))).2.1
    simp only at this
    omega
theorem bad_id {tick last : Int} {lots : List Lot} {l : Lot} (hn : 2 ≤ lots.length) (h1 : l.id = (lots.getD 0 Flat.dflt).id) : validH ⟨tick, last, lots.set 1 l⟩ = false := by
  cases e : validH ⟨tick, last, lots.set 1 l⟩ with
  | false => rfl
  | true =>
    have hi := (valid_iff.1 e).inc
    have := ids_inj hi (i := 0) (j := 1) (by show 0 < (lots.set 1 l).length; rw [List.length_set]; omega) (by show 1 < (lots.set 1 l).length; rw [List.length_set]; omega) (by
      show ((lots.set 1 l).getD 0 Flat.dflt).id = ((lots.set 1 l).getD 1 Flat.dflt).id
      match lots, hn with
      | a :: b :: r, _ => simp [List.getD_eq_getElem?_getD] at h1 ⊢; exact h1.symm)
    omega
/-- The house with a fault. -/
def badH (h : House) (q : Int) : House :=
  let l := h.lots.getD 1 Flat.dflt
  if q = 0 then ⟨h.tick, h.last, h.lots.set 1 { l with id := (h.lots.getD 0 Flat.dflt).id }⟩
  else if q = 1 then ⟨h.tick, (h.lots.getD (h.lots.length - 1) Flat.dflt).id - 1, h.lots⟩
  else if q = 2 then ⟨h.tick, h.last, h.lots.set 1 { l with leader := l.seller }⟩
  else if q = 3 then ⟨h.tick, h.last, h.lots.set 1 { l with price := l.most + 1 }⟩
  else if q = 4 then ⟨h.tick, h.last, h.lots.set 1 { l with till := h.tick }⟩
  else if q = 5 then ⟨h.tick, h.last, h.lots.set 1 { l with item := 4 }⟩
  else if q = 6 then ⟨h.tick, h.last, h.lots.set 1 { l with reserve := 0 }⟩
  else ⟨h.tick, h.last, h.lots.set 1 { l with till := h.tick + 10000 + 1 }⟩
theorem badH_len (h : House) (q : Int) : (badH h q).lots.length = h.lots.length := by
  unfold badH
  simp only
  repeat (split; first | exact List.length_set .. | rfl | skip)
  all_goals exact List.length_set ..
theorem badH_wrong {h : House} (hv : Valid h) (hn : 2 ≤ h.lots.length) (q : Int) : validH (badH h q) = false := by
  have hR : Right (h.lots.getD 1 Flat.dflt) h.tick := (hv.lot _ (getD_mem (d := Flat.dflt) (show 1 < h.lots.length by omega))).2.2
  obtain ⟨a, b, c, d, e, f⟩ := hR
  unfold badH
  simp only
  split
  · exact bad_id hn rfl
  split
  · exact bad_last (by omega) (by omega)
  split
  · exact bad_lot hn fun x => by have := x.led; have := x.seller; simp only at *; omega
  split
  · exact bad_lot hn fun x => by have := x.led; simp only at *; omega
  split
  · exact bad_lot hn fun x => by have := x.till; simp only at *; omega
  split
  · exact bad_lot hn fun x => by have := x.item; simp only at *; omega
  split
  · exact bad_lot hn fun x => by have := x.reserve; simp only at *; omega
  · exact bad_lot hn fun x => by have := x.till; simp only at *; omega
end Go.Proofs.Ytehjdbgijibmcaa
