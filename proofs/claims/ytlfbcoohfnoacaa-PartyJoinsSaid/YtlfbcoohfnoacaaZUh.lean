/- Layer 36 (party): halls with one fault. Plain Lean. -/
import Derived.Test.YtlfbcoohfnoacaaZUg
set_option linter.unusedSimpArgs false
set_option linter.unusedVariables false
namespace Go.Proofs.Ytlfbcoohfnoacaa
open Go.Fw Go.RowKit
/-- In a hall that is not valid nothing can be done. -/
theorem do_bad {h : Hal} (hv : ¬ VHal h) (kind : Nat) (a b : Int) : doM h kind a b = (hal0, 2) := by
  have hn : ¬ validHal h = true := fun hc => hv (valid_iff.mp hc)
  have hl : ∀ x f, leadM h x f = (hal0, 2) := fun x f => by unfold leadM; rw [if_neg hn]
  unfold doM
  split
  · unfold advM; rw [if_neg hn]
  · unfold createM; rw [if_neg hn]
  · exact hl _ _
  · unfold answerM; rw [if_neg hn]
  · unfold answerM; rw [if_neg hn]
  · unfold leaveM; rw [if_neg hn]
  · exact hl _ _
  · exact hl _ _
  · exact hl _ _
theorem of_bad {h : Hal} (hv : ¬ VHal h) (who : Int) : ofM h who = none := by unfold ofM; rw [if_neg (fun hc => hv (valid_iff.mp hc))]
theorem share_bad {h : Hal} (hv : ¬ VHal h) (id amount : Int) : shareM h id amount = ([], 2) := by unfold shareM; rw [if_neg (fun hc => hv (valid_iff.mp hc))]
theorem set_mem36 {ps : List Pty} {k : Nat} (hk : k < ps.length) (p : Pty) : p ∈ ps.set k p := List.mem_set hk p
/-- The members of the first two parties are different. -/
theorem two_apart {h : Hal} (hv : VHal h) (h2 : 2 ≤ h.ps.length) {x : Int} (h0 : x ∈ (h.ps.getD 0 pty0).mem) (h1 : x ∈ (h.ps.getD 1 pty0).mem) : False := by
  have a := findM_unique hv.nd (k := 0) (by omega) h0
  have b := findM_unique hv.nd (k := 1) (by omega) h1
  rw [a] at b; cases b
theorem bad_leader {h : Hal} (hv : VHal h) (h2 : 2 ≤ h.ps.length) : ¬ VHal ⟨h.tick, h.last, h.ps.set 1 { h.ps.getD 1 pty0 with leader := (h.ps.getD 0 pty0).leader }⟩ := fun hc =>
  two_apart hv h2 (hv.ok _ (getD_mem36 (by omega))).2.2.2.1 (hc.ok _ (set_mem36 (by omega) _)).2.2.2.1
theorem bad_member {h : Hal} (hv : VHal h) (h2 : 2 ≤ h.ps.length) {x : Int} (hx : x ∈ (h.ps.getD 0 pty0).mem) : ¬ VHal ⟨h.tick, h.last, h.ps.set 1 { h.ps.getD 1 pty0 with mem := (h.ps.getD 1 pty0).mem ++ [x] }⟩ := by
  intro hc
  have hg : (h.ps.set 1 { h.ps.getD 1 pty0 with mem := (h.ps.getD 1 pty0).mem ++ [x] }).getD 0 pty0 = h.ps.getD 0 pty0 := by
    rw [List.getD_eq_getElem?_getD, List.getElem?_set_ne (by decide), List.getD_eq_getElem?_getD]
  refine two_apart hc (by show 2 ≤ (h.ps.set 1 _).length; rw [List.length_set]; exact h2) (x := x) ?_ ?_
  · show x ∈ ((h.ps.set 1 _).getD 0 pty0).mem
    rw [hg]; exact hx
  · show x ∈ ((h.ps.set 1 _).getD 1 pty0).mem
    rw [getD_set36 (by omega)]; exact List.mem_append_right _ List.mem_cons_self
theorem bad_id {h : Hal} (h2 : 2 ≤ h.ps.length) : ¬ VHal ⟨h.tick, h.last, h.ps.set 1 { h.ps.getD 1 pty0 with id := (h.ps.getD 0 pty0).id }⟩ := by
  intro hc
  have hg : (h.ps.set 1 { h.ps.getD 1 pty0 with id := (h.ps.getD 0 pty0).id }).getD 0 pty0 = h.ps.getD 0 pty0 := by
    rw [List.getD_eq_getElem?_getD, List.getElem?_set_ne (by decide), List.getD_eq_getElem?_getD]
  have hl : (h.ps.set 1 { h.ps.getD 1 pty0 with id := (h.ps.getD 0 pty0).id }).length = h.ps.length := List.length_set ..
  have a := idxP_at hc.ids (k := 0) (id := (h.ps.getD 0 pty0).id) (by show 0 < (h.ps.set 1 _).length; omega) (by show ((h.ps.set 1 _).getD 0 pty0).id = _; rw [hg])
  have b := idxP_at hc.ids (k := 1) (id := (h.ps.getD 0 pty0).id) (by show 1 < (h.ps.set 1 _).length; omega) (by show ((h.ps.set 1 _).getD 1 pty0).id = _; rw [getD_set36 (by omega)])
  rw [a] at b; cases b
theorem bad_last {h : Hal} {k : Nat} (hk : k < h.ps.length) : ¬ VHal ⟨h.tick, (h.ps.getD k pty0).id - 1, h.ps⟩ := fun hc => by
  have := (hc.ok _ (getD_mem36 hk)).1
  have h1 : (h.ps.getD k pty0).id ≤ (h.ps.getD k pty0).id - 1 := this
  omega
theorem bad_invited {h : Hal} (h2 : 2 ≤ h.ps.length) {x t : Int} (hx : x ∈ (h.ps.getD 1 pty0).mem) (l : List Inv) : ¬ VHal ⟨h.tick, h.last, h.ps.set 1 { h.ps.getD 1 pty0 with inv := ⟨x, t⟩ :: l }⟩ := by
  intro hc
  have := ((hc.ok _ (set_mem36 (by omega) _)).2.2.2.2.2.1 ⟨x, t⟩ List.mem_cons_self).2.2.1
  refine this ?_
  show x ∈ allM (h.ps.set 1 _)
  rw [allM_set (by omega)]
  exact List.mem_append_right _ (List.mem_append_left _ hx)
theorem bad_empty {h : Hal} (h2 : 2 ≤ h.ps.length) : ¬ VHal ⟨h.tick, h.last, h.ps.set 1 { h.ps.getD 1 pty0 with mem := [] }⟩ := fun hc => by
  have := (hc.ok _ (set_mem36 (by omega) _)).2.1
  have h1 : 1 ≤ ([] : List Int).length := this
  exact absurd h1 (by decide)
theorem bad_tick (last : Int) (ps : List Pty) : ¬ VHal ⟨-1, last, ps⟩ := fun hc => by
  have h1 : (0 : Int) ≤ -1 := hc.t0
  omega
theorem bad_until {h : Hal} (h2 : 2 ≤ h.ps.length) (x : Int) : ¬ VHal ⟨h.tick, h.last, h.ps.set 1 { h.ps.getD 1 pty0 with inv := [⟨x, h.tick⟩] }⟩ := fun hc => by
  have := ((hc.ok _ (set_mem36 (by omega) _)).2.2.2.2.2.1 ⟨x, h.tick⟩ List.mem_cons_self).2.2.2.1
  have h1 : h.tick < h.tick := this
  omega
end Go.Proofs.Ytlfbcoohfnoacaa
