/- Layer 36 (party): a valid hall is sound, as the law looks at it. Plain Lean. -/
import Derived.Test.YtlfbcoohfnoacaaZUl
set_option linter.unusedSimpArgs false
set_option linter.unusedVariables false
namespace Go.Proofs.Ytlfbcoohfnoacaa
open Go.Fw Go.RowKit
theorem getD_in36 {α : Type} (d : α) {l : List α} {k : Nat} (hk : k < l.length) : l.getD k d ∈ l := by
  rw [List.getD_eq_getElem?_getD, List.getElem?_eq_getElem hk]; exact List.getElem_mem hk
/-- The players that came up ahead of member k of party i. -/
def ahead36 (ps : List Pty) (i k : Nat) : List Int := allM (ps.take i) ++ (ps.getD i pty0).mem.take k
theorem ahead_next {ps : List Pty} {i k : Nat} (hk : k < (ps.getD i pty0).mem.length) : ahead36 ps i (k + 1) = ahead36 ps i k ++ [(ps.getD i pty0).mem.getD k 0] := by
  unfold ahead36
  rw [take_snoc36 0 hk, List.append_assoc]
theorem ahead_all {ps : List Pty} {i : Nat} (hi : i < ps.length) : ahead36 ps i (ps.getD i pty0).mem.length = ahead36 ps (i + 1) 0 := by
  unfold ahead36
  rw [List.take_length, List.take_zero, List.append_nil, take_snoc36 pty0 hi, allM_append, allM_cons]
  show _ = allM (ps.take i) ++ (_ ++ [])
  rw [List.append_nil]
theorem ahead_zero (ps : List Pty) : ahead36 ps 0 0 = [] := rfl
/-- Everybody comes up once. -/
theorem ahead_new {h : Hal} (hv : VHal h) {i k : Nat} (hi : i < h.ps.length) (hk : k < (h.ps.getD i pty0).mem.length) : (h.ps.getD i pty0).mem.getD k 0 ∉ ahead36 h.ps i k := by
  have hn := hv.nd
  rw [allM_split hi] at hn
  have hs := list_split (0 : Int) hk
  intro hm
  unfold ahead36 at hm
  rw [List.nodup_append] at hn
  obtain ⟨_, hn2, hd⟩ := hn
  have hin : (h.ps.getD i pty0).mem.getD k 0 ∈ (h.ps.getD i pty0).mem := by
    exact getD_in36 0 hk
  rcases List.mem_append.mp hm with h1 | h1
  · exact hd _ h1 _ (List.mem_append_left _ hin) rfl
  · rw [List.nodup_append] at hn2
    have hmm := hn2.1
    rw [hs, List.nodup_append] at hmm
    exact hmm.2.2 _ h1 _ List.mem_cons_self rfl
/-- All have come up. -/
theorem ahead_end (ps : List Pty) : ahead36 ps ps.length 0 = allM ps := by
  unfold ahead36
  rw [List.take_length, List.take_zero, List.append_nil]
/-- A leader is a member once. -/
theorem led_one {h : Hal} (hv : VHal h) {i : Nat} (hi : i < h.ps.length) : (h.ps.getD i pty0).mem.count (h.ps.getD i pty0).leader = 1 :=
  nodup_count.mp (mem_nodup hv hi) _ (hv.ok _ (getD_mem36 hi)).2.2.2.1
theorem led_next {l : List Int} {k : Nat} (hk : k < l.length) (x : Int) : (l.take (k + 1)).count x = (l.take k).count x + (if l.getD k 0 = x then 1 else 0) := by
  rw [take_snoc36 0 hk, List.count_append]
  congr 1
  by_cases h : l.getD k 0 = x
  · rw [if_pos h, h, List.count_singleton_self]
  · rw [if_neg h, List.count_eq_zero]
    exact fun hm => h (List.mem_singleton.mp hm).symm
/-- An invitation, as the law looks at it. -/
theorem inv_sound {h : Hal} (hv : VHal h) {i k : Nat} (hi : i < h.ps.length) (hk : k < (h.ps.getD i pty0).inv.length) : ((h.ps.getD i pty0).inv.getD k ⟨0, 0⟩).who ∉ allM h.ps ∧ h.tick < ((h.ps.getD i pty0).inv.getD k ⟨0, 0⟩).till := by
  have hm : (h.ps.getD i pty0).inv.getD k ⟨0, 0⟩ ∈ (h.ps.getD i pty0).inv := by
    exact getD_in36 _ hk
  have := (hv.ok _ (getD_mem36 hi)).2.2.2.2.2.1 _ hm
  exact ⟨this.2.2.1, this.2.2.2.1⟩
end Go.Proofs.Ytlfbcoohfnoacaa
