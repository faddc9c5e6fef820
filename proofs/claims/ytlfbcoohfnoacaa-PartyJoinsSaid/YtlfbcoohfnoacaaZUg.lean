/- Layer 36 (party): leaving. Plain Lean. -/
import Derived.Test.YtlfbcoohfnoacaaZUf
set_option linter.unusedSimpArgs false
set_option linter.unusedVariables false
namespace Go.Proofs.Ytlfbcoohfnoacaa
open Go.Fw Go.RowKit
theorem idxP_some {id : Int} (ps : List Pty) : ∀ {k : Nat}, idxP id ps = some k → k < ps.length ∧ (ps.getD k pty0).id = id := by
  induction ps with
  | nil => intro k h; cases h
  | cons p r ih =>
    intro k h
    simp only [idxP] at h
    split at h
    · rename_i hp; cases h; exact ⟨by simp, by simpa using hp⟩
    · cases hf : idxP id r with
      | none => rw [hf] at h; cases h
      | some j =>
        rw [hf] at h; cases h
        obtain ⟨h1, h2⟩ := ih hf
        exact ⟨by simp only [List.length_cons]; omega, by simpa using h2⟩
theorem idxP_none {id : Int} (ps : List Pty) : idxP id ps = none ↔ ∀ p ∈ ps, p.id ≠ id := by
  induction ps with
  | nil => simp [idxP]
  | cons p r ih =>
    simp only [idxP]
    by_cases h : p.id = id
    · rw [if_pos h]; simp [h]
    · rw [if_neg h]; simp only [Option.map_eq_none_iff, ih, List.mem_cons]
      constructor
      · rintro hh q (rfl | hq)
        · exact h
        · exact hh q hq
      · exact fun hh q hq => hh q (Or.inr hq)
/-- IDs are different: the party at k is the first one with its ID. -/
theorem idxP_at {ps : List Pty} (hs : ps.Pairwise fun a b => a.id < b.id) {k : Nat} (hk : k < ps.length) {id : Int} (hid : (ps.getD k pty0).id = id) : idxP id ps = some k := by
  induction ps generalizing k with
  | nil => simp at hk
  | cons p r ih =>
    rw [List.pairwise_cons] at hs
    simp only [idxP]
    cases k with
    | zero => rw [if_pos (by simpa using hid)]
    | succ k =>
      have hk' : k < r.length := by simpa using hk
      have hid' : (r.getD k pty0).id = id := by simpa using hid
      have := hs.1 _ (getD_mem36 hk')
      rw [if_neg (by omega), ih hs.2 hk' hid']
      rfl
theorem getD_set36 {ps : List Pty} {k : Nat} (hk : k < ps.length) (p : Pty) : (ps.set k p).getD k pty0 = p := by
  rw [List.getD_eq_getElem?_getD, List.getElem?_set_self hk]; rfl
/-- Members of a party are different. -/
theorem mem_nodup {h : Hal} (hv : VHal h) {k : Nat} (hk : k < h.ps.length) : (h.ps.getD k pty0).mem.Nodup := by
  have := hv.nd
  rw [allM_split hk, List.nodup_append, List.nodup_append] at this
  exact this.2.1.1
theorem filter_ne_len {l : List Int} {x : Int} (hn : l.Nodup) (hx : x ∈ l) : (l.filter fun n => !decide (n = x)).length + 1 = l.length := by
  induction l with
  | nil => cases hx
  | cons y r ih =>
    rw [List.nodup_cons] at hn
    rw [List.filter_cons]
    by_cases hy : y = x
    · rw [if_neg (by simp [hy])]
      have : (r.filter fun n => !decide (n = x)) = r := List.filter_eq_self.mpr fun a ha => by
        have : a ≠ x := fun e => hn.1 (by rw [hy, ← e]; exact ha)
        simp [this]
      rw [this]; rfl
    · rw [if_pos (by simp [hy])]
      have := ih hn.2 ((List.mem_cons.mp hx).resolve_left (fun e => hy e.symm))
      simp only [List.length_cons]; omega
/-- Who leaves is a member of no party any more. -/
theorem leave_gone {h : Hal} (hv : VHal h) {k : Nat} {who : Int} (hf : findM who h.ps = some k) : findM who (leaveAt h k who).ps = none := by
  have hk := (findM_some _ hf).1
  have hw := (findM_some _ hf).2
  rw [findM_none]
  have hn := hv.nd
  rw [allM_split hk] at hn
  simp only [List.nodup_append, List.mem_append] at hn
  obtain ⟨_, ⟨_, _, c4⟩, c5⟩ := hn
  have hA : who ∉ allM (h.ps.take k) := fun hc => c5 who hc who (Or.inl hw) rfl
  have hB : who ∉ allM (h.ps.drop (k + 1)) := fun hc => c4 who hw who hc rfl
  unfold leaveAt
  cases hm : leftM who (h.ps.getD k pty0) with
  | none =>
    show who ∉ allM (h.ps.eraseIdx k)
    rw [ps_erase, allM_append]
    exact fun hc => (List.mem_append.mp hc).elim hA hB
  | some p =>
    show who ∉ allM (h.ps.set k p)
    rw [allM_set hk]
    have hp : who ∉ p.mem := by
      unfold leftM at hm
      split at hm
      · cases hm
      · rename_i x r hfl
        cases hm
        show who ∉ x :: r
        rw [← hfl]
        intro hc
        have := (List.mem_filter.mp hc).2
        simp at this
    exact fun hc => (List.mem_append.mp hc).elim hA (fun hc => (List.mem_append.mp hc).elim hp hB)
/-- The party of the last one is gone. -/
theorem leave_last {h : Hal} (hv : VHal h) {k : Nat} {who : Int} (hf : findM who h.ps = some k) (h1 : (h.ps.getD k pty0).mem.length = 1) : idxP (h.ps.getD k pty0).id (leaveAt h k who).ps = none ∧ (leaveAt h k who).ps.length + 1 = h.ps.length := by
  have hk := (findM_some _ hf).1
  have hw := (findM_some _ hf).2
  have hl := filter_ne_len (mem_nodup hv hk) hw
  have he : leftM who (h.ps.getD k pty0) = none := by
    unfold leftM
    rw [List.eq_nil_of_length_eq_zero (by omega : ((h.ps.getD k pty0).mem.filter fun n => !decide (n = who)).length = 0)]
  unfold leaveAt
  rw [he]
  refine ⟨(idxP_none _).2 fun q hq hid => ?_, ?_⟩
  · have hs := hv.ids
    rw [ps_split hk, List.pairwise_append, List.pairwise_cons] at hs
    obtain ⟨_, ⟨b, _⟩, d⟩ := hs
    have hq' : q ∈ h.ps.take k ++ h.ps.drop (k + 1) := by rw [← ps_erase]; exact hq
    rcases List.mem_append.mp hq' with h2 | h2
    · have := d q h2 _ List.mem_cons_self; omega
    · have := b q h2; omega
  · show (h.ps.eraseIdx k).length + 1 = _
    rw [List.length_eraseIdx, if_pos hk]
    exact Nat.sub_add_cancel (Nat.lt_of_le_of_lt (Nat.zero_le _) hk)
/-- The others stay in their order; the leader stays, or is the first one of them. -/
theorem leave_rest {h : Hal} (hv : VHal h) {k : Nat} {who : Int} (hf : findM who h.ps = some k) (h1 : (h.ps.getD k pty0).mem.length ≠ 1) :
    ∃ q, leaveAt h k who = ⟨h.tick, h.last, h.ps.set k q⟩ ∧ idxP (h.ps.getD k pty0).id (leaveAt h k who).ps = some k ∧ (leaveAt h k who).ps.getD k pty0 = q ∧ q.id = (h.ps.getD k pty0).id ∧
      q.mem = ((h.ps.getD k pty0).mem.filter fun n => !decide (n = who)) ∧ q.inv = (h.ps.getD k pty0).inv ∧ q.leader = (if (h.ps.getD k pty0).leader = who then q.mem.getD 0 0 else (h.ps.getD k pty0).leader) := by
  have hk := (findM_some _ hf).1
  have hw := (findM_some _ hf).2
  have hl := filter_ne_len (mem_nodup hv hk) hw
  have hV := leave_valid hv hk who
  unfold leaveAt at hV ⊢
  unfold leftM at hV ⊢
  cases hm : (h.ps.getD k pty0).mem.filter fun n => !decide (n = who) with
  | nil => rw [hm, List.length_nil] at hl; omega
  | cons x r =>
    rw [hm] at hV
    simp only at hV ⊢
    exact ⟨_, rfl, idxP_at hV.ids (k := k) (by show k < (h.ps.set k _).length; rw [List.length_set]; exact hk) (by show ((h.ps.set k _).getD k pty0).id = _; rw [getD_set36 hk]), getD_set36 hk _, rfl, rfl, rfl, rfl⟩
/-- Who was kicked could as well have left. -/
theorem kick_leave {h : Hal} (hv : VHal h) {k : Nat} {who : Int} (hf : findM who h.ps = some k) : kickM h (h.ps.getD k pty0).leader who = if who = (h.ps.getD k pty0).leader then (hal0, 2) else (leaveAt h k who, 0) := by
  have hk := (findM_some _ hf).1
  unfold kickM leadM
  rw [if_pos (valid_iff.mpr hv), findM_unique hv.nd hk (hv.ok _ (getD_mem36 hk)).2.2.2.1]
  show (if (h.ps.getD k pty0).leader = (h.ps.getD k pty0).leader then _ else _) = _
  rw [if_pos rfl]
  show (if findM who h.ps = some k then _ else _) = _
  rw [if_pos hf]
end Go.Proofs.Ytlfbcoohfnoacaa
