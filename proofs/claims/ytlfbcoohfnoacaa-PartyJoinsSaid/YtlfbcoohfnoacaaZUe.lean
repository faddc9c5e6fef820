/- Layer 36 (party): what is done gives a valid hall, or an error and nothing. Plain Lean. -/
import Derived.Test.YtlfbcoohfnoacaaZUd
set_option linter.unusedSimpArgs false
set_option linter.unusedVariables false
namespace Go.Proofs.Ytlfbcoohfnoacaa
open Go.Fw Go.RowKit
/-- What is done: kinds 0 to 8. -/
def doM (h : Hal) (kind : Nat) (a b : Int) : ResP :=
  match kind with
  | 0 => advM h a
  | 1 => createM h a
  | 2 => invitedM h a b
  | 3 => answerM h a b true
  | 4 => answerM h a b false
  | 5 => leaveM h a
  | 6 => kickM h a b
  | 7 => promoteM h a b
  | _ => disbandM h a
/-- IDs of parties are never used again. -/
structure Fol (h n : Hal) : Prop where
  valid : VHal n
  last : h.last ≤ n.last
  tick : h.tick ≤ n.tick
  ids : ∀ p ∈ n.ps, (∃ q ∈ h.ps, q.id = p.id) ∨ (p.id = h.last + 1 ∧ n.last = p.id)
theorem fol_set {h : Hal} {k : Nat} {p : Pty} (hk : k < h.ps.length) (hid : p.id = (h.ps.getD k pty0).id) (hv : VHal ⟨h.tick, h.last, h.ps.set k p⟩) : Fol h ⟨h.tick, h.last, h.ps.set k p⟩ := by
  refine ⟨hv, Int.le_refl _, Int.le_refl _, fun q hq => Or.inl ?_⟩
  rcases List.mem_or_eq_of_mem_set hq with h1 | rfl
  · exact ⟨q, h1, rfl⟩
  · exact ⟨_, getD_mem36 hk, hid.symm⟩
theorem fol_erase {h : Hal} (hv : VHal h) (k : Nat) : Fol h ⟨h.tick, h.last, h.ps.eraseIdx k⟩ :=
  ⟨erase_valid hv k, Int.le_refl _, Int.le_refl _, fun q hq => Or.inl ⟨q, (List.eraseIdx_sublist h.ps k).subset hq, rfl⟩⟩
theorem fol_leave {h : Hal} (hv : VHal h) {k : Nat} (hk : k < h.ps.length) (who : Int) : Fol h (leaveAt h k who) := by
  have hl := leave_valid hv hk who
  unfold leaveAt at hl ⊢
  cases hm : leftM who (h.ps.getD k pty0) with
  | none => exact fol_erase hv k
  | some p =>
    rw [hm] at hl
    refine fol_set hk ?_ hl
    unfold leftM at hm
    split at hm
    · cases hm
    · cases hm; rfl
theorem leadM_cases (h : Hal) (by' : Int) (f : Nat → ResP) (P : ResP → Prop) (he : ∀ e, e ≠ 0 → P (hal0, e)) (hf : VHal h → ∀ k, k < h.ps.length → findM by' h.ps = some k → (h.ps.getD k pty0).leader = by' → P (f k)) : P (leadM h by' f) := by
  unfold leadM
  split
  · rename_i hv
    split
    · exact he 6 (by decide)
    · rename_i k hk
      split
      · rename_i hl
        exact hf (valid_iff.mp hv) k (findM_some _ hk).1 hk hl
      · exact he 362 (by decide)
  · exact he 2 (by decide)
theorem askedM_some {who id : Int} (ps : List Pty) : ∀ {k : Nat}, askedM who id ps = some k → k < ps.length ∧ (ps.getD k pty0).id = id ∧ who ∈ (ps.getD k pty0).inv.map Inv.who := by
  induction ps with
  | nil => intro k h; cases h
  | cons p r ih =>
    intro k h
    simp only [askedM] at h
    split at h
    · rename_i hp; cases h; exact ⟨by simp, by simpa using hp.1, by simpa using hp.2⟩
    · cases hf : askedM who id r with
      | none => rw [hf] at h; cases h
      | some j =>
        rw [hf] at h; cases h
        obtain ⟨h1, h2, h3⟩ := ih hf
        exact ⟨by simp only [List.length_cons]; omega, by simpa using h2, by simpa using h3⟩
theorem uninv_getD (is : Pty → Inv → Bool) {ps : List Pty} {k : Nat} (hk : k < ps.length) : (uninvM is ps).getD k pty0 = { ps.getD k pty0 with inv := (ps.getD k pty0).inv.filter fun i => !is (ps.getD k pty0) i } := by
  unfold uninvM
  rw [List.getD_eq_getElem?_getD, List.getElem?_map, List.getD_eq_getElem?_getD, List.getElem?_eq_getElem hk]
  rfl
theorem filter_less {f : Inv → Bool} {l : List Inv} {i : Inv} (hi : i ∈ l) (hf : f i = false) : (l.filter f).length < l.length := by
  induction l with
  | nil => cases hi
  | cons j r ih =>
    rcases List.mem_cons.mp hi with rfl | hi
    · rw [List.filter_cons_of_neg (by rw [hf]; decide)]
      have := List.length_filter_le f r
      simp only [List.length_cons]; omega
    · have := ih hi
      rw [List.filter_cons]
      split <;> simp only [List.length_cons] <;> omega
theorem answer_fol {h : Hal} (hv : VHal h) {who id : Int} {k : Nat} (ha : askedM who id h.ps = some k) (yes : Bool) : Fol h (answerM h who id yes).1 ∧ (answerM h who id yes).2 = 0 := by
  unfold answerM
  rw [if_pos (valid_iff.mpr hv), ha]
  obtain ⟨hk, hid, hw⟩ := askedM_some _ ha
  have hU : VHal ⟨h.tick, h.last, uninvM (fun p i => decide (i.who = who) && (yes || decide (p.id = id))) h.ps⟩ := uninv_valid hv hv.t0 hv.t1 (Int.le_refl _) hv.l1 (fun p hp i hi hfi ho => ho)
  have hids : ∀ p ∈ uninvM (fun p i => decide (i.who = who) && (yes || decide (p.id = id))) h.ps, ∃ q ∈ h.ps, q.id = p.id := by
    intro p hp
    obtain ⟨q, hq, rfl⟩ := mem_uninv.mp hp
    exact ⟨q, hq, rfl⟩
  refine ⟨?_, rfl⟩
  cases yes with
  | false => exact ⟨hU, Int.le_refl _, Int.le_refl _, fun p hp => Or.inl (hids p hp)⟩
  | true =>
    obtain ⟨i, hi, rfl⟩ := List.mem_map.mp hw
    have hoi := (hv.ok _ (getD_mem36 hk)).2.2.2.2.2.1 i hi
    have hk' : k < (uninvM (fun p j => decide (j.who = i.who) && (true || decide (p.id = id))) h.ps).length := by rw [uninv_len]; exact hk
    have hj := join_valid hU (k := k) (who := i.who) hk' ⟨hoi.1, hoi.2.1⟩ (by show _ ∉ allM (uninvM _ h.ps); rw [allM_uninv]; exact hoi.2.2.1) (fun q hq j hj => ?_) ?_
    · refine ⟨hj, Int.le_refl _, Int.le_refl _, fun p hp => Or.inl ?_⟩
      rcases List.mem_or_eq_of_mem_set hp with h1 | rfl
      · exact hids p h1
      · obtain ⟨q, hq, e⟩ := hids _ (getD_mem36 hk')
        exact ⟨q, hq, e⟩
    · obtain ⟨q', hq', rfl⟩ := mem_uninv.mp hq
      have := (List.mem_filter.mp hj).2
      simpa using this
    · show ((uninvM _ h.ps).getD k pty0).mem.length + ((uninvM _ h.ps).getD k pty0).inv.length < 5
      rw [uninv_getD _ hk]
      have h3 := (hv.ok _ (getD_mem36 hk)).2.2.1
      have h4 : ((h.ps.getD k pty0).inv.filter fun j => !(decide (j.who = i.who) && (true || decide ((h.ps.getD k pty0).id = id)))).length < (h.ps.getD k pty0).inv.length := filter_less hi (by simp)
      show (h.ps.getD k pty0).mem.length + _ < 5
      exact Nat.lt_of_lt_of_le (Nat.add_lt_add_left h4 _) h3
/-- The stage's theorem: an error gives nothing; otherwise the hall is valid, and IDs are never used again. -/
theorem do_fol (h : Hal) (kind : Nat) (a b : Int) : ((doM h kind a b).2 ≠ 0 ∧ (doM h kind a b).1 = hal0) ∨ ((doM h kind a b).2 = 0 ∧ VHal h ∧ Fol h (doM h kind a b).1) := by
  have he : ∀ e : Int, e ≠ 0 → ((hal0, e) : ResP).2 ≠ 0 ∧ ((hal0, e) : ResP).1 = hal0 := fun e h => ⟨h, rfl⟩
  unfold doM
  split
  · by_cases h0 : (advM h a).2 = 0
    · obtain ⟨h1, h2, h3⟩ := adv_valid h0
      have hv : VHal h := by
        refine valid_iff.mp (Decidable.of_not_not fun hc => ?_)
        unfold advM at h0; rw [if_neg hc] at h0; cases h0
      refine Or.inr ⟨h0, hv, ?_⟩
      rw [h3] at h1 ⊢
      refine ⟨h1, Int.le_refl _, h2, fun p hp => Or.inl ?_⟩
      obtain ⟨q, hq, rfl⟩ := mem_uninv.mp hp
      exact ⟨q, hq, rfl⟩
    · refine Or.inl ⟨h0, ?_⟩
      unfold advM at h0 ⊢
      repeat' split
      all_goals first | rfl | (simp_all)
  · by_cases h0 : (createM h a).2 = 0
    · obtain ⟨h1, h2, h3⟩ := create_valid h0
      have hv : VHal h := by
        refine valid_iff.mp (Decidable.of_not_not fun hc => ?_)
        unfold createM at h0; rw [if_neg hc] at h0; cases h0
      refine Or.inr ⟨h0, hv, ?_⟩
      rw [h3] at h1 ⊢
      refine ⟨h1, by show h.last ≤ h.last + 1; omega, Int.le_refl _, fun p hp => ?_⟩
      rcases List.mem_append.mp hp with hp | hp
      · obtain ⟨q, hq, rfl⟩ := mem_uninv.mp hp
        exact Or.inl ⟨q, hq, rfl⟩
      · rw [List.mem_singleton.mp hp]; exact Or.inr ⟨rfl, rfl⟩
    · refine Or.inl ⟨h0, ?_⟩
      unfold createM at h0 ⊢
      repeat' split
      all_goals first | rfl | (simp_all)
  · refine leadM_cases h a _ (fun r => (r.2 ≠ 0 ∧ r.1 = hal0) ∨ (r.2 = 0 ∧ VHal h ∧ Fol h r.1)) (fun e h => Or.inl (he e h)) (fun hv k hk hf hl => ?_)
    split
    · rename_i hw
      split
      · exact Or.inl (he _ (by decide))
      · rename_i hn
        split
        · exact Or.inl (he _ (by decide))
        · rename_i hi
          split
          · rename_i hlen
            exact Or.inr ⟨rfl, hv, fol_set hk rfl (invite_valid hv hk (isIdB_iff.mp hw) hn hi hlen)⟩
          · exact Or.inl (he _ (by decide))
    · exact Or.inl (he _ (by decide))
  · by_cases hv : validHal h = true
    · cases ha : askedM a b h.ps with
      | none => refine Or.inl ?_; unfold answerM; rw [if_pos hv, ha]; exact he _ (by decide)
      | some k => have := answer_fol (valid_iff.mp hv) ha true; exact Or.inr ⟨this.2, valid_iff.mp hv, this.1⟩
    · refine Or.inl ?_; unfold answerM; rw [if_neg hv]; exact he _ (by decide)
  · by_cases hv : validHal h = true
    · cases ha : askedM a b h.ps with
      | none => refine Or.inl ?_; unfold answerM; rw [if_pos hv, ha]; exact he _ (by decide)
      | some k => have := answer_fol (valid_iff.mp hv) ha false; exact Or.inr ⟨this.2, valid_iff.mp hv, this.1⟩
    · refine Or.inl ?_; unfold answerM; rw [if_neg hv]; exact he _ (by decide)
  · unfold leaveM
    split
    · rename_i hv
      split
      · exact Or.inl (he _ (by decide))
      · rename_i k hk
        exact Or.inr ⟨rfl, valid_iff.mp hv, fol_leave (valid_iff.mp hv) (findM_some _ hk).1 a⟩
    · exact Or.inl (he _ (by decide))
  · refine leadM_cases h a _ (fun r => (r.2 ≠ 0 ∧ r.1 = hal0) ∨ (r.2 = 0 ∧ VHal h ∧ Fol h r.1)) (fun e h => Or.inl (he e h)) (fun hv k hk hf hl => ?_)
    split
    · split
      · exact Or.inl (he _ (by decide))
      · exact Or.inr ⟨rfl, hv, fol_leave hv hk b⟩
    · exact Or.inl (he _ (by decide))
  · refine leadM_cases h a _ (fun r => (r.2 ≠ 0 ∧ r.1 = hal0) ∨ (r.2 = 0 ∧ VHal h ∧ Fol h r.1)) (fun e h => Or.inl (he e h)) (fun hv k hk hf hl => ?_)
    split
    · rename_i hb
      exact Or.inr ⟨rfl, hv, fol_set hk rfl (leader_valid hv hk (findM_some _ hb).2)⟩
    · exact Or.inl (he _ (by decide))
  · exact leadM_cases h a _ (fun r => (r.2 ≠ 0 ∧ r.1 = hal0) ∨ (r.2 = 0 ∧ VHal h ∧ Fol h r.1)) (fun e h => Or.inl (he e h)) (fun hv k hk hf hl => Or.inr ⟨rfl, hv, fol_erase hv k⟩)
end Go.Proofs.Ytlfbcoohfnoacaa
