/- Layer 36 (party): other parties. Plain Lean. -/
import Derived.Test.YtlfbcoohfnoacaaZUj
set_option linter.unusedSimpArgs false
set_option linter.unusedVariables false
namespace Go.Proofs.Ytlfbcoohfnoacaa
open Go.Fw Go.RowKit
/-- What another party may lose: the invitations of a player. -/
def othOK (a : Int) (p q : Pty) : Prop := q.id = p.id ∧ q.leader = p.leader ∧ q.mem = p.mem ∧ (q.inv = p.inv ∨ q.inv = p.inv.filter fun i => !decide (i.who = a))
def idOf (o : Option Pty) : Int := (o.getD pty0).id
theorem oth_same (a : Int) (p : Pty) : othOK a p p := ⟨rfl, rfl, rfl, Or.inl rfl⟩
theorem mem_set_ne {ps : List Pty} {k : Nat} {p x : Pty} (hk : k < ps.length) (hp : p ∈ ps) (hne : p ≠ ps.getD k pty0) : p ∈ ps.set k x := by
  rw [ps_set hk]
  rw [ps_split hk] at hp
  rcases List.mem_append.mp hp with h | h
  · exact List.mem_append_left _ h
  · rcases List.mem_cons.mp h with e | h
    · exact absurd e hne
    · exact List.mem_append_right _ (List.mem_cons_of_mem _ h)
theorem mem_erase_ne {ps : List Pty} {k : Nat} {p : Pty} (hk : k < ps.length) (hp : p ∈ ps) (hne : p ≠ ps.getD k pty0) : p ∈ ps.eraseIdx k := by
  rw [ps_erase]
  rw [ps_split hk] at hp
  rcases List.mem_append.mp hp with h | h
  · exact List.mem_append_left _ h
  · rcases List.mem_cons.mp h with e | h
    · exact absurd e hne
    · exact List.mem_append_right _ h
theorem idOf_find {h : Hal} (hv : VHal h) {a : Int} {k : Nat} (hf : findM a h.ps = some k) : idOf (ofM h a) = (h.ps.getD k pty0).id := by
  unfold idOf ofM
  rw [if_pos (valid_iff.mpr hv), hf]
  rfl
theorem ne_of_id {p q : Pty} (h : p.id ≠ q.id) : p ≠ q := fun e => h (by rw [e])
/-- The hall behind it, as it lies to the one ahead of it. -/
structure Oth (h n : Hal) (a : Int) : Prop where
  oth : ∀ p ∈ h.ps, p.id ≠ idOf (ofM h a) → p.id ≠ idOf (ofM n a) → ∃ q ∈ n.ps, othOK a p q
  up : n.ps.length ≤ h.ps.length + 1
  down : h.ps.length ≤ n.ps.length + 1
theorem oth_set {h : Hal} (hv : VHal h) {a : Int} {k : Nat} (hf : findM a h.ps = some k) (x : Pty) : Oth h ⟨h.tick, h.last, h.ps.set k x⟩ a := by
  have hk := (findM_some _ hf).1
  have hl : (h.ps.set k x).length = h.ps.length := List.length_set ..
  refine ⟨fun p hp h1 _ => ⟨p, mem_set_ne hk hp (ne_of_id (by rw [idOf_find hv hf] at h1; exact h1)), oth_same a p⟩, ?_, ?_⟩
  · show (h.ps.set k x).length ≤ _; omega
  · show _ ≤ (h.ps.set k x).length + 1; omega
theorem oth_erase {h : Hal} (hv : VHal h) {a : Int} {k : Nat} (hf : findM a h.ps = some k) : Oth h ⟨h.tick, h.last, h.ps.eraseIdx k⟩ a := by
  have hk := (findM_some _ hf).1
  have hl : (h.ps.eraseIdx k).length = h.ps.length - 1 := by rw [List.length_eraseIdx, if_pos hk]
  refine ⟨fun p hp h1 _ => ⟨p, mem_erase_ne hk hp (ne_of_id (by rw [idOf_find hv hf] at h1; exact h1)), oth_same a p⟩, ?_, ?_⟩
  · show (h.ps.eraseIdx k).length ≤ _; omega
  · show _ ≤ (h.ps.eraseIdx k).length + 1; omega
theorem oth_leave {h : Hal} (hv : VHal h) {a : Int} {k : Nat} (hf : findM a h.ps = some k) (who : Int) : Oth h (leaveAt h k who) a := by
  unfold leaveAt
  split
  · exact oth_erase hv hf
  · exact oth_set hv hf _
theorem oth_uninv {ps : List Pty} {is : Pty → Inv → Bool} {a : Int} (hi : ∀ p, (∀ i, is p i = decide (i.who = a)) ∨ ∀ i, is p i = false) {p : Pty} (hp : p ∈ ps) : ∃ q ∈ uninvM is ps, othOK a p q := by
  refine ⟨_, mem_uninv.mpr ⟨p, hp, rfl⟩, rfl, rfl, rfl, ?_⟩
  rcases hi p with h | h
  · exact Or.inr (List.filter_congr fun i _ => by rw [h i])
  · exact Or.inl (List.filter_eq_self.mpr fun i _ => by rw [h i]; rfl)
/-- What is done (but Advance) leaves other parties as they are. -/
theorem do_oth {h : Hal} {kind : Nat} {a b : Int} (hk0 : kind ≠ 0) (h0 : (doM h kind a b).2 = 0) : Oth h (doM h kind a b).1 a := by
  have hlead : ∀ f : Nat → ResP, (∀ k, VHal h → findM a h.ps = some k → (f k).2 = 0 → Oth h (f k).1 a) → (leadM h a f).2 = 0 → Oth h (leadM h a f).1 a := fun f hf =>
    leadM_cases h a f (fun r => r.2 = 0 → Oth h r.1 a) (fun e he hc => absurd hc he) (fun hv k hk hfd hl hc => hf k hv hfd hc)
  have hfol := do_fol h kind a b
  unfold doM at h0 hfol ⊢
  split at h0
  · exact absurd rfl hk0
  · obtain ⟨h1, h2, h3⟩ := create_valid h0
    rw [h3]
    refine ⟨fun p hp _ _ => ?_, ?_, ?_⟩
    · obtain ⟨q, hq, ho⟩ := oth_uninv (is := fun _ i => decide (i.who = a)) (a := a) (fun p => Or.inl fun i => rfl) hp
      exact ⟨q, List.mem_append_left _ hq, ho⟩
    · show (_ ++ [_] : List Pty).length ≤ _
      rw [List.length_append, uninv_len]; exact Nat.le_refl _
    · show _ ≤ (_ ++ [_] : List Pty).length + 1
      rw [List.length_append, uninv_len]; omega
  · refine hlead _ (fun k hv hf hc => ?_) h0
    try simp only at hc
    try simp only
    split at hc
    · rename_i c1
      rw [if_pos c1]
      split at hc
      · cases hc
      · rename_i c2
        rw [if_neg c2]
        split at hc
        · cases hc
        · rename_i c3
          rw [if_neg c3]
          split at hc
          · rename_i c4; rw [if_pos c4]; exact oth_set hv hf _
          · cases hc
    · cases hc
  · have hv : VHal h := by
      refine valid_iff.mp (Decidable.of_not_not fun hc => ?_)
      unfold answerM at h0; rw [if_neg hc] at h0; cases h0
    cases ha : askedM a b h.ps with
    | none => unfold answerM at h0; rw [if_pos (valid_iff.mpr hv), ha] at h0; cases h0
    | some k =>
      obtain ⟨g1, g2⟩ := accept_in hv ha
      obtain ⟨hk, hid, hw⟩ := askedM_some _ ha
      have hk' : k < (uninvM (fun p i => decide (i.who = a) && (true || decide (p.id = b))) h.ps).length := by rw [uninv_len]; exact hk
      have hps : (answerM h a b true).1.ps = (uninvM (fun p i => decide (i.who = a) && (true || decide (p.id = b))) h.ps).set k { (uninvM (fun p i => decide (i.who = a) && (true || decide (p.id = b))) h.ps).getD k pty0 with mem := ((uninvM (fun p i => decide (i.who = a) && (true || decide (p.id = b))) h.ps).getD k pty0).mem ++ [a] } := by
        unfold answerM
        rw [if_pos (valid_iff.mpr hv), ha]
        rfl
      refine ⟨fun p hp _ hn => ?_, ?_, ?_⟩
      · have hn' : p.id ≠ (h.ps.getD k pty0).id := by
          unfold idOf at hn
          rw [g2] at hn
          exact hn
        obtain ⟨q, hq, ho⟩ := oth_uninv (is := fun p i => decide (i.who = a) && (true || decide (p.id = b))) (a := a) (fun p => Or.inl fun i => by simp) hp
        rw [hps]
        refine ⟨q, mem_set_ne hk' hq (ne_of_id ?_), ho⟩
        rw [uninv_getD _ hk, ho.1]
        exact hn'
      · rw [hps, List.length_set, uninv_len]; omega
      · rw [hps, List.length_set, uninv_len]; omega
  · have hv : VHal h := by
      refine valid_iff.mp (Decidable.of_not_not fun hc => ?_)
      unfold answerM at h0; rw [if_neg hc] at h0; cases h0
    cases ha : askedM a b h.ps with
    | none => unfold answerM at h0; rw [if_pos (valid_iff.mpr hv), ha] at h0; cases h0
    | some k =>
      obtain ⟨_, hps, _⟩ := decline_out hv ha
      refine ⟨fun p hp _ hn => ?_, ?_, ?_⟩
      · rw [hps]
        refine oth_uninv (fun p => ?_) hp
        by_cases hid : p.id = b
        · exact Or.inl fun i => by simp [hid]
        · exact Or.inr fun i => by simp [hid]
      · rw [hps, uninv_len]; omega
      · rw [hps, uninv_len]; omega
  · unfold leaveM at h0 ⊢
    split at h0
    · rename_i hv
      rw [if_pos hv]
      split at h0
      · cases h0
      · rename_i k hf
        exact oth_leave (valid_iff.mp hv) hf a
    · cases h0
  · refine hlead _ (fun k hv hf hc => ?_) h0
    try simp only at hc
    try simp only
    split at hc
    · rename_i c1
      rw [if_pos c1]
      split at hc
      · cases hc
      · rename_i c2; rw [if_neg c2]; exact oth_leave hv hf b
    · cases hc
  · refine hlead _ (fun k hv hf hc => ?_) h0
    try simp only at hc
    try simp only
    split at hc
    · rename_i c1; rw [if_pos c1]; exact oth_set hv hf _
    · cases hc
  · exact hlead _ (fun k hv hf hc => oth_erase hv hf) h0
/-- In a valid hall a party is found by its ID. -/
theorem find_mem {h : Hal} (hv : VHal h) {q : Pty} (hq : q ∈ h.ps) : ∃ j, j < h.ps.length ∧ idxP q.id h.ps = some j ∧ h.ps.getD j pty0 = q := by
  obtain ⟨j, hj, rfl⟩ := List.mem_iff_getElem.mp hq
  have hg : h.ps.getD j pty0 = h.ps[j] := by rw [List.getD_eq_getElem?_getD, List.getElem?_eq_getElem hj]; rfl
  exact ⟨j, hj, idxP_at hv.ids hj (by rw [hg]), hg⟩
end Go.Proofs.Ytlfbcoohfnoacaa
