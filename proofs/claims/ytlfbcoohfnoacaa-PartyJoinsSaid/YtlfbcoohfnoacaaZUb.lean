/- Layer 36 (party): the map of the places. Plain Lean. -/
import Derived.Test.YtlfbcoohfnoacaaZUa
set_option linter.unusedSimpArgs false
set_option linter.unusedVariables false
namespace Go.Proofs.Ytlfbcoohfnoacaa
open Go.Fw Go.RowKit
theorem allM_cons (p : Pty) (r : List Pty) : allM (p :: r) = p.mem ++ allM r := rfl
theorem putM_keys (a : Int) (l : List Int) : ∀ (m : List (Int × Int)) (x : Int), x ∈ (putM a l m).map (·.1) ↔ x ∈ l ∨ x ∈ m.map (·.1) := by
  intro m x
  have h1 := mfind_keys (putM a l m) x
  have h2 := mfind_keys m x
  rw [putM_find] at h1
  by_cases hx : x ∈ l
  · rw [if_pos hx] at h1
    have : x ∈ (putM a l m).map (·.1) := by simpa using h1.symm
    exact ⟨fun _ => Or.inl hx, fun _ => this⟩
  · rw [if_neg hx, h2] at h1
    have : (x ∈ m.map (·.1)) ↔ x ∈ (putM a l m).map (·.1) := by simpa using h1
    rw [← this]
    exact ⟨Or.inr, fun h => h.resolve_left hx⟩
theorem placesFrom_has (ps : List Pty) : ∀ (k : Nat) (m : List (Int × Int)) (who : Int), (mfind (placesFrom k ps m) who).isSome = (decide (who ∈ allM ps) || (mfind m who).isSome) := by
  induction ps with
  | nil => intro k m who; simp [placesFrom, allM]
  | cons p r ih =>
    intro k m who
    simp only [placesFrom]
    rw [ih, putM_find, allM_cons]
    by_cases h : who ∈ p.mem
    · rw [if_pos h]; simp [h]
    · rw [if_neg h]; simp [h]
theorem placesFrom_pos (ps : List Pty) : ∀ (k : Nat) (m : List (Int × Int)) (who : Int), (∀ v, mfind m who = some v → 0 < v) → ∀ v, mfind (placesFrom k ps m) who = some v → 0 < v := by
  induction ps with
  | nil => intro k m who h; exact h
  | cons p r ih =>
    intro k m who h
    refine ih (k + 1) _ who (fun v hv => ?_)
    rw [putM_find] at hv
    split at hv
    · cases hv; omega
    · exact h v hv
/-- A player has a place if it is a member of a party. -/
theorem places_pos (ps : List Pty) (who : Int) : decide (0 < mget (placesM ps) who) = decide (who ∈ allM ps) := by
  have h1 := placesFrom_has ps 0 [] who
  have h2 := placesFrom_pos ps 0 [] who (by simp [mfind])
  unfold mget placesM
  cases h : mfind (placesFrom 0 ps []) who with
  | none => rw [h] at h1; simp [mfind] at h1; simp [h1]
  | some v => rw [h] at h1; simp [mfind] at h1; have := h2 v h; simp [h1, this]
theorem places_nonneg (ps : List Pty) (who : Int) : 0 ≤ mget (placesM ps) who := by
  have h2 := placesFrom_pos ps 0 [] who (by simp [mfind])
  unfold mget placesM
  cases h : mfind (placesFrom 0 ps []) who with
  | none => simp
  | some v => have := h2 v h; simp; omega
theorem placesFrom_len (ps : List Pty) : ∀ (k : Nat) (m : List (Int × Int)), (placesFrom k ps m).length ≤ m.length + (allM ps).length ∧ ((placesFrom k ps m).length = m.length + (allM ps).length ↔ (allM ps).Nodup ∧ ∀ x ∈ allM ps, x ∉ m.map (·.1)) := by
  induction ps with
  | nil => intro k m; simp [placesFrom, allM]
  | cons p r ih =>
    intro k m
    simp only [placesFrom]
    obtain ⟨h1, h2⟩ := ih (k + 1) (putM k p.mem m)
    obtain ⟨h3, h4⟩ := putM_len k p.mem m
    rw [allM_cons, List.length_append]
    refine ⟨by omega, ?_⟩
    rw [List.nodup_append]
    constructor
    · intro e
      have e1 : (putM k p.mem m).length = m.length + p.mem.length := by omega
      obtain ⟨n1, d1⟩ := h4.1 e1
      obtain ⟨n2, d2⟩ := h2.1 (by omega)
      refine ⟨⟨n1, n2, fun a ha b hb he => d2 b hb ((putM_keys ..).2 (Or.inl (he ▸ ha)))⟩, fun x hx => ?_⟩
      rcases List.mem_append.mp hx with hx | hx
      · exact d1 x hx
      · exact fun hm => d2 x hx ((putM_keys ..).2 (Or.inr hm))
    · rintro ⟨⟨n1, n2, n3⟩, d⟩
      have e1 := h4.2 ⟨n1, fun x hx => d x (List.mem_append_left _ hx)⟩
      have e2 := h2.2 ⟨n2, fun x hx hm => ?_⟩
      · omega
      · rcases (putM_keys ..).1 hm with h | h
        · exact n3 x h x hx rfl
        · exact d x (List.mem_append_right _ hx) h
/-- The map is as long as the lists only if no player comes twice. -/
theorem places_len (ps : List Pty) : decide ((allM ps).length = (placesM ps).length) = decide (allM ps).Nodup := by
  have h := (placesFrom_len ps 0 []).2
  simp only [List.length_nil, Nat.zero_add, List.map_nil] at h
  unfold placesM
  by_cases hn : (allM ps).Nodup
  · simp [hn, h.2 ⟨hn, fun x _ => List.not_mem_nil⟩]
  · have : ¬ (allM ps).length = (placesFrom 0 ps []).length := fun e => hn (h.1 e.symm).1
    simp [hn, this]
theorem findM_none {who : Int} (ps : List Pty) : findM who ps = none ↔ who ∉ allM ps := by
  induction ps with
  | nil => simp [findM, allM]
  | cons p r ih =>
    simp only [findM]
    rw [allM_cons]
    by_cases h : who ∈ p.mem
    · rw [if_pos h]; simp [h]
    · rw [if_neg h]; simp [h, ih]
theorem findM_some {who : Int} (ps : List Pty) : ∀ {k : Nat}, findM who ps = some k → k < ps.length ∧ who ∈ (ps.getD k pty0).mem := by
  induction ps with
  | nil => intro k h; cases h
  | cons p r ih =>
    intro k h
    simp only [findM] at h
    split at h
    · rename_i hp; cases h; exact ⟨by simp, hp⟩
    · cases hf : findM who r with
      | none => rw [hf] at h; cases h
      | some j =>
        rw [hf] at h; cases h
        obtain ⟨h1, h2⟩ := ih hf
        exact ⟨by simp only [List.length_cons]; omega, by simpa using h2⟩
theorem placesFrom_find (ps : List Pty) : ∀ (k : Nat) (m : List (Int × Int)) (who : Int), (allM ps).Nodup → mfind (placesFrom k ps m) who = match findM who ps with | some j => some ((k : Int) + j + 1) | none => mfind m who := by
  induction ps with
  | nil => intro k m who _; rfl
  | cons p r ih =>
    intro k m who hn
    rw [allM_cons, List.nodup_append] at hn
    simp only [placesFrom, findM]
    rw [ih _ _ _ hn.2.1, putM_find]
    by_cases h : who ∈ p.mem
    · rw [if_pos h, if_pos h]
      rw [(findM_none r).2 (fun hm => hn.2.2 who h who hm rfl)]
      simp
    · rw [if_neg h, if_neg h]
      cases hf : findM who r with
      | none => rfl
      | some j => simp only [Option.map_some]; congr 1; push_cast; omega
/-- The place of a player, plus one; 0: it is in no party. -/
theorem places_find (ps : List Pty) (who : Int) (hn : (allM ps).Nodup) : mget (placesM ps) who = match findM who ps with | some j => (j : Int) + 1 | none => 0 := by
  unfold mget placesM
  rw [placesFrom_find ps 0 [] who hn]
  cases findM who ps with
  | none => rfl
  | some j => simp
/-- Members of two parties are not the same. -/
theorem findM_unique {ps : List Pty} (hn : (allM ps).Nodup) {k : Nat} (hk : k < ps.length) {who : Int} (hm : who ∈ (ps.getD k pty0).mem) : findM who ps = some k := by
  induction ps generalizing k with
  | nil => simp at hk
  | cons p r ih =>
    rw [allM_cons, List.nodup_append] at hn
    simp only [findM]
    cases k with
    | zero => rw [if_pos (by simpa using hm)]
    | succ k =>
      have hk' : k < r.length := by simpa using hk
      have hm' : who ∈ (r.getD k pty0).mem := by simpa using hm
      have hf := ih hn.2.1 hk' hm'
      have hw : who ∈ allM r := by
        refine Decidable.of_not_not fun hc => ?_
        rw [(findM_none r).2 hc] at hf; cases hf
      rw [if_neg (fun h => hn.2.2 who h who hw rfl), hf]; rfl
end Go.Proofs.Ytlfbcoohfnoacaa
