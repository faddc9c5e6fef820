/- A border is moved to the best of all places in reach. Plain mathematics. -/
import Derived.Test.YtdlpnjofdpcjjaaGreatE1
namespace Go.Proofs.YtdlpnjofdpcjjaaGreat
open Go.Fw Go.RowKit
theorem exists_max : ∀ (l : List Int), l ≠ [] → ∃ m ∈ l, ∀ x ∈ l, x ≤ m
  | [], h => absurd rfl h
  | [x], _ => ⟨x, by simp, fun y hy => by simp at hy; omega⟩
  | x :: y :: l, _ => by
    obtain ⟨m, hm, h⟩ := exists_max (y :: l) (by simp)
    by_cases hx : m ≤ x
    · exact ⟨x, by simp, fun z hz => by
        rcases List.mem_cons.1 hz with rfl | hz
        · omega
        · have := h z hz; omega⟩
    · exact ⟨m, List.mem_cons_of_mem _ hm, fun z hz => by
        rcases List.mem_cons.1 hz with rfl | hz
        · omega
        · exact h z hz⟩
theorem exists_min (l : List Int) (h : l ≠ []) : ∃ m ∈ l, ∀ x ∈ l, m ≤ x := by
  obtain ⟨m, hm, hmax⟩ := exists_max (l.map fun x => -x) (by simpa using h)
  obtain ⟨x, hx, rfl⟩ := List.mem_map.1 hm
  exact ⟨x, hx, fun y hy => by have := hmax (-y) (List.mem_map.2 ⟨y, hy, rfl⟩); omega⟩
theorem cntLt_congr {l : List Int} {a c : Int} (h : ∀ x ∈ l, x < a ↔ x < c) : cntLt l a = cntLt l c := by
  unfold cntLt
  rw [List.filter_congr fun x hx => show decide (x < a) = decide (x < c) by
    by_cases h1 : x < a
    · rw [decide_eq_true h1, decide_eq_true ((h x hx).1 h1)]
    · rw [decide_eq_false h1, decide_eq_false (fun e => h1 ((h x hx).2 e))]]
/-- For each place in reach there is one among those that are looked at, with the same difference, and no farther. -/
theorem cand (near : List Int) {lo hi b q : Int} (hb : lo ≤ b ∧ b ≤ hi) (hq : lo ≤ q ∧ q ≤ hi) : ∃ c ∈ placesOf lo hi b near, cntLt near c = cntLt near q ∧ (c = q ∨ absI (c - b) < absI (q - b)) := by
  have hbm : b ∈ placesOf lo hi b near := List.mem_append_left _ (mem_between (by simp) hb.1 hb.2)
  have hxm : ∀ x ∈ near, ∀ c, (c = x ∨ c = x + 1) → lo ≤ c → c ≤ hi → c ∈ placesOf lo hi b near := fun x hx c hc h1 h2 =>
    List.mem_append_right _ (List.mem_flatMap.2 ⟨x, hx, mem_between (by simp; exact hc) h1 h2⟩)
  rcases Int.lt_trichotomy q b with hlt | heq | hgt
  · by_cases hn : near.filter (fun x => decide (q ≤ x) && decide (x < b)) = []
    · refine ⟨b, hbm, cntLt_congr fun x hx => ?_, .inr (by unfold absI; omega)⟩
      have := List.filter_eq_nil_iff.1 hn x hx
      simp only [Bool.and_eq_true, decide_eq_true_eq] at this
      omega
    · obtain ⟨x, hx, hmin⟩ := exists_min _ hn
      simp only [List.mem_filter, Bool.and_eq_true, decide_eq_true_eq] at hx
      refine ⟨x, hxm x hx.1 x (.inl rfl) (by omega) (by omega), cntLt_congr fun y hy => ?_, ?_⟩
      · have := hmin y
        simp only [List.mem_filter, Bool.and_eq_true, decide_eq_true_eq] at this
        constructor
        · intro h
          by_cases hy2 : q ≤ y
          · have := this ⟨hy, hy2, by omega⟩; omega
          · omega
        · omega
      · unfold absI; omega
  · exact ⟨b, hbm, by rw [heq], .inl heq.symm⟩
  · by_cases hn : near.filter (fun x => decide (b ≤ x) && decide (x < q)) = []
    · refine ⟨b, hbm, cntLt_congr fun x hx => ?_, .inr (by unfold absI; omega)⟩
      have := List.filter_eq_nil_iff.1 hn x hx
      simp only [Bool.and_eq_true, decide_eq_true_eq] at this
      omega
    · obtain ⟨x, hx, hmax⟩ := exists_max _ hn
      simp only [List.mem_filter, Bool.and_eq_true, decide_eq_true_eq] at hx
      refine ⟨x + 1, hxm x hx.1 (x + 1) (.inr rfl) (by omega) (by omega), cntLt_congr fun y hy => ?_, ?_⟩
      · have := hmax y
        simp only [List.mem_filter, Bool.and_eq_true, decide_eq_true_eq] at this
        constructor
        · omega
        · intro h
          by_cases hy2 : b ≤ y
          · have := this ⟨hy, hy2, h⟩; omega
          · omega
      · unfold absI; omega
theorem bestOf_all (near : List Int) {lo hi b q : Int} (hb : lo ≤ b ∧ b ≤ hi) (hq : lo ≤ q ∧ q ≤ hi) : ¬ ltS b (spotAt near q) (bestOf b ((placesOf lo hi b near).map (spotAt near))) := by
  obtain ⟨c, hc, h1, h2⟩ := cand near hb hq
  have hbest := bestOf_best b _ _ (List.mem_map.2 ⟨c, hc, rfl⟩ : spotAt near c ∈ (placesOf lo hi b near).map (spotAt near))
  rcases h2 with rfl | h2
  · exact hbest
  · intro h
    refine hbest (ltS_trans ?_ h)
    refine .inr ⟨?_, .inl h2⟩
    simp only [spotAt, diffAt, cntB, h1]
/-- Where a border comes to: no place in reach is better. -/
theorem newAt_best {bs ps : List Int} {i : Nat} {step slack : Int} (h1 : loB bs i ≤ bs.getD i 0) (h2 : bs.getD i 0 ≤ hiB bs i) (hs : 0 ≤ step) (hd : slack < diffAt (nearOf bs ps i) (bs.getD i 0)) {q : Int}
    (hq1 : loB bs i ≤ q ∧ q ≤ hiB bs i) (hq2 : bs.getD i 0 - step ≤ q ∧ q ≤ bs.getD i 0 + step) : ¬ ltS (bs.getD i 0) (spotAt (nearOf bs ps i) q) (spotAt (nearOf bs ps i) (newAt bs ps i step slack)) := by
  unfold newAt
  rw [if_neg (by omega)]
  generalize nearOf bs ps i = near at *
  have hb : max (loB bs i) (bs.getD i 0 - step) ≤ bs.getD i 0 ∧ bs.getD i 0 ≤ min (hiB bs i) (bs.getD i 0 + step) := by omega
  have hq : max (loB bs i) (bs.getD i 0 - step) ≤ q ∧ q ≤ min (hiB bs i) (bs.getD i 0 + step) := by omega
  have hall := bestOf_all near hb hq
  have hpos := placesOf_pos (near := near) hb.1 hb.2
  have hin := bestOf_mem (bs.getD i 0) ((placesOf (max (loB bs i) (bs.getD i 0 - step)) (min (hiB bs i) (bs.getD i 0 + step)) (bs.getD i 0) near).map (spotAt near)) (by rw [List.length_map]; exact hpos)
  obtain ⟨x, _, hx⟩ := List.mem_map.1 hin
  rw [← hx] at hall ⊢
  exact hall
end Go.Proofs.YtdlpnjofdpcjjaaGreat
