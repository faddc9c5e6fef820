/- What rounds do to the loads: sums, squares, ends. Plain mathematics. -/
import Derived.Test.YtdlpnjofdpcjjaaE1
namespace Go.Proofs.Ytdlpnjofdpcjjaa
open Go.Fw Go.RowKit
def sm (f : Nat → Int) : Nat → Int
  | 0 => 0
  | n + 1 => sm f n + f n
theorem sm_map (f : Nat → Int) : ∀ n, ((List.range n).map f).sum = sm f n
  | 0 => rfl
  | n + 1 => by rw [List.range_succ, List.map_append, List.sum_append, sm_map f n]; simp [sm]
theorem sm_two {f f' : Nat → Int} {i : Nat} : ∀ n, (∀ z, z < n → z ≠ i → z ≠ i + 1 → f' z = f z) → sm f' n - sm f n = (if i < n then f' i - f i else 0) + (if i + 1 < n then f' (i + 1) - f (i + 1) else 0)
  | 0, _ => by simp [sm]
  | n + 1, h => by
    have ih := sm_two (f := f) (f' := f') (i := i) n fun z hz => h z (by omega)
    simp only [sm]
    by_cases h1 : n = i
    · subst h1
      rw [if_neg (by omega), if_neg (by omega)] at ih
      rw [if_pos (by omega), if_neg (by omega)]
      omega
    · by_cases h2 : n = i + 1
      · subst h2
        rw [if_pos (by omega), if_neg (by omega)] at ih
        rw [if_pos (by omega), if_pos (by omega)]
        omega
      · have := h n (by omega) h1 h2
        by_cases h3 : i < n
        · rw [if_pos h3, if_pos (by omega)] at ih
          rw [if_pos (by omega), if_pos (by omega)]
          omega
        · rw [if_neg h3, if_neg (by omega)] at ih
          rw [if_neg (by omega), if_neg (by omega)]
          omega
theorem sq_less {L R L' R' : Int} (h : L' + R' = L + R) (hd : max (L' - R') (-(L' - R')) < max (L - R) (-(L - R))) : L' * L' + R' * R' < L * L + R * R := by
  obtain ⟨t, rfl⟩ : ∃ t, L' = L + t := ⟨L' - L, by omega⟩
  obtain rfl : R' = R - t := by omega
  have key : t * (L - R + t) < 0 := by
    rcases Int.lt_trichotomy t 0 with ht | ht | ht
    · exact Int.mul_neg_of_neg_of_pos ht (by omega)
    · exfalso; omega
    · exact Int.mul_neg_of_pos_of_neg ht (by omega)
  have e : (L + t) * (L + t) + (R - t) * (R - t) = L * L + R * R + 2 * (t * (L - R + t)) := by grind
  rw [e]
  omega
def sqs (f : Nat → Int) : Nat → Int := fun z => f z * f z
/-- What one move does to the loads f of the zones 0 .. n. -/
structure Fair (f f' : Nat → Int) (n : Nat) : Prop where
  sum : sm f' n = sm f n
  lo : ∀ m, (∀ z, z < n → m ≤ f z) → ∀ z, z < n → m ≤ f' z
  hi : ∀ m, (∀ z, z < n → f z ≤ m) → ∀ z, z < n → f' z ≤ m
theorem Fair.refl (f : Nat → Int) (n : Nat) : Fair f f n := ⟨rfl, fun _ h => h, fun _ h => h⟩
theorem Fair.trans {f g h : Nat → Int} {n : Nat} (a : Fair f g n) (b : Fair g h n) : Fair f h n := ⟨b.sum.trans a.sum, fun m k => b.lo m (a.lo m k), fun m k => b.hi m (a.hi m k)⟩
theorem move_loads {bs ps : List Int} (hg : Good bs) (hp : ∀ p ∈ ps, In20 p) {i : Nat} (hi : i < bs.length) {step slack : Int} (hs : 0 ≤ step) :
    Fair (load bs ps) (load (bs.set i (newAt bs ps i step slack)) ps) (bs.length + 1) ∧
    (bs.set i (newAt bs ps i step slack) = bs ∨ sm (sqs (load (bs.set i (newAt bs ps i step slack)) ps)) (bs.length + 1) < sm (sqs (load bs ps)) (bs.length + 1)) := by
  obtain ⟨g1, g2⟩ := hg i hi
  have hr := newAt_rng (ps := ps) (step := step) (slack := slack) g1 g2 hs
  have hg' := good_set hg hi hr.1 hr.2.1
  rcases newAt_less bs ps i step slack g1 g2 hs with he | hless
  · have e : bs.set i (newAt bs ps i step slack) = bs := by
      rw [he]
      apply List.ext_getElem?
      intro j
      rw [List.getElem?_set]
      by_cases hij : i = j
      · subst hij; simp [hi]
      · simp [hij]
    rw [e]
    exact ⟨Fair.refl _ _, .inl rfl⟩
  · generalize newAt bs ps i step slack = v at *
    obtain ⟨a1, a2⟩ := loads_at hg hp hi
    obtain ⟨b1, b2⟩ := loads_at hg' hp (i := i) (by rw [List.length_set]; exact hi)
    rw [near_set, getD_set_self _ _ _ hi] at b1 b2
    have ho : ∀ z, z < bs.length + 1 → z ≠ i → z ≠ i + 1 → load (bs.set i v) ps z = load bs ps z := fun z hz h1 h2 => load_other hg hp hg' (by omega) h1 h2
    unfold diffAt at hless
    have hsum : load (bs.set i v) ps i + load (bs.set i v) ps (i + 1) = load bs ps i + load bs ps (i + 1) := by omega
    have hdf : max (load (bs.set i v) ps i - load (bs.set i v) ps (i + 1)) (-(load (bs.set i v) ps i - load (bs.set i v) ps (i + 1))) < max (load bs ps i - load bs ps (i + 1)) (-(load bs ps i - load bs ps (i + 1))) := by omega
    have hsq := sq_less hsum hdf
    generalize load (bs.set i v) ps = f' at *
    generalize load bs ps = f at *
    have hin : i < bs.length + 1 := by omega
    have hin2 : i + 1 < bs.length + 1 := by omega
    refine ⟨⟨?_, fun m h z hz => ?_, fun m h z hz => ?_⟩, .inr ?_⟩
    · have := sm_two (f := f) (f' := f') (i := i) (bs.length + 1) ho
      rw [if_pos hin, if_pos hin2] at this
      omega
    · have m1 := h i hin
      have m2 := h (i + 1) hin2
      by_cases h1 : z = i
      · subst h1; omega
      · by_cases h2 : z = i + 1
        · subst h2; omega
        · rw [ho z hz h1 h2]; exact h z hz
    · have m1 := h i hin
      have m2 := h (i + 1) hin2
      by_cases h1 : z = i
      · subst h1; omega
      · by_cases h2 : z = i + 1
        · subst h2; omega
        · rw [ho z hz h1 h2]; exact h z hz
    · have := sm_two (f := sqs f) (f' := sqs f') (i := i) (bs.length + 1) (fun z hz h1 h2 => by simp only [sqs, ho z hz h1 h2])
      rw [if_pos hin, if_pos hin2] at this
      simp only [show ∀ (g : Nat → Int) z, sqs g z = g z * g z from fun _ _ => rfl] at this
      omega
/-- What a round does. -/
theorem round_loads {bs ps : List Int} (hg : Good bs) (hp : ∀ p ∈ ps, In20 p) {step slack : Int} (hs : 0 ≤ step) : ∀ k, k ≤ bs.length →
    Fair (load bs ps) (load (roundTo bs ps step slack k) ps) (bs.length + 1) ∧
    (roundTo bs ps step slack k = bs ∨ sm (sqs (load (roundTo bs ps step slack k) ps)) (bs.length + 1) < sm (sqs (load bs ps)) (bs.length + 1)) ∧
    (∀ j, k ≤ j → (roundTo bs ps step slack k).getD j 0 = bs.getD j 0) ∧ ∀ j, j < bs.length → bs.getD j 0 - step ≤ (roundTo bs ps step slack k).getD j 0 ∧ (roundTo bs ps step slack k).getD j 0 ≤ bs.getD j 0 + step
  | 0, _ => ⟨Fair.refl _ _, .inl rfl, fun _ _ => rfl, fun j _ => by simp only [roundTo]; omega⟩
  | k + 1, hk => by
    obtain ⟨h1, h2, h3, h4⟩ := round_loads hg hp hs k (by omega)
    have hgk := roundTo_good (ps := ps) (slack := slack) hg hs k (by omega)
    have hlk := roundTo_len bs ps step slack k
    have hik : k < (roundTo bs ps step slack k).length := by omega
    obtain ⟨m1, m2⟩ := move_loads hgk hp hik (slack := slack) hs
    have hrng := newAt_rng (ps := ps) (step := step) (slack := slack) (hgk k hik).1 (hgk k hik).2 hs
    rw [hlk] at m1 m2
    rw [roundTo]
    have hk3 := h3 k (Nat.le_refl _)
    refine ⟨h1.trans m1, ?_, fun j hj => by rw [getD_set_ne' _ _ _ _ (by omega)]; exact h3 j (by omega), fun j hj => ?_⟩
    · rcases m2 with e | hlt
      · rw [e]; exact h2
      · rcases h2 with e2 | hlt2
        · rw [e2] at hlt ⊢; exact .inr hlt
        · exact .inr (by omega)
    · by_cases hjk : k = j
      · subst hjk
        rw [getD_set_self _ _ _ hik]
        omega
      · rw [getD_set_ne' _ _ _ _ hjk]; exact h4 j hj
end Go.Proofs.Ytdlpnjofdpcjjaa
