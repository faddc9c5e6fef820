/- Zones and loads: plain lemmas. -/
import Derived.Test.YtdlpnjofdpcjjaaGreatB5
namespace Go.Proofs.YtdlpnjofdpcjjaaGreat
open Go.Fw Go.RowKit
theorem zone_props (p : Int) : ∀ (l : List Int), Inc l → (0 < zoneOf l p → l.getD (zoneOf l p - 1) 0 ≤ p) ∧ (zoneOf l p < l.length → p < l.getD (zoneOf l p) 0)
  | [], _ => by simp [zoneOf]
  | b :: l, hs => by
    have hs' : Inc l := fun i j hij hj => by have := hs (i + 1) (j + 1) (by omega) (by simpa using hj); simpa using this
    obtain ⟨h1, h2⟩ := zone_props p l hs'
    by_cases hb : b ≤ p
    · have e : zoneOf (b :: l) p = zoneOf l p + 1 := by simp [zoneOf, hb]
      rw [e]
      refine ⟨fun _ => ?_, fun h => by simp only [List.getD_cons_succ]; exact h2 (by simpa using h)⟩
      rw [Nat.add_sub_cancel]
      cases hz : zoneOf l p with
      | zero => simpa using hb
      | succ k =>
        rw [hz] at h1
        simpa using h1 (by omega)
    · have e : zoneOf (b :: l) p = 0 := by
        have : l.filter (fun b => decide (b ≤ p)) = [] := List.filter_eq_nil_iff.2 fun y hy => by
          obtain ⟨k, hk, rfl⟩ := List.getElem_of_mem hy
          have := hs 0 (k + 1) (by omega) (by simpa using hk)
          simp [hk] at this
          simp; omega
        simp [zoneOf, hb, this]
      rw [e]
      exact ⟨fun h => by omega, fun _ => by simp; omega⟩
theorem loads_le (bs : List Int) : ∀ (ps L : List Int) (c : Int), (∀ i, 0 ≤ L.getD i 0 ∧ L.getD i 0 ≤ c) → ∀ i, 0 ≤ (ps.foldl (fun L x => bump L (zoneOf bs x)) L).getD i 0 ∧ (ps.foldl (fun L x => bump L (zoneOf bs x)) L).getD i 0 ≤ c + ps.length
  | [], L, c, h, i => by simpa using h i
  | p :: ps, L, c, h, i => by
    have := loads_le bs ps (bump L (zoneOf bs p)) (c + 1) (fun j => by
      have := h j
      rw [bump_get]
      split <;> omega) i
    simp only [List.foldl_cons, List.length_cons]
    omega
theorem loadsL_snoc (bs ps : List Int) (x : Int) : loadsL bs (ps ++ [x]) = bump (loadsL bs ps) (zoneOf bs x) := by simp [loadsL, List.foldl_append]
theorem bump_take (L : List Int) (i m : Nat) (h : i < m) : (bump L i).take m = bump (L.take m) i := by
  unfold bump
  rw [List.take_set]
  congr 1
  simp only [List.getD_eq_getElem?_getD, List.getElem?_take_of_lt h]
theorem getD_take (L : List Int) {i m : Nat} (h : i < m) : (L.take m).getD i 0 = L.getD i 0 := by
  simp only [List.getD_eq_getElem?_getD, List.getElem?_take_of_lt h]
end Go.Proofs.YtdlpnjofdpcjjaaGreat
