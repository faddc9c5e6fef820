/- Layer 36 (party): time and shares. Plain Lean. -/
import Derived.Test.YtlfbcoohfnoacaaZUe
set_option linter.unusedSimpArgs false
set_option linter.unusedVariables false
namespace Go.Proofs.Ytlfbcoohfnoacaa
open Go.Fw Go.RowKit
/-- The hall at a later tick. -/
def atM (h : Hal) (t : Int) : Hal := ⟨t, h.last, uninvM (fun _ i => decide (i.till ≤ t)) h.ps⟩
theorem advM_eq {h : Hal} (hv : VHal h) {t : Int} (h1 : h.tick ≤ t) (h2 : t ≤ 1073741824) : advM h t = (atM h t, 0) := by
  unfold advM
  have := hv.t0
  rw [if_pos (valid_iff.mpr hv), if_pos ⟨by omega, h2⟩, if_neg (by omega)]
  rfl
theorem at_valid {h : Hal} (hv : VHal h) {t : Int} (h1 : h.tick ≤ t) (h2 : t ≤ 1073741824) : VHal (atM h t) := by
  have := adv_valid (h := h) (t := t) (by rw [advM_eq hv h1 h2])
  rw [advM_eq hv h1 h2] at this
  exact this.1
theorem advM_back {h : Hal} (hv : VHal h) {t : Int} (h1 : t < h.tick) (h2 : 0 ≤ t) : advM h t = (hal0, 360) := by
  unfold advM
  have := hv.t1
  rw [if_pos (valid_iff.mpr hv), if_pos ⟨h2, by omega⟩, if_pos h1]
/-- Time in two parts is time at once. -/
theorem at_two (h : Hal) {s t : Int} (hst : s ≤ t) : atM (atM h s) t = atM h t := by
  unfold atM
  congr 1
  show uninvM _ (uninvM _ h.ps) = uninvM _ h.ps
  unfold uninvM
  rw [List.map_map]
  refine List.map_congr_left fun p _ => ?_
  show Pty.mk _ _ _ _ = Pty.mk _ _ _ _
  congr 1
  rw [List.filter_filter]
  refine List.filter_congr fun i _ => ?_
  by_cases h1 : i.till ≤ t
  · simp [h1]
  · have : ¬ i.till ≤ s := by omega
    simp [h1, this]
theorem shares_len (amount : Int) (n : Nat) : (sharesM amount n).length = n := by unfold sharesM; rw [List.length_map, List.length_range]
theorem shares_at (amount : Int) {n i : Nat} (hi : i < n) : (sharesM amount n).getD i 0 = amount / (n : Int) + (if (i : Int) < amount % (n : Int) then 1 else 0) := by
  unfold sharesM
  rw [List.getD_eq_getElem?_getD, List.getElem?_map, List.getElem?_range hi]
  rfl
/-- What is added up of the first shares. -/
theorem shares_take (amount : Int) (n : Nat) : ∀ k : Nat, (((List.range k).map fun (i : Nat) => amount / (n : Int) + (if (i : Int) < amount % (n : Int) then 1 else 0)).sum : Int) = k * (amount / n) + (if (k : Int) ≤ amount % n then (k : Int) else if 0 ≤ amount % n then amount % n else 0) := by
  intro k
  induction k with
  | zero => simp; omega
  | succ k ih =>
    rw [List.range_succ, List.map_append, List.sum_append, ih]
    simp only [List.map_cons, List.map_nil, List.sum_cons, List.sum_nil]
    have e : ((k + 1 : Nat) : Int) * (amount / n) = k * (amount / n) + amount / n := by rw [Int.natCast_add, Int.add_mul]; simp
    rw [e]
    generalize (k : Int) * (amount / n) = u
    generalize amount / (n : Int) = v
    generalize amount % (n : Int) = w
    push_cast
    split <;> split <;> split <;> (try split) <;> (try split) <;> omega
theorem shares_sum {amount : Int} {n : Nat} (hn : 0 < n) : ((sharesM amount n).sum : Int) = amount := by
  unfold sharesM
  rw [shares_take]
  have h1 := Int.emod_nonneg amount (b := (n : Int)) (by omega)
  have h2 := Int.emod_lt_of_pos amount (b := (n : Int)) (by omega)
  have h3 := Int.mul_ediv_add_emod amount n
  rw [if_neg (by omega), if_pos h1]
  exact h3
/-- Shares do not grow, differ by at most one, and are not negative. -/
theorem shares_prev {amount : Int} {n i : Nat} (hi : i + 1 < n) : (sharesM amount n).getD (i + 1) 0 ≤ (sharesM amount n).getD i 0 := by
  rw [shares_at amount hi, shares_at amount (by omega : i < n)]
  push_cast
  split <;> split <;> omega
theorem shares_first {amount : Int} {n i : Nat} (hi : i < n) : (sharesM amount n).getD 0 0 - (sharesM amount n).getD i 0 ≤ 1 := by
  rw [shares_at amount hi, shares_at amount (by omega : 0 < n)]
  split <;> split <;> omega
theorem shares_pos {amount : Int} (ha : 0 ≤ amount) {n i : Nat} (hi : i < n) : 0 ≤ (sharesM amount n).getD i 0 := by
  rw [shares_at amount hi]
  have := Int.ediv_nonneg ha (b := (n : Int)) (by omega)
  split <;> omega
end Go.Proofs.Ytlfbcoohfnoacaa
