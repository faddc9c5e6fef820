/- Layer 24: worlds that are made of forms (printed by gen_pm24.py). Plain Lean. -/
import Derived.Test.YtjefoecnciepmaaDoorZLm24
set_option linter.unusedSimpArgs false
set_option linter.unusedVariables false
namespace Go.Proofs.YtjefoecnciepmaaDoor
open Go.Fw Go.RowKit
theorem lt10 {i : Nat} (h : i < 10) : i = 0 ∨ i = 1 ∨ i = 2 ∨ i = 3 ∨ i = 4 ∨ i = 5 ∨ i = 6 ∨ i = 7 ∨ i = 8 ∨ i = 9 := by omega
theorem all10_kind (f : Form) {i : Nat} (h : i < 10) : ((all10 f).getD i Flat.dflt).kind = (i : Int) + 1 := by
  rcases lt10 h with rfl | rfl | rfl | rfl | rfl | rfl | rfl | rfl | rfl | rfl <;> rfl
theorem formN_mem {f : Form} {c : Comp} : c ∈ formN f 10 ↔ ∃ i, i < 10 ∧ hasBit f i = true ∧ (all10 f).getD i Flat.dflt = c := by
  unfold formN
  simp only [List.mem_map, List.mem_filter, List.mem_range]
  constructor
  · rintro ⟨i, ⟨h1, h2⟩, h3⟩; exact ⟨i, h1, h2, h3⟩
  · rintro ⟨i, h1, h2, h3⟩; exact ⟨i, ⟨h1, h2⟩, h3⟩
theorem formN_up (f : Form) : Rising Comp.kind (formN f 10) := by
  unfold Rising formN
  rw [List.pairwise_map]
  refine List.Pairwise.imp_of_mem ?_ (List.Pairwise.filter _ List.pairwise_lt_range)
  intro a b ha hb hab
  simp only [List.mem_filter, List.mem_range] at ha hb
  rw [all10_kind f ha.1, all10_kind f hb.1]
  omega
theorem all10_fits {f : Form} (h : f.Ok) {i : Nat} (hi : i < 10) : Fits ((all10 f).getD i Flat.dflt) := by
  obtain ⟨bits, x, y, owner, hide, n⟩ := f
  obtain ⟨f1, f2, f3, f4, f5, f6⟩ := h
  simp only at f1 f2 f3 f4 f5 f6
  rcases lt10 hi with rfl | rfl | rfl | rfl | rfl | rfl | rfl | rfl | rfl | rfl
  · exact ⟨by show (1 : Int) ≤ 1 ∧ (1 : Int) ≤ 10; omega, ⟨by show (-1048576 : Int) ≤ 256 * x ∧ 256 * x ≤ (1048576 : Int); omega, by show (-1048576 : Int) ≤ 256 * y ∧ 256 * y ≤ (1048576 : Int); omega, by show (0 : Int) ≤ 0 ∧ 0 ≤ (0 : Int); omega, by show (0 : Int) ≤ 0 ∧ 0 ≤ (0 : Int); omega⟩, fun h => by have h : (1 : Int) = 3 := h; omega, fun h => by have h : (1 : Int) = 5 := h; omega⟩
  · exact ⟨by show (1 : Int) ≤ 2 ∧ (2 : Int) ≤ 10; omega, ⟨by show (-4096 : Int) ≤ n ∧ n ≤ (4096 : Int); omega, by show (-4096 : Int) ≤ -n ∧ -n ≤ (4096 : Int); omega, by show (0 : Int) ≤ 0 ∧ 0 ≤ (0 : Int); omega, by show (0 : Int) ≤ 0 ∧ 0 ≤ (0 : Int); omega⟩, fun h => by have h : (2 : Int) = 3 := h; omega, fun h => by have h : (2 : Int) = 5 := h; omega⟩
  · exact ⟨by show (1 : Int) ≤ 3 ∧ (3 : Int) ≤ 10; omega, ⟨by show (1 : Int) ≤ 1 + n ∧ 1 + n ≤ (16384 : Int); omega, by show (1 : Int) ≤ 1 + n ∧ 1 + n ≤ (16384 : Int); omega, by show (0 : Int) ≤ 0 ∧ 0 ≤ (1 : Int); omega, by show (0 : Int) ≤ 0 ∧ 0 ≤ (1 : Int); omega⟩, fun _ => .inl rfl, fun h => by have h : (3 : Int) = 5 := h; omega⟩
  · exact ⟨by show (1 : Int) ≤ 4 ∧ (4 : Int) ≤ 10; omega, ⟨by show (1 : Int) ≤ 1 + owner % 8 ∧ 1 + owner % 8 ≤ (8 : Int); omega, by show (0 : Int) ≤ 0 ∧ 0 ≤ (0 : Int); omega, by show (0 : Int) ≤ 0 ∧ 0 ≤ (0 : Int); omega, by show (0 : Int) ≤ 0 ∧ 0 ≤ (0 : Int); omega⟩, fun h => by have h : (4 : Int) = 3 := h; omega, fun h => by have h : (4 : Int) = 5 := h; omega⟩
  · exact ⟨by show (1 : Int) ≤ 5 ∧ (5 : Int) ≤ 10; omega, ⟨by show (0 : Int) ≤ 2 * hide ∧ 2 * hide ≤ (510 : Int); omega, by show (0 : Int) ≤ 0 ∧ 0 ≤ (0 : Int); omega, by show (0 : Int) ≤ 0 ∧ 0 ≤ (0 : Int); omega, by show (0 : Int) ≤ 0 ∧ 0 ≤ (0 : Int); omega⟩, fun h => by have h : (5 : Int) = 3 := h; omega, fun _ => by show (2 * hide) % 2 = 0; omega⟩
  · exact ⟨by show (1 : Int) ≤ 6 ∧ (6 : Int) ≤ 10; omega, ⟨by show (0 : Int) ≤ n % 16 ∧ n % 16 ≤ (15 : Int); omega, by show (0 : Int) ≤ 0 ∧ 0 ≤ (0 : Int); omega, by show (0 : Int) ≤ 0 ∧ 0 ≤ (0 : Int); omega, by show (0 : Int) ≤ 0 ∧ 0 ≤ (0 : Int); omega⟩, fun h => by have h : (6 : Int) = 3 := h; omega, fun h => by have h : (6 : Int) = 5 := h; omega⟩
  · exact ⟨by show (1 : Int) ≤ 7 ∧ (7 : Int) ≤ 10; omega, ⟨by show (-2147483648 : Int) ≤ n ∧ n ≤ (2147483647 : Int); omega, by show (-2147483648 : Int) ≤ n ∧ n ≤ (2147483647 : Int); omega, by show (-2147483648 : Int) ≤ 0 ∧ 0 ≤ (2147483647 : Int); omega, by show (-2147483648 : Int) ≤ 0 ∧ 0 ≤ (2147483647 : Int); omega⟩, fun h => by have h : (7 : Int) = 3 := h; omega, fun h => by have h : (7 : Int) = 5 := h; omega⟩
  · exact ⟨by show (1 : Int) ≤ 8 ∧ (8 : Int) ≤ 10; omega, ⟨by show (0 : Int) ≤ n ∧ n ≤ (1048576 : Int); omega, by show (0 : Int) ≤ 0 ∧ 0 ≤ (1048576 : Int); omega, by show (0 : Int) ≤ 0 ∧ 0 ≤ (0 : Int); omega, by show (0 : Int) ≤ 0 ∧ 0 ≤ (0 : Int); omega⟩, fun h => by have h : (8 : Int) = 3 := h; omega, fun h => by have h : (8 : Int) = 5 := h; omega⟩
  · exact ⟨by show (1 : Int) ≤ 9 ∧ (9 : Int) ≤ 10; omega, ⟨by show (0 : Int) ≤ n ∧ n ≤ (2147483647 : Int); omega, by show (0 : Int) ≤ n ∧ n ≤ (2147483647 : Int); omega, by show (0 : Int) ≤ 0 ∧ 0 ≤ (2147483647 : Int); omega, by show (0 : Int) ≤ 0 ∧ 0 ≤ (2147483647 : Int); omega⟩, fun h => by have h : (9 : Int) = 3 := h; omega, fun h => by have h : (9 : Int) = 5 := h; omega⟩
  · exact ⟨by show (1 : Int) ≤ 10 ∧ (10 : Int) ≤ 10; omega, ⟨by show (-2147483648 : Int) ≤ n ∧ n ≤ (2147483647 : Int); omega, by show (-2147483648 : Int) ≤ -n ∧ -n ≤ (2147483647 : Int); omega, by show (-2147483648 : Int) ≤ 0 ∧ 0 ≤ (2147483647 : Int); omega, by show (-2147483648 : Int) ≤ 0 ∧ 0 ≤ (2147483647 : Int); omega⟩, fun h => by have h : (10 : Int) = 3 := h; omega, fun h => by have h : (10 : Int) = 5 := h; omega⟩
theorem formE_right {f : Form} (h : f.Ok) {id : Int} (hid : 1 ≤ id ∧ id ≤ 65536) : RightE (formE id f) := ⟨hid, formN_up f, fun c hc => by
  obtain ⟨i, hi, _, rfl⟩ := formN_mem.1 hc
  exact all10_fits h hi⟩
theorem madeN_mem {l : List Form} {k : Nat} {e : Ent1} : e ∈ madeN l k ↔ ∃ i : Nat, i < k ∧ formE (3 + 3 * (i : Int)) (l.getD i Flat.dflt) = e := by
  unfold madeN
  simp only [List.mem_map, List.mem_range]
theorem madeN_at {l : List Form} {k i : Nat} (h : i < k) : (madeN l k).getD i ⟨0, []⟩ = formE (3 + 3 * (i : Int)) (l.getD i Flat.dflt) := by
  unfold madeN
  simp [List.getD_eq_getElem?_getD, h]
theorem made_valid {l : List Form} (h : ∀ f ∈ l, f.Ok) {k : Nat} (hk : k ≤ l.length) (h20 : k ≤ 20) : ValidW 5 (madeN l k) := by
  refine ⟨by omega, by rw [madeN_len]; omega, ?_, ?_⟩
  · refine rising_of ⟨0, []⟩ fun i j hij hj => ?_
    rw [madeN_len] at hj
    rw [madeN_at (by omega), madeN_at hj]
    show 3 + 3 * (i : Int) < 3 + 3 * (j : Int)
    omega
  · intro e he
    obtain ⟨i, hi, rfl⟩ := madeN_mem.1 he
    exact formE_right (h _ (getD_mem (by omega))) (by omega)
/-- The component of a kind of a form's entity. -/
theorem formN_comp (f : Form) {i : Nat} (hi : i < 10) : compK ((i : Int) + 1) (formN f 10) = if hasBit f i then some ((all10 f).getD i Flat.dflt) else none := by
  by_cases h : hasBit f i = true
  · rw [if_pos h]
    have hm : (all10 f).getD i Flat.dflt ∈ formN f 10 := formN_mem.2 ⟨i, hi, h, rfl⟩
    unfold compK
    cases hf : (formN f 10).find? fun c => decide (c.kind = (i : Int) + 1) with
    | none =>
      rw [List.find?_eq_none] at hf
      exact absurd (all10_kind f hi) (by simpa using hf _ hm)
    | some c =>
      have h1 := List.mem_of_find?_eq_some hf
      have h2 := List.find?_some hf
      simp only [decide_eq_true_eq] at h2
      exact congrArg some (rising_inj (formN_up f) h1 hm (by rw [h2, all10_kind f hi]))
  · rw [if_neg h]
    unfold compK
    rw [List.find?_eq_none]
    intro c hc
    obtain ⟨j, hj, hb, rfl⟩ := formN_mem.1 hc
    simp only [decide_eq_true_eq]
    rw [all10_kind f hj]
    intro e
    have : j = i := by omega
    subst this
    exact h hb
theorem formE_owns (f : Form) (id : Int) (ct : Int) : ownsE ct (formE id f) = (hasBit f 3 && decide (1 + f.owner % 8 = ct)) := by
  unfold ownsE formE
  have := formN_comp f (i := 3) (by omega)
  rw [show ((3 : Nat) : Int) + 1 = 4 from rfl] at this
  simp only
  rw [this]
  cases hasBit f 3 <;> rfl
theorem formE_point (f : Form) (id : Int) : pointE (formE id f) = if hasBit f 0 then some ⟨256 * f.x, 256 * f.y⟩ else none := by
  unfold pointE formE
  have := formN_comp f (i := 0) (by omega)
  rw [show ((0 : Nat) : Int) + 1 = 1 from rfl] at this
  simp only
  rw [this]
  cases hasBit f 0 <;> rfl
theorem formE_hid (f : Form) (id : Int) (ct : Nat) : hidE ct (formE id f) = (hasBit f 4 && (2 * f.hide).toNat.testBit ct) := by
  unfold hidE formE
  have := formN_comp f (i := 4) (by omega)
  rw [show ((4 : Nat) : Int) + 1 = 5 from rfl] at this
  simp only
  rw [this]
  cases hasBit f 4 <;> rfl
end Go.Proofs.YtjefoecnciepmaaDoor
