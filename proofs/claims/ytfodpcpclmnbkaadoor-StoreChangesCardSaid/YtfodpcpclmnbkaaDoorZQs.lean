/- What Set and Unset of the reference make of an entity's components. Plain Lean. -/
import Derived.Test.YtfodpcpclmnbkaaDoorZQb
import Derived.Test.YtfodpcpclmnbkaaDoorZRb
set_option linter.unusedSimpArgs false
set_option linter.unusedVariables false
namespace Go.Proofs.YtfodpcpclmnbkaaDoor
open Go.Fw Go.RowKit
/-- The components of the kinds up to one, of which one is replaced. -/
def pickK (cs : List Comp) (c : Comp) : Nat → List Comp
  | 0 => []
  | n + 1 => pickK cs c n ++ (if ((n + 1 : Nat) : Int) = c.kind then [c] else (compK ((n + 1 : Nat) : Int) cs).toList)
theorem pickK_mem {cs : List Comp} {c x : Comp} (h : Rising kindC cs) : ∀ n : Nat, x ∈ pickK cs c n ↔ (1 ≤ x.kind ∧ x.kind ≤ (n : Int)) ∧ (x = c ∨ x ∈ cs ∧ x.kind ≠ c.kind)
  | 0 => ⟨fun hx => absurd hx List.not_mem_nil, fun ⟨⟨h1, h2⟩, _⟩ => by
      have : x.kind ≤ 0 := h2
      omega⟩
  | n + 1 => by
    have ih := pickK_mem (c := c) (x := x) h n
    have hm : x ∈ (if ((n + 1 : Nat) : Int) = c.kind then [c] else (compK ((n + 1 : Nat) : Int) cs).toList) ↔ x.kind = ((n + 1 : Nat) : Int) ∧ (x = c ∨ x ∈ cs ∧ x.kind ≠ c.kind) := by
      by_cases hk : ((n + 1 : Nat) : Int) = c.kind
      · rw [if_pos hk, List.mem_singleton]
        constructor
        · rintro rfl; exact ⟨hk.symm, .inl rfl⟩
        · rintro ⟨h1, h2 | ⟨_, h2⟩⟩
          · exact h2
          · exact absurd (h1.trans hk) h2
      · rw [if_neg hk, Option.mem_toList]
        constructor
        · intro hx
          have := (find_key h).1 hx
          have h2 : x.kind = ((n + 1 : Nat) : Int) := this.2
          exact ⟨h2, .inr ⟨this.1, by rw [h2]; exact hk⟩⟩
        · rintro ⟨h1, rfl | ⟨h2, _⟩⟩
          · exact absurd h1.symm hk
          · exact (find_key h).2 ⟨h2, h1⟩
    unfold pickK
    rw [List.mem_append, ih, hm]
    constructor
    · rintro (⟨h1, h2⟩ | ⟨h1, h2⟩)
      · exact ⟨by omega, h2⟩
      · exact ⟨by omega, h2⟩
    · rintro ⟨h1, h2⟩
      by_cases e : x.kind = ((n + 1 : Nat) : Int)
      · exact .inr ⟨e, h2⟩
      · exact .inl ⟨by omega, h2⟩
theorem pickK_up {cs : List Comp} {c : Comp} (h : Rising kindC cs) : ∀ n : Nat, Rising kindC (pickK cs c n)
  | 0 => List.Pairwise.nil
  | n + 1 => by
    have ih := pickK_up (c := c) h n
    unfold pickK
    refine List.pairwise_append.2 ⟨ih, ?_, fun x hx y hy => ?_⟩
    · split
      · exact List.pairwise_singleton _ _
      · cases compK ((n + 1 : Nat) : Int) cs with
        | none => exact List.Pairwise.nil
        | some y => exact List.pairwise_singleton _ _
    · have h1 := ((pickK_mem h n).1 hx).1.2
      have h2 : y.kind = ((n + 1 : Nat) : Int) := by
        split at hy
        · rename_i hk
          rw [List.mem_singleton] at hy
          rw [hy]; exact hk.symm
        · rw [Option.mem_toList] at hy
          exact ((find_key h).1 hy).2
      show x.kind < y.kind
      omega
theorem pickK_all {cs : List Comp} {c : Comp} (h : Rising kindC cs) (hc : 1 ≤ c.kind ∧ c.kind ≤ 10) (hcs : ∀ x ∈ cs, 1 ≤ x.kind ∧ x.kind ≤ 10) : pickK cs c 10 = insK kindC c cs :=
  rising_ext (pickK_up h 10) (rising_insK h) fun x => by
    rw [pickK_mem h 10, mem_insK]
    constructor
    · rintro ⟨_, h2 | h2⟩
      · exact .inl h2
      · exact .inr h2
    · rintro (rfl | ⟨h2, h3⟩)
      · exact ⟨hc, .inl rfl⟩
      · exact ⟨hcs x h2, .inr ⟨h2, h3⟩⟩
theorem pickK_len (cs : List Comp) (c : Comp) : ∀ n : Nat, (pickK cs c n).length ≤ n
  | 0 => Nat.le_refl 0
  | n + 1 => by
    have ih := pickK_len cs c n
    unfold pickK
    rw [List.length_append]
    split
    · simp; omega
    · cases compK ((n + 1 : Nat) : Int) cs <;> simp <;> omega
theorem mask_but : ∀ k < 11, ∀ j < 11, 1 ≤ k → 1 ≤ j → ((2046 - 2 ^ k) / 2 ^ j % 2 = 1 ↔ j ≠ k) := by decide +kernel
theorem part_but {cs : List Comp} {k : Nat} (h1 : 1 ≤ k) (h2 : k ≤ 10) (hcs : ∀ x ∈ cs, 1 ≤ x.kind ∧ x.kind ≤ 10) : partC ((2046 - 2 ^ k : Nat) : Int) cs = cs.filter fun c => decide (kindC c ≠ (k : Int)) := by
  unfold partC
  refine List.filter_congr fun x hx => ?_
  rw [inMask_iff (Nat.lt_of_le_of_lt (Nat.sub_le _ _) (by decide))]
  refine decide_eq_decide.2 ?_
  have hk := hcs x hx
  have := mask_but k (by omega) x.kind.toNat (by omega) h1 (by omega)
  unfold inM
  show _ ↔ x.kind ≠ (k : Int)
  rw [this]
  omega
end Go.Proofs.YtfodpcpclmnbkaaDoor
