/- Layer 15 (store): what is valid. Plain Lean. -/
import Derived.Test.YtfodpcpclmnbkaaDoorZWo
set_option linter.unusedSimpArgs false
set_option linter.unusedVariables false
namespace Go.Proofs.YtfodpcpclmnbkaaDoor
open Go.Fw Go.RowKit
/-- The ranges of a component's four numbers. -/
structure Rng where
  l0 : Int
  h0 : Int
  l1 : Int
  h1 : Int
  l2 : Int
  h2 : Int
  l3 : Int
  h3 : Int
  deriving DecidableEq
instance : Flat Rng := ⟨8, fun x => [.int .i64 x.l0, .int .i64 x.h0, .int .i64 x.l1, .int .i64 x.h1, .int .i64 x.l2, .int .i64 x.h2, .int .i64 x.l3, .int .i64 x.h3], ⟨0, 0, 0, 0, 0, 0, 0, 0⟩, fun _ => rfl, fun x v hv => by
  simp at hv; rcases hv with rfl | rfl | rfl | rfl | rfl | rfl | rfl | rfl <;> rfl, by omega⟩
def RNG : List Rng := [⟨0, 0, 0, 0, 0, 0, 0, 0⟩, ⟨-1048576, 1048576, -1048576, 1048576, 0, 0, 0, 0⟩, ⟨-4096, 4096, -4096, 4096, 0, 0, 0, 0⟩, ⟨1, 16384, 1, 16384, 0, 1, 0, 1⟩, ⟨1, 8, 0, 0, 0, 0, 0, 0⟩, ⟨0, 510, 0, 0, 0, 0, 0, 0⟩, ⟨0, 15, 0, 0, 0, 0, 0, 0⟩,
  ⟨-2147483648, 2147483647, -2147483648, 2147483647, -2147483648, 2147483647, -2147483648, 2147483647⟩, ⟨0, 1048576, 0, 1048576, 0, 0, 0, 0⟩, ⟨0, 2147483647, 0, 2147483647, 0, 2147483647, 0, 2147483647⟩, ⟨-2147483648, 2147483647, -2147483648, 2147483647, -2147483648, 2147483647, -2147483648, 2147483647⟩]
/-- The numbers of the component fit into the ranges. -/
structure InR (r : Rng) (c : Comp) : Prop where
  r0 : r.l0 ≤ c.a ∧ c.a ≤ r.h0
  r1 : r.l1 ≤ c.b ∧ c.b ≤ r.h1
  r2 : r.l2 ≤ c.c ∧ c.c ≤ r.h2
  r3 : r.l3 ≤ c.d ∧ c.d ≤ r.h3
instance (r : Rng) (c : Comp) : Decidable (InR r c) := decidable_of_iff ((r.l0 ≤ c.a ∧ c.a ≤ r.h0) ∧ (r.l1 ≤ c.b ∧ c.b ≤ r.h1) ∧ (r.l2 ≤ c.c ∧ c.c ≤ r.h2) ∧ (r.l3 ≤ c.d ∧ c.d ≤ r.h3)) ⟨fun ⟨h1, h2, h3, h4⟩ => ⟨h1, h2, h3, h4⟩, fun ⟨h1, h2, h3, h4⟩ => ⟨h1, h2, h3, h4⟩⟩
/-- A component that is valid. -/
structure Fits (c : Comp) : Prop where
  kind : 1 ≤ c.kind ∧ c.kind ≤ 10
  rng : InR (RNG.getD c.kind.toNat Flat.dflt) c
  box : c.kind = 3 → c.c = 0 ∨ c.a = c.b
  hide : c.kind = 5 → c.a % 2 = 0
instance (c : Comp) : Decidable (Fits c) := decidable_of_iff ((1 ≤ c.kind ∧ c.kind ≤ 10) ∧ InR (RNG.getD c.kind.toNat Flat.dflt) c ∧ (c.kind = 3 → c.c = 0 ∨ c.a = c.b) ∧ (c.kind = 5 → c.a % 2 = 0)) ⟨fun ⟨h1, h2, h3, h4⟩ => ⟨h1, h2, h3, h4⟩, fun ⟨h1, h2, h3, h4⟩ => ⟨h1, h2, h3, h4⟩⟩
/-- Keys that strictly increase. -/
def Rising {α : Type} (key : α → Int) (l : List α) : Prop := l.Pairwise fun x y => key x < key y
instance {α : Type} (key : α → Int) (l : List α) : Decidable (Rising key l) := inferInstanceAs (Decidable (l.Pairwise _))
structure RightE (e : Ent1) : Prop where
  id : 1 ≤ e.id ∧ e.id ≤ 65536
  up : Rising Comp.kind e.comps
  fits : ∀ c ∈ e.comps, Fits c
instance (e : Ent1) : Decidable (RightE e) := decidable_of_iff ((1 ≤ e.id ∧ e.id ≤ 65536) ∧ Rising Comp.kind e.comps ∧ ∀ c ∈ e.comps, Fits c) ⟨fun ⟨h1, h2, h3⟩ => ⟨h1, h2, h3⟩, fun ⟨h1, h2, h3⟩ => ⟨h1, h2, h3⟩⟩
structure ValidW (tick : Int) (es : List Ent1) : Prop where
  tick : 0 ≤ tick ∧ tick ≤ 1073741824
  len : es.length ≤ 64
  up : Rising Ent1.id es
  right : ∀ e ∈ es, RightE e
instance (tick : Int) (es : List Ent1) : Decidable (ValidW tick es) := decidable_of_iff ((0 ≤ tick ∧ tick ≤ 1073741824) ∧ es.length ≤ 64 ∧ Rising Ent1.id es ∧ ∀ e ∈ es, RightE e) ⟨fun ⟨h1, h2, h3, h4⟩ => ⟨h1, h2, h3, h4⟩, fun ⟨h1, h2, h3, h4⟩ => ⟨h1, h2, h3, h4⟩⟩
section
variable {α : Type} (d : α) {key : α → Int} {l : List α}
theorem rising_at (h : Rising key l) {i j : Nat} (hij : i < j) (hj : j < l.length) : key (l.getD i d) < key (l.getD j d) := by
  have := List.pairwise_iff_getElem.1 h i j (by omega) hj hij
  simpa [List.getD_eq_getElem?_getD, hj, show i < l.length by omega] using this
theorem rising_of (h : ∀ i j, i < j → j < l.length → key (l.getD i d) < key (l.getD j d)) : Rising key l := by
  refine List.pairwise_iff_getElem.2 fun i j hi hj hij => ?_
  have := h i j hij hj
  simpa [List.getD_eq_getElem?_getD, hj, hi] using this
theorem rising_take {i : Nat} (h : Rising key (l.take (i + 1))) (hi : i + 1 < l.length) (hk : key (l.getD i d) < key (l.getD (i + 1) d)) : Rising key (l.take (i + 2)) := by
  refine rising_of d fun a b hab hb => ?_
  rw [List.length_take] at hb
  have e : ∀ m k, k < m → m ≤ l.length → (l.take m).getD k d = l.getD k d := fun m k hk hm => by
    simp [List.getD_eq_getElem?_getD, List.getElem?_take, hk]
  rw [e _ _ (by omega) (by omega), e _ _ (by omega) (by omega)]
  have hat : ∀ x y, x < y → y < i + 1 → key (l.getD x d) < key (l.getD y d) := fun x y hxy hy => by
    have := rising_at d h hxy (by rw [List.length_take]; omega)
    rwa [e _ _ (by omega) (by omega), e _ _ (by omega) (by omega)] at this
  by_cases hbi : b = i + 1
  · subst hbi
    by_cases hai : a = i
    · subst hai; exact hk
    · have := hat a i (by omega) (by omega); omega
  · exact hat a b hab (by omega)
theorem rising_one {m : Nat} (hm : m ≤ 1) : Rising key (l.take m) := List.pairwise_iff_getElem.2 fun a b ha hb hab => by rw [List.length_take] at hb; omega
end
end Go.Proofs.YtfodpcpclmnbkaaDoor
