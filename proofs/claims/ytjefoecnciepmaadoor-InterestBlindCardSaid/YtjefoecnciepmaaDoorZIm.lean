/- Layer 24 (interest): what a client sees. Plain Lean. -/
import Derived.Test.YtjefoecnciepmaaDoorZIv
set_option linter.unusedSimpArgs false
set_option linter.unusedVariables false
namespace Go.Proofs.YtjefoecnciepmaaDoor
open Go.Fw Go.RowKit
def compK (k : Int) (l : List Comp) : Option Comp := l.find? fun c => decide (c.kind = k)
/-- The numbers of a component; zero if there is none. -/
def compV : Option Comp → List Int
  | some c => [c.a, c.b, c.c, c.d]
  | none => [0, 0, 0, 0]
def ownsE (cl : Int) (e : Ent1) : Bool := match compK 4 e.comps with | some c => decide (c.a = cl) | none => false
def pointE (e : Ent1) : Option Pt := (compK 1 e.comps).map fun c => ⟨c.a, c.b⟩
def ptD : Option Pt → Pt
  | some p => p
  | none => ⟨0, 0⟩
def hidE (cl : Nat) (e : Ent1) : Bool := match compK 5 e.comps with | some c => c.a.toNat.testBit cl | none => false
def ptsE (cl : Int) (es : List Ent1) : List Pt := (es.filter fun e => (pointE e).isSome && ownsE cl e).map fun e => ptD (pointE e)
def nearE (ps : List Pt) (e : Ent1) : Bool := match pointE e with | some p => ps.any fun q => decide (gapP p q ≤ 16384) | none => false
def seesE (cl : Nat) (ps : List Pt) (e : Ent1) : Bool := ownsE cl e || (!hidE cl e && nearE ps e)
theorem hide_bit : ∀ a < 512, ∀ c < 9, decide (bandK .i64 ((a : Nat) : Int) (2 ^ c) ≠ 0) = Nat.testBit a c := by decide +kernel
theorem idx_find {α : Type} (d : α) (p : α → Bool) : ∀ (l : List α) (k : Int), (idxFrom p k l = -1 ∧ l.find? p = none) ∨ ∃ i : Nat, i < l.length ∧ idxFrom p k l = k + i ∧ l.find? p = some (l.getD i d)
  | [], k => .inl ⟨rfl, rfl⟩
  | x :: l, k => by
    by_cases h : p x = true
    · refine .inr ⟨0, by simp, ?_, ?_⟩
      · rw [idxFrom, if_pos h]; omega
      · rw [List.find?_cons_of_pos h]; rfl
    · rw [idxFrom, if_neg h, List.find?_cons_of_neg h]
      rcases idx_find d p l (k + 1) with ⟨h1, h2⟩ | ⟨i, h1, h2, h3⟩
      · exact .inl ⟨h1, h2⟩
      · exact .inr ⟨i + 1, by simp; omega, by omega, by rw [h3]; rfl⟩
theorem compK_mem {k : Int} {l : List Comp} {c : Comp} (h : compK k l = some c) : c ∈ l ∧ c.kind = k := ⟨List.mem_of_find?_eq_some h, by have := List.find?_some h; simpa using this⟩
theorem fits_pos {c : Comp} (h : Fits c) (hk : c.kind = 1) : (-1048576 ≤ c.a ∧ c.a ≤ 1048576) ∧ (-1048576 ≤ c.b ∧ c.b ≤ 1048576) := by
  have := h.rng; rw [hk] at this; exact ⟨this.r0, this.r1⟩
theorem fits_hide {c : Comp} (h : Fits c) (hk : c.kind = 5) : 0 ≤ c.a ∧ c.a ≤ 510 := by
  have := h.rng; rw [hk] at this; exact this.r0
theorem point_in {e : Ent1} {p : Pt} (h : RightE e) (hp : pointE e = some p) : InC p := by
  unfold pointE at hp
  cases hc : compK 1 e.comps with
  | none => rw [hc] at hp; cases hp
  | some c =>
    rw [hc] at hp
    obtain ⟨h1, h2⟩ := compK_mem hc
    injection hp with hp
    rw [← hp]
    exact fits_pos (h.fits c h1) h2
theorem pts_in {cl : Int} {es : List Ent1} (h : ∀ e ∈ es, RightE e) : ∀ q ∈ ptsE cl es, InC q := by
  intro q hq
  obtain ⟨e, he, rfl⟩ := List.mem_map.1 hq
  obtain ⟨he, hb⟩ := List.mem_filter.1 he
  cases hp : pointE e with
  | none => rw [hp] at hb; simp at hb
  | some p => exact point_in (h e he) hp
end Go.Proofs.YtjefoecnciepmaaDoor
