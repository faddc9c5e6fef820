/- Layer 24: worlds that are not valid, and what is answered of them. Plain Lean. -/
import Derived.Test.YtjefoecnciepmaaDoorZPf24
import Derived.Test.YtjefoecnciepmaaDoorZIi
set_option linter.unusedSimpArgs false
set_option linter.unusedVariables false
namespace Go.Proofs.YtjefoecnciepmaaDoor
open Go.Fw Go.RowKit
section
variable {ct t id : Int} {es : List Ent1}
theorem visL_not (h : ¬ OkI ct t es) : visL ct t es = [] := by unfold visL; rw [if_neg h]
theorem ownL_not (h : ¬ OkI ct t es) : ownL ct t es = [] := by unfold ownL; rw [if_neg h]
theorem errI_not (h : ¬ OkI ct t es) : errI ct t es = 2 := by unfold errI; rw [if_neg h]
theorem viewL_not (h : ¬ OkI ct t es) : viewL ct t es = [] := by unfold viewL; rw [if_neg h]
theorem viewT_not (h : ¬ OkI ct t es) : viewT ct t es = 0 := by unfold viewT; rw [if_neg h]
theorem seeB_not (h : ¬ OkI ct t es) : seeB ct id t es = false := by unfold seeB; rw [decide_eq_false h]; rfl
theorem seeErr_not (h : ¬ OkI ct t es) : seeErr ct id t es = 2 := by unfold seeErr; rw [if_neg h]
theorem watErr_not (h : ¬ ValidW t es) : watErr id t es = 2 := by unfold watErr; rw [if_neg h]
theorem watL_not (h : ¬ ValidW t es) : watL id t es = [] := by unfold watL; rw [watErr_not h]; rfl
theorem entOf_none (h : ∀ e ∈ es, e.id ≠ id) : entOf id es = none := by
  unfold entOf
  rw [List.find?_eq_none]
  intro e he
  simp only [decide_eq_true_eq]
  exact h e he
theorem seeB_none (h : entOf id es = none) : seeB ct id t es = false := by unfold seeB; rw [h]; simp
theorem seeErr_none (hv : OkI ct t es) (h : entOf id es = none) : seeErr ct id t es = 6 := by unfold seeErr; rw [if_pos hv, h]
theorem watErr_none (hv : ValidW t es) (h : entOf id es = none) : watErr id t es = 6 := by unfold watErr; rw [if_pos hv, h]
theorem watL_none (hv : ValidW t es) (h : entOf id es = none) : watL id t es = [] := by unfold watL; rw [watErr_none hv h]; rfl
theorem bad_tick : ¬ ValidW (-1) es := fun h => by have := h.tick; omega
theorem bad_twice {cs cs' : List Comp} : ¬ ValidW t (es ++ [⟨2, cs⟩, ⟨2, cs'⟩]) := fun h => by
  have := (List.pairwise_append.1 h.up).2.1
  simp at this
theorem bad_owner : ¬ ValidW t (es ++ [⟨200, [⟨4, 9, 0, 0, 0⟩]⟩]) := fun h => by
  have h1 := h.right ⟨200, [⟨4, 9, 0, 0, 0⟩]⟩ (List.mem_append_right _ (List.mem_singleton.2 rfl))
  have h2 := h1.fits ⟨4, 9, 0, 0, 0⟩ (List.mem_singleton.2 rfl)
  exact absurd h2 (by decide)
theorem bad_tags : ¬ ValidW t (es ++ [⟨200, [⟨10, 0, 0, 0, 0⟩, ⟨10, 0, 0, 0, 0⟩]⟩]) := fun h => by
  have h1 := h.right ⟨200, [⟨10, 0, 0, 0, 0⟩, ⟨10, 0, 0, 0, 0⟩]⟩ (List.mem_append_right _ (List.mem_singleton.2 rfl))
  exact absurd h1.up (by decide)
theorem sz_two {L : List EntP} {x y : EntP} {n : Nat} (h : ∀ z ∈ L, z.e.comps.length ≤ n) (hx : x.e.comps.length ≤ n) (hy : y.e.comps.length ≤ n) : ∀ z ∈ L ++ [x, y], z.e.comps.length ≤ n := fun z hz => by
  rcases List.mem_append.1 hz with h1 | h1
  · exact h z h1
  · rcases List.mem_cons.1 h1 with rfl | h1
    · exact hx
    · rw [List.mem_singleton.1 h1]; exact hy
theorem sz_one {L : List EntP} {x : EntP} {n : Nat} (h : ∀ z ∈ L, z.e.comps.length ≤ n) (hx : x.e.comps.length ≤ n) : ∀ z ∈ L ++ [x], z.e.comps.length ≤ n := fun z hz => by
  rcases List.mem_append.1 hz with h1 | h1
  · exact h z h1
  · rw [List.mem_singleton.1 h1]; exact hx
theorem map_e_two {L : List EntP} {x y : EntP} : ents (L ++ [x, y]) = ents L ++ [x.e, y.e] := by simp [ents]
theorem map_e_one {L : List EntP} {x : EntP} : ents (L ++ [x]) = ents L ++ [x.e] := by simp [ents]
end
/-- An element of a list of worlds and clients. -/
structure WC where
  t : Int
  A : Option Addr
  m : Nat
  c : Nat
  cl : Int
instance : Flat WC := ⟨3, fun x => [.int .i64 x.t, .slice x.A x.m x.c, .int .i64 x.cl], ⟨0, none, 0, 0, 0⟩, fun _ => rfl, fun x v hv => by
  simp at hv; rcases hv with rfl | rfl | rfl <;> rfl, by omega⟩
theorem ent_all_two {ι : Type} {f : ι → HP} {x y : ι} {L : List ι} {G : List HP} : Ent (f x :: f y :: allH (L.map f) :: G) (allH ((L ++ [x, y]).map f) :: G) := by
  have h1 : Ent (f x :: f y :: allH (L.map f) :: G) (f y :: allH ((L ++ [x]).map f) :: G) := (ent_cons (Split.tail Split.head) (ent_all_snoc (f := f) (x := x) (L := L)))
  have h2 := ent_all_snoc (f := f) (x := y) (L := L ++ [x]) (G := G)
  rw [List.append_assoc] at h2
  exact h1.trans h2
end Go.Proofs.YtjefoecnciepmaaDoor
