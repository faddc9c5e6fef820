/- Lists of which a beginning is changed already. Plain Lean. -/
import Derived.Test.YtjefoecnciepmaaDoorZPv24
set_option linter.unusedSimpArgs false
set_option linter.unusedVariables false
namespace Go.Proofs.YtjefoecnciepmaaDoor
open Go.Fw Go.RowKit
section
variable {α : Type} (f : α → α) (cs : List α) (k : Nat)
/-- The first k elements are changed. -/
def mixL : List α := (cs.take k).map f ++ cs.drop k
theorem mix_len : (mixL f cs k).length = cs.length := by
  unfold mixL
  rw [List.length_append, List.length_map, List.length_take, List.length_drop]; omega
theorem mix_zero : mixL f cs 0 = cs := by unfold mixL; simp
theorem mix_end : mixL f cs cs.length = cs.map f := by unfold mixL; simp
variable {f cs k} (d : α)
theorem mix_get (h : k < cs.length) : (mixL f cs k).getD k d = cs.getD k d := by
  unfold mixL
  have hl : ((cs.take k).map f).length = k := by rw [List.length_map, List.length_take]; omega
  rw [List.getD_eq_getElem?_getD, List.getElem?_append_right (by omega), hl, Nat.sub_self, List.getElem?_drop, Nat.add_zero, ← List.getD_eq_getElem?_getD]
theorem mix_set (h : k < cs.length) : (mixL f cs k).set k (f (cs.getD k d)) = mixL f cs (k + 1) := by
  unfold mixL
  have hl : ((cs.take k).map f).length = k := by rw [List.length_map, List.length_take]; omega
  rw [List.set_append_right _ _ (by omega), hl, Nat.sub_self, take_snoc (d := d) h, List.map_append, List.append_assoc]
  congr 1
  rw [List.drop_eq_getElem_cons h, List.set_cons_zero]
  simp [List.getD_eq_getElem?_getD, h]
theorem mix_skip (h : k < cs.length) (hf : f (cs.getD k d) = cs.getD k d) : mixL f cs (k + 1) = mixL f cs k := by
  rw [← mix_set d h, hf]
  refine List.ext_getElem? fun i => ?_
  rw [List.getElem?_set]
  split
  · rename_i e; subst e
    rw [if_pos (by rw [mix_len]; exact h), ← mix_get (f := f) d h, List.getD_eq_getElem?_getD, List.getElem?_eq_getElem (by rw [mix_len]; exact h)]; rfl
  · rfl
end
theorem encs_set {α : Type} [F : Flat α] {l : List α} {i : Nat} {x : α} (h : i < l.length) (hx : F.enc x = F.enc (l.getD i F.dflt)) : encs (l.set i x) = encs l := by
  unfold encs
  induction l generalizing i with
  | nil => simp at h
  | cons y l ih =>
    cases i with
    | zero => simpa [List.flatMap_cons] using hx
    | succ i => simp [List.flatMap_cons] at *; exact ih h hx
theorem orow_set {α : Type} [F : Flat α] {e : TypeId} {A : Option Addr} {c i : Nat} {l : List α} {x : α} (h : i < l.length) (hx : F.enc x = F.enc (l.getD i F.dflt)) : orow e A c (l.set i x) = orow e A c l := by
  unfold orow
  rw [encs_set h hx, List.length_set]
theorem take_set_next {α : Type} {X : List α} {i : Nat} (h : i < X.length) (y : α) : (X.set i y).take (i + 1) = X.take i ++ [y] := by
  rw [List.set_eq_take_append_cons_drop, if_pos h, List.take_append]
  have hl : (X.take i).length = i := by rw [List.length_take]; omega
  rw [hl, List.take_of_length_le (by omega)]
  simp
end Go.Proofs.YtjefoecnciepmaaDoor
