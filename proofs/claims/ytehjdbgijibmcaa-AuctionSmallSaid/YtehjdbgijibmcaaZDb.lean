/- Insertion in place, step by step. Plain Lean. -/
import Derived.Test.YtehjdbgijibmcaaZAx
set_option linter.unusedSimpArgs false
set_option linter.unusedVariables false
namespace Go.Proofs.Ytehjdbgijibmcaa
section
variable {α : Type}
def putAt (T : List α) (q : Nat) (x : α) : List α := T.take q ++ x :: T.drop q
theorem putAt_len (T : List α) (q : Nat) (x : α) : (putAt T q x).length = T.length + 1 := by
  simp only [putAt, List.length_append, List.length_take, List.length_cons, List.length_drop]; omega
theorem putAt_end (T : List α) (x : α) : putAt T T.length x = T ++ [x] := by simp [putAt]
theorem putAt_get (d : α) (P T R : List α) (x : α) {q : Nat} (h : q ≤ T.length) : (P ++ putAt T q x ++ R).getD (P.length + q) d = x := by
  have : P ++ putAt T q x ++ R = (P ++ T.take q) ++ x :: (T.drop q ++ R) := by simp [putAt]
  rw [this, List.getD_eq_getElem?_getD, List.getElem?_append_right (by rw [List.length_append, List.length_take]; omega)]
  have : P.length + q - (P ++ T.take q).length = 0 := by rw [List.length_append, List.length_take]; omega
  rw [this]; rfl
theorem putAt_prev (d : α) (P T R : List α) (x : α) {q : Nat} (h0 : 0 < q) (h : q ≤ T.length) : (P ++ putAt T q x ++ R).getD (P.length + q - 1) d = T.getD (q - 1) d := by
  have : P ++ putAt T q x ++ R = P ++ T.take q ++ (x :: (T.drop q ++ R)) := by simp [putAt]
  rw [this, show P.length + q - 1 = P.length + (q - 1) by omega, seg_getD1 P (T.take q) _ (by rw [List.length_take]; omega)]
  simp only [List.getD_eq_getElem?_getD]
  rw [List.getElem?_take, if_pos (by omega)]
theorem swp_comm (d : α) (l : List α) {i j : Nat} (h : i ≠ j) : swp d l i j = swp d l j i := by
  unfold swp
  rw [List.set_comm _ _ h]
theorem putAt_swap (d : α) (P T R : List α) (x : α) {q : Nat} (h0 : 0 < q) (h : q ≤ T.length) : swp d (P ++ putAt T q x ++ R) (P.length + q) (P.length + q - 1) = P ++ putAt T (q - 1) x ++ R := by
  obtain ⟨q, rfl⟩ : ∃ k, q = k + 1 := ⟨q - 1, by omega⟩
  rw [swp_comm d _ (by omega)]
  have ht : T.take (q + 1) = T.take q ++ [T[q]] := List.take_succ_eq_append_getElem (by omega)
  have hd : T.drop q = T[q] :: T.drop (q + 1) := List.drop_eq_getElem_cons (by omega)
  have e : P ++ putAt T (q + 1) x ++ R = P ++ T.take q ++ T[q] :: [] ++ [] ++ x :: (T.drop (q + 1) ++ R) := by
    simp only [putAt, ht]; simp
  have key := swp_seg d P (T.take q) [] [] (T.drop (q + 1) ++ R) T[q] x
  rw [List.length_take, show min q T.length = q by omega] at key
  rw [e, show P.length + (q + 1) - 1 = P.length + q by omega, show P.length + (q + 1) = P.length + q + 1 + ([] : List α).length + ([] : List α).length by simp; omega, key]
  simp only [Nat.add_sub_cancel, putAt, hd, List.append_assoc, List.cons_append, List.nil_append]
theorem putAt_next (d : α) (P T R : List α) (x : α) {q : Nat} (h : q < T.length) : swp d (P ++ putAt T q x ++ R) (P.length + q) (P.length + q + 1) = P ++ putAt T (q + 1) x ++ R := by
  have ht : T.take (q + 1) = T.take q ++ [T[q]] := List.take_succ_eq_append_getElem (by omega)
  have hd : T.drop q = T[q] :: T.drop (q + 1) := List.drop_eq_getElem_cons (by omega)
  have e : P ++ putAt T q x ++ R = P ++ T.take q ++ x :: [] ++ [] ++ T[q] :: (T.drop (q + 1) ++ R) := by
    simp only [putAt, hd, List.append_assoc, List.cons_append, List.nil_append]
  have key := swp_seg d P (T.take q) [] [] (T.drop (q + 1) ++ R) x T[q]
  rw [List.length_take, show min q T.length = q by omega] at key
  simp only [List.length_nil, Nat.add_zero] at key
  rw [e, key]
  simp only [putAt, ht, List.append_assoc, List.cons_append, List.nil_append]
theorem putAt_zero (T : List α) (x : α) : putAt T 0 x = x :: T := rfl
theorem mer_one_left {key : α → Int} {V : List α} (hV : SrtK key V) {x : α} {j : Nat} (h1 : ∀ y ∈ V.take j, key y < key x) (h2 : ∀ y ∈ V.drop j, ¬ key y < key x) : putAt V j x = merK key [x] V := by
  rw [merK_one_left hV h1 h2]; rfl
theorem mer_one_right {key : α → Int} {U : List α} (hU : SrtK key U) {x : α} {j : Nat} (h1 : ∀ y ∈ U.take j, ¬ key x < key y) (h2 : ∀ y ∈ U.drop j, key x < key y) : putAt U j x = merK key U [x] := by
  rw [merK_one_right hU h1 h2]; rfl
/-- What is known of one element of a sorted list is known of all ahead of it, or of all behind it. -/
theorem srt_below {key : α → Int} (d : α) {V : List α} (hV : SrtK key V) {k : Nat} {c : Int} (hk : k < V.length) (h : key (V.getD k d) < c) : ∀ y ∈ V.take (k + 1), key y < c := fun y hy => by
  obtain ⟨i, hi, hil, rfl⟩ := mem_take_getD hy d
  have := srt_le hV (i := i) (j := k) (by omega) hk d
  omega
theorem srt_below' {key : α → Int} (d : α) {V : List α} (hV : SrtK key V) {k : Nat} {c : Int} (hk : k < V.length) (h : ¬ c < key (V.getD k d)) : ∀ y ∈ V.take (k + 1), ¬ c < key y := fun y hy => by
  obtain ⟨i, hi, hil, rfl⟩ := mem_take_getD hy d
  have := srt_le hV (i := i) (j := k) (by omega) hk d
  omega
theorem srt_above {key : α → Int} (d : α) {V : List α} (hV : SrtK key V) {k : Nat} {c : Int} (h : c < key (V.getD k d)) : ∀ y ∈ V.drop k, c < key y := fun y hy => by
  obtain ⟨i, hi, hil, rfl⟩ := mem_drop_getD hy d
  have := srt_le hV (i := k) (j := i) (by omega) hil d
  omega
theorem srt_above' {key : α → Int} (d : α) {V : List α} (hV : SrtK key V) {k : Nat} {c : Int} (h : ¬ key (V.getD k d) < c) : ∀ y ∈ V.drop k, ¬ key y < c := fun y hy => by
  obtain ⟨i, hi, hil, rfl⟩ := mem_drop_getD hy d
  have := srt_le hV (i := k) (j := i) (by omega) hil d
  omega
theorem seg_get2 (d : α) (P U V S : List α) {k : Nat} (h : k < V.length) : (P ++ U ++ V ++ S).getD (P.length + U.length + k) d = V.getD k d := by
  have := seg_getD1 (P ++ U) V S h d
  rwa [List.length_append] at this
theorem seg_get1 (d : α) (P U V S : List α) {k : Nat} (h : k < U.length) : (P ++ U ++ V ++ S).getD (P.length + k) d = U.getD k d := by
  have := seg_getD1 P U (V ++ S) h d
  rwa [← List.append_assoc] at this
/-- The place is found. -/
theorem putAt_ins {key : α → Int} (d : α) {T : List α} (hs : SrtK key T) {x : α} {q : Nat} (hq : q ≤ T.length) (h1 : ∀ y ∈ T.drop q, key x < key y) (h2 : q = 0 ∨ ¬ key x < key (T.getD (q - 1) d)) : putAt T q x = insK key x T := by
  rw [insK_at (j := q) (fun y hy => ?_) h1]; rfl
  obtain ⟨i, hi, hil, rfl⟩ := mem_take_getD hy d
  rcases h2 with h2 | h2
  · omega
  · have := srt_le hs (i := i) (j := q - 1) (by omega) (by omega) d
    omega
def cmp3 (a b : Int) : Int := if a < b then -1 else if b < a then 1 else 0
theorem cmp3_neg {a b : Int} : cmp3 a b < 0 ↔ a < b := by
  unfold cmp3
  split
  · simp [*]
  · split <;> simp [*]
end
end Go.Proofs.Ytehjdbgijibmcaa
