/- Stable sorting in place: segments of a list that are swapped, rotated and merged. Plain Lean. -/
import Derived.Test.YtehjdbgijibmcaaZAs
set_option linter.unusedSimpArgs false
set_option linter.unusedVariables false
namespace Go.Proofs.Ytehjdbgijibmcaa
section
variable {α : Type}
/-- Two elements are swapped. -/
def swp (d : α) (l : List α) (i j : Nat) : List α := (l.set i (l.getD j d)).set j (l.getD i d)
def swpN (d : α) (l : List α) (a b : Nat) : Nat → List α
  | 0 => l
  | k + 1 => swp d (swpN d l a b k) (a + k) (b + k)
theorem swp_len (d : α) (l : List α) (i j : Nat) : (swp d l i j).length = l.length := by simp [swp]
theorem swpN_len (d : α) (l : List α) (a b : Nat) : ∀ k, (swpN d l a b k).length = l.length
  | 0 => rfl
  | k + 1 => by rw [swpN, swp_len, swpN_len d l a b k]
theorem swp_seg (d : α) (P X M Y S : List α) (x y : α) : swp d (P ++ X ++ x :: M ++ Y ++ y :: S) (P.length + X.length) (P.length + X.length + 1 + M.length + Y.length) = P ++ X ++ y :: M ++ Y ++ x :: S := by
  have e1 : (P ++ X ++ x :: M ++ Y ++ y :: S).getD (P.length + X.length) d = x := by
    have : P ++ X ++ x :: M ++ Y ++ y :: S = (P ++ X) ++ x :: (M ++ Y ++ y :: S) := by simp
    rw [this, List.getD_eq_getElem?_getD, List.getElem?_append_right (by simp)]
    simp
  have e2 : (P ++ X ++ x :: M ++ Y ++ y :: S).getD (P.length + X.length + 1 + M.length + Y.length) d = y := by
    have : P ++ X ++ x :: M ++ Y ++ y :: S = (P ++ X ++ x :: M ++ Y) ++ y :: S := by simp
    rw [this, List.getD_eq_getElem?_getD, List.getElem?_append_right (by simp; omega)]
    have : P.length + X.length + 1 + M.length + Y.length - (P ++ X ++ x :: M ++ Y).length = 0 := by simp; omega
    rw [this]; rfl
  unfold swp
  rw [e1, e2]
  have s1 : (P ++ X ++ x :: M ++ Y ++ y :: S).set (P.length + X.length) y = P ++ X ++ y :: M ++ Y ++ y :: S := by
    have : P ++ X ++ x :: M ++ Y ++ y :: S = (P ++ X) ++ x :: (M ++ Y ++ y :: S) := by simp
    rw [this, List.set_append_right _ _ (by simp)]
    simp
  rw [s1]
  have : P ++ X ++ y :: M ++ Y ++ y :: S = (P ++ X ++ y :: M ++ Y) ++ y :: S := by simp
  rw [this, List.set_append_right _ _ (by simp; omega)]
  have : P.length + X.length + 1 + M.length + Y.length - (P ++ X ++ y :: M ++ Y).length = 0 := by simp; omega
  rw [this]; simp
/-- Two segments of one length are swapped. -/
theorem swpN_seg (d : α) (P X M Y S : List α) (hxy : X.length = Y.length) : ∀ k, k ≤ X.length → swpN d (P ++ X ++ M ++ Y ++ S) P.length (P.length + X.length + M.length) k = P ++ (Y.take k ++ X.drop k) ++ M ++ (X.take k ++ Y.drop k) ++ S
  | 0, _ => by simp [swpN]
  | k + 1, hk => by
    rw [swpN, swpN_seg d P X M Y S hxy k (by omega)]
    have hx : X.drop k = X[k] :: X.drop (k + 1) := List.drop_eq_getElem_cons (by omega)
    have hy : Y.drop k = Y[k] :: Y.drop (k + 1) := List.drop_eq_getElem_cons (by omega)
    have hx2 : X.take (k + 1) = X.take k ++ [X[k]] := List.take_succ_eq_append_getElem (by omega)
    have hy2 : Y.take (k + 1) = Y.take k ++ [Y[k]] := List.take_succ_eq_append_getElem (by omega)
    have key := swp_seg d P (Y.take k) (X.drop (k + 1) ++ M) (X.take k) (Y.drop (k + 1) ++ S) X[k] Y[k]
    have l1 : (Y.take k).length = k := by rw [List.length_take]; omega
    have l2 : (X.take k).length = k := by rw [List.length_take]; omega
    have l3 : (X.drop (k + 1) ++ M).length = X.length - (k + 1) + M.length := by rw [List.length_append, List.length_drop]
    rw [l1, l2, l3, show P.length + k + 1 + (X.length - (k + 1) + M.length) + k = P.length + X.length + M.length + k by omega] at key
    have e1 : P ++ (Y.take k ++ X.drop k) ++ M ++ (X.take k ++ Y.drop k) ++ S = P ++ Y.take k ++ X[k] :: (X.drop (k + 1) ++ M) ++ X.take k ++ Y[k] :: (Y.drop (k + 1) ++ S) := by
      rw [hx, hy]; simp only [List.append_assoc, List.cons_append]
    rw [e1, key, hx2, hy2]
    simp only [List.append_assoc, List.cons_append, List.nil_append]
theorem swpN_all (d : α) (P X M Y S : List α) (hxy : X.length = Y.length) {a b n : Nat} (ha : a = P.length) (hb : b = P.length + X.length + M.length) (hn : n = X.length) : swpN d (P ++ X ++ M ++ Y ++ S) a b n = P ++ Y ++ M ++ X ++ S := by
  subst ha hb hn
  rw [swpN_seg d P X M Y S hxy X.length (Nat.le_refl _)]
  rw [List.take_length, List.drop_length, List.take_of_length_le (by omega), List.drop_of_length_le (by omega)]
  simp
/-! one round of a rotation -/
/-- What is left to be rotated: the i elements ahead of m and the j behind it. -/
structure Rot (P X Y S L : List α) (m i j : Nat) : Prop where
  ex : ∃ D X' Y' E, L = P ++ D ++ X' ++ Y' ++ E ++ S ∧ X'.length = i ∧ Y'.length = j ∧ m = P.length + D.length + i ∧ D ++ (Y' ++ X') ++ E = Y ++ X
theorem rot_start (P X Y S : List α) : Rot P X Y S (P ++ X ++ Y ++ S) (P.length + X.length) X.length Y.length :=
  ⟨[], X, Y, [], by simp, rfl, rfl, by simp, by simp⟩
theorem rot_left (d : α) {P X Y S L : List α} {m i j : Nat} (h : Rot P X Y S L m i j) (hij : j < i) : Rot P X Y S (swpN d L (m - i) m j) m (i - j) j := by
  obtain ⟨D, X', Y', E, rfl, rfl, rfl, rfl, he⟩ := h.ex
  have hx : X' = X'.take Y'.length ++ X'.drop Y'.length := (List.take_append_drop _ _).symm
  have l1 : (X'.take Y'.length).length = Y'.length := by rw [List.length_take]; omega
  have l2 : (X'.drop Y'.length).length = X'.length - Y'.length := List.length_drop ..
  refine ⟨D ++ Y', X'.drop Y'.length, X'.take Y'.length, E, ?_, l2, l1, by rw [List.length_append]; omega, ?_⟩
  · have e : P ++ D ++ X' ++ Y' ++ E ++ S = (P ++ D) ++ X'.take Y'.length ++ X'.drop Y'.length ++ Y' ++ (E ++ S) := by
      conv => lhs; rw [hx]
      simp
    rw [e, swpN_all d (P ++ D) _ _ _ _ l1 (by rw [List.length_append]; omega) (by rw [List.length_append, l1, l2]; omega) l1.symm]
    simp
  · rw [← he]
    conv => rhs; rw [hx]
    simp
theorem rot_right (d : α) {P X Y S L : List α} {m i j : Nat} (h : Rot P X Y S L m i j) (hij : i < j) : Rot P X Y S (swpN d L (m - i) (m + j - i) i) m i (j - i) := by
  obtain ⟨D, X', Y', E, rfl, rfl, rfl, rfl, he⟩ := h.ex
  have hy : Y' = Y'.take (Y'.length - X'.length) ++ Y'.drop (Y'.length - X'.length) := (List.take_append_drop _ _).symm
  have l1 : (Y'.take (Y'.length - X'.length)).length = Y'.length - X'.length := by rw [List.length_take]; omega
  have l2 : (Y'.drop (Y'.length - X'.length)).length = X'.length := by rw [List.length_drop]; omega
  refine ⟨D, Y'.drop (Y'.length - X'.length), Y'.take (Y'.length - X'.length), X' ++ E, ?_, l2, l1, rfl, ?_⟩
  · have e : P ++ D ++ X' ++ Y' ++ E ++ S = (P ++ D) ++ X' ++ Y'.take (Y'.length - X'.length) ++ Y'.drop (Y'.length - X'.length) ++ (E ++ S) := by
      conv => lhs; rw [hy]
      simp
    rw [e, swpN_all d (P ++ D) _ _ _ _ l2.symm (by rw [List.length_append]; omega) (by rw [List.length_append, l1]; omega) rfl]
    simp
  · rw [← he]
    conv => rhs; rw [hy]
    simp
theorem rot_end (d : α) {P X Y S L : List α} {m i : Nat} (h : Rot P X Y S L m i i) : swpN d L (m - i) m i = P ++ Y ++ X ++ S := by
  obtain ⟨D, X', Y', E, rfl, rfl, hy, rfl, he⟩ := h.ex
  have e : P ++ D ++ X' ++ Y' ++ E ++ S = (P ++ D) ++ X' ++ [] ++ Y' ++ (E ++ S) := by simp
  rw [e, swpN_all d (P ++ D) X' [] Y' (E ++ S) hy.symm (by rw [List.length_append]; omega) (by rw [List.length_append]; simp) rfl]
  have : P ++ D ++ Y' ++ [] ++ X' ++ (E ++ S) = P ++ (D ++ (Y' ++ X') ++ E) ++ S := by simp
  rw [this, he]; simp
theorem srt_le {key : α → Int} {l : List α} (h : SrtK key l) {i j : Nat} (hij : i ≤ j) (hj : j < l.length) (d : α) : key (l.getD i d) ≤ key (l.getD j d) := by
  rw [List.getD_eq_getElem?_getD, List.getD_eq_getElem?_getD, List.getElem?_eq_getElem (by omega), List.getElem?_eq_getElem hj]
  rcases Nat.lt_or_eq_of_le hij with h1 | h1
  · exact List.pairwise_iff_getElem.1 h i j (by omega) hj h1
  · subst h1; exact Int.le_refl _
theorem mem_take_getD {l : List α} {k : Nat} {x : α} (h : x ∈ l.take k) (d : α) : ∃ i, i < k ∧ i < l.length ∧ x = l.getD i d := by
  obtain ⟨i, hi, rfl⟩ := List.mem_iff_getElem.1 h
  rw [List.length_take] at hi
  refine ⟨i, by omega, by omega, ?_⟩
  rw [List.getElem_take, List.getD_eq_getElem?_getD, List.getElem?_eq_getElem (by omega)]; rfl
theorem mem_drop_getD {l : List α} {k : Nat} {x : α} (h : x ∈ l.drop k) (d : α) : ∃ i, k ≤ i ∧ i < l.length ∧ x = l.getD i d := by
  obtain ⟨i, hi, rfl⟩ := List.mem_iff_getElem.1 h
  rw [List.length_drop] at hi
  refine ⟨k + i, by omega, by omega, ?_⟩
  rw [List.getElem_drop, List.getD_eq_getElem?_getD, List.getElem?_eq_getElem (by omega)]; rfl
/-- Where a merge is split. -/
theorem sym_split {key : α → Int} (d : α) {U V : List α} (hU : SrtK key U) (hV : SrtK key V) {s e : Nat} (hs : s ≤ U.length) (he : e ≤ V.length)
    (c1 : s = 0 ∨ e = V.length ∨ ¬ key (V.getD e d) < key (U.getD (s - 1) d)) (c2 : s = U.length ∨ e = 0 ∨ key (V.getD (e - 1) d) < key (U.getD s d)) :
    merK key U V = merK key (U.take s) (V.take e) ++ merK key (U.drop s) (V.drop e) := by
  have hm := merK_split (key := key) (U.take s) (U.drop s) (V.take e) (V.drop e) (fun x hx y hy => ?_) (fun y hy x hx => ?_)
  · rw [List.take_append_drop, List.take_append_drop] at hm
    exact hm
  · obtain ⟨i, h1, h2, rfl⟩ := mem_take_getD hx d
    obtain ⟨j, h3, h4, rfl⟩ := mem_drop_getD hy d
    have a1 := srt_le hU (i := i) (j := s - 1) (by omega) (by omega) d
    have a2 := srt_le hV h3 h4 d
    rcases c1 with c | c | c <;> omega
  · obtain ⟨i, h1, h2, rfl⟩ := mem_drop_getD hx d
    obtain ⟨j, h3, h4, rfl⟩ := mem_take_getD hy d
    have a1 := srt_le hU h1 h2 d
    have a2 := srt_le hV (i := j) (j := e - 1) (by omega) (by omega) d
    rcases c2 with c | c | c <;> omega
theorem srt_take {key : α → Int} {l : List α} (h : SrtK key l) (k : Nat) : SrtK key (l.take k) := h.sublist (List.take_sublist ..)
theorem srt_drop {key : α → Int} {l : List α} (h : SrtK key l) (k : Nat) : SrtK key (l.drop k) := h.sublist (List.drop_sublist ..)
theorem seg_getD1 (P U R : List α) {i : Nat} (h : i < U.length) (d : α) : (P ++ U ++ R).getD (P.length + i) d = U.getD i d := by
  rw [List.append_assoc, List.getD_eq_getElem?_getD, List.getElem?_append_right (by omega), Nat.add_sub_cancel_left, List.getElem?_append_left h, List.getD_eq_getElem?_getD]
/-- An element goes to the right, past k others. -/
theorem move_right (d : α) (P V S : List α) (x : α) : ∀ k, k ≤ V.length → ∀ L, L = P ++ [x] ++ V ++ S → (List.range k).foldl (fun L i => swp d L (P.length + i) (P.length + i + 1)) L = P ++ V.take k ++ [x] ++ V.drop k ++ S
  | 0, _, L, hL => by simp [hL]
  | k + 1, hk, L, hL => by
    rw [List.range_succ, List.foldl_append, move_right d P V S x k (by omega) L hL, List.foldl_cons, List.foldl_nil]
    have hv : V.drop k = V[k] :: V.drop (k + 1) := List.drop_eq_getElem_cons (by omega)
    have hv2 : V.take (k + 1) = V.take k ++ [V[k]] := List.take_succ_eq_append_getElem (by omega)
    have key := swp_seg d P (V.take k) [] [] (V.drop (k + 1) ++ S) x V[k]
    have l1 : (V.take k).length = k := by rw [List.length_take]; omega
    rw [l1] at key
    rw [hv, hv2]
    simp only [List.length_nil, Nat.add_zero, List.append_nil] at key
    have e : P ++ V.take k ++ [x] ++ (V[k] :: V.drop (k + 1)) ++ S = P ++ V.take k ++ [x] ++ V[k] :: (V.drop (k + 1) ++ S) := by simp only [List.append_assoc, List.cons_append]
    rw [e, key]
    simp only [List.append_assoc, List.cons_append, List.nil_append]
end
end Go.Proofs.Ytehjdbgijibmcaa
