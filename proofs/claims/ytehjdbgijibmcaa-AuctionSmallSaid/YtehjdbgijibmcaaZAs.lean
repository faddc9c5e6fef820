/- Stable sorting by a number: insertion, merging, splitting a merge. Plain Lean. -/
import Derived.Test.YtehjdbgijibmcaaZVa
set_option linter.unusedSimpArgs false
set_option linter.unusedVariables false
namespace Go.Proofs.Ytehjdbgijibmcaa
section
variable {α : Type} (key : α → Int)
/-- An element is put in, behind those that are not greater. -/
def insK (x : α) : List α → List α
  | [] => [x]
  | y :: l => if key x < key y then x :: y :: l else y :: insK x l
def sortK (l : List α) : List α := l.foldl (fun s x => insK key x s) []
/-- Two lists are merged; of equal ones the first list's come first. -/
def merK : List α → List α → List α
  | [], v => v
  | u, [] => u
  | x :: u, y :: v => if key y < key x then y :: merK (x :: u) v else x :: merK u (y :: v)
termination_by u v => u.length + v.length
def SrtK (l : List α) : Prop := l.Pairwise fun x y => key x ≤ key y
variable {key}
theorem insK_len (x : α) : ∀ l : List α, (insK key x l).length = l.length + 1
  | [] => rfl
  | y :: l => by
    simp only [insK]
    split
    · rfl
    · rw [List.length_cons, insK_len x l, List.length_cons]
theorem insK_mem {x z : α} : ∀ {l : List α}, z ∈ insK key x l ↔ z = x ∨ z ∈ l
  | [] => by simp [insK]
  | y :: l => by
    simp only [insK]
    split
    · simp
    · rw [List.mem_cons, insK_mem (l := l), List.mem_cons]
      constructor
      · rintro (h | h | h)
        · exact .inr (.inl h)
        · exact .inl h
        · exact .inr (.inr h)
      · rintro (h | h | h)
        · exact .inr (.inl h)
        · exact .inl h
        · exact .inr (.inr h)
theorem insK_srt (x : α) : ∀ {l : List α}, SrtK key l → SrtK key (insK key x l)
  | [], _ => by simp [insK, SrtK]
  | y :: l, h => by
    have h' := List.pairwise_cons.1 h
    simp only [insK]
    split
    · rename_i hlt
      refine List.pairwise_cons.2 ⟨fun z hz => ?_, h⟩
      rcases List.mem_cons.1 hz with rfl | hz
      · omega
      · have := h'.1 z hz; omega
    · rename_i hlt
      refine List.pairwise_cons.2 ⟨fun z hz => ?_, insK_srt x h'.2⟩
      rcases insK_mem.1 hz with rfl | hz
      · omega
      · exact h'.1 z hz
/-- Where the element comes to. -/
theorem insK_at {x : α} : ∀ {l : List α} {j : Nat}, (∀ y ∈ l.take j, ¬ key x < key y) → (∀ y ∈ l.drop j, key x < key y) → insK key x l = l.take j ++ x :: l.drop j
  | [], j, _, _ => by simp [insK]
  | y :: l, 0, _, h2 => by simp [insK, h2 y (by simp)]
  | y :: l, j + 1, h1, h2 => by
    rw [List.take_succ_cons] at h1
    rw [List.drop_succ_cons] at h2
    have := h1 y (by simp)
    simp only [insK, if_neg this]
    rw [insK_at (l := l) (j := j) (fun z hz => h1 z (by simp [hz])) h2]
    simp
theorem sortK_snoc (l : List α) (x : α) : sortK key (l ++ [x]) = insK key x (sortK key l) := by simp [sortK]
theorem foldl_srt : ∀ (l s : List α), SrtK key s → SrtK key (l.foldl (fun s x => insK key x s) s)
  | [], _, h => h
  | x :: l, s, h => foldl_srt l _ (insK_srt x h)
theorem sortK_srt (l : List α) : SrtK key (sortK key l) := foldl_srt l [] List.Pairwise.nil
theorem foldl_ins_len : ∀ (l s : List α), (l.foldl (fun s x => insK key x s) s).length = s.length + l.length
  | [], _ => rfl
  | x :: l, s => by rw [List.foldl_cons, foldl_ins_len l, insK_len, List.length_cons]; omega
theorem sortK_len (l : List α) : (sortK key l).length = l.length := by rw [sortK, foldl_ins_len]; simp
theorem merK_nil (u : List α) : merK key u [] = u := by cases u <;> simp [merK]
theorem merK_cons (x y : α) (u v : List α) : merK key (x :: u) (y :: v) = if key y < key x then y :: merK key (x :: u) v else x :: merK key u (y :: v) := by rw [merK]
theorem merK_nil1 (v : List α) : merK key [] v = v := by simp [merK]
theorem merK_len : ∀ (u v : List α), (merK key u v).length = u.length + v.length
  | [], v => by simp [merK_nil1]
  | x :: u, [] => by simp [merK_nil]
  | x :: u, y :: v => by
    rw [merK_cons]
    split
    · rw [List.length_cons, merK_len (x :: u) v, List.length_cons, List.length_cons]; omega
    · rw [List.length_cons, merK_len u (y :: v), List.length_cons, List.length_cons]; omega
termination_by u v => u.length + v.length
/-- A merge is split: what stands ahead in both lists may be merged by itself. -/
theorem merK_split : ∀ (u1 u2 v1 v2 : List α), (∀ x ∈ u1, ∀ y ∈ v2, ¬ key y < key x) → (∀ y ∈ v1, ∀ x ∈ u2, key y < key x) → merK key (u1 ++ u2) (v1 ++ v2) = merK key u1 v1 ++ merK key u2 v2
  | [], u2, [], v2, _, _ => by simp [merK_nil1]
  | [], u2, y :: v1, v2, h1, h2 => by
    have ih := merK_split [] u2 v1 v2 h1 (fun z hz => h2 z (by simp [hz]))
    simp only [List.nil_append, merK_nil1] at ih ⊢
    cases u2 with
    | nil => simp [merK_nil1]
    | cons x u2 =>
      rw [List.cons_append, merK_cons, if_pos (h2 y (by simp) x (by simp)), ih]; rfl
  | x :: u1, u2, [], v2, h1, h2 => by
    have ih := merK_split u1 u2 [] v2 (fun z hz => h1 z (by simp [hz])) h2
    simp only [List.nil_append, merK_nil] at ih ⊢
    cases v2 with
    | nil => simp [merK_nil]
    | cons y v2 =>
      rw [List.cons_append, merK_cons, if_neg (h1 x (by simp) y (by simp)), ih]; rfl
  | x :: u1, u2, y :: v1, v2, h1, h2 => by
    rw [List.cons_append, List.cons_append, merK_cons, merK_cons]
    split
    · rw [← List.cons_append, merK_split (x :: u1) u2 v1 v2 h1 (fun z hz => h2 z (by simp [hz]))]; rfl
    · rw [← List.cons_append, merK_split u1 u2 (y :: v1) v2 (fun z hz => h1 z (by simp [hz])) h2]; rfl
termination_by u1 _ v1 _ => u1.length + v1.length
theorem merK_one_left {x : α} : ∀ {v : List α}, SrtK key v → ∀ {j : Nat}, (∀ y ∈ v.take j, key y < key x) → (∀ y ∈ v.drop j, ¬ key y < key x) → merK key [x] v = v.take j ++ x :: v.drop j
  | [], _, j, _, _ => by simp [merK_nil]
  | y :: v, _, 0, _, h2 => by rw [merK_cons, if_neg (h2 y (by simp)), merK_nil1]; rfl
  | y :: v, hs, j + 1, h1, h2 => by
    rw [List.take_succ_cons] at h1
    rw [List.drop_succ_cons] at h2
    rw [merK_cons, if_pos (h1 y (by simp)), merK_one_left (List.pairwise_cons.1 hs).2 (fun z hz => h1 z (by simp [hz])) h2]
    rfl
theorem merK_one_right {x : α} : ∀ {u : List α}, SrtK key u → ∀ {j : Nat}, (∀ y ∈ u.take j, ¬ key x < key y) → (∀ y ∈ u.drop j, key x < key y) → merK key u [x] = u.take j ++ x :: u.drop j
  | [], _, j, _, _ => by simp [merK_nil1]
  | y :: u, _, 0, _, h2 => by rw [merK_cons, if_pos (h2 y (by simp)), merK_nil]; rfl
  | y :: u, hs, j + 1, h1, h2 => by
    rw [List.take_succ_cons] at h1
    rw [List.drop_succ_cons] at h2
    rw [merK_cons, if_neg (h1 y (by simp)), merK_one_right (List.pairwise_cons.1 hs).2 (fun z hz => h1 z (by simp [hz])) h2]
    rfl
/-- An element is put into a merge: it is put into the second list. -/
theorem merK_ins {x : α} : ∀ (u v : List α), SrtK key u → SrtK key v → merK key u (insK key x v) = insK key x (merK key u v)
  | [], v, _, _ => by rw [merK_nil1, merK_nil1]
  | a :: u, [], hu, _ => by
    have ih := merK_ins (x := x) u [] (List.pairwise_cons.1 hu).2 List.Pairwise.nil
    simp only [insK, merK_nil] at ih ⊢
    rw [merK_cons]
    split
    · rw [merK_nil]
    · rw [ih]
  | a :: u, b :: v, hu, hv => by
    have hu' := List.pairwise_cons.1 hu
    have hv' := List.pairwise_cons.1 hv
    by_cases hxb : key x < key b
    · have e : insK key x (b :: v) = x :: b :: v := by simp [insK, hxb]
      by_cases hba : key b < key a
      · rw [e, merK_cons, if_pos (by omega), merK_cons, if_pos hba]
        simp [insK, hxb]
      · by_cases hxa : key x < key a
        · rw [e, merK_cons, if_pos hxa, merK_cons, if_neg hba]
          simp [insK, hxa]
        · have ih := merK_ins (x := x) u (b :: v) hu'.2 hv
          rw [e] at ih
          rw [e, merK_cons, if_neg hxa, ih, merK_cons, if_neg hba]
          simp [insK, hxa]
    · have e : insK key x (b :: v) = b :: insK key x v := by simp [insK, hxb]
      rw [e, merK_cons, merK_cons]
      by_cases hba : key b < key a
      · rw [if_pos hba, if_pos hba, merK_ins (a :: u) v hu hv'.2]
        simp [insK, hxb]
      · have ih := merK_ins (x := x) u (b :: v) hu'.2 hv
        rw [e] at ih
        rw [if_neg hba, if_neg hba, ih]
        simp [insK, show ¬ key x < key a by omega]
termination_by u v => u.length + v.length
theorem merK_foldl (u : List α) (hu : SrtK key u) : ∀ (v t : List α), SrtK key t → merK key u (v.foldl (fun s x => insK key x s) t) = v.foldl (fun s x => insK key x s) (merK key u t)
  | [], _, _ => rfl
  | x :: v, t, ht => by rw [List.foldl_cons, List.foldl_cons, merK_foldl u hu v _ (insK_srt x ht), merK_ins u t hu ht]
theorem merK_sort (u : List α) (hu : SrtK key u) (v : List α) : merK key u (sortK key v) = v.foldl (fun s x => insK key x s) u := by
  rw [sortK, merK_foldl u hu v [] List.Pairwise.nil, merK_nil]
theorem sortK_append (u v : List α) : sortK key (u ++ v) = merK key (sortK key u) (sortK key v) := by
  rw [merK_sort _ (sortK_srt u)]
  simp [sortK]
theorem insK_front {x : α} {l : List α} (h : ∀ z ∈ l, key x < key z) : insK key x l = x :: l := by
  cases l with
  | nil => rfl
  | cons y l => simp [insK, h y (by simp)]
theorem insK_filter {x : α} (p : α → Bool) : ∀ {l : List α}, SrtK key l → (insK key x l).filter p = if p x then insK key x (l.filter p) else l.filter p
  | [], _ => by simp only [insK, List.filter_cons, List.filter_nil]
  | y :: l, h => by
    have h' := List.pairwise_cons.1 h
    by_cases hlt : key x < key y
    · have e : insK key x (y :: l) = x :: y :: l := by simp [insK, hlt]
      rw [e, List.filter_cons]
      split
      · rw [insK_front]
        intro z hz
        have hz := (List.mem_filter.1 hz).1
        rcases List.mem_cons.1 hz with rfl | hz
        · exact hlt
        · have := h'.1 z hz; omega
      · rfl
    · have e : insK key x (y :: l) = y :: insK key x l := by simp [insK, hlt]
      rw [e, List.filter_cons, insK_filter p h'.2]
      by_cases hy : p y = true
      · rw [if_pos hy, List.filter_cons, if_pos hy]
        split
        · simp [insK, hlt]
        · rfl
      · rw [if_neg hy, List.filter_cons, if_neg hy]
theorem foldl_filter (p : α → Bool) : ∀ (l s : List α), SrtK key s → (l.foldl (fun s x => insK key x s) s).filter p = (l.filter p).foldl (fun s x => insK key x s) (s.filter p)
  | [], _, _ => rfl
  | x :: l, s, h => by
    rw [List.foldl_cons, foldl_filter p l _ (insK_srt x h), insK_filter p h, List.filter_cons]
    split <;> rfl
theorem sortK_filter (p : α → Bool) (l : List α) : sortK key (l.filter p) = (sortK key l).filter p := by
  rw [sortK, sortK, foldl_filter p l [] List.Pairwise.nil]; rfl
theorem sortK_mem {x : α} {l : List α} : x ∈ sortK key l ↔ x ∈ l := by
  have : ∀ (l s : List α), x ∈ l.foldl (fun s x => insK key x s) s ↔ x ∈ s ∨ x ∈ l := by
    intro l
    induction l with
    | nil => intro s; simp
    | cons y l ih =>
      intro s
      rw [List.foldl_cons, ih, insK_mem, List.mem_cons]
      constructor
      · rintro ((h | h) | h)
        · exact .inr (.inl h)
        · exact .inl h
        · exact .inr (.inr h)
      · rintro (h | h | h)
        · exact .inl (.inr h)
        · exact .inl (.inl h)
        · exact .inr h
  rw [sortK, this]; simp
/-- Of a sorted list, what comes up to t1, and what comes up to t2 of the rest, is what comes up to t2. -/
theorem takeWhile_two {t1 t2 : Int} (h : t1 ≤ t2) : ∀ {l : List α}, SrtK key l → l.takeWhile (fun x => decide (key x ≤ t2)) = l.takeWhile (fun x => decide (key x ≤ t1)) ++ (l.filter fun x => !decide (key x ≤ t1)).takeWhile (fun x => decide (key x ≤ t2))
  | [], _ => rfl
  | x :: l, hs => by
    have h' := List.pairwise_cons.1 hs
    by_cases h1 : key x ≤ t1
    · rw [List.takeWhile_cons_of_pos (by simp; omega), List.takeWhile_cons_of_pos (by simpa using h1), List.filter_cons_of_neg (by simpa using h1), takeWhile_two h h'.2]; rfl
    · have e : (x :: l).filter (fun x => !decide (key x ≤ t1)) = x :: l := List.filter_eq_self.2 fun z hz => by
        rcases List.mem_cons.1 hz with rfl | hz
        · simp; omega
        · have := h'.1 z hz; simp; omega
      rw [e, List.takeWhile_cons_of_neg (a := x) (p := fun x => decide (key x ≤ t1)) (by simpa using h1)]; rfl
end
end Go.Proofs.Ytehjdbgijibmcaa
