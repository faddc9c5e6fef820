/- Layer 15 (store): lists whose keys increase: what lies ahead of a key, with it, behind it. Plain Lean. -/
import Derived.Test.YtfodpcpclmnbkaaDoorZSe
set_option linter.unusedSimpArgs false
set_option linter.unusedVariables false
namespace Go.Proofs.YtfodpcpclmnbkaaDoor
open Go.Fw Go.RowKit
theorem takeW_mem {α : Type} {p : α → Bool} {y : α} : ∀ l : List α, y ∈ l.takeWhile p → p y = true
  | [], h => by cases h
  | x :: l, h => by
    by_cases hx : p x = true
    · rw [List.takeWhile_cons_of_pos hx] at h
      rcases List.mem_cons.1 h with rfl | h
      · exact hx
      · exact takeW_mem l h
    · rw [List.takeWhile_cons_of_neg hx] at h; cases h
theorem dropW_head {α : Type} {p : α → Bool} {y : α} : ∀ l : List α, (l.dropWhile p).head? = some y → ¬ p y = true
  | [], h => by cases h
  | x :: l, h => by
    by_cases hx : p x = true
    · rw [List.dropWhile_cons_of_pos hx] at h; exact dropW_head l h
    · rw [List.dropWhile_cons_of_neg hx] at h; injection h with h; subst h; exact hx
theorem lb_len {α : Type} {key : α → Int} {k : Int} {a b : List α} (ha : ∀ y ∈ a, key y < k) (hb : ∀ y, b.head? = some y → ¬ key y < k) : lbK key k (a ++ b) = a.length := by
  unfold lbK
  rw [List.takeWhile_append_of_pos (by simpa using ha)]
  cases b with
  | nil => simp
  | cons y b => rw [List.takeWhile_cons_of_neg (by simpa using hb y rfl)]; simp
/-- A list whose keys increase falls into what is ahead of a key, the element that has it, and what is behind. -/
theorem split_lb {α : Type} [F : Flat α] {key : α → Int} {l : List α} (k : Int) (h : Rising key l) :
    (hasK key k l = true ∧ ∃ a x b, l = a ++ x :: b ∧ key x = k ∧ (∀ y ∈ a, key y < k) ∧ (∀ y ∈ b, k < key y) ∧ lbK key k l = a.length) ∨
    (hasK key k l = false ∧ ∃ a b, l = a ++ b ∧ (∀ y ∈ a, key y < k) ∧ (∀ y ∈ b, k < key y) ∧ lbK key k l = a.length) := by
  have hl := List.takeWhile_append_dropWhile (p := fun x => decide (key x < k)) (l := l)
  have ha : ∀ y ∈ l.takeWhile (fun x => decide (key x < k)), key y < k := fun y hy => by
    have := takeW_mem l hy
    simpa using this
  obtain ⟨a, ea⟩ : ∃ a, l.takeWhile (fun x => decide (key x < k)) = a := ⟨_, rfl⟩
  obtain ⟨b, eb⟩ : ∃ b, l.dropWhile (fun x => decide (key x < k)) = b := ⟨_, rfl⟩
  have hb : ∀ y, b.head? = some y → ¬ key y < k := fun y hy => by
    have := dropW_head (p := fun x => decide (key x < k)) (y := y) l (by rw [eb]; exact hy)
    simpa using this
  rw [ea, eb] at hl
  rw [ea] at ha
  have hlb : lbK key k l = a.length := by rw [← hl]; exact lb_len ha hb
  cases b with
  | nil =>
    refine .inr ⟨?_, a, [], hl.symm, ha, by simp, hlb⟩
    unfold hasK
    rw [hlb, ← hl]; simp
  | cons x b =>
    have hg : l.getD a.length F.dflt = x := by rw [← hl]; simp [List.getD_eq_getElem?_getD]
    have hn : a.length < l.length := by rw [← hl]; simp
    have hx : ¬ key x < k := hb x rfl
    have hbx : ∀ y ∈ b, key x < key y := fun y hy => by
      rw [← hl] at h
      unfold Rising at h
      exact (List.pairwise_cons.1 (List.pairwise_append.1 h).2.1).1 y hy
    by_cases hk : key x = k
    · refine .inl ⟨?_, a, x, b, hl.symm, hk, ha, fun y hy => by have := hbx y hy; omega, hlb⟩
      unfold hasK
      rw [hlb, hg, decide_eq_true hn, decide_eq_true hk]; rfl
    · refine .inr ⟨?_, a, x :: b, hl.symm, ha, fun y hy => ?_, hlb⟩
      · unfold hasK
        rw [hlb, hg, decide_eq_false hk, Bool.and_false]
      · rcases List.mem_cons.1 hy with rfl | hy
        · omega
        · have := hbx y hy; omega
section
variable {α : Type} {key : α → Int} {k : Int}
theorem filt_lt {a b : List α} (ha : ∀ y ∈ a, key y < k) (hb : ∀ y ∈ b, ¬ key y < k) : (a ++ b).filter (fun x => decide (key x < k)) = a := by
  rw [List.filter_append, List.filter_eq_self.2 (by simpa using ha), List.filter_eq_nil_iff.2 (by simpa using hb), List.append_nil]
theorem filt_gt {a b : List α} (ha : ∀ y ∈ a, ¬ k < key y) (hb : ∀ y ∈ b, k < key y) : (a ++ b).filter (fun x => decide (k < key x)) = b := by
  rw [List.filter_append, List.filter_eq_nil_iff.2 (by simpa using ha), List.filter_eq_self.2 (by simpa using hb), List.nil_append]
/-- An element is put in, in the place of the one that has its key. -/
def insK (key : α → Int) (c : α) (l : List α) : List α := l.filter (fun x => decide (key x < key c)) ++ c :: l.filter (fun x => decide (key c < key x))
theorem insK_one {c x : α} {a b : List α} (hx : key x = key c) (ha : ∀ y ∈ a, key y < key c) (hb : ∀ y ∈ b, key c < key y) : insK key c (a ++ x :: b) = a ++ c :: b := by
  unfold insK
  rw [filt_lt ha (fun y hy => by rcases List.mem_cons.1 hy with rfl | hy; omega; have := hb y hy; omega)]
  rw [show a ++ x :: b = (a ++ [x]) ++ b by simp, filt_gt (fun y hy => by rcases List.mem_append.1 hy with hy | hy; have := ha y hy; omega; rw [List.mem_singleton.1 hy]; omega) hb]
theorem insK_no {c : α} {a b : List α} (ha : ∀ y ∈ a, key y < key c) (hb : ∀ y ∈ b, key c < key y) : insK key c (a ++ b) = a ++ c :: b := by
  unfold insK
  rw [filt_lt ha (fun y hy => by have := hb y hy; omega), filt_gt (fun y hy => by have := ha y hy; omega) hb]
theorem lb_le (k : Int) (l : List α) : lbK key k l ≤ l.length := by
  unfold lbK
  exact (List.takeWhile_sublist _).length_le
variable [F : Flat α] {l : List α}
theorem ins_set {c : α} (h : Rising key l) (hb : hasK key (key c) l = true) : l.set (lbK key (key c) l) c = insK key c l := by
  rcases split_lb (key c) h with ⟨_, a, x, b, hl, hx, h1, h2, hlb⟩ | ⟨hf, _⟩
  · rw [hlb, hl, insK_one hx h1 h2, List.set_append_right _ _ (Nat.le_refl _), Nat.sub_self, List.set_cons_zero]
  · rw [hf] at hb; cases hb
theorem ins_new {c : α} (h : Rising key l) (hb : hasK key (key c) l = false) : l.take (lbK key (key c) l) ++ c :: l.drop (lbK key (key c) l) = insK key c l := by
  rcases split_lb (key c) h with ⟨hf, _⟩ | ⟨_, a, b, hl, h1, h2, hlb⟩
  · rw [hf] at hb; cases hb
  · rw [hlb, hl, insK_no h1 h2]; simp
theorem del_lb (h : Rising key l) (hb : hasK key k l = true) : l.eraseIdx (lbK key k l) = l.filter (fun x => decide (key x ≠ k)) := by
  rcases split_lb k h with ⟨_, a, x, b, hl, hx, h1, h2, hlb⟩ | ⟨hf, _⟩
  · rw [hlb, hl, List.eraseIdx_append_of_length_le (Nat.le_refl _), Nat.sub_self, List.eraseIdx_cons_zero, List.filter_append, List.filter_cons, if_neg (by simpa using hx),
      List.filter_eq_self.2 (fun y hy => by have := h1 y hy; simp; omega), List.filter_eq_self.2 (fun y hy => by have := h2 y hy; simp; omega)]
  · rw [hf] at hb; cases hb
theorem find_lb (h : Rising key l) : l.find? (fun x => decide (key x = k)) = if hasK key k l = true then some (l.getD (lbK key k l) F.dflt) else none := by
  rcases split_lb k h with ⟨hf, a, x, b, hl, hx, h1, h2, hlb⟩ | ⟨hf, a, b, hl, h1, h2, hlb⟩
  · rw [if_pos hf, hlb, hl, List.find?_append, List.find?_eq_none.2 (fun y hy => by have := h1 y hy; simp; omega), Option.none_or, List.find?_cons_of_pos (by simpa using hx)]
    simp [List.getD_eq_getElem?_getD]
  · rw [if_neg (by rw [hf]; simp), hl, List.find?_eq_none]
    intro y hy
    rcases List.mem_append.1 hy with hy | hy
    · have := h1 y hy; simp; omega
    · have := h2 y hy; simp; omega
theorem has_lt (h : hasK key k l = true) : lbK key k l < l.length ∧ key (l.getD (lbK key k l) F.dflt) = k := by
  unfold hasK at h
  simpa using h
end
/-- Lists whose keys increase, with the same elements. -/
theorem rising_ext {α : Type} {key : α → Int} : ∀ {l m : List α}, Rising key l → Rising key m → (∀ x, x ∈ l ↔ x ∈ m) → l = m
  | [], [], _, _, _ => rfl
  | [], y :: m, _, _, h => by have := (h y).2 (List.mem_cons_self ..); cases this
  | x :: l, [], _, _, h => by have := (h x).1 (List.mem_cons_self ..); cases this
  | x :: l, y :: m, hl, hm, h => by
    obtain ⟨hl1, hl2⟩ := List.pairwise_cons.1 hl
    obtain ⟨hm1, hm2⟩ := List.pairwise_cons.1 hm
    have e : x = y := by
      rcases List.mem_cons.1 ((h x).1 (List.mem_cons_self ..)) with e | hx
      · exact e
      · rcases List.mem_cons.1 ((h y).2 (List.mem_cons_self ..)) with e | hy
        · exact e.symm
        · have := hm1 x hx; have := hl1 y hy; omega
    subst e
    congr 1
    refine rising_ext hl2 hm2 fun z => ⟨fun hz => ?_, fun hz => ?_⟩
    · rcases List.mem_cons.1 ((h z).1 (List.mem_cons_of_mem _ hz)) with e | h'
      · subst e; have := hl1 z hz; omega
      · exact h'
    · rcases List.mem_cons.1 ((h z).2 (List.mem_cons_of_mem _ hz)) with e | h'
      · subst e; have := hm1 z hz; omega
      · exact h'
section
variable {α : Type} {key : α → Int} {l : List α} {c x : α}
theorem rising_filter (h : Rising key l) (p : α → Bool) : Rising key (l.filter p) := List.Pairwise.filter _ h
theorem mem_insK : x ∈ insK key c l ↔ x = c ∨ (x ∈ l ∧ key x ≠ key c) := by
  unfold insK
  simp only [List.mem_append, List.mem_cons, List.mem_filter, decide_eq_true_eq]
  constructor
  · rintro (⟨h1, h2⟩ | h | ⟨h1, h2⟩)
    · exact .inr ⟨h1, by omega⟩
    · exact .inl h
    · exact .inr ⟨h1, by omega⟩
  · rintro (h | ⟨h1, h2⟩)
    · exact .inr (.inl h)
    · by_cases h : key x < key c
      · exact .inl ⟨h1, h⟩
      · exact .inr (.inr ⟨h1, by omega⟩)
theorem rising_insK (h : Rising key l) : Rising key (insK key c l) := by
  unfold insK Rising
  rw [List.pairwise_append]
  refine ⟨rising_filter h _, List.pairwise_cons.2 ⟨fun y hy => ?_, rising_filter h _⟩, fun y hy z hz => ?_⟩
  · have := (List.mem_filter.1 hy).2; simpa using this
  · have h1 := (List.mem_filter.1 hy).2
    simp only [decide_eq_true_eq] at h1
    rcases List.mem_cons.1 hz with rfl | hz
    · exact h1
    · have h2 := (List.mem_filter.1 hz).2
      simp only [decide_eq_true_eq] at h2
      omega
theorem insK_len (h : Rising key l) : (insK key c l).length ≤ l.length + 1 := by
  unfold insK
  rw [List.length_append, List.length_cons]
  have h1 := List.countP_eq_length_filter (p := fun x => decide (key x < key c)) (l := l)
  have h2 := List.countP_eq_length_filter (p := fun x => decide (key c < key x)) (l := l)
  have h3 : List.countP (fun x => decide (key x < key c)) l + List.countP (fun x => decide (key c < key x)) l ≤ l.length := by
    clear h h1 h2
    induction l with
    | nil => simp
    | cons y l ih =>
      rw [List.countP_cons, List.countP_cons, List.length_cons]
      by_cases e1 : key y < key c
      · have e2 : ¬ key c < key y := by omega
        simp only [decide_eq_true e1, decide_eq_false e2]
        simp
        omega
      · simp only [decide_eq_false e1]
        by_cases e2 : key c < key y
        · simp only [decide_eq_true e2]
          simp
          omega
        · simp only [decide_eq_false e2]
          simp
          omega
  omega
theorem rising_inj (h : Rising key l) {y : α} (hx : x ∈ l) (hy : y ∈ l) (hk : key x = key y) : x = y := by
  induction l with
  | nil => cases hx
  | cons z l ih =>
    obtain ⟨h1, h2⟩ := List.pairwise_cons.1 h
    rcases List.mem_cons.1 hx with rfl | hx
    · rcases List.mem_cons.1 hy with rfl | hy
      · rfl
      · have := h1 y hy; omega
    · rcases List.mem_cons.1 hy with e | hy
      · rw [e] at hk
        have := h1 x hx; omega
      · exact ih h2 hx hy
/-- The element that has a key. -/
theorem find_key (h : Rising key l) {k : Int} : l.find? (fun x => decide (key x = k)) = some x ↔ x ∈ l ∧ key x = k := by
  constructor
  · intro hf
    exact ⟨List.mem_of_find?_eq_some hf, by have := List.find?_some hf; simpa using this⟩
  · rintro ⟨hm, hk⟩
    cases hf : l.find? (fun x => decide (key x = k)) with
    | none =>
      have := List.find?_eq_none.1 hf x hm
      simp [hk] at this
    | some y =>
      have h1 := List.mem_of_find?_eq_some hf
      have h2 := List.find?_some hf
      simp only [decide_eq_true_eq] at h2
      rw [rising_inj h h1 hm (by omega)]
end
end Go.Proofs.YtfodpcpclmnbkaaDoor
