/- Layer 37 (chat): rules for strings and for bytes of a string. -/
import Derived.Test.YtplhnnlklnbahaaQAa
import Derived.Test.YtplhnnlklnbahaaQAb
import Derived.Lib.Overlaps
import Derived.Lib.AppendZerosOnto
import Derived.Laws.Externs
import Derived.Laws.BytesString
import Derived.Laws.Cells
import Derived.Laws.Strings
import Derived.Laws.AppendOwn
import Derived.Lib.ConvBytes
set_option linter.unusedSimpArgs false
set_option linter.unusedVariables false
/- Layer 37 (chat): the longest ending of a text that is a beginning of words. Plain Lean. -/
namespace Go.Proofs.Ytplhnnlklnbahaa
open Go.Fw Go.RowKit
section
variable {α : Type}
/-- A set of texts with all their beginnings. -/
structure Closed (P : List (List α)) : Prop where
  nil : [] ∈ P
  pre : ∀ p b, p ++ [b] ∈ P → p ∈ P
theorem Closed.take {P : List (List α)} (h : Closed P) (p : List α) : ∀ q : List α, p ++ q ∈ P → p ∈ P := by
  intro q
  induction q generalizing p with
  | nil => intro hp; rwa [List.append_nil] at hp
  | cons b q ih =>
    intro hp
    have : p ++ [b] ++ q ∈ P := by rwa [List.append_assoc]
    exact h.pre p b (ih (p ++ [b]) this)
theorem suf_antisymm {p q : List α} (h1 : p <:+ q) (h2 : q <:+ p) : p = q := h1.eq_of_length (Nat.le_antisymm h1.length_le h2.length_le)
theorem suf_snoc {p s : List α} {b : α} : p <:+ s ++ [b] ↔ p = [] ∨ ∃ q, p = q ++ [b] ∧ q <:+ s := by
  constructor
  · rintro ⟨t, ht⟩
    rcases List.eq_nil_or_concat p with rfl | ⟨q, c, rfl⟩
    · exact .inl rfl
    · rw [List.concat_eq_append, ← List.append_assoc] at ht
      obtain ⟨h1, h2⟩ := List.append_inj' ht rfl
      have hc : c = b := by simpa using h2
      exact .inr ⟨q, by rw [List.concat_eq_append, hc], t, h1⟩
  · rintro (rfl | ⟨q, rfl, t, rfl⟩)
    · exact ⟨s ++ [b], List.append_nil _⟩
    · exact ⟨t, by rw [List.append_assoc]⟩
end
section
variable {α : Type} [DecidableEq α]
/-- The longest ending of s that is in P ([] is in P). -/
def lsuf (P : List (List α)) : List α → List α
  | [] => []
  | a :: s => if (a :: s) ∈ P then a :: s else lsuf P s
variable {P : List (List α)}
theorem lsuf_mem (h : [] ∈ P) : ∀ s : List α, lsuf P s ∈ P
  | [] => h
  | a :: s => by
    rw [lsuf]
    split
    · assumption
    · exact lsuf_mem h s
theorem lsuf_suf : ∀ s : List α, lsuf P s <:+ s
  | [] => List.suffix_refl _
  | a :: s => by
    rw [lsuf]
    split
    · exact List.suffix_refl _
    · exact (lsuf_suf s).trans (List.suffix_cons a s)
/-- It is the longest one. -/
theorem lsuf_max : ∀ (s : List α) {p : List α}, p ∈ P → p <:+ s → p <:+ lsuf P s
  | [], p, _, hs => hs
  | a :: s, p, hp, hs => by
    rw [lsuf]
    split
    · exact hs
    · rename_i hn
      rcases List.suffix_cons_iff.1 hs with h | h
      · exact absurd (h ▸ hp) hn
      · exact lsuf_max s hp h
theorem lsuf_self' {p : List α} (hp : p ∈ P) : lsuf P p = p := by
  cases p with
  | nil => rfl
  | cons a p => rw [lsuf, if_pos hp]
theorem lsuf_eq {s p : List α} (hp : p ∈ P) (hs : p <:+ s) (hm : ∀ q ∈ P, q <:+ s → q <:+ p) (h0 : [] ∈ P) : lsuf P s = p :=
  suf_antisymm (hm _ (lsuf_mem h0 s) (lsuf_suf s)) (lsuf_max s hp hs)
/-- A step of the automaton: the state behind one more letter depends on the state alone. -/
theorem lsuf_step (h : Closed P) (s : List α) (b : α) : lsuf P (s ++ [b]) = lsuf P (lsuf P s ++ [b]) := by
  refine lsuf_eq (lsuf_mem h.nil _) ?_ (fun q hq hs => ?_) h.nil
  · refine (lsuf_suf _).trans ?_
    obtain ⟨t, ht⟩ := lsuf_suf (P := P) s
    exact ⟨t, by rw [← List.append_assoc, ht]⟩
  · refine lsuf_max _ hq ?_
    rcases suf_snoc.1 hs with rfl | ⟨r, rfl, hr⟩
    · exact List.nil_suffix
    · obtain ⟨t, ht⟩ := lsuf_max s (h.pre r b hq) hr
      exact ⟨t, by rw [← List.append_assoc, ht]⟩
/-- The state behind a letter for which there is no edge: that of the longest proper ending. -/
theorem lsuf_back (h : Closed P) (a : α) (s : List α) (b : α) (hn : a :: s ++ [b] ∉ P) : lsuf P (a :: s ++ [b]) = lsuf P (lsuf P s ++ [b]) := by
  show lsuf P (a :: (s ++ [b])) = _
  rw [lsuf, if_neg (show ¬ a :: (s ++ [b]) ∈ P from hn), lsuf_step h]
/-- The next state, by fail: as the program completes the edges. -/
def failP (P : List (List α)) (p : List α) : List α := lsuf P p.tail
def stepP (P : List (List α)) (p : List α) (b : α) : List α := lsuf P (p ++ [b])
theorem stepP_edge {p : List α} {b : α} (hp : p ++ [b] ∈ P) : stepP P p b = p ++ [b] := lsuf_self' hp
theorem stepP_root {b : α} (hp : [b] ∉ P) : stepP P [] b = [] := by
  unfold stepP
  show lsuf P (b :: []) = []
  rw [lsuf, if_neg hp]
  rfl
theorem stepP_back (h : Closed P) {p : List α} {b : α} (h0 : p ≠ []) (hn : p ++ [b] ∉ P) : stepP P p b = stepP P (failP P p) b := by
  cases p with
  | nil => exact absurd rfl h0
  | cons a p => exact lsuf_back h a p b hn
theorem failP_child (h : Closed P) {p : List α} {b : α} (h0 : p ≠ []) : failP P (p ++ [b]) = stepP P (failP P p) b := by
  cases p with
  | nil => exact absurd rfl h0
  | cons a p => exact lsuf_step h p b
theorem failP_len {p : List α} (h0 : p ≠ []) : (failP P p).length < p.length := by
  have := (lsuf_suf (P := P) p.tail).length_le
  rw [List.length_tail] at this
  have : 0 < p.length := List.length_pos_iff.2 h0
  unfold failP
  omega
theorem failP_mem (h : Closed P) (p : List α) : failP P p ∈ P := lsuf_mem h.nil _
theorem stepP_mem (h : Closed P) (p : List α) (b : α) : stepP P p b ∈ P := lsuf_mem h.nil _
end
/-! The words that end at a state: longer ones first. -/
section
variable {α : Type} [DecidableEq α]
/-- The longest ending that is a word; [] if there is none ([] is no word). -/
def endW (Wd : List (List α)) : List α → List α
  | [] => []
  | a :: s => if (a :: s) ∈ Wd then a :: s else endW Wd s
/-- All endings that are words. -/
def outs (Wd : List (List α)) : List α → List (List α)
  | [] => []
  | a :: s => if (a :: s) ∈ Wd then (a :: s) :: outs Wd s else outs Wd s
variable {Wd P : List (List α)}
theorem outs_mem (s : List α) {w : List α} : w ∈ outs Wd s ↔ w ∈ Wd ∧ w ≠ [] ∧ w <:+ s := by
  induction s with
  | nil =>
    constructor
    · intro h; cases h
    · rintro ⟨_, h1, h2⟩; exact absurd (List.suffix_nil.1 h2) h1
  | cons a s ih =>
    rw [outs, List.suffix_cons_iff]
    split
    · rename_i hw
      rw [List.mem_cons, ih]
      constructor
      · rintro (rfl | ⟨h1, h2, h3⟩)
        · exact ⟨hw, by simp, .inl rfl⟩
        · exact ⟨h1, h2, .inr h3⟩
      · rintro ⟨h1, h2, h3 | h3⟩
        · exact .inl h3
        · exact .inr ⟨h1, h2, h3⟩
    · rename_i hw
      rw [ih]
      constructor
      · rintro ⟨h1, h2, h3⟩; exact ⟨h1, h2, .inr h3⟩
      · rintro ⟨h1, h2, h3 | h3⟩
        · exact absurd (h3 ▸ h1) hw
        · exact ⟨h1, h2, h3⟩
/-- The words that end at a text end at its state. -/
theorem outs_lsuf (hw : ∀ w ∈ Wd, w ∈ P) : ∀ s : List α, outs Wd s = outs Wd (lsuf P s)
  | [] => rfl
  | a :: s => by
    rw [lsuf]
    split
    · rfl
    · rename_i hn
      rw [outs, if_neg (fun h => hn (hw _ h))]
      exact outs_lsuf hw s
theorem endW_lsuf (hw : ∀ w ∈ Wd, w ∈ P) : ∀ s : List α, endW Wd s = endW Wd (lsuf P s)
  | [] => rfl
  | a :: s => by
    rw [lsuf]
    split
    · rfl
    · rename_i hn
      rw [endW, if_neg (fun h => hn (hw _ h))]
      exact endW_lsuf hw s
/-- The program's end of a node: its fail, if that is a word; otherwise the end of its fail. -/
def nextE (Wd P : List (List α)) (p : List α) : List α := endW Wd p.tail
theorem nextE_fail (hw : ∀ w ∈ Wd, w ∈ P) (p : List α) : nextE Wd P p = if failP P p ∈ Wd then failP P p else nextE Wd P (failP P p) := by
  unfold nextE failP
  rw [endW_lsuf hw p.tail]
  generalize lsuf P p.tail = q
  cases q with
  | nil => split <;> rfl
  | cons a q =>
    rw [endW]
    rfl
theorem outs_chain (p : List α) : outs Wd p = (if p ∈ Wd ∧ p ≠ [] then [p] else []) ++ outs Wd p.tail := by
  cases p with
  | nil => simp [outs]
  | cons a p =>
    rw [outs]
    by_cases h : (a :: p) ∈ Wd
    · rw [if_pos h, if_pos ⟨h, by simp⟩]; rfl
    · rw [if_neg h, if_neg (fun x => h x.1)]; rfl
theorem outs_next (p : List α) : outs Wd p.tail = outs Wd (nextE Wd P p) := by
  unfold nextE
  generalize p.tail = s
  induction s with
  | nil => rfl
  | cons a s ih =>
    rw [endW]
    split
    · rfl
    · rename_i hn
      rw [outs, if_neg hn]
      exact ih
end
end Go.Proofs.Ytplhnnlklnbahaa

/- Layer 37 (chat): the tree of beginnings of words. Plain Lean. -/
namespace Go.Proofs.Ytplhnnlklnbahaa
open Go.Fw Go.RowKit
/-- A node: the next ones, by letters; the state to fall back to; the word that ends here, plus one; its length; the next state at which a word ends. -/
structure Nod where
  next : List Nat
  fail : Nat
  word : Nat
  size : Nat
  stop : Nat
def nod0 (size : Nat) : Nod := ⟨List.replicate 256 0, 0, 0, size, 0⟩
def nodA (N : List Nod) (k : Nat) : Nod := N.getD k (nod0 0)
def nxt (N : List Nod) (k b : Nat) : Nat := (nodA N k).next.getD b 0
/-- A letter of a word: an edge, which is made where there is none. -/
def insB (s : List Nod × Nat) (b : Nat) : List Nod × Nat :=
  if nxt s.1 s.2 b = 0 then
    ((s.1 ++ [nod0 ((nodA s.1 s.2).size + 1)]).set s.2 { nodA s.1 s.2 with next := (nodA s.1 s.2).next.set b s.1.length }, s.1.length)
  else (s.1, nxt s.1 s.2 b)
def insW (N : List Nod) (w : List Nat) : List Nod × Nat := w.foldl insB (N, 0)
/-- P: the beginnings, by their nodes' numbers; V: the words so far. -/
structure Trie (N : List Nod) (P V : List (List Nat)) : Prop where
  len : P.length = N.length
  root : P.getD 0 [] = [] ∧ 0 < P.length
  nd : P.Nodup
  cl : Closed P
  wid : ∀ k, k < N.length → (nodA N k).next.length = 256
  edge : ∀ k, k < N.length → ∀ b, b < 256 → nxt N k b = if P.getD k [] ++ [b] ∈ P then P.idxOf (P.getD k [] ++ [b]) else 0
  size : ∀ k, k < N.length → (nodA N k).size = (P.getD k []).length
  word : ∀ k, k < N.length → (nodA N k).word = if P.getD k [] ∈ V then V.idxOf (P.getD k []) + 1 else 0
  bare : ∀ k, k < N.length → (nodA N k).fail = 0 ∧ (nodA N k).stop = 0
  vin : ∀ v ∈ V, v ∈ P ∧ v ≠ []
  byt : ∀ p ∈ P, ∀ b ∈ p, b < 256
theorem getD_at {α : Type} {l : List α} {k : Nat} (d : α) (hk : k < l.length) : l.getD k d = l[k] := by
  rw [List.getD_eq_getElem?_getD, List.getElem?_eq_getElem hk]; rfl
theorem getD_in {α : Type} {l : List α} {k : Nat} (d : α) (hk : k < l.length) : l.getD k d ∈ l := by
  rw [getD_at d hk]; exact List.getElem_mem hk
theorem idx_getD {l : List (List Nat)} (hn : l.Nodup) {k : Nat} (hk : k < l.length) : l.idxOf (l.getD k []) = k := by
  rw [getD_at [] hk]; exact hn.idxOf_getElem k hk
theorem getD_idx {l : List (List Nat)} {x : List Nat} (hx : x ∈ l) : l.getD (l.idxOf x) [] = x := by
  rw [getD_at [] (List.idxOf_lt_length_of_mem hx)]; exact List.getElem_idxOf (List.idxOf_lt_length_of_mem hx)
theorem getD_inj {l : List (List Nat)} (hn : l.Nodup) {i j : Nat} (hi : i < l.length) (hj : j < l.length) (h : l.getD i [] = l.getD j []) : i = j := by
  rw [← idx_getD hn hi, h, idx_getD hn hj]
theorem Trie.zero : Trie [nod0 0] [[]] [] where
  len := rfl
  root := ⟨rfl, by decide⟩
  nd := by simp
  cl := ⟨by simp, fun p b h => by simp at h⟩
  wid := fun k hk => by
    have : k = 0 := by simpa using hk
    subst this; exact List.length_replicate
  edge := fun k hk b hb => by
    have : k = 0 := by simpa using hk
    subst this
    rw [if_neg (by simp)]
    show (List.replicate 256 0).getD b 0 = 0
    rw [getD_at 0 (by rw [List.length_replicate]; exact hb), List.getElem_replicate]
  size := fun k hk => by
    have : k = 0 := by simpa using hk
    subst this; rfl
  word := fun k hk => by
    have : k = 0 := by simpa using hk
    subst this; rfl
  bare := fun k hk => by
    have : k = 0 := by simpa using hk
    subst this; exact ⟨rfl, rfl⟩
  vin := fun v h => by cases h
  byt := fun p hp b hb => by
    rw [List.mem_singleton.1 hp] at hb
    cases hb
section
variable {N : List Nod} {P V : List (List Nat)}
/-- The number of a beginning that is not empty is not 0. -/
theorem Trie.pos (h : Trie N P V) {q : List Nat} (hq : q ∈ P) (h0 : q ≠ []) : P.idxOf q ≠ 0 := fun e => by
  have := getD_idx hq
  rw [e, h.root.1] at this
  exact h0 this.symm
theorem Trie.no_edge (h : Trie N P V) {k b : Nat} (hk : k < N.length) (hb : b < 256) : nxt N k b = 0 ↔ P.getD k [] ++ [b] ∉ P := by
  rw [h.edge k hk b hb]
  constructor
  · intro e hm
    rw [if_pos hm] at e
    exact h.pos hm (by simp) e
  · intro hm
    rw [if_neg hm]
/-- A letter: the node behind it is that of the longer beginning. -/
theorem Trie.ins (h : Trie N P V) {k b : Nat} (hk : k < N.length) (hb : b < 256) :
    ∃ P', Trie (insB (N, k) b).1 P' V ∧ (∀ p ∈ P, p ∈ P') ∧ P'.getD (insB (N, k) b).2 [] = P.getD k [] ++ [b] ∧ (insB (N, k) b).2 < (insB (N, k) b).1.length ∧ (insB (N, k) b).1.length ≤ N.length + 1 ∧ N.length ≤ (insB (N, k) b).1.length ∧ ∀ p ∈ P', p ∈ P ∨ p = P.getD k [] ++ [b] := by
  have hkP : k < P.length := by rw [h.len]; exact hk
  by_cases he : nxt N k b = 0
  · have hq := (h.no_edge hk hb).1 he
    have hi : insB (N, k) b = ((N ++ [nod0 ((nodA N k).size + 1)]).set k { nodA N k with next := (nodA N k).next.set b N.length }, N.length) := by
      unfold insB; simp only; rw [if_pos he]
    rw [hi]
    simp only
    have hl : ((N ++ [nod0 ((nodA N k).size + 1)]).set k { nodA N k with next := (nodA N k).next.set b N.length }).length = N.length + 1 := by
      rw [List.length_set, List.length_append]; rfl
    have hP : ∀ j, j < N.length → (P ++ [P.getD k [] ++ [b]]).getD j [] = P.getD j [] := fun j hj => by
      rw [List.getD_eq_getElem?_getD, List.getElem?_append_left (by rw [h.len]; exact hj), ← List.getD_eq_getElem?_getD]
    have hPn : (P ++ [P.getD k [] ++ [b]]).getD N.length [] = P.getD k [] ++ [b] := by
      rw [List.getD_eq_getElem?_getD, List.getElem?_append_right (by rw [h.len]; exact Nat.le_refl _), h.len, Nat.sub_self]; rfl
    have hA : ∀ j, j < N.length → j ≠ k → nodA ((N ++ [nod0 ((nodA N k).size + 1)]).set k { nodA N k with next := (nodA N k).next.set b N.length }) j = nodA N j := fun j hj hne => by
      unfold nodA
      rw [List.getD_eq_getElem?_getD, List.getElem?_set_ne (by omega), List.getElem?_append_left hj, ← List.getD_eq_getElem?_getD]
    have hAk : nodA ((N ++ [nod0 ((nodA N k).size + 1)]).set k { nodA N k with next := (nodA N k).next.set b N.length }) k = { nodA N k with next := (nodA N k).next.set b N.length } := by
      show List.getD _ _ _ = _
      rw [List.getD_eq_getElem?_getD, List.getElem?_set_self (by rw [List.length_append]; simp only [List.length_singleton]; omega)]; rfl
    have hAn : nodA ((N ++ [nod0 ((nodA N k).size + 1)]).set k { nodA N k with next := (nodA N k).next.set b N.length }) N.length = nod0 ((nodA N k).size + 1) := by
      show List.getD _ _ _ = _
      rw [List.getD_eq_getElem?_getD, List.getElem?_set_ne (by omega), List.getElem?_append_right (Nat.le_refl _), Nat.sub_self]; rfl
    generalize (N ++ [nod0 ((nodA N k).size + 1)]).set k { nodA N k with next := (nodA N k).next.set b N.length } = M at hl hA hAk hAn
    have hcase : ∀ j, j < M.length → j < N.length ∧ j ≠ k ∨ j = k ∨ j = N.length := fun j hj => by omega
    have hqV : P.getD k [] ++ [b] ∉ V := fun hv => hq (h.vin _ hv).1
    refine ⟨P ++ [P.getD k [] ++ [b]], ⟨?_, ?_, ?_, ⟨List.mem_append_left _ h.cl.nil, ?_⟩, ?_, ?_, ?_, ?_, ?_, ?_, ?_⟩, fun p hp => List.mem_append_left _ hp, hPn, by omega, by omega, by omega, fun p hp => ?_⟩
    · rw [List.length_append, hl, h.len]; rfl
    · refine ⟨?_, by rw [List.length_append]; simp⟩
      rw [hP 0 (by have := h.root.2; rw [h.len] at this; exact this)]
      exact h.root.1
    · rw [List.nodup_append]
      exact ⟨h.nd, by simp, fun a ha c hc => by rw [List.mem_singleton.1 hc]; exact fun e => hq (e ▸ ha)⟩
    · intro p c hp
      rcases List.mem_append.1 hp with hp | hp
      · exact List.mem_append_left _ (h.cl.pre p c hp)
      · obtain ⟨e1, _⟩ := List.append_inj' (List.mem_singleton.1 hp) rfl
        rw [e1]
        exact List.mem_append_left _ (getD_in [] hkP)
    · intro j hj
      rcases hcase j hj with ⟨h1, h2⟩ | rfl | rfl
      · rw [hA j h1 h2]; exact h.wid j h1
      · rw [hAk]; simp only; rw [List.length_set]; exact h.wid j hk
      · rw [hAn]; exact List.length_replicate
    · intro j hj c hc
      have hmem : ∀ p : List Nat, p ++ [c] ∈ P ++ [P.getD k [] ++ [b]] ↔ p ++ [c] ∈ P ∨ (p = P.getD k [] ∧ c = b) := fun p => by
        rw [List.mem_append, List.mem_singleton]
        constructor
        · rintro (h1 | h1)
          · exact .inl h1
          · obtain ⟨e1, e2⟩ := List.append_inj' h1 rfl
            exact .inr ⟨e1, by simpa using e2⟩
        · rintro (h1 | ⟨rfl, rfl⟩)
          · exact .inl h1
          · exact .inr rfl
      have hidx : ∀ x ∈ P, (P ++ [P.getD k [] ++ [b]]).idxOf x = P.idxOf x := fun x hx => by rw [List.idxOf_append, if_pos hx]
      have hidq : (P ++ [P.getD k [] ++ [b]]).idxOf (P.getD k [] ++ [b]) = N.length := by
        rw [List.idxOf_append, if_neg hq, h.len]
        simp
      rcases hcase j hj with ⟨h1, h2⟩ | rfl | rfl
      · rw [hP j h1]
        unfold nxt
        rw [hA j h1 h2]
        show nxt N j c = _
        rw [h.edge j h1 c hc]
        by_cases hm : P.getD j [] ++ [c] ∈ P
        · rw [if_pos hm, if_pos ((hmem _).2 (.inl hm)), hidx _ hm]
        · rw [if_neg hm, if_neg]
          intro hm2
          rcases (hmem _).1 hm2 with hm2 | ⟨e1, _⟩
          · exact hm hm2
          · exact h2 (getD_inj h.nd (by rw [h.len]; exact h1) hkP e1)
      · rw [hP j hk]
        unfold nxt
        rw [hAk]
        simp only
        by_cases hcb : c = b
        · subst hcb
          rw [if_pos ((hmem _).2 (.inr ⟨rfl, rfl⟩)), hidq, List.getD_eq_getElem?_getD, List.getElem?_set_self (by rw [h.wid j hk]; exact hc)]; rfl
        · rw [List.getD_eq_getElem?_getD, List.getElem?_set_ne (fun e => hcb e.symm), ← List.getD_eq_getElem?_getD]
          show nxt N j c = _
          rw [h.edge j hk c hc]
          by_cases hm : P.getD j [] ++ [c] ∈ P
          · rw [if_pos hm, if_pos ((hmem _).2 (.inl hm)), hidx _ hm]
          · rw [if_neg hm, if_neg]
            intro hm2
            rcases (hmem _).1 hm2 with hm2 | ⟨_, e2⟩
            · exact hm hm2
            · exact hcb e2
      · rw [hPn]
        unfold nxt
        rw [hAn, if_neg]
        · show (List.replicate 256 0).getD c 0 = 0
          rw [getD_at 0 (by rw [List.length_replicate]; exact hc), List.getElem_replicate]
        · intro hm2
          rcases (hmem _).1 hm2 with hm2 | ⟨e1, _⟩
          · exact hq (h.cl.pre _ _ hm2)
          · have := congrArg List.length e1
            rw [List.length_append] at this
            simp at this
    · intro j hj
      rcases hcase j hj with ⟨h1, h2⟩ | rfl | rfl
      · rw [hA j h1 h2, hP j h1]; exact h.size j h1
      · rw [hAk, hP j hk]; exact h.size j hk
      · rw [hAn, hPn, List.length_append]
        show (nodA N k).size + 1 = _
        rw [h.size k hk]; rfl
    · intro j hj
      rcases hcase j hj with ⟨h1, h2⟩ | rfl | rfl
      · rw [hA j h1 h2, hP j h1]; exact h.word j h1
      · rw [hAk, hP j hk]; exact h.word j hk
      · rw [hAn, hPn, if_neg hqV]; rfl
    · intro j hj
      rcases hcase j hj with ⟨h1, h2⟩ | rfl | rfl
      · rw [hA j h1 h2]; exact h.bare j h1
      · rw [hAk]; exact h.bare j hk
      · rw [hAn]; exact ⟨rfl, rfl⟩
    · exact fun v hv => ⟨List.mem_append_left _ (h.vin v hv).1, (h.vin v hv).2⟩
    · intro p hp c hc
      rcases List.mem_append.1 hp with hp | hp
      · exact h.byt p hp c hc
      · rw [List.mem_singleton.1 hp] at hc
        rcases List.mem_append.1 hc with hc | hc
        · exact h.byt _ (getD_in [] hkP) c hc
        · rw [List.mem_singleton.1 hc]; exact hb
    · rcases List.mem_append.1 hp with hp | hp
      · exact .inl hp
      · exact .inr (List.mem_singleton.1 hp)
  · have hq : P.getD k [] ++ [b] ∈ P := Decidable.of_not_not fun hn => he ((h.no_edge hk hb).2 hn)
    have hi : insB (N, k) b = (N, nxt N k b) := by
      unfold insB; simp only; rw [if_neg he]
    rw [hi]
    simp only
    have hnx : nxt N k b = P.idxOf (P.getD k [] ++ [b]) := by rw [h.edge k hk b hb, if_pos hq]
    refine ⟨P, h, fun p hp => hp, by rw [hnx]; exact getD_idx hq, ?_, by omega, Nat.le_refl _, fun p hp => .inl hp⟩
    rw [hnx, ← h.len]
    exact List.idxOf_lt_length_of_mem hq
end
end Go.Proofs.Ytplhnnlklnbahaa

/- Layer 37 (chat): the tree of a list of words. Plain Lean. -/
namespace Go.Proofs.Ytplhnnlklnbahaa
open Go.Fw Go.RowKit
def foldN (b : Nat) : Nat := if 65 ≤ b ∧ b ≤ 90 then b + 32 else b
def foldW (w : List Nat) : List Nat := w.map foldN
theorem foldN_lt {b : Nat} (h : b < 256) : foldN b < 256 := by unfold foldN; split <;> omega
theorem foldW_len (w : List Nat) : (foldW w).length = w.length := List.length_map ..
theorem foldW_lt {w : List Nat} (h : ∀ b ∈ w, b < 256) : ∀ b ∈ foldW w, b < 256 := fun b hb => by
  obtain ⟨c, hc, rfl⟩ := List.mem_map.1 hb
  exact foldN_lt (h c hc)
/-- A word that may stand in a list. -/
def okW (w : List Nat) : Bool := decide (1 ≤ w.length) && decide (w.length ≤ 20) && !decide (32 ∈ w) && !decide (42 ∈ w)
section
variable {N : List Nod} {P V : List (List Nat)}
theorem Trie.fold : ∀ (w : List Nat) {N : List Nod} {P : List (List Nat)} {k : Nat}, Trie N P V → k < N.length → (∀ b ∈ w, b < 256) →
    ∃ P', Trie (w.foldl insB (N, k)).1 P' V ∧ (∀ p ∈ P, p ∈ P') ∧ P'.getD (w.foldl insB (N, k)).2 [] = P.getD k [] ++ w ∧ (w.foldl insB (N, k)).2 < (w.foldl insB (N, k)).1.length ∧ (w.foldl insB (N, k)).1.length ≤ N.length + w.length ∧ N.length ≤ (w.foldl insB (N, k)).1.length := by
  intro w
  induction w with
  | nil => exact fun {N P k} h hk _ => ⟨P, h, fun p hp => hp, by rw [List.append_nil]; rfl, hk, Nat.le_refl _, Nat.le_refl _⟩
  | cons b w ih =>
    intro N P k h hk hb
    obtain ⟨P1, t1, s1, e1, l1, m1, n1, _⟩ := h.ins hk (hb b List.mem_cons_self)
    rw [List.foldl_cons]
    generalize insB (N, k) b = s at t1 e1 l1 m1 n1
    obtain ⟨N1, k1⟩ := s
    simp only at t1 e1 l1 m1 n1
    obtain ⟨P2, t2, s2, e2, l2, m2, n2⟩ := ih t1 l1 (fun c hc => hb c (List.mem_cons_of_mem _ hc))
    refine ⟨P2, t2, fun p hp => s2 p (s1 p hp), by rw [e2, e1, List.append_assoc]; rfl, l2, ?_, by omega⟩
    rw [List.length_cons]; omega
/-- A whole word. -/
theorem Trie.insW (h : Trie N P V) {w : List Nat} (hb : ∀ b ∈ w, b < 256) :
    ∃ P', Trie (insW N w).1 P' V ∧ P'.getD (insW N w).2 [] = w ∧ (insW N w).2 < (insW N w).1.length ∧ (insW N w).1.length ≤ N.length + w.length ∧ N.length ≤ (insW N w).1.length := by
  obtain ⟨P', t, _, e, l, m, n⟩ := h.fold w (k := 0) (by rw [← h.len]; exact h.root.2) hb
  exact ⟨P', t, by rw [h.root.1] at e; exact e, l, m, n⟩
theorem Trie.word_zero (h : Trie N P V) {k : Nat} (hk : k < N.length) : (nodA N k).word = 0 ↔ P.getD k [] ∉ V := by
  rw [h.word k hk]
  split
  · rename_i hv; exact ⟨fun e => by omega, fun hn => absurd hv hn⟩
  · rename_i hv; exact ⟨fun _ => hv, fun _ => rfl⟩
theorem nodA_set {N : List Nod} {k : Nat} {x : Nod} (hk : k < N.length) : nodA (N.set k x) k = x := by
  unfold nodA
  rw [List.getD_eq_getElem?_getD, List.getElem?_set_self hk]; rfl
theorem nodA_ne {N : List Nod} {k j : Nat} {x : Nod} (hne : j ≠ k) : nodA (N.set k x) j = nodA N j := by
  unfold nodA
  rw [List.getD_eq_getElem?_getD, List.getElem?_set_ne (by omega), ← List.getD_eq_getElem?_getD]
/-- The word ends here. -/
theorem Trie.mark (h : Trie N P V) {k : Nat} (hk : k < N.length) (hv : P.getD k [] ∉ V) (h0 : P.getD k [] ≠ []) : Trie (N.set k { nodA N k with word := V.length + 1 }) P (V ++ [P.getD k []]) := by
  have hkP : k < P.length := by rw [h.len]; exact hk
  have hc : ∀ j, j = k ∨ j ≠ k := fun j => by omega
  have hl : (N.set k { nodA N k with word := V.length + 1 }).length = N.length := List.length_set ..
  refine ⟨by rw [hl]; exact h.len, h.root, h.nd, h.cl, fun j hj => ?_, fun j hj c hcc => ?_, fun j hj => ?_, fun j hj => ?_, fun j hj => ?_, fun v hv2 => ?_, h.byt⟩
  · rw [hl] at hj
    rcases hc j with rfl | hne
    · rw [nodA_set hk]; exact h.wid j hk
    · rw [nodA_ne hne]; exact h.wid j hj
  · rw [hl] at hj
    rw [← h.edge j hj c hcc]
    unfold nxt
    rcases hc j with rfl | hne
    · rw [nodA_set hk]
    · rw [nodA_ne hne]
  · rw [hl] at hj
    rcases hc j with rfl | hne
    · rw [nodA_set hk]; exact h.size j hk
    · rw [nodA_ne hne]; exact h.size j hj
  · rw [hl] at hj
    rcases hc j with rfl | hne
    · rw [nodA_set hk, if_pos (List.mem_append_right _ (List.mem_singleton.2 rfl)), List.idxOf_append, if_neg hv]
      simp
    · rw [nodA_ne hne, h.word j hj]
      have hd : P.getD j [] ≠ P.getD k [] := fun e => hne (getD_inj h.nd (by rw [h.len]; exact hj) hkP e)
      by_cases hm : P.getD j [] ∈ V
      · rw [if_pos hm, if_pos (List.mem_append_left _ hm), List.idxOf_append, if_pos hm]
      · rw [if_neg hm, if_neg]
        intro hm2
        rcases List.mem_append.1 hm2 with hm2 | hm2
        · exact hm hm2
        · exact hd (List.mem_singleton.1 hm2)
  · rw [hl] at hj
    rcases hc j with rfl | hne
    · rw [nodA_set hk]; exact h.bare j hk
    · rw [nodA_ne hne]; exact h.bare j hj
  · rcases List.mem_append.1 hv2 with hv2 | hv2
    · exact h.vin v hv2
    · rw [List.mem_singleton.1 hv2]
      exact ⟨getD_in [] hkP, h0⟩
end
/-- All words, one after the other; none if one of them is wrong, or comes twice. -/
def trieM : List (List Nat) → List Nod → Nat → Option (List Nod)
  | [], N, _ => some N
  | w :: r, N, i =>
    if okW w then
      (if (nodA (insW N (foldW w)).1 (insW N (foldW w)).2).word = 0 then
        trieM r ((insW N (foldW w)).1.set (insW N (foldW w)).2 { nodA (insW N (foldW w)).1 (insW N (foldW w)).2 with word := i + 1 }) (i + 1)
      else none)
    else none
/-- A valid list of words. -/
def rightW (ws : List (List Nat)) : Prop := ws.length ≤ 100 ∧ (∀ w ∈ ws, okW w = true) ∧ (ws.map foldW).Nodup
theorem okW_pos {w : List Nat} (h : okW w = true) : 1 ≤ w.length ∧ w.length ≤ 20 := by
  unfold okW at h
  simp only [Bool.and_eq_true, decide_eq_true_eq] at h
  exact ⟨h.1.1.1, h.1.1.2⟩
/-- The tree of a list of words, or none. -/
theorem trieM_spec : ∀ (ws : List (List Nat)) {N : List Nod} {P V : List (List Nat)}, Trie N P V → V.Nodup → (∀ w ∈ ws, ∀ b ∈ w, b < 256) →
    match trieM ws N V.length with
    | some M => (∀ w ∈ ws, okW w = true) ∧ (V ++ ws.map foldW).Nodup ∧ (∃ P', Trie M P' (V ++ ws.map foldW)) ∧ M.length ≤ N.length + 20 * ws.length
    | none => ¬ ((∀ w ∈ ws, okW w = true) ∧ (V ++ ws.map foldW).Nodup) := by
  intro ws
  induction ws with
  | nil =>
    intro N P V h hn _
    rw [trieM]
    show (∀ w ∈ ([] : List (List Nat)), okW w = true) ∧ (V ++ ([] : List (List Nat)).map foldW).Nodup ∧ (∃ P', Trie N P' (V ++ ([] : List (List Nat)).map foldW)) ∧ N.length ≤ N.length + 20 * 0
    rw [List.map_nil, List.append_nil]
    exact ⟨fun w hw => (by cases hw), hn, ⟨P, h⟩, Nat.le_refl _⟩
  | cons w r ih =>
    intro N P V h hn hb
    rw [trieM]
    by_cases ho : okW w = true
    · rw [if_pos ho]
      obtain ⟨P1, t1, e1, l1, m1, n1⟩ := h.insW (foldW_lt (hb w List.mem_cons_self))
      rw [foldW_len] at m1
      have hlen := okW_pos ho
      generalize insW N (foldW w) = s at t1 e1 l1 m1 n1
      obtain ⟨N1, k⟩ := s
      simp only at t1 e1 l1 m1 n1 ⊢
      by_cases hw : (nodA N1 k).word = 0
      · rw [if_pos hw]
        have hv := (t1.word_zero l1).1 hw
        have h0 : P1.getD k [] ≠ [] := by
          rw [e1]
          intro e
          have := congrArg List.length e
          rw [foldW_len, List.length_nil] at this
          omega
        have t2 := t1.mark l1 hv h0
        rw [e1] at t2 hv
        have hn2 : (V ++ [foldW w]).Nodup := by
          rw [List.nodup_append]
          exact ⟨hn, by simp, fun a ha c hc => by rw [List.mem_singleton.1 hc]; exact fun e => hv (e ▸ ha)⟩
        have := ih t2 hn2 (fun x hx => hb x (List.mem_cons_of_mem _ hx))
        have hl2 : (V ++ [foldW w]).length = V.length + 1 := by rw [List.length_append]; rfl
        rw [hl2] at this
        have ea : V ++ [foldW w] ++ r.map foldW = V ++ (w :: r).map foldW := by rw [List.append_assoc]; rfl
        rw [ea] at this
        cases hT : trieM r (N1.set k { nodA N1 k with word := V.length + 1 }) (V.length + 1) with
        | some M =>
          rw [hT] at this
          obtain ⟨a1, a2, a3, a4⟩ := this
          refine ⟨fun x hx => ?_, a2, a3, ?_⟩
          · rcases List.mem_cons.1 hx with rfl | hx
            · exact ho
            · exact a1 x hx
          · rw [List.length_set] at a4
            rw [List.length_cons]; omega
        | none =>
          rw [hT] at this
          exact fun ⟨b1, b2⟩ => this ⟨fun x hx => b1 x (List.mem_cons_of_mem _ hx), b2⟩
      · rw [if_neg hw]
        have hv : P1.getD k [] ∈ V := Decidable.of_not_not fun hn => hw ((t1.word_zero l1).2 hn)
        rw [e1] at hv
        rintro ⟨_, hnd⟩
        rw [List.map_cons] at hnd
        have := (List.nodup_append.1 hnd).2.2 _ hv (foldW w) List.mem_cons_self
        exact this rfl
    · rw [if_neg ho]
      exact fun ⟨b1, _⟩ => ho (b1 w List.mem_cons_self)
end Go.Proofs.Ytplhnnlklnbahaa

/- Layer 37 (chat): the edges of the automaton, level by level. Plain Lean. -/
namespace Go.Proofs.Ytplhnnlklnbahaa
open Go.Fw Go.RowKit
/-- One letter of a node: as the program does it. -/
def linkB (a : Nat) (s : List Nod × List Nat) (b : Nat) : List Nod × List Nat :=
  let back := if 0 < a then nxt s.1 (nodA s.1 a).fail b else 0
  let to := nxt s.1 a b
  if to = 0 then (s.1.set a { nodA s.1 a with next := (nodA s.1 a).next.set b back }, s.2)
  else
    let N1 := s.1.set to { nodA s.1 to with fail := back, stop := back }
    (if (nodA N1 back).word = 0 then N1.set to { nodA N1 to with stop := (nodA N1 back).stop } else N1, s.2 ++ [to])
def linkA (a : Nat) (s : List Nod × List Nat) (j : Nat) : List Nod × List Nat := (List.range j).foldl (linkB a) s
def linkQ : Nat → List Nod → List Nat → List Nod
  | 0, N, _ => N
  | _, N, [] => N
  | n + 1, N, a :: q => linkQ n (linkA a (N, q) 256).1 (linkA a (N, q) 256).2
/-- The automaton while its edges are completed: D are done, Q wait. -/
structure Link (N : List Nod) (P V : List (List Nat)) (D Q : List Nat) : Prop where
  len : P.length = N.length
  root : P.getD 0 [] = [] ∧ 0 < P.length
  nd : P.Nodup
  cl : Closed P
  vin : ∀ v ∈ V, v ∈ P ∧ v ≠ []
  byt : ∀ p ∈ P, ∀ b ∈ p, b < 256
  wid : ∀ k, k < N.length → (nodA N k).next.length = 256
  size : ∀ k, k < N.length → (nodA N k).size = (P.getD k []).length
  word : ∀ k, k < N.length → (nodA N k).word = if P.getD k [] ∈ V then V.idxOf (P.getD k []) + 1 else 0
  dq : (D ++ Q).Nodup
  lt : ∀ k ∈ D ++ Q, k < N.length
  zero : 0 ∈ D ++ Q
  done : ∀ k ∈ D, ∀ b, b < 256 → nxt N k b = P.idxOf (stepP P (P.getD k []) b)
  todo : ∀ k, k < N.length → k ∉ D → ∀ b, b < 256 → nxt N k b = if P.getD k [] ++ [b] ∈ P then P.idxOf (P.getD k [] ++ [b]) else 0
  back : ∀ k ∈ D ++ Q, (nodA N k).fail = P.idxOf (failP P (P.getD k [])) ∧ (nodA N k).stop = P.idxOf (nextE V P (P.getD k []))
  kids : ∀ k ∈ D, ∀ b, P.getD k [] ++ [b] ∈ P → P.idxOf (P.getD k [] ++ [b]) ∈ D ++ Q
  par : ∀ k ∈ D ++ Q, ∀ p b, P.getD k [] = p ++ [b] → P.idxOf p ∈ D
  ord : Q.Pairwise fun x y => (P.getD x []).length ≤ (P.getD y []).length
  gap : ∀ x ∈ Q, ∀ y ∈ Q, (P.getD y []).length ≤ (P.getD x []).length + 1
section
variable {N : List Nod} {P V : List (List Nat)} {D Q : List Nat}
theorem Link.lt' (h : Link N P V D Q) {k : Nat} (hk : k ∈ D ++ Q) : k < P.length := by rw [h.len]; exact h.lt k hk
/-- All nodes that are not longer than those that wait are known. -/
theorem Link.near (h : Link N P V D Q) : ∀ (n : Nat) {y : Nat}, y < P.length → (P.getD y []).length = n → (∀ q ∈ Q, n ≤ (P.getD q []).length) → y ∈ D ++ Q := by
  intro n
  induction n with
  | zero =>
    intro y hy hn _
    have h0 : P.getD y [] = [] := List.eq_nil_of_length_eq_zero hn
    have : y = 0 := getD_inj h.nd hy h.root.2 (by rw [h0, h.root.1])
    rw [this]; exact h.zero
  | succ n ih =>
    intro y hy hn hq
    rcases List.eq_nil_or_concat (P.getD y []) with h0 | ⟨p, b, hpb⟩
    · rw [h0] at hn; simp at hn
    · rw [List.concat_eq_append] at hpb
      have hm : p ++ [b] ∈ P := by rw [← hpb]; exact getD_in [] hy
      have hpm := h.cl.pre p b hm
      have hpl : p.length = n := by
        have := congrArg List.length hpb
        rw [List.length_append, hn] at this
        simp at this; omega
      have hx : P.idxOf p ∈ D ++ Q := ih (List.idxOf_lt_length_of_mem hpm) (by rw [getD_idx hpm]; exact hpl) (fun q hqq => by have := hq q hqq; omega)
      rcases List.mem_append.1 hx with hx | hx
      · have := h.kids _ hx b (by rw [getD_idx hpm]; exact hm)
        rw [getD_idx hpm, ← hpb, idx_getD h.nd hy] at this
        exact this
      · have := hq _ hx
        rw [getD_idx hpm, hpl] at this
        omega
theorem Link.near_head {a : Nat} (h : Link N P V D (a :: Q)) {y : Nat} (hy : y < P.length) (hl : (P.getD y []).length ≤ (P.getD a []).length) : y ∈ D ++ a :: Q :=
  h.near _ hy rfl fun q hq => by
    rcases List.mem_cons.1 hq with rfl | hq
    · exact hl
    · exact Nat.le_trans hl ((List.pairwise_cons.1 h.ord).1 q hq)
/-- All nodes that are shorter than the first one that waits are done. -/
theorem Link.short {a : Nat} (h : Link N P V D (a :: Q)) {y : Nat} (hy : y < P.length) (hl : (P.getD y []).length < (P.getD a []).length) : y ∈ D := by
  rcases List.mem_append.1 (h.near_head hy (by omega)) with h1 | h1
  · exact h1
  · rcases List.mem_cons.1 h1 with rfl | h1
    · omega
    · have := (List.pairwise_cons.1 h.ord).1 y h1
      omega
end
/-- The first j letters of node a are done; C are the children that came in. -/
structure Half (N0 N : List Nod) (P V : List (List Nat)) (a j : Nat) (C : List Nat) : Prop where
  len : N.length = N0.length
  wid : ∀ k, k < N.length → (nodA N k).next.length = 256
  keep : ∀ k, (nodA N k).size = (nodA N0 k).size ∧ (nodA N k).word = (nodA N0 k).word
  oth : ∀ k, k ≠ a → ∀ b, nxt N k b = nxt N0 k b
  own : ∀ b, b < 256 → nxt N a b = if b < j then P.idxOf (stepP P (P.getD a []) b) else nxt N0 a b
  old : ∀ k, k ∉ C → (nodA N k).fail = (nodA N0 k).fail ∧ (nodA N k).stop = (nodA N0 k).stop
  new : ∀ c ∈ C, (nodA N c).fail = P.idxOf (failP P (P.getD c [])) ∧ (nodA N c).stop = P.idxOf (nextE V P (P.getD c []))
  kid : ∀ c ∈ C, c < N.length ∧ ∃ b, b < j ∧ P.getD c [] = P.getD a [] ++ [b]
  all : ∀ b, b < j → P.getD a [] ++ [b] ∈ P → P.idxOf (P.getD a [] ++ [b]) ∈ C
  nod : C.Nodup
theorem idx_nil {N : List Nod} {P V : List (List Nat)} {D Q : List Nat} (h : Link N P V D Q) : P.idxOf [] = 0 := by
  have := idx_getD h.nd h.root.2
  rwa [h.root.1] at this
section
variable {N0 N : List Nod} {P V : List (List Nat)} {D Q C : List Nat} {a j : Nat}
theorem Half.zero (L : Link N0 P V D (a :: Q)) : Half N0 N0 P V a 0 [] where
  len := rfl
  wid := L.wid
  keep := fun _ => ⟨rfl, rfl⟩
  oth := fun _ _ _ => rfl
  own := fun b _ => by rw [if_neg (by omega)]
  old := fun _ _ => ⟨rfl, rfl⟩
  new := fun c hc => by cases hc
  kid := fun c hc => by cases hc
  all := fun b hb => by omega
  nod := List.nodup_nil
theorem Half.step (L : Link N0 P V D (a :: Q)) (h : Half N0 N P V a j C) (hj : j < 256) :
    ∃ C', Half N0 (linkB a (N, Q ++ C) j).1 P V a (j + 1) C' ∧ (linkB a (N, Q ++ C) j).2 = Q ++ C' := by
  have haN0 : a < N0.length := L.lt a (List.mem_append_right _ List.mem_cons_self)
  have haP : a < P.length := by rw [L.len]; exact haN0
  have haN : a < N.length := by rw [h.len]; exact haN0
  have haD : a ∉ D := fun hd => (List.nodup_append.1 L.dq).2.2 a hd a List.mem_cons_self rfl
  have haC : a ∉ C := fun hc => by
    obtain ⟨_, b, _, e⟩ := h.kid a hc
    have := congrArg List.length e
    rw [List.length_append] at this
    simp at this
  have ha0 : 0 < a ↔ P.getD a [] ≠ [] := by
    constructor
    · intro h0 e
      have := getD_inj L.nd haP L.root.2 (by rw [e, L.root.1])
      omega
    · intro hne
      rcases Nat.eq_zero_or_pos a with rfl | h0
      · exact absurd L.root.1 hne
      · exact h0
  -- the state to fall back to
  have hbk : (if 0 < a then nxt N (nodA N a).fail j else 0) = P.idxOf (if P.getD a [] = [] then [] else stepP P (failP P (P.getD a [])) j) := by
    by_cases h0 : 0 < a
    · have hne := ha0.1 h0
      rw [if_pos h0, if_neg hne, (h.old a haC).1, (L.back a (List.mem_append_right _ List.mem_cons_self)).1]
      have hf := failP_mem L.cl (P.getD a [])
      have hfl := failP_len (P := P) hne
      have hfi := List.idxOf_lt_length_of_mem hf
      have hfd : P.idxOf (failP P (P.getD a [])) ∈ D := L.short hfi (by rw [getD_idx hf]; exact hfl)
      have hfa : P.idxOf (failP P (P.getD a [])) ≠ a := fun e => haD (e ▸ hfd)
      rw [h.oth _ hfa, L.done _ hfd j hj, getD_idx hf]
    · have he : P.getD a [] = [] := Decidable.of_not_not fun hn => h0 (ha0.2 hn)
      rw [if_neg h0, if_pos he, idx_nil L]
  have hto : nxt N a j = if P.getD a [] ++ [j] ∈ P then P.idxOf (P.getD a [] ++ [j]) else 0 := by
    rw [h.own j hj, if_neg (by omega), L.todo a haN0 haD j hj]
  generalize hbs : (if P.getD a [] = [] then [] else stepP P (failP P (P.getD a [])) j) = bs at hbk
  have hbm : bs ∈ P := by
    rw [← hbs]
    split
    · exact L.cl.nil
    · exact stepP_mem L.cl _ _
  unfold linkB
  simp only
  rw [hbk]
  by_cases hq : P.getD a [] ++ [j] ∈ P
  · -- a child
    rw [if_pos hq] at hto
    have hcl := List.idxOf_lt_length_of_mem hq
    have hcP := getD_idx hq
    have hc0 : P.idxOf (P.getD a [] ++ [j]) ≠ 0 := fun e => by
      rw [e, L.root.1] at hcP
      have := congrArg List.length hcP
      rw [List.length_append] at this
      simp at this
    rw [hto, if_neg hc0]
    generalize P.idxOf (P.getD a [] ++ [j]) = c at hcl hcP hc0
    have hcN : c < N.length := by rw [h.len, ← L.len]; exact hcl
    have hca : c ≠ a := fun e => by
      rw [e] at hcP
      have := congrArg List.length hcP
      rw [List.length_append] at this
      simp at this
    have hcC : c ∉ C := fun hc => by
      obtain ⟨_, b, hbj, e⟩ := h.kid c hc
      rw [hcP] at e
      have : j = b := by simpa using (List.append_inj' e rfl).2
      omega
    have hbq : bs = failP P (P.getD c []) := by
      rw [hcP, ← hbs]
      by_cases he : P.getD a [] = []
      · rw [if_pos he, he]; rfl
      · rw [if_neg he, failP_child L.cl he]
    have hbl : bs.length ≤ (P.getD a []).length := by
      have := failP_len (P := P) (p := P.getD c []) (by rw [hcP]; simp)
      rw [← hbq, hcP, List.length_append, List.length_singleton] at this
      omega
    have hbi := List.idxOf_lt_length_of_mem hbm
    have hbP := getD_idx hbm
    have hbc : P.idxOf bs ≠ c := fun e => by
      have h1 := hbP
      rw [e, hcP] at h1
      rw [← h1, List.length_append, List.length_singleton] at hbl
      omega
    have hstop : (nodA N (P.idxOf bs)).stop = P.idxOf (nextE V P bs) := by
      by_cases hin : P.idxOf bs ∈ C
      · have := (h.new _ hin).2
        rwa [hbP] at this
      · rw [(h.old _ hin).2, (L.back _ (L.near_head hbi (by rw [hbP]; exact hbl))).2, hbP]
    have hword : (nodA N (P.idxOf bs)).word = 0 ↔ bs ∉ V := by
      rw [(h.keep _).2, L.word _ (by rw [← L.len]; exact hbi), hbP]
      constructor
      · intro e hv; rw [if_pos hv] at e; omega
      · intro hv; rw [if_neg hv]
    have hnE : nextE V P (P.getD c []) = if bs ∈ V then bs else nextE V P bs := by
      rw [nextE_fail (fun w hw => (L.vin w hw).1), ← hbq]
    generalize P.idxOf bs = k at hbi hbP hbc hstop hword hbk
    have hk1 : nodA (N.set c { nodA N c with fail := k, stop := k }) k = nodA N k := nodA_ne hbc
    rw [hk1]
    -- both ways: only c is another one
    obtain ⟨x, hx, hxs⟩ : ∃ x : Nod, (if (nodA N k).word = 0 then (N.set c { nodA N c with fail := k, stop := k }).set c { nodA (N.set c { nodA N c with fail := k, stop := k }) c with stop := (nodA N k).stop } else N.set c { nodA N c with fail := k, stop := k }) = N.set c x ∧ (x.next = (nodA N c).next ∧ x.word = (nodA N c).word ∧ x.size = (nodA N c).size ∧ x.fail = k ∧ x.stop = P.idxOf (nextE V P (P.getD c []))) := by
      by_cases hw : (nodA N k).word = 0
      · rw [if_pos hw, nodA_set hcN, List.set_set]
        exact ⟨_, rfl, rfl, rfl, rfl, rfl, by rw [hnE, if_neg (hword.1 hw)]; exact hstop⟩
      · rw [if_neg hw]
        have hv : bs ∈ V := Decidable.of_not_not fun hn => hw (hword.2 hn)
        refine ⟨_, rfl, rfl, rfl, rfl, rfl, ?_⟩
        rw [hnE, if_pos hv]
        have := idx_getD L.nd hbi
        rw [hbP] at this
        exact this.symm
    rw [hx]
    obtain ⟨x1, x2, x3, x4, x5⟩ := hxs
    have hkc : k = P.idxOf bs := by
      have := idx_getD L.nd hbi
      rw [hbP] at this
      exact this.symm
    have hcs : ∀ i, i = c ∨ i ≠ c := fun i => by omega
    have hnx : ∀ i b, nxt (N.set c x) i b = nxt N i b := fun i b => by
      unfold nxt
      rcases hcs i with rfl | hne
      · rw [nodA_set hcN, x1]
      · rw [nodA_ne hne]
    refine ⟨C ++ [c], ⟨by rw [List.length_set]; exact h.len, fun i hi => ?_, fun i => ?_, fun i hi b => by rw [hnx]; exact h.oth i hi b, fun b hb => ?_, fun i hi => ?_, fun i hi => ?_, fun i hi => ?_, fun b hb hm => ?_, ?_⟩, by rw [List.append_assoc]⟩
    · rw [List.length_set] at hi
      rcases hcs i with rfl | hne
      · rw [nodA_set hcN, x1]; exact h.wid _ hcN
      · rw [nodA_ne hne]; exact h.wid _ hi
    · rcases hcs i with rfl | hne
      · rw [nodA_set hcN, x2, x3]; exact h.keep _
      · rw [nodA_ne hne]; exact h.keep _
    · rw [hnx, h.own b hb]
      rcases Nat.lt_trichotomy b j with hlt | rfl | hgt
      · rw [if_pos hlt, if_pos (by omega)]
      · rw [if_neg (by omega), if_pos (by omega), L.todo a haN0 haD b hb, if_pos hq, stepP_edge hq]
      · rw [if_neg (by omega), if_neg (by omega)]
    · have hne : i ≠ c := fun e => hi (by rw [e]; exact List.mem_append_right _ (List.mem_singleton.2 rfl))
      rw [nodA_ne hne]
      exact h.old i fun hc => hi (List.mem_append_left _ hc)
    · rcases List.mem_append.1 hi with hi | hi
      · have hne : i ≠ c := fun e => hcC (e ▸ hi)
        rw [nodA_ne hne]
        exact h.new i hi
      · rw [List.mem_singleton.1 hi, nodA_set hcN, x4, x5]
        exact ⟨by rw [← hbq]; exact hkc, rfl⟩
    · rw [List.length_set]
      rcases List.mem_append.1 hi with hi | hi
      · obtain ⟨h1, b, h2, h3⟩ := h.kid i hi
        exact ⟨h1, b, by omega, h3⟩
      · rw [List.mem_singleton.1 hi]
        exact ⟨hcN, j, by omega, hcP⟩
    · rcases Nat.lt_or_ge b j with hlt | hge
      · exact List.mem_append_left _ (h.all b hlt hm)
      · have : b = j := by omega
        subst this
        refine List.mem_append_right _ (List.mem_singleton.2 ?_)
        rw [← hcP]
        exact idx_getD L.nd hcl
    · rw [List.nodup_append]
      exact ⟨h.nod, by simp, fun i hi d hd => by rw [List.mem_singleton.1 hd]; exact fun e => hcC (e ▸ hi)⟩
  · -- no edge
    rw [if_neg hq] at hto
    rw [hto, if_pos rfl]
    have hcs : ∀ i, i = a ∨ i ≠ a := fun i => by omega
    have hst : stepP P (P.getD a []) j = bs := by
      rw [← hbs]
      by_cases he : P.getD a [] = []
      · rw [if_pos he, he]
        rw [he] at hq
        exact stepP_root hq
      · rw [if_neg he]
        exact stepP_back L.cl he hq
    refine ⟨C, ⟨by rw [List.length_set]; exact h.len, fun i hi => ?_, fun i => ?_, fun i hi b => ?_, fun b hb => ?_, fun i hi => ?_, fun i hi => ?_, fun i hi => ?_, fun b hb hm => ?_, h.nod⟩, rfl⟩
    · rw [List.length_set] at hi
      rcases hcs i with rfl | hne
      · rw [nodA_set haN]; simp only; rw [List.length_set]; exact h.wid _ haN
      · rw [nodA_ne hne]; exact h.wid _ hi
    · rcases hcs i with rfl | hne
      · rw [nodA_set haN]; exact h.keep _
      · rw [nodA_ne hne]; exact h.keep _
    · unfold nxt
      rw [nodA_ne hi]
      exact h.oth i hi b
    · unfold nxt
      rw [nodA_set haN]
      simp only
      by_cases hbj : b = j
      · subst hbj
        rw [if_pos (by omega), List.getD_eq_getElem?_getD, List.getElem?_set_self (by rw [h.wid _ haN]; exact hb), hst]; rfl
      · rw [List.getD_eq_getElem?_getD, List.getElem?_set_ne (fun e => hbj e.symm), ← List.getD_eq_getElem?_getD]
        have := h.own b hb
        unfold nxt at this
        rw [this]
        rcases Nat.lt_or_ge b j with hlt | hge
        · rw [if_pos hlt, if_pos (by omega)]
        · rw [if_neg (by omega), if_neg (by omega)]
    · rcases hcs i with rfl | hne
      · rw [nodA_set haN]; exact h.old _ hi
      · rw [nodA_ne hne]; exact h.old _ hi
    · have hne : i ≠ a := fun e => haC (e ▸ hi)
      rw [nodA_ne hne]
      exact h.new i hi
    · rw [List.length_set]
      obtain ⟨h1, b, h2, h3⟩ := h.kid i hi
      exact ⟨h1, b, by omega, h3⟩
    · rcases Nat.lt_or_ge b j with hlt | hge
      · exact h.all b hlt hm
      · have : b = j := by omega
        subst this
        exact absurd hm hq
end
end Go.Proofs.Ytplhnnlklnbahaa

/- Layer 37 (chat): the automaton that Build makes. Plain Lean. -/
namespace Go.Proofs.Ytplhnnlklnbahaa
open Go.Fw Go.RowKit
section
variable {N0 N : List Nod} {P V : List (List Nat)} {D Q C : List Nat} {a : Nat}
theorem Half.link (L : Link N0 P V D (a :: Q)) (h : Half N0 N P V a 256 C) : Link N P V (D ++ [a]) (Q ++ C) := by
  have haP : a < P.length := L.lt' (List.mem_append_right _ List.mem_cons_self)
  have haD : a ∉ D := fun hd => (List.nodup_append.1 L.dq).2.2 a hd a List.mem_cons_self rfl
  have hdis : ∀ c ∈ C, c ∉ D ++ a :: Q := fun c hc hm => by
    obtain ⟨_, b, _, e⟩ := h.kid c hc
    have := L.par c hm _ b e
    rw [idx_getD L.nd haP] at this
    exact haD this
  have heq : D ++ [a] ++ (Q ++ C) = D ++ a :: Q ++ C := by simp
  have hC : ∀ c ∈ C, (P.getD c []).length = (P.getD a []).length + 1 := fun c hc => by
    obtain ⟨_, b, _, e⟩ := h.kid c hc
    rw [e, List.length_append, List.length_singleton]
  have hQ1 : ∀ x ∈ Q, (P.getD a []).length ≤ (P.getD x []).length := (List.pairwise_cons.1 L.ord).1
  have hQ2 : ∀ x ∈ Q, (P.getD x []).length ≤ (P.getD a []).length + 1 := fun x hx => L.gap a List.mem_cons_self x (List.mem_cons_of_mem _ hx)
  refine ⟨by rw [h.len]; exact L.len, L.root, L.nd, L.cl, L.vin, L.byt, h.wid, fun k hk => ?_, fun k hk => ?_, ?_, fun k hk => ?_, ?_, fun k hk b hb => ?_, fun k hk hn b hb => ?_, fun k hk => ?_, fun k hk b hm => ?_, fun k hk p b e => ?_, ?_, fun x hx y hy => ?_⟩
  · rw [(h.keep k).1]; exact L.size k (by rw [← h.len]; exact hk)
  · rw [(h.keep k).2]; exact L.word k (by rw [← h.len]; exact hk)
  · rw [heq, List.nodup_append]
    exact ⟨L.dq, h.nod, fun x hx y hy e => hdis y hy (e ▸ hx)⟩
  · rw [heq] at hk
    rw [h.len]
    rcases List.mem_append.1 hk with hk | hk
    · exact L.lt k hk
    · rw [← h.len]; exact (h.kid k hk).1
  · rw [heq]; exact List.mem_append_left _ L.zero
  · rcases List.mem_append.1 hk with hk | hk
    · have hne : k ≠ a := fun e => haD (e ▸ hk)
      rw [h.oth k hne b]
      exact L.done k hk b hb
    · rw [List.mem_singleton.1 hk, h.own b hb, if_pos hb]
  · have h1 : k ∉ D := fun hd => hn (List.mem_append_left _ hd)
    have h2 : k ≠ a := fun e => hn (List.mem_append_right _ (List.mem_singleton.2 e))
    rw [h.oth k h2 b]
    exact L.todo k (by rw [← h.len]; exact hk) h1 b hb
  · rw [heq] at hk
    rcases List.mem_append.1 hk with hk | hk
    · have h1 : k ∉ C := fun hc => hdis k hc hk
      rw [(h.old k h1).1, (h.old k h1).2]
      exact L.back k hk
    · exact h.new k hk
  · rw [heq]
    rcases List.mem_append.1 hk with hk | hk
    · exact List.mem_append_left _ (L.kids k hk b hm)
    · rw [List.mem_singleton.1 hk] at hm ⊢
      exact List.mem_append_right _ (h.all b (L.byt _ hm b (List.mem_append_right _ (List.mem_singleton.2 rfl))) hm)
  · rw [heq] at hk
    rcases List.mem_append.1 hk with hk | hk
    · exact List.mem_append_left _ (L.par k hk p b e)
    · obtain ⟨_, b', _, e'⟩ := h.kid k hk
      rw [e'] at e
      have := (List.append_inj' e rfl).1
      rw [← this, idx_getD L.nd haP]
      exact List.mem_append_right _ (List.mem_singleton.2 rfl)
  · rw [List.pairwise_append]
    refine ⟨(List.pairwise_cons.1 L.ord).2, ?_, fun x hx y hy => by rw [hC y hy]; exact hQ2 x hx⟩
    refine List.Pairwise.imp_of_mem (R := fun _ _ => True) (fun {x y} hx hy _ => by rw [hC x hx, hC y hy]; exact Nat.le_refl _) ?_
    exact List.pairwise_of_forall (fun _ _ => trivial)
  · have hxa : (P.getD a []).length ≤ (P.getD x []).length := by
      rcases List.mem_append.1 hx with hx | hx
      · exact hQ1 x hx
      · rw [hC x hx]; omega
    have hya : (P.getD y []).length ≤ (P.getD a []).length + 1 := by
      rcases List.mem_append.1 hy with hy | hy
      · exact hQ2 y hy
      · rw [hC y hy]; exact Nat.le_refl _
    omega
theorem linkA_spec (L : Link N P V D (a :: Q)) : ∀ j, j ≤ 256 → ∃ C, Half N (linkA a (N, Q) j).1 P V a j C ∧ (linkA a (N, Q) j).2 = Q ++ C := by
  intro j
  induction j with
  | zero => exact fun _ => ⟨[], Half.zero L, (List.append_nil _).symm⟩
  | succ j ih =>
    intro hj
    obtain ⟨C, h1, h2⟩ := ih (by omega)
    have e : linkA a (N, Q) (j + 1) = linkB a (linkA a (N, Q) j) j := by
      unfold linkA
      rw [List.range_succ, List.foldl_append]; rfl
    rw [e]
    generalize linkA a (N, Q) j = s at h1 h2
    obtain ⟨M, R⟩ := s
    simp only at h1 h2
    subst h2
    obtain ⟨C', h3, h4⟩ := Half.step L h1 (by omega)
    exact ⟨C', h3, h4⟩
theorem nodup_lt : ∀ (n : Nat) (l : List Nat), l.Nodup → (∀ x ∈ l, x < n) → l.length ≤ n := by
  intro n
  induction n with
  | zero =>
    intro l _ h
    cases l with
    | nil => exact Nat.le_refl _
    | cons x l => exact absurd (h x List.mem_cons_self) (by omega)
  | succ n ih =>
    intro l hn h
    by_cases hm : n ∈ l
    · have h1 := ih (l.erase n) (hn.erase n) (fun x hx => by
        have h2 := (List.Nodup.mem_erase_iff hn).1 hx
        have := h x h2.2
        have := h2.1
        omega)
      have h3 := List.length_erase_of_mem hm
      have := List.length_pos_of_mem hm
      omega
    · have := ih l hn (fun x hx => by
        have h1 := h x hx
        have : x ≠ n := fun e => hm (e ▸ hx)
        omega)
      omega
theorem linkQ_spec : ∀ (n : Nat) {N : List Nod} {D Q : List Nat}, Link N P V D Q → N.length ≤ D.length + n → ∃ D', Link (linkQ n N Q) P V D' [] ∧ (linkQ n N Q).length = N.length := by
  intro n
  induction n with
  | zero =>
    intro N D Q L hl
    have h1 := nodup_lt N.length (D ++ Q) L.dq L.lt
    rw [List.length_append] at h1
    have : Q = [] := List.eq_nil_of_length_eq_zero (by omega)
    subst this
    exact ⟨D, L, rfl⟩
  | succ n ih =>
    intro N D Q L hl
    cases Q with
    | nil => exact ⟨D, L, rfl⟩
    | cons a q =>
      obtain ⟨C, h1, h2⟩ := linkA_spec L 256 (Nat.le_refl _)
      have L2 := Half.link L h1
      have hlen := h1.len
      rw [linkQ]
      rw [h2]
      obtain ⟨D', h3, h4⟩ := ih L2 (by rw [hlen, List.length_append, List.length_singleton]; omega)
      exact ⟨D', h3, by rw [h4, hlen]⟩
end
/-- The automaton. -/
structure Auto (N : List Nod) (P V : List (List Nat)) : Prop where
  len : P.length = N.length
  root : P.getD 0 [] = [] ∧ 0 < P.length
  nd : P.Nodup
  cl : Closed P
  vin : ∀ v ∈ V, v ∈ P ∧ v ≠ []
  wid : ∀ k, k < N.length → (nodA N k).next.length = 256
  size : ∀ k, k < N.length → (nodA N k).size = (P.getD k []).length
  word : ∀ k, k < N.length → (nodA N k).word = if P.getD k [] ∈ V then V.idxOf (P.getD k []) + 1 else 0
  go : ∀ k, k < N.length → ∀ b, b < 256 → nxt N k b = P.idxOf (stepP P (P.getD k []) b)
  stop : ∀ k, k < N.length → (nodA N k).stop = P.idxOf (nextE V P (P.getD k []))
theorem Trie.link {N : List Nod} {P V : List (List Nat)} (h : Trie N P V) : Link N P V [] [0] := by
  have hN : 0 < N.length := by rw [← h.len]; exact h.root.2
  have h0 : P.idxOf [] = 0 := by
    have := idx_getD h.nd h.root.2
    rwa [h.root.1] at this
  refine ⟨h.len, h.root, h.nd, h.cl, h.vin, h.byt, h.wid, h.size, h.word, by simp, fun k hk => ?_, by simp, fun k hk => (by cases hk), fun k hk _ => h.edge k hk, fun k hk => ?_, fun k hk => (by cases hk), fun k hk p b e => ?_, List.pairwise_singleton _ _, fun x hx y hy => ?_⟩
  · rw [List.mem_singleton.1 hk]; exact hN
  · rw [List.mem_singleton.1 hk, h.root.1]
    exact ⟨by rw [(h.bare 0 hN).1]; exact h0.symm, by rw [(h.bare 0 hN).2]; exact h0.symm⟩
  · rw [List.mem_singleton.1 hk, h.root.1] at e
    have := congrArg List.length e
    rw [List.length_append, List.length_singleton, List.length_nil] at this
    omega
  · rw [List.mem_singleton.1 hx, List.mem_singleton.1 hy]; omega
theorem Link.auto {N : List Nod} {P V : List (List Nat)} {D : List Nat} (L : Link N P V D []) : Auto N P V := by
  have hall : ∀ k, k < N.length → k ∈ D := fun k hk => by
    have := L.near _ (y := k) (by rw [L.len]; exact hk) rfl (fun q hq => by cases hq)
    rwa [List.append_nil] at this
  refine ⟨L.len, L.root, L.nd, L.cl, L.vin, L.wid, L.size, L.word, fun k hk => L.done k (hall k hk), fun k hk => (L.back k ?_).2⟩
  rw [List.append_nil]; exact hall k hk
/-- What Build makes of a list of words; none: an error. -/
def buildM (ws : List (List Nat)) : Option (List Nod) := if ws.length ≤ 100 then (trieM ws [nod0 0] 0).map fun M => linkQ M.length M [0] else none
theorem buildM_spec (ws : List (List Nat)) (hb : ∀ w ∈ ws, ∀ b ∈ w, b < 256) :
    match buildM ws with
    | some M => rightW ws ∧ ∃ P, Auto M P (ws.map foldW)
    | none => ¬ rightW ws := by
  unfold buildM rightW
  by_cases hl : ws.length ≤ 100
  · rw [if_pos hl]
    have := trieM_spec ws Trie.zero List.nodup_nil hb
    rw [List.length_nil, List.nil_append] at this
    cases hT : trieM ws [nod0 0] 0 with
    | none =>
      rw [hT] at this
      exact fun h => this h.2
    | some M =>
      rw [hT] at this
      obtain ⟨h1, h2, ⟨P, h3⟩, _⟩ := this
      obtain ⟨D, L, _⟩ := linkQ_spec M.length h3.link (by simp)
      exact ⟨⟨hl, h1, h2⟩, P, L.auto⟩
  · rw [if_neg hl]
    exact fun h => hl h.1
end Go.Proofs.Ytplhnnlklnbahaa

/- Layer 37 (chat): what is found. Plain Lean. -/
namespace Go.Proofs.Ytplhnnlklnbahaa
open Go.Fw Go.RowKit
section
variable {α : Type} [DecidableEq α]
theorem endW_mem (Wd : List (List α)) : ∀ s : List α, endW Wd s = [] ∨ endW Wd s ∈ Wd
  | [] => .inl rfl
  | a :: s => by
    rw [endW]
    split
    · rename_i h; exact .inr h
    · exact endW_mem Wd s
theorem endW_suf (Wd : List (List α)) : ∀ s : List α, endW Wd s <:+ s
  | [] => List.suffix_refl _
  | a :: s => by
    rw [endW]
    split
    · exact List.suffix_refl _
    · exact (endW_suf Wd s).trans (List.suffix_cons a s)
end
/-- The words that end at a node, by its word and its end: their lengths and numbers. -/
def chainM : Nat → List Nod → Nat → List (Nat × Nat)
  | 0, _, _ => []
  | n + 1, N, k => if k = 0 then [] else (if 0 < (nodA N k).word then [((nodA N k).size, (nodA N k).word - 1)] else []) ++ chainM n N (nodA N k).stop
section
variable {N : List Nod} {P V : List (List Nat)}
theorem Auto.stop_at (A : Auto N P V) {k : Nat} (hk : k < N.length) : (nodA N k).stop < N.length ∧ P.getD (nodA N k).stop [] = nextE V P (P.getD k []) := by
  have hm : nextE V P (P.getD k []) ∈ P := by
    unfold nextE
    rcases endW_mem V (P.getD k []).tail with h | h
    · rw [h]; exact A.cl.nil
    · exact (A.vin _ h).1
  rw [A.stop k hk]
  exact ⟨by rw [← A.len]; exact List.idxOf_lt_length_of_mem hm, getD_idx hm⟩
theorem chain_spec (A : Auto N P V) : ∀ (n k : Nat), k < N.length → (P.getD k []).length < n → chainM n N k = (outs V (P.getD k [])).map fun w => (w.length, V.idxOf w) := by
  intro n
  induction n with
  | zero => intro k _ h; omega
  | succ n ih =>
    intro k hk hl
    have hkP : k < P.length := by rw [A.len]; exact hk
    rw [chainM]
    by_cases h0 : k = 0
    · subst h0
      rw [if_pos rfl, A.root.1]; rfl
    · rw [if_neg h0]
      have hne : P.getD k [] ≠ [] := fun e => h0 (getD_inj A.nd hkP A.root.2 (by rw [e, A.root.1]))
      obtain ⟨h1, h2⟩ := A.stop_at hk
      have hlt : (nextE V P (P.getD k [])).length < n := by
        have h3 := (endW_suf V (P.getD k []).tail).length_le
        rw [List.length_tail] at h3
        have : 0 < (P.getD k []).length := List.length_pos_iff.2 hne
        unfold nextE
        omega
      rw [ih _ h1 (by rw [h2]; exact hlt), h2, outs_chain (P.getD k []), outs_next (P := P) (P.getD k []), List.map_append]
      congr 1
      rw [A.word k hk, A.size k hk]
      by_cases hv : P.getD k [] ∈ V
      · rw [if_pos hv, if_pos (by omega), if_pos ⟨hv, hne⟩]
        simp
      · rw [if_neg hv, if_neg (by omega), if_neg (fun h => hv h.1)]
        rfl
/-- The state behind a text. -/
def stateM (N : List Nod) (t : List Nat) : Nat := t.foldl (fun k b => nxt N k (foldN b)) 0
theorem stateM_snoc (N : List Nod) (t : List Nat) (b : Nat) : stateM N (t ++ [b]) = nxt N (stateM N t) (foldN b) := by
  unfold stateM
  rw [List.foldl_append]; rfl
theorem state_spec (A : Auto N P V) (t : List Nat) (hb : ∀ b ∈ t, b < 256) : stateM N t < N.length ∧ P.getD (stateM N t) [] = lsuf P (foldW t) := by
  have key : ∀ (l : List Nat) (s : List Nat), (∀ b ∈ l, b < 256) → (stateM N s < N.length ∧ P.getD (stateM N s) [] = lsuf P (foldW s)) → (stateM N (s ++ l) < N.length ∧ P.getD (stateM N (s ++ l)) [] = lsuf P (foldW (s ++ l))) := by
    intro l
    induction l with
    | nil => intro s _ h; rwa [List.append_nil]
    | cons b l ih =>
      intro s hb h
      rw [show s ++ b :: l = s ++ [b] ++ l by rw [List.append_assoc]; rfl]
      refine ih _ (fun c hc => hb c (List.mem_cons_of_mem _ hc)) ?_
      have hfb := foldN_lt (hb b List.mem_cons_self)
      have hm := stepP_mem A.cl (P.getD (stateM N s) []) (foldN b)
      have e : foldW (s ++ [b]) = foldW s ++ [foldN b] := by unfold foldW; rw [List.map_append]; rfl
      rw [stateM_snoc, A.go _ h.1 _ hfb, e, lsuf_step A.cl, ← h.2]
      exact ⟨by rw [← A.len]; exact List.idxOf_lt_length_of_mem hm, getD_idx hm⟩
  have := key t [] hb ⟨by rw [← A.len]; exact A.root.2, A.root.1⟩
  simpa using this
end
/-- What the program finds: where, how long, which word. -/
def findA (N : List Nod) (t : List Nat) : List (Nat × Nat × Nat) := (List.range t.length).flatMap fun i => (chainM ((nodA N (stateM N (t.take (i + 1)))).size + 1) N (stateM N (t.take (i + 1)))).map fun x => (i + 1 - x.1, x.1, x.2)
/-- All occurrences of words, in the order of their ends, longer ones first. -/
def findS (V : List (List Nat)) (t : List Nat) : List (Nat × Nat × Nat) := (List.range t.length).flatMap fun i => (outs V (foldW (t.take (i + 1)))).map fun w => (i + 1 - w.length, w.length, V.idxOf w)
theorem findA_eq {N : List Nod} {P V : List (List Nat)} (A : Auto N P V) {t : List Nat} (hb : ∀ b ∈ t, b < 256) : findA N t = findS V t := by
  unfold findA findS
  rw [List.flatMap_def, List.flatMap_def]
  congr 1
  refine List.map_congr_left fun i hi => ?_
  obtain ⟨h1, h2⟩ := state_spec A (t.take (i + 1)) (fun b hbt => hb b (List.mem_of_mem_take hbt))
  rw [chain_spec A _ _ h1 (by rw [A.size _ h1]; omega), h2, ← outs_lsuf (fun w hw => (A.vin w hw).1), List.map_map]
  rfl
end Go.Proofs.Ytplhnnlklnbahaa

/- Layer 37 (chat): the reference's search, and masks. Plain Lean. -/
namespace Go.Proofs.Ytplhnnlklnbahaa
open Go.Fw Go.RowKit
theorem right_len {ws : List (List Nat)} (h : rightW ws) : ∀ v ∈ ws.map foldW, 1 ≤ v.length ∧ v.length ≤ 20 := fun v hv => by
  obtain ⟨w, hw, rfl⟩ := List.mem_map.1 hv
  rw [foldW_len]
  exact okW_pos (h.2.1 w hw)
/-! masks -/
/-- Asterisks at l letters from a on. -/
def stars (b : List Nat) (a l : Nat) : List Nat := (List.range l).foldl (fun b i => b.set (a + i) 42) b
theorem stars_succ (b : List Nat) (a l : Nat) : stars b a (l + 1) = (stars b a l).set (a + l) 42 := by
  unfold stars
  rw [List.range_succ, List.foldl_append]; rfl
/-- Asterisks at many places, each as its begin and its length. -/
def starsL (b : List Nat) (ms : List (Nat × Nat)) : List Nat := ms.foldl (fun b m => stars b m.1 m.2) b
/-- A text with asterisks in the place of words. -/
def maskS (V : List (List Nat)) (t : List Nat) : List Nat := starsL t ((findS V t).map fun m => (m.1, m.2.1))
/-- What stands where. -/
theorem mem_findS {V : List (List Nat)} {t : List Nat} {a l x : Nat} : (a, l, x) ∈ findS V t ↔ ∃ w ∈ V, w ≠ [] ∧ l = w.length ∧ x = V.idxOf w ∧ a + l ≤ t.length ∧ w <:+ foldW (t.take (a + l)) := by
  unfold findS
  rw [List.mem_flatMap]
  constructor
  · rintro ⟨i, hi, hm⟩
    obtain ⟨w, hw, e⟩ := List.mem_map.1 hm
    obtain ⟨h1, h2, h3⟩ := (outs_mem _).1 hw
    injection e with e1 e
    injection e with e2 e3
    have hlen := h3.length_le
    rw [foldW_len, List.length_take] at hlen
    have hi' := List.mem_range.1 hi
    have ea : a + l = i + 1 := by omega
    exact ⟨w, h1, h2, e2.symm, e3.symm, by omega, by rw [ea]; exact h3⟩
  · rintro ⟨w, h1, h2, rfl, rfl, h3, h4⟩
    have hp : 0 < w.length := List.length_pos_iff.2 h2
    refine ⟨a + w.length - 1, List.mem_range.2 (by omega), List.mem_map.2 ⟨w, (outs_mem _).2 ⟨h1, h2, ?_⟩, ?_⟩⟩
    · rw [show a + w.length - 1 + 1 = a + w.length by omega]; exact h4
    · rw [show a + w.length - 1 + 1 - w.length = a by omega]
end Go.Proofs.Ytplhnnlklnbahaa

/- Layer 37 (chat): laws of masks. Plain Lean. -/
namespace Go.Proofs.Ytplhnnlklnbahaa
open Go.Fw Go.RowKit
section
variable {V : List (List Nat)}
end
end Go.Proofs.Ytplhnnlklnbahaa

/- Layer 37 (chat): rooms: what the functions compute. Plain Lean. -/
namespace Go.Proofs.Ytplhnnlklnbahaa
open Go.Fw Go.RowKit
structure Mbr where
  id : Int
  ign : List Int
  deriving DecidableEq
structure Msg where
  num : Int
  tick : Int
  frm : Int
  txt : List UInt8
  deriving DecidableEq
structure Rom where
  tick : Int
  said : Int
  ms : List Mbr
  log : List Msg
  deriving DecidableEq
def rom0 : Rom := ⟨0, 0, [], []⟩
def mbr0 : Mbr := ⟨0, []⟩
def msg0 : Msg := ⟨0, 0, 0, []⟩
def id37 (n : Int) : Bool := decide (1 ≤ n) && decide (n ≤ 65536)
def tick37 (n : Int) : Bool := decide (0 ≤ n) && decide (n ≤ 1073741824)
/-- IDs that increase. -/
def risB : Int → List Int → Bool
  | _, [] => true
  | last, x :: l => id37 x && decide (last < x) && risB x l
def rightM (m : Mbr) : Bool := decide (m.ign.length ≤ 32) && risB 0 m.ign && !decide (m.id ∈ m.ign)
def textB (s : List UInt8) : Bool := decide (1 ≤ s.length) && decide (s.length ≤ 200) && s.all fun c => decide (32 ≤ c.toNat) && decide (c.toNat ≤ 126)
/-- The messages: the number of the first one, the ticks so far, the room's tick. -/
def logB (top : Int) : Int → Int → List Msg → Bool
  | _, _, [] => true
  | n, t, m :: l => decide (m.num = n) && decide (1 ≤ m.num) && decide (t ≤ m.tick) && decide (m.tick ≤ top) && id37 m.frm && textB m.txt && logB top (n + 1) m.tick l
def validRm (r : Rom) : Bool :=
  tick37 r.tick && decide (r.ms.length ≤ 32) && decide (r.log.length ≤ 50) && risB 0 (r.ms.map Mbr.id) && r.ms.all rightM && (decide (50 ≤ r.log.length) || decide (r.said = r.log.length)) && decide (r.said ≤ 1099511627776) && logB r.tick (r.said - r.log.length + 1) 0 r.log
/-- The place of a member. -/
def findR37 (id : Int) : List Mbr → Option Nat
  | [] => none
  | m :: l => if m.id = id then some 0 else (findR37 id l).map (· + 1)
abbrev ResR := Rom × Int
/-- A member is put in, in the order of the IDs. -/
def insM (x : Mbr) : List Mbr → List Mbr
  | [] => [x]
  | m :: l => if x.id < m.id then x :: m :: l else m :: insM x l
def insN (x : Int) : List Int → List Int
  | [] => [x]
  | m :: l => if x < m then x :: m :: l else m :: insN x l
def joinR (r : Rom) (id : Int) : ResR :=
  if validRm r = true ∧ id37 id = true then
    match findR37 id r.ms with
    | some _ => (rom0, 373)
    | none => if r.ms.length < 32 then ({ r with ms := insM ⟨id, []⟩ r.ms }, 0) else (rom0, 4)
  else (rom0, 2)
def memberR (r : Rom) (id : Int) (f : Nat → ResR) : ResR :=
  if validRm r = true then
    match findR37 id r.ms with
    | none => (rom0, 6)
    | some k => f k
  else (rom0, 2)
def leaveRm (r : Rom) (id : Int) : ResR := memberR r id fun k => ({ r with ms := r.ms.eraseIdx k }, 0)
def ignoreR (r : Rom) (id whom : Int) (on : Bool) : ResR :=
  memberR r id fun k =>
    if id37 whom = true ∧ whom ≠ id then
      (if whom ∈ (r.ms.getD k mbr0).ign then
        (if on then (r, 0) else ({ r with ms := r.ms.set k ⟨(r.ms.getD k mbr0).id, (r.ms.getD k mbr0).ign.filter fun n => !decide (n = whom)⟩ }, 0))
      else if on then
        (if (r.ms.getD k mbr0).ign.length < 32 then ({ r with ms := r.ms.set k ⟨(r.ms.getD k mbr0).id, insN whom (r.ms.getD k mbr0).ign⟩ }, 0) else (rom0, 4))
      else (r, 0))
    else (rom0, 2)
def recentR (l : List Msg) (id tick : Int) : Nat := (l.filter fun m => decide (m.frm = id) && decide (tick - 100 < m.tick)).length
def sayR (mask : List UInt8 → List UInt8) (r : Rom) (id tick : Int) (s : List UInt8) : ResR :=
  memberR r id fun _ =>
    if tick37 tick = true then
      if tick < r.tick then (rom0, 370)
      else if textB s = true then
        if 1099511627776 ≤ r.said then (rom0, 4)
        else if 4 ≤ recentR r.log id tick then (rom0, 372)
        else (⟨tick, r.said + 1, r.ms, (r.log ++ [(⟨r.said + 1, tick, id, mask s⟩ : Msg)]).drop (r.log.length + 1 - 50)⟩, 0)
      else (rom0, 371)
    else (rom0, 2)
def hearR (r : Rom) (id after : Int) : List Msg × Int :=
  if validRm r = true then
    match findR37 id r.ms with
    | none => ([], 6)
    | some k => (r.log.filter fun m => decide (after < m.num) && !decide (m.frm ∈ (r.ms.getD k mbr0).ign), 0)
  else ([], 2)
/-! valid rooms -/
theorem id37_iff {n : Int} : id37 n = true ↔ 1 ≤ n ∧ n ≤ 65536 := by
  unfold id37; rw [Bool.and_eq_true, decide_eq_true_eq, decide_eq_true_eq]
theorem tick37_iff {n : Int} : tick37 n = true ↔ 0 ≤ n ∧ n ≤ 1073741824 := by
  unfold tick37; rw [Bool.and_eq_true, decide_eq_true_eq, decide_eq_true_eq]
theorem risB_iff : ∀ (l : List Int) (last : Int), risB last l = true ↔ (∀ x ∈ l, (1 ≤ x ∧ x ≤ 65536) ∧ last < x) ∧ l.Pairwise fun a b => a < b
  | [], last => ⟨fun _ => ⟨fun x h => (by cases h), .nil⟩, fun _ => rfl⟩
  | x :: l, last => by
    rw [risB, Bool.and_eq_true, Bool.and_eq_true, decide_eq_true_eq, id37_iff, risB_iff l x, List.pairwise_cons]
    constructor
    · rintro ⟨⟨h1, h2⟩, h3, h4⟩
      refine ⟨fun y hy => ?_, fun y hy => (h3 y hy).2, h4⟩
      rcases List.mem_cons.1 hy with rfl | hy
      · exact ⟨h1, h2⟩
      · exact ⟨(h3 y hy).1, by have := (h3 y hy).2; omega⟩
    · rintro ⟨h1, h2, h3⟩
      exact ⟨h1 x List.mem_cons_self, fun y hy => ⟨(h1 y (List.mem_cons_of_mem _ hy)).1, h2 y hy⟩, h3⟩
structure VMbr (m : Mbr) : Prop where
  len : m.ign.length ≤ 32
  ids : ∀ x ∈ m.ign, 1 ≤ x ∧ x ≤ 65536
  ris : m.ign.Pairwise fun a b => a < b
  me : m.id ∉ m.ign
theorem rightM_iff {m : Mbr} : rightM m = true ↔ VMbr m := by
  unfold rightM
  simp only [Bool.and_eq_true, decide_eq_true_eq, Bool.not_eq_true', decide_eq_false_iff_not, risB_iff]
  constructor
  · rintro ⟨⟨h1, h2, h3⟩, h4⟩
    exact ⟨h1, fun x hx => (h2 x hx).1, h3, h4⟩
  · rintro ⟨h1, h2, h3, h4⟩
    exact ⟨⟨h1, fun x hx => ⟨h2 x hx, by have := (h2 x hx).1; omega⟩, h3⟩, h4⟩
/-- The messages, by their places. -/
structure VLog (top n : Int) (l : List Msg) : Prop where
  num : ∀ k, k < l.length → (l.getD k msg0).num = n + k ∧ 1 ≤ n + k
  tick : ∀ m ∈ l, 0 ≤ m.tick ∧ m.tick ≤ top
  ord : l.Pairwise fun a b => a.tick ≤ b.tick
  frm : ∀ m ∈ l, 1 ≤ m.frm ∧ m.frm ≤ 65536
  txt : ∀ m ∈ l, textB m.txt = true
theorem logB_iff (top : Int) : ∀ (l : List Msg) (n t : Int), logB top n t l = true ↔ (∀ k, k < l.length → (l.getD k msg0).num = n + k ∧ 1 ≤ n + k) ∧ (∀ m ∈ l, t ≤ m.tick ∧ m.tick ≤ top) ∧ (l.Pairwise fun a b => a.tick ≤ b.tick) ∧ (∀ m ∈ l, 1 ≤ m.frm ∧ m.frm ≤ 65536) ∧ ∀ m ∈ l, textB m.txt = true
  | [], n, t => ⟨fun _ => ⟨fun k h => absurd h (Nat.not_lt_zero k), fun m h => (by cases h), .nil, fun m h => (by cases h), fun m h => (by cases h)⟩, fun _ => rfl⟩
  | m :: l, n, t => by
    rw [logB]
    simp only [Bool.and_eq_true, decide_eq_true_eq, id37_iff, logB_iff top l (n + 1) m.tick, List.pairwise_cons]
    constructor
    · rintro ⟨⟨⟨⟨⟨⟨h1, h2⟩, h3⟩, h4⟩, h5⟩, h6⟩, g1, g2, g3, g4, g5⟩
      refine ⟨fun k hk => ?_, fun x hx => ?_, ⟨fun x hx => (g2 x hx).1, g3⟩, fun x hx => ?_, fun x hx => ?_⟩
      · cases k with
        | zero => exact ⟨by show m.num = n + ((0 : Nat) : Int); omega, by omega⟩
        | succ k =>
          have := g1 k (by simpa using hk)
          refine ⟨?_, by omega⟩
          show (l.getD k msg0).num = _
          rw [this.1]; omega
      · rcases List.mem_cons.1 hx with rfl | hx
        · exact ⟨h3, h4⟩
        · exact ⟨by have := (g2 x hx).1; omega, (g2 x hx).2⟩
      · rcases List.mem_cons.1 hx with rfl | hx
        · exact h5
        · exact g4 x hx
      · rcases List.mem_cons.1 hx with rfl | hx
        · exact h6
        · exact g5 x hx
    · rintro ⟨g1, g2, ⟨g3, g4⟩, g5, g6⟩
      have h0 := g1 0 (by simp)
      have h00 : m.num = n + ((0 : Nat) : Int) := h0.1
      refine ⟨⟨⟨⟨⟨⟨by omega, by omega⟩, (g2 m List.mem_cons_self).1⟩, (g2 m List.mem_cons_self).2⟩, g5 m List.mem_cons_self⟩, g6 m List.mem_cons_self⟩, fun k hk => ?_, fun x hx => ⟨g3 x hx, (g2 x (List.mem_cons_of_mem _ hx)).2⟩, g4, fun x hx => g5 x (List.mem_cons_of_mem _ hx), fun x hx => g6 x (List.mem_cons_of_mem _ hx)⟩
      have := g1 (k + 1) (by simpa using hk)
      have e : (l.getD k msg0).num = n + ((k + 1 : Nat) : Int) := this.1
      exact ⟨by omega, by omega⟩
structure VRom (r : Rom) : Prop where
  t0 : 0 ≤ r.tick
  t1 : r.tick ≤ 1073741824
  msl : r.ms.length ≤ 32
  logl : r.log.length ≤ 50
  ids : ∀ m ∈ r.ms, 1 ≤ m.id ∧ m.id ≤ 65536
  ris : r.ms.Pairwise fun a b => a.id < b.id
  mok : ∀ m ∈ r.ms, VMbr m
  said : r.log.length < 50 → r.said = r.log.length
  top : r.said ≤ 1099511627776
  log : VLog r.tick (r.said - r.log.length + 1) r.log
theorem vrom_iff {r : Rom} : validRm r = true ↔ VRom r := by
  unfold validRm
  simp only [Bool.and_eq_true, Bool.or_eq_true, decide_eq_true_eq, tick37_iff, risB_iff, List.all_eq_true, rightM_iff, logB_iff, List.pairwise_map, List.mem_map]
  constructor
  · rintro ⟨⟨⟨⟨⟨⟨⟨h1, h2⟩, h3⟩, h4, h5⟩, h6⟩, h7⟩, h8⟩, h9, h10, h11, h12, h13⟩
    exact ⟨h1.1, h1.2, h2, h3, fun m hm => (h4 m.id ⟨m, hm, rfl⟩).1, h5, h6, fun h => by rcases h7 with h7 | h7 <;> omega, h8, ⟨h9, h10, h11, h12, h13⟩⟩
  · rintro ⟨h1, h2, h3, h4, h5, h6, h7, h8, h9, ⟨g1, g2, g3, g4, g5⟩⟩
    refine ⟨⟨⟨⟨⟨⟨⟨⟨h1, h2⟩, h3⟩, h4⟩, ?_, h6⟩, h7⟩, ?_⟩, h9⟩, g1, g2, g3, g4, g5⟩
    · rintro x ⟨m, hm, rfl⟩
      exact ⟨h5 m hm, by have := (h5 m hm).1; omega⟩
    · rcases Nat.lt_or_ge r.log.length 50 with h | h
      · exact .inr (h8 h)
      · exact .inl h
end Go.Proofs.Ytplhnnlklnbahaa

/- Layer 37 (chat): rooms stay valid. Plain Lean. -/
namespace Go.Proofs.Ytplhnnlklnbahaa
open Go.Fw Go.RowKit
theorem find37_some {id : Int} : ∀ {l : List Mbr} {k : Nat}, findR37 id l = some k → k < l.length ∧ (l.getD k mbr0).id = id
  | [], _, h => by cases h
  | m :: l, k, h => by
    rw [findR37] at h
    split at h
    · rename_i he
      injection h with h
      subst h
      exact ⟨by simp, he⟩
    · cases hf : findR37 id l with
      | none => rw [hf] at h; cases h
      | some j =>
        rw [hf] at h
        obtain ⟨h1, h2⟩ := find37_some hf
        have e : j + 1 = k := by simpa using h
        subst e
        exact ⟨by simpa using h1, h2⟩
theorem find37_none {id : Int} : ∀ {l : List Mbr}, findR37 id l = none ↔ ∀ m ∈ l, m.id ≠ id
  | [] => ⟨fun _ m h => (by cases h), fun _ => rfl⟩
  | m :: l => by
    rw [findR37]
    by_cases he : m.id = id
    · rw [if_pos he]
      exact ⟨fun h => (by cases h), fun h => absurd he (h m List.mem_cons_self)⟩
    · rw [if_neg he]
      constructor
      · intro h x hx
        rcases List.mem_cons.1 hx with rfl | hx
        · exact he
        · refine find37_none.1 ?_ x hx
          cases hf : findR37 id l with
          | none => rfl
          | some j => rw [hf] at h; cases h
      · intro h
        rw [find37_none.2 fun x hx => h x (List.mem_cons_of_mem _ hx)]; rfl
theorem insN_mem {x y : Int} : ∀ {l : List Int}, y ∈ insN x l ↔ y = x ∨ y ∈ l
  | [] => by simp [insN]
  | m :: l => by
    rw [insN]
    split
    · rw [List.mem_cons]
    · rw [List.mem_cons, insN_mem, List.mem_cons]
      constructor
      · rintro (h | h | h)
        · exact .inr (.inl h)
        · exact .inl h
        · exact .inr (.inr h)
      · rintro (h | h | h)
        · exact .inr (.inl h)
        · exact .inl h
        · exact .inr (.inr h)
theorem insN_len (x : Int) : ∀ l : List Int, (insN x l).length = l.length + 1
  | [] => rfl
  | m :: l => by
    rw [insN]
    split
    · rfl
    · rw [List.length_cons, insN_len x l]; rfl
theorem insN_ris {x : Int} : ∀ {l : List Int}, (l.Pairwise fun a b => a < b) → x ∉ l → (insN x l).Pairwise fun a b => a < b
  | [], _, _ => List.pairwise_singleton _ _
  | m :: l, hs, hn => by
    obtain ⟨h1, h2⟩ := List.pairwise_cons.1 hs
    rw [insN]
    split
    · rename_i hx
      refine List.pairwise_cons.2 ⟨fun y hy => ?_, hs⟩
      rcases List.mem_cons.1 hy with rfl | hy
      · exact hx
      · have := h1 y hy; omega
    · rename_i hx
      have : m ≠ x := fun e => hn (e ▸ List.mem_cons_self)
      refine List.pairwise_cons.2 ⟨fun y hy => ?_, insN_ris h2 fun hz => hn (List.mem_cons_of_mem _ hz)⟩
      rcases insN_mem.1 hy with rfl | hy
      · omega
      · exact h1 y hy
/-- Other members in a valid room. -/
theorem VRom.members {r : Rom} (h : VRom r) {l : List Mbr} (h1 : l.length ≤ 32) (h2 : ∀ m ∈ l, 1 ≤ m.id ∧ m.id ≤ 65536) (h3 : l.Pairwise fun a b => a.id < b.id) (h4 : ∀ m ∈ l, VMbr m) : VRom { r with ms := l } :=
  ⟨h.t0, h.t1, h1, h.logl, h2, h3, h4, h.said, h.top, h.log⟩
theorem member_val {r : Rom} {id : Int} {f : Nat → ResR} (h : (memberR r id f).2 = 0) : VRom r ∧ ∃ k, findR37 id r.ms = some k ∧ k < r.ms.length ∧ (r.ms.getD k mbr0).id = id ∧ memberR r id f = f k := by
  unfold memberR at h ⊢
  split at h
  · rename_i hc
    rw [if_pos hc]
    cases hf : findR37 id r.ms with
    | none => rw [hf] at h; cases h
    | some k =>
      obtain ⟨h1, h2⟩ := find37_some hf
      exact ⟨vrom_iff.1 hc, k, rfl, h1, h2, rfl⟩
  · cases h
theorem leave_val37 {r : Rom} {id : Int} (h : (leaveRm r id).2 = 0) : VRom r ∧ ∃ k, findR37 id r.ms = some k ∧ k < r.ms.length ∧ leaveRm r id = ({ r with ms := r.ms.eraseIdx k }, 0) ∧ VRom { r with ms := r.ms.eraseIdx k } := by
  obtain ⟨hv, k, hf, hk, _, he⟩ := member_val h
  have hs := List.eraseIdx_sublist r.ms k
  refine ⟨hv, k, hf, hk, he, hv.members ?_ (fun m hm => hv.ids m (hs.subset hm)) (hv.ris.sublist hs) (fun m hm => hv.mok m (hs.subset hm))⟩
  have := hs.length_le
  have := hv.msl
  omega
/-- Another list of those that a member ignores. -/
theorem VRom.ignores {r : Rom} (h : VRom r) {k : Nat} (hk : k < r.ms.length) {l : List Int} (hm : VMbr ⟨(r.ms.getD k mbr0).id, l⟩) : VRom { r with ms := r.ms.set k ⟨(r.ms.getD k mbr0).id, l⟩ } := by
  have hin : ∀ m ∈ r.ms.set k ⟨(r.ms.getD k mbr0).id, l⟩, m ∈ r.ms ∨ m = ⟨(r.ms.getD k mbr0).id, l⟩ := fun m hm => List.mem_or_eq_of_mem_set hm
  refine h.members (by rw [List.length_set]; exact h.msl) (fun m hmm => ?_) ?_ (fun m hmm => ?_)
  · rcases hin m hmm with h1 | rfl
    · exact h.ids m h1
    · have := h.ids _ (getD_in mbr0 hk)
      exact this
  · have e : (r.ms.set k ⟨(r.ms.getD k mbr0).id, l⟩).map Mbr.id = r.ms.map Mbr.id := by
      refine List.ext_getElem (by simp) fun i h1 h2 => ?_
      rw [List.getElem_map, List.getElem_map, List.getElem_set]
      split
      · rename_i hki
        subst hki
        rw [getD_at mbr0 hk]
      · rfl
    have := List.pairwise_map.2 h.ris
    rw [← e] at this
    exact List.pairwise_map.1 this
  · rcases hin m hmm with h1 | rfl
    · exact h.mok m h1
    · exact hm
theorem ignore_val {r : Rom} {id whom : Int} {on : Bool} (h : (ignoreR r id whom on).2 = 0) : VRom r ∧ VRom (ignoreR r id whom on).1 := by
  obtain ⟨hv, k, hf, hk, hid, he⟩ := member_val h
  have he' : ignoreR r id whom on = _ := he
  rw [he'] at h ⊢
  refine ⟨hv, ?_⟩
  have hm := hv.mok _ (getD_in mbr0 hk)
  by_cases hc : id37 whom = true ∧ whom ≠ id
  · rw [if_pos hc] at h ⊢
    have hw := id37_iff.1 hc.1
    by_cases hin : whom ∈ (r.ms.getD k mbr0).ign
    · rw [if_pos hin]
      cases on with
      | true => exact hv
      | false =>
        rw [if_neg (by decide)]
        refine hv.ignores hk ⟨Nat.le_trans (List.length_filter_le _ _) hm.len, fun x hx => hm.ids x (List.mem_filter.1 hx).1, hm.ris.sublist List.filter_sublist, fun hx => hm.me (List.mem_filter.1 hx).1⟩
    · rw [if_neg hin] at h ⊢
      cases on with
      | true =>
        rw [if_pos rfl] at h ⊢
        by_cases hl : (r.ms.getD k mbr0).ign.length < 32
        · rw [if_pos hl]
          refine hv.ignores hk ⟨by show (insN _ _).length ≤ 32; rw [insN_len]; omega, fun x hx => ?_, insN_ris hm.ris hin, fun hx => ?_⟩
          · rcases insN_mem.1 hx with rfl | hx
            · exact hw
            · exact hm.ids x hx
          · rcases insN_mem.1 hx with e | hx
            · have e : (r.ms.getD k mbr0).id = whom := e
              exact hc.2 (by rw [← e, hid])
            · exact hm.me hx
        · rw [if_neg hl] at h; cases h
      | false => exact hv
  · rw [if_neg hc] at h; cases h
end Go.Proofs.Ytplhnnlklnbahaa

/- Layer 37 (chat): what is said. Plain Lean. -/
namespace Go.Proofs.Ytplhnnlklnbahaa
open Go.Fw Go.RowKit
/-! no more than four messages of one member within a pause -/
end Go.Proofs.Ytplhnnlklnbahaa

/- Layer 37 (chat): who hears what; joining, leaving and ignoring undo each other. Plain Lean. -/
namespace Go.Proofs.Ytplhnnlklnbahaa
open Go.Fw Go.RowKit
/-- In a list with increasing IDs a member is found by its ID. -/
theorem find37_at {l : List Mbr} (hs : l.Pairwise fun a b => a.id < b.id) {k : Nat} (hk : k < l.length) : findR37 (l.getD k mbr0).id l = some k := by
  induction l generalizing k with
  | nil => simp at hk
  | cons m l ih =>
    obtain ⟨h1, h2⟩ := List.pairwise_cons.1 hs
    cases k with
    | zero => rw [findR37]; exact if_pos rfl
    | succ k =>
      have hk' : k < l.length := by simpa using hk
      have hm := h1 _ (getD_in mbr0 hk')
      rw [findR37]
      show (if m.id = (l.getD k mbr0).id then _ else (findR37 (l.getD k mbr0).id l).map (· + 1)) = _
      rw [if_neg (by omega), ih h2 hk']
      rfl
theorem mem_idx {l : List Mbr} {m : Mbr} (hm : m ∈ l) : ∃ k, k < l.length ∧ l.getD k mbr0 = m := by
  obtain ⟨k, hk, rfl⟩ := List.mem_iff_getElem.1 hm
  exact ⟨k, hk, getD_at mbr0 hk⟩
/-- What a member hears, by the member. -/
theorem hear_at {r : Rom} (hv : VRom r) {m : Mbr} (hm : m ∈ r.ms) (after : Int) : hearR r m.id after = (r.log.filter fun x => decide (after < x.num) && !decide (x.frm ∈ m.ign), 0) := by
  obtain ⟨k, hk, rfl⟩ := mem_idx hm
  unfold hearR
  rw [if_pos (vrom_iff.2 hv), find37_at hv.ris hk]
theorem VLog.pos {top n : Int} {l : List Msg} (h : VLog top n l) {x : Msg} (hx : x ∈ l) : 1 ≤ x.num := by
  obtain ⟨k, hk, rfl⟩ := List.mem_iff_getElem.1 hx
  have := h.num k hk
  rw [getD_at msg0 hk] at this
  omega
/-- All that is heard: nothing is left out but for those that are ignored. -/
theorem hear_all {r : Rom} (hv : VRom r) {m : Mbr} (hm : m ∈ r.ms) : hearR r m.id 0 = (r.log.filter fun x => !decide (x.frm ∈ m.ign), 0) := by
  rw [hear_at hv hm]
  congr 1
  refine List.filter_congr fun x hx => ?_
  have := hv.log.pos hx
  rw [decide_eq_true (show (0 : Int) < x.num by omega), Bool.true_and]
/-! leaving and joining -/
theorem leave_at {r : Rom} (hv : VRom r) {k : Nat} (hk : k < r.ms.length) : leaveRm r (r.ms.getD k mbr0).id = ({ r with ms := r.ms.eraseIdx k }, 0) := by
  unfold leaveRm memberR
  rw [if_pos (vrom_iff.2 hv), find37_at hv.ris hk]
theorem erase_mem {l : List Mbr} (hs : l.Pairwise fun a b => a.id < b.id) {k j : Nat} (hk : k < l.length) (hj : j < l.length) (hne : k ≠ j) : l.getD k mbr0 ∈ l.eraseIdx j := by
  rw [List.mem_eraseIdx_iff_getElem?]
  exact ⟨k, hne, by rw [List.getElem?_eq_getElem hk, getD_at mbr0 hk]⟩
theorem erase_id {l : List Mbr} (hs : l.Pairwise fun a b => a.id < b.id) {k : Nat} (hk : k < l.length) : ∀ m ∈ l.eraseIdx k, m.id ≠ (l.getD k mbr0).id := fun m hm e => by
  rw [List.mem_eraseIdx_iff_getElem?] at hm
  obtain ⟨i, hik, hi⟩ := hm
  obtain ⟨hil, rfl⟩ := List.getElem?_eq_some_iff.1 hi
  have h1 := find37_at hs hk
  have h2 := find37_at hs hil
  rw [getD_at mbr0 hil, e, h1] at h2
  injection h2 with h2
  omega
/-- Put in again where it was. -/
theorem insM_erase : ∀ {l : List Mbr}, (l.Pairwise fun a b => a.id < b.id) → ∀ {k : Nat}, k < l.length → ∀ {x : Mbr}, x.id = (l.getD k mbr0).id → insM x (l.eraseIdx k) = l.set k x
  | [], _, k, hk, _, _ => by simp at hk
  | m :: l, hs, k, hk, x, hx => by
    obtain ⟨h1, h2⟩ := List.pairwise_cons.1 hs
    cases k with
    | zero =>
      have hx : x.id = m.id := hx
      show insM x l = x :: l
      cases l with
      | nil => rfl
      | cons y l =>
        rw [insM, if_pos]
        have := h1 y List.mem_cons_self
        omega
    | succ k =>
      have hk' : k < l.length := by simpa using hk
      have hx : x.id = (l.getD k mbr0).id := hx
      have := h1 _ (getD_in mbr0 hk')
      show insM x (m :: l.eraseIdx k) = m :: l.set k x
      rw [insM, if_neg (by omega), insM_erase h2 hk' hx]
/-! ignoring -/
/-- Ignore, for the member at k. -/
def ignAt (r : Rom) (k : Nat) (whom : Int) (on : Bool) : ResR :=
  if whom ∈ (r.ms.getD k mbr0).ign then
    (if on then (r, 0) else ({ r with ms := r.ms.set k ⟨(r.ms.getD k mbr0).id, (r.ms.getD k mbr0).ign.filter fun n => !decide (n = whom)⟩ }, 0))
  else if on then
    (if (r.ms.getD k mbr0).ign.length < 32 then ({ r with ms := r.ms.set k ⟨(r.ms.getD k mbr0).id, insN whom (r.ms.getD k mbr0).ign⟩ }, 0) else (rom0, 4))
  else (r, 0)
theorem ignore_at {r : Rom} (hv : VRom r) {k : Nat} (hk : k < r.ms.length) (whom : Int) (on : Bool) : ignoreR r (r.ms.getD k mbr0).id whom on = if id37 whom = true ∧ whom ≠ (r.ms.getD k mbr0).id then ignAt r k whom on else (rom0, 2) := by
  unfold ignoreR memberR
  rw [if_pos (vrom_iff.2 hv), find37_at hv.ris hk]
  rfl
theorem set_mbr {l : List Mbr} {k : Nat} (hk : k < l.length) (m : Mbr) : (l.set k m).getD k mbr0 = m := by
  rw [List.getD_eq_getElem?_getD, List.getElem?_set_self hk]; rfl
/-- Without a place: the other way is free. -/
theorem ign_full {r : Rom} {k : Nat} {whom : Int} (h : (ignAt r k whom true).2 ≠ 0) : ignAt r k whom true = (rom0, 4) ∧ (ignAt r k whom false).2 = 0 := by
  unfold ignAt at h ⊢
  by_cases hin : whom ∈ (r.ms.getD k mbr0).ign
  · rw [if_pos hin, if_pos rfl] at h; exact absurd rfl h
  · rw [if_neg hin, if_pos rfl] at h ⊢
    by_cases hl : (r.ms.getD k mbr0).ign.length < 32
    · rw [if_pos hl] at h; exact absurd rfl h
    · rw [if_neg hl, if_neg hin, if_neg (by decide)]
      exact ⟨rfl, rfl⟩
end Go.Proofs.Ytplhnnlklnbahaa

/- Layer 37 (chat): rooms, words and nodes in memory. -/
namespace Go.Proofs.Ytplhnnlklnbahaa
open Go.Fw Go.RowKit
/-- A text as a string's bytes. -/
def bs (s : List UInt8) : ByteArray := ⟨s.toArray⟩
theorem bs_data (s : List UInt8) : (bs s).data.toList = s := by simp [bs]
theorem bs_size (s : List UInt8) : (bs s).size = s.length := by simp [bs, ByteArray.size]
theorem bs_of (b : ByteArray) : bs b.data.toList = b := by simp [bs]
instance : Flat (List UInt8) := ⟨1, fun s => [.string (bs s)], [], fun _ => rfl, fun x v hv => by simp at hv; subst hv; rfl, by omega⟩
instance : Flat UInt8 := ⟨1, fun b => [.int .u8 b.toNat], 0, fun _ => rfl, fun x v hv => by simp at hv; subst hv; rfl, by omega⟩
/-- A message. -/
instance : Flat Msg := ⟨4, fun m => [.int .i64 m.num, .int .i64 m.tick, .int .i64 m.frm, .string (bs m.txt)], msg0, fun _ => rfl, fun x v hv => by
  simp at hv; rcases hv with rfl | rfl | rfl | rfl <;> rfl, by omega⟩
/-- A member; those that are ignored lie at A. -/
structure MbrP where
  m : Mbr
  A : Option Addr
  ca : Nat
instance : Flat MbrP := ⟨2, fun x => [.int .i64 x.m.id, .slice x.A x.m.ign.length x.ca], ⟨mbr0, none, 0⟩, fun _ => rfl, fun x v hv => by
  simp at hv; rcases hv with rfl | rfl <;> rfl, by omega⟩
/-- An occurrence. -/
structure Mat where
  at' : Int
  len : Int
  word : Int
instance : Flat Mat := ⟨3, fun x => [.int .i64 x.at', .int .i64 x.len, .int .i64 x.word], ⟨0, 0, 0⟩, fun _ => rfl, fun x v hv => by
  simp at hv; rcases hv with rfl | rfl | rfl <;> rfl, by omega⟩
/-- A node: 256 next ones and four numbers more. -/
def nodE (x : Nod) : List Value := ((List.range 256).map fun b => Value.int .i32 (x.next.getD b 0 : Nat)) ++ [.int .i32 (x.fail : Nat), .int .i32 (x.word : Nat), .int .i32 (x.size : Nat), .int .i32 (x.stop : Nat)]
theorem nodE_len (x : Nod) : (nodE x).length = 260 := by
  unfold nodE
  rw [List.length_append, List.length_map, List.length_range]; rfl
instance : Flat Nod := ⟨260, nodE, nod0 0, nodE_len, fun x v hv => by
  unfold nodE at hv
  rcases List.mem_append.1 hv with hv | hv
  · obtain ⟨b, _, rfl⟩ := List.mem_map.1 hv; rfl
  · simp at hv; rcases hv with rfl | rfl | rfl | rfl <;> rfl, by omega⟩
def mbrs (l : List MbrP) : List Mbr := l.map MbrP.m
theorem mbrs_len (l : List MbrP) : (mbrs l).length = l.length := List.length_map ..
theorem mbrs_at {l : List MbrP} {k : Nat} (hk : k < l.length) : (mbrs l).getD k mbr0 = (l.getD k Flat.dflt).m := by
  unfold mbrs
  rw [List.getD_eq_getElem?_getD, List.getElem?_map, List.getD_eq_getElem?_getD, List.getElem?_eq_getElem hk]
  rfl
theorem mbrs_snoc (l : List MbrP) (x : MbrP) : mbrs (l ++ [x]) = mbrs l ++ [x.m] := List.map_append ..
theorem mbrs_set (l : List MbrP) (k : Nat) (x : MbrP) : mbrs (l.set k x) = (mbrs l).set k x.m := List.map_set ..
theorem mbrs_erase (l : List MbrP) (k : Nat) : mbrs (l.eraseIdx k) = (mbrs l).eraseIdx k := by
  unfold mbrs
  rw [List.eraseIdx_eq_take_drop_succ, List.eraseIdx_eq_take_drop_succ, List.map_append, List.map_take, List.map_drop]
/-- A room's members at A, with those that they ignore, and its messages at B. -/
structure RdR (w : World) (A : Option Addr) (l : List MbrP) (B : Option Addr) (g : List Msg) : Prop where
  ms : Rd w A l
  ign : ∀ x ∈ l, Rd w x.A x.m.ign
  log : Rd w B g
theorem RdR.ext {w w' : World} {A B : Option Addr} {l : List MbrP} {g : List Msg} (h : RdR w A l B g) (he : Ext w w') : RdR w' A l B g := ⟨h.ms.ext he, fun x hx => (h.ign x hx).ext he, h.log.ext he⟩
theorem RdR.at {w : World} {A B : Option Addr} {l : List MbrP} {g : List Msg} (h : RdR w A l B g) {k : Nat} (hk : k < l.length) : Rd w (l.getD k Flat.dflt).A (l.getD k Flat.dflt).m.ign := h.ign _ (getD_mem hk)
/-- The room that lies so. -/
def rom (t s : Int) (l : List MbrP) (g : List Msg) : Rom := ⟨t, s, mbrs l, g⟩
def rv37 (t s : Int) (A : Option Addr) (l : List MbrP) (c : Nat) (B : Option Addr) (g : List Msg) (d : Nat) : Value := .agg #[.int .i64 t, .int .i64 s, .slice A l.length c, .slice B g.length d]
theorem mbr_enc {l : List MbrP} {k : Nat} {x : MbrP} (hx : l.getD k Flat.dflt = x) : Flat.enc (l.getD k Flat.dflt) = [.int .i64 x.m.id, .slice x.A x.m.ign.length x.ca] := by rw [hx]; rfl
theorem msg_enc {l : List Msg} {k : Nat} {x : Msg} (hx : l.getD k Flat.dflt = x) : Flat.enc (l.getD k Flat.dflt) = [.int .i64 x.num, .int .i64 x.tick, .int .i64 x.frm, .string (bs x.txt)] := by rw [hx]; rfl
end Go.Proofs.Ytplhnnlklnbahaa

/- More operations: parts of elements, nested structures, bits, numbers that wrap. -/
namespace Go.Fw
open Go.RowKit
section
variable {md : Md} {P : Program} {n : Nat} {Q : HQ} {f : Fr} {w0 : World} {H R : List HP} {ops : Array Oper} {rest : List Oper} {d : Nat} {op : Op} {ty : TypeId} {pos : String} {aft : Array Edge} {v : Value} {x y c : Operand}
/-! parts -/
theorem take_drop_get {α : Type} {l m : List α} {off sz j : Nat} {u : α} (h : (l.drop off).take sz = m) (hj : m[j]? = some u) : l[off + j]? = some u := by
  rw [← h, List.getElem?_take] at hj
  split at hj
  · rwa [List.getElem?_drop] at hj
  · cases hj
/-- Part of an element is loaded. -/
theorem lrs {α : Type} [F : Flat α] {t : TypeId} {S sz off i : Nat} {z cs : List Value} {A : Option Addr} {l : List α} [TAgg P t sz z] (hx : ev n f x = .pointer (some (((adr A).add (i * S)).add off))) (hr : ∀ w, Wd w0 (vis md H) w → Rd w A l) (hS : S = F.sz) (h1 : i < l.length)
    (hc : ((F.enc (l.getD i F.dflt)).drop off).take sz = cs) (hl : cs.length = sz) (k : SH (nx md) P n ops Q rest (upd f d (.agg cs.toArray)) w0 H) : SH md P n ops Q (⟨some d, .load t x, ty, pos, aft, none⟩ :: rest) f w0 H := s_val (fun w hw => ox_loadA hx (fun j u hj => by
      subst hS
      have := (hr w hw (i * F.sz + (off + j)) u (encs_get h1 (take_drop_get hc hj))).2
      rw [add_add, add_add]
      exact this) hl) k
/-- Part of a block is loaded. -/
theorem lbs {t te : TypeId} {sz b off : Nat} {z bs cs : List Value} [TAgg P t sz z] (hx : ev n f x = .pointer (some ⟨b, off, none⟩)) (hs : Split (vis md H) (bx b te bs) R) (hc : (bs.drop off).take sz = cs) (hl : cs.length = sz)
    (k : SH (nx md) P n ops Q rest (upd f d (.agg cs.toArray)) w0 H) : SH md P n ops Q (⟨some d, .load t x, ty, pos, aft, none⟩ :: rest) f w0 H := s_val (fun w hw => ox_loadA hx (fun j u hj => by
      have := hw.cell (off := off + j) hs (take_drop_get hc hj)
      have e : (⟨b, off, none⟩ : Addr).add j = ⟨b, off + j, none⟩ := by
        by_cases hj0 : j = 0
        · subst hj0; simp [Addr.add]
        · simp [Addr.add, hj0]
      rw [e]; exact this) hl) k
/-- Part of a block is stored. -/
theorem sbs {t te : TypeId} {sz b off : Nat} {z bs cs : List Value} [h : TAgg P t sz z] (hm : addOK md = true) (hx : ev n f x = .pointer (some ⟨b, off, none⟩)) (hy : ev n f y = .agg cs.toArray) (hs : Split H (bx b te bs) R) (hl : cs.length = sz) (hone : cs.all (·.oneCell') = true) (hoff : off + cs.length ≤ bs.length)
    (hk : keeps md (bx b te (bs.take off ++ cs ++ bs.drop (off + cs.length)) :: R)) (k : SH (nx md) P n ops Q rest f w0 (bx b te (bs.take off ++ cs ++ bs.drop (off + cs.length)) :: R)) : SH md P n ops Q (⟨none, .store t x y, ty, pos, aft, none⟩ :: rest) f w0 H :=
  s_mut hm fun w hw => wl_store (cs := cs) hx rfl hy (by simp [Value.cells]) (fun w => by rw [hl]; exact h.siz w) hone (hw.box hs).1 (by simpa using hoff) fun w1 hw1 hb => wl_nil ⟨rfl, _, hk, k, hw.setBox hs hw1 (by rw [hb])⟩
/-- A structure whose fields may have several cells each. -/
class TStN (P : Program) (t : TypeId) (pl : outParam (List (Nat × Nat))) (zs : outParam (List Value)) : Prop where
  und : ∃ fs, P.underlying t = some (.struct fs) ∧ ∀ w, (fs.mapM fun (f : Field) => do pure (f.offset, ← sizeOf f.type)).run P w = .ok pl.toArray w
  zer : ∀ w, (zeroValue t).run P w = .ok (.agg zs.toArray) w
theorem ox_buildN {w : World} {t : TypeId} {pl : List (Nat × Nat)} {zs cs : List Value} {parts : List (Nat × Operand)} [h : TStN P t pl zs] (hf : Instr.fill (pl.toArray[·]?) zs.toArray (parts.map fun p => (p.1, ev n f p.2)) = some cs.toArray) : OX P n f (.build t parts.toArray) ty w (.agg cs.toArray) w := by
  intro d pos aft g
  obtain ⟨fs, hu, hm⟩ := h.und
  have hp' : (parts.toArray.map fun (p : Nat × Operand) => (p.1, ev n f p.2)).toList = parts.map fun p => (p.1, ev n f p.2) := by simp
  simp only [execOp, Instr.build, h.zer, run_underlying hu, Sem.run_bind, Sem.run_pure, Result.andThen_ok, Value.cells, hm, hp']
  rw [hf]
  simp
theorem bldN {t : TypeId} {pl : List (Nat × Nat)} {zs cs : List Value} {parts : List (Nat × Operand)} [TStN P t pl zs] (hf : Instr.fill (pl.toArray[·]?) zs.toArray (parts.map fun p => (p.1, ev n f p.2)) = some cs.toArray)
    (k : SH (nx md) P n ops Q rest (upd f d (.agg cs.toArray)) w0 H) : SH md P n ops Q (⟨some d, .build t parts.toArray, ty, pos, aft, none⟩ :: rest) f w0 H := s_val (fun w hw => ox_buildN hf) k
/-- An array value, of elements of sz cells each. -/
class TArB (P : Program) (t : TypeId) (sz : outParam Nat) (zs : outParam (List Value)) : Prop where
  und : ∃ len e, P.underlying t = some (.array len e) ∧ ∀ w, (sizeOf e).run P w = .ok sz w
  zer : ∀ w, (zeroValue t).run P w = .ok (.agg zs.toArray) w
theorem ox_buildA {w : World} {t : TypeId} {sz : Nat} {zs cs : List Value} {parts : List (Nat × Operand)} [h : TArB P t sz zs] (hf : Instr.fill (fun i => some (i * sz, sz)) zs.toArray (parts.map fun p => (p.1, ev n f p.2)) = some cs.toArray) : OX P n f (.build t parts.toArray) ty w (.agg cs.toArray) w := by
  intro d pos aft g
  obtain ⟨len, e, hu, hm⟩ := h.und
  have hp' : (parts.toArray.map fun (p : Nat × Operand) => (p.1, ev n f p.2)).toList = parts.map fun p => (p.1, ev n f p.2) := by simp
  simp only [execOp, Instr.build, h.zer, run_underlying hu, Sem.run_bind, Sem.run_pure, Result.andThen_ok, Value.cells, hm, hp']
  rw [hf]
  simp
theorem bldA {t : TypeId} {sz : Nat} {zs cs : List Value} {parts : List (Nat × Operand)} [TArB P t sz zs] (hf : Instr.fill (fun i => some (i * sz, sz)) zs.toArray (parts.map fun p => (p.1, ev n f p.2)) = some cs.toArray)
    (k : SH (nx md) P n ops Q rest (upd f d (.agg cs.toArray)) w0 H) : SH md P n ops Q (⟨some d, .build t parts.toArray, ty, pos, aft, none⟩ :: rest) f w0 H := s_val (fun w hw => ox_buildA hf) k
/-- Zero values. -/
theorem bldZ {t : TypeId} {sz : Nat} {zs : List Value} [TArB P t sz zs] (k : SH (nx md) P n ops Q rest (upd f d (.agg zs.toArray)) w0 H) : SH md P n ops Q (⟨some d, .build t #[], ty, pos, aft, none⟩ :: rest) f w0 H := bldA (parts := []) (cs := zs) (by simp [Instr.fill]) k
theorem bldZN {t : TypeId} {pl : List (Nat × Nat)} {zs : List Value} [TStN P t pl zs] (k : SH (nx md) P n ops Q rest (upd f d (.agg zs.toArray)) w0 H) : SH md P n ops Q (⟨some d, .build t #[], ty, pos, aft, none⟩ :: rest) f w0 H := bldN (parts := []) (cs := zs) (by simp [Instr.fill]) k
/-- An element of an array value: an aggregate. -/
class TIdx (P : Program) (t : TypeId) (len sz : outParam Nat) (agg : outParam Bool) : Prop where
  und : ∃ e, P.underlying t = some (.array len e) ∧ (∀ w, (sizeOf e).run P w = .ok sz w) ∧ ∀ w, (isAgg e).run P w = .ok agg w
/-! function values -/
theorem fun1_of {α : Type} {P : Program} {w : World} {g : FuncId} {arg res : α → Value} {ok : α → Prop} (h : ∀ w', Ext w w' → ∀ x, ok x → Ret P g [arg x].toArray w' (Out w' (res x))) : Fun1 P w (.func (.func g) #[] #[]) arg res ok :=
  ⟨g, #[], #[], rfl, fun w' he x hx => by have := h w' he x hx; simpa using this⟩
/-! what lies at a place that is known: a captured or a package-level variable -/
theorem rd_one {α : Type} [F : Flat α] {w : World} {a : Addr} {u : α} {j : Nat} {v : Value} (h : Rd w (some a) [u]) (hj : (F.enc u)[j]? = some v) : w.cell? (a.add j) = some v := by
  have h1 := h j v (by rw [encs_cons, encs_nil, List.append_nil]; exact hj)
  exact h1.2
theorem lca {α : Type} [F : Flat α] {t : TypeId} {sz : Nat} {z : List Value} {a : Addr} {u : α} [TAgg P t sz z] (hx : ev n f x = .pointer (some a)) (hr : ∀ w, Wd w0 (vis md H) w → Rd w (some a) [u]) (hsz : sz = F.sz)
    (k : SH (nx md) P n ops Q rest (upd f d (.agg (F.enc u).toArray)) w0 H) : SH md P n ops Q (⟨some d, .load t x, ty, pos, aft, none⟩ :: rest) f w0 H := s_val (fun w hw => ox_loadA hx (fun j v hj => rd_one (hr w hw) hj) (by rw [F.len, hsz])) k
theorem lcs {α : Type} [F : Flat α] {t : TypeId} {z : Value} {a : Addr} {u : α} [TOne P t z] (hx : ev n f x = .pointer (some a)) (hr : ∀ w, Wd w0 (vis md H) w → Rd w (some a) [u]) (hv : F.enc u = [v])
    (k : SH (nx md) P n ops Q rest (upd f d v) w0 H) : SH md P n ops Q (⟨some d, .load t x, ty, pos, aft, none⟩ :: rest) f w0 H := lcell hx (fun w hw => by
      have := rd_one (hr w hw) (j := 0) (v := v) (by rw [hv]; rfl)
      simpa [Addr.add] using this) k
theorem lcf {α : Type} [F : Flat α] {t : TypeId} {z : Value} {a : Addr} {off : Nat} {u : α} [TOne P t z] (hx : ev n f x = .pointer (some (a.add off))) (hr : ∀ w, Wd w0 (vis md H) w → Rd w (some a) [u]) (hv : (F.enc u)[off]? = some v)
    (k : SH (nx md) P n ops Q rest (upd f d v) w0 H) : SH md P n ops Q (⟨some d, .load t x, ty, pos, aft, none⟩ :: rest) f w0 H := lcell hx (fun w hw => rd_one (hr w hw) hv) k
/-! numbers -/
theorem addw {K : IntKind} {a b : Int} {t1 t2 : TypeId} (hx : ev n f x = .int K a) (hy : ev n f y = .int K b) (r : Int) (hr : K.wrap (a + b) = r) (k : SH (nx md) P n ops Q rest (upd f d (.int K r)) w0 H) : SH md P n ops Q (⟨some d, .binOp .add t1 x y t2, ty, pos, aft, none⟩ :: rest) f w0 H := s_val (fun w hw => by
  intro d pos aft g; subst hr; simp [execOp, hx, hy, eqGuard, binOp, Op.intArith]) k
theorem subw {K : IntKind} {a b : Int} {t1 t2 : TypeId} (hx : ev n f x = .int K a) (hy : ev n f y = .int K b) (r : Int) (hr : K.wrap (a - b) = r) (k : SH (nx md) P n ops Q rest (upd f d (.int K r)) w0 H) : SH md P n ops Q (⟨some d, .binOp .sub t1 x y t2, ty, pos, aft, none⟩ :: rest) f w0 H := s_val (fun w hw => by
  intro d pos aft g; subst hr; simp [execOp, hx, hy, eqGuard, binOp, Op.intArith]) k
/-- An array that lies anywhere is indexed. -/
theorem ixA {t e : TypeId} {len sz : Nat} {a : Addr} {K : IntKind} {i : Int} (j : Nat) [TArr P t len e sz] (hx : ev n f x = .pointer (some a)) (hy : ev n f y = .int K i) (hj : i = (j : Int)) (h1 : j < len) (k : SH (nx md) P n ops Q rest (upd f d (.pointer (some (a.add (j * sz))))) w0 H) :
    SH md P n ops Q (⟨some d, .indexAddr t x y, ty, pos, aft, none⟩ :: rest) f w0 H := s_val (fun w hw => by
      subst hj
      have := ox_indexArr (P := P) (t := t) (w := w) (ty := ty) hx hy (Int.natCast_nonneg _) (Int.ofNat_lt.2 h1)
      rwa [Int.toNat_natCast] at this) k
end
section
variable {P : Program} {n : Nat} {Q : HQ} {f : Fr} {w0 : World} {H H' : List HP} {fn : Func} {R : Value → List HP → Prop} {v1 v2 v3 : Value}
end
end Go.Fw

/- The types of rooms, words and nodes (printed by gen_tp37.py). -/
namespace Go.Proofs.Ytplhnnlklnbahaa
open Go.Fw Go.RowKit
instance : TOne Try.prog 9 (.string .empty) := ⟨fun w => by kernel_rfl, fun w => by kernel_rfl, fun w => by kernel_rfl, rfl⟩
instance : TSl Try.prog 43 9 1 16 := ⟨by kernel_rfl, by kernel_rfl⟩
instance : TEl Try.prog 9 1 16 := tel_of (z := .string .empty) (by kernel_rfl) rfl (by omega)
instance : TOne Try.prog 43 (.slice none 0 0) := ⟨fun w => by kernel_rfl, fun w => by kernel_rfl, fun w => by kernel_rfl, rfl⟩
instance : TInt Try.prog 21 .i32 := ⟨by kernel_rfl⟩
instance : TOne Try.prog 21 (.int .i32 0) := ⟨fun w => by kernel_rfl, fun w => by kernel_rfl, fun w => by kernel_rfl, rfl⟩
instance : TSl Try.prog 125 21 1 4 := ⟨by kernel_rfl, by kernel_rfl⟩
instance : TEl Try.prog 21 1 4 := tel_of (z := .int .i32 0) (by kernel_rfl) rfl (by omega)
instance : TOne Try.prog 125 (.slice none 0 0) := ⟨fun w => by kernel_rfl, fun w => by kernel_rfl, fun w => by kernel_rfl, rfl⟩
instance : TOne Try.prog 46 (.pointer none) := ⟨fun w => by kernel_rfl, fun w => by kernel_rfl, fun w => by kernel_rfl, rfl⟩
instance : TOne Try.prog 75 (.pointer none) := ⟨fun w => by kernel_rfl, fun w => by kernel_rfl, fun w => by kernel_rfl, rfl⟩
instance : TOne Try.prog 126 (.pointer none) := ⟨fun w => by kernel_rfl, fun w => by kernel_rfl, fun w => by kernel_rfl, rfl⟩
instance : TOne Try.prog 83 (.pointer none) := ⟨fun w => by kernel_rfl, fun w => by kernel_rfl, fun w => by kernel_rfl, rfl⟩
instance : TOne Try.prog 71 (.nilFunc) := ⟨fun w => by kernel_rfl, fun w => by kernel_rfl, fun w => by kernel_rfl, rfl⟩
instance : TOne Try.prog 68 (.nilFunc) := ⟨fun w => by kernel_rfl, fun w => by kernel_rfl, fun w => by kernel_rfl, rfl⟩
instance : TOne Try.prog 106 (.nilFunc) := ⟨fun w => by kernel_rfl, fun w => by kernel_rfl, fun w => by kernel_rfl, rfl⟩
instance : TOne Try.prog 77 (.nilFunc) := ⟨fun w => by kernel_rfl, fun w => by kernel_rfl, fun w => by kernel_rfl, rfl⟩
instance : TOne Try.prog 112 (.nilFunc) := ⟨fun w => by kernel_rfl, fun w => by kernel_rfl, fun w => by kernel_rfl, rfl⟩
instance : TOne Try.prog 127 (.nilFunc) := ⟨fun w => by kernel_rfl, fun w => by kernel_rfl, fun w => by kernel_rfl, rfl⟩
instance : TOne Try.prog 99 (.nilFunc) := ⟨fun w => by kernel_rfl, fun w => by kernel_rfl, fun w => by kernel_rfl, rfl⟩
instance : TOne Try.prog 109 (.nilFunc) := ⟨fun w => by kernel_rfl, fun w => by kernel_rfl, fun w => by kernel_rfl, rfl⟩
instance : TAgg Try.prog 31 2 [.int .i64 0, .slice none 0 0] := ⟨fun w => by kernel_rfl, fun w => by kernel_rfl, fun w => by kernel_rfl⟩
instance : TSt Try.prog 31 2 [.int .i64 0, .slice none 0 0] := tst_of Try.underlying31 (fun w => by kernel_rfl) (fun w => by kernel_rfl) rfl
instance : TFld Try.prog 31 0 0 := tfld_of 0 Try.underlying31 rfl rfl (fun w => by kernel_rfl)
instance : TFlv Try.prog 31 0 0 := tflv_of Try.underlying31 rfl rfl (fun w => by kernel_rfl)
instance : TFld Try.prog 31 1 1 := tfld_of 0 Try.underlying31 rfl rfl (fun w => by kernel_rfl)
instance : TFlv Try.prog 31 1 1 := tflv_of Try.underlying31 rfl rfl (fun w => by kernel_rfl)
instance : TSl Try.prog 22 31 2 32 := ⟨by kernel_rfl, by kernel_rfl⟩
instance : TEl Try.prog 31 2 32 := tel_of (z := .agg #[.int .i64 0, .slice none 0 0]) (by kernel_rfl) rfl (by omega)
instance : TOne Try.prog 22 (.slice none 0 0) := ⟨fun w => by kernel_rfl, fun w => by kernel_rfl, fun w => by kernel_rfl, rfl⟩
instance : TAgg Try.prog 36 4 [.int .i64 0, .int .i64 0, .int .i64 0, .string .empty] := ⟨fun w => by kernel_rfl, fun w => by kernel_rfl, fun w => by kernel_rfl⟩
instance : TSt Try.prog 36 4 [.int .i64 0, .int .i64 0, .int .i64 0, .string .empty] := tst_of Try.underlying36 (fun w => by kernel_rfl) (fun w => by kernel_rfl) rfl
instance : TFld Try.prog 36 0 0 := tfld_of 0 Try.underlying36 rfl rfl (fun w => by kernel_rfl)
instance : TFlv Try.prog 36 0 0 := tflv_of Try.underlying36 rfl rfl (fun w => by kernel_rfl)
instance : TFld Try.prog 36 1 1 := tfld_of 0 Try.underlying36 rfl rfl (fun w => by kernel_rfl)
instance : TFlv Try.prog 36 1 1 := tflv_of Try.underlying36 rfl rfl (fun w => by kernel_rfl)
instance : TFld Try.prog 36 2 2 := tfld_of 0 Try.underlying36 rfl rfl (fun w => by kernel_rfl)
instance : TFlv Try.prog 36 2 2 := tflv_of Try.underlying36 rfl rfl (fun w => by kernel_rfl)
instance : TFld Try.prog 36 3 3 := tfld_of 0 Try.underlying36 rfl rfl (fun w => by kernel_rfl)
instance : TFlv Try.prog 36 3 3 := tflv_of Try.underlying36 rfl rfl (fun w => by kernel_rfl)
instance : TSl Try.prog 23 36 4 40 := ⟨by kernel_rfl, by kernel_rfl⟩
instance : TEl Try.prog 36 4 40 := tel_of (z := .agg #[.int .i64 0, .int .i64 0, .int .i64 0, .string .empty]) (by kernel_rfl) rfl (by omega)
instance : TOne Try.prog 23 (.slice none 0 0) := ⟨fun w => by kernel_rfl, fun w => by kernel_rfl, fun w => by kernel_rfl, rfl⟩
instance : TAgg Try.prog 25 4 [.int .i64 0, .int .i64 0, .slice none 0 0, .slice none 0 0] := ⟨fun w => by kernel_rfl, fun w => by kernel_rfl, fun w => by kernel_rfl⟩
instance : TSt Try.prog 25 4 [.int .i64 0, .int .i64 0, .slice none 0 0, .slice none 0 0] := tst_of Try.underlying25 (fun w => by kernel_rfl) (fun w => by kernel_rfl) rfl
instance : TFld Try.prog 25 0 0 := tfld_of 0 Try.underlying25 rfl rfl (fun w => by kernel_rfl)
instance : TFlv Try.prog 25 0 0 := tflv_of Try.underlying25 rfl rfl (fun w => by kernel_rfl)
instance : TFld Try.prog 25 1 1 := tfld_of 0 Try.underlying25 rfl rfl (fun w => by kernel_rfl)
instance : TFlv Try.prog 25 1 1 := tflv_of Try.underlying25 rfl rfl (fun w => by kernel_rfl)
instance : TFld Try.prog 25 2 2 := tfld_of 0 Try.underlying25 rfl rfl (fun w => by kernel_rfl)
instance : TFlv Try.prog 25 2 2 := tflv_of Try.underlying25 rfl rfl (fun w => by kernel_rfl)
instance : TFld Try.prog 25 3 3 := tfld_of 0 Try.underlying25 rfl rfl (fun w => by kernel_rfl)
instance : TFlv Try.prog 25 3 3 := tflv_of Try.underlying25 rfl rfl (fun w => by kernel_rfl)
instance : TAgg Try.prog 53 3 [.int .i64 0, .int .i64 0, .int .i64 0] := ⟨fun w => by kernel_rfl, fun w => by kernel_rfl, fun w => by kernel_rfl⟩
instance : TSt Try.prog 53 3 [.int .i64 0, .int .i64 0, .int .i64 0] := tst_of Try.underlying53 (fun w => by kernel_rfl) (fun w => by kernel_rfl) rfl
instance : TFld Try.prog 53 0 0 := tfld_of 0 Try.underlying53 rfl rfl (fun w => by kernel_rfl)
instance : TFlv Try.prog 53 0 0 := tflv_of Try.underlying53 rfl rfl (fun w => by kernel_rfl)
instance : TFld Try.prog 53 1 1 := tfld_of 0 Try.underlying53 rfl rfl (fun w => by kernel_rfl)
instance : TFlv Try.prog 53 1 1 := tflv_of Try.underlying53 rfl rfl (fun w => by kernel_rfl)
instance : TFld Try.prog 53 2 2 := tfld_of 0 Try.underlying53 rfl rfl (fun w => by kernel_rfl)
instance : TFlv Try.prog 53 2 2 := tflv_of Try.underlying53 rfl rfl (fun w => by kernel_rfl)
instance : TSl Try.prog 50 53 3 24 := ⟨by kernel_rfl, by kernel_rfl⟩
instance : TEl Try.prog 53 3 24 := tel_of (z := .agg #[.int .i64 0, .int .i64 0, .int .i64 0]) (by kernel_rfl) rfl (by omega)
instance : TOne Try.prog 50 (.slice none 0 0) := ⟨fun w => by kernel_rfl, fun w => by kernel_rfl, fun w => by kernel_rfl, rfl⟩
instance : TAgg Try.prog 61 1 [.slice none 0 0] := ⟨fun w => by kernel_rfl, fun w => by kernel_rfl, fun w => by kernel_rfl⟩
instance : TSt Try.prog 61 1 [.slice none 0 0] := tst_of Try.underlying61 (fun w => by kernel_rfl) (fun w => by kernel_rfl) rfl
instance : TFld Try.prog 61 0 0 := tfld_of 0 Try.underlying61 rfl rfl (fun w => by kernel_rfl)
instance : TFlv Try.prog 61 0 0 := tflv_of Try.underlying61 rfl rfl (fun w => by kernel_rfl)
instance : TAgg Try.prog 56 5 [.int .i64 0, .int .i64 0, .int .i64 0, .int .i64 0, .string .empty] := ⟨fun w => by kernel_rfl, fun w => by kernel_rfl, fun w => by kernel_rfl⟩
instance : TSt Try.prog 56 5 [.int .i64 0, .int .i64 0, .int .i64 0, .int .i64 0, .string .empty] := tst_of Try.underlying56 (fun w => by kernel_rfl) (fun w => by kernel_rfl) rfl
instance : TFld Try.prog 56 0 0 := tfld_of 0 Try.underlying56 rfl rfl (fun w => by kernel_rfl)
instance : TFlv Try.prog 56 0 0 := tflv_of Try.underlying56 rfl rfl (fun w => by kernel_rfl)
instance : TFld Try.prog 56 1 1 := tfld_of 0 Try.underlying56 rfl rfl (fun w => by kernel_rfl)
instance : TFlv Try.prog 56 1 1 := tflv_of Try.underlying56 rfl rfl (fun w => by kernel_rfl)
instance : TFld Try.prog 56 2 2 := tfld_of 0 Try.underlying56 rfl rfl (fun w => by kernel_rfl)
instance : TFlv Try.prog 56 2 2 := tflv_of Try.underlying56 rfl rfl (fun w => by kernel_rfl)
instance : TFld Try.prog 56 3 3 := tfld_of 0 Try.underlying56 rfl rfl (fun w => by kernel_rfl)
instance : TFlv Try.prog 56 3 3 := tflv_of Try.underlying56 rfl rfl (fun w => by kernel_rfl)
instance : TFld Try.prog 56 4 4 := tfld_of 0 Try.underlying56 rfl rfl (fun w => by kernel_rfl)
instance : TFlv Try.prog 56 4 4 := tflv_of Try.underlying56 rfl rfl (fun w => by kernel_rfl)
instance : TSl Try.prog 64 56 5 48 := ⟨by kernel_rfl, by kernel_rfl⟩
instance : TEl Try.prog 56 5 48 := tel_of (z := .agg #[.int .i64 0, .int .i64 0, .int .i64 0, .int .i64 0, .string .empty]) (by kernel_rfl) rfl (by omega)
instance : TOne Try.prog 64 (.slice none 0 0) := ⟨fun w => by kernel_rfl, fun w => by kernel_rfl, fun w => by kernel_rfl, rfl⟩
instance : TAgg Try.prog 94 3 [.int .i64 0, .int .i64 0, .int .i64 0] := ⟨fun w => by kernel_rfl, fun w => by kernel_rfl, fun w => by kernel_rfl⟩
instance : TSt Try.prog 94 3 [.int .i64 0, .int .i64 0, .int .i64 0] := tst_of Try.underlying94 (fun w => by kernel_rfl) (fun w => by kernel_rfl) rfl
instance : TFld Try.prog 94 0 0 := tfld_of 0 Try.underlying94 rfl rfl (fun w => by kernel_rfl)
instance : TFlv Try.prog 94 0 0 := tflv_of Try.underlying94 rfl rfl (fun w => by kernel_rfl)
instance : TFld Try.prog 94 1 1 := tfld_of 0 Try.underlying94 rfl rfl (fun w => by kernel_rfl)
instance : TFlv Try.prog 94 1 1 := tflv_of Try.underlying94 rfl rfl (fun w => by kernel_rfl)
instance : TFld Try.prog 94 2 2 := tfld_of 0 Try.underlying94 rfl rfl (fun w => by kernel_rfl)
instance : TFlv Try.prog 94 2 2 := tflv_of Try.underlying94 rfl rfl (fun w => by kernel_rfl)
instance : TSl Try.prog 92 94 3 24 := ⟨by kernel_rfl, by kernel_rfl⟩
instance : TEl Try.prog 94 3 24 := tel_of (z := .agg #[.int .i64 0, .int .i64 0, .int .i64 0]) (by kernel_rfl) rfl (by omega)
instance : TOne Try.prog 92 (.slice none 0 0) := ⟨fun w => by kernel_rfl, fun w => by kernel_rfl, fun w => by kernel_rfl, rfl⟩
instance : TAgg Try.prog 98 260 (List.replicate 260 (Value.int .i32 0)) := ⟨fun w => by kernel_rfl, fun w => by kernel_rfl, fun w => by kernel_rfl⟩
instance : TFld Try.prog 98 0 0 := tfld_of 255 Try.underlying98 rfl rfl (fun w => by kernel_rfl)
instance : TFld Try.prog 98 1 256 := tfld_of 0 Try.underlying98 rfl rfl (fun w => by kernel_rfl)
instance : TFld Try.prog 98 2 257 := tfld_of 0 Try.underlying98 rfl rfl (fun w => by kernel_rfl)
instance : TFld Try.prog 98 3 258 := tfld_of 0 Try.underlying98 rfl rfl (fun w => by kernel_rfl)
instance : TFld Try.prog 98 4 259 := tfld_of 0 Try.underlying98 rfl rfl (fun w => by kernel_rfl)
instance : TSl Try.prog 59 98 260 1040 := ⟨by kernel_rfl, by kernel_rfl⟩
instance : TEl Try.prog 98 260 1040 := tel_of (z := .agg (List.replicate 260 (Value.int .i32 0)).toArray) (by kernel_rfl) (by kernel_rfl) (by omega)
instance : TOne Try.prog 59 (.slice none 0 0) := ⟨fun w => by kernel_rfl, fun w => by kernel_rfl, fun w => by kernel_rfl, rfl⟩
instance : TArr Try.prog 96 256 21 1 := ⟨by kernel_rfl, by kernel_rfl, by decide⟩
end Go.Proofs.Ytplhnnlklnbahaa

/- What is read through knowledge of a world. -/
namespace Go.Fw
open Go.RowKit
section
variable {w0 w : World} {H R : List HP} {A B : Option Addr} {L : List EntP} {α : Type} [Flat α] {l : List α}
theorem rd_thk {Φ : World → Prop} (h : ∀ w, Φ w → Rd w B l) (hw : Wd w0 H w) (hs : Split H (kno Φ) R) : Rd w B l := h w (hw.kn hs)
end
section
variable {H G : List HP} {e ec : TypeId} {A : Option Addr} {c k : Nat} {l : List EntP} {y : EntP}
end
end Go.Fw

/- Elements are loaded, of which it is known what they are. -/
namespace Go.Fw
open Go.RowKit
section
variable {md : Md} {P : Program} {n : Nat} {Q : HQ} {f : Fr} {w0 : World} {H R : List HP} {ops : Array Oper} {rest : List Oper} {d : Nat} {op : Op} {ty : TypeId} {pos : String} {aft : Array Edge} {v : Value} {x y : Operand}
theorem lrg {α : Type} [F : Flat α] {t : TypeId} {z : Value} {sz off : Nat} {A : Option Addr} {i : Nat} {l : List α} {cs : List Value} [TOne P t z] (hx : ev n f x = .pointer (some (((adr A).add (i * sz)).add off))) (hr : ∀ w, Wd w0 (vis md H) w → Rd w A l) (hsz : sz = F.sz) (h1 : i < l.length) (hg : F.enc (l.getD i F.dflt) = cs) (hv : cs[off]? = some v)
    (k : SH (nx md) P n ops Q rest (upd f d v) w0 H) : SH md P n ops Q (⟨some d, .load t x, ty, pos, aft, none⟩ :: rest) f w0 H := lrf hx hr hsz h1 (by rw [hg]; exact hv) k
theorem lag {α : Type} [F : Flat α] {t : TypeId} {sz : Nat} {z : List Value} {A : Option Addr} {i : Nat} {l : List α} {cs : List Value} [TAgg P t sz z] (hx : ev n f x = .pointer (some ((adr A).add (i * sz)))) (hr : ∀ w, Wd w0 (vis md H) w → Rd w A l) (hsz : sz = F.sz) (h1 : i < l.length) (hg : F.enc (l.getD i F.dflt) = cs)
    (k : SH (nx md) P n ops Q rest (upd f d (.agg cs.toArray)) w0 H) : SH md P n ops Q (⟨some d, .load t x, ty, pos, aft, none⟩ :: rest) f w0 H := lra hx hr hsz h1 (by rw [hg]; exact k)
theorem lgi {t : TypeId} {z : Value} {A : Option Addr} {i : Nat} {l : List Int} {u : Int} [TOne P t z] (hx : ev n f x = .pointer (some ((adr A).add (i * 1)))) (hr : ∀ w, Wd w0 (vis md H) w → Rd w A l) (h1 : i < l.length) (hg : l.getD i 0 = u)
    (k : SH (nx md) P n ops Q rest (upd f d (.int .i64 u)) w0 H) : SH md P n ops Q (⟨some d, .load t x, ty, pos, aft, none⟩ :: rest) f w0 H := lin hx hr h1 (by rw [hg]; exact k)
end
end Go.Fw

/- Rules for slices.Insert and slices.Delete: appends into one's own row, copies, rows with room, appends of zeros. -/
namespace Go.Fw
open Go.RowKit
section
variable {P : Program} {n : Nat} {f : Fr} {w w0 : World} {ops : Array Oper} {rest : List Oper} {d : Nat} {ty : TypeId} {pos : String} {aft : Array Edge} {v : Value} {x y : Operand} {md : Md} {Q : HQ} {H R : List HP}
theorem wl_appIn {Q' : Exit → Fr → World → Prop} {t e : TypeId} {sz by_ : Nat} {cs news : List Value} {base : Nat} {A B : Option Addr} {m cp i kk c2 : Nat} [ht : TSl P t e sz by_] (hp : 0 < sz) (ho : Go.Fw.Own w base e sz A m cp cs)
    (hsrc : Src w B news) (hx : ev n f x = .slice A i cp) (hy : ev n f y = .slice B kk c2) (hl : news.length = kk * sz) (h1 : ∀ u ∈ news, u.oneCell' = true) (hik : i + kk ≤ m) (hm : m ≠ 0)
    (k : ∀ w1, Go.Fw.Own w1 base e sz A m cp (cs.take (i * sz) ++ news ++ cs.drop (i * sz + kk * sz)) → w.grownBy w1 (blk A) → WL P n ops Q' rest (upd f d (.slice A (i + kk) cp)) w1) :
    WL P n ops Q' (⟨some d, .call { callee := .builtin .append, args := #[x, y], argTypes := #[t, t] }, ty, pos, aft, none⟩ :: rest) f w := by
  obtain ⟨g, cur, rfl, hg, hh, hc1, hc2, hc3, hc4⟩ := own_some ho (by omega)
  have hsz : ∀ w, (sizeOf e).run P w = .ok sz w := slice_size (P := P) (t := t)
  have hikm : i * sz + kk * sz ≤ m * sz := by rw [← Nat.add_mul]; exact Nat.mul_le_mul_right _ hik
  have hmc : m * sz ≤ cp * sz := Nat.mul_le_mul_right _ hc1
  have hst := run_storeCells_at P g (i * sz) e news 0 cur w hh (by rw [hl, hc3]; omega) h1
  have hload : (Builtin.firstCells sz kk (.slice B kk c2)).run P w = .ok news.toArray w := by
    cases B with
    | none =>
      have : news = [] := by
        cases news with
        | nil => rfl
        | cons u us => exact absurd (hsrc 0 u rfl).1 (by simp)
      subst this
      exact run_firstCells_none w sz kk kk c2
    | some b => exact run_firstCells_some w sz kk b kk c2 news hl fun j u hj => (hsrc j u hj).2
  refine wl_val (v := .slice (some ⟨g, 0, none⟩) (i + kk) cp) (w' := w.setRow g (cur.toList.take (i * sz) ++ news ++ cur.toList.drop (i * sz + news.length)).toArray) ?_ (k _ ?_ ?_)
  · intro d pos aft gg
    simp only [Nat.add_zero] at hst
    simp [execOp, resolve, invoke, builtin, Builtin.append_, hx, hy, run_underlying ht.und, hsz, Builtin.lenOf, show i + kk ≤ cp by omega, hload, Addr.add_lit]
    simp at hst
    rw [hst]
    simp
  · have hlen := ho.1
    refine ⟨by simp only [List.length_append, List.length_take, List.length_drop, hl, hlen]; omega, .inr ⟨g, cp, _, rfl, hg, setRow_heap w g cur _ e _ hh, by omega, hc2, ?_, ?_⟩⟩
    · simp only [List.size_toArray, List.length_append, List.length_take, List.length_drop, hl, Array.length_toList, hc3]; omega
    · have hcl : cur.toList.length = cp * sz := by rw [Array.length_toList, hc3]
      rw [← hc4, List.take_take, Nat.min_eq_left (by omega), hl, List.drop_take, List.append_assoc, List.append_assoc]
      show ((cur.toList.take (i * sz) ++ (news ++ cur.toList.drop (i * sz + kk * sz))).take (m * sz)) = _
      rw [List.take_append, List.take_append, List.length_take, hcl, Nat.min_eq_left (by omega), hl, List.take_of_length_le (by rw [List.length_take]; omega), List.take_of_length_le (l := news) (by omega)]
      congr 3
      omega
  · simpa [blk] using (Wrt.mk' w g _).grown
theorem appIn {α : Type} [F : Flat α] {t e : TypeId} {sz by_ : Nat} {A B : Option Addr} {cp i j kk c2 : Nat} {L : List α} [TSl P t e sz by_] (hsz : sz = F.sz) (hm : addOK md = true) (hx : ev n f x = .slice A i cp) (hy : ev n f y = .slice B kk c2) (hs : Split H (orow e A cp L) R)
    (hB : ∀ w, Wd w0 H w → Rd w B (L.drop j)) (hkk : kk = L.length - j) (hij : i ≤ j) (hj : j ≤ L.length) (hne : 0 < L.length)
    (hk : keeps md (orow e A cp (L.take i ++ L.drop j ++ L.drop (i + kk)) :: R)) (k : SH (nx md) P n ops Q rest (upd f d (.slice A (i + kk) cp)) w0 (orow e A cp (L.take i ++ L.drop j ++ L.drop (i + kk)) :: R)) :
    SH md P n ops Q (⟨some d, .call { callee := .builtin .append, args := #[x, y], argTypes := #[t, t] }, ty, pos, aft, none⟩ :: rest) f w0 H := by
  subst hsz
  have hlen : (L.take i ++ L.drop j ++ L.drop (i + kk)).length = L.length := by
    simp only [List.length_append, List.length_take, List.length_drop]; omega
  refine s_mut hm fun w hw => wl_appIn F.pos (hw.own hs) (hB w hw) hx hy (by rw [encs_len, List.length_drop, hkk]) (encs_one _) (by omega) (by omega) fun w1 ho1 hg => wl_nil ⟨rfl, _, hk, k, hw.row hs hg ?_ (fun k hk => .inl hk)⟩
  rw [encs_take, ← Nat.add_mul, encs_drop, ← encs_append, ← encs_append] at ho1
  rw [hlen]; exact ho1
theorem ox_slice_lh {t e : TypeId} {sz by_ : Nat} {A : Option Addr} {m cp : Nat} {k k2 : IntKind} {lo hi : Int} {y2 : Operand} [h : TSl P t e sz by_] (hx : ev n f x = .slice A m cp) (hy : ev n f y = .int k lo) (hz : ev n f y2 = .int k2 hi) (h0 : 0 ≤ lo) (h1 : lo ≤ hi) (h2 : hi ≤ cp) :
    OX P n f (.slice t x (some y) (some y2) none) ty w (.slice (if cp = lo.toNat then A else A.map (·.add (lo.toNat * sz))) (hi.toNat - lo.toNat) (cp - lo.toNat)) w := by
  intro d pos aft g
  have hsz := slice_size (P := P) (t := t) (e := e)
  simp [execOp, not_array h, Instr.slice, hx, hy, hz, run_underlying h.und, Instr.sliceBounds, Instr.sliceBound, asIntOf, h0, h1, h2, hsz, show 0 ≤ hi by omega, show max hi 0 = hi by omega, show ¬ hi < lo by omega]
theorem ox_slice_lhm {t e : TypeId} {sz by_ : Nat} {A : Option Addr} {m cp : Nat} {k k2 k3 : IntKind} {lo hi mx : Int} {y2 y3 : Operand} [h : TSl P t e sz by_] (hx : ev n f x = .slice A m cp) (hy : ev n f y = .int k lo) (hz : ev n f y2 = .int k2 hi) (hz3 : ev n f y3 = .int k3 mx) (h0 : 0 ≤ lo) (h1 : lo ≤ hi) (h2 : hi ≤ mx) (h3 : mx ≤ cp) :
    OX P n f (.slice t x (some y) (some y2) (some y3)) ty w (.slice (if mx.toNat = lo.toNat then A else A.map (·.add (lo.toNat * sz))) (hi.toNat - lo.toNat) (mx.toNat - lo.toNat)) w := by
  intro d pos aft g
  have hsz := slice_size (P := P) (t := t) (e := e)
  simp [execOp, not_array h, Instr.slice, hx, hy, hz, hz3, run_underlying h.und, Instr.sliceBounds, Instr.sliceBound, asIntOf, h0, h1, h2, h3, hsz, show 0 ≤ hi by omega, show 0 ≤ mx by omega, show max mx 0 = mx by omega, show max hi 0 = hi by omega, show ¬ mx < hi by omega, show ¬ hi < lo by omega]
theorem sl2 {t e : TypeId} {sz by_ : Nat} {A : Option Addr} {m cp : Nat} {K K2 : IntKind} {lo hi : Int} {y2 : Operand} [TSl P t e sz by_] (hx : ev n f x = .slice A m cp) (hy : ev n f y = .int K lo) (hz : ev n f y2 = .int K2 hi) (h0 : 0 ≤ lo) (h1 : lo ≤ hi) (h2 : hi ≤ cp)
    (k : SH (nx md) P n ops Q rest (upd f d (.slice (if cp = lo.toNat then A else A.map (·.add (lo.toNat * sz))) (hi.toNat - lo.toNat) (cp - lo.toNat))) w0 H) : SH md P n ops Q (⟨some d, .slice t x (some y) (some y2) none, ty, pos, aft, none⟩ :: rest) f w0 H := s_val (fun _ _ => ox_slice_lh hx hy hz h0 h1 h2) k
theorem sl3 {t e : TypeId} {sz by_ : Nat} {A : Option Addr} {m cp : Nat} {K K2 K3 : IntKind} {lo hi mx : Int} {y2 y3 : Operand} [TSl P t e sz by_] (hx : ev n f x = .slice A m cp) (hy : ev n f y = .int K lo) (hz : ev n f y2 = .int K2 hi) (hz3 : ev n f y3 = .int K3 mx) (h0 : 0 ≤ lo) (h1 : lo ≤ hi) (h2 : hi ≤ mx) (h3 : mx ≤ cp)
    (k : SH (nx md) P n ops Q rest (upd f d (.slice (if mx.toNat = lo.toNat then A else A.map (·.add (lo.toNat * sz))) (hi.toNat - lo.toNat) (mx.toNat - lo.toNat))) w0 H) : SH md P n ops Q (⟨some d, .slice t x (some y) (some y2) (some y3), ty, pos, aft, none⟩ :: rest) f w0 H := s_val (fun _ _ => ox_slice_lhm hx hy hz hz3 h0 h1 h2 h3) k
end

section
variable {w w0 : World} {H R : List HP} {e : TypeId} {sz : Nat} {A : Option Addr} {m cp : Nat} {cs vs : List Value}
theorem Src.drop (h : Src w A cs) (k : Nat) : Src w (A.map (·.add k)) (cs.drop k) := fun j u hj => by
  rw [List.getElem?_drop] at hj
  obtain ⟨h1, h2⟩ := h _ u hj
  rw [h1]
  refine ⟨rfl, ?_⟩
  show w.cell? (((adr A).add k).add j) = _
  rw [add_add]; exact h2
theorem Src.take (h : Src w A cs) (k : Nat) : Src w A (cs.take k) := fun j u hj => by
  rw [List.getElem?_take] at hj
  split at hj
  · exact h j u hj
  · cases hj
theorem Wd.src (h : Wd w0 H w) (hs : Split H (Go.Fw.row e sz A m cp cs) R) : Src w A cs := src_own (h.own hs)
end
section
variable {P : Program} {n : Nat} {f : Fr} {w w0 : World} {ops : Array Oper} {rest : List Oper} {d : Nat} {ty : TypeId} {pos : String} {aft : Array Edge} {v : Value} {x y : Operand} {md : Md} {Q : HQ} {H R : List HP}
theorem wl_copy {Q' : Exit → Fr → World → Prop} {t t2 e : TypeId} {sz by_ : Nat} {cs vs : List Value} {base : Nat} {A B D : Option Addr} {m cp o dLen dCap sLen sCap kk : Nat} [ht : TSl P t e sz by_] (ho : Go.Fw.Own w base e sz A m cp cs)
    (hsrc : Src w B vs) (hx : ev n f x = .slice D dLen dCap) (hy : ev n f y = .slice B sLen sCap) (hD : D = A.map (·.add (o * sz))) (hkk : min sLen dLen = kk) (hl : vs.length = kk * sz) (h1 : ∀ u ∈ vs, u.oneCell' = true) (hik : o + kk ≤ m) (hm : m ≠ 0)
    (k : ∀ w1, Go.Fw.Own w1 base e sz A m cp (cs.take (o * sz) ++ vs ++ cs.drop (o * sz + kk * sz)) → w.grownBy w1 (blk A) → WL P n ops Q' rest (upd f d (.int .i64 kk)) w1) :
    WL P n ops Q' (⟨some d, .call { callee := .builtin .copy, args := #[x, y], argTypes := #[t, t2] }, ty, pos, aft, none⟩ :: rest) f w := by
  obtain ⟨g, cur, rfl, hg, hh, hc1, hc2, hc3, hc4⟩ := own_some ho (by omega)
  subst hD
  have hsz : ∀ w, (sizeOf e).run P w = .ok sz w := slice_size (P := P) (t := t)
  have hikm : o * sz + kk * sz ≤ m * sz := by rw [← Nat.add_mul]; exact Nat.mul_le_mul_right _ hik
  have hmc : m * sz ≤ cp * sz := Nat.mul_le_mul_right _ hc1
  have hst := run_storeCells_at P g (o * sz) e vs 0 cur w hh (by rw [hl, hc3]; omega) h1
  have hload : (Builtin.firstCells sz kk (.slice B sLen sCap)).run P w = .ok vs.toArray w := by
    cases B with
    | none =>
      have : vs = [] := by
        cases vs with
        | nil => rfl
        | cons u us => exact absurd (hsrc 0 u rfl).1 (by simp)
      subst this
      exact run_firstCells_none w sz kk sLen sCap
    | some b => exact run_firstCells_some w sz kk b sLen sCap vs hl fun j u hj => (hsrc j u hj).2
  refine wl_val (v := .int .i64 kk) (w' := w.setRow g (cur.toList.take (o * sz) ++ vs ++ cur.toList.drop (o * sz + vs.length)).toArray) ?_ (k _ ?_ ?_)
  · intro d pos aft gg
    simp only [Nat.add_zero] at hst
    have hkk' : Nat.min sLen dLen = kk := hkk
    simp [execOp, resolve, invoke, builtin, Builtin.copy_, hx, hy, run_underlying ht.und, hsz, Builtin.lenOf, hkk', hload, Addr.add_lit]
    simp at hst
    rw [hst]
    simp [goInt]
  · have hlen := ho.1
    refine ⟨by simp only [List.length_append, List.length_take, List.length_drop, hl, hlen]; omega, .inr ⟨g, cp, _, rfl, hg, setRow_heap w g cur _ e _ hh, by omega, hc2, ?_, ?_⟩⟩
    · simp only [List.size_toArray, List.length_append, List.length_take, List.length_drop, hl, Array.length_toList, hc3]; omega
    · have hcl : cur.toList.length = cp * sz := by rw [Array.length_toList, hc3]
      rw [← hc4, List.take_take, Nat.min_eq_left (by omega), hl, List.drop_take, List.append_assoc, List.append_assoc]
      show ((cur.toList.take (o * sz) ++ (vs ++ cur.toList.drop (o * sz + kk * sz))).take (m * sz)) = _
      rw [List.take_append, List.take_append, List.length_take, hcl, Nat.min_eq_left (by omega), hl, List.take_of_length_le (by rw [List.length_take]; omega), List.take_of_length_le (l := vs) (by omega)]
      congr 3
      omega
  · simpa [blk] using (Wrt.mk' w g _).grown
/-- copy(d, s): into a part of a row of one's own. -/
theorem cpy {t t2 e : TypeId} {sz by_ : Nat} {cs vs : List Value} {A B D : Option Addr} {m cp o dLen dCap sLen sCap kk : Nat} [TSl P t e sz by_] (hm : addOK md = true) (hx : ev n f x = .slice D dLen dCap) (hy : ev n f y = .slice B sLen sCap) (hs : Split H (row e sz A m cp cs) R)
    (hD : D = A.map (·.add (o * sz))) (hsrc : ∀ w, Wd w0 H w → Src w B vs) (hkk : min sLen dLen = kk) (hl : vs.length = kk * sz) (h1 : ∀ u ∈ vs, u.oneCell' = true) (hik : o + kk ≤ m) (hne : m ≠ 0)
    (hk : keeps md (row e sz A m cp (cs.take (o * sz) ++ vs ++ cs.drop (o * sz + kk * sz)) :: R)) (k : SH (nx md) P n ops Q rest (upd f d (.int .i64 kk)) w0 (row e sz A m cp (cs.take (o * sz) ++ vs ++ cs.drop (o * sz + kk * sz)) :: R)) :
    SH md P n ops Q (⟨some d, .call { callee := .builtin .copy, args := #[x, y], argTypes := #[t, t2] }, ty, pos, aft, none⟩ :: rest) f w0 H :=
  s_mut hm fun w hw => wl_copy (hw.own hs) (hsrc w hw) hx hy hD hkk hl h1 hik hne fun w1 ho1 hg => wl_nil ⟨rfl, _, hk, k, hw.row hs hg ho1 (fun k hk => .inl hk)⟩
theorem cpyL {α : Type} [F : Flat α] {t t2 e : TypeId} {sz by_ : Nat} {L V : List α} {A B D : Option Addr} {cp o dLen dCap sLen sCap kk : Nat} [TSl P t e sz by_] (hsz : sz = F.sz) (hm : addOK md = true) (hx : ev n f x = .slice D dLen dCap) (hy : ev n f y = .slice B sLen sCap) (hs : Split H (orow e A cp L) R)
    (hD : D = A.map (·.add (o * sz))) (hsrc : ∀ w, Wd w0 H w → Rd w B V) (hkk : min sLen dLen = kk) (hl : V.length = kk) (hik : o + kk ≤ L.length) (hne : L.length ≠ 0)
    (hk : keeps md (orow e A cp (L.take o ++ V ++ L.drop (o + kk)) :: R)) (k : SH (nx md) P n ops Q rest (upd f d (.int .i64 kk)) w0 (orow e A cp (L.take o ++ V ++ L.drop (o + kk)) :: R)) :
    SH md P n ops Q (⟨some d, .call { callee := .builtin .copy, args := #[x, y], argTypes := #[t, t2] }, ty, pos, aft, none⟩ :: rest) f w0 H := by
  subst hsz
  have e : row e F.sz A L.length cp ((encs L).take (o * F.sz) ++ encs V ++ (encs L).drop (o * F.sz + kk * F.sz)) = orow e A cp (L.take o ++ V ++ L.drop (o + kk)) := by
    unfold orow
    rw [encs_take, ← Nat.add_mul, encs_drop, ← encs_append, ← encs_append]
    congr 1
    simp only [List.length_append, List.length_take, List.length_drop]; omega
  exact cpy hm hx hy hs hD hsrc hkk (by rw [encs_len, hl]) (encs_one _) hik hne (by rw [e]; exact hk) (by rw [e]; exact k)
/-- The elements from i on go one place further, into the room behind. -/
theorem cpyS {α : Type} [F : Flat α] {t t2 e : TypeId} {sz by_ : Nat} {l : List α} {xs : List Value} {A B D : Option Addr} {cp i dLen dCap sLen sCap : Nat} [TSl P t e sz by_] (hsz : sz = F.sz) (hm : addOK md = true) (hx : ev n f x = .slice D dLen dCap) (hy : ev n f y = .slice B sLen sCap)
    (hs : Split H (row e F.sz A (l.length + 1) cp (encs l ++ xs)) R) (hxs : xs.length = F.sz) (hi : i < l.length) (hD : D = A.map (·.add ((i + 1) * sz))) (hB : B = A.map (·.add (i * sz))) (hkk : min sLen dLen = l.length - i)
    (hk : keeps md (orow e A cp (l.take (i + 1) ++ l.drop i) :: R)) (k : SH (nx md) P n ops Q rest (upd f d (.int .i64 (l.length - i : Nat))) w0 (orow e A cp (l.take (i + 1) ++ l.drop i) :: R)) :
    SH md P n ops Q (⟨some d, .call { callee := .builtin .copy, args := #[x, y], argTypes := #[t, t2] }, ty, pos, aft, none⟩ :: rest) f w0 H := by
  subst hsz
  have hl := encs_len l
  have h1 : (i + 1) * F.sz ≤ l.length * F.sz := Nat.mul_le_mul_right _ hi
  have h2 : i * F.sz ≤ l.length * F.sz := Nat.mul_le_mul_right _ (by omega)
  have h3 : (i + 1) * F.sz + (l.length - i) * F.sz = l.length * F.sz + F.sz := by rw [← Nat.add_mul, show i + 1 + (l.length - i) = l.length + 1 by omega, Nat.succ_mul]
  have e : row e F.sz A (l.length + 1) cp ((encs l ++ xs).take ((i + 1) * F.sz) ++ encs (l.drop i) ++ (encs l ++ xs).drop ((i + 1) * F.sz + (l.length - i) * F.sz)) = orow e A cp (l.take (i + 1) ++ l.drop i) := by
    unfold orow
    have h4 : (encs l ++ xs).drop (l.length * F.sz + F.sz) = [] := List.drop_of_length_le (by rw [List.length_append, hl, hxs]; omega)
    rw [List.take_append_of_le_length (by omega), encs_take, h3, h4, List.append_nil, ← encs_append]
    congr 1
    simp only [List.length_append, List.length_take, List.length_drop]; omega
  refine cpy (vs := encs (l.drop i)) hm hx hy hs hD (fun w hw => ?_) hkk (by rw [encs_len, List.length_drop]) (encs_one _) (by omega) (by omega) (by rw [e]; exact hk) (by rw [e]; exact k)
  have h := (hw.src hs).drop (i * F.sz)
  rw [List.drop_append_of_le_length (by omega), encs_drop] at h
  rw [hB]
  intro j u hj
  exact h j u (by rw [List.getElem?_append_left ((List.getElem?_eq_some_iff.1 hj).1)]; exact hj)
/-- A row with room: the cells of one more element. -/
theorem v_room {α : Type} [F : Flat α] {c : Code} {A : Option Addr} {cp : Nat} {e : TypeId} {l : List α} (hs : Split H (orow e A cp l) R) (hc : l.length + 1 ≤ cp) (k : ∀ xs : List Value, xs.length = F.sz → VH P n c Q f w0 (row e F.sz A (l.length + 1) cp (encs l ++ xs) :: R)) : VH P n c Q f w0 H := ⟨fun w hw => by
  obtain ⟨p, q, hx, hq, hd, hp, hi⟩ := (hs.wd hw).open_
  obtain ⟨h0, h1⟩ := hx
  rcases h1 with ⟨_, _, h2⟩ | ⟨g, cur, rfl, rfl, h2, h3, h4, h5⟩
  · omega
  · have hml : (l.length + 1) * F.sz ≤ cp * F.sz := Nat.mul_le_mul_right _ hc
    have hsucc : (l.length + 1) * F.sz = l.length * F.sz + F.sz := Nat.succ_mul _ _
    have hxl : ((cur.toList.drop (l.length * F.sz)).take F.sz).length = F.sz := by rw [List.length_take, List.length_drop, Array.length_toList, h4]; omega
    refine (k ((cur.toList.drop (l.length * F.sz)).take F.sz) hxl).out w (Wd.close hw.ext (p := pone g (.cells cur e (0, 0))) ⟨?_, .inr ⟨g, cur, rfl, rfl, hc, h3, h4, ?_⟩⟩ hq hd hp hi)
    · rw [List.length_append, hxl, encs_len, hsucc]
    · rw [hsucc, List.take_add, h5]⟩
theorem encs_zero {α : Type} [F : Flat α] (z : Array Value) (hz : z.toList = F.enc F.dflt) : ∀ k : Nat, (Builtin.zeroCells z k).toList = encs (List.replicate k F.dflt)
  | 0 => by simp [Builtin.zeroCells, encs]
  | k + 1 => by
    have ih := encs_zero z hz k
    have hsz : z.size = F.sz := by rw [← Array.length_toList, hz, F.len]
    rw [List.replicate_succ', encs_append, ← ih]
    have he : encs [F.dflt] = z.toList := by rw [hz]; simp [encs]
    rw [he]
    refine List.ext_getElem? fun i => ?_
    have hp : 0 < z.size := by rw [hsz]; exact F.pos
    simp only [Builtin.zeroCells, Array.toList_map, Array.toList_range, List.getElem?_map, List.getElem?_append, List.length_map, List.length_range, Nat.succ_mul]
    by_cases h1 : i < k * z.size
    · rw [if_pos h1, List.getElem?_range (by omega), List.getElem?_range h1]
    · rw [if_neg h1]
      by_cases h2 : i < k * z.size + z.size
      · rw [List.getElem?_range h2]
        have e1 : i % z.size = i - k * z.size := by
          obtain ⟨r, rfl⟩ : ∃ r, i = r + k * z.size := ⟨i - k * z.size, by omega⟩
          rw [Nat.add_mul_mod_self_right, Nat.mod_eq_of_lt (by omega)]; omega
        simp only [Option.map_some, e1]
        rw [getElem!_pos z _ (by omega), List.getElem?_eq_getElem (by rw [Array.length_toList]; omega)]
        simp
      · rw [List.getElem?_eq_none (by rw [List.length_range]; omega), List.getElem?_eq_none (by rw [Array.length_toList]; omega)]; rfl
/-- append(s, make([]T, k)...), where s has no room. -/
theorem appz {α : Type} [F : Flat α] {t tn e : TypeId} {sz by_ : Nat} {A : Option Addr} {i cp k : Nat} {kq kn : IntKind} {l : List α} {z : Value} [ht : TSl P t e sz by_] [he : TEl P e sz by_] [hn : TInt P tn kn] (hm : addOK md = true)
    (hx : ev n f x = .slice A i cp) (hy : ev n f y = .int kq k) (hr : ∀ w, Wd w0 H w → Rd w A l) (hil : l.length = i) (hz : (P.info? e).bind (·.zero) = some z) (hzc : z.cells.toList = F.enc F.dflt) (hsz : sz = F.sz) (h0 : 0 < k) (hg : cp < i + k)
    (hbig : (i + k) * by_ ≤ 140737488355328) (h63 : i + k ≤ 140737488355328) (hcp : cp ≤ 140737488355328) (hcb : cp * by_ ≤ 140737488355328)
    (kont : ∀ A' cp', SH (nx md) P n ops Q rest (upd f d (.slice A' (i + k) cp')) w0 (orow e A' cp' (l ++ List.replicate k F.dflt) :: H)) :
    SH md P n ops Q (⟨some d, .call { callee := .builtin .append, args := #[x, y], argTypes := #[t, tn] }, ty, pos, aft, none⟩ :: rest) f w0 H := by
  subst hsz hil
  refine s_add hm fun w hw => ?_
  obtain ⟨inf, z', hi, hisz, hiby, hz', hzs⟩ := he.inf
  have e1 : z' = z := by rw [hi] at hz; simp only [Option.bind_some] at hz; rw [hz'] at hz; injection hz
  subst e1
  have hold : (Builtin.firstCells inf.size l.length (.slice A l.length cp)).run P w.drew = .ok (encs l).toArray w.drew := by
    have hrw := hr w hw
    cases A with
    | none =>
      have hl0 : l = [] := hrw.none
      subst hl0
      exact run_firstCells_none w.drew inf.size 0 0 cp
    | some b => exact run_firstCells_some w.drew inf.size l.length b l.length cp (encs l) (by rw [encs_len, hisz]) fun j u hj => (hrw j u hj).2
  have hrun := Lib.run_append_grow_zeros (P := P) w t tn ty e inf z' kq kn ht.und hn.und hi hz' A l.length cp (encs l) hold k h0 (by rw [hisz]; exact F.pos) hg (by omega)
    (by rw [hiby]; have : k * by_ ≤ (l.length + k) * by_ := Nat.mul_le_mul_right _ (by omega); omega) (growslice_fits (by omega) (by rw [hiby]; exact hbig))
  have hge := grownCap_ge w (l.length + k) cp e
  have hext : ∀ (o : Obj), Ext w (w.drew.alloc o) := fun o => Ext.grown0 ⟨rfl, rfl, rfl, by simp, fun k hk _ => Below.heap_alloc w.drew _ k hk⟩
  refine wl_val (v := .slice (some ⟨w.heap.size, 0, none⟩) (l.length + k) (grownCap w (l.length + k) cp e)) (w' := w.drew.alloc (.cells ((encs l).toArray ++ Builtin.zeroCells z'.cells k ++ Builtin.zeroCells z'.cells (grownCap w (l.length + k) cp e - (l.length + k))) e)) ?_ (wl_nil ⟨rfl, hext _, _, kont _ _, hw.newRow (hext _) ?_⟩)
  · intro d pos aft g
    simp [execOp, resolve, invoke, builtin, hx, hy, hrun]
  · have hll : (l ++ List.replicate k F.dflt).length = l.length + k := by rw [List.length_append, List.length_replicate]
    refine ⟨by rw [encs_len], .inr ⟨w.heap.size, _, _, by rw [hll], Nat.le_refl _, heap_alloc_new w.drew _, by rw [hll]; exact hge, grownCap_le_maxLen w _ cp e (by simp only [maxLen]; omega), ?_, ?_⟩⟩
    · simp only [Array.size_append, List.size_toArray, size_zeroCells, hzs, encs_len, ← Nat.add_mul]
      congr 1
      omega
    · simp only [Array.toList_append, List.append_assoc]
      rw [encs_zero z'.cells hzc, ← List.append_assoc, encs_append, show (l ++ List.replicate k F.dflt).length * F.sz = (encs l ++ encs (List.replicate k F.dflt)).length by rw [← encs_append, encs_len]]
      exact List.take_left
/-- slices.overlaps at two rows of one's own. -/
theorem ovl {t tR te e ev' : TypeId} {sz by_ : Nat} {g : FuncId} {fn : Func} {ats : Array TypeId} {bv lv cv la ca lb cb m cp o : Nat} {A B : Option Addr} {cs vs : List Value} {R R2 : List HP} {szv : Nat} [ht : TSl P t e sz by_] (hp : 0 < sz) (hf : P.funcs[g]? = some fn) (hname : (fn.name == "runtime.NumGoroutine") = false) (hb : fn.body.isNone = true) (hn : Extern.findNext fn = none)
    (he : Extern.find fn = some (Extern.SlicesOverlaps.overlaps #[t, t] #[tR])) (hx : ev n f x = .slice (some ⟨bv, 0, none⟩) la ca) (hy : ev n f y = .slice B lb cb) (hB : B = A.map (·.add o))
    (hs : Split (vis md H) (row te sz A m cp cs) R) (hs2 : Split R (row ev' szv (some ⟨bv, 0, none⟩) lv cv vs) R2) (hm : 0 < m) (k : SH (nx md) P n ops Q rest (upd f d (.bool false)) w0 H) :
    SH md P n ops Q (⟨some d, .call { callee := .value (.func g), args := #[x, y], argTypes := ats }, ty, pos, aft, none⟩ :: rest) f w0 H := s_val (fun w hw => by
  obtain ⟨p, q, hx1, hq, hd, hp1, hq1⟩ := (hs.wd hw).open_
  obtain ⟨p2, q2, hx2, _, _, rfl⟩ := hs2.sat hq
  obtain ⟨gA, cur, rfl, rfl, h2, h3, h4, h5⟩ := hx1.2.resolve_left (fun h => by omega)
  rcases hx2.2 with ⟨h, _⟩ | ⟨gB, cur2, e1, rfl, k2, k3, k4, k5⟩
  · cases h
  injection e1 with e1
  injection e1 with e1 _ _
  subst e1
  have hne : bv ≠ gA := fun e => by
    subst e
    rcases hd bv with h | h
    · rw [pone_at] at h; cases h
    · have := (pjoin_none.1 h).1
      rw [pone_at] at this; cases this
  have hA := (hp1 gA _ (pone_at _ _)).2
  have hV := (hq1 bv _ (by unfold pjoin; rw [pone_at])).2
  have hcp : 0 < cp * sz := Nat.mul_pos (by omega) hp
  subst hB
  have hfz : w.frozen? ⟨bv, 0, none⟩ = false ∧ w.frozen? { block := bv, off := cur2.size } = false := by
    simp [World.frozen?, hV]
  have hr := Lib.run_overlaps_apart (P := P) w t tR e ht.und sz (slice_size (P := P) (t := t)) ⟨bv, 0, none⟩ ((⟨gA, 0, none⟩ : Addr).add o) la ca lb cb (by show bv ≠ ((⟨gA, 0, none⟩ : Addr).add o).block; rw [Addr.add_lit]; exact hne) ev' te cur2.size cur.size (by simp [World.shape?, hV]) (by rw [Addr.add_lit]; simp [World.shape?, hA]) (by omega) hfz.1 hfz.2
  intro d pos aft gg
  have hcf := run_callFunc_extern hf hname hb hn he #[.slice (some ⟨bv, 0, none⟩) la ca, .slice ((some (⟨gA, 0, none⟩ : Addr)).map (·.add o)) lb cb] w
  simp only [Option.map_some] at hcf hy
  rw [hr] at hcf
  simp [execOp, resolve, invoke, hx, hy, show ev n f (.func g) = .func (.func g) #[] #[] from rfl, Deferred.ofValue, hcf, Result.andThen]) k
theorem bcp {t e : TypeId} {sz by_ : Nat} {A : Option Addr} {m cp : Nat} [ht : TSl P t e sz by_] (hx : ev n f x = .slice A m cp) (k : SH (nx md) P n ops Q rest (upd f d (.int .i64 cp)) w0 H) : SH md P n ops Q (⟨some d, .call { callee := .builtin .cap, args := #[x], argTypes := #[t] }, ty, pos, aft, none⟩ :: rest) f w0 H := s_val (fun w _ => by
  intro d pos aft g
  simp [execOp, resolve, invoke, builtin, hx, Builtin.cap_, goInt, run_underlying ht.und]) k
end
end Go.Fw

/- Layer 37 (chat): rules for strings and for bytes of a string. -/
namespace Go.Proofs.Ytplhnnlklnbahaa
open Go.Fw Go.RowKit
class TStr (P : Program) (t : TypeId) : Prop where
  und : P.underlying t = some .string
class TByt (P : Program) (t : TypeId) (e : outParam TypeId) : Prop where
  und : P.underlying t = some (.slice e)
  byt : P.underlying e = some (.int .u8)
instance : TStr Try.prog 9 := ⟨by kernel_rfl⟩
instance : TByt Try.prog 62 5 := ⟨by kernel_rfl, by kernel_rfl⟩
section
variable {P : Program} {n : Nat} {f : Fr} {w : World} {ty : TypeId} {x y y2 : Operand}
theorem ox_slen {t : TypeId} [h : TStr P t] {s : List UInt8} (hx : ev n f x = .string (bs s)) : OX P n f (.call { callee := .builtin .len, args := #[x], argTypes := #[t] }) ty w (.int .i64 s.length) w := by
  intro d pos aft g
  simp [execOp, resolve, invoke, builtin, Builtin.len_, hx, run_underlying h.und, goInt, bs_size]
theorem ox_sidx {t : TypeId} [h : TStr P t] {s : List UInt8} {k : IntKind} {i : Nat} (hx : ev n f x = .string (bs s)) (hy : ev n f y = .int k i) (hi : i < s.length) : OX P n f (.index t x y) ty w (.int .u8 (s.getD i 0).toNat) w := by
  intro d pos aft g
  have hb : (bs s)[i]? = some (s.getD i 0) := by
    rw [getElem?_pos (bs s) i (by rw [bs_size]; exact hi), getD_at 0 hi]
    rfl
  simp [execOp, Instr.index, hx, hy, asIntOf, run_underlying h.und, hb]
theorem ox_sadd {t1 t2 : TypeId} {s t : List UInt8} (hx : ev n f x = .string (bs s)) (hy : ev n f y = .string (bs t)) (hl : s.length + t.length ≤ 9223372036854775807) : OX P n f (.binOp .add t1 x y t2) ty w (.string (bs (s ++ t))) w := by
  intro d pos aft g
  have hb : bs s ++ bs t = bs (s ++ t) := by
    apply ByteArray.ext
    simp [bs]
  have hc : ¬ ((s.length : Int) + (t.length : Int)) > IntKind.i64.max := by
    show ¬ ((s.length : Int) + (t.length : Int)) > 9223372036854775807
    omega
  simp [execOp, hx, hy, eqGuard, binOp, Op.stringOp, bs_size, hb, hc]
  omega
theorem bs_eq {s t : List UInt8} : ((bs s).toList == (bs t).toList) = decide (s = t) := by
  rw [ByteArray.toList_eq, ByteArray.toList_eq, bs_data, bs_data]
  by_cases h : s = t <;> simp [h]
theorem ox_seql {t1 t2 : TypeId} {s t : List UInt8} (hx : ev n f x = .string (bs s)) (hy : ev n f y = .string (bs t)) : OX P n f (.binOp .eql t1 x y t2) ty w (.bool (decide (s = t))) w := by
  intro d pos aft g
  simp only [execOp, hx, hy, eqGuard, binOp, Op.stringOp, bs_eq]
  simp
theorem ox_sneq {t1 t2 : TypeId} {s t : List UInt8} (hx : ev n f x = .string (bs s)) (hy : ev n f y = .string (bs t)) : OX P n f (.binOp .neq t1 x y t2) ty w (.bool (decide (s ≠ t))) w := by
  intro d pos aft g
  simp only [execOp, hx, hy, eqGuard, binOp, Op.stringOp, bs_eq]
  simp
theorem ox_s2b {t1 t2 e : TypeId} [h1 : TStr P t1] [h2 : TByt P t2 e] {s : List UInt8} (hx : ev n f x = .string (bs s)) : OX P n f (.convert t1 t2 x) ty w (.slice (some ⟨w.heap.size, 0, none⟩) s.length (grownCap w s.length 0 e)) (Go.Lib.bytesWorld w e (bs s)) := by
  intro d pos aft g
  have := Go.Lib.run_convert_string_bytes (P := P) w t1 t2 e (bs s) h1.und h2.und h2.byt
  rw [bs_size] at this
  simp [execOp, hx, this]
end
end Go.Proofs.Ytplhnnlklnbahaa

