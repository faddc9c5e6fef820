/- Layer 15 (store): what the changes make. Plain Lean, and pieces of memory. -/
import Derived.Test.YtfodpcpclmnbkaaDoorZSk
set_option linter.unusedSimpArgs false
set_option linter.unusedVariables false
namespace Go.Proofs.YtfodpcpclmnbkaaDoor
open Go.Fw Go.RowKit
section
variable {α : Type} {key : α → Int} {l m : List α} {c : α} {k : Int}
/-- The element that has a key. -/
def fnd (key : α → Int) (k : Int) (l : List α) : Option α := l.find? fun x => decide (key x = k)
theorem fnd_some {x : α} (h : fnd key k l = some x) : x ∈ l ∧ key x = k := ⟨List.mem_of_find?_eq_some h, by have := List.find?_some h; simpa using this⟩
theorem fnd_none (h : fnd key k l = none) : ∀ x ∈ l, key x ≠ k := fun x hx => by
  have := List.find?_eq_none.1 h x hx
  simpa using this
theorem fnd_ins (h : Rising key l) : fnd key k (insK key c l) = if k = key c then some c else fnd key k l := by
  by_cases hk : k = key c
  · rw [if_pos hk]
    exact (find_key (rising_insK h)).2 ⟨mem_insK.2 (.inl rfl), hk.symm⟩
  · rw [if_neg hk]
    cases hf : fnd key k l with
    | some x =>
      obtain ⟨h1, h2⟩ := fnd_some hf
      exact (find_key (rising_insK h)).2 ⟨mem_insK.2 (.inr ⟨h1, by omega⟩), h2⟩
    | none =>
      have h0 := fnd_none hf
      refine List.find?_eq_none.2 fun x hx => ?_
      rcases mem_insK.1 hx with rfl | ⟨h1, _⟩
      · simp; omega
      · have := h0 x h1; simpa using this
theorem fnd_del {k' : Int} : fnd key k (l.filter fun x => decide (key x ≠ k')) = if k = k' then none else fnd key k l := by
  unfold fnd
  rw [List.find?_filter]
  by_cases hk : k = k'
  · rw [if_pos hk, List.find?_eq_none]
    intro x _
    simp; omega
  · rw [if_neg hk]
    congr 1
    funext x
    by_cases hx : key x = k
    · have : key x ≠ k' := by omega
      simp [hx]; omega
    · simp [hx]
theorem fnd_ext (hl : Rising key l) (hm : Rising key m) (h : ∀ k, fnd key k l = fnd key k m) : l = m := rising_ext hl hm fun x => ⟨fun hx => by
    have h1 := h (key x)
    rw [show fnd key (key x) l = some x from (find_key hl).2 ⟨hx, rfl⟩] at h1
    exact (fnd_some h1.symm).1, fun hx => by
    have h1 := h (key x)
    rw [show fnd key (key x) m = some x from (find_key hm).2 ⟨hx, rfl⟩] at h1
    exact (fnd_some h1).1⟩
end
def setE (c : Comp) (e : Ent1) : Ent1 := ⟨e.id, insK kindC c e.comps⟩
def unsE (k : Int) (e : Ent1) : Ent1 := ⟨e.id, e.comps.filter fun c => decide (kindC c ≠ k)⟩
def setL (id : Int) (c : Comp) (es : List Ent1) : List Ent1 := match thg id es with | some x => insK Ent1.id (setE c x) es | none => es
def unsL (id k : Int) (es : List Ent1) : List Ent1 := match thg id es with | some x => insK Ent1.id (unsE k x) es | none => es
def addL (e : Ent1) (es : List Ent1) : List Ent1 := insK Ent1.id e es
def remL (id : Int) (es : List Ent1) : List Ent1 := es.filter fun e => decide (e.id ≠ id)
def setErr (t id : Int) (c : Comp) (es : List Ent1) : Int := if ValidW t es ∧ Fits c then (if (thg id es).isSome then 0 else 6) else 2
def unsErr (t id k : Int) (es : List Ent1) : Int := if ValidW t es then (if (getM t id k es).isSome then 0 else 6) else 2
def addErr (t : Int) (e : Ent1) (es : List Ent1) : Int := if ValidW t es ∧ RightE e then (if (thg e.id es).isSome then 2 else if 64 ≤ es.length then 4 else 0) else 2
def remErr (t id : Int) (es : List Ent1) : Int := if ValidW t es then (if (thg id es).isSome then 0 else 6) else 2
/-- What a change gives: a new world in memory of its own, or none. -/
def ChgR (t : Int) (es : List Ent1) (er : Int) (v : Value) (H : List HP) : Prop := ∃ A c L, v = .tuple #[wv (if er = 0 then t else 0) A L c, .int .i64 er] ∧ L.map EntP.e = (if er = 0 then es else []) ∧ H = [orow 32 A c L, allH (L.map rowOf)]
theorem ids_get {L : List EntP} {i : Nat} (h : i < L.length) : (L.map idE).getD i 0 = idE (L.getD i Flat.dflt) := by
  simp [List.getD_eq_getElem?_getD, h]
/-- Where a key lies is told by the keys alone. -/
theorem ids_lb {l L : List EntP} (h : L.map EntP.e = ents l) (k : Int) : lbK idE k L = lbK idE k l ∧ hasK idE k L = hasK idE k l := by
  have hi : L.map idE = l.map idE := by
    have := congrArg (List.map Ent1.id) h
    unfold ents at this
    rw [List.map_map, List.map_map] at this
    exact this
  have hl : L.length = l.length := by
    have := congrArg List.length hi
    simpa using this
  have hlb : ∀ M : List EntP, lbK idE k M = ((M.map idE).takeWhile fun x => decide (x < k)).length := fun M => by
    unfold lbK
    rw [List.takeWhile_map, List.length_map]; rfl
  have e : lbK idE k L = lbK idE k l := by rw [hlb, hlb, hi]
  refine ⟨e, ?_⟩
  unfold hasK
  rw [e, hl]
  by_cases hlt : lbK idE k l < l.length
  · rw [← ids_get (L := L) (by omega), ← ids_get hlt, hi]
  · rw [decide_eq_false hlt, Bool.false_and, Bool.false_and]
theorem rising_of_ents {l L : List EntP} (h : L.map EntP.e = ents l) (hr : Rising Ent1.id (ents l)) : Rising idE L := by
  rw [← h] at hr
  exact (rising_ents L).1 hr
theorem insK_map {L : List EntP} {y : EntP} : (insK idE y L).map EntP.e = insK Ent1.id y.e (L.map EntP.e) := by
  unfold insK
  rw [List.map_append, List.map_cons, List.filter_map, List.filter_map]; rfl
theorem set_ents {l L : List EntP} {k : Int} {y : EntP} (h : L.map EntP.e = ents l) (hr : Rising Ent1.id (ents l)) (hb : hasK idE k l = true) (hy : y.e.id = k) : (L.set (lbK idE k l) y).map EntP.e = insK Ent1.id y.e (ents l) := by
  obtain ⟨h1, h2⟩ := ids_lb h k
  have := ins_set (c := y) (rising_of_ents h hr) (by rw [show idE y = k from hy, h2]; exact hb)
  rw [show idE y = k from hy, h1] at this
  rw [this, insK_map, h]
theorem new_ents {l L : List EntP} {y : EntP} (h : L.map EntP.e = ents l) (hr : Rising Ent1.id (ents l)) (hb : hasK idE y.e.id l = false) : (L.take (lbK idE y.e.id l) ++ y :: L.drop (lbK idE y.e.id l)).map EntP.e = insK Ent1.id y.e (ents l) := by
  obtain ⟨h1, h2⟩ := ids_lb h y.e.id
  have := ins_new (c := y) (rising_of_ents h hr) (by rw [show idE y = y.e.id from rfl, h2]; exact hb)
  rw [show idE y = y.e.id from rfl, h1] at this
  rw [this, insK_map, h]
theorem del_ents {l L : List EntP} {k : Int} (h : L.map EntP.e = ents l) (hr : Rising Ent1.id (ents l)) (hb : hasK idE k l = true) : (L.eraseIdx (lbK idE k l)).map EntP.e = remL k (ents l) := by
  obtain ⟨h1, h2⟩ := ids_lb h k
  have := del_lb (rising_of_ents h hr) (by rw [h2]; exact hb)
  rw [h1] at this
  rw [this]
  unfold remL
  rw [← h, List.filter_map]; rfl
theorem thg_l {l L : List EntP} {k : Int} (h : L.map EntP.e = ents l) (hr : Rising Ent1.id (ents l)) (hb : hasK idE k l = true) : lbK idE k l < L.length ∧ (L.getD (lbK idE k l) Flat.dflt).e.id = k ∧ thg k (ents l) = some (L.getD (lbK idE k l) Flat.dflt).e := by
  obtain ⟨h1, h2⟩ := ids_lb h k
  have hb' : hasK idE k L = true := by rw [h2]; exact hb
  obtain ⟨h3, h4⟩ := has_lt hb'
  have := thg_find (rising_of_ents h hr) k
  rw [if_pos hb', show ents L = ents l from h] at this
  rw [h1] at h3 h4 this
  exact ⟨h3, h4, this⟩
theorem encs_same {α : Type} [F : Flat α] {l : List α} {i : Nat} {x : α} (h : i < l.length) (hx : F.enc x = F.enc (l.getD i F.dflt)) : encs (l.set i x) = encs l := by
  unfold encs
  induction l generalizing i with
  | nil => simp at h
  | cons y l ih =>
    cases i with
    | zero => simpa [List.flatMap_cons] using hx
    | succ i => simp [List.flatMap_cons] at *; exact ih h hx
theorem orow_same {α : Type} [F : Flat α] {e : TypeId} {A : Option Addr} {c i : Nat} {l : List α} {x : α} (h : i < l.length) (hx : F.enc x = F.enc (l.getD i F.dflt)) : orow e A c (l.set i x) = orow e A c l := by
  unfold orow
  rw [encs_same h hx, List.length_set]
theorem ent_all_ins {ι : Type} {f : ι → HP} {x : ι} {G : List HP} : ∀ (L : List ι) (i : Nat), Ent (f x :: allH (L.map f) :: G) (allH ((L.take i ++ x :: L.drop i).map f) :: G)
  | L, 0 => ent_all_cons
  | [], i + 1 => by simp only [List.take_nil, List.drop_nil, List.nil_append]; exact ent_all_cons
  | y :: L, i + 1 => by
    simp only [List.take_succ_cons, List.drop_succ_cons, List.cons_append, List.map_cons]
    have h1 : Ent (f x :: allH (f y :: L.map f) :: G) (f y :: f x :: allH (L.map f) :: G) := (ent_cons Split.head ent_all_uncons).trans (ent_cons (Split.tail Split.head) (ent_refl _))
    exact h1.trans ((ent_cons Split.head (ent_all_ins L i)).trans ent_all_cons)
end Go.Proofs.YtfodpcpclmnbkaaDoor
