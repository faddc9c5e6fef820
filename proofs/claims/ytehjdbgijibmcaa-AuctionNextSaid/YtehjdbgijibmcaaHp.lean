/- Memory of one's own, in pieces. Code is walked over a frame and a list of pieces, above a world that is kept as it was. -/
import Derived.Test.YtehjdbgijibmcaaM3
set_option linter.unusedSimpArgs false
set_option linter.unusedVariables false
namespace Go.Fw
open Go.RowKit

/-- A part of memory. -/
abbrev Part := Nat → Option Obj
def pone (b : Nat) (o : Obj) : Part := fun k => if k = b then some o else none
def pnil : Part := fun _ => none
/-- A piece of memory: one block, these cells; a row of one's own, the slice's array, whose first cells are cs; any other. -/
inductive HP where
  | bx (b : Nat) (t : TypeId) (cs : List Value)
  | row (e : TypeId) (sz : Nat) (A : Option Addr) (m cp : Nat) (cs : List Value)
  | oth (φ : Part → Prop)
abbrev bx := HP.bx
abbrev row := HP.row
def den : HP → Part → Prop
  | .bx b t cs, p => p = pone b (.cells cs.toArray t (0, 0))
  | .row e sz A m cp cs, p => cs.length = m * sz ∧ ((A = none ∧ m = 0 ∧ cp = 0) ∨ ∃ g cur, A = some ⟨g, 0, none⟩ ∧ p = pone g (.cells cur e (0, 0)) ∧ m ≤ cp ∧ cp ≤ maxLen ∧ cur.size = cp * sz ∧ cur.toList.take (m * sz) = cs)
  | .oth φ, p => φ p
theorem pone_at (b : Nat) (o : Obj) : pone b o b = some o := by simp [pone]
theorem pone_ne {b k : Nat} {o : Obj} (h : pone b o k ≠ none) : k = b := by
  unfold pone at h; split at h
  · assumption
  · exact absurd rfl h
/-- The part lies in w, from block lo on. -/
def Inn (p : Part) (w : World) (lo : Nat) : Prop := ∀ k o, p k = some o → lo ≤ k ∧ w.heap[k]? = some o
def Dis (p q : Part) : Prop := ∀ k, p k = none ∨ q k = none
def pjoin (p q : Part) : Part := fun k => match p k with | some o => some o | none => q k
theorem pjoin_none {p q : Part} {k : Nat} : pjoin p q k = none ↔ p k = none ∧ q k = none := by
  unfold pjoin; cases p k <;> simp
theorem Inn.join {p q : Part} {w : World} {lo : Nat} (h : Inn p w lo) (h' : Inn q w lo) : Inn (pjoin p q) w lo := fun k o hk => by
  unfold pjoin at hk
  cases hp : p k with
  | some o' => rw [hp] at hk; injection hk with hk; subst hk; exact h k _ hp
  | none => rw [hp] at hk; exact h' k o hk
theorem Inn.left {p q : Part} {w : World} {lo : Nat} (h : Inn (pjoin p q) w lo) : Inn p w lo := fun k o hk => h k o (by simp [pjoin, hk])
theorem Inn.right {p q : Part} {w : World} {lo : Nat} (h : Inn (pjoin p q) w lo) (hd : Dis p q) : Inn q w lo := fun k o hk => h k o (by
  rcases hd k with h1 | h1
  · simp [pjoin, h1, hk]
  · rw [h1] at hk; cases hk)
theorem Inn.lt {p : Part} {w : World} {lo : Nat} (h : Inn p w lo) {k : Nat} (hk : p k ≠ none) : k < w.heap.size := by
  obtain ⟨o, ho⟩ := Option.ne_none_iff_exists'.1 hk
  exact (Array.getElem?_eq_some_iff.1 (h k o ho).2).1
theorem Inn.ext {p : Part} {w w' : World} {lo : Nat} (h : Inn p w lo) (he : Ext w w') : Inn p w' lo := fun k o hk => ⟨(h k o hk).1, he.heap (h k o hk).2⟩
theorem Inn.mono {p : Part} {w : World} {lo lo' : Nat} (h : Inn p w lo) (hl : lo' ≤ lo) : Inn p w lo' := fun k o hk => ⟨Nat.le_trans hl (h k o hk).1, (h k o hk).2⟩

/-- The pieces lie side by side. -/
def Sat : List HP → Part → Prop
  | [], _ => True
  | X :: H, p => ∃ p1 p2, den X p1 ∧ Sat H p2 ∧ Dis p1 p2 ∧ p = pjoin p1 p2
/-- w is w0, as it was, and the pieces H above it. -/
def Wd (w0 : World) (H : List HP) (w : World) : Prop := Ext w0 w ∧ ∃ p, Sat H p ∧ Inn p w w0.heap.size
theorem Wd.ext {w0 w : World} {H : List HP} (h : Wd w0 H w) : Ext w0 w := h.1
theorem Wd.refl (w : World) : Wd w [] w := ⟨Ext.refl w, pnil, trivial, fun _ _ h => by simp [pnil] at h⟩
theorem Wd.of_ext {w0 w : World} (h : Ext w0 w) : Wd w0 [] w := ⟨h, pnil, trivial, fun _ _ h => by simp [pnil] at h⟩
/-- Above an older world. -/
theorem Wd.rise {w0 w1 w : World} {H : List HP} (h : Wd w1 H w) (he : Ext w0 w1) : Wd w0 H w :=
  let ⟨h1, p, h2, h3⟩ := h; ⟨he.trans h1, p, h2, h3.mono he.size⟩
theorem Wd.step {w0 w w' : World} {H : List HP} (h : Wd w0 H w) (he : Ext w w') : Wd w0 H w' :=
  let ⟨h1, p, h2, h3⟩ := h; ⟨h1.trans he, p, h2, h3.ext he⟩
/-- The first piece is opened. -/
theorem Wd.open_ {w0 w : World} {X : HP} {H : List HP} (h : Wd w0 (X :: H) w) : ∃ p q, den X p ∧ Sat H q ∧ Dis p q ∧ Inn p w w0.heap.size ∧ Inn q w w0.heap.size := by
  obtain ⟨_, p, ⟨p1, p2, h1, h2, hd, rfl⟩, hi⟩ := h
  exact ⟨p1, p2, h1, h2, hd, hi.left, hi.right hd⟩
theorem Wd.drop {w0 w : World} {X : HP} {H : List HP} (h : Wd w0 (X :: H) w) : Wd w0 H w := by
  obtain ⟨p, q, _, h2, _, _, h3⟩ := h.open_
  exact ⟨h.1, q, h2, h3⟩
theorem Wd.close {w0 w : World} {X : HP} {H : List HP} (he : Ext w0 w) {p q : Part} (h1 : den X p) (h2 : Sat H q) (hd : Dis p q) (hp : Inn p w w0.heap.size) (hq : Inn q w w0.heap.size) : Wd w0 (X :: H) w :=
  ⟨he, pjoin p q, ⟨p, q, h1, h2, hd, rfl⟩, hp.join hq⟩
/-- One piece is changed: block row alone is written, which is that piece's; what is new is new. -/
theorem Wd.change {w0 w w1 : World} {X X' : HP} {H : List HP} (h : Wd w0 (X :: H) w)
    (hx : ∀ p, den X p → Inn p w w0.heap.size → ∃ row p', w.grownBy w1 row ∧ (∀ k, row = some k → p k ≠ none) ∧ den X' p' ∧ (∀ k o, p' k = some o → w1.heap[k]? = some o ∧ (p k ≠ none ∨ w.heap.size ≤ k))) : Wd w0 (X' :: H) w1 := by
  obtain ⟨p, q, h1, h2, hd, hp, hq⟩ := h.open_
  obtain ⟨row, p', hg, hr, hx', hn⟩ := hx p h1 hp
  have he : Ext w0 w1 := h.1.grown hg fun k hk => by
    obtain ⟨o, ho⟩ := Option.ne_none_iff_exists'.1 (hr k hk)
    exact (hp k o ho).1
  refine Wd.close he hx' h2 (fun k => ?_) (fun k o hk => ⟨?_, (hn k o hk).1⟩) (fun k o hk => ⟨(hq k o hk).1, ?_⟩)
  · cases hk : p' k with
    | none => exact .inl rfl
    | some o =>
      refine .inr ?_
      rcases (hn k o hk).2 with h' | h'
      · exact (hd k).resolve_left h'
      · cases hqk : q k with
        | none => rfl
        | some o' => have := hq.lt (k := k) (by rw [hqk]; simp); omega
  · rcases (hn k o hk).2 with h' | h'
    · obtain ⟨o', ho'⟩ := Option.ne_none_iff_exists'.1 h'
      exact (hp k o' ho').1
    · exact Nat.le_trans h.1.size h'
  · have hlt := hq.lt (k := k) (by rw [hk]; simp)
    rw [hg.block k hlt (fun e => ?_)]
    · exact (hq k o hk).2
    · have := hr k e.symm
      rcases hd k with h' | h'
      · exact this h'
      · rw [h'] at hk; cases hk
/-- A piece is added. -/
theorem Wd.add {w0 w w1 : World} {X : HP} {H : List HP} (h : Wd w0 H w) {row : Option Nat} (hg : w.grownBy w1 row) (hr : row = none) {p : Part} (hx : den X p) (hp : ∀ k o, p k = some o → w1.heap[k]? = some o ∧ w.heap.size ≤ k) : Wd w0 (X :: H) w1 := by
  subst hr
  obtain ⟨h0, q, h2, hq⟩ := h
  have he := Ext.grown0 hg
  refine Wd.close (h0.trans he) hx h2 (fun k => ?_) (fun k o hk => ⟨Nat.le_trans h0.size (hp k o hk).2, (hp k o hk).1⟩) (hq.ext he)
  cases hk : p k with
  | none => exact .inl rfl
  | some o =>
    refine .inr ?_
    cases hqk : q k with
    | none => rfl
    | some o' => have := hq.lt (k := k) (by rw [hqk]; simp); have := (hp k o hk).2; omega
theorem Ext.trans_put {w0 w : World} (h : Ext w0 w) {b : Nat} (hb : w0.heap.size ≤ b) (o : Obj) : Ext w0 (w.putObj b o) :=
  ⟨show w.os = w0.os from Below.os h, show w.tape = w0.tape from Below.tape h, show w.output = w0.output from Below.output h, by rw [World.putObj_size]; exact h.size, fun k hk => by rw [World.putObj_heap_other (by omega)]; exact Below.block h k hk⟩
/-- A block that no piece holds is put in anew. -/
theorem Wd.off {w0 w : World} {H : List HP} {p : Part} {b : Nat} {o : Obj} (he : Ext w0 w) (h2 : Sat H p) (hp : Inn p w w0.heap.size) (hb : w0.heap.size ≤ b) (hn : ∀ o, p b ≠ some o) : Wd w0 H (w.putObj b o) :=
  ⟨he.trans_put hb o, p, h2, fun k o' hk => ⟨(hp k o' hk).1, by
    have : k ≠ b := fun e => by subst e; exact hn _ hk
    rw [World.putObj_heap_other this]; exact (hp k o' hk).2⟩⟩
theorem sat_append : ∀ {H1 H2 : List HP} {p q : Part}, Sat H1 p → Sat H2 q → Dis p q → ∃ r, Sat (H1 ++ H2) r ∧ ∀ k o, r k = some o → p k = some o ∨ q k = some o
  | [], H2, p, q, _, h2, _ => ⟨q, h2, fun _ _ h => .inr h⟩
  | X :: H1, H2, p, q, ⟨p1, p2, hx, hs, hd1, hp⟩, h2, hd => by
    subst hp
    have hd2 : Dis p2 q := fun k => by
      rcases hd k with h | h
      · exact .inl (pjoin_none.1 h).2
      · exact .inr h
    obtain ⟨r, hr, hk⟩ := sat_append hs h2 hd2
    refine ⟨pjoin p1 r, ⟨p1, r, hx, hr, fun k => ?_, rfl⟩, fun k o ho => ?_⟩
    · cases hrk : r k with
      | none => exact .inr rfl
      | some o =>
        refine .inl ?_
        rcases hk k o hrk with h | h
        · rcases hd1 k with h' | h'
          · exact h'
          · rw [h'] at h; cases h
        · rcases hd k with h' | h'
          · exact (pjoin_none.1 h').1
          · rw [h'] at h; cases h
    · unfold pjoin at ho ⊢
      cases h1 : p1 k with
      | some o' => rw [h1] at ho; exact .inl ho
      | none =>
        rw [h1] at ho
        rcases hk k o ho with h | h
        · exact .inl h
        · exact .inr h
theorem Wd.over {w0 w w' : World} {H H' : List HP} (h : Wd w0 H w) (h' : Wd w H' w') : Wd w0 (H' ++ H) w' := by
  obtain ⟨he, q, h2, hq⟩ := h
  obtain ⟨he', p, h1, hp⟩ := h'
  obtain ⟨r, hr, hk⟩ := sat_append (p := p) (q := q) h1 h2 (fun k => by
    cases hpk : p k with
    | none => exact .inl rfl
    | some o =>
      refine .inr ?_
      cases hqk : q k with
      | none => rfl
      | some o' => have := hq.lt (k := k) (by rw [hqk]; simp); have := (hp k o hpk).1; omega)
  refine ⟨he.trans he', r, hr, fun k o ho => ?_⟩
  rcases hk k o ho with h | h
  · exact ⟨Nat.le_trans he.size (hp k o h).1, (hp k o h).2⟩
  · exact (hq.ext he') k o h

/-! one piece of the list is brought to the front -/
inductive Split : List HP → HP → List HP → Prop where
  | head {X : HP} {R : List HP} : Split (X :: R) X R
  | tail {X Y : HP} {R R' : List HP} (h : Split R X R') : Split (Y :: R) X (Y :: R')
theorem Split.sat {H R : List HP} {X : HP} (h : Split H X R) : ∀ {p : Part}, Sat H p → Sat (X :: R) p := by
  induction h with
  | head => exact fun h => h
  | @tail X Y R R' _ ih =>
    rintro p ⟨p1, p2, hy, hs, hd, rfl⟩
    obtain ⟨q1, q2, hx, hs', hd', rfl⟩ := ih hs
    refine ⟨q1, pjoin p1 q2, hx, ⟨p1, q2, hy, hs', fun k => ?_, rfl⟩, fun k => ?_, ?_⟩
    · rcases hd k with h | h
      · exact .inl h
      · exact .inr (pjoin_none.1 h).2
    · rcases hd k with h | h
      · rcases hd' k with h' | h'
        · exact .inl h'
        · exact .inr (pjoin_none.2 ⟨h, h'⟩)
      · exact .inl (pjoin_none.1 h).1
    · funext k
      unfold pjoin
      rcases hd k with h | h
      · rw [h]
      · have h1 := (pjoin_none.1 h).1
        rw [h1]
theorem Split.wd {H R : List HP} {X : HP} {w0 w : World} (h : Split H X R) (hw : Wd w0 H w) : Wd w0 (X :: R) w :=
  let ⟨h1, p, h2, h3⟩ := hw; ⟨h1, p, h.sat h2, h3⟩
/-- What H is, G is too, with something left over, it may be. -/
structure Ent (H G : List HP) : Prop where
  out : ∀ p, Sat H p → ∃ q, Sat G q ∧ ∀ k o, q k = some o → p k = some o
theorem ent_refl (H : List HP) : Ent H H := ⟨fun p h => ⟨p, h, fun _ _ h => h⟩⟩
theorem ent_nil (H : List HP) : Ent H [] := ⟨fun _ _ => ⟨pnil, trivial, fun _ _ h => by simp [pnil] at h⟩⟩
theorem ent_imp {X Y : HP} {H : List HP} (h : ∀ p, den X p → den Y p) : Ent (X :: H) (Y :: H) := ⟨fun p hp => ⟨p, let ⟨p1, p2, hx, r⟩ := hp; ⟨p1, p2, h _ hx, r⟩, fun _ _ h => h⟩⟩
theorem Ent.trans {A B C : List HP} (h : Ent A B) (k : Ent B C) : Ent A C := ⟨fun p hp =>
  let ⟨q, hq, h1⟩ := h.out p hp
  let ⟨r, hr, h2⟩ := k.out q hq
  ⟨r, hr, fun k o ho => h1 k o (h2 k o ho)⟩⟩
theorem ent_cons {H R G : List HP} {X : HP} (h : Split H X R) (hg : Ent R G) : Ent H (X :: G) := by
  refine ⟨fun p hp => ?_⟩
  obtain ⟨p1, p2, hx, hs, hd, rfl⟩ := h.sat hp
  obtain ⟨q, hq, hk⟩ := hg.out p2 hs
  refine ⟨pjoin p1 q, ⟨p1, q, hx, hq, fun k => ?_, rfl⟩, fun k o ho => ?_⟩
  · cases hqk : q k with
    | none => exact .inr rfl
    | some o =>
      have := hk k o hqk
      rcases hd k with h' | h'
      · exact .inl h'
      · rw [h'] at this; cases this
  · unfold pjoin at ho ⊢
    cases h1 : p1 k with
    | some o' => rw [h1] at ho; exact ho
    | none => rw [h1] at ho; exact hk k o ho
theorem ent_drop {X : HP} {R G : List HP} (h : Ent R G) : Ent (X :: R) G := ⟨fun p ⟨p1, p2, _, hs, hd, hp⟩ => by
  subst hp
  obtain ⟨q, hq, hk⟩ := h.out p2 hs
  refine ⟨q, hq, fun k o ho => ?_⟩
  have := hk k o ho
  rcases hd k with h' | h'
  · simp [pjoin, h', this]
  · rw [h'] at this; cases this⟩
theorem Ent.wd {H G : List HP} (h : Ent H G) {w0 w : World} (hw : Wd w0 H w) : Wd w0 G w :=
  let ⟨h1, p, h2, h3⟩ := hw
  let ⟨q, hq, hk⟩ := h.out p h2
  ⟨h1, q, hq, fun k o ho => h3 k o (hk k o ho)⟩

/-! data that lie flat: a row of cells each -/
class Flat (α : Type) where
  sz : Nat
  enc : α → List Value
  dflt : α
  len : ∀ x, (enc x).length = sz
  one : ∀ x, ∀ v ∈ enc x, v.oneCell' = true
  pos : 0 < sz
instance : Flat Int := ⟨1, fun x => [.int .i64 x], 0, fun _ => rfl, fun x v hv => by simp at hv; subst hv; rfl, by omega⟩
instance : Flat Bool := ⟨1, fun x => [.bool x], false, fun _ => rfl, fun x v hv => by simp at hv; subst hv; rfl, by omega⟩
def encs {α : Type} [Flat α] (l : List α) : List Value := l.flatMap Flat.enc
section
variable {α : Type} [Flat α]
theorem encs_nil : encs ([] : List α) = [] := rfl
theorem encs_cons (x : α) (l : List α) : encs (x :: l) = Flat.enc x ++ encs l := rfl
theorem encs_append (l m : List α) : encs (l ++ m) = encs l ++ encs m := List.flatMap_append
theorem encs_len (l : List α) : (encs l).length = l.length * Flat.sz α := by
  induction l with
  | nil => simp [encs]
  | cons x l ih => rw [encs_cons, List.length_append, ih, Flat.len, List.length_cons, Nat.succ_mul]; omega
theorem encs_one (l : List α) : ∀ v ∈ encs l, v.oneCell' = true := by
  intro v hv
  obtain ⟨x, _, h⟩ := List.mem_flatMap.1 hv
  exact Flat.one x v h
theorem encs_get {l : List α} {k : Nat} (hk : k < l.length) {j : Nat} {u : Value} (hj : (Flat.enc (l.getD k Flat.dflt))[j]? = some u) : (encs l)[k * Flat.sz α + j]? = some u := by
  induction l generalizing k with
  | nil => simp at hk
  | cons x l ih =>
    rw [encs_cons]
    cases k with
    | zero =>
      simp only [List.getD_cons_zero] at hj
      rw [Nat.zero_mul, Nat.zero_add, List.getElem?_append_left (List.getElem?_eq_some_iff.1 hj).1]; exact hj
    | succ k =>
      simp only [List.getD_cons_succ] at hj
      rw [List.getElem?_append_right (by rw [Flat.len, Nat.succ_mul]; omega), Flat.len]
      have e : (k + 1) * Flat.sz α + j - Flat.sz α = k * Flat.sz α + j := by rw [Nat.succ_mul]; omega
      rw [e]; exact ih (by simpa using hk) hj
theorem encs_take (l : List α) (k : Nat) : (encs l).take (k * Flat.sz α) = encs (l.take k) := by
  induction l generalizing k with
  | nil => simp [encs]
  | cons x l ih =>
    cases k with
    | zero => simp [encs]
    | succ k =>
      rw [List.take_succ_cons, encs_cons, encs_cons, ← ih, List.take_append, Flat.len, Nat.succ_mul, Nat.add_sub_cancel, List.take_of_length_le (by rw [Flat.len]; omega)]
theorem encs_drop (l : List α) (k : Nat) : (encs l).drop (k * Flat.sz α) = encs (l.drop k) := by
  induction l generalizing k with
  | nil => simp [encs]
  | cons x l ih =>
    cases k with
    | zero => simp [encs]
    | succ k =>
      rw [List.drop_succ_cons, encs_cons, ← ih, List.drop_append, Flat.len, Nat.succ_mul, Nat.add_sub_cancel, List.drop_of_length_le (by rw [Flat.len]; omega), List.nil_append]
/-- Element i is put in anew: its cells are. -/
theorem encs_set {l : List α} {i : Nat} (hi : i < l.length) (x : α) : (encs l).take (i * Flat.sz α) ++ Flat.enc x ++ (encs l).drop (i * Flat.sz α + Flat.sz α) = encs (l.set i x) := by
  rw [encs_take, ← Nat.succ_mul, encs_drop, List.set_eq_take_append_cons_drop, if_pos hi, encs_append, encs_cons, List.append_assoc]
end
/-- The slice at A reads as l. -/
def Rd {α : Type} [Flat α] (w : World) (A : Option Addr) (l : List α) : Prop := Src w A (encs l)
theorem Src.ext {w w' : World} {A : Option Addr} {cs : List Value} (h : Src w A cs) (he : Ext w w') : Src w' A cs := fun j u hj => ⟨(h j u hj).1, he.cell (h j u hj).2⟩
section
variable {α : Type} [Flat α] {w w' : World} {A : Option Addr} {l : List α}
theorem Rd.ext (h : Rd w A l) (he : Ext w w') : Rd w' A l := Src.ext h he
theorem Rd.nil (w : World) (A : Option Addr) : Rd w A ([] : List α) := fun j u hj => by simp [encs] at hj
theorem Rd.none (h : Rd w none l) : l = [] := by
  cases l with
  | nil => rfl
  | cons x l =>
    have hp := Flat.pos (α := α)
    have hl := Flat.len x
    have := (h 0 ((encs (x :: l))[0]'(by rw [encs_len, List.length_cons, Nat.succ_mul]; omega)) (by simp)).1
    simp at this
theorem Rd.take (h : Rd w A l) (k : Nat) : Rd w A (l.take k) := fun j u hj => by
  rw [← encs_take] at hj
  rw [List.getElem?_take] at hj
  split at hj
  · exact h j u hj
  · cases hj
end
/-! pieces -/
def orow {α : Type} [Flat α] (e : TypeId) (A : Option Addr) (cp : Nat) (l : List α) : HP := row e (Flat.sz α) A l.length cp (encs l)
theorem row_own {e : TypeId} {sz : Nat} {A : Option Addr} {m cp : Nat} {cs : List Value} {p : Part} {w : World} {lo : Nat} (h : den (row e sz A m cp cs) p) (hi : Inn p w lo) : Own w lo e sz A m cp cs := by
  refine ⟨h.1, ?_⟩
  rcases h.2 with ⟨rfl, rfl, rfl⟩ | ⟨g, cur, rfl, rfl, h1, h2, h3, h4⟩
  · exact .inl ⟨rfl, rfl⟩
  · have := hi g _ (pone_at _ _)
    exact .inr ⟨g, cp, cur, rfl, this.1, this.2, h1, h2, h3, h4⟩
theorem own_row {e : TypeId} {sz : Nat} {A : Option Addr} {m cp : Nat} {cs : List Value} {w : World} {lo : Nat} (h : Own w lo e sz A m cp cs) :
    ∃ p, den (row e sz A m cp cs) p ∧ Inn p w lo ∧ ∀ k, p k ≠ none → blk A = some k := by
  rcases h.2 with ⟨hv, hm⟩ | ⟨g, cap, cur, hv, hg, hh, h1, h2, h3, h4⟩
  · injection hv with hA _ hc
    subst hA hc
    exact ⟨pnil, ⟨h.1, .inl ⟨rfl, hm, rfl⟩⟩, fun _ _ h => by simp [pnil] at h, fun _ h => absurd rfl h⟩
  · injection hv with hA _ hc
    subst hA hc
    refine ⟨pone g (.cells cur e (0, 0)), ⟨h.1, .inr ⟨g, cur, rfl, rfl, h1, h2, h3, h4⟩⟩, fun k o ho => ?_, fun k hk => by rw [pone_ne hk]; rfl⟩
    have := pone_ne (k := k) (by rw [ho]; simp)
    subst this
    rw [pone_at] at ho
    injection ho with ho
    subst ho
    exact ⟨hg, hh⟩
theorem row_blk {e : TypeId} {sz : Nat} {A : Option Addr} {m cp : Nat} {cs : List Value} {p : Part} (h : den (row e sz A m cp cs) p) {k : Nat} (hk : blk A = some k) : p k ≠ none := by
  rcases h.2 with ⟨rfl, _⟩ | ⟨g, cur, rfl, rfl, _⟩
  · cases hk
  · simp [blk] at hk; subst hk; rw [pone_at]; simp
section
variable {w0 w w1 : World} {H R : List HP} {e : TypeId} {sz : Nat} {A A' : Option Addr} {m cp m' cp' : Nat} {cs cs' : List Value}
theorem Wd.own (h : Wd w0 H w) (hs : Split H (row e sz A m cp cs) R) : Own w w0.heap.size e sz A m cp cs := by
  obtain ⟨p, q, hx, _, _, hp, _⟩ := (hs.wd h).open_
  exact row_own hx hp
theorem Wd.rd {α : Type} [Flat α] {l : List α} (h : Wd w0 H w) (hs : Split H (orow e A cp l) R) : Rd w A l := src_own (h.own hs)
/-- The row is written, or laid anew. -/
theorem Wd.row (h : Wd w0 H w) (hs : Split H (row e sz A m cp cs) R) (hg : w.grownBy w1 (blk A)) (ho : Own w1 w0.heap.size e sz A' m' cp' cs') (hn : ∀ k, blk A' = some k → blk A = some k ∨ w.heap.size ≤ k) :
    Wd w0 (Go.Fw.row e sz A' m' cp' cs' :: R) w1 :=
  (hs.wd h).change fun p hx hi => by
    obtain ⟨p', h1, h2, h3⟩ := own_row ho
    refine ⟨blk A, p', hg, fun k hk => row_blk hx hk, h1, fun k o hk => ⟨(h2 k o hk).2, ?_⟩⟩
    rcases hn k (h3 k (by rw [hk]; simp)) with h' | h'
    · exact .inl (row_blk hx h')
    · exact .inr h'
theorem Wd.new {b : Nat} {t : TypeId} {cs : List Value} (h : Wd w0 H w) (hn : New w w1 b (.cells cs.toArray t (0, 0))) : Wd w0 (bx b t cs :: H) w1 :=
  h.add (row := none) (hn.ext.grownBy _) rfl (X := bx b t cs) (p := pone b _) rfl fun k o hk => by
    have := pone_ne (k := k) (by rw [hk]; simp)
    subst this
    rw [pone_at] at hk
    injection hk with hk
    subst hk
    exact ⟨hn.at_, Nat.le_of_eq hn.num.symm⟩
theorem Wd.newRow (h : Wd w0 H w) (he : Ext w w1) (ho : Own w1 w.heap.size e sz A m cp cs) : Wd w0 (Go.Fw.row e sz A m cp cs :: H) w1 := by
  obtain ⟨p', h1, h2, h3⟩ := own_row ho
  exact h.add (row := none) (he.grownBy _) rfl h1 fun k o hk => ⟨(h2 k o hk).2, (h2 k o hk).1⟩
theorem Wd.box {b : Nat} {t : TypeId} (h : Wd w0 H w) (hs : Split H (bx b t cs) R) : w.heap[b]? = some (.cells cs.toArray t (0, 0)) ∧ w0.heap.size ≤ b := by
  obtain ⟨p, q, hx, _, _, hp, _⟩ := (hs.wd h).open_
  have hx : p = _ := hx
  subst hx
  exact ⟨(hp b _ (pone_at _ _)).2, (hp b _ (pone_at _ _)).1⟩
theorem Wd.cell {b off : Nat} {t : TypeId} {v : Value} (h : Wd w0 H w) (hs : Split H (bx b t cs) R) (hv : cs[off]? = some v) : w.cell? ⟨b, off, none⟩ = some v :=
  cellB (h.box hs).1 (by simpa using hv)
theorem Wd.setBox {b : Nat} {t : TypeId} (h : Wd w0 H w) (hs : Split H (bx b t cs) R) (hw : Wrt w w1 b) (hb : w1.heap[b]? = some (.cells cs'.toArray t (0, 0))) : Wd w0 (bx b t cs' :: R) w1 :=
  (hs.wd h).change fun p hx hi => by
    have hx : p = _ := hx
    subst hx
    refine ⟨some b, pone b _, hw.grown, fun k hk => ?_, rfl, fun k o hk => ?_⟩
    · injection hk with hk; subst hk; rw [pone_at]; simp
    · have := pone_ne (k := k) (by rw [hk]; simp)
      subst this
      rw [pone_at] at hk
      injection hk with hk
      subst hk
      exact ⟨hb, .inl (by rw [pone_at]; simp)⟩
end
end Go.Fw
