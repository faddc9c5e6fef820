/- Layer 36 (party): the reference's ways of saying it. Plain Lean. -/
import Derived.Test.YtlfbcoohfnoacaaZUi
set_option linter.unusedSimpArgs false
set_option linter.unusedVariables false
namespace Go.Proofs.Ytlfbcoohfnoacaa
open Go.Fw Go.RowKit
/-- The reference's 'kept'. -/
def keptR (tick who only : Int) (ps : List Pty) : List Pty := uninvM (fun p i => !(decide (tick < i.till) && !(decide (i.who = who) && (decide (only = 0) || decide (only = p.id))))) ps
theorem uninv_congr {f g : Pty → Inv → Bool} {ps : List Pty} (h : ∀ p ∈ ps, ∀ i ∈ p.inv, f p i = g p i) : uninvM f ps = uninvM g ps := by
  unfold uninvM
  refine List.map_congr_left fun p hp => ?_
  congr 1
  exact List.filter_congr fun i hi => by rw [h p hp i hi]
/-- The reference's Advance: nobody has the number 0. -/
theorem kept_adv {h : Hal} (hv : VHal h) (t : Int) : keptR t 0 0 h.ps = uninvM (fun _ i => decide (i.till ≤ t)) h.ps := by
  refine uninv_congr fun p hp i hi => ?_
  have h1 := ((hv.ok p hp).2.2.2.2.2.1 i hi).1
  have h2 : ¬ i.who = 0 := by omega
  by_cases h3 : i.till ≤ t
  · have : ¬ t < i.till := by omega
    simp [h3, this]
  · have : t < i.till := by omega
    simp [h2, h3, this]
/-- The reference's Create and Accept. -/
theorem kept_who {h : Hal} (hv : VHal h) (who : Int) : keptR h.tick who 0 h.ps = uninvM (fun _ i => decide (i.who = who)) h.ps := by
  refine uninv_congr fun p hp i hi => ?_
  have h1 := ((hv.ok p hp).2.2.2.2.2.1 i hi).2.2.2.1
  simp [h1]
theorem kept_yes {h : Hal} (hv : VHal h) (who id : Int) : keptR h.tick who 0 h.ps = uninvM (fun p i => decide (i.who = who) && (true || decide (p.id = id))) h.ps := by
  rw [kept_who hv]
  refine uninv_congr fun p hp i hi => ?_
  simp
/-- The reference's Decline: no party has the number 0. -/
theorem kept_no {h : Hal} (hv : VHal h) {who id : Int} {k : Nat} (ha : askedM who id h.ps = some k) : keptR h.tick who id h.ps = uninvM (fun p i => decide (i.who = who) && (false || decide (p.id = id))) h.ps := by
  obtain ⟨hk, hid, _⟩ := askedM_some _ ha
  have h0 : ¬ id = 0 := by have := hv.pos _ (getD_mem36 hk); omega
  refine uninv_congr fun p hp i hi => ?_
  have h1 := ((hv.ok p hp).2.2.2.2.2.1 i hi).2.2.2.1
  have h2 : decide (id = p.id) = decide (p.id = id) := by simp only [eq_comm]
  simp [h0, h1, h2]
/-- How often a player is a member. -/
def timesR (ps : List Pty) (who : Int) : Nat := (allM ps).count who
theorem times_zero {ps : List Pty} {who : Int} : timesR ps who = 0 ↔ who ∉ allM ps := List.count_eq_zero
/-- What the reference asks of party number i. -/
def invR (tick : Int) (ps : List Pty) (l : List Inv) (k : Nat) : Bool :=
  isIdB (l.getD k ⟨0, 0⟩).who && decide (timesR ps (l.getD k ⟨0, 0⟩).who = 0) && decide (tick < (l.getD k ⟨0, 0⟩).till) && decide ((l.getD k ⟨0, 0⟩).till ≤ tick + 600) && (decide (k = 0) || decide ((l.getD (k - 1) ⟨0, 0⟩).who < (l.getD k ⟨0, 0⟩).who))
def memR (ps : List Pty) (n : Int) : Bool := isIdB n && decide (timesR ps n = 1)
def ptyR (h : Hal) (i : Nat) : Bool :=
  decide (1 ≤ (h.ps.getD i pty0).id) && decide ((h.ps.getD i pty0).id ≤ h.last) && (decide (i = 0) || decide ((h.ps.getD (i - 1) pty0).id < (h.ps.getD i pty0).id)) && decide (1 ≤ (h.ps.getD i pty0).mem.length) && decide ((h.ps.getD i pty0).mem.length + (h.ps.getD i pty0).inv.length ≤ 5) &&
    (h.ps.getD i pty0).mem.all (memR h.ps) && (List.range (h.ps.getD i pty0).inv.length).all (invR h.tick h.ps (h.ps.getD i pty0).inv) && decide ((h.ps.getD i pty0).leader ∈ (h.ps.getD i pty0).mem)
def validR (h : Hal) : Bool :=
  decide (0 ≤ h.tick) && decide (h.tick ≤ 1073741824) && decide (0 ≤ h.last) && decide (h.last ≤ 1048576) && decide (h.ps.length ≤ 32) && (List.range h.ps.length).all (ptyR h)
/-- A list rises if each rises above the one ahead of it. -/
theorem rises {α : Type} (key : α → Int) (d : α) : ∀ (l : List α), (l.Pairwise fun a b => key a < key b) ↔ ∀ k, k + 1 < l.length → key (l.getD k d) < key (l.getD (k + 1) d) := by
  intro l
  induction l with
  | nil => simp
  | cons x r ih =>
    rw [List.pairwise_cons, ih]
    constructor
    · rintro ⟨h1, h2⟩ k hk
      cases k with
      | zero =>
        have hr : 0 < r.length := by simp only [List.length_cons] at hk; omega
        have : r.getD 0 d ∈ r := by rw [List.getD_eq_getElem?_getD, List.getElem?_eq_getElem hr]; exact List.getElem_mem hr
        exact h1 _ this
      | succ k => exact h2 k (by simp only [List.length_cons] at hk; omega)
    · intro h
      have h2 : ∀ k, k + 1 < r.length → key (r.getD k d) < key (r.getD (k + 1) d) := fun k hk => h (k + 1) (by simp only [List.length_cons]; omega)
      refine ⟨?_, h2⟩
      have h3 : ∀ k, k < r.length → key x < key (r.getD k d) := by
        intro k
        induction k with
        | zero => intro hk; exact h 0 (by simp only [List.length_cons]; omega)
        | succ k ihk => intro hk; have a := ihk (by omega); have b := h2 k hk; omega
      intro y hy
      obtain ⟨k, hk, rfl⟩ := List.mem_iff_getElem.mp hy
      have := h3 k hk
      rwa [List.getD_eq_getElem?_getD, List.getElem?_eq_getElem hk] at this
theorem all_getD {α : Type} (d : α) (P : α → Prop) (l : List α) : (∀ x ∈ l, P x) ↔ ∀ k, k < l.length → P (l.getD k d) := by
  constructor
  · intro h k hk
    refine h _ ?_
    rw [List.getD_eq_getElem?_getD, List.getElem?_eq_getElem hk]; exact List.getElem_mem hk
  · intro h y hy
    obtain ⟨k, hk, rfl⟩ := List.mem_iff_getElem.mp hy
    have := h k hk
    rwa [List.getD_eq_getElem?_getD, List.getElem?_eq_getElem hk] at this
theorem invR_iff {tick : Int} {ps : List Pty} (l : List Inv) : (List.range l.length).all (invR tick ps l) = true ↔ (l.Pairwise fun a b => a.who < b.who) ∧ ∀ i ∈ l, okI tick (allM ps) i := by
  rw [rises Inv.who ⟨0, 0⟩, all_getD ⟨0, 0⟩ (okI tick (allM ps)), List.all_eq_true]
  simp only [List.mem_range]
  unfold invR okI
  simp only [Bool.and_eq_true, decide_eq_true_eq, Bool.or_eq_true, isIdB_iff, times_zero]
  constructor
  · intro h
    refine ⟨fun k hk => ?_, fun k hk => ?_⟩
    · rcases (h (k + 1) hk).2 with e | e
      · omega
      · exact e
    · obtain ⟨⟨⟨⟨⟨a, b⟩, c⟩, d⟩, e⟩, _⟩ := h k hk
      exact ⟨a, b, c, d, e⟩
  · rintro ⟨h1, h2⟩ k hk
    obtain ⟨a, b, c, d, e⟩ := h2 k hk
    refine ⟨⟨⟨⟨⟨a, b⟩, c⟩, d⟩, e⟩, ?_⟩
    cases k with
    | zero => exact Or.inl rfl
    | succ k => exact Or.inr (h1 k hk)
theorem nodup_count {l : List Int} : l.Nodup ↔ ∀ x ∈ l, l.count x = 1 := by
  induction l with
  | nil => simp
  | cons y r ih =>
    rw [List.nodup_cons, ih]
    constructor
    · rintro ⟨h1, h2⟩ x hx
      by_cases hxy : y = x
      · subst hxy
        rw [List.count_cons_self, List.count_eq_zero.mpr h1]
      · rw [List.count_cons_of_ne hxy]
        exact h2 x ((List.mem_cons.mp hx).resolve_left fun e => hxy e.symm)
    · intro h
      have h1 : y ∉ r := by
        have := h y List.mem_cons_self
        rw [List.count_cons_self] at this
        exact List.count_eq_zero.mp (by omega)
      refine ⟨h1, fun x hx => ?_⟩
      have := h x (List.mem_cons_of_mem _ hx)
      have hyx : y ≠ x := fun e => h1 (by rw [e]; exact hx)
      rwa [List.count_cons_of_ne hyx] at this
/-- The reference's Valid is the program's. -/
theorem validR_iff {h : Hal} : validR h = true ↔ VHal h := by
  have hp : (List.range h.ps.length).all (ptyR h) = true ↔ (h.ps.Pairwise fun a b => a.id < b.id) ∧ (∀ p ∈ h.ps, 1 ≤ p.id ∧ okP h.last h.tick (allM h.ps) p ∧ ∀ n ∈ p.mem, (allM h.ps).count n = 1) := by
    rw [rises Pty.id pty0, all_getD pty0 (fun p => 1 ≤ p.id ∧ okP h.last h.tick (allM h.ps) p ∧ ∀ n ∈ p.mem, (allM h.ps).count n = 1), List.all_eq_true]
    simp only [List.mem_range]
    unfold ptyR okP memR timesR
    simp only [Bool.and_eq_true, decide_eq_true_eq, Bool.or_eq_true, invR_iff]
    simp only [List.all_eq_true, Bool.and_eq_true, decide_eq_true_eq, isIdB_iff]
    constructor
    · intro hh
      refine ⟨fun k hk => ?_, fun k hk => ?_⟩
      · rcases (hh (k + 1) hk).1.1.1.1.1.2 with e | e
        · omega
        · exact e
      · obtain ⟨⟨⟨⟨⟨⟨⟨a, b⟩, _⟩, c⟩, d⟩, e⟩, f⟩, g⟩ := hh k hk
        exact ⟨a, ⟨b, c, d, g, f.1, f.2, fun n hn => (e n hn).1⟩, fun n hn => (e n hn).2⟩
    · rintro ⟨h1, h2⟩ k hk
      obtain ⟨a, ⟨b, c, d, g, f1, f2, e1⟩, e2⟩ := h2 k hk
      refine ⟨⟨⟨⟨⟨⟨⟨a, b⟩, ?_⟩, c⟩, d⟩, fun n hn => ⟨e1 n hn, e2 n hn⟩⟩, f1, f2⟩, g⟩
      cases k with
      | zero => exact Or.inl rfl
      | succ k => exact Or.inr (h1 k hk)
  unfold validR
  simp only [Bool.and_eq_true, decide_eq_true_eq, hp]
  constructor
  · rintro ⟨⟨⟨⟨⟨h1, h2⟩, h3⟩, h4⟩, h5⟩, h6, h7⟩
    refine ⟨h1, h2, h3, h4, h5, h6, fun p hp => (h7 p hp).1, fun p hp => (h7 p hp).2.1, nodup_count.mpr fun x hx => ?_⟩
    obtain ⟨p, hp, hm⟩ := mem_allM.mp hx
    exact (h7 p hp).2.2 x hm
  · rintro ⟨h1, h2, h3, h4, h5, h6, h7, h8, h9⟩
    exact ⟨⟨⟨⟨⟨h1, h2⟩, h3⟩, h4⟩, h5⟩, h6, fun p hp => ⟨h7 p hp, h8 p hp, fun n hn => nodup_count.mp h9 n (mem_allM.mpr ⟨p, hp, hn⟩)⟩⟩
theorem validR_eq (h : Hal) : validR h = validHal h := by
  rw [Bool.eq_iff_iff, validR_iff, valid_iff]
end Go.Proofs.Ytlfbcoohfnoacaa
