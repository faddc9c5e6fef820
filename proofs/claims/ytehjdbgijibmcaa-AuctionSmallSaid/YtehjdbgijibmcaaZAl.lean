/- Layer 34 (auction): what follows from the model. Plain Lean. -/
import Derived.Test.YtehjdbgijibmcaaZAm
set_option linter.unusedSimpArgs false
set_option linter.unusedVariables false
namespace Go.Proofs.Ytehjdbgijibmcaa
open Go.Fw Go.RowKit
theorem inB_iff {n lo hi : Int} : inB n lo hi = true ↔ lo ≤ n ∧ n ≤ hi := by simp [inB]
theorem inB_no {n lo hi : Int} : inB n lo hi = false ↔ ¬ (lo ≤ n ∧ n ≤ hi) := by rw [← inB_iff]; simp
/-- A valid lot, number by number. -/
structure Right (l : Lot) (tick : Int) : Prop where
  seller : 1 ≤ l.seller ∧ l.seller ≤ 65536
  item : 1 ≤ l.item ∧ l.item ≤ 3
  count : 1 ≤ l.count ∧ l.count ≤ 1000
  reserve : 1 ≤ l.reserve ∧ l.reserve ≤ 2147483647
  till : tick + 1 ≤ l.till ∧ l.till ≤ tick + 10000
  led : (l.leader = 0 ∧ l.most = 0 ∧ l.price = 0) ∨ (1 ≤ l.leader ∧ l.leader ≤ 65536 ∧ l.leader ≠ l.seller ∧ l.reserve ≤ l.price ∧ l.price ≤ l.most ∧ l.most ≤ 2147483647)
theorem right_iff {l : Lot} {tick : Int} : rightL l tick = true ↔ Right l tick := by
  unfold rightL
  simp only [Bool.and_eq_true, inB_iff]
  constructor
  · rintro ⟨⟨⟨⟨⟨h1, h2⟩, h3⟩, h4⟩, h5⟩, h6⟩
    refine ⟨h1, h2, h3, h4, h5, ?_⟩
    split at h6
    · rename_i h0
      simp only [Bool.and_eq_true, decide_eq_true_eq] at h6
      exact .inl ⟨h0, h6.1, h6.2⟩
    · simp only [Bool.and_eq_true, inB_iff, decide_eq_true_eq, Bool.not_eq_true', decide_eq_false_iff_not] at h6
      obtain ⟨⟨⟨a, b⟩, c⟩, d⟩ := h6
      exact .inr ⟨a.1, a.2, b, c.1, c.2, d⟩
  · rintro ⟨h1, h2, h3, h4, h5, h6⟩
    refine ⟨⟨⟨⟨⟨h1, h2⟩, h3⟩, h4⟩, h5⟩, ?_⟩
    rcases h6 with ⟨a, b, c⟩ | ⟨a, b, c, d, e, f⟩
    · rw [if_pos a]; simp [b, c]
    · rw [if_neg (by omega)]
      simp only [Bool.and_eq_true, inB_iff, decide_eq_true_eq, Bool.not_eq_true', decide_eq_false_iff_not]
      exact ⟨⟨⟨⟨a, b⟩, c⟩, ⟨d, e⟩⟩, f⟩
theorem rising_iff (top tick : Int) : ∀ (l : List Lot) (last : Int), risingL last top tick l = true ↔ (∀ x ∈ l, last < x.id ∧ x.id ≤ top ∧ Right x tick) ∧ l.Pairwise fun x y => x.id < y.id
  | [], last => by simp [risingL]
  | x :: l, last => by
    simp only [risingL, Bool.and_eq_true, decide_eq_true_eq, rising_iff top tick l x.id, right_iff, List.pairwise_cons, List.mem_cons]
    constructor
    · rintro ⟨⟨⟨h1, h2⟩, h3⟩, h4, h5⟩
      refine ⟨?_, fun y hy => (h4 y hy).1, h5⟩
      rintro y (rfl | hy)
      · exact ⟨h1, h2, h3⟩
      · obtain ⟨a, b, c⟩ := h4 y hy
        exact ⟨by omega, b, c⟩
    · rintro ⟨h1, h2, h3⟩
      obtain ⟨a, b, c⟩ := h1 x (.inl rfl)
      exact ⟨⟨⟨a, b⟩, c⟩, fun y hy => ⟨h2 y hy, (h1 y (.inr hy)).2⟩, h3⟩
structure Valid (h : House) : Prop where
  tick : 0 ≤ h.tick ∧ h.tick ≤ 1073741824
  last : 0 ≤ h.last ∧ h.last ≤ 1048576
  len : h.lots.length ≤ 32
  lot : ∀ x ∈ h.lots, 0 < x.id ∧ x.id ≤ h.last ∧ Right x h.tick
  inc : h.lots.Pairwise fun x y => x.id < y.id
theorem valid_iff {h : House} : validH h = true ↔ Valid h := by
  unfold validH
  simp only [Bool.and_eq_true, inB_iff, decide_eq_true_eq, rising_iff]
  exact ⟨fun ⟨⟨⟨a, b⟩, c⟩, d, e⟩ => ⟨a, b, c, d, e⟩, fun ⟨a, b, c, d, e⟩ => ⟨⟨⟨a, b⟩, c⟩, d, e⟩⟩
theorem idxL_some {p : Lot → Bool} : ∀ {l : List Lot} {i : Nat}, idxL p l = some i → i < l.length ∧ p (l.getD i Flat.dflt) = true
  | [], i, h => by simp [idxL] at h
  | x :: l, i, h => by
    simp only [idxL] at h
    split at h
    · rename_i hp
      injection h with h; subst h
      exact ⟨by simp, hp⟩
    · obtain ⟨j, hj, rfl⟩ := Option.map_eq_some_iff.1 h
      have := idxL_some hj
      exact ⟨by simpa using this.1, by simpa using this.2⟩
theorem idxL_none {p : Lot → Bool} : ∀ {l : List Lot}, idxL p l = none → ∀ x ∈ l, p x = false
  | [], _, x, hx => by simp at hx
  | y :: l, h, x, hx => by
    simp only [idxL] at h
    split at h
    · cases h
    · rename_i hp
      rcases List.mem_cons.1 hx with rfl | hx
      · simpa using hp
      · exact idxL_none (by simpa using h) x hx
theorem lot_mem {l : List Lot} {i : Nat} (h : i < l.length) : l.getD i Flat.dflt ∈ l := by
  rw [List.getD_eq_getElem?_getD, List.getElem?_eq_getElem h]; exact List.getElem_mem h
theorem ids_inj {l : List Lot} (h : l.Pairwise fun x y => x.id < y.id) {i j : Nat} (hi : i < l.length) (hj : j < l.length) (e : (l.getD i Flat.dflt).id = (l.getD j Flat.dflt).id) : i = j := by
  have key := List.pairwise_iff_getElem.1 h
  rw [List.getD_eq_getElem?_getD, List.getD_eq_getElem?_getD, List.getElem?_eq_getElem hi, List.getElem?_eq_getElem hj] at e
  simp only [Option.getD_some] at e
  rcases Nat.lt_trichotomy i j with h1 | h1 | h1
  · have := key i j hi hj h1; omega
  · exact h1
  · have := key j i hj hi h1; omega
theorem nextP_eq {p : Int} (h : 0 ≤ p ∧ p ≤ 2147483647) : nextP p = p + p / 16 + 1 := by rw [nextP, if_pos (inB_iff.2 h)]
/-- An offer that is taken. -/
structure Took (h : House) (id who most : Int) (at_ : Nat) (l : Lot) (m : List Mv) : Prop where
  lt : at_ < h.lots.length
  hid : (h.lots.getD at_ Flat.dflt).id = id
  hwho : 1 ≤ who ∧ who ≤ 65536
  hmost : 1 ≤ most ∧ most ≤ 2147483647
  other : (h.lots.getD at_ Flat.dflt).seller ≠ who
  is : bidLot (h.lots.getD at_ Flat.dflt) who most = some (l, m)
  res : bidH h id who most = (⟨h.tick, h.last, h.lots.set at_ { l with till := max l.till (h.tick + 20) }⟩, m, 0)
theorem bid_took {h : House} {id who most : Int} (he : (bidH h id who most).2.2 = 0) : ∃ at_ l m, Took h id who most at_ l m := by
  have hz : bidH h id who most = bidH h id who most := rfl
  conv at hz => rhs; unfold bidH
  unfold bidH at he
  split at he
  · rename_i hv
    split at he
    · simp at he
    · rename_i at_ hat
      split at he
      · rename_i hin
        split at he
        · simp at he
        · rename_i hs
          split at he
          · simp at he
          · rename_i l m hb
            simp only [Bool.and_eq_true, inB_iff] at hin
            obtain ⟨h1, h2⟩ := idxL_some hat
            refine ⟨at_, l, m, h1, by simpa using h2, hin.1, hin.2, hs, hb, ?_⟩
            rw [if_pos hv, hat] at hz
            simp only [if_neg hs, hb] at hz
            rw [if_pos (by simp only [Bool.and_eq_true, inB_iff]; exact hin)] at hz
            exact hz
      · simp at he
  · simp at he
theorem movesN_len (l : List Mv) : (movesN l).length ≤ l.length := List.length_filter_le _ _
theorem movesN_mem {l : List Mv} {m : Mv} (h : m ∈ movesN l) : m ∈ l ∧ m.n ≠ 0 := by
  have := List.mem_filter.1 h
  exact ⟨this.1, by simpa using this.2⟩
/-- What becomes of the lot. -/
theorem bidLot_props {l l' : Lot} {who most tick : Int} {m : List Mv} (hr : Right l tick) (hw : 1 ≤ who ∧ who ≤ 65536) (hm : 1 ≤ most ∧ most ≤ 2147483647) (hs : l.seller ≠ who) (hb : bidLot l who most = some (l', m)) :
    l' = { l with leader := l'.leader, most := l'.most, price := l'.price } ∧ l.price ≤ l'.price ∧ l.most ≤ l'.most ∧ (l'.leader ≠ who → m = [] ∧ l'.leader = l.leader ∧ l'.most = l.most ∧ most ≤ l'.price) ∧ m.length ≤ 2 ∧ (∀ x ∈ m, x.item = 0 ∧ (x.dst = 0 → x.src = who)) ∧ Right l' tick ∧ 1 ≤ l'.leader := by
  unfold bidLot at hb
  have hr' := hr
  obtain ⟨r1, r2, r3, r4, r5, r6⟩ := hr
  split at hb
  · rename_i h0
    split at hb
    · cases hb
    · rename_i h1
      injection hb with hb; injection hb with h2 h3; subst h2 h3
      have := movesN_len [⟨who, 0, 0, most⟩]
      refine ⟨rfl, by simp only; omega, by simp only; omega, fun h => absurd rfl h, by simp at this; omega, fun x hx => ?_, ⟨r1, r2, r3, r4, r5, .inr ?_⟩, by simp only; omega⟩
      · have := (movesN_mem hx).1
        simp at this; subst this; exact ⟨rfl, fun _ => rfl⟩
      · simp only; refine ⟨by omega, by omega, fun e => hs e.symm, by omega, by omega, by omega⟩
  · rename_i h0
    have h6 := r6.resolve_left (fun h => h0 h.1)
    split at hb
    · rename_i h1
      split at hb
      · cases hb
      · rename_i h2
        injection hb with hb; injection hb with h3 h4; subst h3 h4
        have := movesN_len [⟨who, 0, 0, most - l.most⟩]
        refine ⟨rfl, by simp only; omega, by simp only; omega, fun h => absurd h1 h, by simp at this; omega, fun x hx => ?_, ⟨r1, r2, r3, r4, r5, .inr ?_⟩, by simp only; omega⟩
        · have := (movesN_mem hx).1
          simp at this; subst this; exact ⟨rfl, fun _ => rfl⟩
        · simp only; refine ⟨by omega, by omega, h6.2.2.1, by omega, by omega, by omega⟩
    · rename_i h1
      split at hb
      · rename_i h2
        injection hb with hb; injection hb with h3 h4; subst h3 h4
        have := movesN_len [⟨who, 0, 0, most⟩, ⟨0, l.leader, 0, l.most⟩]
        have hn := nextP_eq (p := l.most) (by omega)
        refine ⟨rfl, by simp only; omega, by simp only; omega, fun h => absurd rfl h, by simp at this; omega, fun x hx => ?_, ⟨r1, r2, r3, r4, r5, .inr ?_⟩, by simp only; omega⟩
        · have := (movesN_mem hx).1
          simp at this
          rcases this with rfl | rfl
          · exact ⟨rfl, fun _ => rfl⟩
          · exact ⟨rfl, fun h => absurd h h0⟩
        · simp only; refine ⟨by omega, by omega, fun e => hs e.symm, by omega, by omega, by omega⟩
      · rename_i h2
        split at hb
        · cases hb
        · rename_i h3
          injection hb with hb; injection hb with h4 h5; subst h4 h5
          have hn := nextP_eq (p := most) (by omega)
          have hn2 := nextP_eq (p := l.price) (by omega)
          refine ⟨rfl, by simp only; omega, by simp only; omega, fun h => ⟨rfl, rfl, rfl, by simp only; omega⟩, by simp, fun x hx => by simp at hx, ⟨r1, r2, r3, r4, r5, .inr ?_⟩, by simp only; omega⟩
          simp only; refine ⟨by omega, by omega, h6.2.2.1, by omega, by omega, by omega⟩
end Go.Proofs.Ytehjdbgijibmcaa
