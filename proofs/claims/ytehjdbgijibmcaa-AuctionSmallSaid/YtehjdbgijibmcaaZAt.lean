/- Layer 34 (auction): time; what is kept. Plain Lean. -/
import Derived.Test.YtehjdbgijibmcaaZAc
set_option linter.unusedSimpArgs false
set_option linter.unusedVariables false
namespace Go.Proofs.Ytehjdbgijibmcaa
open Go.Fw Go.RowKit
def later (tick : Int) (l : List Lot) : List Lot := l.filter fun x => !decide (x.till ≤ tick)
def endedL (tick : Int) (l : List Lot) : List Lot := (sortL l).takeWhile fun x => decide (x.till ≤ tick)
theorem adv_ok {h : House} {tick : Int} (hv : Valid h) (h0 : 0 ≤ tick ∧ tick ≤ 1073741824) (h1 : h.tick ≤ tick) : advH h tick = (⟨tick, h.last, later tick h.lots⟩, (endedL tick h.lots).flatMap endMoves, 0) := by
  unfold advH
  rw [if_pos (by simp only [Bool.and_eq_true, inB_iff, valid_iff]; exact ⟨hv, h0⟩), if_neg (by omega)]
  rfl
theorem adv_back {h : House} {tick : Int} (hv : Valid h) (h0 : 0 ≤ tick ∧ tick ≤ 1073741824) (h1 : tick < h.tick) : advH h tick = (house0, [], 342) := by
  unfold advH
  rw [if_pos (by simp only [Bool.and_eq_true, inB_iff, valid_iff]; exact ⟨hv, h0⟩), if_pos h1]
theorem later_valid {h : House} {tick : Int} (hv : Valid h) (h0 : 0 ≤ tick ∧ tick ≤ 1073741824) (h1 : h.tick ≤ tick) : Valid ⟨tick, h.last, later tick h.lots⟩ := by
  refine ⟨h0, hv.last, Nat.le_trans (List.length_filter_le _ _) hv.len, fun x hx => ?_, hv.inc.filter _⟩
  obtain ⟨hx1, hx2⟩ := List.mem_filter.1 hx
  have := hv.lot x hx1
  obtain ⟨a, b, r⟩ := this
  have h3 : tick < x.till := by simpa using hx2
  have h4 := r.till
  exact ⟨a, b, r.seller, r.item, r.count, r.reserve, ⟨by simp only; omega, by simp only; omega⟩, r.led⟩
theorem later_later {t1 t2 : Int} (h : t1 ≤ t2) (l : List Lot) : later t2 (later t1 l) = later t2 l := by
  unfold later
  rw [List.filter_filter]
  apply List.filter_congr
  intro x _
  by_cases h2 : x.till ≤ t2
  · simp [h2]
  · have : ¬ x.till ≤ t1 := by omega
    simp [h2, this]
theorem ended_two {t1 t2 : Int} (h : t1 ≤ t2) (l : List Lot) : endedL t1 l ++ endedL t2 (later t1 l) = endedL t2 l := by
  unfold endedL later sortL
  rw [sortK_filter, ← takeWhile_two h (sortK_srt l)]
theorem takeWhile_filter {t : Int} : ∀ {l : List Lot}, SrtK Lot.till l → l.takeWhile (fun x => decide (x.till ≤ t)) = l.filter fun x => decide (x.till ≤ t)
  | [], _ => rfl
  | x :: l, hs => by
    have h' := List.pairwise_cons.1 hs
    by_cases h1 : x.till ≤ t
    · rw [List.takeWhile_cons_of_pos (by simpa using h1), List.filter_cons_of_pos (by simpa using h1), takeWhile_filter h'.2]
    · rw [List.takeWhile_cons_of_neg (by simpa using h1), List.filter_cons_of_neg (by simpa using h1), List.filter_eq_nil_iff.2]
      intro z hz
      have := h'.1 z hz; simp; omega
theorem ended_filter (t : Int) (l : List Lot) : endedL t l = sortL (l.filter fun x => decide (x.till ≤ t)) := by
  unfold endedL sortL
  rw [takeWhile_filter (sortK_srt l), sortK_filter]
theorem ended_mem {t : Int} {l : List Lot} {x : Lot} (h : x ∈ endedL t l) : x ∈ l ∧ x.till ≤ t := by
  rw [ended_filter, sortL, sortK_mem] at h
  have := List.mem_filter.1 h
  exact ⟨this.1, by simpa using this.2⟩
/-! sums -/
def hk (k : Nat) (l : Lot) : Int := if k = 0 then l.most else if l.item = (k : Int) then l.count else 0
def sumK (k : Nat) (l : List Lot) : Int := (l.map (hk k)).sum
def bk (k : Nat) (m : Mv) : Int := if m.item = (k : Int) then (if m.dst = 0 then m.n else -m.n) else 0
def sumB (k : Nat) (l : List Mv) : Int := (l.map (bk k)).sum
theorem sumK_append (k : Nat) (a b : List Lot) : sumK k (a ++ b) = sumK k a + sumK k b := by simp [sumK]
theorem sumB_append (k : Nat) (a b : List Mv) : sumB k (a ++ b) = sumB k a + sumB k b := by simp [sumB]
theorem sumK_ins (k : Nat) (x : Lot) : ∀ l : List Lot, sumK k (insK Lot.till x l) = hk k x + sumK k l
  | [] => by simp [insK, sumK]
  | y :: l => by
    have ih := sumK_ins k x l
    unfold sumK at *
    simp only [insK]
    split
    · simp
    · simp only [List.map_cons, List.sum_cons, ih]; omega
theorem sumK_sort (k : Nat) (l : List Lot) : sumK k (sortL l) = sumK k l := by
  have : ∀ (l s : List Lot), sumK k (l.foldl (fun s x => insK Lot.till x s) s) = sumK k s + sumK k l := by
    intro l
    induction l with
    | nil => intro s; simp [sumK]
    | cons y l ih =>
      intro s
      rw [List.foldl_cons, ih, sumK_ins]
      simp only [sumK, List.map_cons, List.sum_cons]; omega
  rw [sortL, sortK, this]; simp [sumK]
theorem sumK_split (k : Nat) (p : Lot → Bool) : ∀ l : List Lot, sumK k l = sumK k (l.filter p) + sumK k (l.filter fun x => !p x)
  | [] => by simp [sumK]
  | x :: l => by
    have ih := sumK_split k p l
    unfold sumK at *
    by_cases h : p x = true
    · simp only [List.filter_cons, h, if_true, Bool.not_true, Bool.false_eq_true, if_false, List.map_cons, List.sum_cons]; omega
    · simp only [List.filter_cons, h, Bool.not_eq_true, if_false, List.map_cons, List.sum_cons]
      simp only [Bool.not_eq_true] at h
      simp only [h, Bool.not_false, if_true, List.map_cons, List.sum_cons]
      simp; omega
theorem sumK_set (k : Nat) (x : Lot) : ∀ (l : List Lot) (i : Nat), i < l.length → sumK k (l.set i x) = sumK k l - hk k (l.getD i Flat.dflt) + hk k x
  | [], i, h => by simp at h
  | y :: l, 0, _ => by simp [sumK]; omega
  | y :: l, i + 1, h => by
    have ih := sumK_set k x l i (by simpa using h)
    unfold sumK at *
    simp only [List.set_cons_succ, List.map_cons, List.sum_cons, List.getD_cons_succ, ih]; omega
theorem sumK_erase (k : Nat) : ∀ (l : List Lot) (i : Nat), i < l.length → sumK k (l.eraseIdx i) = sumK k l - hk k (l.getD i Flat.dflt)
  | [], i, h => by simp at h
  | y :: l, 0, _ => by simp [sumK]; omega
  | y :: l, i + 1, h => by
    have ih := sumK_erase k l i (by simpa using h)
    unfold sumK at *
    simp only [List.eraseIdx_cons_succ, List.map_cons, List.sum_cons, List.getD_cons_succ, ih]; omega
theorem sumB_movesN (k : Nat) : ∀ l : List Mv, sumB k (movesN l) = sumB k l
  | [] => rfl
  | m :: l => by
    have ih := sumB_movesN k l
    unfold movesN sumB at *
    rw [List.filter_cons]
    split
    · simp only [List.map_cons, List.sum_cons, ih]
    · rename_i h
      have h0 : m.n = 0 := by simpa using h
      simp only [List.map_cons, List.sum_cons, ih, bk, h0]
      split <;> (try split) <;> omega
/-- A move that moves something, from the house or to it. -/
structure OkMv (m : Mv) : Prop where
  item : 0 ≤ m.item ∧ m.item ≤ 3
  n : 0 < m.n
  one : (m.src = 0 ∧ 0 < m.dst) ∨ (0 < m.src ∧ m.dst = 0)
/-- What is kept by all that is done. -/
structure Kept (h next : House) (m : List Mv) : Prop where
  valid : Valid next
  sum : ∀ k, k < 4 → sumK k next.lots - sumK k h.lots = sumB k m
  ok : ∀ x ∈ m, OkMv x
  last : h.last ≤ next.last
  tick : h.tick ≤ next.tick
  ids : ∀ x ∈ next.lots, (∃ y ∈ h.lots, y.id = x.id) ∨ x.id = h.last + 1
theorem kept_open {h : House} {a b c d e : Int} (he : (openH h a b c d e).2.2 = 0) : Kept h (openH h a b c d e).1 (openH h a b c d e).2.1 := by
  obtain ⟨hv, ht, hr, hn, hl, heq⟩ := open_ok he
  rw [heq]
  refine ⟨open_valid hv hr rfl hn hl, fun k hk4 => ?_, fun x hx => ?_, by simp only; omega, by simp only; omega, fun x hx => ?_⟩
  · have hi := hr.item
    simp only [newLot] at hi
    rw [sumK_append]
    simp only [sumK, sumB, List.map_cons, List.map_nil, List.sum_cons, List.sum_nil, hk, bk, newLot, if_true]
    split
    · subst k; rw [if_neg (by omega)]; omega
    · split <;> omega
  · simp at hx; subst hx
    have := hr.count; have := hr.item; have := hr.seller
    simp only [newLot] at *
    exact ⟨by simp only; omega, by simp only; omega, .inr ⟨by simp only; omega, rfl⟩⟩
  · rcases List.mem_append.1 hx with hx | hx
    · exact .inl ⟨x, hx, rfl⟩
    · simp at hx; subst hx; exact .inr rfl
theorem set_pairwise {l : List Lot} (h : l.Pairwise fun x y => x.id < y.id) {i : Nat} {x : Lot} (hi : i < l.length) (hx : x.id = (l.getD i Flat.dflt).id) : (l.set i x).Pairwise fun x y => x.id < y.id := by
  rw [List.pairwise_iff_getElem] at *
  have e : x.id = l[i].id := by rw [hx, List.getD_eq_getElem?_getD, List.getElem?_eq_getElem hi]; rfl
  intro a b ha hb hab
  rw [List.length_set] at ha hb
  rw [List.getElem_set, List.getElem_set]
  split <;> split
  · omega
  · rename_i h1 h2; subst h1; rw [e]; exact h _ _ _ _ hab
  · rename_i h1 h2; subst h2; rw [e]; exact h _ _ _ _ hab
  · exact h _ _ _ _ hab
theorem mem_set' {l : List Lot} {i : Nat} {x y : Lot} (h : y ∈ l.set i x) : y = x ∨ y ∈ l := by
  rcases List.mem_or_eq_of_mem_set h with h | h
  · exact .inr h
  · exact .inl h
theorem took_valid {h : House} (hv : Valid h) {id who most : Int} {at_ : Nat} {l : Lot} {m : List Mv} (t : Took h id who most at_ l m) : Valid ⟨h.tick, h.last, h.lots.set at_ { l with till := max l.till (h.tick + 20) }⟩ := by
  have hx := hv.lot _ (lot_mem t.lt)
  obtain ⟨e1, _, _, _, _, _, hr, _⟩ := bidLot_props hx.2.2 t.hwho t.hmost t.other t.is
  have hid : l.id = (h.lots.getD at_ Flat.dflt).id := by rw [e1]
  refine ⟨hv.tick, hv.last, by simp only [List.length_set]; exact hv.len, fun y hy => ?_, set_pairwise hv.inc t.lt hid⟩
  rcases mem_set' hy with rfl | hy
  · have := hr.till
    refine ⟨by simp only; omega, by simp only; omega, hr.seller, hr.item, hr.count, hr.reserve, ⟨by simp only; omega, by simp only; omega⟩, hr.led⟩
  · exact hv.lot y hy
theorem kept_bid {h : House} {a b c : Int} (he : (bidH h a b c).2.2 = 0) (hv : Valid h) : Kept h (bidH h a b c).1 (bidH h a b c).2.1 := by
  obtain ⟨at_, l, m, t⟩ := bid_took he
  have hval := took_valid hv t
  have hx := hv.lot _ (lot_mem t.lt)
  obtain ⟨e1, _, _, _, _, _, _, _⟩ := bidLot_props hx.2.2 t.hwho t.hmost t.other t.is
  have hr := hx.2.2
  have his := t.is
  have hw := t.hwho
  have hm := t.hmost
  have hid : l.id = (h.lots.getD at_ Flat.dflt).id := by rw [e1]
  have hitem : l.item = (h.lots.getD at_ Flat.dflt).item := by rw [e1]
  have hcount : l.count = (h.lots.getD at_ Flat.dflt).count := by rw [e1]
  rw [t.res]
  have key : (l.most - (h.lots.getD at_ Flat.dflt).most = sumB 0 m ∧ ∀ k, 0 < k → k < 4 → sumB k m = 0) ∧ ∀ x ∈ m, OkMv x := by
    generalize h.lots.getD at_ Flat.dflt = o at *
    clear e1 hval hid hitem hcount hx
    have hled := hr.led
    have hrs := hr.reserve
    unfold bidLot at his
    split at his
    · rename_i h0
      split at his
      · cases his
      · injection his with his; injection his with h2 h3; subst h2 h3
        refine ⟨⟨?_, fun k k0 k4 => ?_⟩, fun x hx => ?_⟩
        · rw [sumB_movesN]; simp [sumB, bk]; omega
        · rw [sumB_movesN]; simp [sumB, bk]; omega
        · have := (movesN_mem hx).1; simp at this; subst this
          exact ⟨by simp, by simp only; omega, .inr ⟨by simp only; omega, rfl⟩⟩
    · rename_i h0
      have h6 := hled.resolve_left (fun h => h0 h.1)
      split at his
      · split at his
        · cases his
        · injection his with his; injection his with h2 h3; subst h2 h3
          refine ⟨⟨?_, fun k k0 k4 => ?_⟩, fun x hx => ?_⟩
          · rw [sumB_movesN]; simp [sumB, bk]
          · rw [sumB_movesN]; simp [sumB, bk]; omega
          · have := (movesN_mem hx).1; simp at this; subst this
            exact ⟨by simp, by simp only; omega, .inr ⟨by simp only; omega, rfl⟩⟩
      · split at his
        · injection his with his; injection his with h2 h3; subst h2 h3
          refine ⟨⟨?_, fun k k0 k4 => ?_⟩, fun x hx => ?_⟩
          · rw [sumB_movesN]; simp [sumB, bk, h0]; omega
          · rw [sumB_movesN]; simp [sumB, bk]; omega
          · have := (movesN_mem hx).1
            simp at this
            rcases this with rfl | rfl
            · exact ⟨by simp, by simp only; omega, .inr ⟨by simp only; omega, rfl⟩⟩
            · exact ⟨by simp, by simp only; omega, .inl ⟨rfl, by simp only; omega⟩⟩
        · split at his
          · cases his
          · injection his with his; injection his with h2 h3; subst h2 h3
            exact ⟨⟨by simp [sumB], fun k _ _ => by simp [sumB]⟩, fun x hx => by simp at hx⟩
  refine ⟨hval, fun k hk4 => ?_, key.2, Int.le_refl _, Int.le_refl _, fun x hx => .inl ?_⟩
  · rw [sumK_set k _ _ _ t.lt]
    simp only [hk]
    rcases Nat.eq_zero_or_pos k with rfl | hk0
    · simp only [if_true]; have := key.1.1; omega
    · rw [key.1.2 k hk0 hk4]
      simp only [Nat.pos_iff_ne_zero.1 hk0, if_false, hitem, hcount]; omega
  · rcases mem_set' hx with rfl | hx
    · exact ⟨_, lot_mem t.lt, by simp only; exact hid.symm⟩
    · exact ⟨x, hx, rfl⟩
theorem kept_adv {h : House} {tick : Int} (he : (advH h tick).2.2 = 0) : Kept h (advH h tick).1 (advH h tick).2.1 := by
  have hc : (Valid h ∧ (0 ≤ tick ∧ tick ≤ 1073741824)) ∧ h.tick ≤ tick := by
    unfold advH at he
    split at he
    · rename_i hv
      simp only [Bool.and_eq_true, inB_iff, valid_iff] at hv
      split at he
      · simp at he
      · exact ⟨hv, by omega⟩
    · simp at he
  obtain ⟨⟨hv, h0⟩, h1⟩ := hc
  rw [adv_ok hv h0 h1]
  have hone : ∀ x ∈ h.lots, (∀ k, k < 4 → sumB k (endMoves x) = -hk k x) ∧ ∀ m ∈ endMoves x, OkMv m := fun x hx => by
    have hr := (hv.lot x hx).2.2
    have hled := hr.led
    have hi := hr.item
    have hc := hr.count
    have hs := hr.seller
    have hrs := hr.reserve
    refine ⟨fun k hk4 => ?_, fun m hm => ?_⟩
    · unfold endMoves
      rw [sumB_movesN]
      simp only [sumB, List.map_cons, List.map_nil, List.sum_cons, List.sum_nil, bk, hk]
      rcases Nat.eq_zero_or_pos k with rfl | hk0
      · rcases hled with ⟨e1, e2, e3⟩ | h6
        · simp [e1, e2, e3]; omega
        · have a1 : x.leader ≠ 0 := by omega
          have a2 : x.seller ≠ 0 := by omega
          simp [a1, a2]; omega
      · have k0 : k ≠ 0 := by omega
        have k1 : ¬ (0 : Int) = k := by omega
        simp only [k0, k1, if_false]
        split
        · rename_i e
          split <;> (try split) <;> omega
        · omega
    · obtain ⟨h2, h3⟩ := movesN_mem hm
      simp only [List.mem_cons, List.not_mem_nil, or_false] at h2
      rcases h2 with rfl | rfl | rfl
      · exact ⟨by simp, by simp only at *; omega, .inl ⟨rfl, by simp only; omega⟩⟩
      · simp only at h3
        exact ⟨by simp, by simp only; omega, .inl ⟨rfl, by simp only; omega⟩⟩
      · refine ⟨by simp only; omega, by simp only; omega, .inl ⟨rfl, ?_⟩⟩
        simp only
        split <;> omega
  have hsum : ∀ (L : List Lot), (∀ x ∈ L, x ∈ h.lots) → ∀ k, k < 4 → sumB k (L.flatMap endMoves) = -sumK k L := by
    intro L
    induction L with
    | nil => intro _ k _; simp [sumB, sumK]
    | cons x L ih =>
      intro hL k hk4
      rw [List.flatMap_cons, sumB_append, (hone x (hL x (by simp))).1 k hk4, ih (fun y hy => hL y (by simp [hy])) k hk4]
      simp only [sumK, List.map_cons, List.sum_cons]; omega
  refine ⟨later_valid hv h0 h1, fun k hk4 => ?_, fun m hm => ?_, Int.le_refl _, h1, fun x hx => .inl ⟨x, (List.mem_filter.1 hx).1, rfl⟩⟩
  · rw [hsum _ (fun x hx => (ended_mem hx).1) k hk4, ended_filter, sumK_sort, sumK_split k (fun x => decide (x.till ≤ tick)) h.lots]
    simp only [later]; omega
  · obtain ⟨x, hx, hm⟩ := List.mem_flatMap.1 hm
    exact (hone x (ended_mem hx).1).2 m hm
theorem kept_cancel {h : House} {a b : Int} (he : (cancelH h a b).2.2 = 0) : Kept h (cancelH h a b).1 (cancelH h a b).2.1 := by
  have hz : cancelH h a b = cancelH h a b := rfl
  conv at hz => rhs; unfold cancelH
  unfold cancelH at he
  split at he
  · rename_i hv
    split at he
    · simp at he
    · rename_i at_ hat
      split at he
      · rename_i hs
        split at he
        · rename_i hl
          obtain ⟨h1, h2⟩ := idxL_some hat
          have hv' := valid_iff.1 hv
          rw [if_pos hv, hat] at hz
          simp only [if_pos hs, if_pos hl] at hz
          rw [hz]
          have hx := hv'.lot _ (lot_mem h1)
          have hr := hx.2.2
          refine ⟨⟨hv'.tick, hv'.last, Nat.le_trans (List.length_eraseIdx_le ..) hv'.len, fun x hx => hv'.lot x (List.mem_of_mem_eraseIdx hx), hv'.inc.sublist (List.eraseIdx_sublist ..)⟩, fun k hk4 => ?_, fun x hx => ?_, Int.le_refl _, Int.le_refl _, fun x hx => .inl ⟨x, List.mem_of_mem_eraseIdx hx, rfl⟩⟩
          · rw [sumK_erase k _ _ h1, sumB_movesN]
            generalize h.lots.getD at_ Flat.dflt = o at *
            have hi := hr.item
            have hse := hr.seller
            have hled := hr.led
            simp only [sumB, List.map_cons, List.map_nil, List.sum_cons, List.sum_nil, bk, hk]
            rw [if_neg (show ¬ o.seller = 0 by omega)]
            split
            · subst k; rw [if_neg (by simp; omega)]; omega
            · split <;> omega
          · have h3 := (movesN_mem hx).1
            simp only [List.mem_singleton] at h3; subst h3
            generalize h.lots.getD at_ Flat.dflt = o at *
            have hi := hr.item
            have hse := hr.seller
            have hc := hr.count
            exact ⟨by simp only; omega, by simp only; omega, .inl ⟨rfl, by simp only; omega⟩⟩
        · simp at he
      · simp at he
  · simp at he
end Go.Proofs.Ytehjdbgijibmcaa
