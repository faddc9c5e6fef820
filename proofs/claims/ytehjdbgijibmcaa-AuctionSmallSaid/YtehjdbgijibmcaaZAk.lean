/- Layer 34 (auction): what is done moves little; sums as the program counts them. Plain Lean. -/
import Derived.Test.YtehjdbgijibmcaaZAy
import Derived.Test.YtehjdbgijibmcaaZAw
set_option linter.unusedSimpArgs false
set_option linter.unusedVariables false
namespace Go.Proofs.Ytehjdbgijibmcaa
open Go.Fw Go.RowKit
def Small (l : List Mv) : Prop := l.length ≤ 100 ∧ ∀ m ∈ l, m.n ≤ 2147483647
theorem small_open {h : House} {a b c d e : Int} (he : (openH h a b c d e).2.2 = 0) : Small (openH h a b c d e).2.1 := by
  obtain ⟨nl, led, ml, o⟩ := opened he
  rw [o.opens]
  have := o.hc
  exact ⟨by simp, fun m hm => by simp at hm; subst hm; simp only; omega⟩
theorem small_bid {h : House} {a b c : Int} (he : (bidH h a b c).2.2 = 0) (hv : Valid h) : Small (bidH h a b c).2.1 := by
  obtain ⟨i, l, m, t⟩ := bid_took he
  rw [t.res]
  have hr := (hv.lot _ (lot_mem t.lt)).2.2
  obtain ⟨_, _, _, _, p5, _⟩ := bidLot_props hr t.hwho t.hmost t.other t.is
  refine ⟨by simp only; omega, fun x hx => ?_⟩
  simp only at hx
  have hb := t.is
  have hm := t.hmost
  have hl := hr.led
  have hrs := hr.reserve
  generalize h.lots.getD i Flat.dflt = o at *
  unfold bidLot at hb
  split at hb
  · split at hb
    · cases hb
    · injection hb with hb; injection hb with h1 h2; subst h2
      have := (movesN_mem hx).1
      simp at this; subst this; simp only; omega
  · split at hb
    · split at hb
      · cases hb
      · injection hb with hb; injection hb with h1 h2; subst h2
        have := (movesN_mem hx).1
        simp at this; subst this; simp only; omega
    · split at hb
      · injection hb with hb; injection hb with h1 h2; subst h2
        have := (movesN_mem hx).1
        simp at this
        rcases this with rfl | rfl
        · simp only; omega
        · simp only; omega
      · split at hb
        · cases hb
        · injection hb with hb; injection hb with h1 h2; subst h2
          simp at hx
theorem small_cancel {h : House} {a b : Int} (he : (cancelH h a b).2.2 = 0) : Small (cancelH h a b).2.1 := by
  have hz : cancelH h a b = cancelH h a b := rfl
  conv at hz => rhs; unfold cancelH
  unfold cancelH at he
  split at he
  · rename_i hv
    split at he
    · simp at he
    · rename_i at_ hat
      split at he
      · rename_i hs
        split at he
        · rename_i hl
          obtain ⟨h1, h2⟩ := idxL_some hat
          have hv' := valid_iff.1 hv
          rw [if_pos hv, hat] at hz
          simp only [if_pos hs, if_pos hl] at hz
          rw [hz]
          have hr := (hv'.lot _ (lot_mem h1)).2.2
          have := hr.count
          have hll := movesN_len [⟨0, (h.lots.getD at_ Flat.dflt).seller, (h.lots.getD at_ Flat.dflt).item, (h.lots.getD at_ Flat.dflt).count⟩]
          refine ⟨Nat.le_trans hll (by simp), fun m hm => ?_⟩
          have hm := (movesN_mem hm).1
          simp only [List.mem_singleton] at hm
          subst hm
          simp only
          omega
        · simp at he
      · simp at he
  · simp at he
theorem adv_went {h : House} {tick : Int} (he : (advH h tick).2.2 = 0) : Valid h ∧ (0 ≤ tick ∧ tick ≤ 1073741824) ∧ h.tick ≤ tick := by
  unfold advH at he
  split at he
  · rename_i hv
    simp only [Bool.and_eq_true, inB_iff, valid_iff] at hv
    split at he
    · simp at he
    · exact ⟨hv.1, hv.2, by omega⟩
  · simp at he
theorem endMoves_len3 (x : Lot) : (endMoves x).length ≤ 3 := movesN_len _
theorem flat_len3 : ∀ l : List Lot, (l.flatMap endMoves).length ≤ 3 * l.length
  | [] => by simp
  | x :: l => by
    have := endMoves_len3 x
    have := flat_len3 l
    rw [List.flatMap_cons, List.length_append, List.length_cons]
    omega
theorem ended_len (t : Int) (l : List Lot) : (endedL t l).length ≤ l.length := by
  rw [ended_filter]
  unfold sortL
  rw [sortK_len]
  exact List.length_filter_le ..
theorem small_adv {h : House} {tick : Int} (he : (advH h tick).2.2 = 0) : Small (advH h tick).2.1 := by
  obtain ⟨hv, h0, h1⟩ := adv_went he
  rw [adv_ok hv h0 h1]
  have l1 := flat_len3 (endedL tick h.lots)
  have l2 := ended_len tick h.lots
  have l3 := hv.len
  refine ⟨by simp only; omega, fun m hm => ?_⟩
  obtain ⟨x, hx, hm⟩ := List.mem_flatMap.1 hm
  have hr := (hv.lot _ (ended_mem hx).1).2.2
  have hled := hr.led
  have hrs := hr.reserve
  have hc := hr.count
  have h2 := (movesN_mem hm).1
  simp only [List.mem_cons, List.not_mem_nil, or_false] at h2
  rcases h2 with rfl | rfl | rfl <;> simp only <;> omega
/-- What moves bring into the house, item by item. -/
def bal4 (out : List Int) (m : Mv) : List Int := out.set m.item.toNat (out.getD m.item.toNat 0 + (if m.dst = 0 then m.n else -m.n))
theorem bal4_len (out : List Int) (m : Mv) : (bal4 out m).length = out.length := by simp [bal4]
theorem getD_set4 (l : List Int) (i j : Nat) (v : Int) : (l.set i v).getD j 0 = if i = j ∧ i < l.length then v else l.getD j 0 := by
  simp only [List.getD_eq_getElem?_getD, List.getElem?_set]
  by_cases h : i = j
  · subst h
    by_cases h2 : i < l.length
    · simp [h2]
    · simp [h2, List.getElem?_eq_none (Nat.le_of_not_lt h2)]
  · simp [h]
theorem bal4_get {out : List Int} {m : Mv} (hl : out.length = 4) (hm : 0 ≤ m.item ∧ m.item ≤ 3) (k : Nat) : (bal4 out m).getD k 0 = out.getD k 0 + bk k m := by
  unfold bal4 bk
  rw [getD_set4]
  by_cases e : m.item = (k : Int)
  · have : m.item.toNat = k := by omega
    rw [if_pos ⟨this, by omega⟩, if_pos e, this]
  · rw [if_neg (by omega), if_neg e]; omega
theorem bal_fold_len : ∀ (l : List Mv) (out : List Int), (l.foldl bal4 out).length = out.length
  | [], out => rfl
  | m :: l, out => by rw [List.foldl_cons, bal_fold_len l, bal4_len]
theorem bal_fold : ∀ (l : List Mv) (out : List Int), out.length = 4 → (∀ m ∈ l, 0 ≤ m.item ∧ m.item ≤ 3) → ∀ k, (l.foldl bal4 out).getD k 0 = out.getD k 0 + sumB k l
  | [], out, _, _, k => by simp [sumB]
  | m :: l, out, hl, hm, k => by
    rw [List.foldl_cons, bal_fold l _ (by rw [bal4_len]; exact hl) (fun x hx => hm x (by simp [hx])) k, bal4_get hl (hm m (by simp))]
    simp only [sumB, List.map_cons, List.sum_cons]; omega
theorem bump4_get {out : List Int} {l : Lot} (hl : out.length = 4) (hi : 1 ≤ l.item ∧ l.item ≤ 3) {k : Nat} : (bump4 out l).getD k 0 = out.getD k 0 + hk k l := by
  unfold bump4 hk
  rw [getD_set4, getD_set4, getD_set4, List.length_set]
  by_cases e0 : k = 0
  · subst e0
    rw [if_neg (by omega), if_pos ⟨rfl, by omega⟩, if_pos rfl]
  · rw [if_neg e0]
    by_cases e : l.item = (k : Int)
    · have : l.item.toNat = k := by omega
      rw [if_pos ⟨this, by omega⟩, if_neg (by omega), if_pos e, this]
    · rw [if_neg (by omega), if_neg (by omega), if_neg e]; omega
theorem bump_fold : ∀ (l : List Lot) (out : List Int), out.length = 4 → (∀ x ∈ l, 1 ≤ x.item ∧ x.item ≤ 3) → ∀ k, (l.foldl bump4 out).getD k 0 = out.getD k 0 + sumK k l
  | [], out, _, _, k => by simp [sumK]
  | x :: l, out, hl, hx, k => by
    rw [List.foldl_cons, bump_fold l _ (by simp [bump4, hl]) (fun y hy => hx y (by simp [hy])) k, bump4_get hl (hx x (by simp))]
    simp only [sumK, List.map_cons, List.sum_cons]; omega
theorem holds_sum {h : House} (hv : Valid h) (k : Nat) (hk4 : k < 4) : (holdsH h).getD k 0 = sumK k h.lots := by
  unfold holdsH
  rw [if_pos (valid_iff.2 hv), bump_fold _ _ rfl (fun x hx => (hv.lot x hx).2.2.item) k]
  rcases k with _ | _ | _ | _ | k
  · simp
  · simp
  · simp
  · simp
  · omega
theorem holds_len (h : House) : (holdsH h).length = 4 := by
  unfold holdsH
  split
  · have : ∀ (l : List Lot) (out : List Int), (l.foldl bump4 out).length = out.length := by
      intro l
      induction l with
      | nil => intro out; rfl
      | cons x l ih => intro out; rw [List.foldl_cons, ih]; simp [bump4]
    rw [this]; rfl
  · rfl
/-- Bounds of sums. -/
theorem sumK_bound {h : House} (hv : Valid h) (k : Nat) : 0 ≤ sumK k h.lots ∧ sumK k h.lots ≤ 100000000000 := by
  have h1 : ∀ l : List Lot, (∀ x ∈ l, Right x h.tick) → 0 ≤ sumK k l ∧ sumK k l ≤ 3000000000 * l.length := by
    intro l
    induction l with
    | nil => intro _; simp [sumK]
    | cons x l ih =>
      intro hx
      have := ih fun y hy => hx y (by simp [hy])
      have hr := hx x (by simp)
      have h1 := hr.led
      have h2 := hr.count
      have h3 := hr.reserve
      have h4 : 0 ≤ hk k x ∧ hk k x ≤ 3000000000 := by unfold hk; split <;> (try split) <;> omega
      simp only [sumK, List.map_cons, List.sum_cons, List.length_cons] at *
      omega
  have := h1 h.lots (fun x hx => (hv.lot x hx).2.2)
  have := hv.len
  omega
end Go.Proofs.Ytehjdbgijibmcaa
