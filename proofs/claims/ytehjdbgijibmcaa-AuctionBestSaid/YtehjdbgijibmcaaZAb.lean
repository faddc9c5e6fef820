/- Layer 34 (auction): who wins a lot. Plain Lean. -/
import Derived.Test.YtehjdbgijibmcaaZAt
set_option linter.unusedSimpArgs false
set_option linter.unusedVariables false
namespace Go.Proofs.Ytehjdbgijibmcaa
open Go.Fw Go.RowKit
theorem getD_set_all (l : List Int) (i j : Nat) (v : Int) : (l.set i v).getD j 0 = if i = j ∧ i < l.length then v else l.getD j 0 := by
  simp only [List.getD_eq_getElem?_getD, List.getElem?_set]
  by_cases h : i = j
  · subst h
    by_cases h2 : i < l.length
    · simp [h2]
    · simp [h2, List.getElem?_eq_none (Nat.le_of_not_lt h2)]
  · simp [h]
/-- What has been paid, behind a move. -/
def payL (paid : List Int) (m : Mv) : List Int := (paid.set m.src.toNat (paid.getD m.src.toNat 0 + m.n)).set m.dst.toNat ((paid.set m.src.toNat (paid.getD m.src.toNat 0 + m.n)).getD m.dst.toNat 0 - m.n)
theorem payL_len (paid : List Int) (m : Mv) : (payL paid m).length = paid.length := by simp [payL]
theorem payL_at {paid : List Int} {m : Mv} (h1 : 0 ≤ m.src ∧ m.src < paid.length) (h2 : 0 ≤ m.dst ∧ m.dst < paid.length) (hne : m.src ≠ m.dst) (j : Nat) :
    (payL paid m).getD j 0 = paid.getD j 0 + (if m.src = (j : Int) then m.n else 0) - (if m.dst = (j : Int) then m.n else 0) := by
  unfold payL
  rw [getD_set_all, getD_set_all, getD_set_all, List.length_set]
  by_cases e1 : m.src = (j : Int)
  · have : m.src.toNat = j := by omega
    rw [if_neg (by omega), if_pos ⟨this, by omega⟩, if_pos e1, if_neg (by omega), this]; omega
  · by_cases e2 : m.dst = (j : Int)
    · have : m.dst.toNat = j := by omega
      rw [if_pos ⟨this, by omega⟩, if_neg (by omega), if_neg e1, if_pos e2, this]; omega
    · rw [if_neg (by omega), if_neg (by omega), if_neg e1, if_neg e2]; omega
/-- The lot, what everybody offered at most, and what everybody has paid. -/
structure Bids (l : Lot) (most paid : List Int) (leader : Nat) : Prop where
  lm : most.length = 9
  lp : paid.length = 21
  right : Right l 0
  sel : l.seller = 20
  till : l.till = 100
  reserve : l.reserve ≤ 1048576
  top : l.most ≤ 2097152
  ldr : l.leader = (leader : Int)
  le8 : leader ≤ 8
  lmost : l.most = most.getD leader 0
  rest : ∀ k, 1 ≤ k → k ≤ 8 → k ≠ leader → 0 ≤ most.getD k 0 ∧ most.getD k 0 ≤ l.price ∧ paid.getD k 0 = 0
  mine : leader ≠ 0 → paid.getD leader 0 = l.most
  house : paid.getD 0 0 = -l.most
  seller : paid.getD 20 0 = 0
theorem bids_step {l l' : Lot} {most paid : List Int} {leader who : Nat} {n : Int} {m : List Mv} (h : Bids l most paid leader) (hw : 1 ≤ who ∧ who ≤ 8) (hn : 1 ≤ n ∧ n ≤ 2097152) (hb : bidLot l who n = some (l', m)) :
    Bids { l' with till := max l'.till (0 + 20) } (most.set who (max (most.getD who 0) n)) (m.foldl payL paid) (if n > most.getD leader 0 ∨ leader = 0 then who else leader) ∧ l.price ≤ l'.price ∧ l'.reserve ≤ l'.price ∧ l'.price ≤ l'.most := by
  obtain ⟨lm, lp, hr, sel, till, hres, top, ldr, le8, lmost, rest, mine, house, seller⟩ := h
  have hs : l.seller ≠ (who : Int) := by omega
  obtain ⟨e1, p1, p2, p3, _, _, hr', hl'⟩ := bidLot_props hr (by omega) (by omega) hs hb
  have hpr := hr'.led.resolve_left (fun h => by omega)
  have hres2 := hr.reserve
  have e_till : l'.till = 100 := by rw [e1]; exact till
  have e_sel : l'.seller = 20 := by rw [e1]; exact sel
  have e_res : l'.reserve = l.reserve := by rw [e1]
  have hmw : 0 ≤ most.getD who 0 ∧ (who ≠ leader → most.getD who 0 ≤ l.price ∧ paid.getD who 0 = 0) := by
    by_cases e : who = leader
    · refine ⟨?_, fun h => absurd e h⟩
      rw [e, ← lmost]
      have := hr.led; omega
    · have := rest who hw.1 hw.2 e
      exact ⟨this.1, fun _ => this.2⟩
  have hml : l.price ≤ l.most ∧ 0 ≤ l.price := by have := hr.led; omega
  have hset : ∀ k, (most.set who (max (most.getD who 0) n)).getD k 0 = if who = k then max (most.getD who 0) n else most.getD k 0 := fun k => by
    rw [getD_set_all]
    by_cases e : who = k
    · rw [if_pos ⟨e, by omega⟩, if_pos e]
    · rw [if_neg (fun h => e h.1), if_neg e]
  have fin : ∀ (nl : Nat), (nl ≤ 8) → l'.leader = (nl : Int) → l'.most = (if who = nl then max (most.getD who 0) n else most.getD nl 0) → l'.most ≤ 2097152 → (m.foldl payL paid).length = 21 →
      (∀ k, 1 ≤ k → k ≤ 8 → k ≠ nl → (if who = k then max (most.getD who 0) n else most.getD k 0) ≤ l'.price ∧ (m.foldl payL paid).getD k 0 = 0) → (m.foldl payL paid).getD nl 0 = l'.most → (m.foldl payL paid).getD 0 0 = -l'.most → (m.foldl payL paid).getD 20 0 = 0 →
      Bids { l' with till := max l'.till (0 + 20) } (most.set who (max (most.getD who 0) n)) (m.foldl payL paid) nl := fun nl h8 h1 h2 h2b h3 h4 h5 h6 h7 => by
    have ht : max l'.till (0 + 20) = 100 := by omega
    refine ⟨by rw [List.length_set]; exact lm, h3, ⟨hr'.seller, hr'.item, hr'.count, hr'.reserve, ⟨by simp only; omega, by simp only; omega⟩, hr'.led⟩, e_sel, ht, by simp only; omega, h2b, h1, h8, by rw [hset]; exact h2, fun k k1 k8 kn => ?_, fun _ => h5, h6, h7⟩
    rw [hset]
    refine ⟨?_, h4 k k1 k8 kn⟩
    split
    · omega
    · by_cases e : k = leader
      · rw [e, ← lmost]; omega
      · exact (rest k k1 k8 e).1
  refine ⟨?_, p1, hpr.2.2.2.1, hpr.2.2.2.2.1⟩
  unfold bidLot at hb
  split at hb
  · rename_i h0
    have hl0 : leader = 0 := by omega
    split at hb
    · cases hb
    · rename_i h1
      injection hb with hb; injection hb with h2 h3; subst h2
      have hm : m = [⟨who, 0, 0, n⟩] := by rw [← h3]; simp [movesN]; omega
      have h00 := hr.led.resolve_right (fun h => by omega)
      subst hm
      have hp := fun j => payL_at (paid := paid) (m := ⟨who, 0, 0, n⟩) ⟨by simp only; omega, by simp only; omega⟩ ⟨by simp only; omega, by simp only; omega⟩ (by simp only; omega) j
      rw [if_pos (.inr hl0)]
      have hwl : who ≠ leader := by omega
      refine fin who hw.2 rfl ?_ ?_ ?_ ?_ ?_ ?_ ?_
      · rw [if_pos rfl]; simp only; have := (hmw.2 hwl).1; omega
      · simp only; omega
      · rw [List.foldl_cons, List.foldl_nil, payL_len]; exact lp
      · intro k k1 k8 kn
        rw [if_neg (fun h => kn h.symm), List.foldl_cons, List.foldl_nil, hp]
        have := rest k k1 k8 (by omega)
        simp only
        refine ⟨by omega, ?_⟩
        rw [if_neg (by omega), if_neg (by omega)]; omega
      · rw [List.foldl_cons, List.foldl_nil, hp]
        simp only
        have := (hmw.2 hwl).2
        rw [if_pos trivial, if_neg (by omega)]; omega
      · rw [List.foldl_cons, List.foldl_nil, hp]
        simp only
        rw [if_neg (by omega), if_pos (by omega)]; omega
      · rw [List.foldl_cons, List.foldl_nil, hp]
        simp only
        rw [if_neg (by omega), if_neg (by omega)]; omega
  · rename_i h0
    have hl0 : leader ≠ 0 := by omega
    have h6 := hr.led.resolve_left (fun h => h0 h.1)
    have hmine := mine hl0
    split at hb
    · rename_i h1
      have hwl : who = leader := by omega
      split at hb
      · cases hb
      · rename_i h2
        injection hb with hb; injection hb with h3 h4; subst h3
        have hm : m = [⟨who, 0, 0, n - l.most⟩] := by rw [← h4]; simp [movesN]; omega
        subst hm
        have hp := fun j => payL_at (paid := paid) (m := ⟨who, 0, 0, n - l.most⟩) ⟨by simp only; omega, by simp only; omega⟩ ⟨by simp only; omega, by simp only; omega⟩ (by simp only; omega) j
        rw [if_pos (.inl (by rw [← lmost]; omega))]
        refine fin who hw.2 h1 ?_ ?_ ?_ ?_ ?_ ?_ ?_
        · rw [if_pos rfl, hwl, ← lmost]; simp only; omega
        · simp only; omega
        · rw [List.foldl_cons, List.foldl_nil, payL_len]; exact lp
        · intro k k1 k8 kn
          rw [if_neg (fun h => kn h.symm), List.foldl_cons, List.foldl_nil, hp]
          have := rest k k1 k8 (by omega)
          simp only
          refine ⟨by omega, ?_⟩
          rw [if_neg (by omega), if_neg (by omega)]; omega
        · rw [List.foldl_cons, List.foldl_nil, hp]
          simp only
          rw [if_pos trivial, if_neg (by omega), hwl]; omega
        · rw [List.foldl_cons, List.foldl_nil, hp]
          simp only
          rw [if_neg (by omega), if_pos (by omega)]; omega
        · rw [List.foldl_cons, List.foldl_nil, hp]
          simp only
          rw [if_neg (by omega), if_neg (by omega)]; omega
    · rename_i h1
      have hwl : who ≠ leader := by omega
      have hmw2 := hmw.2 hwl
      split at hb
      · rename_i h2
        injection hb with hb; injection hb with h3 h4; subst h3
        have hnx := nextP_eq (p := l.most) (by omega)
        have hm : m = [⟨who, 0, 0, n⟩, ⟨0, leader, 0, l.most⟩] := by
          rw [← h4, ldr]
          have a1 : ¬ n = 0 := by omega
          have a2 : ¬ l.most = 0 := by omega
          simp [movesN, a1, a2]
        subst hm
        have hp := fun j => payL_at (paid := paid) (m := ⟨who, 0, 0, n⟩) ⟨by simp only; omega, by simp only; omega⟩ ⟨by simp only; omega, by simp only; omega⟩ (by simp only; omega) j
        have hlen := payL_len paid ⟨who, 0, 0, n⟩
        have hq := fun j => payL_at (paid := payL paid ⟨who, 0, 0, n⟩) (m := ⟨0, leader, 0, l.most⟩) ⟨by simp only; omega, by simp only; omega⟩ ⟨by simp only; omega, by simp only; omega⟩ (by simp only; omega) j
        rw [if_pos (.inl (by rw [← lmost]; omega))]
        refine fin who hw.2 rfl ?_ ?_ ?_ ?_ ?_ ?_ ?_
        · rw [if_pos rfl]; simp only; omega
        · simp only; omega
        · rw [List.foldl_cons, List.foldl_cons, List.foldl_nil, payL_len, payL_len]; exact lp
        · intro k k1 k8 kn
          rw [if_neg (fun h => kn h.symm), List.foldl_cons, List.foldl_cons, List.foldl_nil, hq, hp]
          simp only
          by_cases e : k = leader
          · subst e
            rw [← lmost]
            refine ⟨by omega, ?_⟩
            rw [if_neg (by omega), if_neg (by omega), if_neg (by omega), if_pos rfl]; omega
          · have := rest k k1 k8 e
            refine ⟨by omega, ?_⟩
            rw [if_neg (by omega), if_neg (by omega), if_neg (by omega), if_neg (by omega)]; omega
        · rw [List.foldl_cons, List.foldl_cons, List.foldl_nil, hq, hp]
          simp only
          rw [if_pos trivial, if_neg (by omega), if_neg (by omega), if_neg (by omega)]; omega
        · rw [List.foldl_cons, List.foldl_cons, List.foldl_nil, hq, hp]
          simp only
          rw [if_neg (by omega), if_pos (by omega), if_pos (by omega), if_neg (by omega)]; omega
        · rw [List.foldl_cons, List.foldl_cons, List.foldl_nil, hq, hp]
          simp only
          rw [if_neg (by omega), if_neg (by omega), if_neg (by omega), if_neg (by omega)]; omega
      · rename_i h2
        split at hb
        · cases hb
        · rename_i h3
          injection hb with hb; injection hb with h4 h5; subst h4 h5
          have hnx := nextP_eq (p := n) (by omega)
          have hnp := nextP_eq (p := l.price) (by omega)
          rw [if_neg (by rw [← lmost]; omega)]
          refine fin leader le8 ldr ?_ top lp ?_ hmine house seller
          · rw [if_neg hwl]; exact lmost
          · intro k k1 k8 kn
            simp only [List.foldl_nil]
            have := rest k k1 k8 kn
            refine ⟨?_, this.2.2⟩
            split
            · omega
            · omega
end Go.Proofs.Ytehjdbgijibmcaa
