/- Layer 34 (auction): a house with one lot: its offers, its end. Plain Lean. -/
import Derived.Test.YtehjdbgijibmcaaZAb
set_option linter.unusedSimpArgs false
set_option linter.unusedVariables false
namespace Go.Proofs.Ytehjdbgijibmcaa
open Go.Fw Go.RowKit
theorem mv_mem {l : List Mv} {i : Nat} (h : i < l.length) : l.getD i Flat.dflt ∈ l := by
  rw [List.getD_eq_getElem?_getD, List.getElem?_eq_getElem h]; exact List.getElem_mem h
def oneLot (l : Lot) : House := ⟨0, 1, [l]⟩
def lot0 (r : Int) : Lot := ⟨1, 20, 2, 3, r, 100, 0, 0, 0⟩
structure Won (l : Lot) (most paid : List Int) (leader : Nat) : Prop where
  bids : Bids l most paid leader
  id : l.id = 1
  item : l.item = 2
  count : l.count = 3
  mid : ∀ k, 9 ≤ k → k ≤ 19 → paid.getD k 0 = 0
theorem won0 (r : Int) (h : 1 ≤ r ∧ r ≤ 1048576) : Won (lot0 r) (List.replicate 9 0) (List.replicate 21 0) 0 := by
  have hz : ∀ n k, (List.replicate n (0 : Int)).getD k 0 = 0 := fun n k => by
    simp only [List.getD_eq_getElem?_getD, List.getElem?_replicate]; split <;> rfl
  refine ⟨⟨by simp, by simp, ⟨?_, ?_, ?_, ?_, ?_, .inl ⟨rfl, rfl, rfl⟩⟩, rfl, rfl, h.2, ?_, rfl, by omega, (hz _ _).symm, fun k _ _ _ => ?_, fun h => absurd rfl h, ?_, hz _ _⟩, rfl, rfl, rfl, fun k _ _ => hz _ _⟩
  · show 1 ≤ (20 : Int) ∧ (20 : Int) ≤ 65536; omega
  · show 1 ≤ (2 : Int) ∧ (2 : Int) ≤ 3; omega
  · show 1 ≤ (3 : Int) ∧ (3 : Int) ≤ 1000; omega
  · show 1 ≤ r ∧ r ≤ 2147483647; omega
  · show 0 + 1 ≤ (100 : Int) ∧ (100 : Int) ≤ 0 + 10000; omega
  · show (0 : Int) ≤ 2097152; omega
  · rw [hz, hz]; show (0 : Int) ≤ 0 ∧ (0 : Int) ≤ 0 ∧ (0 : Int) = 0; omega
  · rw [hz]; rfl
theorem valid_one {l : Lot} {most paid : List Int} {leader : Nat} (h : Won l most paid leader) : Valid (oneLot l) :=
  ⟨⟨Int.le_refl 0, by show (0 : Int) ≤ 1073741824; omega⟩, ⟨by show (0 : Int) ≤ 1; omega, by show (1 : Int) ≤ 1048576; omega⟩, by show 1 ≤ 32; omega, fun x hx => by
    obtain rfl := List.mem_singleton.1 hx
    exact ⟨by rw [h.id]; omega, by rw [h.id]; show (1 : Int) ≤ 1; omega, h.bids.right⟩, List.pairwise_singleton _ _⟩
theorem open0 (r : Int) (h : 1 ≤ r ∧ r ≤ 1048576) : openH house0 20 2 3 r 100 = (oneLot (lot0 r), [⟨20, 0, 2, 3⟩], 0) := by
  have hn : newLot house0 20 2 3 r 100 = lot0 r := rfl
  have hr : rightL (lot0 r) house0.tick = true := right_iff.2 (won0 r h).bids.right
  unfold openH
  rw [hn, hr]
  rfl
theorem bid_one {l : Lot} {most paid : List Int} {leader who : Nat} {n : Int} (h : Won l most paid leader) (hw : 1 ≤ who ∧ who ≤ 8) (hn : 1 ≤ n ∧ n ≤ 2097152) :
    bidH (oneLot l) 1 who n = match bidLot l who n with | none => (house0, [], 341) | some (l', m) => (oneLot { l' with till := max l'.till (0 + 20) }, m, 0) := by
  have hix : idxL (fun l => decide (l.id = 1)) (oneLot l).lots = some 0 := by
    show idxL (fun l => decide (l.id = 1)) [l] = some 0
    rw [idxL, if_pos (by simpa using h.id)]
  unfold bidH
  rw [if_pos (valid_iff.2 (valid_one h)), hix]
  simp only
  rw [if_pos (by simp only [Bool.and_eq_true, inB_iff]; omega)]
  have hg : (oneLot l).lots.getD 0 Flat.dflt = l := rfl
  rw [hg, if_neg (by rw [h.bids.sel]; omega)]
  cases bidLot l who n with
  | none => rfl
  | some y => rfl
theorem moves_one {l l' : Lot} {most paid : List Int} {leader who : Nat} {n : Int} {m : List Mv} (h : Won l most paid leader) (hw : 1 ≤ who ∧ who ≤ 8) (hn : 1 ≤ n ∧ n ≤ 2097152) (hb : bidLot l who n = some (l', m)) :
    m.length ≤ 2 ∧ ∀ x ∈ m, 0 ≤ x.src ∧ x.src ≤ 8 ∧ 0 ≤ x.dst ∧ x.dst ≤ 8 ∧ x.src ≠ x.dst ∧ 0 ≤ x.n ∧ x.n ≤ 2097152 := by
  have hl := h.bids.ldr
  have h8 := h.bids.le8
  have ht := h.bids.top
  have hr := h.bids.right.led
  have hrs := h.bids.right.reserve
  unfold bidLot at hb
  split at hb
  · split at hb
    · cases hb
    · injection hb with hb; injection hb with h2 h3; subst h3
      refine ⟨by have := movesN_len [(⟨who, 0, 0, n⟩ : Mv)]; simp at this; omega, fun x hx => ?_⟩
      have := (movesN_mem hx).1
      simp at this; subst this; simp only; omega
  · rename_i h0
    split at hb
    · split at hb
      · cases hb
      · injection hb with hb; injection hb with h2 h3; subst h3
        refine ⟨by have := movesN_len [(⟨who, 0, 0, n - l.most⟩ : Mv)]; simp at this; omega, fun x hx => ?_⟩
        have := (movesN_mem hx).1
        simp at this; subst this; simp only; omega
    · split at hb
      · injection hb with hb; injection hb with h2 h3; subst h3
        refine ⟨by have := movesN_len [(⟨who, 0, 0, n⟩ : Mv), ⟨0, l.leader, 0, l.most⟩]; simp at this; omega, fun x hx => ?_⟩
        have := (movesN_mem hx).1
        simp at this
        rcases this with rfl | rfl
        · simp only; omega
        · simp only; omega
      · split at hb
        · cases hb
        · injection hb with hb; injection hb with h2 h3; subst h3
          exact ⟨Nat.zero_le _, fun x hx => by simp at hx⟩
/-- What has been paid, behind a move of gold. -/
def payI (p : List Int) (m : Mv) : List Int := if m.item = 0 then payL p m else p
def InB (p : List Int) (B : Int) : Prop := p.length = 21 ∧ ∀ k, k ≤ 20 → -B ≤ p.getD k 0 ∧ p.getD k 0 ≤ B
theorem pay_bound (f : List Int → Mv → List Int) (hf : ∀ p x, f p x = payL p x ∨ f p x = p) : ∀ (m : List Mv) (p : List Int) (B : Int), InB p B → (∀ x ∈ m, 0 ≤ x.src ∧ x.src ≤ 20 ∧ 0 ≤ x.dst ∧ x.dst ≤ 20 ∧ x.src ≠ x.dst ∧ 0 ≤ x.n ∧ x.n ≤ 2097152) →
    InB (m.foldl f p) (B + 2097152 * m.length)
  | [], p, B, hp, _ => by simpa using hp
  | x :: m, p, B, hp, hx => by
    have h1 := hx x (by simp)
    have hp' : InB (f p x) (B + 2097152) := by
      rcases hf p x with e | e
      · rw [e]
        refine ⟨by rw [payL_len]; exact hp.1, fun k hk => ?_⟩
        rw [payL_at ⟨h1.1, by have := hp.1; omega⟩ ⟨h1.2.2.1, by have := hp.1; omega⟩ h1.2.2.2.2.1 k]
        have := hp.2 k hk
        split
        · split <;> omega
        · split <;> omega
      · rw [e]
        exact ⟨hp.1, fun k hk => by have := hp.2 k hk; omega⟩
    have := pay_bound f hf m (f p x) (B + 2097152) hp' (fun y hy => hx y (by simp [hy]))
    rw [List.foldl_cons, List.length_cons]
    have e : B + 2097152 * ((m.length + 1 : Nat) : Int) = B + 2097152 + 2097152 * (m.length : Int) := by omega
    rw [e]; exact this
theorem won_bound {l : Lot} {most paid : List Int} {leader : Nat} (h : Won l most paid leader) : InB paid 2097152 := by
  have ht := h.bids.top
  have hr := h.bids.right.led
  have hrs := h.bids.right.reserve
  refine ⟨h.bids.lp, fun k hk => ?_⟩
  by_cases k0 : k = 0
  · subst k0; rw [h.bids.house]; omega
  · by_cases k20 : k = 20
    · subst k20; rw [h.bids.seller]; omega
    · by_cases k8 : k ≤ 8
      · by_cases kl : k = leader
        · subst kl; rw [h.bids.mine k0]; omega
        · rw [(h.bids.rest k (by omega) k8 kl).2.2]; omega
      · rw [h.mid k (by omega) (by omega)]; omega
theorem won_most {l : Lot} {most paid : List Int} {leader : Nat} (h : Won l most paid leader) (k : Nat) (hk : 1 ≤ k ∧ k ≤ 8) : 0 ≤ most.getD k 0 ∧ most.getD k 0 ≤ 2097152 := by
  have ht := h.bids.top
  have hr := h.bids.right.led
  have hrs := h.bids.right.reserve
  by_cases kl : k = leader
  · subst kl; rw [← h.bids.lmost]; omega
  · have := h.bids.rest k hk.1 hk.2 kl
    omega
theorem won_step {l l' : Lot} {most paid : List Int} {leader who : Nat} {n : Int} {m : List Mv} (h : Won l most paid leader) (hw : 1 ≤ who ∧ who ≤ 8) (hn : 1 ≤ n ∧ n ≤ 2097152) (hb : bidLot l who n = some (l', m)) :
    Won { l' with till := max l'.till (0 + 20) } (most.set who (max (most.getD who 0) n)) (m.foldl payL paid) (if n > most.getD leader 0 ∨ leader = 0 then who else leader) ∧ l.price ≤ l'.price ∧ l'.reserve ≤ l'.price ∧ l'.price ≤ l'.most := by
  obtain ⟨h1, h2⟩ := bids_step h.bids hw hn hb
  obtain ⟨e1, _⟩ := bidLot_props h.bids.right (by omega) (by omega) (by rw [h.bids.sel]; omega) hb
  refine ⟨⟨h1, by rw [e1]; exact h.id, by rw [e1]; exact h.item, by rw [e1]; exact h.count, fun k k9 k19 => ?_⟩, h2⟩
  have hm := (moves_one h hw hn hb).2
  have hlp := h.bids.lp
  have hmid := h.mid k k9 k19
  have key : ∀ (m : List Mv) (p : List Int), p.length = 21 → p.getD k 0 = 0 → (∀ x ∈ m, 0 ≤ x.src ∧ x.src ≤ 8 ∧ 0 ≤ x.dst ∧ x.dst ≤ 8 ∧ x.src ≠ x.dst ∧ 0 ≤ x.n ∧ x.n ≤ 2097152) → (m.foldl payL p).getD k 0 = 0 := by
    intro m
    induction m with
    | nil => intro p _ h _; exact h
    | cons x m ih =>
      intro p hp h0 hx
      have hx1 := hx x (by simp)
      rw [List.foldl_cons]
      refine ih _ (by rw [payL_len]; exact hp) ?_ (fun y hy => hx y (by simp [hy]))
      rw [payL_at ⟨hx1.1, by omega⟩ ⟨hx1.2.2.1, by omega⟩ hx1.2.2.2.2.1 k, h0, if_neg (by omega), if_neg (by omega)]; rfl
  exact key m paid hlp hmid hm
theorem end_one {l : Lot} {most paid : List Int} {leader : Nat} (h : Won l most paid leader) : advH (oneLot l) 200 = (⟨200, 1, []⟩, endMoves l, 0) := by
  have ht : l.till ≤ 200 := by rw [h.bids.till]; omega
  rw [adv_ok (valid_one h) (by omega) (by show (0 : Int) ≤ 200; omega)]
  have h1 : later 200 (oneLot l).lots = [] := by
    show List.filter _ [l] = []
    rw [List.filter_cons, decide_eq_true ht]; rfl
  have h2 : endedL 200 (oneLot l).lots = [l] := by
    show List.takeWhile _ [l] = [l]
    rw [List.takeWhile_cons, decide_eq_true ht]; rfl
  rw [h1, h2]
  show (_, endMoves l ++ [], _) = _
  rw [List.append_nil]; rfl
/-- The moves at the end, and what has been paid behind them. -/
structure Ended (l : Lot) (paid : List Int) (leader : Nat) (m : List Mv) : Prop where
  pos : 1 ≤ m.length
  le3 : m.length ≤ 3
  ok : ∀ x ∈ m, 0 ≤ x.src ∧ x.src ≤ 20 ∧ 0 ≤ x.dst ∧ x.dst ≤ 20 ∧ x.src ≠ x.dst ∧ 0 ≤ x.n ∧ x.n ≤ 2097152
  last : m.getD (m.length - 1) Flat.dflt = ⟨0, if leader = 0 then 20 else leader, 2, 3⟩
  house : (m.foldl payI paid).getD 0 0 = 0
  seller : (m.foldl payI paid).getD 20 0 = -l.price
  mine : leader ≠ 0 → (m.foldl payI paid).getD leader 0 = l.price
  rest : ∀ k, 1 ≤ k → k ≤ 8 → k ≠ leader → (m.foldl payI paid).getD k 0 = 0
theorem ended_one {l : Lot} {most paid : List Int} {leader : Nat} (h : Won l most paid leader) : Ended l paid leader (endMoves l) := by
  have hl := h.bids.ldr
  have h8 := h.bids.le8
  have ht := h.bids.top
  have hr := h.bids.right.led
  have hrs := h.bids.right.reserve
  have hs := h.bids.sel
  have hlp := h.bids.lp
  unfold endMoves
  rw [h.item, h.count, hs, hl]
  by_cases l0 : leader = 0
  · have hz := hr.resolve_right (by omega)
    obtain ⟨_, z2, z3⟩ := hz
    have e1 : movesN [⟨0, 20, 0, l.price⟩, ⟨0, leader, 0, l.most - l.price⟩, ⟨0, if (leader : Int) = 0 then 20 else leader, 2, 3⟩] = [⟨0, 20, 2, 3⟩] := by
      rw [z2, z3, l0]; rfl
    rw [e1]
    have e2 : [(⟨0, 20, 2, 3⟩ : Mv)].foldl payI paid = paid := rfl
    refine ⟨by simp, by simp, fun x hx => ?_, by rw [if_pos l0]; rfl, ?_, ?_, fun h => absurd l0 h, fun k k1 k8 kn => ?_⟩
    · obtain rfl := List.mem_singleton.1 hx; simp only; omega
    · rw [e2, h.bids.house, z2]; rfl
    · rw [e2, h.bids.seller, z3]; rfl
    · rw [e2]; exact (h.bids.rest k k1 k8 kn).2.2
  · obtain ⟨r1, r2, r3, r4, r5, r6⟩ := hr.resolve_left (fun e => l0 (by omega))
    have hln : ¬ (leader : Int) = 0 := by omega
    have hp := fun j => payL_at (paid := paid) (m := ⟨0, 20, 0, l.price⟩) ⟨by simp only; omega, by simp only; omega⟩ ⟨by simp only; omega, by simp only; omega⟩ (by simp only; omega) j
    have hmine := h.bids.mine l0
    have hhouse := h.bids.house
    have hsel := h.bids.seller
    rw [if_neg hln]
    have p1 : l.price ≠ 0 := by omega
    by_cases d0 : l.most - l.price = 0
    · have e1 : movesN [⟨0, 20, 0, l.price⟩, ⟨0, leader, 0, l.most - l.price⟩, ⟨0, leader, 2, 3⟩] = [⟨0, 20, 0, l.price⟩, ⟨0, leader, 2, 3⟩] := by
        rw [d0]; simp [movesN, p1]
      rw [e1]
      have e2 : [(⟨0, 20, 0, l.price⟩ : Mv), ⟨0, leader, 2, 3⟩].foldl payI paid = payL paid ⟨0, 20, 0, l.price⟩ := rfl
      refine ⟨by simp, by simp, fun x hx => ?_, by rw [if_neg l0]; rfl, ?_, ?_, fun _ => ?_, fun k k1 k8 kn => ?_⟩
      · simp at hx; rcases hx with rfl | rfl
        · simp only; omega
        · simp only; omega
      · rw [e2, hp, hhouse]; simp only; rw [if_pos (by omega), if_neg (by omega)]; omega
      · rw [e2, hp, hsel]; simp only; rw [if_neg (by omega), if_pos (by omega)]; omega
      · rw [e2, hp, hmine]; simp only; rw [if_neg (by omega), if_neg (by omega)]; omega
      · rw [e2, hp, (h.bids.rest k k1 k8 kn).2.2]; simp only; rw [if_neg (by omega), if_neg (by omega)]; omega
    · have e1 : movesN [⟨0, 20, 0, l.price⟩, ⟨0, leader, 0, l.most - l.price⟩, ⟨0, leader, 2, 3⟩] = [⟨0, 20, 0, l.price⟩, ⟨0, leader, 0, l.most - l.price⟩, ⟨0, leader, 2, 3⟩] := by
        simp [movesN, p1, d0]
      rw [e1]
      have hlen := payL_len paid ⟨0, 20, 0, l.price⟩
      have hq := fun j => payL_at (paid := payL paid ⟨0, 20, 0, l.price⟩) (m := ⟨0, leader, 0, l.most - l.price⟩) ⟨by simp only; omega, by simp only; omega⟩ ⟨by simp only; omega, by simp only; omega⟩ (by simp only; omega) j
      have e2 : [(⟨0, 20, 0, l.price⟩ : Mv), ⟨0, leader, 0, l.most - l.price⟩, ⟨0, leader, 2, 3⟩].foldl payI paid = payL (payL paid ⟨0, 20, 0, l.price⟩) ⟨0, leader, 0, l.most - l.price⟩ := rfl
      refine ⟨by simp, by simp, fun x hx => ?_, by rw [if_neg l0]; rfl, ?_, ?_, fun _ => ?_, fun k k1 k8 kn => ?_⟩
      · simp at hx; rcases hx with rfl | rfl | rfl
        · simp only; omega
        · simp only; omega
        · simp only; omega
      · rw [e2, hq, hp, hhouse]; simp only; rw [if_pos (by omega), if_neg (by omega), if_pos (by omega), if_neg (by omega)]; omega
      · rw [e2, hq, hp, hsel]; simp only; rw [if_neg (by omega), if_pos (by omega), if_neg (by omega), if_neg (by omega)]; omega
      · rw [e2, hq, hp, hmine]; simp only; rw [if_neg (by omega), if_neg (by omega), if_neg (by omega), if_pos trivial]; omega
      · rw [e2, hq, hp, (h.bids.rest k k1 k8 kn).2.2]; simp only; rw [if_neg (by omega), if_neg (by omega), if_neg (by omega), if_neg (by omega)]; omega
end Go.Proofs.Ytehjdbgijibmcaa
