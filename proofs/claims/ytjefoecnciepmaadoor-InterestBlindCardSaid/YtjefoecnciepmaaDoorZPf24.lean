/- Layer 24: what is in the lists of a world that is made. Plain Lean. -/
import Derived.Test.YtjefoecnciepmaaDoorZPm24
import Derived.Test.YtjefoecnciepmaaDoorZIh
import Derived.Test.YtjefoecnciepmaaDoorZLj
set_option linter.unusedSimpArgs false
set_option linter.unusedVariables false
namespace Go.Proofs.YtjefoecnciepmaaDoor
open Go.Fw Go.RowKit
section
variable {ct t : Int} {es : List Ent1} {e : Ent1}
theorem filt_in (h : Rising Ent1.id es) (p : Ent1 → Bool) (he : e ∈ es) : decide (e.id ∈ (es.filter p).map Ent1.id) = p e := by
  have : e.id ∈ (es.filter p).map Ent1.id ↔ p e = true := by
    constructor
    · intro hm
      obtain ⟨y, hy, hid⟩ := List.mem_map.1 hm
      obtain ⟨hy, hp⟩ := List.mem_filter.1 hy
      rw [← rising_inj h hy he hid]; exact hp
    · intro hp
      exact List.mem_map_of_mem (List.mem_filter.2 ⟨he, hp⟩)
  cases hp : p e
  · rw [hp] at this; exact decide_eq_false (fun x => by have := this.1 x; cases this)
  · rw [hp] at this; exact decide_eq_true (this.2 rfl)
theorem entOf_mem (h : Rising Ent1.id es) (he : e ∈ es) : entOf e.id es = some e := by
  unfold entOf
  cases hf : es.find? fun x => decide (x.id = e.id) with
  | none =>
    rw [List.find?_eq_none] at hf
    have := hf _ he
    simp at this
  | some y =>
    have h1 := List.mem_of_find?_eq_some hf
    have h2 := List.find?_some hf
    simp only [decide_eq_true_eq] at h2
    rw [rising_inj h h1 he h2]
theorem seeB_mem (hv : OkI ct t es) (he : e ∈ es) : seeB ct e.id t es = seesE ct.toNat (ptsE ct es) e := by
  unfold seeB
  rw [decide_eq_true hv, entOf_mem hv.2.up he]; rfl
theorem seeErr_mem (hv : OkI ct t es) (he : e ∈ es) : seeErr ct e.id t es = 0 := by
  unfold seeErr
  rw [if_pos hv, entOf_mem hv.2.up he]
theorem watErr_mem (hv : ValidW t es) (he : e ∈ es) : watErr e.id t es = 0 := by
  unfold watErr
  rw [if_pos hv, entOf_mem hv.up he]
theorem watL_mem {id : Int} (hw : watErr id t es = 0) (hc : 1 ≤ ct ∧ ct ≤ 8) : decide (ct ∈ watL id t es) = seeB ct id t es := by
  have : ct ∈ watL id t es ↔ seeB ct id t es = true := by
    unfold watL
    rw [if_pos hw]
    unfold watN
    simp only [List.mem_map, List.mem_filter, List.mem_range]
    constructor
    · rintro ⟨k, ⟨_, h2⟩, rfl⟩; exact h2
    · intro h
      refine ⟨(ct - 1).toNat, ⟨by omega, ?_⟩, by omega⟩
      rw [show (((ct - 1).toNat : Nat) : Int) + 1 = ct by omega]; exact h
  cases hp : seeB ct id t es
  · rw [hp] at this; exact decide_eq_false (fun x => by have := this.1 x; cases this)
  · rw [hp] at this; exact decide_eq_true (this.2 rfl)
theorem visL_up (hv : OkI ct t es) : (visL ct t es).Pairwise (· < ·) := by
  unfold visL
  rw [if_pos hv, List.pairwise_map]
  exact List.Pairwise.filter _ hv.2.up
theorem visL_ok (hv : OkI ct t es) : visL ct t es = (es.filter (seesE ct.toNat (ptsE ct es))).map Ent1.id := by unfold visL; rw [if_pos hv]
theorem ownL_ok (hv : OkI ct t es) : ownL ct t es = (es.filter (ownsE ct)).map Ent1.id := by unfold ownL; rw [if_pos hv]
theorem errI_ok (hv : OkI ct t es) : errI ct t es = 0 := by unfold errI; rw [if_pos hv]
/-- Is a place near that of an own entity? -/
def nearQ (e q : Ent1) : Bool := match pointE e, pointE q with
  | some a, some b => decide (gapP a b ≤ 16384)
  | _, _ => false
theorem near_any (e : Ent1) : (es.filter (ownsE ct)).any (fun q => nearQ e q) = nearE (ptsE ct es) e := by
  unfold nearE nearQ ptsE
  cases hp : pointE e with
  | none => simp
  | some a =>
    simp only
    rw [List.any_map, List.any_filter, List.any_filter]
    congr 1
    funext q
    cases hq : pointE q with
    | none => simp [hq]
    | some b => simp [hq, ptD]
theorem any_and {α : Type} (p : α → Bool) (b : Bool) (l : List α) : (l.any fun q => p q && b) = (l.any p && b) := by
  induction l with
  | nil => simp
  | cons x l ih => rw [List.any_cons, List.any_cons, ih]; cases p x <;> cases b <;> simp
/-- What the law finds with all own ones is what is seen. -/
theorem sees_any (c : Nat) (e : Ent1) : (ownsE ct e || (es.filter (ownsE ct)).any fun q => nearQ e q && !hidE c e) = (ownsE ct e || (!hidE c e && nearE (ptsE ct es) e)) := by
  rw [any_and, near_any, Bool.and_comm]
/-- How many entities a list of numbers has. -/
theorem count_next (p : Ent1 → Bool) (es : List Ent1) {k : Nat} (h : k < es.length) : ((es.take (k + 1)).filter p).length = ((es.take k).filter p).length + (if p (es.getD k ⟨0, []⟩) then 1 else 0) := by
  obtain ⟨x, hx⟩ : ∃ x, es.getD k ⟨0, []⟩ = x := ⟨_, rfl⟩
  have e1 : es.take (k + 1) = es.take k ++ [x] := by
    rw [List.take_add_one, ← hx]
    simp [List.getD_eq_getElem?_getD, h]
  rw [hx, e1, List.filter_append, List.length_append]
  congr 1
  cases hp : p x <;> simp [hp]
theorem made_id {l : List Form} {k : Nat} (he : e ∈ madeN l k) : ∃ i : Nat, i < k ∧ e.id = 3 + 3 * (i : Int) ∧ (madeN l k).getD i ⟨0, []⟩ = e := by
  obtain ⟨i, hi, rfl⟩ := madeN_mem.1 he
  exact ⟨i, hi, rfl, madeN_at hi⟩
theorem any_next {α : Type} (d : α) (p : α → Bool) (l : List α) {k : Nat} (h : k < l.length) : (l.take (k + 1)).any p = ((l.take k).any p || p (l.getD k d)) := by
  have e1 : l.take (k + 1) = l.take k ++ [l.getD k d] := by
    rw [List.take_add_one]
    simp [List.getD_eq_getElem?_getD, h]
  rw [e1, List.any_append]
  simp
theorem made_comps {l : List Form} {k : Nat} (he : e ∈ madeN l k) : e.comps.length ≤ 10 := by
  obtain ⟨i, hi, rfl⟩ := madeN_mem.1 he
  exact formN_len _ 10
theorem made_sz {L : List EntP} (h : ents L = es) (hn : es.length ≤ 64) (hc : ∀ e ∈ es, e.comps.length ≤ 10) : Sz L ∧ ∀ x ∈ L, x.e.comps.length ≤ 1000000 := by
  have hl : L.length = es.length := by rw [← ents_len, h]
  have hx : ∀ x ∈ L, x.e.comps.length ≤ 10 := fun x hx => hc _ (by rw [← h]; exact List.mem_map_of_mem hx)
  exact ⟨⟨by omega, fun x h => by have := hx x h; omega⟩, fun x h => by have := hx x h; omega⟩
theorem ents_at24 {L : List EntP} {k : Nat} (h : k < L.length) : (L.getD k Flat.dflt).e = (ents L).getD k ⟨0, []⟩ := by
  unfold ents
  simp [List.getD_eq_getElem?_getD, h]
/-- How many of the first entities are of a kind. -/
def cnt (p : Ent1 → Bool) (es : List Ent1) (k : Nat) : Nat := ((es.take k).filter p).length
theorem cnt_next (p : Ent1 → Bool) (es : List Ent1) {k : Nat} (h : k < es.length) : cnt p es (k + 1) = cnt p es k + (if p (es.getD k ⟨0, []⟩) then 1 else 0) := count_next p es h
theorem cnt_all (p : Ent1 → Bool) (es : List Ent1) : cnt p es es.length = (es.filter p).length := by unfold cnt; rw [List.take_length]
theorem cnt_le (p : Ent1 → Bool) (es : List Ent1) (k : Nat) : cnt p es k ≤ es.length := by
  unfold cnt
  have h1 := List.length_filter_le p (es.take k)
  have h2 := List.length_take_le' k es
  omega
theorem own_any (hid : ∀ e ∈ es, ∃ i : Nat, i < es.length ∧ e.id = 3 + 3 * (i : Int) ∧ es.getD i ⟨0, []⟩ = e) (p F : Ent1 → Bool) : (((es.filter p).map Ent1.id).any fun id => F (es.getD (id / 3 - 1).toNat ⟨0, []⟩)) = (es.filter p).any F := by
  rw [List.any_map]
  refine Bool.eq_iff_iff.2 ?_
  simp only [List.any_eq_true, Function.comp]
  have key : ∀ q ∈ es.filter p, es.getD (q.id / 3 - 1).toNat ⟨0, []⟩ = q := fun q hq => by
    obtain ⟨i, _, h2, h3⟩ := hid q (List.mem_filter.1 hq).1
    rw [h2, show ((3 + 3 * (i : Int)) / 3 - 1).toNat = i by omega]; exact h3
  constructor
  · rintro ⟨q, hq, hF⟩; rw [key q hq] at hF; exact ⟨q, hq, hF⟩
  · rintro ⟨q, hq, hF⟩; exact ⟨q, hq, by rw [key q hq]; exact hF⟩
theorem pos_in {k a b c d : Int} (h : RightE e) (hy : compD (compK 1 e.comps) = ⟨k, a, b, c, d⟩) : (-1048576 ≤ a ∧ a ≤ 1048576) ∧ (-1048576 ≤ b ∧ b ≤ 1048576) := by
  cases hc : compK 1 e.comps with
  | none => rw [hc] at hy; cases hy; omega
  | some x =>
    rw [hc] at hy
    have hy : x = _ := hy
    obtain ⟨h1, h2⟩ := compK_mem hc
    have := fits_pos (h.fits x h1) h2
    rw [hy] at this; exact this
theorem hide_in {k a b c d : Int} (h : RightE e) (hy : compD (compK 5 e.comps) = ⟨k, a, b, c, d⟩) : 0 ≤ a ∧ a ≤ 510 := by
  cases hc : compK 5 e.comps with
  | none => rw [hc] at hy; cases hy; omega
  | some x =>
    rw [hc] at hy
    have hy : x = _ := hy
    obtain ⟨h1, h2⟩ := compK_mem hc
    have := fits_hide (h.fits x h1) h2
    rw [hy] at this; exact this
theorem nearQ_eq {q : Ent1} {k1 px py pz pw kq qx qy qz qw : Int} {z1 zq : Bool} (h1 : compD (compK 1 e.comps) = ⟨k1, px, py, pz, pw⟩) (g1 : (compK 1 e.comps).isSome = z1) (h2 : compD (compK 1 q.comps) = ⟨kq, qx, qy, qz, qw⟩) (g2 : (compK 1 q.comps).isSome = zq) :
    nearQ e q = (z1 && (zq && decide (max (px - qx) (max (0 - (px - qx)) (max (py - qy) (0 - (py - qy)))) ≤ 16384))) := by
  unfold nearQ pointE
  cases hc : compK 1 e.comps with
  | none => rw [hc] at g1; subst g1; rfl
  | some x =>
    rw [hc] at g1 h1
    subst g1
    have h1 : x = _ := h1
    cases hd : compK 1 q.comps with
    | none => rw [hd] at g2; subst g2; rfl
    | some y =>
      rw [hd] at g2 h2
      subst g2
      have h2 : y = _ := h2
      subst h1 h2
      simp only [Option.map_some, Option.isSome_some, Bool.true_and]
      refine decide_eq_decide.2 ?_
      unfold gapP
      simp only
      omega
theorem hid_eq {k5 ha hb hc hd : Int} (c : Nat) (h : compD (compK 5 e.comps) = ⟨k5, ha, hb, hc, hd⟩) : hidE c e = ha.toNat.testBit c := by
  unfold hidE
  cases hx : compK 5 e.comps with
  | none => rw [hx] at h; cases h; simp
  | some x =>
    rw [hx] at h
    have h : x = _ := h
    rw [h]
theorem hide_shift : ∀ a < 512, ∀ c < 9, bandK .i64 (((a : Nat) : Int).fdiv (2 ^ (min c 64))) 1 = if Nat.testBit a c then 1 else 0 := by decide +kernel
end
end Go.Proofs.YtjefoecnciepmaaDoor
