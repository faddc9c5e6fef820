/- Layer 24: an entity that is hidden, or shown again. Plain Lean. -/
import Derived.Test.YtjefoecnciepmaaDoorZPw24
import Derived.Test.YtjefoecnciepmaaDoorZPb
set_option linter.unusedSimpArgs false
set_option linter.unusedVariables false
namespace Go.Proofs.YtjefoecnciepmaaDoor
open Go.Fw Go.RowKit
theorem or_bits {n : Int} (h : 0 ≤ n ∧ n ≤ 65535) {m : Nat} (hm : m < 65536) : borK .u16 n (m : Int) = ((n.toNat ||| m : Nat) : Int) := by
  have := bor16 (a := n.toNat) (b := m) (by omega) hm
  rwa [show ((n.toNat : Nat) : Int) = n by omega] at this
theorem or_bits_in {n : Int} (h : 0 ≤ n ∧ n ≤ 65535) {m : Nat} (hm : m < 65536) : 0 ≤ borK .u16 n (m : Int) ∧ borK .u16 n (m : Int) ≤ 65535 := by
  rw [or_bits h hm]
  have := Nat.or_lt_two_pow (n := 16) (show n.toNat < 2 ^ 16 by omega) hm
  omega
/-- The form of an entity that has a mask, and this one. -/
def hideF (f : Form) (h : Int) : Form := ⟨borK .u16 f.bits 16, f.x, f.y, f.owner, h, f.n⟩
theorem hideF_ok {f : Form} {h : Int} (hf : f.Ok) (hh : 0 ≤ h ∧ h ≤ 255) : (hideF f h).Ok := ⟨or_bits_in (m := 16) hf.bits (by omega), hf.x, hf.y, hf.owner, hh, hf.n⟩
theorem hideF_bit {f : Form} {h : Int} (hf : f.Ok) (i : Nat) : hasBit (hideF f h) i = (hasBit f i || decide (4 = i)) := by
  unfold hasBit hideF
  simp only
  rw [show borK .u16 f.bits 16 = ((f.bits.toNat ||| 16 : Nat) : Int) from or_bits (m := 16) hf.bits (by omega), Int.toNat_natCast, Nat.testBit_or, show (16 : Nat) = 2 ^ 4 from rfl, Nat.testBit_two_pow]
section
variable {f : Form} {h id : Int}
theorem hide_owns (hf : f.Ok) (ct : Int) : ownsE ct (formE id (hideF f h)) = ownsE ct (formE id f) := by
  rw [formE_owns, formE_owns, hideF_bit hf, decide_eq_false (by decide : ¬ 4 = 3), Bool.or_false]
  rfl
theorem hide_point (hf : f.Ok) : pointE (formE id (hideF f h)) = pointE (formE id f) := by
  rw [formE_point, formE_point, hideF_bit hf, decide_eq_false (by decide : ¬ 4 = 0), Bool.or_false]
  rfl
theorem hide_hid (hf : f.Ok) (ct : Nat) : hidE ct (formE id (hideF f h)) = (2 * h).toNat.testBit ct := by
  rw [formE_hid, hideF_bit hf, decide_eq_true (by decide : 4 = 4), Bool.or_true, Bool.true_and]
  rfl
end
section
variable {es A B : List Ent1} {e1 e2 : Ent1} {k : Nat} {P : Ent1 → Bool} {t : Int}
theorem set_parts (d : Ent1) (h : k < es.length) (x : Ent1) : es.set k x = es.take k ++ x :: es.drop (k + 1) := by
  rw [List.set_eq_take_append_cons_drop, if_pos h]
theorem set_ids (h : k < es.length) (hid : e1.id = (es.getD k ⟨0, []⟩).id) : (es.set k e1).map Ent1.id = es.map Ent1.id := by
  rw [List.map_set, hid]
  have : (es.map Ent1.id)[k]? = some (es.getD k ⟨0, []⟩).id := by simp [List.getD_eq_getElem?_getD, h]
  refine List.ext_getElem? fun i => ?_
  rw [List.getElem?_set]
  split
  · rename_i e; subst e
    rw [List.length_map, if_pos h, this]
  · rfl
theorem set_valid (hv : ValidW t es) (h : k < es.length) (hid : e1.id = (es.getD k ⟨0, []⟩).id) (hr : RightE e1) : ValidW t (es.set k e1) := by
  refine ⟨hv.tick, by rw [List.length_set]; exact hv.len, ?_, fun e he => ?_⟩
  · have h1 := hv.up
    unfold Rising at h1 ⊢
    rw [← List.pairwise_map (R := fun a b => a < b)] at h1 ⊢
    rw [set_ids h hid]; exact h1
  · rcases List.mem_or_eq_of_mem_set he with h1 | h1
    · exact hv.right e h1
    · rw [h1]; exact hr
theorem pts_parts (ct : Int) (ho : ownsE ct e1 = ownsE ct e2) (hp : pointE e1 = pointE e2) : ptsE ct (A ++ e1 :: B) = ptsE ct (A ++ e2 :: B) := by
  unfold ptsE
  rw [List.filter_append, List.filter_append, List.map_append, List.map_append, List.filter_cons, List.filter_cons, ho, hp]
  congr 1
  split
  · rw [List.map_cons, List.map_cons, hp]
  · rfl
theorem flt_same (hid : e1.id = e2.id) (hp : P e1 = P e2) : ((A ++ e1 :: B).filter P).map Ent1.id = ((A ++ e2 :: B).filter P).map Ent1.id := by
  rw [List.filter_append, List.filter_append, List.map_append, List.map_append, List.filter_cons, List.filter_cons, hp]
  congr 1
  split
  · rw [List.map_cons, List.map_cons, hid]
  · rfl
theorem flt_ne {l : List Ent1} {id : Int} (h : ∀ x ∈ l, x.id ≠ id) : ((l.filter P).map Ent1.id).filter (fun x => decide (x ≠ id)) = (l.filter P).map Ent1.id := by
  rw [List.filter_eq_self]
  intro x hx
  obtain ⟨y, hy, rfl⟩ := List.mem_map.1 hx
  exact decide_eq_true (h y (List.mem_filter.1 hy).1)
theorem flt_less (hp : P e2 = false) (hA : ∀ x ∈ A, x.id ≠ e1.id) (hB : ∀ x ∈ B, x.id ≠ e1.id) : (((A ++ e1 :: B).filter P).map Ent1.id).filter (fun x => decide (x ≠ e1.id)) = ((A ++ e2 :: B).filter P).map Ent1.id := by
  rw [List.filter_append, List.filter_append, List.map_append, List.map_append, List.filter_append, flt_ne hA, List.filter_cons, List.filter_cons, hp]
  congr 1
  simp only [Bool.false_eq_true, if_false]
  split
  · rw [List.map_cons, List.filter_cons, decide_eq_false (by simp)]
    simp only [Bool.false_eq_true, if_false]
    exact flt_ne hB
  · exact flt_ne hB
end
section
variable {es : List Ent1} {f : Form} {k : Nat} {id h1 h2 t : Int} {who : Int}
/-- The same list for one to whom both masks say the same, or who owns the entity. -/
theorem hides_same (hv : ValidW t es) (hk : k < es.length) (he : es.getD k ⟨0, []⟩ = formE id f) (hf : f.Ok) (b1 : 0 ≤ h1 ∧ h1 ≤ 255) (b2 : 0 ≤ h2 ∧ h2 ≤ 255) (hw : 1 ≤ who ∧ who ≤ 8)
    (h : (2 * h1).toNat.testBit who.toNat = (2 * h2).toNat.testBit who.toNat ∨ ownsE who (formE id f) = true) : visL who t (es.set k (formE id (hideF f h1))) = visL who t (es.set k (formE id (hideF f h2))) := by
  have hid : ∀ h, (formE id (hideF f h)).id = (es.getD k ⟨0, []⟩).id := fun h => by rw [he]; rfl
  have hr : RightE (formE id f) := by rw [← he]; exact hv.right _ (getD_mem hk)
  have v1 := set_valid hv hk (hid h1) (formE_right (hideF_ok hf b1) hr.id)
  have v2 := set_valid hv hk (hid h2) (formE_right (hideF_ok hf b2) hr.id)
  rw [visL_ok ⟨hw, v1⟩, visL_ok ⟨hw, v2⟩, set_parts ⟨0, []⟩ hk, set_parts ⟨0, []⟩ hk,
    pts_parts (e2 := formE id (hideF f h2)) who (by rw [hide_owns hf, hide_owns hf]) (by rw [hide_point hf, hide_point hf])]
  refine flt_same rfl ?_
  unfold seesE nearE
  rw [hide_owns hf, hide_owns hf, hide_point hf, hide_point hf, hide_hid hf, hide_hid hf]
  rw [show ((who.toNat : Nat) : Int) = who by omega]
  rcases h with h | h
  · rw [h]
  · rw [h]; rfl
/-- The list of one from whom it is hidden, and who does not own it. -/
theorem hides_less (hv : ValidW t es) (hk : k < es.length) (he : es.getD k ⟨0, []⟩ = formE id f) (hf : f.Ok) (b1 : 0 ≤ h1 ∧ h1 ≤ 255) (b2 : 0 ≤ h2 ∧ h2 ≤ 255) (hw : 1 ≤ who ∧ who ≤ 8)
    (h : (2 * h2).toNat.testBit who.toNat = true) (ho : ownsE who (formE id f) = false) : (visL who t (es.set k (formE id (hideF f h1)))).filter (fun x => decide (x ≠ id)) = visL who t (es.set k (formE id (hideF f h2))) := by
  have hid : ∀ h, (formE id (hideF f h)).id = (es.getD k ⟨0, []⟩).id := fun h => by rw [he]; rfl
  have hr : RightE (formE id f) := by rw [← he]; exact hv.right _ (getD_mem hk)
  have v1 := set_valid hv hk (hid h1) (formE_right (hideF_ok hf b1) hr.id)
  have v2 := set_valid hv hk (hid h2) (formE_right (hideF_ok hf b2) hr.id)
  have hne : ∀ i, i < es.length → i ≠ k → (es.getD i ⟨0, []⟩).id ≠ id := fun i hi hik => by
    have e : (es.getD k ⟨0, []⟩).id = id := by rw [he]; rfl
    rcases Nat.lt_or_gt_of_ne hik with h | h
    · have := rising_at ⟨0, []⟩ hv.up h hk; omega
    · have := rising_at ⟨0, []⟩ hv.up h hi; omega
  rw [visL_ok ⟨hw, v1⟩, visL_ok ⟨hw, v2⟩, set_parts ⟨0, []⟩ hk, set_parts ⟨0, []⟩ hk,
    pts_parts (e2 := formE id (hideF f h2)) who (by rw [hide_owns hf, hide_owns hf]) (by rw [hide_point hf, hide_point hf])]
  refine flt_less (e1 := formE id (hideF f h1)) ?_ (fun x hx => ?_) (fun x hx => ?_)
  · unfold seesE
    rw [hide_owns hf, hide_hid hf, show ((who.toNat : Nat) : Int) = who by omega, ho, h]; rfl
  · obtain ⟨i, hi, rfl⟩ := List.getElem_of_mem hx
    rw [List.length_take] at hi
    rw [List.getElem_take]
    have := hne i (by omega) (by omega)
    rw [List.getD_eq_getElem?_getD, List.getElem?_eq_getElem (by omega)] at this
    exact this
  · obtain ⟨i, hi, rfl⟩ := List.getElem_of_mem hx
    rw [List.length_drop] at hi
    rw [List.getElem_drop]
    have := hne (k + 1 + i) (by omega) (by omega)
    rw [List.getD_eq_getElem?_getD, List.getElem?_eq_getElem (by omega)] at this
    exact this
end
end Go.Proofs.YtjefoecnciepmaaDoor
