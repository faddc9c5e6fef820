/- Layer 24: what is not in the view does not matter. Plain Lean. -/
import Derived.Test.YtjefoecnciepmaaDoorZPo24
set_option linter.unusedSimpArgs false
set_option linter.unusedVariables false
namespace Go.Proofs.YtjefoecnciepmaaDoor
open Go.Fw Go.RowKit
section
variable {ct t : Int} {es fs : List Ent1} {e : Ent1} {ps : List Pt}
theorem view_point (h : RightE e) : pointE (viewE ct e) = pointE e := by
  unfold pointE
  rw [view_comp h (.inl rfl)]
theorem view_hid (h : RightE e) (ho : ownsE ct e = false) (c : Nat) : hidE c (viewE ct e) = false := by
  unfold hidE viewE
  simp only
  rw [partC_eq h]
  have : compK 5 (e.comps.filter (keepC ct e)) = none := by
    unfold compK
    rw [List.find?_eq_none]
    intro x hx
    have hk := (List.mem_filter.1 hx).2
    unfold keepC at hk
    rw [ho, Bool.false_or] at hk
    have := (of_decide_eq_true hk).1
    simpa using this
  rw [this]
theorem view_near (h : RightE e) : nearE ps (viewE ct e) = nearE ps e := by
  unfold nearE
  rw [view_point h]
/-- What is seen is seen in the view, too. -/
theorem view_sees (h : RightE e) (hc : 1 ≤ ct) (hs : seesE ct.toNat ps e = true) : seesE ct.toNat ps (viewE ct e) = true := by
  unfold seesE at *
  rw [show ((ct.toNat : Nat) : Int) = ct by omega] at *
  rw [view_owns h, view_near h]
  cases ho : ownsE ct e
  · rw [ho, Bool.false_or, Bool.and_eq_true] at hs
    rw [view_hid h ho, hs.2]; rfl
  · rfl
theorem view_view (h : RightE e) : viewE ct (viewE ct e) = viewE ct e := by
  have hr := view_right (ct := ct) h
  have e1 : viewE ct (viewE ct e) = ⟨e.id, (viewE ct e).comps.filter (keepC ct (viewE ct e))⟩ := by
    show (⟨e.id, partC (maskE ct (viewE ct e)) (viewE ct e).comps⟩ : Ent1) = _
    rw [partC_eq hr]
  have e2 : viewE ct e = ⟨e.id, e.comps.filter (keepC ct e)⟩ := by
    show (⟨e.id, partC (maskE ct e) e.comps⟩ : Ent1) = _
    rw [partC_eq h]
  have e3 : keepC ct (viewE ct e) = keepC ct e := by
    funext c
    unfold keepC
    rw [view_owns h]
  rw [e1, e3, e2]
  simp only [Ent1.mk.injEq, true_and]
  rw [List.filter_filter]
  refine List.filter_congr fun c _ => ?_
  cases keepC ct e c <;> rfl
/-- The points of the own entities, of a list in which all own ones are. -/
theorem pts_filter (P : Ent1 → Bool) (h : ∀ e ∈ es, ownsE ct e = true → P e = true) : ptsE ct (es.filter P) = ptsE ct es := by
  unfold ptsE
  rw [List.filter_filter]
  congr 1
  refine List.filter_congr fun e he => ?_
  cases ho : ownsE ct e
  · simp
  · rw [h e he ho]; simp
theorem pts_map (g : Ent1 → Ent1) (h : ∀ e ∈ es, ownsE ct (g e) = ownsE ct e ∧ pointE (g e) = pointE e) : ptsE ct (es.map g) = ptsE ct es := by
  unfold ptsE
  rw [List.filter_map, List.map_map]
  have h1 : es.filter ((fun e => (pointE e).isSome && ownsE ct e) ∘ g) = es.filter (fun e => (pointE e).isSome && ownsE ct e) := by
    refine List.filter_congr fun e he => ?_
    simp only [Function.comp]
    rw [(h e he).1, (h e he).2]
  rw [h1]
  refine List.map_congr_left fun e he => ?_
  simp only [Function.comp]
  rw [(h e (List.mem_filter.1 he).1).2]
/-- The view of the view is the view. -/
theorem blind_view (h : OkI ct t es) : viewL ct t (viewL ct t es) = viewL ct t es := by
  have hv := view_valid (ct := ct) h.2 (seesE ct.toNat (ptsE ct es))
  rw [viewL_ok h]
  rw [viewL_ok ⟨h.1, hv⟩]
  have hp : ptsE ct ((es.filter (seesE ct.toNat (ptsE ct es))).map (viewE ct)) = ptsE ct es := by
    rw [pts_map _ (fun e he => ⟨view_owns (h.2.right e (List.mem_filter.1 he).1), view_point (h.2.right e (List.mem_filter.1 he).1)⟩)]
    exact pts_filter _ (fun e _ ho => own_sees h.1.1 ho)
  rw [hp]
  have ha : ((es.filter (seesE ct.toNat (ptsE ct es))).map (viewE ct)).filter (seesE ct.toNat (ptsE ct es)) = (es.filter (seesE ct.toNat (ptsE ct es))).map (viewE ct) := by
    rw [List.filter_eq_self]
    intro x hx
    obtain ⟨e, he, rfl⟩ := List.mem_map.1 hx
    obtain ⟨he, hs⟩ := List.mem_filter.1 he
    exact view_sees (h.2.right e he) h.1.1 hs
  rw [ha, List.map_map]
  refine List.map_congr_left fun e he => ?_
  exact view_view (h.2.right e (List.mem_filter.1 he).1)
/-- Without all that is not seen the view is the same. -/
theorem blind_less (h : OkI ct t es) : viewL ct t (es.filter (seesE ct.toNat (ptsE ct es))) = viewL ct t es := by
  have hv := filt_valid h.2 (seesE ct.toNat (ptsE ct es)) h.2.tick
  rw [viewL_ok h, viewL_ok ⟨h.1, hv⟩, pts_filter _ (fun e _ ho => own_sees h.1.1 ho), List.filter_filter]
  congr 1
  refine List.filter_congr fun e _ => ?_
  cases seesE ct.toNat (ptsE ct es) e <;> rfl
end
end Go.Proofs.YtjefoecnciepmaaDoor
