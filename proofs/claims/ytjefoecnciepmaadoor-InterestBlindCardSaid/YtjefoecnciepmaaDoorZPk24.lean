/- Layer 24: the world of InterestBlind in which others stand in the places of those that are not seen. Plain Lean. -/
import Derived.Test.YtjefoecnciepmaaDoorZPj24
set_option linter.unusedSimpArgs false
set_option linter.unusedVariables false
namespace Go.Proofs.YtjefoecnciepmaaDoor
open Go.Fw Go.RowKit
section
variable (ct : Int) (ps : List Pt) (n : Int) (es : List Ent1) (fs : List Form)
/-- What stands for entity i. -/
def pkE (i : Nat) (e : Ent1) : List Ent1 :=
  if seesE ct.toNat ps e then [if ownsE ct e then e else chgE ct.toNat n e] else if i < fs.length then [formE e.id (othF (ct - 1).toNat (fs.getD i Flat.dflt))] else []
def pkL (k : Nat) : List (Ent1 × List Ent1) := (List.range k).map fun i => (es.getD i ⟨0, []⟩, pkE ct ps n fs i (es.getD i ⟨0, []⟩))
def moreL (k : Nat) : List Ent1 := (pkL ct ps n es fs k).flatMap Prod.snd
theorem moreL_next (k : Nat) : moreL ct ps n es fs (k + 1) = moreL ct ps n es fs k ++ pkE ct ps n fs k (es.getD k ⟨0, []⟩) := by
  unfold moreL pkL
  rw [List.range_succ, List.map_append, List.flatMap_append]
  simp
theorem moreL_len : ∀ k, (moreL ct ps n es fs k).length ≤ k
  | 0 => Nat.le_refl _
  | k + 1 => by
    rw [moreL_next, List.length_append]
    have h1 := moreL_len k
    have h2 : (pkE ct ps n fs k (es.getD k ⟨0, []⟩)).length ≤ 1 := by
      unfold pkE
      split
      · exact Nat.le_refl _
      · split
        · exact Nat.le_refl _
        · exact Nat.zero_le _
    omega
theorem pkL_fst : (pkL ct ps n es fs es.length).map Prod.fst = es := by
  unfold pkL
  rw [List.map_map]
  refine List.ext_getElem? fun i => ?_
  by_cases h : i < es.length
  · rw [List.getElem?_map, List.getElem?_range h]
    simp [h, List.getD_eq_getElem?_getD]
  · rw [List.getElem?_eq_none (by simp; omega), List.getElem?_eq_none (by omega)]
variable {ct ps n es fs}
theorem pkE_ok {t : Int} (hc : 1 ≤ ct ∧ ct ≤ 8) (hn : 0 ≤ n ∧ n ≤ 255) (hv : ValidW t es) (hf : ∀ f ∈ fs, f.Ok) : ∀ p ∈ pkL ct ps n es fs es.length, PkOk ct ps p := fun p hp => by
  unfold pkL at hp
  obtain ⟨i, hi, rfl⟩ := List.mem_map.1 hp
  have hi := List.mem_range.1 hi
  have hr := hv.right _ (getD_mem (d := (⟨0, []⟩ : Ent1)) hi)
  obtain ⟨e, he⟩ : ∃ e, es.getD i ⟨0, []⟩ = e := ⟨_, rfl⟩
  rw [he] at hr ⊢
  have hcn : 1 ≤ ct.toNat ∧ ct.toNat ≤ 8 := by omega
  unfold PkOk pkE
  simp only
  cases hs : seesE ct.toNat ps e
  · refine .inr ⟨rfl, ?_⟩
    rw [if_neg (by decide)]
    by_cases hl : i < fs.length
    · rw [if_pos hl]
      have hfo := hf _ (getD_mem (d := Flat.dflt) hl)
      refine .inr ⟨_, rfl, rfl, formE_right (othF_ok hfo (by omega)) hr.id, othF_owns hfo ct, ?_⟩
      have := othF_sees (id := e.id) (cn := (ct - 1).toNat) hfo (by omega) ps
      rwa [show (ct - 1).toNat + 1 = ct.toNat by omega] at this
    · rw [if_neg hl]
      exact .inl rfl
  · refine .inl ⟨rfl, ?_⟩
    rw [if_pos rfl]
    cases ho : ownsE ct e
    · rw [if_neg (by decide)]
      refine ⟨_, rfl, rfl, chg_right hr hcn hn, by rw [chg_owns, ho], chg_point, ?_, chg_view hr hcn hn ho⟩
      unfold seesE nearE at *
      rw [chg_owns, chg_hid hr hcn, chg_point]
      exact hs
    · rw [if_pos rfl]
      exact ⟨_, rfl, rfl, hr, ho, rfl, hs, rfl⟩
/-- The view of that world is the view. -/
theorem more_view {t : Int} (h : OkI ct t es) (hn : 0 ≤ n ∧ n ≤ 255) (hf : ∀ f ∈ fs, f.Ok) : ValidW t (moreL ct (ptsE ct es) n es fs es.length) ∧ viewL ct t (moreL ct (ptsE ct es) n es fs es.length) = viewL ct t es := by
  have hp := pkE_ok (ps := ptsE ct es) h.1 hn h.2 hf
  have hfst := pkL_fst ct (ptsE ct es) n es fs
  have hv : ValidW t ((pkL ct (ptsE ct es) n es fs es.length).map Prod.fst) := by rw [hfst]; exact h.2
  refine ⟨pk_valid hv hp, ?_⟩
  have := blind_more h.1 hv (by rw [hfst]; exact hp)
  rw [hfst] at this
  exact this
end
end Go.Proofs.YtjefoecnciepmaaDoor
