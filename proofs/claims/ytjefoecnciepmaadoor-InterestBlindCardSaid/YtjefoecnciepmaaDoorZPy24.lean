/- Layer 24: others in the places of those that are not seen. Plain Lean. -/
import Derived.Test.YtjefoecnciepmaaDoorZPz24
set_option linter.unusedSimpArgs false
set_option linter.unusedVariables false
namespace Go.Proofs.YtjefoecnciepmaaDoor
open Go.Fw Go.RowKit
/-- What stands for an entity in another world: a like one for one that is seen; nothing, or one that is not seen, for one that is not. -/
def PkOk (ct : Int) (ps : List Pt) (p : Ent1 × List Ent1) : Prop :=
  (seesE ct.toNat ps p.1 = true ∧ ∃ x, p.2 = [x] ∧ x.id = p.1.id ∧ RightE x ∧ ownsE ct x = ownsE ct p.1 ∧ pointE x = pointE p.1 ∧ seesE ct.toNat ps x = true ∧ viewE ct x = viewE ct p.1) ∨
  (seesE ct.toNat ps p.1 = false ∧ (p.2 = [] ∨ ∃ x, p.2 = [x] ∧ x.id = p.1.id ∧ RightE x ∧ ownsE ct x = false ∧ seesE ct.toNat ps x = false))
section
variable {ct t : Int} {ps : List Pt}
theorem pts_cons (e : Ent1) (l : List Ent1) : ptsE ct (e :: l) = (if (pointE e).isSome && ownsE ct e then [ptD (pointE e)] else []) ++ ptsE ct l := by
  unfold ptsE
  rw [List.filter_cons]
  split <;> rfl
theorem own_sees' {e : Ent1} (hc : 1 ≤ ct) (h : seesE ct.toNat ps e = false) : ownsE ct e = false := by
  cases ho : ownsE ct e
  · rfl
  · rw [own_sees hc ho] at h; cases h
theorem pk_pts (hc : 1 ≤ ct) : ∀ l : List (Ent1 × List Ent1), (∀ p ∈ l, PkOk ct ps p) → ptsE ct (l.flatMap Prod.snd) = ptsE ct (l.map Prod.fst)
  | [], _ => rfl
  | p :: l, h => by
    have ih := pk_pts hc l (fun q hq => h q (List.mem_cons_of_mem _ hq))
    rw [List.flatMap_cons, List.map_cons, pts_cons]
    rcases h p (List.mem_cons_self ..) with ⟨_, x, hx, _, _, ho, hp, _, _⟩ | ⟨hs, hx | ⟨x, hx, _, _, ho, _⟩⟩
    · rw [hx, List.singleton_append, pts_cons, ho, hp, ih]
    · rw [hx, List.nil_append, own_sees' hc hs, Bool.and_false, ih]; rfl
    · rw [hx, List.singleton_append, pts_cons, ho, own_sees' hc hs, Bool.and_false, Bool.and_false, ih]
      simp
theorem pk_view : ∀ l : List (Ent1 × List Ent1), (∀ p ∈ l, PkOk ct ps p) → ((l.flatMap Prod.snd).filter (seesE ct.toNat ps)).map (viewE ct) = ((l.map Prod.fst).filter (seesE ct.toNat ps)).map (viewE ct)
  | [], _ => rfl
  | p :: l, h => by
    have ih := pk_view l (fun q hq => h q (List.mem_cons_of_mem _ hq))
    rw [List.flatMap_cons, List.map_cons, List.filter_append, List.map_append, List.filter_cons]
    rcases h p (List.mem_cons_self ..) with ⟨hs, x, hx, _, _, _, _, hsx, hv⟩ | ⟨hs, hx | ⟨x, hx, _, _, _, hsx⟩⟩
    · rw [hx, List.filter_cons, hsx, hs, ih]
      simp [hv]
    · rw [hx, hs, ih]; rfl
    · rw [hx, List.filter_cons, hsx, hs, ih]; rfl
theorem pk_ids : ∀ l : List (Ent1 × List Ent1), (∀ p ∈ l, PkOk ct ps p) → ((l.flatMap Prod.snd).map Ent1.id).Sublist ((l.map Prod.fst).map Ent1.id)
  | [], _ => List.Sublist.refl _
  | p :: l, h => by
    have ih := pk_ids l (fun q hq => h q (List.mem_cons_of_mem _ hq))
    rw [List.flatMap_cons, List.map_append, List.map_cons, List.map_cons]
    rcases h p (List.mem_cons_self ..) with ⟨_, x, hx, hid, _⟩ | ⟨_, hx | ⟨x, hx, hid, _⟩⟩
    · rw [hx, List.map_singleton, hid]; exact ih.cons_cons _
    · rw [hx]; exact ih.cons _
    · rw [hx, List.map_singleton, hid]; exact ih.cons_cons _
theorem pk_right (l : List (Ent1 × List Ent1)) (h : ∀ p ∈ l, PkOk ct ps p) : ∀ e ∈ l.flatMap Prod.snd, RightE e := fun e he => by
  obtain ⟨p, hp, hm⟩ := List.mem_flatMap.1 he
  rcases h p hp with ⟨_, x, hx, _, hr, _⟩ | ⟨_, hx | ⟨x, hx, _, hr, _⟩⟩
  · rw [hx] at hm; rw [List.mem_singleton.1 hm]; exact hr
  · rw [hx] at hm; cases hm
  · rw [hx] at hm; rw [List.mem_singleton.1 hm]; exact hr
theorem pk_valid {l : List (Ent1 × List Ent1)} (hv : ValidW t (l.map Prod.fst)) (h : ∀ p ∈ l, PkOk ct ps p) : ValidW t (l.flatMap Prod.snd) := by
  have hs := pk_ids l h
  refine ⟨hv.tick, ?_, ?_, pk_right l h⟩
  · have h1 := hs.length_le
    rw [List.length_map, List.length_map] at h1
    have := hv.len
    omega
  · have h1 := hv.up
    unfold Rising at *
    rw [← List.pairwise_map (R := fun a b => a < b)] at h1 ⊢
    exact h1.sublist hs
/-- The view of a world in which others stand in the places of those that are not seen. -/
theorem blind_more {l : List (Ent1 × List Ent1)} (hc : 1 ≤ ct ∧ ct ≤ 8) (hv : ValidW t (l.map Prod.fst)) (h : ∀ p ∈ l, PkOk ct (ptsE ct (l.map Prod.fst)) p) : viewL ct t (l.flatMap Prod.snd) = viewL ct t (l.map Prod.fst) := by
  rw [viewL_ok ⟨hc, pk_valid hv h⟩, viewL_ok ⟨hc, hv⟩, pk_pts hc.1 l h]
  exact pk_view l h
end
/-- A mask of which all bits but one are turned. -/
def turnX (c : Nat) (a : Int) : Int := bxorK .i64 a (bclrK .i64 510 (2 ^ c))
theorem turnX_ok : ∀ a < 256, ∀ c < 9, 1 ≤ c → (0 ≤ turnX c (2 * ((a : Nat) : Int)) ∧ turnX c (2 * ((a : Nat) : Int)) ≤ 510) ∧ turnX c (2 * ((a : Nat) : Int)) % 2 = 0 ∧ (turnX c (2 * ((a : Nat) : Int))).toNat.testBit c = (2 * a).testBit c := by decide +kernel
/-- Components that are not public are changed. -/
def chgC (ct : Nat) (n : Int) (c : Comp) : Comp :=
  if c.kind = 5 then ⟨c.kind, turnX ct c.a, c.b, c.c, c.d⟩ else if c.kind = 7 then ⟨c.kind, c.a, c.b, c.c, n⟩ else if c.kind = 9 then ⟨c.kind, n, c.b, c.c, c.d⟩ else if c.kind = 6 then ⟨c.kind, n % 16, c.b, c.c, c.d⟩ else c
def chgE (ct : Nat) (n : Int) (e : Ent1) : Ent1 := ⟨e.id, e.comps.map (chgC ct n)⟩
section
variable {cn : Nat} {n k : Int} {e : Ent1}
theorem chgC_kind (c : Comp) : (chgC cn n c).kind = c.kind := by
  unfold chgC
  split
  · rfl
  · split
    · rfl
    · split
      · rfl
      · split <;> rfl
theorem chg_compK (l : List Comp) : compK k (l.map (chgC cn n)) = (compK k l).map (chgC cn n) := by
  unfold compK
  rw [List.find?_map]
  congr 2
  funext c
  simp only [Function.comp]
  rw [chgC_kind]
theorem chgC_keep {c : Comp} (h : c.kind ≠ 5 ∧ c.kind ≠ 6 ∧ c.kind ≠ 7 ∧ c.kind ≠ 9) : chgC cn n c = c := by
  unfold chgC
  rw [if_neg h.1, if_neg h.2.2.1, if_neg h.2.2.2, if_neg h.2.1]
theorem chg_keep (hk : k = 1 ∨ k = 4) (l : List Comp) : compK k (l.map (chgC cn n)) = compK k l := by
  rw [chg_compK]
  cases h : compK k l with
  | none => rfl
  | some c =>
    have := (compK_mem h).2
    rw [Option.map_some, chgC_keep (by omega)]
theorem chg_owns (ct : Int) : ownsE ct (chgE cn n e) = ownsE ct e := by
  unfold ownsE chgE
  simp only
  rw [chg_keep (.inr rfl)]
theorem chg_point : pointE (chgE cn n e) = pointE e := by
  unfold pointE chgE
  simp only
  rw [chg_keep (.inl rfl)]
theorem chg_fits {c : Comp} (h : Fits c) (hc : 1 ≤ cn ∧ cn ≤ 8) (hn : 0 ≤ n ∧ n ≤ 255) : Fits (chgC cn n c) := by
  have hr := h.rng
  unfold chgC
  split
  · rename_i hk
    have ha := fits_hide h hk
    have he := h.hide hk
    obtain ⟨a, ha2⟩ : ∃ a : Nat, c.a = 2 * (a : Int) := ⟨(c.a / 2).toNat, by omega⟩
    obtain ⟨h1, h2, _⟩ := turnX_ok a (by omega) cn (by omega) hc.1
    refine ⟨h.kind, ?_, fun h3 => by have h3 : c.kind = 3 := h3; omega, fun _ => by show turnX cn c.a % 2 = 0; rw [ha2]; exact h2⟩
    show InR (RNG.getD c.kind.toNat Flat.dflt) _
    rw [hk] at hr ⊢
    exact ⟨by show (0 : Int) ≤ turnX cn c.a ∧ turnX cn c.a ≤ 510; rw [ha2]; exact h1, hr.r1, hr.r2, hr.r3⟩
  · split
    · rename_i hk
      refine ⟨h.kind, ?_, fun h3 => by have h3 : c.kind = 3 := h3; omega, fun h5 => by have h5 : c.kind = 5 := h5; omega⟩
      show InR (RNG.getD c.kind.toNat Flat.dflt) _
      rw [hk] at hr ⊢
      exact ⟨hr.r0, hr.r1, hr.r2, by show (-2147483648 : Int) ≤ n ∧ n ≤ (2147483647 : Int); omega⟩
    · split
      · rename_i hk
        refine ⟨h.kind, ?_, fun h3 => by have h3 : c.kind = 3 := h3; omega, fun h5 => by have h5 : c.kind = 5 := h5; omega⟩
        show InR (RNG.getD c.kind.toNat Flat.dflt) _
        rw [hk] at hr ⊢
        exact ⟨by show (0 : Int) ≤ n ∧ n ≤ (2147483647 : Int); omega, hr.r1, hr.r2, hr.r3⟩
      · split
        · rename_i hk
          refine ⟨h.kind, ?_, fun h3 => by have h3 : c.kind = 3 := h3; omega, fun h5 => by have h5 : c.kind = 5 := h5; omega⟩
          show InR (RNG.getD c.kind.toNat Flat.dflt) _
          rw [hk] at hr ⊢
          exact ⟨by show (0 : Int) ≤ n % 16 ∧ n % 16 ≤ (15 : Int); omega, hr.r1, hr.r2, hr.r3⟩
        · exact h
theorem chg_right (h : RightE e) (hc : 1 ≤ cn ∧ cn ≤ 8) (hn : 0 ≤ n ∧ n ≤ 255) : RightE (chgE cn n e) := by
  refine ⟨h.id, ?_, fun c hc' => ?_⟩
  · have h1 := h.up
    unfold Rising chgE at *
    simp only
    rw [List.pairwise_map]
    simpa only [chgC_kind] using h1
  · obtain ⟨x, hx, rfl⟩ := List.mem_map.1 hc'
    exact chg_fits (h.fits x hx) hc hn
theorem chg_hid (h : RightE e) (hc : 1 ≤ cn ∧ cn ≤ 8) : hidE cn (chgE cn n e) = hidE cn e := by
  unfold hidE chgE
  simp only
  rw [chg_compK]
  cases hx : compK 5 e.comps with
  | none => rfl
  | some c =>
    obtain ⟨hm, hk⟩ := compK_mem hx
    have ha := fits_hide (h.fits c hm) hk
    have he := (h.fits c hm).hide hk
    obtain ⟨a, ha2⟩ : ∃ a : Nat, c.a = 2 * (a : Int) := ⟨(c.a / 2).toNat, by omega⟩
    obtain ⟨_, _, h3⟩ := turnX_ok a (by omega) cn (by omega) hc.1
    rw [Option.map_some]
    unfold chgC
    rw [if_pos hk]
    simp only
    rw [ha2, h3]
    congr 1
/-- The view has nothing of what was changed. -/
theorem chg_view {ct : Int} (h : RightE e) (hc : 1 ≤ cn ∧ cn ≤ 8) (hn : 0 ≤ n ∧ n ≤ 255) (ho : ownsE ct e = false) : viewE ct (chgE cn n e) = viewE ct e := by
  have e1 : viewE ct (chgE cn n e) = ⟨e.id, (chgE cn n e).comps.filter (keepC ct (chgE cn n e))⟩ := by
    show (⟨e.id, partC (maskE ct (chgE cn n e)) (chgE cn n e).comps⟩ : Ent1) = _
    rw [partC_eq (chg_right h hc hn)]
  have e2 : viewE ct e = ⟨e.id, e.comps.filter (keepC ct e)⟩ := by
    show (⟨e.id, partC (maskE ct e) e.comps⟩ : Ent1) = _
    rw [partC_eq h]
  rw [e1, e2]
  simp only [Ent1.mk.injEq, true_and]
  show (e.comps.map (chgC cn n)).filter _ = _
  rw [List.filter_map]
  have h1 : e.comps.filter (keepC ct (chgE cn n e) ∘ chgC cn n) = e.comps.filter (keepC ct e) := by
    refine List.filter_congr fun c _ => ?_
    simp only [Function.comp]
    unfold keepC
    rw [chg_owns, chgC_kind]
  rw [h1]
  rw [List.map_congr_left (g := id) (fun c hc' => ?_), List.map_id]
  have hk := (List.mem_filter.1 hc').2
  unfold keepC at hk
  rw [ho, Bool.false_or] at hk
  exact chgC_keep (of_decide_eq_true hk)
end
end Go.Proofs.YtjefoecnciepmaaDoor
