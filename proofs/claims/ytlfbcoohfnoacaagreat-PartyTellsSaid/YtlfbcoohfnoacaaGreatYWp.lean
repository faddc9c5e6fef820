/- Many pieces as one. -/
import Derived.Test.YtlfbcoohfnoacaaGreatYWo
set_option linter.unusedSimpArgs false
set_option linter.unusedVariables false
namespace Go.Fw
open Go.RowKit
/-- The pieces X, side by side, as one piece. -/
def allH (X : List HP) : HP := .oth fun p => Sat X p
section
variable {w0 w : World} {H R G X Y : List HP}
theorem ent_all_in : ∀ (X : List HP) {G : List HP}, Ent (X ++ G) (allH X :: G)
  | [], G => ⟨fun p hp => ⟨p, ⟨pnil, p, trivial, hp, fun _ => .inl rfl, by funext k; rfl⟩, fun _ _ h => h⟩⟩
  | a :: X, G => ⟨fun p ⟨p1, p2, ha, hs, hd, hp⟩ => by
    subst hp
    obtain ⟨q, ⟨q1, q2, h1, h2, hd', hq⟩, hk⟩ := (ent_all_in X (G := G)).out p2 hs
    subst hq
    have hdd : Dis p1 (pjoin q1 q2) := fun k => by
      rcases hd k with h | h
      · exact .inl h
      · refine .inr ?_
        cases hv : pjoin q1 q2 k with
        | none => rfl
        | some o => rw [hk k o hv] at h; cases h
    refine ⟨pjoin (pjoin p1 q1) q2, ⟨pjoin p1 q1, q2, ⟨p1, q1, ha, h1, fun k => ?_, rfl⟩, h2, fun k => ?_, rfl⟩, fun k o ho => ?_⟩
    · rcases hdd k with h | h
      · exact .inl h
      · exact .inr (pjoin_none.1 h).1
    · rcases hd' k with h | h
      · rcases hdd k with h' | h'
        · exact .inl (pjoin_none.2 ⟨h', h⟩)
        · exact .inr (pjoin_none.1 h').2
      · exact .inr h
    · unfold pjoin at ho ⊢
      cases h1' : p1 k with
      | some o' => rw [h1'] at ho; exact ho
      | none =>
        rw [h1'] at ho
        exact hk k o (by unfold pjoin; exact ho)⟩
theorem ent_all_out (X : List HP) {G : List HP} : Ent (allH X :: G) (X ++ G) := ⟨fun p ⟨p1, p2, hx, hs, hd, hp⟩ => by
  subst hp
  obtain ⟨r, hr, hk⟩ := sat_append hx hs hd
  refine ⟨r, hr, fun k o ho => ?_⟩
  unfold pjoin
  rcases hk k o ho with h | h
  · rw [h]
  · rcases hd k with h' | h'
    · rw [h']; exact h
    · rw [h'] at h; cases h⟩
theorem ent_all_cons {a : HP} : Ent (a :: allH X :: G) (allH (a :: X) :: G) := (ent_cons Split.head (ent_all_out X)).trans (ent_all_in (a :: X))
theorem ent_all_uncons {a : HP} : Ent (allH (a :: X) :: G) (a :: allH X :: G) := (ent_all_out (a :: X)).trans (ent_cons Split.head (ent_all_in X))
theorem ent_all_nil (h : Ent H G) : Ent H (allH [] :: G) := h.trans (ent_all_in [])
theorem ent_all_imp (h : Ent X Y) : Ent (allH X :: G) (allH Y :: G) := ⟨fun p ⟨p1, p2, hx, hs, hd, hp⟩ => by
  subst hp
  obtain ⟨q, hq, hk⟩ := h.out p1 hx
  refine ⟨pjoin q p2, ⟨q, p2, hq, hs, fun k => ?_, rfl⟩, fun k o ho => ?_⟩
  · cases hqk : q k with
    | none => exact .inl rfl
    | some o =>
      refine .inr ?_
      rcases hd k with h' | h'
      · rw [hk k o hqk] at h'; cases h'
      · exact h'
  · unfold pjoin at ho ⊢
    cases hqk : q k with
    | some o' => rw [hqk] at ho; injection ho with ho; subst ho; rw [hk k o' hqk]
    | none =>
      rw [hqk] at ho
      rcases hd k with h' | h'
      · rw [h']; exact ho
      · rw [h'] at ho; cases ho⟩
theorem ent_snoc {ι : Type} (f : ι → HP) (x : ι) : ∀ L : List ι, Ent (f x :: L.map f) ((L ++ [x]).map f)
  | [] => ent_refl _
  | y :: L => (ent_cons (Split.tail Split.head) (ent_snoc f x L) : Ent (f x :: f y :: L.map f) (f y :: (L ++ [x]).map f))
theorem ent_all_snoc {ι : Type} {f : ι → HP} {x : ι} {L : List ι} : Ent (f x :: allH (L.map f) :: G) (allH ((L ++ [x]).map f) :: G) := ent_all_cons.trans (ent_all_imp (ent_snoc f x L))
/-- A world's memory, read alone. -/
theorem ent_knw {e ec : TypeId} {A : Option Addr} {c : Nat} {l : List EntP} : Ent (orow e A c l :: allH (l.map fun x => orow ec x.A x.cp x.e.comps) :: G) (knw A l :: G) := by
  have h1 : Ent (orow e A c l :: allH (l.map fun x => orow ec x.A x.cp x.e.comps) :: G) (orow e A c l :: kno (fun w => ∀ x ∈ l, Rd w x.A x.e.comps) :: G) :=
    ent_cons Split.head ((ent_all_out _).trans (ent_kno_map (fun x G => ent_kno_row Split.head (ent_refl _)) l))
  exact h1.trans ((ent_kno_row Split.head (ent_refl _)).trans ent_kno_and)
end
end Go.Fw
