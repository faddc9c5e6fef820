/- Layer 36 (party): one party of a valid hall is changed, or goes. Plain Lean. -/
import Derived.Test.YtlfbcoohfnoacaaZUc
set_option linter.unusedSimpArgs false
set_option linter.unusedVariables false
namespace Go.Proofs.Ytlfbcoohfnoacaa
open Go.Fw Go.RowKit
theorem getD_mem36 {ps : List Pty} {k : Nat} (hk : k < ps.length) : ps.getD k pty0 ∈ ps := by
  rw [List.getD_eq_getElem?_getD, List.getElem?_eq_getElem hk]
  exact List.getElem_mem hk
/-- One party in place of another with its ID. -/
theorem set_valid {h : Hal} (hv : VHal h) {k : Nat} (hk : k < h.ps.length) {p : Pty} (hid : p.id = (h.ps.getD k pty0).id) (hok : okP h.last h.tick (allM (h.ps.set k p)) p) (hnd : (allM (h.ps.set k p)).Nodup)
    (hq : ∀ q ∈ h.ps, ∀ i ∈ q.inv, i.who ∉ allM h.ps → i.who ∉ allM (h.ps.set k p)) : VHal ⟨h.tick, h.last, h.ps.set k p⟩ := by
  refine ⟨hv.t0, hv.t1, hv.l0, hv.l1, by show (h.ps.set k p).length ≤ 32; rw [List.length_set]; exact hv.len, ?_, fun q hqm => ?_, fun q hqm => ?_, hnd⟩
  · show (h.ps.set k p).Pairwise _
    have h1 := hv.ids
    rw [ps_split hk] at h1
    rw [ps_set hk]
    rw [List.pairwise_append, List.pairwise_cons] at h1 ⊢
    obtain ⟨a, ⟨b, c⟩, d⟩ := h1
    refine ⟨a, ⟨fun x hx => by rw [hid]; exact b x hx, c⟩, fun x hx y hy => ?_⟩
    rcases List.mem_cons.mp hy with rfl | hy
    · rw [hid]; exact d x hx _ List.mem_cons_self
    · exact d x hx y (List.mem_cons_of_mem _ hy)
  · rcases List.mem_or_eq_of_mem_set hqm with h1 | rfl
    · exact hv.pos q h1
    · rw [hid]; exact hv.pos _ (getD_mem36 hk)
  · rcases List.mem_or_eq_of_mem_set hqm with h1 | rfl
    · obtain ⟨a1, a2, a3, a4, a5, a6, a7⟩ := hv.ok q h1
      exact ⟨a1, a2, a3, a4, a5, fun i hi => by obtain ⟨b1, b2, b3, b4, b5⟩ := a6 i hi; exact ⟨b1, b2, hq q h1 i hi b3, b4, b5⟩, a7⟩
    · exact hok
theorem allM_sublist {a b : List Pty} (h : a.Sublist b) : (allM a).Sublist (allM b) := by
  induction h with
  | slnil => exact List.Sublist.refl _
  | cons x _ ih => rw [allM_cons]; exact ih.trans (List.sublist_append_right _ _)
  | cons_cons x _ ih => rw [allM_cons, allM_cons]; exact List.Sublist.append (List.Sublist.refl _) ih
/-- A party goes. -/
theorem erase_valid {h : Hal} (hv : VHal h) (k : Nat) : VHal ⟨h.tick, h.last, h.ps.eraseIdx k⟩ := by
  have hsub : (h.ps.eraseIdx k).Sublist h.ps := List.eraseIdx_sublist h.ps k
  have hall : (allM (h.ps.eraseIdx k)).Sublist (allM h.ps) := allM_sublist hsub
  refine ⟨hv.t0, hv.t1, hv.l0, hv.l1, Nat.le_trans hsub.length_le hv.len, hv.ids.sublist hsub, fun q hq => hv.pos q (hsub.subset hq), fun q hq => ?_, hv.nd.sublist hall⟩
  obtain ⟨a1, a2, a3, a4, a5, a6, a7⟩ := hv.ok q (hsub.subset hq)
  exact ⟨a1, a2, a3, a4, a5, fun i hi => by obtain ⟨b1, b2, b3, b4, b5⟩ := a6 i hi; exact ⟨b1, b2, fun hc => b3 (hall.subset hc), b4, b5⟩, a7⟩
theorem allM_set {ps : List Pty} {k : Nat} (hk : k < ps.length) (p : Pty) : allM (ps.set k p) = allM (ps.take k) ++ (p.mem ++ allM (ps.drop (k + 1))) := by
  rw [ps_set hk, allM_append, allM_cons]
theorem allM_split {ps : List Pty} {k : Nat} (hk : k < ps.length) : allM ps = allM (ps.take k) ++ ((ps.getD k pty0).mem ++ allM (ps.drop (k + 1))) := by
  have := congrArg allM (ps_split hk)
  rw [allM_append, allM_cons] at this
  exact this
/-- The same members: the same players. -/
theorem allM_same {ps : List Pty} {k : Nat} (hk : k < ps.length) {p : Pty} (hm : p.mem = (ps.getD k pty0).mem) : allM (ps.set k p) = allM ps := by
  rw [allM_set hk, hm, ← allM_split hk]
theorem allM_sub {ps : List Pty} {k : Nat} (hk : k < ps.length) {p : Pty} (hm : p.mem.Sublist (ps.getD k pty0).mem) : (allM (ps.set k p)).Sublist (allM ps) := by
  rw [allM_set hk, allM_split hk]
  exact List.Sublist.append (List.Sublist.refl _) (List.Sublist.append hm (List.Sublist.refl _))
/-- Another leader among the members. -/
theorem leader_valid {h : Hal} (hv : VHal h) {k : Nat} (hk : k < h.ps.length) {who : Int} (hw : who ∈ (h.ps.getD k pty0).mem) : VHal ⟨h.tick, h.last, h.ps.set k { h.ps.getD k pty0 with leader := who }⟩ := by
  have hs : allM (h.ps.set k { h.ps.getD k pty0 with leader := who }) = allM h.ps := allM_same hk rfl
  refine set_valid hv hk rfl ?_ (by rw [hs]; exact hv.nd) (fun q hq i hi hn => by rw [hs]; exact hn)
  rw [hs]
  obtain ⟨a1, a2, a3, a4, a5, a6, a7⟩ := hv.ok _ (getD_mem36 hk)
  exact ⟨a1, a2, a3, hw, a5, a6, a7⟩
/-- A member leaves. -/
theorem leave_valid {h : Hal} (hv : VHal h) {k : Nat} (hk : k < h.ps.length) (who : Int) : VHal (leaveAt h k who) := by
  unfold leaveAt
  cases hl : leftM who (h.ps.getD k pty0) with
  | none => exact erase_valid hv k
  | some p =>
    unfold leftM at hl
    split at hl
    · cases hl
    · rename_i x r hf
      cases hl
      have hsub : (x :: r).Sublist (h.ps.getD k pty0).mem := hf ▸ List.filter_sublist
      have hs := allM_sub (ps := h.ps) (k := k) (p := { h.ps.getD k pty0 with mem := x :: r, leader := if (h.ps.getD k pty0).leader = who then x else (h.ps.getD k pty0).leader }) hk hsub
      refine set_valid hv hk rfl ?_ (hv.nd.sublist hs) (fun q hq i hi hn hc => hn (hs.subset hc))
      obtain ⟨a1, a2, a3, a4, a5, a6, a7⟩ := hv.ok _ (getD_mem36 hk)
      refine ⟨a1, by simp, ?_, ?_, a5, fun i hi => ?_, fun n hn => a7 n (hsub.subset hn)⟩
      · have := hsub.length_le
        show (x :: r).length + _ ≤ 5
        exact Nat.le_trans (Nat.add_le_add_right this _) a3
      · show (if (h.ps.getD k pty0).leader = who then x else (h.ps.getD k pty0).leader) ∈ x :: r
        split
        · exact List.mem_cons_self
        · rename_i hne
          rw [← hf]
          exact List.mem_filter.mpr ⟨a4, by rw [decide_eq_false hne]; rfl⟩
      · obtain ⟨b1, b2, b3, b4, b5⟩ := a6 i hi
        exact ⟨b1, b2, fun hc => b3 (hs.subset hc), b4, b5⟩
theorem insI_mem {x j : Inv} {l : List Inv} : j ∈ insI x l ↔ j = x ∨ j ∈ l := by
  induction l with
  | nil => simp [insI]
  | cons i r ih =>
    simp only [insI]
    split
    · simp
    · simp only [List.mem_cons, ih]
      constructor
      · rintro (h | h | h)
        · exact Or.inr (Or.inl h)
        · exact Or.inl h
        · exact Or.inr (Or.inr h)
      · rintro (h | h | h)
        · exact Or.inr (Or.inl h)
        · exact Or.inl h
        · exact Or.inr (Or.inr h)
theorem insI_len (x : Inv) (l : List Inv) : (insI x l).length = l.length + 1 := by
  induction l with
  | nil => rfl
  | cons i r ih =>
    simp only [insI]
    split
    · rfl
    · simp [ih]
theorem insI_sorted {x : Inv} {l : List Inv} (hs : l.Pairwise fun a b => a.who < b.who) (hx : x.who ∉ l.map Inv.who) : (insI x l).Pairwise fun a b => a.who < b.who := by
  induction l with
  | nil => exact List.pairwise_singleton _ _
  | cons i r ih =>
    rw [List.pairwise_cons] at hs
    simp only [List.map_cons, List.mem_cons, not_or] at hx
    simp only [insI]
    split
    · rename_i hle
      rw [List.pairwise_cons, List.pairwise_cons]
      refine ⟨fun j hj => ?_, hs.1, hs.2⟩
      rcases List.mem_cons.mp hj with rfl | hj
      · omega
      · have := hs.1 j hj; omega
    · rename_i hle
      rw [List.pairwise_cons]
      refine ⟨fun j hj => ?_, ih hs.2 hx.2⟩
      rcases insI_mem.mp hj with rfl | hj
      · omega
      · exact hs.1 j hj
/-- A player is invited. -/
theorem invite_valid {h : Hal} (hv : VHal h) {k : Nat} (hk : k < h.ps.length) {who : Int} (hw : 1 ≤ who ∧ who ≤ 65536) (hn : who ∉ allM h.ps) (hi : who ∉ (h.ps.getD k pty0).inv.map Inv.who) (hl : (h.ps.getD k pty0).mem.length + (h.ps.getD k pty0).inv.length < 5) :
    VHal ⟨h.tick, h.last, h.ps.set k { h.ps.getD k pty0 with inv := insI ⟨who, h.tick + 600⟩ (h.ps.getD k pty0).inv }⟩ := by
  have hs : allM (h.ps.set k { h.ps.getD k pty0 with inv := insI ⟨who, h.tick + 600⟩ (h.ps.getD k pty0).inv }) = allM h.ps := allM_same hk rfl
  refine set_valid hv hk rfl ?_ (by rw [hs]; exact hv.nd) (fun q hq i hi hn => by rw [hs]; exact hn)
  rw [hs]
  obtain ⟨a1, a2, a3, a4, a5, a6, a7⟩ := hv.ok _ (getD_mem36 hk)
  refine ⟨a1, a2, ?_, a4, insI_sorted a5 hi, fun i hi' => ?_, a7⟩
  · show (h.ps.getD k pty0).mem.length + (insI _ (h.ps.getD k pty0).inv).length ≤ 5
    rw [insI_len]; omega
  · rcases insI_mem.mp hi' with rfl | hi'
    · exact ⟨hw.1, hw.2, hn, by show h.tick < h.tick + 600; omega, Int.le_refl _⟩
    · exact a6 i hi'
/-- A player that is invited nowhere any more joins a party. -/
theorem join_valid {h : Hal} (hv : VHal h) {k : Nat} (hk : k < h.ps.length) {who : Int} (hw : 1 ≤ who ∧ who ≤ 65536) (hn : who ∉ allM h.ps) (hq : ∀ q ∈ h.ps, ∀ i ∈ q.inv, i.who ≠ who) (hl : (h.ps.getD k pty0).mem.length + (h.ps.getD k pty0).inv.length < 5) :
    VHal ⟨h.tick, h.last, h.ps.set k { h.ps.getD k pty0 with mem := (h.ps.getD k pty0).mem ++ [who] }⟩ := by
  have hmem : ∀ x, x ∈ allM (h.ps.set k { h.ps.getD k pty0 with mem := (h.ps.getD k pty0).mem ++ [who] }) → x ∈ allM h.ps ∨ x = who := by
    intro x hx
    rw [allM_set hk] at hx
    rw [allM_split hk]
    simp only [List.mem_append, List.mem_singleton] at hx ⊢
    rcases hx with h | (h | h) | h
    · exact Or.inl (Or.inl h)
    · exact Or.inl (Or.inr (Or.inl h))
    · exact Or.inr h
    · exact Or.inl (Or.inr (Or.inr h))
  refine set_valid hv hk rfl ?_ ?_ (fun q hqm i hi hni hc => (hmem _ hc).elim hni (hq q hqm i hi))
  · obtain ⟨a1, a2, a3, a4, a5, a6, a7⟩ := hv.ok _ (getD_mem36 hk)
    refine ⟨a1, ?_, ?_, List.mem_append_left _ a4, a5, fun i hi => ?_, fun n hn' => ?_⟩
    · show 1 ≤ ((h.ps.getD k pty0).mem ++ [who]).length
      rw [List.length_append, List.length_singleton]; omega
    · show ((h.ps.getD k pty0).mem ++ [who]).length + _ ≤ 5
      rw [List.length_append, List.length_singleton]; show _ + 1 + (h.ps.getD k pty0).inv.length ≤ 5; omega
    · obtain ⟨b1, b2, b3, b4, b5⟩ := a6 i hi
      exact ⟨b1, b2, fun hc => (hmem _ hc).elim b3 (hq _ (getD_mem36 hk) i hi), b4, b5⟩
    · rcases List.mem_append.mp hn' with h1 | h1
      · exact a7 n h1
      · rw [List.mem_singleton.mp h1]; exact hw
  · have h1 := hv.nd
    have h2 := hn
    rw [allM_split hk] at h1 h2
    rw [allM_set hk]
    simp only [List.mem_append, not_or] at h2
    simp only [List.nodup_append, List.mem_append] at h1 ⊢
    obtain ⟨c1, ⟨c2, c3, c4⟩, c5⟩ := h1
    refine ⟨c1, ⟨⟨c2, by simp, fun a ha b hb e => ?_⟩, c3, fun a ha b hb e => ?_⟩, fun a ha b hb e => ?_⟩
    · rw [List.mem_singleton.mp hb] at e; exact h2.2.1 (e ▸ ha)
    · rcases ha with ha | ha
      · exact c4 a ha b hb e
      · rw [List.mem_singleton.mp ha] at e; exact h2.2.2 (e ▸ hb)
    · rcases hb with (hb | hb) | hb
      · exact c5 a ha b (Or.inl hb) e
      · rw [List.mem_singleton.mp hb] at e; exact h2.1 (e ▸ ha)
      · exact c5 a ha b (Or.inr hb) e
end Go.Proofs.Ytlfbcoohfnoacaa
