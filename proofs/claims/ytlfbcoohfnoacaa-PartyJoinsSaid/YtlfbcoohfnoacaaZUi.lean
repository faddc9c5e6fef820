/- Layer 36 (party): accepting and declining. Plain Lean. -/
import Derived.Test.YtlfbcoohfnoacaaZUh
set_option linter.unusedSimpArgs false
set_option linter.unusedVariables false
namespace Go.Proofs.Ytlfbcoohfnoacaa
open Go.Fw Go.RowKit
/-- How often a player is invited to the parties of which something is true. -/
def cntB (f : Pty → Bool) (who : Int) : List Pty → Nat
  | [] => 0
  | p :: r => (if f p then p.inv.countP (fun i => decide (i.who = who)) else 0) + cntB f who r
theorem cnt_asked (who id : Int) (ps : List Pty) : cntB (fun p => decide (p.id = id)) who ps = 0 ↔ askedM who id ps = none := by
  induction ps with
  | nil => simp [cntB, askedM]
  | cons p r ih =>
    simp only [cntB, askedM]
    have hc : p.inv.countP (fun i => decide (i.who = who)) = 0 ↔ who ∉ p.inv.map Inv.who := by
      rw [List.countP_eq_zero]
      simp only [decide_eq_true_eq, List.mem_map, not_exists, not_and]
    by_cases h1 : p.id = id
    · rw [if_pos (by simp [h1])]
      by_cases h2 : who ∈ p.inv.map Inv.who
      · rw [if_pos ⟨h1, h2⟩]
        constructor
        · intro e; exact absurd (hc.mp (by omega)) (fun hn => hn h2)
        · intro e; cases e
      · rw [if_neg (fun hh => h2 hh.2), hc.mpr h2]
        simp [ih]
    · rw [if_neg (by simp [h1]), if_neg (fun hh => h1 hh.1)]
      simp [ih]
theorem countP_filter36 (who : Int) (g : Inv → Bool) (l : List Inv) : (l.filter g).countP (fun i => decide (i.who = who)) = l.countP (fun i => decide (i.who = who) && g i) := List.countP_filter ..
/-- After declining a player is invited as often as it was to the others. -/
theorem cnt_left (who id : Int) (ps : List Pty) : cntB (fun _ => true) who (uninvM (fun p i => decide (i.who = who) && (false || decide (p.id = id))) ps) = cntB (fun p => !decide (p.id = id)) who ps := by
  induction ps with
  | nil => rfl
  | cons p r ih =>
    have e : uninvM (fun p i => decide (i.who = who) && (false || decide (p.id = id))) (p :: r) = { p with inv := p.inv.filter fun i => !(decide (i.who = who) && (false || decide (p.id = id))) } :: uninvM (fun p i => decide (i.who = who) && (false || decide (p.id = id))) r := rfl
    rw [e]
    simp only [cntB]
    rw [ih]
    congr 1
    rw [countP_filter36]
    by_cases h1 : p.id = id
    · rw [if_pos trivial, if_neg (by simp [h1]), List.countP_eq_zero]
      intro i _
      simp [h1]
    · rw [if_pos trivial, if_pos (by simp [h1])]
      refine List.countP_congr fun i _ => ?_
      simp [h1]
/-- Nobody is invited to a party twice. -/
theorem inv_less {l : List Inv} (hs : l.Pairwise fun a b => a.who < b.who) {who : Int} (hw : who ∈ l.map Inv.who) : (l.filter fun i => !decide (i.who = who)).length + 1 = l.length := by
  induction l with
  | nil => cases hw
  | cons j r ih =>
    rw [List.pairwise_cons] at hs
    rw [List.filter_cons]
    by_cases hj : j.who = who
    · rw [if_neg (by simp [hj])]
      have : (r.filter fun i => !decide (i.who = who)) = r := List.filter_eq_self.mpr fun a ha => by
        have := hs.1 a ha
        have : a.who ≠ who := by omega
        simp [this]
      rw [this]; rfl
    · rw [if_pos (by simp [hj])]
      have := ih hs.2 ((List.mem_cons.mp hw).resolve_left (fun e => hj e.symm))
      simp only [List.length_cons]; omega
theorem asked_unique {h : Hal} (hv : VHal h) {who id : Int} {k : Nat} (ha : askedM who id h.ps = some k) : idxP id h.ps = some k := by
  obtain ⟨hk, hid, _⟩ := askedM_some _ ha
  exact idxP_at hv.ids hk hid
/-- Who accepts is the last member. -/
theorem accept_in {h : Hal} (hv : VHal h) {who id : Int} {k : Nat} (ha : askedM who id h.ps = some k) :
    (answerM h who id true).2 = 0 ∧ ofM (answerM h who id true).1 who = some ⟨(h.ps.getD k pty0).id, (h.ps.getD k pty0).leader, (h.ps.getD k pty0).mem ++ [who], (h.ps.getD k pty0).inv.filter fun i => !decide (i.who = who)⟩ := by
  obtain ⟨hF, h0⟩ := answer_fol hv ha true
  refine ⟨h0, ?_⟩
  obtain ⟨hk, hid, hw⟩ := askedM_some _ ha
  have hV := hF.valid
  have hk' : k < (uninvM (fun p i => decide (i.who = who) && (true || decide (p.id = id))) h.ps).length := by rw [uninv_len]; exact hk
  have hps : (answerM h who id true).1.ps = (uninvM (fun p i => decide (i.who = who) && (true || decide (p.id = id))) h.ps).set k { (uninvM (fun p i => decide (i.who = who) && (true || decide (p.id = id))) h.ps).getD k pty0 with mem := ((uninvM (fun p i => decide (i.who = who) && (true || decide (p.id = id))) h.ps).getD k pty0).mem ++ [who] } := by
    unfold answerM
    rw [if_pos (valid_iff.mpr hv), ha]
    rfl
  have hg : (answerM h who id true).1.ps.getD k pty0 = ⟨(h.ps.getD k pty0).id, (h.ps.getD k pty0).leader, (h.ps.getD k pty0).mem ++ [who], (h.ps.getD k pty0).inv.filter fun i => !decide (i.who = who)⟩ := by
    rw [hps, getD_set36 hk', uninv_getD _ hk]
    show Pty.mk _ _ _ _ = Pty.mk _ _ _ _
    congr 1
    refine List.filter_congr fun i _ => ?_
    simp
  have hl : k < (answerM h who id true).1.ps.length := by rw [hps, List.length_set]; exact hk'
  have hf := findM_unique hV.nd hl (who := who) (by rw [hg]; exact List.mem_append_right _ List.mem_cons_self)
  unfold ofM
  rw [if_pos (valid_iff.mpr hV), hf]
  show some ((answerM h who id true).1.ps.getD k pty0) = _
  rw [hg]
/-- Who declines is not invited to that party any more. -/
theorem decline_out {h : Hal} (hv : VHal h) {who id : Int} {k : Nat} (ha : askedM who id h.ps = some k) :
    (answerM h who id false).2 = 0 ∧ (answerM h who id false).1.ps = uninvM (fun p i => decide (i.who = who) && (false || decide (p.id = id))) h.ps ∧ idxP id (answerM h who id false).1.ps = some k ∧
      (answerM h who id false).1.ps.getD k pty0 = ⟨(h.ps.getD k pty0).id, (h.ps.getD k pty0).leader, (h.ps.getD k pty0).mem, (h.ps.getD k pty0).inv.filter fun i => !decide (i.who = who)⟩ ∧
      ((h.ps.getD k pty0).inv.filter fun i => !decide (i.who = who)).length + 1 = (h.ps.getD k pty0).inv.length ∧ answerM (answerM h who id false).1 who id false = (hal0, 6) := by
  obtain ⟨hF, h0⟩ := answer_fol hv ha false
  obtain ⟨hk, hid, hw⟩ := askedM_some _ ha
  have hV := hF.valid
  have hps : (answerM h who id false).1.ps = uninvM (fun p i => decide (i.who = who) && (false || decide (p.id = id))) h.ps := by
    unfold answerM
    rw [if_pos (valid_iff.mpr hv), ha]
    rfl
  have hg : (answerM h who id false).1.ps.getD k pty0 = ⟨(h.ps.getD k pty0).id, (h.ps.getD k pty0).leader, (h.ps.getD k pty0).mem, (h.ps.getD k pty0).inv.filter fun i => !decide (i.who = who)⟩ := by
    rw [hps, uninv_getD _ hk]
    show Pty.mk _ _ _ _ = Pty.mk _ _ _ _
    congr 1
    refine List.filter_congr fun i _ => ?_
    rw [hid]
    simp
  have hl : k < (answerM h who id false).1.ps.length := by rw [hps, uninv_len]; exact hk
  refine ⟨h0, hps, idxP_at hV.ids hl (by rw [hg]; exact hid), hg, inv_less (hv.ok _ (getD_mem36 hk)).2.2.2.2.1 hw, ?_⟩
  have hn : askedM who id (answerM h who id false).1.ps = none := by
    cases hq : askedM who id (answerM h who id false).1.ps with
    | none => rfl
    | some j =>
      exfalso
      obtain ⟨j1, j2, j3⟩ := askedM_some _ hq
      obtain ⟨i, i1, i2⟩ := List.mem_map.mp j3
      rw [hps] at j1 j2 i1
      rw [uninv_len] at j1
      rw [uninv_getD _ j1] at j2 i1
      have := (List.mem_filter.mp i1).2
      have h3 : (h.ps.getD j pty0).id = id := j2
      rw [h3, i2] at this
      simp at this
  generalize (answerM h who id false).1 = n at hn hV ⊢
  unfold answerM
  rw [if_pos (valid_iff.mpr hV), hn]
end Go.Proofs.Ytlfbcoohfnoacaa
