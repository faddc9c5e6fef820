/- Layer 36 (party): small facts on halls in memory. -/
import Derived.Test.YtlfbcoohfnoacaaGreatYUwd
import Derived.Test.YtlfbcoohfnoacaaGreatYPa
set_option linter.unusedSimpArgs false
set_option linter.unusedVariables false
namespace Go.Proofs.YtlfbcoohfnoacaaGreat
open Go.Fw Go.RowKit
theorem szP_val {h : Hal} (hv : VHal h) {L : List PtyP} (hp : ptys L = h.ps) : SzP L := by
  have key : ∀ x ∈ L, x.p ∈ h.ps := fun x hx => by rw [← hp]; exact List.mem_map_of_mem hx
  refine ⟨?_, fun x hx => ?_, fun x hx => ?_⟩
  · have := congrArg List.length hp
    rw [ptys_len] at this
    have := hv.len; omega
  · have := (hv.ok _ (key x hx)).2.2.1; omega
  · have := (hv.ok _ (key x hx)).2.2.1; omega
theorem uninv_at {is : Pty → Inv → Bool} {ps : List Pty} {k : Nat} (hk : k < ps.length) : (uninvM is ps).getD k pty0 = { ps.getD k pty0 with inv := (ps.getD k pty0).inv.filter fun i => !is (ps.getD k pty0) i } := by
  unfold uninvM
  rw [List.getD_eq_getElem?_getD, List.getElem?_map, List.getD_eq_getElem?_getD, List.getElem?_eq_getElem hk]; rfl
theorem leave_val {h : Hal} (hv : VHal h) {k : Nat} {who : Int} (hf : findM who h.ps = some k) : VHal (leaveAt h k who) := by
  rcases do_fol h 5 who 0 with ⟨h1, _⟩ | ⟨_, _, h3⟩
  · exfalso
    apply h1
    show (leaveM h who).2 = 0
    unfold leaveM
    rw [if_pos (valid_iff.2 hv), hf]
  · have h4 := h3.valid
    have : (doM h 5 who 0).1 = leaveAt h k who := by
      show (leaveM h who).1 = _
      unfold leaveM
      rw [if_pos (valid_iff.2 hv), hf]
    rwa [this] at h4
/-- A hall that came out of a thing that was done. -/
theorem szP_do {h : Hal} {kind a b : Int} {L : List PtyP} (hp : ptys L = (doR h kind a b).1.ps) : SzP L := by
  rcases do_fol h (kind % 9).toNat a b with ⟨_, h2⟩ | ⟨_, _, h3⟩
  · unfold doR at hp
    rw [h2] at hp
    exact szQ_sz hp (by decide)
  · exact szP_val h3.valid hp
/-- A party that comes out, of which the ID only matters. -/
def OutI (r : Option Pty) (v : Value) (H' : List HP) : Prop := ∃ l A m c B n d okb, v = .tuple #[.agg #[.int .i64 (idOf r), .int .i64 l, .slice A m c, .slice B n d], .bool okb] ∧ H' = []
theorem outI_of {r : Option Pty} {g : FuncId} {args : List Value} {w : World} (h : Ret Tryz.prog g args.toArray w (RP w (OutP r))) : Ret Tryz.prog g args.toArray w (RP w (OutI r)) := by
  cases r with
  | none => exact h.mono fun v w' ⟨H', ⟨hv, hH⟩, hw⟩ => ⟨_, ⟨0, none, 0, 0, none, 0, 0, false, hv, rfl⟩, Ent.wd (ent_nil _) hw⟩
  | some p => exact h.mono fun v w' ⟨H', ⟨y, hp, hv, hH⟩, hw⟩ => ⟨_, ⟨y.p.leader, y.A, y.p.mem.length, y.ca, y.B, y.p.inv.length, y.cb, true, by rw [hv, ← hp]; rfl, rfl⟩, Ent.wd (ent_nil _) hw⟩
end Go.Proofs.YtlfbcoohfnoacaaGreat
