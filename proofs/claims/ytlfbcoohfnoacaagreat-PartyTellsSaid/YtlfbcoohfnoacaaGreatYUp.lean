/- Layer 36 (party): the map of the places, player by player. Plain Lean. -/
import Derived.Test.YtlfbcoohfnoacaaGreatYUo
set_option linter.unusedSimpArgs false
set_option linter.unusedVariables false
namespace Go.Proofs.YtlfbcoohfnoacaaGreat
open Go.Fw Go.RowKit
theorem placesFrom_snoc (p : Pty) : ∀ (l : List Pty) (k : Nat) (m : List (Int × Int)), placesFrom k (l ++ [p]) m = putM ((k + l.length : Nat) : Int) p.mem (placesFrom k l m)
  | [], k, m => rfl
  | q :: l, k, m => by
    show placesFrom (k + 1) (l ++ [p]) _ = _
    rw [placesFrom_snoc p l (k + 1)]
    rw [show k + 1 + l.length = k + (q :: l).length by simp only [List.length_cons]; omega]
    rfl
theorem putM_snoc (a x : Int) : ∀ (l : List Int) (m : List (Int × Int)), putM a (l ++ [x]) m = mput (putM a l m) x (a + 1)
  | [], m => rfl
  | y :: l, m => putM_snoc a x l _
/-- The map of the places after k parties and j members of the next one. -/
def plcAt (ps : List Pty) (k j : Nat) : List (Int × Int) := putM (k : Int) ((ps.getD k pty0).mem.take j) (placesM (ps.take k))
theorem plcAt_zero (ps : List Pty) : plcAt ps 0 0 = [] := by simp [plcAt, putM, placesM, placesFrom]
theorem plcAt_next {ps : List Pty} {k j : Nat} (hj : j < (ps.getD k pty0).mem.length) : plcAt ps k (j + 1) = mput (plcAt ps k j) ((ps.getD k pty0).mem.getD j 0) ((k : Int) + 1) := by
  unfold plcAt
  rw [takeI hj, putM_snoc]
theorem plcAt_end {ps : List Pty} {k : Nat} (hk : k < ps.length) : plcAt ps k (ps.getD k pty0).mem.length = plcAt ps (k + 1) 0 := by
  unfold plcAt
  rw [List.take_length, List.take_zero]
  show _ = placesM (ps.take (k + 1))
  rw [take_snoc (d := pty0) hk]
  unfold placesM
  rw [placesFrom_snoc, List.length_take, Nat.zero_add, Nat.min_eq_left (by omega)]
theorem plcAt_all (ps : List Pty) : plcAt ps ps.length 0 = placesM ps := by
  unfold plcAt
  rw [List.take_length, List.take_zero]; rfl
theorem allM_take {ps : List Pty} {k : Nat} (hk : k < ps.length) : (allM (ps.take (k + 1))).length = (allM (ps.take k)).length + (ps.getD k pty0).mem.length := by
  rw [take_snoc (d := pty0) hk, allM_append, List.length_append]
  simp [allM]
/-- The sizes of what is worked with. -/
structure SzP (l : List PtyP) : Prop where
  len : l.length ≤ 1000
  mem : ∀ x ∈ l, x.p.mem.length ≤ 1000
  inv : ∀ x ∈ l, x.p.inv.length ≤ 1000
theorem SzP.atm {l : List PtyP} (h : SzP l) {k : Nat} (hk : k < l.length) : (l.getD k Flat.dflt).p.mem.length ≤ 1000 := h.mem _ (getD_mem hk)
theorem SzP.ati {l : List PtyP} (h : SzP l) {k : Nat} (hk : k < l.length) : (l.getD k Flat.dflt).p.inv.length ≤ 1000 := h.inv _ (getD_mem hk)
theorem allM_le {l : List PtyP} (h : SzP l) : (allM (ptys l)).length ≤ 1000 * l.length := by
  have hm := h.mem
  clear h
  induction l with
  | nil => simp [allM, ptys]
  | cons x l ih =>
    have h1 := hm x List.mem_cons_self
    have h2 := ih (fun y hy => hm y (List.mem_cons_of_mem _ hy))
    have h3 : (allM (ptys (x :: l))).length = x.p.mem.length + (allM (ptys l)).length := by
      show (x.p.mem ++ allM (ptys l)).length = _
      rw [List.length_append]
    rw [h3, List.length_cons]; omega
theorem allM_tk (ps : List Pty) (k : Nat) : (allM (ps.take k)).length ≤ (allM ps).length := by
  have h := congrArg (fun l => (allM l).length) (List.take_append_drop k ps)
  simp only [allM_append, List.length_append] at h
  omega
end Go.Proofs.YtlfbcoohfnoacaaGreat
