/- Layer 15: what is done and undone. Plain Lean. -/
import Derived.Test.YtfodpcpclmnbkaaDoorZPg15
set_option linter.unusedSimpArgs false
set_option linter.unusedVariables false
namespace Go.Proofs.YtfodpcpclmnbkaaDoor
open Go.Fw Go.RowKit
section
variable {t id k : Int} {es : List Ent1} {e x : Ent1} {c : Comp}
theorem add_thg (hv : ValidW t es) {i : Int} : thg i (addL e es) = if i = e.id then some e else thg i es := fnd_ins (c := e) (k := i) hv.up
theorem rem_thg {i : Int} : thg i (remL id es) = if i = id then none else thg i es := fnd_del
theorem rem_valid (hv : ValidW t es) : ValidW t (remL id es) := by
  refine ⟨hv.tick, ?_, List.Pairwise.filter _ hv.up, fun e he => hv.right e (List.mem_filter.1 he).1⟩
  have := List.length_filter_le (fun e : Ent1 => decide (e.id ≠ id)) es
  have := hv.len
  unfold remL
  omega
theorem add_rem (hv : ValidW t es) (hn : thg e.id es = none) : remL e.id (addL e es) = es := by
  refine fnd_ext (key := Ent1.id) (List.Pairwise.filter _ (rising_insK hv.up)) hv.up fun i => ?_
  show thg i (remL e.id (addL e es)) = thg i es
  rw [rem_thg, add_thg hv]
  by_cases hi : i = e.id
  · rw [if_pos hi, hi, hn]
  · rw [if_neg hi, if_neg hi]
theorem rem_add (hv : ValidW t es) (hx : x ∈ es) : addL x (remL x.id es) = es := by
  refine fnd_ext (key := Ent1.id) (rising_insK (rem_valid hv).up) hv.up fun i => ?_
  show thg i (addL x (remL x.id es)) = thg i es
  rw [add_thg (rem_valid hv), rem_thg]
  by_cases hi : i = x.id
  · rw [if_pos hi, hi, thg_mem hv hx]
  · rw [if_neg hi, if_neg hi]
theorem rem_err (hv : ValidW t es) (hx : x ∈ es) : remErr t x.id es = 0 := by
  unfold remErr; rw [if_pos hv, thg_mem hv hx]; rfl
theorem add_err (hv : ValidW t es) (he : RightE e) (hn : thg e.id es = none) (hl : es.length < 64) : addErr t e es = 0 := by
  unfold addErr; rw [if_pos ⟨hv, he⟩, hn, if_neg (by simp), if_neg (by omega)]
theorem add_bad (hl : es.length < 64) (h : ¬ (RightE e ∧ thg e.id es = none)) : addErr t e es = 2 := by
  unfold addErr
  by_cases hv : ValidW t es ∧ RightE e
  · rw [if_pos hv]
    cases ht : thg e.id es with
    | none => exact (h ⟨hv.2, ht⟩).elim
    | some y => rfl
  · rw [if_neg hv]
theorem rem_less (hv : ValidW t es) (hx : x ∈ es) : (remL x.id es).length < 64 := by
  have h1 := congrArg List.length (rem_add hv hx)
  have h2 := (add_ok (rem_valid (id := x.id) hv) (hv.right x hx) (by rw [rem_thg, if_pos rfl]))
  have := hv.len
  have h3 := List.length_filter_le (fun e : Ent1 => decide (e.id ≠ x.id)) es
  have h4 : (remL x.id es).length ≤ es.length := h3
  by_cases h : (remL x.id es).length < 64
  · exact h
  · have h5 : remL x.id es = es := by
      refine List.filter_eq_self.2 fun y hy => ?_
      have h6 : (remL x.id es).length = es.length := by omega
      have h7 := List.length_filter_eq_length_iff.1 h6
      exact h7 y hy
    have h8 := rem_thg (id := x.id) (es := es) (i := x.id)
    rw [h5, thg_mem hv hx, if_pos rfl] at h8
    cases h8
theorem insK_self {α : Type} {key : α → Int} {l : List α} {a : α} (h : Rising key l) (ha : a ∈ l) : insK key a l = l := by
  refine fnd_ext (rising_insK h) h fun k => ?_
  rw [fnd_ins h]
  by_cases hk : k = key a
  · rw [if_pos hk]
    exact ((find_key h).2 ⟨ha, hk.symm⟩).symm
  · rw [if_neg hk]
theorem uns_set (hx : RightE x) (hn : compK c.kind x.comps = none) : unsE c.kind (setE c x) = x := by
  have h : (insK kindC c x.comps).filter (fun y => decide (kindC y ≠ c.kind)) = x.comps := by
    refine fnd_ext (key := kindC) (List.Pairwise.filter _ (rising_insK hx.up)) hx.up fun i => ?_
    rw [fnd_del, fnd_ins hx.up]
    by_cases hi : i = c.kind
    · rw [if_pos hi, hi]; exact hn.symm
    · rw [if_neg hi, if_neg hi]
  show (⟨x.id, (insK kindC c x.comps).filter (fun y => decide (kindC y ≠ c.kind))⟩ : Ent1) = x
  rw [h]
theorem set_uns (hv : ValidW t es) (hx : x ∈ es) (hc : Fits c) (hn : getM t x.id c.kind es = none) : unsErr t x.id c.kind (setL x.id c es) = 0 ∧ unsL x.id c.kind (setL x.id c es) = es := by
  have hn' : compK c.kind x.comps = none := by
    unfold getM at hn
    rw [if_pos hv, thg_mem hv hx] at hn
    exact hn
  refine ⟨?_, ?_⟩
  · unfold unsErr
    rw [if_pos (set_valid hv hx hc), set_get hv hx hc]; simp
  · have h1 : unsL x.id c.kind (setL x.id c es) = insK Ent1.id (unsE c.kind (setE c x)) (setL x.id c es) := unsL_at (x := setE c x) (set_valid hv hx hc) (set_mem hv hx)
    rw [h1, uns_set (hv.right x hx) hn', setL_at hv hx, insK_insK hv.up (show Ent1.id x = Ent1.id (setE c x) from rfl), insK_self hv.up hx]
end
end Go.Proofs.YtfodpcpclmnbkaaDoor
