/- Layer 15: components that are set and taken. Plain Lean. -/
import Derived.Test.YtfodpcpclmnbkaaDoorZPn15
set_option linter.unusedSimpArgs false
set_option linter.unusedVariables false
namespace Go.Proofs.YtfodpcpclmnbkaaDoor
open Go.Fw Go.RowKit
section
variable {α : Type} {key : α → Int} {l : List α} {a b x : α}
theorem insK_insK (h : Rising key l) (hk : key a = key b) : insK key a (insK key b l) = insK key a l := by
  refine fnd_ext (rising_insK (rising_insK h)) (rising_insK h) fun k => ?_
  rw [fnd_ins (rising_insK h), fnd_ins h, fnd_ins h]
  by_cases hk1 : k = key a
  · rw [if_pos hk1, if_pos hk1]
  · rw [if_neg hk1, if_neg hk1, if_neg (by omega)]
theorem insK_comm (h : Rising key l) (hk : key a ≠ key b) : insK key a (insK key b l) = insK key b (insK key a l) := by
  refine fnd_ext (rising_insK (rising_insK h)) (rising_insK (rising_insK h)) fun k => ?_
  rw [fnd_ins (rising_insK h), fnd_ins h, fnd_ins (rising_insK h), fnd_ins h]
  by_cases hk1 : k = key a
  · rw [if_pos hk1, if_neg (by omega), if_pos hk1]
  · rw [if_neg hk1, if_neg hk1]
/-- What is put in anew changes no length. -/
theorem insK_same (h : Rising key l) (hx : x ∈ l) (hk : key a = key x) : (insK key a l).length = l.length := by
  obtain ⟨s, t, rfl⟩ := List.append_of_mem hx
  have h1 := List.pairwise_append.1 h
  have h2 := List.pairwise_cons.1 h1.2.1
  rw [insK_one hk.symm (fun y hy => by have := h1.2.2 y hy x (List.mem_cons_self ..); omega) (fun y hy => by have := h2.1 y hy; omega)]
  simp
end
section
variable {t id k : Int} {es : List Ent1} {x : Ent1} {c d : Comp}
theorem setE_right (hx : RightE x) (hc : Fits c) : RightE (setE c x) := ⟨hx.id, rising_insK hx.up, fun y hy => by
  rcases mem_insK.1 hy with rfl | ⟨h, _⟩
  · exact hc
  · exact hx.fits y h⟩
theorem ins_valid (hv : ValidW t es) (hx : x ∈ es) {y : Ent1} (hy : RightE y) (hid : y.id = x.id) : ValidW t (insK Ent1.id y es) := by
  refine ⟨hv.tick, by rw [insK_same hv.up hx hid]; exact hv.len, rising_insK hv.up, fun z hz => ?_⟩
  rcases mem_insK.1 hz with rfl | ⟨h, _⟩
  · exact hy
  · exact hv.right z h
theorem thg_mem (hv : ValidW t es) (hx : x ∈ es) : thg x.id es = some x := thg_some hv.up hx rfl
theorem setL_at (hv : ValidW t es) (hx : x ∈ es) : setL x.id c es = insK Ent1.id (setE c x) es := by unfold setL; rw [thg_mem hv hx]
theorem unsL_at (hv : ValidW t es) (hx : x ∈ es) : unsL x.id k es = insK Ent1.id (unsE k x) es := by unfold unsL; rw [thg_mem hv hx]
theorem set_valid (hv : ValidW t es) (hx : x ∈ es) (hc : Fits c) : ValidW t (setL x.id c es) := by
  rw [setL_at hv hx]; exact ins_valid hv hx (setE_right (hv.right x hx) hc) rfl
theorem set_err (hv : ValidW t es) (hx : x ∈ es) (hc : Fits c) : setErr t x.id c es = 0 := by
  unfold setErr; rw [if_pos ⟨hv, hc⟩, thg_mem hv hx]; rfl
theorem set_bad (hc : ¬ Fits c) : setErr t id c es = 2 := if_neg fun h => hc h.2
theorem set_thg (hv : ValidW t es) (hx : x ∈ es) {i : Int} : thg i (setL x.id c es) = if i = x.id then some (setE c x) else thg i es := by
  rw [setL_at hv hx]
  exact fnd_ins (c := setE c x) (k := i) hv.up
theorem set_mem (hv : ValidW t es) (hx : x ∈ es) : setE c x ∈ setL x.id c es := by
  rw [setL_at hv hx]
  exact mem_insK.2 (.inl rfl)
theorem comp_ins {cs : List Comp} (h : Rising kindC cs) : compK k (insK kindC c cs) = if k = c.kind then some c else compK k cs := fnd_ins (key := kindC) h
theorem set_get (hv : ValidW t es) (hx : x ∈ es) (hc : Fits c) {i : Int} : getM t i k (setL x.id c es) = if i = x.id ∧ k = c.kind then some c else getM t i k es := by
  unfold getM
  rw [if_pos (set_valid hv hx hc), if_pos hv, set_thg hv hx]
  by_cases hi : i = x.id
  · rw [if_pos hi, hi, thg_mem hv hx]
    show compK k (setE c x).comps = if x.id = x.id ∧ k = c.kind then some c else compK k x.comps
    rw [show (setE c x).comps = insK kindC c x.comps from rfl, comp_ins (hv.right x hx).up]
    by_cases hk : k = c.kind
    · rw [if_pos hk, if_pos ⟨rfl, hk⟩]
    · rw [if_neg hk, if_neg (fun h => hk h.2)]
  · rw [if_neg hi, if_neg (fun h => hi h.1)]
theorem set_set (hv : ValidW t es) (hx : x ∈ es) (hc : Fits c) : setL x.id d (setL x.id c es) = insK Ent1.id (setE d (setE c x)) es := by
  have h1 : setL x.id d (setL x.id c es) = insK Ent1.id (setE d (setE c x)) (setL x.id c es) := setL_at (x := setE c x) (set_valid hv hx hc) (set_mem hv hx)
  rw [h1, setL_at hv hx]
  exact insK_insK hv.up rfl
theorem set_twice (hv : ValidW t es) (hx : x ∈ es) (hc : Fits c) (hk : c.kind = d.kind) : setL x.id d (setL x.id c es) = setL x.id d es := by
  rw [set_set hv hx hc, setL_at hv hx]
  have : setE d (setE c x) = setE d x := by
    show (⟨x.id, insK kindC d (insK kindC c x.comps)⟩ : Ent1) = ⟨x.id, insK kindC d x.comps⟩
    rw [insK_insK (hv.right x hx).up hk.symm]
  rw [this]
theorem set_swap (hv : ValidW t es) (hx : x ∈ es) (hc : Fits c) (hd : Fits d) (hk : c.kind ≠ d.kind) : setL x.id d (setL x.id c es) = setL x.id c (setL x.id d es) := by
  rw [set_set hv hx hc, set_set hv hx hd]
  have : setE d (setE c x) = setE c (setE d x) := by
    show (⟨x.id, insK kindC d (insK kindC c x.comps)⟩ : Ent1) = ⟨x.id, insK kindC c (insK kindC d x.comps)⟩
    rw [insK_comm (hv.right x hx).up (a := d) (b := c) (fun h => hk h.symm)]
  rw [this]
theorem set_comps {m : Nat} (hv : ValidW t es) (hm : ∀ e ∈ es, e.comps.length ≤ m) : ∀ e ∈ setL id c es, e.comps.length ≤ m + 1 := fun e he => by
  unfold setL at he
  cases hf : thg id es with
  | none => rw [hf] at he; have := hm e he; omega
  | some x =>
    rw [hf] at he
    have hx := (fnd_some (key := Ent1.id) hf).1
    rcases mem_insK.1 he with rfl | ⟨h, _⟩
    · have h1 : (insK kindC c x.comps).length ≤ x.comps.length + 1 := insK_len (hv.right x hx).up
      have h2 := hm x hx
      show (insK kindC c x.comps).length ≤ m + 1
      omega
    · have := hm e h; omega
end
end Go.Proofs.YtfodpcpclmnbkaaDoor
