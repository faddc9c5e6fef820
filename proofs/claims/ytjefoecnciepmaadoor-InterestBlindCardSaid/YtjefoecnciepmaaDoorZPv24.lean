/- Layer 24: everything shifted; a further own entity; a world without the own ones. Plain Lean. -/
import Derived.Test.YtjefoecnciepmaaDoorZPp24
import Derived.Test.YtjefoecnciepmaaDoorZPh24
set_option linter.unusedSimpArgs false
set_option linter.unusedVariables false
namespace Go.Proofs.YtjefoecnciepmaaDoor
open Go.Fw Go.RowKit
section
variable {dx dy ct t : Int} {es : List Ent1} {e : Ent1} {k : Int}
def shiftC (dx dy : Int) (c : Comp) : Comp := if c.kind = 1 then ⟨c.kind, c.a + dx, c.b + dy, c.c, c.d⟩ else c
def shiftE (dx dy : Int) (e : Ent1) : Ent1 := ⟨e.id, e.comps.map (shiftC dx dy)⟩
def shiftP (dx dy : Int) (p : Pt) : Pt := ⟨p.x + dx, p.y + dy⟩
theorem shiftC_kind (c : Comp) : (shiftC dx dy c).kind = c.kind := by unfold shiftC; split <;> rfl
theorem shift_compK (l : List Comp) : compK k (l.map (shiftC dx dy)) = (compK k l).map (shiftC dx dy) := by
  unfold compK
  rw [List.find?_map]
  congr 2
  funext c
  simp only [Function.comp]
  rw [shiftC_kind]
theorem shift_keep (hk : k ≠ 1) (l : List Comp) : compK k (l.map (shiftC dx dy)) = compK k l := by
  rw [shift_compK]
  cases h : compK k l with
  | none => rfl
  | some c =>
    have := (compK_mem h).2
    rw [Option.map_some]
    unfold shiftC
    rw [if_neg (by omega)]
theorem shift_owns : ownsE ct (shiftE dx dy e) = ownsE ct e := by
  unfold ownsE shiftE
  simp only
  rw [shift_keep (by omega)]
theorem shift_hid (c : Nat) : hidE c (shiftE dx dy e) = hidE c e := by
  unfold hidE shiftE
  simp only
  rw [shift_keep (by omega)]
theorem shift_point : pointE (shiftE dx dy e) = (pointE e).map (shiftP dx dy) := by
  unfold pointE shiftE
  simp only
  rw [shift_compK]
  cases h : compK 1 e.comps with
  | none => rfl
  | some c =>
    have := (compK_mem h).2
    simp only [Option.map_some]
    unfold shiftC shiftP
    rw [if_pos this]
theorem shift_gap (p q : Pt) : gapP (shiftP dx dy p) (shiftP dx dy q) = gapP p q := by
  unfold gapP shiftP
  simp only
  omega
theorem shift_pts : ptsE ct (es.map (shiftE dx dy)) = (ptsE ct es).map (shiftP dx dy) := by
  unfold ptsE
  rw [List.filter_map, List.map_map, List.map_map]
  have h1 : ((fun e => (pointE e).isSome && ownsE ct e) ∘ shiftE dx dy) = fun e => (pointE e).isSome && ownsE ct e := by
    funext e
    simp only [Function.comp]
    rw [shift_owns, shift_point]
    cases pointE e <;> rfl
  rw [h1]
  refine List.map_congr_left fun e he => ?_
  have hb := (List.mem_filter.1 he).2
  simp only [Function.comp]
  rw [shift_point]
  cases hp : pointE e with
  | none => rw [hp] at hb; simp at hb
  | some p => rfl
theorem shift_near (ps : List Pt) : nearE (ps.map (shiftP dx dy)) (shiftE dx dy e) = nearE ps e := by
  unfold nearE
  rw [shift_point]
  cases pointE e with
  | none => rfl
  | some p =>
    simp only [Option.map_some]
    rw [List.any_map]
    congr 1
    funext q
    simp only [Function.comp]
    rw [shift_gap]
theorem shift_sees (c : Nat) (ps : List Pt) : seesE c (ps.map (shiftP dx dy)) (shiftE dx dy e) = seesE c ps e := by
  unfold seesE
  rw [shift_owns, shift_hid, shift_near]
theorem shift_vis (h1 : OkI ct t es) (h2 : OkI ct t (es.map (shiftE dx dy))) : visL ct t (es.map (shiftE dx dy)) = visL ct t es := by
  rw [visL_ok h1, visL_ok h2, shift_pts, List.filter_map, List.map_map]
  have e1 : (seesE ct.toNat ((ptsE ct es).map (shiftP dx dy)) ∘ shiftE dx dy) = seesE ct.toNat (ptsE ct es) := by
    funext e
    simp only [Function.comp]
    exact shift_sees _ _
  rw [e1]
  rfl
theorem shift_fits {c : Comp} (h : Fits c) (hp : c.kind = 1 → (-1048576 ≤ c.a + dx ∧ c.a + dx ≤ 1048576) ∧ (-1048576 ≤ c.b + dy ∧ c.b + dy ≤ 1048576)) : Fits (shiftC dx dy c) := by
  unfold shiftC
  split
  · rename_i hk
    have hr := h.rng
    obtain ⟨p1, p2⟩ := hp hk
    refine ⟨h.kind, ?_, fun h3 => by have h3 : c.kind = 3 := h3; omega, fun h5 => by have h5 : c.kind = 5 := h5; omega⟩
    show InR (RNG.getD c.kind.toNat Flat.dflt) _
    rw [hk] at hr ⊢
    exact ⟨p1, p2, hr.r2, hr.r3⟩
  · exact h
theorem shift_right (h : RightE e) (hp : ∀ c ∈ e.comps, c.kind = 1 → (-1048576 ≤ c.a + dx ∧ c.a + dx ≤ 1048576) ∧ (-1048576 ≤ c.b + dy ∧ c.b + dy ≤ 1048576)) : RightE (shiftE dx dy e) := by
  refine ⟨h.id, ?_, fun c hc => ?_⟩
  · have h1 := h.up
    unfold Rising shiftE at *
    simp only
    rw [List.pairwise_map]
    simpa only [shiftC_kind] using h1
  · obtain ⟨x, hx, rfl⟩ := List.mem_map.1 hc
    exact shift_fits (h.fits x hx) (hp x hx)
theorem shift_valid (h : ValidW t es) (hp : ∀ e ∈ es, ∀ c ∈ e.comps, c.kind = 1 → (-1048576 ≤ c.a + dx ∧ c.a + dx ≤ 1048576) ∧ (-1048576 ≤ c.b + dy ∧ c.b + dy ≤ 1048576)) : ValidW t (es.map (shiftE dx dy)) := by
  refine ⟨h.tick, by rw [List.length_map]; exact h.len, ?_, fun e he => ?_⟩
  · have h1 := h.up
    unfold Rising at *
    rw [List.pairwise_map]
    exact h1
  · obtain ⟨x, hx, rfl⟩ := List.mem_map.1 he
    exact shift_right (h.right x hx) (hp x hx)
theorem formN_pos {f : Form} (hf : f.Ok) {c : Comp} (hc : c ∈ formN f 10) (hk : c.kind = 1) : (-32768 ≤ c.a ∧ c.a ≤ 32512) ∧ (-32768 ≤ c.b ∧ c.b ≤ 32512) := by
  obtain ⟨i, hi, _, rfl⟩ := formN_mem.1 hc
  rw [all10_kind f hi] at hk
  obtain rfl : i = 0 := by omega
  have h1 := hf.x
  have h2 := hf.y
  show (-32768 ≤ 256 * f.x ∧ 256 * f.x ≤ 32512) ∧ (-32768 ≤ 256 * f.y ∧ 256 * f.y ≤ 32512)
  omega
/-- A world of valid entities in which nobody is one's own shows nothing. -/
theorem none_vis (h : OkI ct t es) (ho : ∀ e ∈ es, ownsE ct e = false) : visL ct t es = [] := by
  rw [visL_ok h]
  have hp : ptsE ct es = [] := by
    unfold ptsE
    rw [List.filter_eq_nil_iff.2 (fun e he => by rw [ho e he]; simp)]
    rfl
  rw [List.filter_eq_nil_iff.2 (fun e he => ?_)]
  · rfl
  · unfold seesE
    rw [show ((ct.toNat : Nat) : Int) = ct by have := h.1; omega, ho e he, hp]
    unfold nearE
    cases pointE e <;> simp
theorem filt_valid {t' : Int} (h : ValidW t es) (p : Ent1 → Bool) (ht : 0 ≤ t' ∧ t' ≤ 1073741824) : ValidW t' (es.filter p) := by
  refine ⟨ht, ?_, List.Pairwise.filter _ h.up, fun e he => h.right e (List.mem_filter.1 he).1⟩
  have := List.length_filter_le p es
  have := h.len
  omega
theorem near_more {ps qs : List Pt} (h : nearE ps e = true) : nearE (ps ++ qs) e = true := by
  unfold nearE at *
  cases hp : pointE e with
  | none => rw [hp] at h; cases h
  | some p =>
    rw [hp] at h
    simp only at h ⊢
    rw [List.any_append, h]; rfl
theorem sees_more {c : Nat} {ps qs : List Pt} (h : seesE c ps e = true) : seesE c (ps ++ qs) e = true := by
  unfold seesE at *
  cases ho : ownsE (c : Int) e
  · rw [ho] at h
    simp only [Bool.false_or, Bool.and_eq_true] at h ⊢
    exact ⟨h.1, near_more h.2⟩
  · rfl
theorem pts_more (x : Ent1) : ∃ qs, ptsE ct (es ++ [x]) = ptsE ct es ++ qs := by
  unfold ptsE
  rw [List.filter_append, List.map_append]
  exact ⟨_, rfl⟩
theorem add_valid {x : Ent1} (h : ValidW t es) (hl : es.length < 64) (hid : ∀ e ∈ es, e.id < x.id) (hx : RightE x) : ValidW t (es ++ [x]) := by
  refine ⟨h.tick, by rw [List.length_append]; simp; omega, ?_, fun e he => ?_⟩
  · refine List.pairwise_append.2 ⟨h.up, by simp, fun a ha b hb => ?_⟩
    rw [List.mem_singleton.1 hb]; exact hid a ha
  · rcases List.mem_append.1 he with h1 | h1
    · exact h.right e h1
    · rw [List.mem_singleton.1 h1]; exact hx
/-- With a further own entity nothing is lost. -/
theorem more_vis {x : Ent1} (h1 : OkI ct t es) (h2 : OkI ct t (es ++ [x])) : ∀ id ∈ visL ct t es, id ∈ visL ct t (es ++ [x]) := by
  rw [visL_ok h1, visL_ok h2]
  intro id hid
  obtain ⟨e, he, rfl⟩ := List.mem_map.1 hid
  obtain ⟨he, hs⟩ := List.mem_filter.1 he
  obtain ⟨qs, hq⟩ := pts_more (ct := ct) (es := es) x
  rw [hq]
  exact List.mem_map_of_mem (List.mem_filter.2 ⟨List.mem_append_left _ he, sees_more hs⟩)
theorem more_own {x : Ent1} (h2 : OkI ct t (es ++ [x])) (ho : ownsE ct x = true) : x.id ∈ visL ct t (es ++ [x]) := by
  rw [visL_ok h2]
  refine List.mem_map_of_mem (List.mem_filter.2 ⟨List.mem_append_right _ (List.mem_singleton.2 rfl), own_sees h2.1.1 ho⟩)
/-- The form of a further own entity. -/
def ownF (f : Form) (o : Int) : Form := ⟨borK .u16 f.bits 8, f.x, f.y, o, f.hide, f.n⟩
theorem ownF_ok {f : Form} {o : Int} (hf : f.Ok) (ho : 0 ≤ o ∧ o ≤ 255) : (ownF f o).Ok := ⟨or_bits_in (m := 8) hf.bits (by omega), hf.x, hf.y, ho, hf.hide, hf.n⟩
theorem ownF_owns {f : Form} (hf : f.Ok) {o id : Int} (ho : 0 ≤ o ∧ o ≤ 7) : ownsE (o + 1) (formE id (ownF f o)) = true := by
  rw [formE_owns]
  have : hasBit (ownF f o) 3 = true := by
    unfold hasBit ownF
    simp only
    rw [show borK .u16 f.bits 8 = ((f.bits.toNat ||| 8 : Nat) : Int) from or_bits (m := 8) hf.bits (by omega), Int.toNat_natCast, Nat.testBit_or, show (8 : Nat) = 2 ^ 3 from rfl, Nat.testBit_two_pow]
    simp
  rw [this]
  have e : (ownF f o).owner = o := rfl
  rw [e, Bool.true_and]
  exact decide_eq_true (by omega)
end
end Go.Proofs.YtjefoecnciepmaaDoor
