/- StoreMasks: the plain law. -/
import Derived.Test.YtfodpcpclmnbkaaDoorZTw
import Derived.Test.YtfodpcpclmnbkaaDoorZMp
import Derived.Test.YtfodpcpclmnbkaaDoorZRb
import Derived.Test.YtfodpcpclmnbkaaDoorZPu15
import Derived.Test.YtfodpcpclmnbkaaDoorZWz
set_option linter.unusedSimpArgs false
set_option linter.unusedVariables false
namespace Go.Proofs.YtfodpcpclmnbkaaDoor
open Go.Fw Go.RowKit
instance : TMap Tryd.prog 52 := ⟨⟨3, 3, by kernel_rfl, by kernel_rfl, fun w => by kernel_rfl⟩⟩
theorem any_cong {α : Type} {p q : α → Bool} {l : List α} (h : ∀ c ∈ l, p c = q c) : l.any p = l.any q := by
  induction l with
  | nil => rfl
  | cons x l ih => rw [List.any_cons, List.any_cons, h x (by simp), ih fun c hc => h c (by simp [hc])]
/-- The entity has all kinds of the mask. -/
def hasM (m : Nat) (e : Ent1) : Bool := decide (bandK .u32 (maskC e.comps) (m : Int) = (m : Int))
def idsM (m : Nat) (es : List Ent1) : List Int := (es.filter (hasM m)).map Ent1.id
theorem withM_ids {t : Int} {es : List Ent1} (h : ValidW t es) (m : Nat) : withM t (m : Int) es = idsM m es := by
  unfold withM; rw [if_pos h]; rfl
theorem ids_len (m : Nat) (es : List Ent1) : (idsM m es).length ≤ es.length := by
  unfold idsM
  rw [List.length_map]
  exact List.length_filter_le _ _
section
variable {es : List Ent1} (hr : Rising Ent1.id es)
include hr
theorem ids_mem {m : Nat} {e : Ent1} (he : e ∈ es) : e.id ∈ idsM m es ↔ hasM m e = true := by
  unfold idsM
  rw [List.mem_map]
  constructor
  · rintro ⟨y, hy, hyi⟩
    obtain ⟨h1, h2⟩ := List.mem_filter.1 hy
    rw [rising_inj hr he h1 hyi.symm]; exact h2
  · intro h
    exact ⟨e, List.mem_filter.2 ⟨he, h⟩, rfl⟩
theorem ids_count {m : Nat} {e : Ent1} (he : e ∈ es) : (idsM m es).count e.id = if hasM m e = true then 1 else 0 := by
  have hn : (idsM m es).Nodup := by
    unfold idsM List.Nodup
    rw [List.pairwise_map]
    exact (List.Pairwise.filter _ hr).imp fun h e => by omega
  rw [hn.count]
  by_cases h : hasM m e = true
  · rw [if_pos h, if_pos ((ids_mem hr he).2 h)]
  · rw [if_neg h, if_neg (fun h' => h ((ids_mem hr he).1 h'))]
theorem ids_any {m : Nat} {e : Ent1} (he : e ∈ es) : ((idsM m es).any fun i => decide (i = e.id)) = hasM m e := by
  rw [Bool.eq_iff_iff, List.any_eq_true]
  constructor
  · rintro ⟨i, hi, h⟩
    rw [decide_eq_true_eq] at h
    subst h
    exact (ids_mem hr he).1 hi
  · intro h
    exact ⟨e.id, (ids_mem hr he).2 h, by simp⟩
end
theorem hasM_or {a b : Nat} (ha : a < 4294967296) (hb : b < 4294967296) (e : Ent1) : hasM (a ||| b) e = (hasM a e && hasM b e) := by
  have hab : a ||| b < 4294967296 := Nat.or_lt_two_pow (n := 32) ha hb
  unfold hasM
  rw [Bool.eq_iff_iff, Bool.and_eq_true, decide_eq_true_eq, decide_eq_true_eq, decide_eq_true_eq, mask_all hab, mask_all ha, mask_all hb]
  have hk : ∀ i, (a ||| b) / 2 ^ i % 2 = 1 ↔ a / 2 ^ i % 2 = 1 ∨ b / 2 ^ i % 2 = 1 := fun i => by
    have := Nat.testBit_or a b i
    rw [Nat.testBit_eq_decide_div_mod_eq, Nat.testBit_eq_decide_div_mod_eq, Nat.testBit_eq_decide_div_mod_eq, ← Bool.decide_or] at this
    exact decide_eq_decide.1 this
  constructor
  · exact fun h => ⟨fun i hi ⟨h1, h2⟩ => h i hi ⟨(hk i).2 (.inl h1), h2⟩, fun i hi ⟨h1, h2⟩ => h i hi ⟨(hk i).2 (.inr h1), h2⟩⟩
  · rintro ⟨h1, h2⟩ i hi ⟨h3, h4⟩
    rcases (hk i).1 h3 with h | h
    · exact h1 i hi ⟨h, h4⟩
    · exact h2 i hi ⟨h, h4⟩
/-- How many of the first k have the mask; and the one at k, if it has. -/
def nM (m : Nat) (es : List Ent1) (k : Nat) : Nat := ((es.take k).filter (hasM m)).length
theorem nM_next (m : Nat) {es : List Ent1} {k : Nat} (hk : k < es.length) : nM m es (k + 1) = nM m es k + (if hasM m (es.getD k ⟨0, []⟩) = true then 1 else 0) := by
  unfold nM
  rw [take_snoc (d := ⟨0, []⟩) hk, List.filter_append, List.length_append]
  congr 1
  by_cases h : hasM m (es.getD k ⟨0, []⟩) = true
  · rw [List.filter_cons_of_pos h, if_pos h]; rfl
  · rw [List.filter_cons_of_neg h, if_neg h]; rfl
theorem nM_all (m : Nat) (es : List Ent1) : nM m es es.length = (idsM m es).length := by
  unfold nM idsM
  rw [List.take_length, List.length_map]
theorem nM_at (m : Nat) {es : List Ent1} {k : Nat} (hk : k < es.length) (h : hasM m (es.getD k ⟨0, []⟩) = true) : nM m es k < (idsM m es).length ∧ (idsM m es).getD (nM m es k) 0 = (es.getD k ⟨0, []⟩).id := by
  have hs : es = es.take k ++ es.getD k ⟨0, []⟩ :: es.drop (k + 1) := by
    have h1 := (List.take_append_drop k es).symm
    rw [List.drop_eq_getElem_cons hk] at h1
    rw [List.getD_eq_getElem?_getD, List.getElem?_eq_getElem hk]
    exact h1
  have hi : idsM m es = ((es.take k).filter (hasM m)).map Ent1.id ++ (es.getD k ⟨0, []⟩).id :: ((es.drop (k + 1)).filter (hasM m)).map Ent1.id := by
    generalize es.getD k ⟨0, []⟩ = x at hs h
    unfold idsM
    conv => lhs; rw [hs]
    rw [List.filter_append, List.filter_cons_of_pos h, List.map_append, List.map_cons]
  unfold nM
  have hl : ((es.take k).filter (hasM m)).length = (((es.take k).filter (hasM m)).map Ent1.id).length := by rw [List.length_map]
  rw [hi, hl]
  refine ⟨by rw [List.length_append, List.length_cons]; omega, ?_⟩
  rw [List.getD_eq_getElem?_getD, List.getElem?_append_right (Nat.le_refl _), Nat.sub_self]; rfl
/-- The kinds below j that are in the mask are there. -/
def allB (m : Nat) (cs : List Comp) (j : Nat) : Bool := decide (∀ i, i < j → ¬(m / 2 ^ i % 2 = 1 ∧ (compK (i : Int) cs).isSome = false))
theorem allB_next (m : Nat) (cs : List Comp) (j : Nat) : allB m cs (j + 1) = (allB m cs j && !(decide (m / 2 ^ j % 2 = 1) && !(compK (j : Int) cs).isSome)) := by
  unfold allB
  rw [Bool.eq_iff_iff, Bool.and_eq_true, decide_eq_true_eq, decide_eq_true_eq, Bool.not_eq_true', Bool.and_eq_false_iff, decide_eq_false_iff_not, Bool.not_eq_false']
  constructor
  · intro h
    refine ⟨fun i hi => h i (by omega), ?_⟩
    have := h j (by omega)
    by_cases h1 : m / 2 ^ j % 2 = 1
    · refine .inr ?_
      cases hc : (compK (j : Int) cs).isSome with
      | true => rfl
      | false => exact absurd ⟨h1, hc⟩ this
    · exact .inl h1
  · rintro ⟨h1, h2⟩ i hi
    by_cases he : i = j
    · subst he
      rintro ⟨h3, h4⟩
      rcases h2 with h | h
      · exact h h3
      · rw [h] at h4; cases h4
    · exact h1 i (by omega)
theorem allB_zero (m : Nat) (cs : List Comp) : allB m cs 0 = true := by unfold allB; simp
theorem compK_any (k : Int) (cs : List Comp) : (compK k cs).isSome = cs.any fun c => decide (c.kind = k) := by
  unfold compK
  rw [Bool.eq_iff_iff, List.find?_isSome, List.any_eq_true]
theorem allB_all {m : Nat} (hm : m < 4294967296) {e : Ent1} (hk : ∀ c ∈ e.comps, 1 ≤ c.kind ∧ c.kind ≤ 10) : allB m e.comps 32 = hasM m e := by
  unfold allB hasM
  rw [decide_eq_decide, mask_all hm]
  have hi : ∀ i : Nat, (maskN e.comps / 2 ^ i % 2 = 0 ↔ (compK (i : Int) e.comps).isSome = false) := fun i => by
    have h1 := maskN_bit e.comps i
    rw [Nat.testBit_eq_decide_div_mod_eq] at h1
    have h2 : (e.comps.any fun c => decide (1 ≤ c.kind ∧ c.kind ≤ 10 ∧ c.kind = (i : Int))) = e.comps.any fun c => decide (c.kind = (i : Int)) := by
      refine any_cong fun c hc => ?_
      have := hk c hc
      exact decide_eq_decide.2 ⟨fun h => h.2.2, fun h => ⟨this.1, this.2, h⟩⟩
    rw [h2, ← compK_any] at h1
    rw [← h1, decide_eq_false_iff_not]
    omega
  exact ⟨fun h i hi' ⟨h1, h2⟩ => h i hi' ⟨h1, (hi i).1 h2⟩, fun h i hi' ⟨h1, h2⟩ => h i hi' ⟨h1, (hi i).2 h2⟩⟩
theorem getM_at {t : Int} {es : List Ent1} (h : ValidW t es) (hr : Rising Ent1.id es) {e : Ent1} (he : e ∈ es) (k : Int) : getM t e.id k es = compK k e.comps := by
  unfold getM
  rw [if_pos h]
  have : thg e.id es = some e := (find_key hr).2 ⟨he, rfl⟩
  rw [this]; rfl
theorem mask_part {a : Nat} (ha : a < 4294967296) (cs : List Comp) : maskC (partC (a : Int) cs) = bandK .u32 (maskC cs) (a : Int) := by
  rw [maskC_N, maskC_N, band32 (Nat.lt_trans (maskN_lt _) (by decide)) ha]
  congr 1
  refine Nat.eq_of_testBit_eq fun i => ?_
  rw [Nat.testBit_and, maskN_bit, maskN_bit]
  unfold partC
  rw [List.any_filter]
  by_cases hb : a.testBit i = true
  · rw [hb, Bool.and_true]
    refine any_cong fun c _ => ?_
    rw [inMask_iff ha]
    rw [Nat.testBit_eq_decide_div_mod_eq, decide_eq_true_eq] at hb
    rw [← Bool.decide_and, decide_eq_decide]
    unfold inM
    constructor
    · exact fun h => h.2
    · rintro ⟨h1, h2, h3⟩
      exact ⟨⟨h1, h2, by rw [h3, Int.toNat_natCast]; exact hb⟩, h1, h2, h3⟩
  · rw [Bool.not_eq_true] at hb
    rw [hb, Bool.and_false, List.any_eq_false]
    intro c _ h
    rw [inMask_iff ha, ← Bool.decide_and, decide_eq_true_eq] at h
    obtain ⟨⟨_, _, h3⟩, _, _, h4⟩ := h
    rw [h4, Int.toNat_natCast] at h3
    rw [Nat.testBit_eq_decide_div_mod_eq, decide_eq_false_iff_not] at hb
    exact hb h3
theorem part_all {cs : List Comp} (hk : ∀ c ∈ cs, 1 ≤ c.kind ∧ c.kind ≤ 10) : partC (4294967295 : Int) cs = cs := by
  unfold partC
  refine List.filter_eq_self.2 fun c hc => ?_
  have h1 := inMask_iff (m := 4294967295) (by decide) c
  rw [show ((4294967295 : Nat) : Int) = 4294967295 from rfl] at h1
  rw [h1, decide_eq_true_eq]
  obtain ⟨h2, h3⟩ := hk c hc
  refine ⟨h2, h3, ?_⟩
  have : ∀ k < 11, 4294967295 / 2 ^ k % 2 = 1 := by decide
  exact this _ (by omega)
theorem part_part {a b : Nat} (ha : a < 4294967296) (hb : b < 4294967296) (cs : List Comp) : partC (b : Int) (partC (a : Int) cs) = partC ((a &&& b : Nat) : Int) cs := by
  have hab : a &&& b < 4294967296 := Nat.lt_of_le_of_lt Nat.and_le_left ha
  unfold partC
  rw [List.filter_filter]
  refine List.filter_congr fun c _ => ?_
  rw [inMask_iff ha, inMask_iff hb, inMask_iff hab, ← Bool.decide_and, decide_eq_decide]
  have hk : ∀ i, (a &&& b) / 2 ^ i % 2 = 1 ↔ a / 2 ^ i % 2 = 1 ∧ b / 2 ^ i % 2 = 1 := fun i => by
    have := Nat.testBit_and a b i
    rw [Nat.testBit_eq_decide_div_mod_eq, Nat.testBit_eq_decide_div_mod_eq, Nat.testBit_eq_decide_div_mod_eq, ← Bool.decide_and] at this
    exact decide_eq_decide.1 this
  unfold inM
  rw [hk]
  exact ⟨fun ⟨⟨h1, h2, h3⟩, _, _, h4⟩ => ⟨h1, h2, h4, h3⟩, fun ⟨h1, h2, h3, h4⟩ => ⟨⟨h1, h2, h4⟩, h1, h2, h3⟩⟩
/-- A map counts. -/
def Cnt (m : List (Int × Int)) (c : Int → Int) (B : List Int) (k : Nat) : Prop := ∀ j, mget m j = c j + ((B.take k).count j : Int)
theorem cnt_next {m : List (Int × Int)} {c : Int → Int} {B : List Int} {k : Nat} (hk : k < B.length) (h : Cnt m c B k) {q u : Int} (hq : B.getD k 0 = q) (hu : mget m q + 1 = u) : Cnt (mput m q u) c B (k + 1) := fun j => by
  rw [mget_put, take_snoc (d := 0) hk, List.count_append, hq]
  have h1 := h j
  have h2 := h q
  by_cases hj : q = j
  · subst hj
    rw [if_pos rfl, ← hu, h2]
    simp; omega
  · rw [if_neg hj, h1, List.count_cons_of_ne hj]; simp
theorem cnt_bound {m : List (Int × Int)} {c : Int → Int} {B : List Int} {k : Nat} (h : Cnt m c B k) (hc : ∀ j, 0 ≤ c j ∧ c j ≤ 1000) (hB : B.length ≤ 1000) (j : Int) : 0 ≤ mget m j ∧ mget m j ≤ 2000 := by
  have h1 := h j
  have h2 := hc j
  have h3 : (B.take k).count j ≤ (B.take k).length := List.count_le_length
  rw [List.length_take] at h3
  omega
theorem any_next {A : List Int} {k : Nat} (hk : k < A.length) (i : Int) : ((A.take (k + 1)).any fun x => decide (x = i)) = (((A.take k).any fun x => decide (x = i)) || decide (A.getD k 0 = i)) := by
  rw [take_snoc (d := 0) hk, List.any_append]; simp
theorem built_kinds {l : List U16} {e : Ent1} (h : ValidW 5 (builtL l)) (he : e ∈ builtL l) : ∀ c ∈ e.comps, 1 ≤ c.kind ∧ c.kind ≤ 10 := fun c hc => by
  obtain ⟨i, hi, rfl⟩ := built_mem he
  obtain ⟨j, hj, rfl⟩ := List.mem_map.1 hc
  have := List.mem_range.1 (List.mem_filter.1 hj).1
  rw [bComp_kind]; omega
/-- What the law needs of the lists of numbers. -/
structure Msk (ma mb : Nat) (L : List EntP) (CL AL BL : List Int) (n : Nat → Nat) : Prop where
  n0 : n 0 = 0
  next : ∀ k, k < L.length → n (k + 1) = n k + if (hasM ma (L.getD k Flat.dflt).e && hasM mb (L.getD k Flat.dflt).e) = true then 1 else 0
  all : n L.length = CL.length
  here : ∀ k, k < L.length → (hasM ma (L.getD k Flat.dflt).e && hasM mb (L.getD k Flat.dflt).e) = true → n k < CL.length ∧ CL.getD (n k) 0 = (L.getD k Flat.dflt).e.id
  cA : ∀ k, k < L.length → AL.count (L.getD k Flat.dflt).e.id = if hasM ma (L.getD k Flat.dflt).e = true then 1 else 0
  cB : ∀ k, k < L.length → BL.count (L.getD k Flat.dflt).e.id = if hasM mb (L.getD k Flat.dflt).e = true then 1 else 0
  any : ∀ k, k < L.length → (AL.any fun i => decide (i = (L.getD k Flat.dflt).e.id)) = hasM ma (L.getD k Flat.dflt).e
theorem Msk.le {ma mb : Nat} {L : List EntP} {CL AL BL : List Int} {n : Nat → Nat} (h : Msk ma mb L CL AL BL n) : ∀ k, k ≤ L.length → n k ≤ k
  | 0, _ => by rw [h.n0]; omega
  | k + 1, hk => by
    have h1 := h.next k (by omega)
    have h2 := h.le k (by omega)
    split at h1 <;> omega
theorem ents_get (L : List EntP) {k : Nat} (hk : k < L.length) : (ents L).getD k ⟨0, []⟩ = (L.getD k Flat.dflt).e := by
  unfold ents
  simp [List.getD_eq_getElem?_getD, hk]
theorem msk {ma mb : Nat} {L : List EntP} (ha : ma < 4294967296) (hb : mb < 4294967296) (hr : Rising Ent1.id (ents L)) : ∃ n, Msk ma mb L (idsM (ma ||| mb) (ents L)) (idsM ma (ents L)) (idsM mb (ents L)) n := by
  have hle : (ents L).length = L.length := by unfold ents; rw [List.length_map]
  have hx : ∀ k, k < L.length → (L.getD k Flat.dflt).e ∈ ents L := fun k hk => List.mem_map_of_mem (getD_mem hk)
  refine ⟨nM (ma ||| mb) (ents L), rfl, fun k hk => ?_, by rw [← hle]; exact nM_all _ _, fun k hk h => ?_, fun k hk => ids_count hr (hx k hk), fun k hk => ids_count hr (hx k hk), fun k hk => ids_any hr (hx k hk)⟩
  · rw [nM_next _ (by omega), ents_get L hk, hasM_or ha hb]
  · have := nM_at (ma ||| mb) (es := ents L) (k := k) (by omega) (by rw [ents_get L hk, hasM_or ha hb]; exact h)
    rw [ents_get L hk] at this
    exact this
theorem band32_one {n : Nat} (h : n < 4294967296) : bandK .u32 (n : Int) 1 = ((n % 2 : Nat) : Int) := by
  have := band32 h (b := 1) (by decide)
  rw [Nat.and_one_is_mod] at this
  exact this
theorem part_len (m : Int) (cs : List Comp) : (partC m cs).length ≤ cs.length := List.length_filter_le _ _
end Go.Proofs.YtfodpcpclmnbkaaDoor
