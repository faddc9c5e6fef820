/- Layer 36 (party): what is done in a valid hall gives a valid hall. Plain Lean. -/
import Derived.Test.YtlfbcoohfnoacaaZUb
set_option linter.unusedSimpArgs false
set_option linter.unusedVariables false
namespace Go.Proofs.Ytlfbcoohfnoacaa
open Go.Fw Go.RowKit
theorem isIdB_iff {n : Int} : isIdB n = true ↔ 1 ≤ n ∧ n ≤ 65536 := by unfold isIdB; simp
/-- What is right about an invitation. -/
def okI (tick : Int) (all : List Int) (i : Inv) : Prop := 1 ≤ i.who ∧ i.who ≤ 65536 ∧ i.who ∉ all ∧ tick < i.till ∧ i.till ≤ tick + 600
theorem invB_iff {tick : Int} {all : List Int} (l : List Inv) : ∀ {w : Int}, invB tick all w l = true ↔ l.Pairwise (fun a b => a.who < b.who) ∧ ∀ i ∈ l, w < i.who ∧ okI tick all i := by
  induction l with
  | nil => intro w; simp [invB]
  | cons i r ih =>
    intro w
    simp only [invB, Bool.and_eq_true, decide_eq_true_eq, isIdB_iff, Bool.not_eq_true', decide_eq_false_iff_not, ih, List.pairwise_cons, List.mem_cons]
    unfold okI
    constructor
    · rintro ⟨⟨⟨⟨⟨h1, h2⟩, h3⟩, h4⟩, h5⟩, h6, h7⟩
      refine ⟨⟨fun j hj => (h7 j hj).1, h6⟩, ?_⟩
      rintro j (rfl | hj)
      · exact ⟨h1, h2.1, h2.2, h3, h4, h5⟩
      · exact ⟨by have := (h7 j hj).1; omega, (h7 j hj).2⟩
    · rintro ⟨⟨h6, h7⟩, h8⟩
      obtain ⟨h1, h2, h2', h3, h4, h5⟩ := h8 i (Or.inl rfl)
      exact ⟨⟨⟨⟨⟨h1, h2, h2'⟩, h3⟩, h4⟩, h5⟩, h7, fun j hj => ⟨h6 j hj, (h8 j (Or.inr hj)).2⟩⟩
/-- What is right about a party. -/
def okP (top tick : Int) (all : List Int) (p : Pty) : Prop :=
  p.id ≤ top ∧ 1 ≤ p.mem.length ∧ p.mem.length + p.inv.length ≤ 5 ∧ p.leader ∈ p.mem ∧ p.inv.Pairwise (fun a b => a.who < b.who) ∧ (∀ i ∈ p.inv, okI tick all i) ∧ ∀ n ∈ p.mem, 1 ≤ n ∧ n ≤ 65536
theorem ptyB_iff {last top tick : Int} {all : List Int} {p : Pty} : ptyB last top tick all p = true ↔ last < p.id ∧ okP top tick all p := by
  unfold ptyB okP
  simp only [Bool.and_eq_true, decide_eq_true_eq, List.all_eq_true, isIdB_iff, invB_iff]
  constructor
  · rintro ⟨⟨⟨⟨⟨⟨h1, h2⟩, h3⟩, h4⟩, h5⟩, h6, h7⟩, h8⟩
    exact ⟨h1, h2, h3, h4, h5, h6, fun i hi => (h7 i hi).2, h8⟩
  · rintro ⟨h1, h2, h3, h4, h5, h6, h7, h8⟩
    exact ⟨⟨⟨⟨⟨⟨h1, h2⟩, h3⟩, h4⟩, h5⟩, h6, fun i hi => ⟨by have := (h7 i hi).1; omega, h7 i hi⟩⟩, h8⟩
theorem risingP_iff {top tick : Int} {all : List Int} (ps : List Pty) : ∀ {last : Int}, risingP top tick all last ps = true ↔ ps.Pairwise (fun a b => a.id < b.id) ∧ ∀ p ∈ ps, last < p.id ∧ okP top tick all p := by
  induction ps with
  | nil => intro last; simp [risingP]
  | cons p r ih =>
    intro last
    simp only [risingP, Bool.and_eq_true, ptyB_iff, ih, List.pairwise_cons, List.mem_cons]
    constructor
    · rintro ⟨⟨h1, h2⟩, h3, h4⟩
      refine ⟨⟨fun q hq => (h4 q hq).1, h3⟩, ?_⟩
      rintro q (rfl | hq)
      · exact ⟨h1, h2⟩
      · exact ⟨by have := (h4 q hq).1; omega, (h4 q hq).2⟩
    · rintro ⟨⟨h1, h2⟩, h3⟩
      exact ⟨h3 p (Or.inl rfl), h2, fun q hq => ⟨h1 q hq, (h3 q (Or.inr hq)).2⟩⟩
/-- A valid hall. -/
structure VHal (h : Hal) : Prop where
  t0 : 0 ≤ h.tick
  t1 : h.tick ≤ 1073741824
  l0 : 0 ≤ h.last
  l1 : h.last ≤ 1048576
  len : h.ps.length ≤ 32
  ids : h.ps.Pairwise fun a b => a.id < b.id
  pos : ∀ p ∈ h.ps, 0 < p.id
  ok : ∀ p ∈ h.ps, okP h.last h.tick (allM h.ps) p
  nd : (allM h.ps).Nodup
theorem valid_iff {h : Hal} : validHal h = true ↔ VHal h := by
  unfold validHal
  simp only [Bool.and_eq_true, decide_eq_true_eq, risingP_iff]
  constructor
  · rintro ⟨⟨⟨⟨⟨⟨h1, h2⟩, h3⟩, h4⟩, h5⟩, h6, h7⟩, h8⟩
    exact ⟨h1, h2, h3, h4, h5, h6, fun p hp => (h7 p hp).1, fun p hp => (h7 p hp).2, h8⟩
  · rintro ⟨h1, h2, h3, h4, h5, h6, h7, h8, h9⟩
    exact ⟨⟨⟨⟨⟨⟨h1, h2⟩, h3⟩, h4⟩, h5⟩, h6, fun p hp => ⟨h7 p hp, h8 p hp⟩⟩, h9⟩
theorem mem_allM {ps : List Pty} {x : Int} : x ∈ allM ps ↔ ∃ p ∈ ps, x ∈ p.mem := List.mem_flatMap
theorem allM_append (a b : List Pty) : allM (a ++ b) = allM a ++ allM b := List.flatMap_append
theorem ps_split {ps : List Pty} {k : Nat} (hk : k < ps.length) : ps = ps.take k ++ ps.getD k pty0 :: ps.drop (k + 1) := by
  have h1 := List.take_append_drop k ps
  rw [List.drop_eq_getElem_cons hk] at h1
  rw [List.getD_eq_getElem?_getD, List.getElem?_eq_getElem hk]
  exact h1.symm
theorem ps_set {ps : List Pty} {k : Nat} (hk : k < ps.length) (p : Pty) : ps.set k p = ps.take k ++ p :: ps.drop (k + 1) := by
  rw [List.set_eq_take_append_cons_drop, if_pos hk]
theorem ps_erase (ps : List Pty) (k : Nat) : ps.eraseIdx k = ps.take k ++ ps.drop (k + 1) := List.eraseIdx_eq_take_drop_succ ps k
theorem allM_uninv (is : Pty → Inv → Bool) (ps : List Pty) : allM (uninvM is ps) = allM ps := by
  induction ps with
  | nil => rfl
  | cons p r ih => exact congrArg (p.mem ++ ·) ih
theorem uninv_len (is : Pty → Inv → Bool) (ps : List Pty) : (uninvM is ps).length = ps.length := List.length_map ..
theorem mem_uninv {is : Pty → Inv → Bool} {ps : List Pty} {p : Pty} : p ∈ uninvM is ps ↔ ∃ q ∈ ps, p = { q with inv := q.inv.filter fun i => !is q i } := by
  unfold uninvM
  rw [List.mem_map]
  exact ⟨fun ⟨q, h1, h2⟩ => ⟨q, h1, h2.symm⟩, fun ⟨q, h1, h2⟩ => ⟨q, h1, h2.symm⟩⟩
/-- Fewer invitations, a later tick, more members that are invited nowhere: a party stays right. -/
theorem okP_filter {top top' tick tick' : Int} {all all' : List Int} {p : Pty} (f : Inv → Bool) (h : okP top tick all p) (ht : top ≤ top') (hf : ∀ i ∈ p.inv, f i = true → okI tick all i → okI tick' all' i) :
    okP top' tick' all' { p with inv := p.inv.filter f } := by
  obtain ⟨h1, h2, h3, h4, h5, h6, h7⟩ := h
  have hl := List.length_filter_le f p.inv
  exact ⟨by show p.id ≤ top'; omega, h2, by show p.mem.length + (p.inv.filter f).length ≤ 5; omega, h4, h5.filter _, fun i hi => hf i (List.mem_filter.mp hi).1 (List.mem_filter.mp hi).2 (h6 i (List.mem_filter.mp hi).1), h7⟩
theorem uninv_ids {is : Pty → Inv → Bool} {ps : List Pty} (h : ps.Pairwise fun a b => a.id < b.id) : (uninvM is ps).Pairwise fun a b => a.id < b.id := by
  unfold uninvM
  rw [List.pairwise_map]
  exact h
theorem uninv_valid {h : Hal} (hv : VHal h) {is : Pty → Inv → Bool} {tick last : Int} (t0 : 0 ≤ tick) (t1 : tick ≤ 1073741824) (l0 : h.last ≤ last) (l1 : last ≤ 1048576)
    (hf : ∀ p ∈ h.ps, ∀ i ∈ p.inv, is p i = false → okI h.tick (allM h.ps) i → okI tick (allM h.ps) i) : VHal ⟨tick, last, uninvM is h.ps⟩ := by
  refine ⟨t0, t1, by show 0 ≤ last; have := hv.l0; omega, l1, by show (uninvM is h.ps).length ≤ 32; rw [uninv_len]; exact hv.len, uninv_ids hv.ids, fun p hp => ?_, fun p hp => ?_, by show (allM (uninvM is h.ps)).Nodup; rw [allM_uninv]; exact hv.nd⟩
  · obtain ⟨q, hq, rfl⟩ := mem_uninv.mp hp
    exact hv.pos q hq
  · obtain ⟨q, hq, rfl⟩ := mem_uninv.mp hp
    show okP last tick (allM (uninvM is h.ps)) _
    rw [allM_uninv]
    exact okP_filter _ (hv.ok q hq) l0 (fun i hi hfi ho => hf q hq i hi (by simpa using hfi) ho)
theorem adv_valid {h : Hal} {t : Int} (he : (advM h t).2 = 0) : VHal (advM h t).1 ∧ h.tick ≤ t ∧ advM h t = (⟨t, h.last, uninvM (fun _ i => decide (i.till ≤ t)) h.ps⟩, 0) := by
  unfold advM at he ⊢
  split at he
  · rename_i hv
    rw [if_pos hv]
    split at he
    · rename_i ht
      rw [if_pos ht]
      split at he
      · cases he
      · rename_i hlt
        rw [if_neg hlt]
        have hV := valid_iff.mp hv
        refine ⟨uninv_valid hV ht.1 ht.2 (Int.le_refl _) hV.l1 (fun p hp i hi hfi ho => ?_), by omega, rfl⟩
        obtain ⟨a, b, c, d, e⟩ := ho
        have : ¬ i.till ≤ t := by simpa using hfi
        exact ⟨a, b, c, by omega, by omega⟩
    · cases he
  · cases he
/-- A further party at the end. -/
theorem snoc_valid {h : Hal} (hv : VHal h) {p : Pty} (hlen : h.ps.length < 32) (hl : h.last < 1048576) (hid : p.id = h.last + 1) (hi : p.inv = []) (hm : 1 ≤ p.mem.length ∧ p.mem.length ≤ 5) (hld : p.leader ∈ p.mem) (hM : ∀ n ∈ p.mem, 1 ≤ n ∧ n ≤ 65536) (hnd : p.mem.Nodup)
    (hd : ∀ x ∈ p.mem, x ∉ allM h.ps) (hq : ∀ q ∈ h.ps, ∀ i ∈ q.inv, i.who ∉ p.mem) : VHal ⟨h.tick, h.last + 1, h.ps ++ [p]⟩ := by
  have hall : allM (h.ps ++ [p]) = allM h.ps ++ p.mem := by rw [allM_append]; simp [allM]
  refine ⟨hv.t0, hv.t1, by show 0 ≤ h.last + 1; have := hv.l0; omega, by show h.last + 1 ≤ _; omega, by show (h.ps ++ [p]).length ≤ 32; rw [List.length_append, List.length_singleton]; omega, ?_, fun q hq' => ?_, fun q hq' => ?_, ?_⟩
  · show (h.ps ++ [p]).Pairwise _
    rw [List.pairwise_append]
    exact ⟨hv.ids, List.pairwise_singleton _ _, fun a ha b hb => by rw [List.mem_singleton.mp hb, hid]; have := (hv.ok a ha).1; omega⟩
  · rcases List.mem_append.mp hq' with h1 | h1
    · exact hv.pos q h1
    · rw [List.mem_singleton.mp h1, hid]; have := hv.l0; omega
  · show okP (h.last + 1) h.tick (allM (h.ps ++ [p])) q
    rw [hall]
    rcases List.mem_append.mp hq' with h1 | h1
    · obtain ⟨a1, a2, a3, a4, a5, a6, a7⟩ := hv.ok q h1
      refine ⟨by omega, a2, a3, a4, a5, fun i hi' => ?_, a7⟩
      obtain ⟨b1, b2, b3, b4, b5⟩ := a6 i hi'
      exact ⟨b1, b2, fun hc => (List.mem_append.mp hc).elim b3 (hq q h1 i hi'), b4, b5⟩
    · rw [List.mem_singleton.mp h1]
      exact ⟨by omega, hm.1, by rw [hi]; exact hm.2, hld, by rw [hi]; exact List.Pairwise.nil, by rw [hi]; exact fun i hi' => absurd hi' List.not_mem_nil, hM⟩
  · show (allM (h.ps ++ [p])).Nodup
    rw [hall, List.nodup_append]
    exact ⟨hv.nd, hnd, fun a ha b hb e => hd b hb (e ▸ ha)⟩
theorem create_valid {h : Hal} {who : Int} (he : (createM h who).2 = 0) : VHal (createM h who).1 ∧ who ∉ allM h.ps ∧ createM h who = (⟨h.tick, h.last + 1, uninvM (fun _ i => decide (i.who = who)) h.ps ++ [⟨h.last + 1, who, [who], []⟩]⟩, 0) := by
  unfold createM at he ⊢
  split at he
  · rename_i hv
    rw [if_pos hv]
    split at he
    · rename_i hw
      rw [if_pos hw]
      split at he
      · cases he
      · rename_i hn
        rw [if_neg hn]
        split at he
        · rename_i hr
          rw [if_pos hr]
          have hV := valid_iff.mp hv
          have hU : VHal ⟨h.tick, h.last, uninvM (fun _ i => decide (i.who = who)) h.ps⟩ := uninv_valid hV hV.t0 hV.t1 (Int.le_refl _) hV.l1 (fun p hp i hi hfi ho => ho)
          refine ⟨snoc_valid hU (by show (uninvM _ h.ps).length < 32; rw [uninv_len]; exact hr.1) hr.2 rfl rfl ⟨by simp, by simp⟩ (by simp) (fun n hn' => by rw [List.mem_singleton.mp hn']; exact isIdB_iff.mp hw) (by simp) (fun x hx => by show x ∉ allM (uninvM _ h.ps); rw [allM_uninv, List.mem_singleton.mp hx]; exact hn) (fun q hq i hi hc => ?_), hn, rfl⟩
          obtain ⟨q', hq', rfl⟩ := mem_uninv.mp hq
          have := (List.mem_filter.mp hi).2
          simp at this
          exact this (List.mem_singleton.mp hc)
        · cases he
    · cases he
  · cases he
end Go.Proofs.Ytlfbcoohfnoacaa
