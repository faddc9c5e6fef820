/- Package interest: Sees, Watchers. -/
import Derived.Test.YtjefoecnciepmaaDoorZTw
import Derived.Test.YtjefoecnciepmaaDoorZIf
set_option linter.unusedSimpArgs false
set_option linter.unusedVariables false
namespace Go.Proofs.YtjefoecnciepmaaDoor
open Go.Fw Go.RowKit
theorem lbK_spec {α : Type} (d : α) (key : α → Int) (k : Int) : ∀ (l : List α), lbK key k l ≤ l.length ∧ (∀ q, q < lbK key k l → key (l.getD q d) < k) ∧ (lbK key k l < l.length → ¬ key (l.getD (lbK key k l) d) < k)
  | [] => ⟨Nat.le_refl _, fun q h => absurd h (Nat.not_lt_zero q), fun h => absurd h (Nat.not_lt_zero _)⟩
  | x :: l => by
    obtain ⟨h1, h2, h3⟩ := lbK_spec d key k l
    unfold lbK at *
    by_cases hx : key x < k
    · rw [List.takeWhile_cons_of_pos (by simpa using hx), List.length_cons, List.length_cons]
      refine ⟨by omega, fun q hq => ?_, fun h => by simpa using h3 (by omega)⟩
      cases q with
      | zero => exact hx
      | succ q => simpa using h2 q (by omega)
    · rw [List.takeWhile_cons_of_neg (by simpa using hx)]
      exact ⟨Nat.zero_le _, fun q h => absurd h (Nat.not_lt_zero q), fun _ => hx⟩
theorem getD_of_mem {α : Type} (d : α) {l : List α} {x : α} (h : x ∈ l) : ∃ i, i < l.length ∧ l.getD i d = x := by
  obtain ⟨i, hi, rfl⟩ := List.getElem_of_mem h
  exact ⟨i, hi, by simp [List.getD_eq_getElem?_getD, hi]⟩
theorem rising_inj {α : Type} {key : α → Int} {l : List α} (hR : Rising key l) {x y : α} (hx : x ∈ l) (hy : y ∈ l) (h : key x = key y) : x = y := by
  obtain ⟨i, hi, hxi⟩ := getD_of_mem x hx
  obtain ⟨j, hj, hyj⟩ := getD_of_mem x hy
  rcases Nat.lt_trichotomy i j with e | e | e
  · have := rising_at x hR e hj; rw [hxi, hyj] at this; omega
  · rw [e, hyj] at hxi; exact hxi.symm
  · have := rising_at x hR e hi; rw [hxi, hyj] at this; omega
theorem has_mem {α : Type} [Flat α] {key : α → Int} {k : Int} {l : List α} (hR : Rising key l) : hasK key k l = true ↔ ∃ x ∈ l, key x = k := by
  obtain ⟨h1, h2, h3⟩ := lbK_spec Flat.dflt key k l
  unfold hasK
  simp only [Bool.and_eq_true, decide_eq_true_eq]
  constructor
  · rintro ⟨hlt, hk⟩
    exact ⟨_, getD_mem hlt, hk⟩
  · rintro ⟨x, hx, hk⟩
    obtain ⟨i, hi, rfl⟩ := getD_of_mem Flat.dflt hx
    have hle : lbK key k l ≤ i := by
      apply Nat.le_of_not_lt
      intro h
      have := h2 i h; omega
    have hlt : lbK key k l < l.length := by omega
    refine ⟨hlt, ?_⟩
    have := h3 hlt
    rcases Nat.lt_or_eq_of_le hle with e | e
    · have := rising_at Flat.dflt hR e hi; omega
    · rw [e]; exact hk
/-- The entity with a number. -/
def entOf (id : Int) (es : List Ent1) : Option Ent1 := es.find? fun e => decide (e.id = id)
theorem entOf_has {id : Int} {l : List EntP} (hR : Rising idE l) (h : hasK idE id l = true) : entOf id (ents l) = some (l.getD (lbK idE id l) Flat.dflt).e := by
  unfold hasK at h
  simp only [Bool.and_eq_true, decide_eq_true_eq] at h
  obtain ⟨hlt, hk⟩ := h
  have hm := getD_mem (d := Flat.dflt) hlt
  unfold entOf
  cases hf : (ents l).find? fun e => decide (e.id = id) with
  | none =>
    rw [List.find?_eq_none] at hf
    have := hf _ (List.mem_map_of_mem hm)
    simp only [decide_eq_true_eq] at this
    exact absurd hk this
  | some e =>
    have h1 := List.mem_of_find?_eq_some hf
    have h2 := List.find?_some hf
    simp only [decide_eq_true_eq] at h2
    obtain ⟨y, hy, rfl⟩ := List.mem_map.1 h1
    have hk' : (l.getD (lbK idE id l) Flat.dflt).e.id = id := hk
    exact congrArg (fun z => some z.e) (rising_inj hR hy hm (show y.e.id = _ by rw [h2]; exact hk'.symm))
theorem entOf_not {id : Int} {l : List EntP} (hR : Rising idE l) (h : hasK idE id l = false) : entOf id (ents l) = none := by
  unfold entOf
  rw [List.find?_eq_none]
  intro e he
  obtain ⟨y, hy, rfl⟩ := List.mem_map.1 he
  simp only [decide_eq_true_eq]
  intro hk
  have := (has_mem (k := id) hR).2 ⟨y, hy, hk⟩
  rw [h] at this; cases this
def seeB (ct id t : Int) (es : List Ent1) : Bool := decide (OkI ct t es) && match entOf id es with | some e => seesE ct.toNat (ptsE ct es) e | none => false
def seeErr (ct id t : Int) (es : List Ent1) : Int := if OkI ct t es then (match entOf id es with | some _ => 0 | none => 6) else 2
set_option maxHeartbeats 2000000 in
set_option maxRecDepth 100000 in
theorem seesI_spec (ct id t : Int) (A : Option Addr) (l : List EntP) (c1 : Nat) (w : World) (hG : Glob w) (hs : Sz l) (hse : ∀ x ∈ l, x.e.comps.length ≤ 1000000) (hr : RdW w A l) :
    Ret Tryd.prog 19 [wv t A l c1, .int .i64 ct, .int .i64 id].toArray w (Out w (.tuple #[.bool (seeB ct id t (ents l)), .int .i64 (seeErr ct id t (ents l))])) := by
  have hO := fun w' (he : Ext w w') => open_spec ct t A l c1 w' (hG.ext he) hs (hr.ext he)
  have hE := fun w' (he : Ext w w') => entity_spec t id A l c1 w' (hG.ext he) hs hse (hr.ext he)
  unfold OpenR at hO
  unfold EntityR findB at hE
  unfold seeB seeErr
  by_cases hv : OkI ct t (ents l)
  case neg =>
    simp only [if_neg hv] at hO ⊢
    rw [decide_eq_false hv, Bool.false_and]
    clear hv hE
    unfold wv at *
    refine enterH Tryd.func19 rfl rfl Tryd.ntmps19 rfl (Wd.refl _) ?_
    (repeat' (first | (show VH _ _ _ _ _ _ _; first | refine v_seq ?_ | refine r_seq ?_) | (show SH _ _ _ _ _ (_ :: _) _ _ _; first | (show SH _ _ _ _ _ (⟨_, .move _, _, _, _, _⟩ :: _) _ _ _; refine mov evL ?_) | (show SH _ _ _ _ _ (⟨_, .assign _, _, _, _, _⟩ :: _) _ _ _; refine asg evL ?_) | (show SH _ _ _ _ _ (⟨_, .load _ _, _, _, _, _⟩ :: _) _ _ _; refine lba rfl spL (by rfl) ?_) | (show SH _ _ _ _ _ (⟨_, .call ⟨.value (.func 27), _, _⟩, _, _, _, _⟩ :: _) _ _ _; refine cp (callee := .func 27) rfl (fun w hw => hO _ hw.ext) rfl rfl ?_) | (show SH _ _ _ _ _ (⟨_, .box _ _, _, _, _, _⟩ :: _) _ _ _; refine bxx rfl evL rfl (fun b => ?_))) | refine s_nil ?_ | refine kh_normal ?_))
    rintro _ _ ⟨rfl, rfl⟩
    (repeat' (first | (show VH _ _ _ _ _ _ _; first | refine v_seq ?_ | refine r_seq ?_ | refine v_ret ?_ | refine v_cond_t rfl tbL ?_) | (show SH _ _ _ _ _ (_ :: _) _ _ _; first | (show SH _ _ _ _ _ (⟨_, .move _, _, _, _, _⟩ :: _) _ _ _; refine mov evL ?_) | (show SH _ _ _ _ _ (⟨_, .assign _, _, _, _, _⟩ :: _) _ _ _; refine asg evL ?_) | (show SH _ _ _ _ _ (⟨_, .binOp .neq _ _ _ _, _, _, _, _⟩ :: _) _ _ _; refine neqT rfl rfl omD ?_) | refine extr rfl rfl ?_ | refine ala rfl (fun b => ?_) | (show SH _ _ _ _ _ (⟨_, .store _ _ _, _, _, _, _⟩ :: _) _ _ _; refine sta rfl rfl rfl spL (by rfl) (by rfl) (by rfl) kpL ?_)) | refine s_nil ?_ | refine kh_normal ?_ | refine kh_ret ?_))
    exact rh2 rfl rfl rfl ⟨rfl, rfl⟩ (ent_nil _)
  simp only [if_pos hv] at hO ⊢
  rw [decide_eq_true hv, Bool.true_and]
  obtain ⟨⟨hc1, hc8⟩, hV⟩ := hv
  have hR := (rising_ents l).1 hV.up
  rw [decide_eq_true hV, Bool.true_and] at hE
  cases hb : hasK idE id l with
  | false =>
    rw [entOf_not hR hb]
    rw [hb] at hE
    simp only [Bool.false_eq_true, if_false] at hE
    clear hV hR hb
    generalize ptsE ct (ents l) = ps at hO
    unfold wv at *
    refine enterH Tryd.func19 rfl rfl Tryd.ntmps19 rfl (Wd.refl _) ?_
    (repeat' (first | (show VH _ _ _ _ _ _ _; first | refine v_seq ?_ | refine r_seq ?_) | (show SH _ _ _ _ _ (_ :: _) _ _ _; first | (show SH _ _ _ _ _ (⟨_, .move _, _, _, _, _⟩ :: _) _ _ _; refine mov evL ?_) | (show SH _ _ _ _ _ (⟨_, .assign _, _, _, _, _⟩ :: _) _ _ _; refine asg evL ?_) | (show SH _ _ _ _ _ (⟨_, .load _ _, _, _, _, _⟩ :: _) _ _ _; refine lba rfl spL (by rfl) ?_) | (show SH _ _ _ _ _ (⟨_, .call ⟨.value (.func 27), _, _⟩, _, _, _, _⟩ :: _) _ _ _; refine cp (callee := .func 27) rfl (fun w hw => hO _ hw.ext) rfl rfl ?_) | (show SH _ _ _ _ _ (⟨_, .box _ _, _, _, _, _⟩ :: _) _ _ _; refine bxx rfl evL rfl (fun b => ?_))) | refine s_nil ?_ | refine kh_normal ?_))
    rintro _ _ ⟨A1, c2, rfl, rfl⟩
    (repeat' (first | (show VH _ _ _ _ _ _ _; first | refine v_seq ?_ | refine r_seq ?_ | refine v_skip ?_ | refine v_cond_f rfl tbL ?_) | (show SH _ _ _ _ _ (_ :: _) _ _ _; first | (show SH _ _ _ _ _ (⟨_, .move _, _, _, _, _⟩ :: _) _ _ _; refine mov evL ?_) | (show SH _ _ _ _ _ (⟨_, .assign _, _, _, _, _⟩ :: _) _ _ _; refine asg evL ?_) | (show SH _ _ _ _ _ (⟨_, .binOp .neq _ _ _ _, _, _, _, _⟩ :: _) _ _ _; refine neqF rfl rfl omD ?_) | (show SH _ _ _ _ _ (⟨_, .load _ _, _, _, _, _⟩ :: _) _ _ _; refine lba rfl spL (by rfl) ?_) | (show SH _ _ _ _ _ (⟨_, .call ⟨.value (.func 36), _, _⟩, _, _, _, _⟩ :: _) _ _ _; refine cp (callee := .func 36) rfl (fun w hw => hE _ hw.ext) rfl rfl ?_) | refine extr rfl rfl ?_ | refine ala rfl (fun b => ?_) | (show SH _ _ _ _ _ (⟨_, .store _ _ _, _, _, _, _⟩ :: _) _ _ _; refine sta rfl rfl rfl spL (by rfl) (by rfl) (by rfl) kpL ?_)) | refine s_nil ?_ | refine kh_normal ?_))
    rintro _ _ ⟨rfl, rfl⟩
    (repeat' (first | (show VH _ _ _ _ _ _ _; first | refine v_seq ?_ | refine r_seq ?_ | refine v_ret ?_ | refine v_cond_t rfl tbL ?_) | (show SH _ _ _ _ _ (_ :: _) _ _ _; first | (show SH _ _ _ _ _ (⟨_, .move _, _, _, _, _⟩ :: _) _ _ _; refine mov evL ?_) | (show SH _ _ _ _ _ (⟨_, .assign _, _, _, _, _⟩ :: _) _ _ _; refine asg evL ?_) | refine bnoF rfl ?_ | refine extr rfl rfl ?_ | refine ala rfl (fun b => ?_) | (show SH _ _ _ _ _ (⟨_, .store _ _ _, _, _, _, _⟩ :: _) _ _ _; refine sta rfl rfl rfl spL (by rfl) (by rfl) (by rfl) kpL ?_)) | refine s_nil ?_ | refine kh_normal ?_ | refine kh_ret ?_))
    exact rh2 rfl rfl rfl ⟨rfl, rfl⟩ (ent_nil _)
  | true =>
    rw [entOf_has hR hb]
    rw [hb] at hE
    simp only [if_true] at hE
    unfold hasK at hb
    simp only [Bool.and_eq_true, decide_eq_true_eq] at hb
    have hx := getD_mem (d := Flat.dflt) hb.1
    have hid : (l.getD (lbK idE id l) Flat.dflt).e.id = id := hb.2
    obtain ⟨cn, rfl⟩ : ∃ cn : Nat, ct = (cn : Int) := ⟨ct.toNat, by omega⟩
    rw [Int.toNat_natCast]
    have hl : l.length ≤ 64 := by have := hV.len; rwa [ents_len] at this
    have hin := pts_in (cl := (cn : Int)) hV.right
    have hpl := pts_len (cn : Int) (ents l)
    rw [ents_len] at hpl
    have hRE : RightE (l.getD (lbK idE id l) Flat.dflt).e := hV.right _ (List.mem_map_of_mem hx)
    have hse' := hse _ hx
    clear hV hR hb hx hse
    generalize ptsE (cn : Int) (ents l) = ps at hO hin hpl ⊢
    generalize (l.getD (lbK idE id l) Flat.dflt).e = e at hE hid hRE hse' ⊢
    have hS := fun w' (he : Ext w w') A1 c2 A2 c3 (hps : Rd w' A1 ps) (hr2 : Rd w' A2 e.comps) => sees_spec cn (by omega) A1 ps c2 ⟨e, A2, c3⟩ w' (by show e.comps.length ≤ _; omega) hr2 hRE hps hin (by omega)
    generalize seesE cn ps e = q at hS ⊢
    obtain ⟨ei, ec⟩ := e
    simp only at hE hid hS
    subst hid
    clear hin hRE
    unfold wv at *
    refine enterH Tryd.func19 rfl rfl Tryd.ntmps19 rfl (Wd.refl _) ?_
    (repeat' (first | (show VH _ _ _ _ _ _ _; first | refine v_seq ?_ | refine r_seq ?_) | (show SH _ _ _ _ _ (_ :: _) _ _ _; first | (show SH _ _ _ _ _ (⟨_, .move _, _, _, _, _⟩ :: _) _ _ _; refine mov evL ?_) | (show SH _ _ _ _ _ (⟨_, .assign _, _, _, _, _⟩ :: _) _ _ _; refine asg evL ?_) | (show SH _ _ _ _ _ (⟨_, .load _ _, _, _, _, _⟩ :: _) _ _ _; refine lba rfl spL (by rfl) ?_) | (show SH _ _ _ _ _ (⟨_, .call ⟨.value (.func 27), _, _⟩, _, _, _, _⟩ :: _) _ _ _; refine cp (callee := .func 27) rfl (fun w hw => hO _ hw.ext) rfl rfl ?_) | (show SH _ _ _ _ _ (⟨_, .box _ _, _, _, _, _⟩ :: _) _ _ _; refine bxx rfl evL rfl (fun b => ?_))) | refine s_nil ?_ | refine kh_normal ?_))
    rintro _ _ ⟨A1, c2, rfl, rfl⟩
    (repeat' (first | (show VH _ _ _ _ _ _ _; first | refine v_seq ?_ | refine r_seq ?_ | refine v_skip ?_ | refine v_cond_f rfl tbL ?_) | (show SH _ _ _ _ _ (_ :: _) _ _ _; first | (show SH _ _ _ _ _ (⟨_, .move _, _, _, _, _⟩ :: _) _ _ _; refine mov evL ?_) | (show SH _ _ _ _ _ (⟨_, .assign _, _, _, _, _⟩ :: _) _ _ _; refine asg evL ?_) | (show SH _ _ _ _ _ (⟨_, .binOp .neq _ _ _ _, _, _, _, _⟩ :: _) _ _ _; refine neqF rfl rfl omD ?_) | (show SH _ _ _ _ _ (⟨_, .load _ _, _, _, _, _⟩ :: _) _ _ _; refine lba rfl spL (by rfl) ?_) | (show SH _ _ _ _ _ (⟨_, .call ⟨.value (.func 36), _, _⟩, _, _, _, _⟩ :: _) _ _ _; refine cp (callee := .func 36) rfl (fun w hw => hE _ hw.ext) rfl rfl ?_) | refine extr rfl rfl ?_ | refine ala rfl (fun b => ?_) | (show SH _ _ _ _ _ (⟨_, .store _ _ _, _, _, _, _⟩ :: _) _ _ _; refine sta rfl rfl rfl spL (by rfl) (by rfl) (by rfl) kpL ?_)) | refine s_nil ?_ | refine kh_normal ?_))
    rintro _ _ ⟨A2, c3, rfl, rfl⟩
    (repeat' (first | (show VH _ _ _ _ _ _ _; first | refine v_seq ?_ | refine r_seq ?_ | refine v_ret ?_ | refine v_skip ?_ | refine v_cond_f rfl tbL ?_) | (show SH _ _ _ _ _ (_ :: _) _ _ _; first | (show SH _ _ _ _ _ (⟨_, .move _, _, _, _, _⟩ :: _) _ _ _; refine mov evL ?_) | (show SH _ _ _ _ _ (⟨_, .assign _, _, _, _, _⟩ :: _) _ _ _; refine asg evL ?_) | (show SH _ _ _ _ _ (⟨_, .load _ _, _, _, _, _⟩ :: _) _ _ _; refine lba rfl spL (by rfl) ?_) | (show SH _ _ _ _ _ (⟨_, .call ⟨.value (.func 29), _, _⟩, _, _, _, _⟩ :: _) _ _ _; refine cl (callee := .func 29) rfl (fun w hw => hS _ hw.ext A1 c2 A2 c3 (hw.rd spL) (hw.rd spL)) rfl rfl ?_) | refine bnoT rfl ?_ | refine extr rfl rfl ?_ | refine ala rfl (fun b => ?_) | (show SH _ _ _ _ _ (⟨_, .store _ _ _, _, _, _, _⟩ :: _) _ _ _; refine sta rfl rfl rfl spL (by rfl) (by rfl) (by rfl) kpL ?_)) | refine s_nil ?_ | refine kh_normal ?_))
    exact rh2 rfl rfl rfl ⟨rfl, rfl⟩ (ent_nil _)
end Go.Proofs.YtjefoecnciepmaaDoor
