/- Package store: Get, With, Next, copied. -/
import Derived.Test.YtfodpcpclmnbkaaDoorZTw
import Derived.Test.YtfodpcpclmnbkaaDoorZPq
import Derived.Test.YtfodpcpclmnbkaaDoorZSbc
import Derived.Test.YtfodpcpclmnbkaaDoorZWz
set_option linter.unusedSimpArgs false
set_option linter.unusedVariables false
namespace Go.Proofs.YtfodpcpclmnbkaaDoor
open Go.Fw Go.RowKit
/-- The entity with an ID. -/
def thg (id : Int) (es : List Ent1) : Option Ent1 := es.find? fun e => decide (e.id = id)
theorem thg_find {l : List EntP} (h : Rising idE l) (id : Int) : thg id (ents l) = if hasK idE id l = true then some (l.getD (lbK idE id l) Flat.dflt).e else none := by
  unfold thg ents
  rw [List.find?_map]
  have := find_lb (k := id) h
  have e : ((fun e : Ent1 => decide (e.id = id)) ∘ EntP.e) = (fun x : EntP => decide (idE x = id)) := rfl
  rw [e, this]
  split <;> rfl
def getM (t id kd : Int) (es : List Ent1) : Option Comp := if ValidW t es then (thg id es).bind (fun e => compK kd e.comps) else none
def withM (t mask : Int) (es : List Ent1) : List Int := if ValidW t es then (es.filter fun e => decide (bandK .u32 (maskC e.comps) mask = mask)).map Ent1.id else []
def nextI : List Ent1 → Int → Int
  | [], k => k
  | e :: l, k => if e.id = k then nextI l (k + 1) else k
theorem nextI_at : ∀ (es : List Ent1) (j : Int) (k : Nat), k ≤ es.length → (∀ q, q < k → (es.getD q ⟨0, []⟩).id = j + (q : Int)) → (k < es.length → (es.getD k ⟨0, []⟩).id ≠ j + (k : Int)) → nextI es j = j + (k : Int)
  | [], j, k, hk, _, _ => by simp at hk; subst hk; unfold nextI; omega
  | e :: l, j, 0, _, _, h2 => by
    have := h2 (by simp)
    unfold nextI
    rw [if_neg (by simpa using this)]; omega
  | e :: l, j, k + 1, hk, h1, h2 => by
    have h0 := h1 0 (by omega)
    have ih := nextI_at l (j + 1) k (by simpa using hk) (fun q hq => by have := h1 (q + 1) (by omega); simp at this; rw [List.getD_eq_getElem?_getD, this]; omega) (fun h => by have := h2 (by simpa using h); simp at this; rw [List.getD_eq_getElem?_getD]; omega)
    unfold nextI
    rw [if_pos (by simpa using h0), ih]; omega
instance : TOne Tryd.prog 86 .nilFunc := ⟨fun w => by kernel_rfl, fun w => by kernel_rfl, fun w => by kernel_rfl, rfl⟩
set_option maxHeartbeats 1000000 in
set_option maxRecDepth 100000 in
theorem placeC1_spec (x : Comp) (k : Int) (b : Nat) (g0 : FuncId) (fst cap : Array Value) (i : Int) (w : World) (hk : Rd w (some ⟨b, 0, none⟩) [(⟨g0, fst, cap⟩ : FnV)])
    (hp : ∀ w', Ext w w' → Ret Tryd.prog g0 (fst.toList ++ [Value.agg (Flat.enc x).toArray] ++ cap.toList).toArray w' (Out w' (.int .u8 i))) :
    Ret Tryd.prog 71 [.agg (Flat.enc x).toArray, .int .u8 k, .pointer (some ⟨b, 0, none⟩)].toArray w (Out w (.int .i64 (cmpI i k))) := by
  refine enterH Tryd.func71 rfl rfl Tryd.ntmps71 rfl (Wd.refl _) ?_
  (repeat' (first | (show VH _ _ _ _ _ _ _; first | refine v_seq ?_ | refine r_seq ?_ | refine v_ret ?_) | (show SH _ _ _ _ _ (_ :: _) _ _ _; first | (show SH _ _ _ _ _ (⟨_, .move _, _, _, _, _⟩ :: _) _ _ _; refine mov evL ?_) | (show SH _ _ _ _ _ (⟨_, .assign _, _, _, _, _⟩ :: _) _ _ _; refine asg evL ?_) | (show SH _ _ _ _ _ (⟨_, .load _ _, _, _, _, _⟩ :: _) _ _ _; first | refine lba rfl spL (by rfl) ?_ | refine lcs rfl (fun _ _ => rdY) (by rfl) ?_) | (show SH _ _ _ _ _ (⟨_, .call ⟨.value (.tmp _), _, _⟩, _, _, _, _⟩ :: _) _ _ _; refine cl (callee := .tmp _) rfl (fun w hw => hp _ hw.ext) rfl rfl ?_) | (show SH _ _ _ _ _ (⟨_, .call ⟨.value (.func 72), _, _⟩, _, _, _, _⟩ :: _) _ _ _; refine cl (callee := .func 72) rfl (fun w hw => compareC_spec i k w) rfl rfl ?_) | (show SH _ _ _ _ _ (⟨_, .box _ _, _, _, _, _⟩ :: _) _ _ _; refine bxx rfl evL rfl (fun b => ?_))) | refine s_nil ?_ | refine kh_normal ?_))
  exact rh1 rfl rfl ⟨rfl, rfl⟩ (ent_nil _)
set_option maxHeartbeats 1000000 in
set_option maxRecDepth 100000 in
theorem placeC_spec (A : Option Addr) (l : List Comp) (c1 : Nat) (k : Int) (fv : Value) (key : Comp → Int) (w : World) (hl : l.length ≤ 140737488355328) (hr : Rd w A l) (hR : Rising key l) (hp : KeyL w fv l .u8 key) :
    Ret Tryd.prog 53 [.slice A l.length c1, .int .u8 k, fv].toArray w (Out w (.tuple #[.int .i64 (lbK key k l), .bool (hasK key k l)])) := by
  obtain ⟨g0, fst, cap, rfl, hp⟩ := hp
  have hB := fun w' (he : Ext w w') b (hk : Rd w' (some ⟨b, 0, none⟩) [(⟨g0, fst, cap⟩ : FnV)]) => binSearchC_spec A l c1 k 71 #[] #[.pointer (some ⟨b, 0, none⟩)] key w' hl (hr.ext he) hR (fun w'' he' x hx => by
    have := placeC1_spec x k b g0 fst cap (key x) w'' (hk.ext he') (fun w3 he3 => hp w3 ((he.trans he').trans he3) x hx)
    simpa using this)
  clear hp
  refine enterH Tryd.func53 rfl rfl Tryd.ntmps53 rfl (Wd.refl _) ?_
  (repeat' (first | (show VH _ _ _ _ _ _ _; first | refine v_seq ?_ | refine r_seq ?_ | refine v_ret ?_) | (show SH _ _ _ _ _ (_ :: _) _ _ _; first | (show SH _ _ _ _ _ (⟨_, .move _, _, _, _, _⟩ :: _) _ _ _; refine mov evL ?_) | (show SH _ _ _ _ _ (⟨_, .assign _, _, _, _, _⟩ :: _) _ _ _; refine asg evL ?_) | (show SH _ _ _ _ _ (⟨_, .call ⟨.value (.func 70), _, _⟩, _, _, _, _⟩ :: _) _ _ _; refine cl (callee := .func 70) rfl (fun w hw => hB _ hw.ext _ (rd_box hw spL rfl)) rfl rfl ?_) | refine extr rfl rfl ?_ | (show SH _ _ _ _ _ (⟨_, .makeFunc _ _ _, _, _, _, _⟩ :: _) _ _ _; refine mf1 evL ?_) | (show SH _ _ _ _ _ (⟨_, .box _ _, _, _, _, _⟩ :: _) _ _ _; refine bxx rfl evL rfl (fun b => ?_))) | refine s_nil ?_ | refine kh_normal ?_))
  exact rh2 rfl rfl rfl ⟨rfl, rfl⟩ (ent_nil _)
abbrev kindC : Comp → Int := Comp.kind
theorem compK_find {cs : List Comp} (h : Rising kindC cs) (k : Int) : compK k cs = if hasK kindC k cs = true then some (cs.getD (lbK kindC k cs) Flat.dflt) else none := find_lb h
set_option maxHeartbeats 1000000 in
set_option maxRecDepth 100000 in
theorem get_spec (t id kd : Int) (A : Option Addr) (l : List EntP) (c1 : Nat) (w : World) (hG : Glob w) (hs : Sz l) (hr : RdW w A l) :
    Ret Tryd.prog 19 [wv t A l c1, .int .i64 id, .int .u8 kd].toArray w (Out w (.tuple #[.agg (Flat.enc (compD (getM t id kd (ents l)))).toArray, .bool (getM t id kd (ents l)).isSome])) := by
  have hF := fun w' (he : Ext w w') => find_spec t id A l c1 w' (hG.ext he) hs (hr.ext he)
  unfold wv at hF ⊢
  cases hb : findB t id l with
  | false =>
    have hN : getM t id kd (ents l) = none := by
      unfold getM
      by_cases hv : ValidW t (ents l)
      · unfold findB at hb
        rw [decide_eq_true hv, Bool.true_and] at hb
        rw [if_pos hv, thg_find ((rising_ents l).1 hv.up), if_neg (by rw [hb]; simp)]; rfl
      · rw [if_neg hv]
    rw [hb] at hF
    rw [hN]
    generalize findI t id l = i at hF
    refine enterH Tryd.func19 rfl rfl Tryd.ntmps19 rfl (Wd.refl _) ?_
    (repeat' (first | (show VH _ _ _ _ _ _ _; first | refine v_seq ?_ | refine r_seq ?_ | refine v_ret ?_ | refine v_cond_t rfl tbL ?_) | (show SH _ _ _ _ _ (_ :: _) _ _ _; first | (show SH _ _ _ _ _ (⟨_, .move _, _, _, _, _⟩ :: _) _ _ _; refine mov evL ?_) | (show SH _ _ _ _ _ (⟨_, .assign _, _, _, _, _⟩ :: _) _ _ _; refine asg evL ?_) | (show SH _ _ _ _ _ (⟨_, .load _ _, _, _, _, _⟩ :: _) _ _ _; refine lba rfl spL (by rfl) ?_) | (show SH _ _ _ _ _ (⟨_, .call ⟨.value (.func 44), _, _⟩, _, _, _, _⟩ :: _) _ _ _; refine cl (callee := .func 44) rfl (fun w hw => hF _ hw.ext) rfl rfl ?_) | refine bnoF rfl ?_ | refine extr rfl rfl ?_ | refine bldZN ?_ | refine ala rfl (fun b => ?_) | (show SH _ _ _ _ _ (⟨_, .box _ _, _, _, _, _⟩ :: _) _ _ _; refine bxx rfl evL rfl (fun b => ?_)) | (show SH _ _ _ _ _ (⟨_, .store _ _ _, _, _, _, _⟩ :: _) _ _ _; refine sta rfl rfl rfl spL (by rfl) (by rfl) (by rfl) kpL ?_)) | refine s_nil ?_ | refine kh_normal ?_ | refine kh_ret ?_))
    exact rhC2 rfl rfl rfl rfl (fun w hw => loadVar_bx hw spL (by rfl)) ⟨rfl, rfl⟩ (ent_nil _)
  | true =>
    rw [hb] at hF
    unfold findB at hb
    simp only [Bool.and_eq_true, decide_eq_true_eq] at hb
    obtain ⟨hv, hk⟩ := hb
    obtain ⟨hlt, hid⟩ := has_lt hk
    have hx := getD_mem (d := Flat.dflt) hlt
    have hg : getM t id kd (ents l) = compK kd (l.getD (lbK idE id l) Flat.dflt).e.comps := by
      unfold getM
      rw [if_pos hv, thg_find ((rising_ents l).1 hv.up), if_pos hk]; rfl
    have hxr := hv.right _ (List.mem_map_of_mem (f := EntP.e) hx)
    have hrx := fun w (h : RdW w A l) => h.2 _ hx
    have hxs := hs.el _ hx
    unfold findI at hF
    rw [if_pos hv] at hF
    rw [hg]
    clear hg hk hid hv
    generalize lbK idE id l = i at hF hlt hx hxr hrx hxs ⊢
    obtain ⟨x, hxe⟩ : ∃ x, l.getD i Flat.dflt = x := ⟨_, rfl⟩
    rw [hxe] at hx hxr hrx hxs ⊢
    have hxE : Flat.enc (l.getD i Flat.dflt) = Flat.enc x := by rw [hxe]
    obtain ⟨⟨ei, cs⟩, Ax, cx⟩ := x
    simp only at hxr hrx hxs ⊢
    rw [show Flat.enc (⟨⟨ei, cs⟩, Ax, cx⟩ : EntP) = [.int .i64 ei, .slice Ax cs.length cx] from rfl] at hxE
    have hP := fun w' (he : Ext w w') => placeC_spec Ax cs cx kd _ kindC w' hxs (hrx w' (hr.ext he)) hxr.up (kindOf_key w' cs)
    have hc := compK_find hxr.up kd
    have hrr := hrx w hr
    have hr1 := hr.1
    clear hx hxr hxe hrx
    cases hb : hasK kindC kd cs with
    | false =>
      rw [hb] at hP
      rw [if_neg (by rw [hb]; simp)] at hc
      rw [hc]
      generalize lbK kindC kd cs = k at hP
      refine enterH Tryd.func19 rfl rfl Tryd.ntmps19 rfl (Wd.refl _) ?_
      (repeat' (first | (show VH _ _ _ _ _ _ _; first | refine v_seq ?_ | refine r_seq ?_ | refine v_ret ?_ | refine v_skip ?_ | refine v_cond_t rfl tbL ?_ | refine v_cond_f rfl tbL ?_) | (show SH _ _ _ _ _ (_ :: _) _ _ _; first | (show SH _ _ _ _ _ (⟨_, .move _, _, _, _, _⟩ :: _) _ _ _; refine mov evL ?_) | (show SH _ _ _ _ _ (⟨_, .assign _, _, _, _, _⟩ :: _) _ _ _; refine asg evL ?_) | (show SH _ _ _ _ _ (⟨_, .load _ _, _, _, _, _⟩ :: _) _ _ _; first | refine lrg rfl (fun _ _ => rdY) (by rfl) omL (by assumption) (by rfl) ?_ | refine lbx rfl spL (by rfl) ?_ | refine lba rfl spL (by rfl) ?_) | (show SH _ _ _ _ _ (⟨_, .indexAddr _ _ _, _, _, _, _⟩ :: _) _ _ _; refine ix rfl rfl (by with_reducible rfl) (fun _ _ => rdY) (by rfl) omL omL ?_) | (show SH _ _ _ _ _ (⟨_, .call ⟨.value (.func 44), _, _⟩, _, _, _, _⟩ :: _) _ _ _; refine cl (callee := .func 44) rfl (fun w hw => hF _ hw.ext) rfl rfl ?_) | (show SH _ _ _ _ _ (⟨_, .call ⟨.value (.func 53), _, _⟩, _, _, _, _⟩ :: _) _ _ _; refine cl (callee := .func 53) rfl (fun w hw => hP _ hw.ext) rfl rfl ?_) | (show SH _ _ _ _ _ (⟨_, .unOp .not _ _, _, _, _, _⟩ :: _) _ _ _; first | refine bnoT rfl ?_ | refine bnoF rfl ?_) | refine extr rfl rfl ?_ | refine fad rfl ?_ | refine bldZN ?_ | refine ala rfl (fun b => ?_) | (show SH _ _ _ _ _ (⟨_, .box _ _, _, _, _, _⟩ :: _) _ _ _; refine bxx rfl evL rfl (fun b => ?_)) | (show SH _ _ _ _ _ (⟨_, .store _ _ _, _, _, _, _⟩ :: _) _ _ _; refine sta rfl rfl rfl spL (by rfl) (by rfl) (by rfl) kpL ?_)) | refine s_nil ?_ | refine kh_normal ?_ | refine kh_ret ?_))
      exact rhC2 rfl rfl rfl rfl (fun w hw => loadVar_bx hw spL (by rfl)) ⟨rfl, rfl⟩ (ent_nil _)
    | true =>
      obtain ⟨hkl, _⟩ := has_lt hb
      rw [hb] at hP
      rw [if_pos hb] at hc
      rw [hc]
      clear hc hb
      generalize lbK kindC kd cs = k at hP hkl ⊢
      refine enterH Tryd.func19 rfl rfl Tryd.ntmps19 rfl (Wd.refl _) ?_
      (repeat' (first | (show VH _ _ _ _ _ _ _; first | refine v_seq ?_ | refine r_seq ?_ | refine v_ret ?_ | refine v_skip ?_ | refine v_cond_f rfl tbL ?_) | (show SH _ _ _ _ _ (_ :: _) _ _ _; first | (show SH _ _ _ _ _ (⟨_, .move _, _, _, _, _⟩ :: _) _ _ _; refine mov evL ?_) | (show SH _ _ _ _ _ (⟨_, .assign _, _, _, _, _⟩ :: _) _ _ _; refine asg evL ?_) | (show SH _ _ _ _ _ (⟨_, .load _ _, _, _, _, _⟩ :: _) _ _ _; first | refine lrg rfl (fun _ _ => rdY) (by rfl) omL (by assumption) (by rfl) ?_ | refine lbx rfl spL (by rfl) ?_ | refine lba rfl spL (by rfl) ?_ | refine lra rfl (fun _ _ => rdY) (by rfl) omL ?_ | refine lra rfl (fun _ _ => rdY) (by rfl) (by simp only [List.length_cons, List.length_nil]; omega) ?_) | (show SH _ _ _ _ _ (⟨_, .indexAddr _ _ _, _, _, _, _⟩ :: _) _ _ _; refine ix rfl rfl (by with_reducible rfl) (fun _ _ => rdY) (by rfl) omL omL ?_) | (show SH _ _ _ _ _ (⟨_, .call ⟨.value (.func 44), _, _⟩, _, _, _, _⟩ :: _) _ _ _; refine cl (callee := .func 44) rfl (fun w hw => hF _ hw.ext) rfl rfl ?_) | (show SH _ _ _ _ _ (⟨_, .call ⟨.value (.func 53), _, _⟩, _, _, _, _⟩ :: _) _ _ _; refine cl (callee := .func 53) rfl (fun w hw => hP _ hw.ext) rfl rfl ?_) | refine bnoT rfl ?_ | refine extr rfl rfl ?_ | refine fad rfl ?_ | refine ala rfl (fun b => ?_) | (show SH _ _ _ _ _ (⟨_, .box _ _, _, _, _, _⟩ :: _) _ _ _; refine bxx rfl evL rfl (fun b => ?_)) | (show SH _ _ _ _ _ (⟨_, .store _ _ _, _, _, _, _⟩ :: _) _ _ _; refine sta rfl rfl rfl spL (by rfl) (by rfl) (by rfl) kpL ?_)) | refine s_nil ?_ | refine kh_normal ?_))
      exact rhC2 rfl rfl rfl rfl (fun w hw => loadVar_bx hw spL (by rfl)) ⟨rfl, rfl⟩ (ent_nil _)
set_option maxHeartbeats 1000000 in
set_option maxRecDepth 100000 in
theorem next_spec (t : Int) (A : Option Addr) (l : List EntP) (c1 : Nat) (w : World) (hG : Glob w) (hs : Sz l) (hr : RdW w A l) :
    Ret Tryd.prog 11 [wv t A l c1].toArray w (Out w (.tuple #[.int .i64 (if ValidW t (ents l) then nextI (ents l) 1 else 0), .int .i64 (if ValidW t (ents l) then 0 else 2)])) := by
  have hV := fun w' (he : Ext w w') => valid_spec t A l c1 w' (hG.ext he) hs (hr.ext he)
  have hr1 := hr.1
  unfold wv at hV ⊢
  by_cases hv : ValidW t (ents l)
  · rw [if_pos hv, if_pos hv]
    rw [decide_eq_true hv] at hV
    have hl64 := hv.len
    rw [ents_len] at hl64
    have hN := nextI_at (ents l) 1
    rw [ents_len] at hN
    have hat : ∀ q, q < l.length → ((ents l).getD q ⟨0, []⟩).id = idE (l.getD q Flat.dflt) := fun q hq => by
      unfold ents
      simp [List.getD_eq_getElem?_getD, hq]
    clear hv
    generalize nextI (ents l) 1 = N at hN ⊢
    refine enterH Tryd.func11 rfl rfl Tryd.ntmps11 rfl (Wd.refl _) ?_
    (repeat' (first | (show VH _ _ _ _ _ _ _; first | refine v_seq ?_ | refine r_seq ?_ | refine v_block ?_ | refine v_skip ?_ | refine v_cond_f rfl tbL ?_) | (show SH _ _ _ _ _ (_ :: _) _ _ _; first | (show SH _ _ _ _ _ (⟨_, .move _, _, _, _, _⟩ :: _) _ _ _; refine mov evL ?_) | (show SH _ _ _ _ _ (⟨_, .assign _, _, _, _, _⟩ :: _) _ _ _; refine asg evL ?_) | (show SH _ _ _ _ _ (⟨_, .load _ _, _, _, _, _⟩ :: _) _ _ _; first | refine lbx rfl spL (by rfl) ?_ | refine lba rfl spL (by rfl) ?_) | refine slen rfl ?_ | (show SH _ _ _ _ _ (⟨_, .call ⟨.value (.func 15), _, _⟩, _, _, _, _⟩ :: _) _ _ _; refine cl (callee := .func 15) rfl (fun w hw => hV _ hw.ext) rfl rfl ?_) | refine bnoT rfl ?_ | refine fad rfl ?_ | (show SH _ _ _ _ _ (⟨_, .box _ _, _, _, _, _⟩ :: _) _ _ _; refine bxx rfl evL rfl (fun b => ?_))) | refine s_nil ?_ | refine kh_normal ?_))
    refine v_norm [(1,_),(2,_),(3,_),(10,_),(11,_),(12,_)] heL (fun g => ?_)
    refine v_loop0 [(2,5),(12,24)] (fun k : Nat => [(12, .int .i64 k)]) (fun k => k ≤ l.length ∧ ∀ q, q < k → idE (l.getD q Flat.dflt) = 1 + (q : Int)) (fun k => l.length - k) 0 hsL ⟨Nat.zero_le _, fun q h => absurd h (Nat.not_lt_zero q)⟩ ?_
    rintro k g ⟨hk, hq⟩
    simp only [sets]
    by_cases hkl : k < l.length
    · obtain ⟨⟨⟨ei, cs⟩, Ax, cx⟩, hx⟩ : ∃ x, l.getD k Flat.dflt = x := ⟨_, rfl⟩
      have hxE : Flat.enc (l.getD k Flat.dflt) = [.int .i64 ei, .slice Ax cs.length cx] := by rw [hx]; rfl
      have hxi : idE (l.getD k Flat.dflt) = ei := by rw [hx]
      by_cases he : ei = (k : Int) + 1
      · have hq' : ∀ q, q < k + 1 → idE (l.getD q Flat.dflt) = 1 + (q : Int) := fun q hq2 => by
          by_cases e : q = k
          · rw [e, hxi]; omega
          · exact hq q (by omega)
        clear hq hN hat hx hxi
        (repeat' (first | (show VH _ _ _ _ _ _ _; first | refine v_seq ?_ | refine r_seq ?_ | refine v_block ?_ | refine v_skip ?_ | refine v_cond_t rfl tbL ?_ | refine v_cond_f rfl tbL ?_) | (show SH _ _ _ _ _ (_ :: _) _ _ _; first | (show SH _ _ _ _ _ (⟨_, .move _, _, _, _, _⟩ :: _) _ _ _; refine mov evL ?_) | (show SH _ _ _ _ _ (⟨_, .assign _, _, _, _, _⟩ :: _) _ _ _; refine asg evL ?_) | (show SH _ _ _ _ _ (⟨_, .binOp .lss _ _ _ _, _, _, _, _⟩ :: _) _ _ _; refine lssT rfl rfl omD ?_) | (show SH _ _ _ _ _ (⟨_, .binOp .neq _ _ _ _, _, _, _, _⟩ :: _) _ _ _; refine neqF rfl rfl omD ?_) | (show SH _ _ _ _ _ (⟨_, .binOp .add _ _ _ _, _, _, _, _⟩ :: _) _ _ _; refine add rfl rfl inL ?_) | (show SH _ _ _ _ _ (⟨_, .load _ _, _, _, _, _⟩ :: _) _ _ _; first | refine lag rfl (fun _ _ => rdY) (by rfl) omL (by assumption) ?_ | refine lbx rfl spL (by rfl) ?_) | (show SH _ _ _ _ _ (⟨_, .indexAddr _ _ _, _, _, _, _⟩ :: _) _ _ _; refine ix rfl rfl (by with_reducible rfl) (fun _ _ => rdY) (by rfl) omL omL ?_) | refine fad rfl ?_ | refine ala rfl (fun b => ?_) | (show SH _ _ _ _ _ (⟨_, .store _ _ _, _, _, _, _⟩ :: _) _ _ _; refine sta rfl rfl rfl spL (by rfl) (by rfl) (by rfl) kpL ?_)) | refine s_nil ?_ | refine kh_normal ?_ | refine bh_normal ?_))
        exact ⟨agL, k + 1, hsL, enL, ⟨hkl, hq'⟩, by omega⟩
      · have hr0 := hN k hk (fun q hq2 => by rw [hat q (by omega)]; exact hq q hq2) (fun _ => by rw [hat k hkl, hxi]; omega)
        clear hq hN hat hx hxi
        (repeat' (first | (show VH _ _ _ _ _ _ _; first | refine v_seq ?_ | refine r_seq ?_ | refine v_block ?_ | refine v_ret ?_ | refine v_skip ?_ | refine v_cond_t rfl tbL ?_) | (show SH _ _ _ _ _ (_ :: _) _ _ _; first | (show SH _ _ _ _ _ (⟨_, .move _, _, _, _, _⟩ :: _) _ _ _; refine mov evL ?_) | (show SH _ _ _ _ _ (⟨_, .assign _, _, _, _, _⟩ :: _) _ _ _; refine asg evL ?_) | (show SH _ _ _ _ _ (⟨_, .binOp .lss _ _ _ _, _, _, _, _⟩ :: _) _ _ _; refine lssT rfl rfl omD ?_) | (show SH _ _ _ _ _ (⟨_, .binOp .neq _ _ _ _, _, _, _, _⟩ :: _) _ _ _; refine neqT rfl rfl omD ?_) | (show SH _ _ _ _ _ (⟨_, .binOp .add _ _ _ _, _, _, _, _⟩ :: _) _ _ _; refine add rfl rfl inL ?_) | (show SH _ _ _ _ _ (⟨_, .load _ _, _, _, _, _⟩ :: _) _ _ _; first | refine lag rfl (fun _ _ => rdY) (by rfl) omL (by assumption) ?_ | refine lbx rfl spL (by rfl) ?_) | (show SH _ _ _ _ _ (⟨_, .indexAddr _ _ _, _, _, _, _⟩ :: _) _ _ _; refine ix rfl rfl (by with_reducible rfl) (fun _ _ => rdY) (by rfl) omL omL ?_) | refine fad rfl ?_ | refine ala rfl (fun b => ?_) | (show SH _ _ _ _ _ (⟨_, .store _ _ _, _, _, _, _⟩ :: _) _ _ _; refine sta rfl rfl rfl spL (by rfl) (by rfl) (by rfl) kpL ?_)) | refine s_nil ?_ | refine kh_normal ?_ | refine kh_ret ?_ | refine bh_ret ?_))
        exact rh2 rfl rfl rfl ⟨congrArg (fun m => Value.tuple #[.int .i64 m, .int .i64 0]) (by rw [hr0]; omega), rfl⟩ (ent_nil _)
    · have hke : k = l.length := by omega
      have hr0 := hN k hk (fun q hq2 => by rw [hat q (by omega)]; exact hq q hq2) (fun h => by omega)
      clear hq hN hat
      (repeat' (first | (show VH _ _ _ _ _ _ _; first | refine v_seq ?_ | refine r_seq ?_ | refine v_ret ?_ | refine v_exit ?_ | refine v_cond_f rfl tbL ?_) | (show SH _ _ _ _ _ (_ :: _) _ _ _; first | (show SH _ _ _ _ _ (⟨_, .assign _, _, _, _, _⟩ :: _) _ _ _; refine asg evL ?_) | (show SH _ _ _ _ _ (⟨_, .binOp .lss _ _ _ _, _, _, _, _⟩ :: _) _ _ _; refine lssF rfl rfl omD ?_) | (show SH _ _ _ _ _ (⟨_, .binOp .add _ _ _ _, _, _, _, _⟩ :: _) _ _ _; refine add rfl rfl inL ?_) | (show SH _ _ _ _ _ (⟨_, .load _ _, _, _, _, _⟩ :: _) _ _ _; refine lbx rfl spL (by rfl) ?_) | refine slen rfl ?_ | refine fad rfl ?_) | refine s_nil ?_ | refine kh_normal ?_ | refine kh_exit ?_ | refine bh_exit ?_))
      exact rh2 rfl rfl rfl ⟨congrArg (fun m => Value.tuple #[.int .i64 m, .int .i64 0]) (by rw [hr0]; omega), rfl⟩ (ent_nil _)
  · rw [if_neg hv, if_neg hv]
    rw [decide_eq_false hv] at hV
    clear hv
    refine enterH Tryd.func11 rfl rfl Tryd.ntmps11 rfl (Wd.refl _) ?_
    (repeat' (first | (show VH _ _ _ _ _ _ _; first | refine v_seq ?_ | refine r_seq ?_ | refine v_ret ?_ | refine v_cond_t rfl tbL ?_) | (show SH _ _ _ _ _ (_ :: _) _ _ _; first | (show SH _ _ _ _ _ (⟨_, .assign _, _, _, _, _⟩ :: _) _ _ _; refine asg evL ?_) | (show SH _ _ _ _ _ (⟨_, .load _ _, _, _, _, _⟩ :: _) _ _ _; refine lba rfl spL (by rfl) ?_) | (show SH _ _ _ _ _ (⟨_, .call ⟨.value (.func 15), _, _⟩, _, _, _, _⟩ :: _) _ _ _; refine cl (callee := .func 15) rfl (fun w hw => hV _ hw.ext) rfl rfl ?_) | refine bnoF rfl ?_ | (show SH _ _ _ _ _ (⟨_, .box _ _, _, _, _, _⟩ :: _) _ _ _; refine bxx rfl evL rfl (fun b => ?_))) | refine s_nil ?_ | refine kh_normal ?_ | refine kh_ret ?_))
    exact rh2 rfl rfl rfl ⟨rfl, rfl⟩ (ent_nil _)
set_option maxHeartbeats 1000000 in
set_option maxRecDepth 100000 in
theorem with_spec (t mask : Int) (A : Option Addr) (l : List EntP) (c1 : Nat) (w : World) (hG : Glob w) (hs : Sz l) (hse : ∀ x ∈ l, x.e.comps.length ≤ 1000000) (hr : RdW w A l) :
    Ret Tryd.prog 20 [wv t A l c1, .int .u32 mask].toArray w (RP w (Fresh 3 (withM t mask (ents l)))) := by
  have hV := fun w' (he : Ext w w') => valid_spec t A l c1 w' (hG.ext he) hs (hr.ext he)
  have hr1 := hr.1
  unfold wv at hV ⊢
  unfold withM
  by_cases hv : ValidW t (ents l)
  · rw [if_pos hv]
    rw [decide_eq_true hv] at hV
    have hl64 := hv.len
    rw [ents_len] at hl64
    clear hv
    obtain ⟨p, hp⟩ : ∃ p : EntP → Bool, (fun x : EntP => decide (bandK .u32 (maskC x.e.comps) mask = mask)) = p := ⟨_, rfl⟩
    have hW : ((ents l).filter fun e => decide (bandK .u32 (maskC e.comps) mask = mask)).map Ent1.id = (l.filter p).map idE := by
      unfold ents
      rw [List.filter_map, List.map_map, ← hp]; rfl
    rw [hW]
    have hpx : ∀ x, p x = decide (bandK .u32 (maskC x.e.comps) mask = mask) := fun x => by rw [← hp]
    clear hW hp
    refine enterH Tryd.func20 rfl rfl Tryd.ntmps20 rfl (Wd.refl _) ?_
    (repeat' (first | (show VH _ _ _ _ _ _ _; first | refine v_seq ?_ | refine r_seq ?_ | refine v_block ?_ | refine v_skip ?_ | refine v_cond_f rfl tbL ?_) | (show SH _ _ _ _ _ (_ :: _) _ _ _; first | (show SH _ _ _ _ _ (⟨_, .move _, _, _, _, _⟩ :: _) _ _ _; refine mov evL ?_) | (show SH _ _ _ _ _ (⟨_, .assign _, _, _, _, _⟩ :: _) _ _ _; refine asg evL ?_) | (show SH _ _ _ _ _ (⟨_, .load _ _, _, _, _, _⟩ :: _) _ _ _; first | refine lbx rfl spL (by rfl) ?_ | refine lba rfl spL (by rfl) ?_) | refine slen rfl ?_ | (show SH _ _ _ _ _ (⟨_, .call ⟨.value (.func 15), _, _⟩, _, _, _, _⟩ :: _) _ _ _; refine cl (callee := .func 15) rfl (fun w hw => hV _ hw.ext) rfl rfl ?_) | refine bnoT rfl ?_ | refine fad rfl ?_ | (show SH _ _ _ _ _ (⟨_, .box _ _, _, _, _, _⟩ :: _) _ _ _; refine bxx rfl evL rfl (fun b => ?_))) | refine s_nil ?_ | refine kh_normal ?_))
    refine v_norm [(1,_),(2,_),(4,_),(5,_),(12,_),(13,_),(14,_)] heL (fun g => ?_)
    refine v_loop [(5,5),(7,7),(14,29)] (fun s : Nat × (Option Addr × Nat) => [(14, .int .i64 s.1), (5, .slice s.2.1 (((l.take s.1).filter p).map idE).length s.2.2)]) (fun s => [orow 3 s.2.1 s.2.2 (((l.take s.1).filter p).map idE)]) (fun s => s.1 ≤ l.length) (fun s => l.length - s.1) (0, none, 0) hsL (ent_nilrow (ent_nil _)) (Nat.zero_le _) ?_
    rintro ⟨k, A1, c2⟩ g hk
    simp only [sets]
    simp only at hk
    have hlen : (((l.take k).filter p).map idE).length ≤ k := by
      rw [List.length_map]
      have := List.length_filter_le p (l.take k)
      rw [List.length_take] at this; omega
    by_cases hkl : k < l.length
    · have hn := filt_next Flat.dflt p idE hkl
      have hx := getD_mem (d := Flat.dflt) hkl
      have hM := fun w' (he : Ext w w') => mask_spec (l.getD k Flat.dflt) w' (hse _ hx) ((hr.2 _ hx).ext he)
      have hpk := hpx (l.getD k Flat.dflt)
      obtain ⟨x, hxe⟩ : ∃ x, l.getD k Flat.dflt = x := ⟨_, rfl⟩
      have hxE : Flat.enc (l.getD k Flat.dflt) = Flat.enc x := by rw [hxe]
      rw [hxe] at hn hM hpk
      obtain ⟨⟨ei, cs⟩, Ax, cx⟩ := x
      simp only at hM hpk
      rw [show Flat.enc (⟨⟨ei, cs⟩, Ax, cx⟩ : EntP) = [.int .i64 ei, .slice Ax cs.length cx] from rfl] at hxE hM
      rw [show idE (⟨⟨ei, cs⟩, Ax, cx⟩ : EntP) = ei from rfl] at hn
      generalize maskC cs = m at hM hpk
      obtain ⟨r, hr0⟩ : ∃ r, bandK .u32 m mask = r := ⟨_, rfl⟩
      rw [hr0] at hpk
      clear hpx hx hxe
      by_cases hrm : r = mask
      · rw [hpk, decide_eq_true hrm, if_pos rfl] at hn
        clear hpk
        (repeat' (first | (show VH _ _ _ _ _ _ _; first | refine v_seq ?_ | refine r_seq ?_ | refine v_block ?_ | refine v_skip ?_ | refine v_cond_t rfl tbL ?_) | (show SH _ _ _ _ _ (_ :: _) _ _ _; first | (show SH _ _ _ _ _ (⟨_, .move _, _, _, _, _⟩ :: _) _ _ _; refine mov evL ?_) | (show SH _ _ _ _ _ (⟨_, .binOp .lss _ _ _ _, _, _, _, _⟩ :: _) _ _ _; refine lssT rfl rfl omD ?_) | (show SH _ _ _ _ _ (⟨_, .load _ _, _, _, _, _⟩ :: _) _ _ _; first | refine lag rfl (fun _ _ => rdY) (by rfl) omL (by assumption) ?_ | refine lba rfl spL (by rfl) ?_) | (show SH _ _ _ _ _ (⟨_, .indexAddr _ _ _, _, _, _, _⟩ :: _) _ _ _; refine ix rfl rfl (by with_reducible rfl) (fun _ _ => rdY) (by rfl) omL omL ?_) | (show SH _ _ _ _ _ (⟨_, .call ⟨.value (.func 22), _, _⟩, _, _, _, _⟩ :: _) _ _ _; refine cl (callee := .func 22) rfl (fun w hw => hM _ hw.ext) rfl rfl ?_) | refine ala rfl (fun b => ?_) | (show SH _ _ _ _ _ (⟨_, .store _ _ _, _, _, _, _⟩ :: _) _ _ _; refine sta rfl rfl rfl spL (by rfl) (by rfl) (by rfl) kpL ?_)) | refine s_nil ?_ | refine kh_normal ?_))
        refine andw rfl rfl _ hr0 ?_
        (repeat' (first | (show VH _ _ _ _ _ _ _; first | refine r_seq ?_ | refine v_cond_t rfl tbL ?_) | (show SH _ _ _ _ _ (_ :: _) _ _ _; first | (show SH _ _ _ _ _ (⟨_, .move _, _, _, _, _⟩ :: _) _ _ _; refine mov evL ?_) | (show SH _ _ _ _ _ (⟨_, .binOp .eql _ _ _ _, _, _, _, _⟩ :: _) _ _ _; refine eqlT rfl rfl omD ?_) | (show SH _ _ _ _ _ (⟨_, .load _ _, _, _, _, _⟩ :: _) _ _ _; refine lbx rfl spL (by rfl) ?_) | refine fad rfl ?_ | (show SH _ _ _ _ _ (⟨_, .buildSlice _ _ _, _, _, _, _⟩ :: _) _ _ _; refine bsl (α := Int) rfl rfl (by repeat (first | exact Vals.nil | (apply Vals.cons; rfl))) rfl (by rfl) (by decide) (fun b => ?_))) | refine s_nil ?_ | refine kh_normal ?_))
        refine app (l := ((l.take k).filter p).map idE) (l2 := [ei]) rfl rfl rfl spL (fun w hw => hw.rd spL) rfl rfl rfl (by simp only [List.length_cons, List.length_nil]; omega) (by simp only [List.length_cons, List.length_nil]; omega) (fun A4 c4 => ⟨enL, ?_⟩)
        rw [← hn]
        (repeat' (first | refine r_seq ?_ | (show SH _ _ _ _ _ (_ :: _) _ _ _; first | (show SH _ _ _ _ _ (⟨_, .move _, _, _, _, _⟩ :: _) _ _ _; refine mov evL ?_) | (show SH _ _ _ _ _ (⟨_, .assign _, _, _, _, _⟩ :: _) _ _ _; refine asg evL ?_) | (show SH _ _ _ _ _ (⟨_, .binOp .add _ _ _ _, _, _, _, _⟩ :: _) _ _ _; refine add rfl rfl inL ?_)) | refine s_nil ?_ | refine kh_normal ?_ | refine bh_normal ?_))
        exact ⟨agL, (k + 1, A4, c4), hsL, enL, hkl, by show _ - (k + 1) < _ - k; omega⟩
      · rw [hpk, decide_eq_false hrm, if_neg (by decide), List.append_nil] at hn
        clear hpk
        (repeat' (first | (show VH _ _ _ _ _ _ _; first | refine v_seq ?_ | refine r_seq ?_ | refine v_block ?_ | refine v_skip ?_ | refine v_cond_t rfl tbL ?_) | (show SH _ _ _ _ _ (_ :: _) _ _ _; first | (show SH _ _ _ _ _ (⟨_, .move _, _, _, _, _⟩ :: _) _ _ _; refine mov evL ?_) | (show SH _ _ _ _ _ (⟨_, .binOp .lss _ _ _ _, _, _, _, _⟩ :: _) _ _ _; refine lssT rfl rfl omD ?_) | (show SH _ _ _ _ _ (⟨_, .load _ _, _, _, _, _⟩ :: _) _ _ _; first | refine lag rfl (fun _ _ => rdY) (by rfl) omL (by assumption) ?_ | refine lba rfl spL (by rfl) ?_) | (show SH _ _ _ _ _ (⟨_, .indexAddr _ _ _, _, _, _, _⟩ :: _) _ _ _; refine ix rfl rfl (by with_reducible rfl) (fun _ _ => rdY) (by rfl) omL omL ?_) | (show SH _ _ _ _ _ (⟨_, .call ⟨.value (.func 22), _, _⟩, _, _, _, _⟩ :: _) _ _ _; refine cl (callee := .func 22) rfl (fun w hw => hM _ hw.ext) rfl rfl ?_) | refine ala rfl (fun b => ?_) | (show SH _ _ _ _ _ (⟨_, .store _ _ _, _, _, _, _⟩ :: _) _ _ _; refine sta rfl rfl rfl spL (by rfl) (by rfl) (by rfl) kpL ?_)) | refine s_nil ?_ | refine kh_normal ?_))
        refine andw rfl rfl _ hr0 ?_
        (repeat' (first | (show VH _ _ _ _ _ _ _; first | refine r_seq ?_ | refine v_skip ?_ | refine v_cond_f rfl tbL ?_) | (show SH _ _ _ _ _ (_ :: _) _ _ _; first | (show SH _ _ _ _ _ (⟨_, .move _, _, _, _, _⟩ :: _) _ _ _; refine mov evL ?_) | (show SH _ _ _ _ _ (⟨_, .binOp .eql _ _ _ _, _, _, _, _⟩ :: _) _ _ _; refine eqlF rfl rfl omD ?_) | (show SH _ _ _ _ _ (⟨_, .binOp .add _ _ _ _, _, _, _, _⟩ :: _) _ _ _; refine add rfl rfl inL ?_)) | refine s_nil ?_ | refine kh_normal ?_ | refine bh_normal ?_))
        exact ⟨agL, (k + 1, A1, c2), by rw [hn]; (repeat (first | exact trivial | refine And.intro rfl ?_)), by rw [hn]; exact enL, hkl, by show _ - (k + 1) < _ - k; omega⟩
    · have hke : k = l.length := by omega
      rw [hke, List.take_length]
      clear hpx
      (repeat' (first | (show VH _ _ _ _ _ _ _; first | refine v_seq ?_ | refine r_seq ?_ | refine v_ret ?_ | refine v_exit ?_ | refine v_cond_f rfl tbL ?_) | (show SH _ _ _ _ _ (_ :: _) _ _ _; first | (show SH _ _ _ _ _ (⟨_, .move _, _, _, _, _⟩ :: _) _ _ _; refine mov evL ?_) | (show SH _ _ _ _ _ (⟨_, .assign _, _, _, _, _⟩ :: _) _ _ _; refine asg evL ?_) | (show SH _ _ _ _ _ (⟨_, .binOp .lss _ _ _ _, _, _, _, _⟩ :: _) _ _ _; refine lssF rfl rfl omD ?_)) | refine s_nil ?_ | refine kh_normal ?_ | refine kh_exit ?_ | refine bh_exit ?_))
      exact rh1 rfl rfl ⟨A1, c2, rfl, rfl⟩ enL
  · rw [if_neg hv]
    rw [decide_eq_false hv] at hV
    clear hv
    refine enterH Tryd.func20 rfl rfl Tryd.ntmps20 rfl (Wd.refl _) ?_
    (repeat' (first | (show VH _ _ _ _ _ _ _; first | refine v_seq ?_ | refine r_seq ?_ | refine v_ret ?_ | refine v_cond_t rfl tbL ?_) | (show SH _ _ _ _ _ (_ :: _) _ _ _; first | (show SH _ _ _ _ _ (⟨_, .assign _, _, _, _, _⟩ :: _) _ _ _; refine asg evL ?_) | (show SH _ _ _ _ _ (⟨_, .load _ _, _, _, _, _⟩ :: _) _ _ _; refine lba rfl spL (by rfl) ?_) | (show SH _ _ _ _ _ (⟨_, .call ⟨.value (.func 15), _, _⟩, _, _, _, _⟩ :: _) _ _ _; refine cl (callee := .func 15) rfl (fun w hw => hV _ hw.ext) rfl rfl ?_) | refine bnoF rfl ?_ | (show SH _ _ _ _ _ (⟨_, .box _ _, _, _, _, _⟩ :: _) _ _ _; refine bxx rfl evL rfl (fun b => ?_))) | refine s_nil ?_ | refine kh_normal ?_ | refine kh_ret ?_))
    exact rh1 rfl rfl ⟨none, 0, rfl, rfl⟩ (ent_nilrow (ent_nil _))
set_option maxHeartbeats 2000000 in
set_option maxRecDepth 100000 in
theorem copied_spec (t : Int) (A : Option Addr) (l : List EntP) (c1 : Nat) (w : World) (hl : l.length ≤ 1000000) (hse : ∀ x ∈ l, x.e.comps.length ≤ 1000000) (hr : RdW w A l) : Ret Tryd.prog 46 [wv t A l c1].toArray w (RP w (WorldR t (ents l))) := by
  have hrd := hr.1
  unfold WorldR
  unfold wv
  refine enterH Tryd.func46 rfl rfl Tryd.ntmps46 rfl (Wd.refl _) ?_
  (repeat' (first | (show VH _ _ _ _ _ _ _; first | refine v_seq ?_ | refine r_seq ?_ | refine v_block ?_) | (show SH _ _ _ _ _ (_ :: _) _ _ _; first | (show SH _ _ _ _ _ (⟨_, .move _, _, _, _, _⟩ :: _) _ _ _; refine mov evL ?_) | (show SH _ _ _ _ _ (⟨_, .load _ _, _, _, _, _⟩ :: _) _ _ _; refine lbx rfl spL (by rfl) ?_) | refine slen rfl ?_ | refine fad rfl ?_ | refine bld rfl rfl ?_ | refine ala rfl (fun b => ?_) | (show SH _ _ _ _ _ (⟨_, .box _ _, _, _, _, _⟩ :: _) _ _ _; refine bxx rfl evL rfl (fun b => ?_)) | (show SH _ _ _ _ _ (⟨_, .store _ _ _, _, _, _, _⟩ :: _) _ _ _; refine sta rfl rfl rfl spL (by rfl) (by rfl) (by rfl) kpL ?_)) | refine s_nil ?_ | refine kh_normal ?_))
  rename_i b1 b2
  revert b
  intro b3
  refine v_norm [(1,_),(2,_),(3,_),(10,_),(11,_),(12,_)] heL (fun g => ?_)
  refine v_loop [(5,5),(12,23)] (fun s : Nat × (Option Addr × Nat) × List EntP => [(12, .int .i64 s.1)]) (fun s => [bx b3 25 [.int .i64 t, .slice s.2.1.1 s.2.2.length s.2.1.2], orow 32 s.2.1.1 s.2.1.2 s.2.2, allH (s.2.2.map rowOf), bx b2 25 [.int .i64 0, .slice none 0 0]]) (fun s => s.1 ≤ l.length ∧ s.2.2.map EntP.e = ents (l.take s.1)) (fun s => l.length - s.1) (0, (none, 0), []) hsL (ent_cons spL (ent_nilrow (ent_all_nil enL))) ⟨Nat.zero_le _, rfl⟩ ?_
  rintro ⟨k, ⟨A1, c2⟩, L⟩ g ⟨hk, hL⟩
  simp only [sets]
  simp only at hk hL
  have hlen : L.length = k := by
    have h1 := congrArg List.length hL
    rw [List.length_map, ents_len, List.length_take] at h1; omega
  by_cases hkl : k < l.length
  · have hx := getD_mem (d := Flat.dflt) hkl
    have hO := fun w' (he : Ext w w') => own_spec (l.getD k Flat.dflt) w' (hse _ hx) ((hr.2 _ hx).ext he)
    unfold OwnR at hO
    have hn : ents (l.take (k + 1)) = ents (l.take k) ++ [(l.getD k Flat.dflt).e] := by
      unfold ents
      rw [take_snoc (d := Flat.dflt) hkl, List.map_append]; rfl
    rw [← hL] at hn
    obtain ⟨x, hxe⟩ : ∃ x, l.getD k Flat.dflt = x := ⟨_, rfl⟩
    have hxE : Flat.enc (l.getD k Flat.dflt) = Flat.enc x := by rw [hxe]
    rw [hxe] at hO hn
    obtain ⟨⟨ei, cs⟩, Ax, cx⟩ := x
    simp only at hO hn
    rw [show Flat.enc (⟨⟨ei, cs⟩, Ax, cx⟩ : EntP) = [.int .i64 ei, .slice Ax cs.length cx] from rfl] at hxE hO
    clear hx hL hxe
    (repeat' (first | (show VH _ _ _ _ _ _ _; first | refine v_seq ?_ | refine r_seq ?_ | refine v_block ?_ | refine v_skip ?_ | refine v_cond_t rfl tbL ?_) | (show SH _ _ _ _ _ (_ :: _) _ _ _; first | (show SH _ _ _ _ _ (⟨_, .binOp .lss _ _ _ _, _, _, _, _⟩ :: _) _ _ _; refine lssT rfl rfl omD ?_) | (show SH _ _ _ _ _ (⟨_, .load _ _, _, _, _, _⟩ :: _) _ _ _; refine lag rfl (fun _ _ => rdY) (by rfl) omL (by assumption) ?_) | (show SH _ _ _ _ _ (⟨_, .indexAddr _ _ _, _, _, _, _⟩ :: _) _ _ _; refine ix rfl rfl (by with_reducible rfl) (fun _ _ => rdY) (by rfl) omL omL ?_) | refine ala rfl (fun b => ?_) | (show SH _ _ _ _ _ (⟨_, .store _ _ _, _, _, _, _⟩ :: _) _ _ _; refine sta rfl rfl rfl spL (by rfl) (by rfl) (by rfl) kpL ?_)) | refine s_nil ?_ | refine kh_normal ?_))
    refine r_heldT [bx b 32 [.int .i64 ei, .slice Ax cs.length cx]] (tr [(0, true), (2, true)] (.fork 1 (tr [(3, false), (4, false), (5, false), (6, false), (7, false)] .nil) 3 (tr [] (.fork 1 (tr [(4, false), (5, false), (6, false), (7, false)] .nil) 4 (tr [(1, false), (5, false), (6, false), (7, false)] .nil))))) hmix (by kernel_rfl) enL ?_
    (repeat' (first | (show SH _ _ _ _ _ (_ :: _) _ _ _; first | (show SH _ _ _ _ _ (⟨_, .load _ _, _, _, _, _⟩ :: _) _ _ _; first | refine lbx rfl spL (by rfl) ?_ | refine lba rfl spL (by rfl) ?_) | (show SH _ _ _ _ _ (⟨_, .call ⟨.value (.func 45), _, _⟩, _, _, _, _⟩ :: _) _ _ _; refine cp (callee := .func 45) rfl (fun w hw => hO _ hw.ext) rfl rfl ?_) | refine fad rfl ?_) | refine s_fork ?_ ?_))
    all_goals
      rintro _ _ ⟨A8, c8, rfl, rfl⟩
      (repeat' (first | (show SH _ _ _ _ _ (_ :: _) _ _ _; (show SH _ _ _ _ _ (⟨_, .load _ _, _, _, _, _⟩ :: _) _ _ _; refine lbx rfl spL (by rfl) ?_)) | refine s_fork ?_ ?_))
    all_goals
      refine bsl (l := [(⟨⟨ei, cs⟩, A8, c8⟩ : EntP)]) rfl rfl (Vals.cons rfl Vals.nil) rfl rfl (by decide) (fun b31 => ?_)
      (repeat' ((show SH _ _ _ _ _ (_ :: _) _ _ _; (show SH _ _ _ _ _ (⟨_, .load _ _, _, _, _, _⟩ :: _) _ _ _; refine lbx rfl spL (by rfl) ?_))))
    all_goals
      refine app (l := L) (l2 := [(⟨⟨ei, cs⟩, A8, c8⟩ : EntP)]) rfl rfl rfl spL (fun w hw => hw.rd spL) rfl rfl rfl (by simp only [List.length_cons, List.length_nil]; omega) (by simp only [List.length_cons, List.length_nil]; omega) (fun A7 c7 => ⟨enL, ?_⟩)
      (repeat' (first | refine r_seq ?_ | (show SH _ _ _ _ _ (_ :: _) _ _ _; first | (show SH _ _ _ _ _ (⟨_, .move _, _, _, _, _⟩ :: _) _ _ _; refine mov evL ?_) | (show SH _ _ _ _ _ (⟨_, .binOp .add _ _ _ _, _, _, _, _⟩ :: _) _ _ _; refine add rfl rfl inL ?_) | refine fad rfl ?_ | (show SH _ _ _ _ _ (⟨_, .store _ _ _, _, _, _, _⟩ :: _) _ _ _; refine stb rfl rfl evL spL rfl rfl (by first | decide | exact Nat.zero_lt_succ _ | exact of_decide_eq_true rfl) kpL ?_)) | refine s_nil ?_ | refine kh_normal ?_ | refine bh_normal ?_))
      refine ⟨agL, (k + 1, (A7, c7), L ++ [(⟨⟨ei, cs⟩, A8, c8⟩ : EntP)]), hsL, ?_, ⟨hkl, by rw [hn]; exact map_snoc_e _ _⟩, by show _ - (k + 1) < _ - k; omega⟩
      exact Ent.trans (B := [orow 42 A8 c8 cs, allH (L.map rowOf), bx b3 25 [.int .i64 t, .slice A7 (L ++ [(⟨⟨ei, cs⟩, A8, c8⟩ : EntP)]).length c7], orow 32 A7 c7 (L ++ [(⟨⟨ei, cs⟩, A8, c8⟩ : EntP)]), bx b2 25 [.int .i64 0, .slice none 0 0]]) enL
        ((ent_all_snoc (f := rowOf) (x := (⟨⟨ei, cs⟩, A8, c8⟩ : EntP))).trans enL)
  · have hke : k = l.length := by omega
    rw [hke, List.take_length] at hL
    clear hke
    (repeat' (first | (show VH _ _ _ _ _ _ _; first | refine v_seq ?_ | refine r_seq ?_ | refine v_ret ?_ | refine v_exit ?_ | refine v_cond_f rfl tbL ?_) | (show SH _ _ _ _ _ (_ :: _) _ _ _; first | (show SH _ _ _ _ _ (⟨_, .binOp .lss _ _ _ _, _, _, _, _⟩ :: _) _ _ _; refine lssF rfl rfl omD ?_) | (show SH _ _ _ _ _ (⟨_, .load _ _, _, _, _, _⟩ :: _) _ _ _; refine lba rfl spL (by rfl) ?_) | (show SH _ _ _ _ _ (⟨_, .store _ _ _, _, _, _, _⟩ :: _) _ _ _; refine sta rfl rfl rfl spL (by rfl) (by rfl) (by rfl) kpL ?_)) | refine s_nil ?_ | refine kh_normal ?_ | refine kh_exit ?_ | refine bh_exit ?_))
    exact rhC rfl rfl rfl (fun w hw => loadVar_bx hw spL (by rfl)) ⟨A1, c2, L, rfl, hL, rfl⟩ enL
end Go.Proofs.YtfodpcpclmnbkaaDoor
