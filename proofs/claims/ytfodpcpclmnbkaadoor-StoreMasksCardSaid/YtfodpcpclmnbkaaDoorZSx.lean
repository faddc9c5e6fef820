/- Package store: Unset, Add, Remove (printed by gen_sx.py). -/
import Derived.Test.YtfodpcpclmnbkaaDoorZTw
import Derived.Test.YtfodpcpclmnbkaaDoorZQb
import Derived.Test.YtfodpcpclmnbkaaDoorZSi
import Derived.Test.YtfodpcpclmnbkaaDoorZWz
set_option linter.unusedSimpArgs false
set_option linter.unusedVariables false
namespace Go.Proofs.YtfodpcpclmnbkaaDoor
open Go.Fw Go.RowKit
set_option maxHeartbeats 4000000 in
set_option maxRecDepth 100000 in
theorem unset_spec (t id kd : Int) (A : Option Addr) (l : List EntP) (c1 : Nat) (w : World) (hG : Glob w) (hs : Sz l) (hl : l.length ≤ 1000000) (hse : ∀ x ∈ l, x.e.comps.length ≤ 100000) (hr : RdW w A l) :
    Ret Tryd.prog 37 [wv t A l c1, .int .i64 id, .int .u8 kd].toArray w (RP w (ChgR t (unsL id kd (ents l)) (unsErr t id kd (ents l)))) := by
  have hV := fun w' (he : Ext w w') => valid_spec t A l c1 w' (hG.ext he) hs (hr.ext he)
  have hF := fun w' (he : Ext w w') => find_spec t id A l c1 w' (hG.ext he) hs (hr.ext he)
  have hT := fun w' (he : Ext w w') => get_spec t id kd A l c1 w' (hG.ext he) hs (hr.ext he)
  have hC := fun w' (he : Ext w w') => copied_spec t A l c1 w' hl (fun x hx => by have := hse x hx; omega) (hr.ext he)
  unfold WorldR at hC
  unfold ChgR
  unfold wv at hV hF hC hT ⊢
  by_cases hv : ValidW t (ents l)
  case neg =>
    rw [decide_eq_false hv] at hV
    rw [show unsErr t id kd (ents l) = 2 from if_neg hv]
    simp only [show ((2 : Int) = 0) = False from by simp, if_false]
    clear hv
    refine enterH Tryd.func37 rfl rfl Tryd.ntmps37 rfl (Wd.refl _) ?_
    (repeat' (first | (show VH _ _ _ _ _ _ _; first | refine v_seq ?_ | refine r_seq ?_ | refine v_ret ?_ | refine v_cond_t rfl tbL ?_) | (show SH _ _ _ _ _ (_ :: _) _ _ _; first | (show SH _ _ _ _ _ (⟨_, .assign _, _, _, _, _⟩ :: _) _ _ _; refine asg evL ?_) | (show SH _ _ _ _ _ (⟨_, .load _ _, _, _, _, _⟩ :: _) _ _ _; refine lba rfl spL (by rfl) ?_) | (show SH _ _ _ _ _ (⟨_, .call ⟨.value (.func 15), _, _⟩, _, _, _, _⟩ :: _) _ _ _; refine cl (callee := .func 15) rfl (fun w hw => hV _ hw.ext) rfl rfl ?_) | refine bnoF rfl ?_ | refine bld rfl rfl ?_ | refine ala rfl (fun b => ?_) | (show SH _ _ _ _ _ (⟨_, .box _ _, _, _, _, _⟩ :: _) _ _ _; refine bxx rfl evL rfl (fun b => ?_)) | (show SH _ _ _ _ _ (⟨_, .store _ _ _, _, _, _, _⟩ :: _) _ _ _; refine sta rfl rfl rfl spL (by rfl) (by rfl) (by rfl) kpL ?_)) | refine s_nil ?_ | refine kh_normal ?_ | refine kh_ret ?_))
    exact rhC2 rfl rfl rfl rfl (fun w hw => loadVar_bx hw spL (by rfl)) ⟨none, 0, [], rfl, rfl, rfl⟩ (ent_nilrow (ent_all_nil (ent_nil _)))
  rw [decide_eq_true hv] at hV
  obtain ⟨g, hg⟩ : ∃ g, getM t id kd (ents l) = g := ⟨_, rfl⟩
  rw [hg] at hT
  cases g with
  | none =>
    rw [show unsErr t id kd (ents l) = 6 by unfold unsErr; rw [if_pos hv, hg]; rfl]
    simp only [show ((6 : Int) = 0) = False from by simp, if_false]
    clear hv hg
    refine enterH Tryd.func37 rfl rfl Tryd.ntmps37 rfl (Wd.refl _) ?_
    (repeat' (first | (show VH _ _ _ _ _ _ _; first | refine v_seq ?_ | refine r_seq ?_ | refine v_ret ?_ | refine v_skip ?_ | refine v_cond_t rfl tbL ?_ | refine v_cond_f rfl tbL ?_) | (show SH _ _ _ _ _ (_ :: _) _ _ _; first | (show SH _ _ _ _ _ (⟨_, .move _, _, _, _, _⟩ :: _) _ _ _; refine mov evL ?_) | (show SH _ _ _ _ _ (⟨_, .assign _, _, _, _, _⟩ :: _) _ _ _; refine asg evL ?_) | (show SH _ _ _ _ _ (⟨_, .load _ _, _, _, _, _⟩ :: _) _ _ _; refine lba rfl spL (by rfl) ?_) | (show SH _ _ _ _ _ (⟨_, .call ⟨.value (.func 15), _, _⟩, _, _, _, _⟩ :: _) _ _ _; refine cl (callee := .func 15) rfl (fun w hw => hV _ hw.ext) rfl rfl ?_) | (show SH _ _ _ _ _ (⟨_, .call ⟨.value (.func 19), _, _⟩, _, _, _, _⟩ :: _) _ _ _; refine cl (callee := .func 19) rfl (fun w hw => hT _ hw.ext) rfl rfl ?_) | (show SH _ _ _ _ _ (⟨_, .unOp .not _ _, _, _, _, _⟩ :: _) _ _ _; first | refine bnoT rfl ?_ | refine bnoF rfl ?_) | refine extr rfl rfl ?_ | refine bld rfl rfl ?_ | refine ala rfl (fun b => ?_) | (show SH _ _ _ _ _ (⟨_, .box _ _, _, _, _, _⟩ :: _) _ _ _; refine bxx rfl evL rfl (fun b => ?_)) | (show SH _ _ _ _ _ (⟨_, .store _ _ _, _, _, _, _⟩ :: _) _ _ _; refine sta rfl rfl rfl spL (by rfl) (by rfl) (by rfl) kpL ?_)) | refine s_nil ?_ | refine kh_normal ?_ | refine kh_ret ?_))
    exact rhC2 rfl rfl rfl rfl (fun w hw => loadVar_bx hw spL (by rfl)) ⟨none, 0, [], rfl, rfl, rfl⟩ (ent_nilrow (ent_all_nil (ent_nil _)))
  | some c0 =>
    rw [show unsErr t id kd (ents l) = 0 by unfold unsErr; rw [if_pos hv, hg]; rfl]
    simp only [if_true]
    have hg2 := hg
    unfold getM at hg2
    rw [if_pos hv, thg_find ((rising_ents l).1 hv.up)] at hg2
    have hb : hasK idE id l = true := by
      cases hb : hasK idE id l with
      | true => rfl
      | false => rw [if_neg (by rw [hb]; simp)] at hg2; cases hg2
    have hfb : findB t id l = true := by unfold findB; rw [decide_eq_true hv, hb]; rfl
    rw [hfb] at hF
    unfold findI at hF
    rw [if_pos hv] at hF
    clear hfb hg2
    refine enterH Tryd.func37 rfl rfl Tryd.ntmps37 rfl (Wd.refl _) ?_
    (repeat' (first | (show VH _ _ _ _ _ _ _; first | refine v_seq ?_ | refine r_seq ?_ | refine v_skip ?_ | refine v_cond_f rfl tbL ?_) | (show SH _ _ _ _ _ (_ :: _) _ _ _; first | (show SH _ _ _ _ _ (⟨_, .move _, _, _, _, _⟩ :: _) _ _ _; refine mov evL ?_) | (show SH _ _ _ _ _ (⟨_, .assign _, _, _, _, _⟩ :: _) _ _ _; refine asg evL ?_) | (show SH _ _ _ _ _ (⟨_, .load _ _, _, _, _, _⟩ :: _) _ _ _; refine lba rfl spL (by rfl) ?_) | (show SH _ _ _ _ _ (⟨_, .call ⟨.value (.func 15), _, _⟩, _, _, _, _⟩ :: _) _ _ _; refine cl (callee := .func 15) rfl (fun w hw => hV _ hw.ext) rfl rfl ?_) | (show SH _ _ _ _ _ (⟨_, .call ⟨.value (.func 19), _, _⟩, _, _, _, _⟩ :: _) _ _ _; refine cl (callee := .func 19) rfl (fun w hw => hT _ hw.ext) rfl rfl ?_) | (show SH _ _ _ _ _ (⟨_, .call ⟨.value (.func 46), _, _⟩, _, _, _, _⟩ :: _) _ _ _; refine cp (callee := .func 46) rfl (fun w hw => hC _ hw.ext) rfl rfl ?_) | refine bnoT rfl ?_ | refine extr rfl rfl ?_ | refine ala rfl (fun b => ?_) | (show SH _ _ _ _ _ (⟨_, .box _ _, _, _, _, _⟩ :: _) _ _ _; refine bxx rfl evL rfl (fun b => ?_)) | (show SH _ _ _ _ _ (⟨_, .store _ _ _, _, _, _, _⟩ :: _) _ _ _; refine sta rfl rfl rfl spL (by rfl) (by rfl) (by rfl) kpL ?_)) | refine s_nil ?_ | refine kh_normal ?_))
    rintro _ _ ⟨A2, c2, L, rfl, hL, rfl⟩
    clear hV hT hC
    have hset := fun y hy => set_ents (y := y) hL hv.up hb hy
    obtain ⟨hil, hid, hthg⟩ := thg_l hL hv.up hb
    have hLl : L.length = l.length := by
      have := congrArg List.length hL
      rwa [List.length_map, ents_len] at this
    have hxm : (L.getD (lbK idE id l) Flat.dflt).e ∈ ents l := by rw [← hL]; exact List.mem_map_of_mem (getD_mem hil)
    have hxr := hv.right _ hxm
    have hxl : (L.getD (lbK idE id l) Flat.dflt).e.comps.length ≤ 100000 := by
      obtain ⟨x, hx, he⟩ := List.mem_map.1 hxm
      rw [← he]; exact hse x hx
    have hgx : compK kd (L.getD (lbK idE id l) Flat.dflt).e.comps = some c0 := by
      unfold getM at hg
      rw [if_pos hv, hthg] at hg; exact hg
    generalize lbK idE id l = i at hF hset hil hid hthg hxm hxr hxl hgx ⊢
    obtain ⟨x, hx⟩ : ∃ x, L.getD i Flat.dflt = x := ⟨_, rfl⟩
    have hxE : Flat.enc (L.getD i Flat.dflt) = Flat.enc x := by rw [hx]
    rw [hx] at hid hthg hxr hxl hgx
    have hsl : unsL id kd (ents l) = insK Ent1.id (unsE kd x.e) (ents l) := by
      unfold unsL; rw [hthg]
    rw [hsl]
    clear hthg hxm hsl hv hb hg
    obtain ⟨⟨ei, cs⟩, Ax, cx⟩ := x
    simp only at hid hxr hxl hset hgx
    rw [show Flat.enc (⟨⟨ei, cs⟩, Ax, cx⟩ : EntP) = [.int .i64 ei, .slice Ax cs.length cx] from rfl] at hxE
    (repeat' ((fail_if_success (show VH _ _ (.seq (.region 7 _ _) _) _ _ _ _)); first | (show SH _ _ _ _ _ (_ :: _) _ _ _; first | refine ala rfl (fun b => ?_) | (show SH _ _ _ _ _ (⟨_, .store _ _ _, _, _, _, _⟩ :: _) _ _ _; refine sta rfl rfl rfl spL (by rfl) (by rfl) (by rfl) kpL ?_)) | refine s_nil ?_ | refine kh_normal ?_))
    rename_i b3 b6 b8
    revert b
    intro b10
    refine VH.ent (G := [orow 42 Ax cx cs, allH ((L.eraseIdx i).map rowOf), bx b10 25 [.int .i64 t, .slice A2 L.length c2], orow 32 A2 c2 L, bx b6 25 [.int .i64 0, .slice none 0 0], bx b3 25 [.int .i64 t, .slice A l.length c1]]) ?_ (Ent.trans (B := [allH (L.map rowOf), bx b10 25 [.int .i64 t, .slice A2 L.length c2], orow 32 A2 c2 L, bx b6 25 [.int .i64 0, .slice none 0 0], bx b3 25 [.int .i64 t, .slice A l.length c1]]) enL (by
      have h := ent_all_open (d := Flat.dflt) (f := rowOf) (L := L) (k := i) (G := [bx b10 25 [.int .i64 t, .slice A2 L.length c2], orow 32 A2 c2 L, bx b6 25 [.int .i64 0, .slice none 0 0], bx b3 25 [.int .i64 t, .slice A l.length c1]]) hil
      rw [hx] at h
      exact h))
    have hP := fun w hr' => placeC_spec Ax cs cx kd _ kindC w (by omega) hr' hxr.up (kindOf_key w cs)
    have hbk : hasK kindC kd cs = true := by
      have h := compK_find hxr.up kd
      rw [hgx] at h
      cases hbk : hasK kindC kd cs with
      | true => rfl
      | false => rw [if_neg (by rw [hbk]; simp)] at h; cases h
    have hcs : cs.eraseIdx (lbK kindC kd cs) = cs.filter (fun c => decide (kindC c ≠ kd)) := del_lb hxr.up hbk
    obtain ⟨hkl, _⟩ := has_lt hbk
    rw [hbk] at hP
    clear hbk hxr hgx
    generalize lbK kindC kd cs = k at hP hcs hkl
    (repeat' ((fail_if_success (show VH _ _ (.seq (.region 9 _ _) _) _ _ _ _)); first | (show VH _ _ _ _ _ _ _; first | refine v_seq ?_ | refine r_seq ?_) | (show SH _ _ _ _ _ (_ :: _) _ _ _; first | (show SH _ _ _ _ _ (⟨_, .move _, _, _, _, _⟩ :: _) _ _ _; refine mov evL ?_) | (show SH _ _ _ _ _ (⟨_, .assign _, _, _, _, _⟩ :: _) _ _ _; refine asg evL ?_) | (show SH _ _ _ _ _ (⟨_, .load _ _, _, _, _, _⟩ :: _) _ _ _; first | refine lrg rfl (fun _ _ => rdY) (by rfl) omL (by assumption) (by rfl) ?_ | refine lbx rfl spL (by rfl) ?_ | refine lba rfl spL (by rfl) ?_) | (show SH _ _ _ _ _ (⟨_, .indexAddr _ _ _, _, _, _, _⟩ :: _) _ _ _; refine ix rfl rfl (by with_reducible rfl) (fun _ _ => rdY) (by rfl) omL omL ?_) | (show SH _ _ _ _ _ (⟨_, .call ⟨.value (.func 44), _, _⟩, _, _, _, _⟩ :: _) _ _ _; refine cl (callee := .func 44) rfl (fun w hw => hF _ hw.ext) rfl rfl ?_) | (show SH _ _ _ _ _ (⟨_, .call ⟨.value (.func 53), _, _⟩, _, _, _, _⟩ :: _) _ _ _; refine cl (callee := .func 53) rfl (fun w hw => hP w (hw.rd spL)) rfl rfl ?_) | refine extr rfl rfl ?_ | refine fad rfl ?_) | refine s_nil ?_ | refine kh_normal ?_))
    have hye : unsE kd ⟨ei, cs⟩ = ⟨ei, cs.eraseIdx k⟩ := by rw [hcs]; rfl
    refine v_some (A := A2) (l := L) spL (by omega) (fun hA2 => ?_)
    refine v_seq ?_
    refine r_heldT [bx b10 25 [.int .i64 t, .slice A2 L.length c2]] (tr [(0, true), (1, true), (2, true), (3, true), (4, true), (5, true), (6, true), (7, true), (9, true), (10, true), (11, true), (8, false), (12, false), (13, false), (14, false), (15, false)] .nil) hmix (by kernel_rfl) enL ?_
    (repeat' ((show SH _ _ _ _ _ (_ :: _) _ _ _; first | (show SH _ _ _ _ _ (⟨_, .move _, _, _, _, _⟩ :: _) _ _ _; refine mov evL ?_) | (show SH _ _ _ _ _ (⟨_, .binOp .add _ _ _ _, _, _, _, _⟩ :: _) _ _ _; refine add rfl rfl inL ?_) | (show SH _ _ _ _ _ (⟨_, .load _ _, _, _, _, _⟩ :: _) _ _ _; first | refine lrg rfl (fun _ _ => rdY) (by rfl) omL (by assumption) (by rfl) ?_ | refine lbx rfl spL (by rfl) ?_) | (show SH _ _ _ _ _ (⟨_, .indexAddr _ _ _, _, _, _, _⟩ :: _) _ _ _; refine ixq rfl rfl (by assumption) omL omL ?_) | refine fad rfl ?_)))
    refine cm rfl (fun w hw => deleteC_spec Ax cs cx k _ [allH ((L.eraseIdx i).map rowOf), bx b10 25 [.int .i64 t, .slice A2 L.length c2], orow 32 A2 c2 L, bx b6 25 [.int .i64 0, .slice none 0 0], bx b3 25 [.int .i64 t, .slice A l.length c1]] w hkl (by omega) (Ent.wd enL hw)) rfl rfl ?_
    rintro _ _ ⟨rfl, rfl⟩
    refine ⟨enL, ?_⟩
    (repeat' ((show SH _ _ _ _ _ (_ :: _) _ _ _; first | (show SH _ _ _ _ _ (⟨_, .indexAddr _ _ _, _, _, _, _⟩ :: _) _ _ _; refine ix rfl rfl (by with_reducible rfl) (fun _ _ => rdY) (by rfl) omL omL ?_) | refine fad rfl ?_)))
    refine stf (x' := (⟨⟨ei, cs.eraseIdx k⟩, Ax, cx⟩ : EntP)) (i := i) (off := 1) (l := L) (A := A2) rfl rfl rfl spL rfl hil rfl rfl (by decide) (by rw [hxE]; rfl) enL ?_
    (repeat' (first | (show VH _ _ _ _ _ _ _; first | refine v_seq ?_ | refine r_seq ?_ | refine v_ret ?_) | (show SH _ _ _ _ _ (_ :: _) _ _ _; first | (show SH _ _ _ _ _ (⟨_, .assign _, _, _, _, _⟩ :: _) _ _ _; refine asg evL ?_) | (show SH _ _ _ _ _ (⟨_, .load _ _, _, _, _, _⟩ :: _) _ _ _; refine lba rfl spL (by rfl) ?_) | (show SH _ _ _ _ _ (⟨_, .store _ _ _, _, _, _, _⟩ :: _) _ _ _; refine sta rfl rfl rfl spL (by rfl) (by rfl) (by rfl) kpL ?_)) | refine s_nil ?_ | refine kh_normal ?_))
    refine rhC2 rfl rfl rfl rfl (fun w hw => loadVar_bx hw spL (by rfl)) ⟨A2, c2, L.set i ⟨⟨ei, cs.eraseIdx k⟩, Ax, cx⟩, congrArg (fun m => Value.tuple #[.agg #[.int .i64 t, .slice A2 m c2], .int .i64 0]) (List.length_set ..).symm, (hset _ hid).trans (by rw [← hye]), rfl⟩ ?_
    exact Ent.trans (B := [orow 42 Ax cx (cs.eraseIdx k), allH ((L.eraseIdx i).map rowOf), orow 32 A2 c2 (L.set i (⟨⟨ei, cs.eraseIdx k⟩, Ax, cx⟩ : EntP))]) enL ((ent_all_close (f := rowOf) (x := (⟨⟨ei, cs.eraseIdx k⟩, Ax, cx⟩ : EntP)) hil).trans enL)

set_option maxHeartbeats 4000000 in
set_option maxRecDepth 100000 in
theorem remove_spec (t id : Int) (A : Option Addr) (l : List EntP) (c1 : Nat) (w : World) (hG : Glob w) (hs : Sz l) (hl : l.length ≤ 1000000) (hse : ∀ x ∈ l, x.e.comps.length ≤ 100000) (hr : RdW w A l) :
    Ret Tryd.prog 38 [wv t A l c1, .int .i64 id].toArray w (RP w (ChgR t (remL id (ents l)) (remErr t id (ents l)))) := by
  have hV := fun w' (he : Ext w w') => valid_spec t A l c1 w' (hG.ext he) hs (hr.ext he)
  have hF := fun w' (he : Ext w w') => find_spec t id A l c1 w' (hG.ext he) hs (hr.ext he)
  have hC := fun w' (he : Ext w w') => copied_spec t A l c1 w' hl (fun x hx => by have := hse x hx; omega) (hr.ext he)
  unfold WorldR at hC
  unfold ChgR
  unfold wv at hV hF hC ⊢
  by_cases hv : ValidW t (ents l)
  case neg =>
    rw [decide_eq_false hv] at hV
    rw [show remErr t id (ents l) = 2 from if_neg hv]
    simp only [show ((2 : Int) = 0) = False from by simp, if_false]
    clear hv
    refine enterH Tryd.func38 rfl rfl Tryd.ntmps38 rfl (Wd.refl _) ?_
    (repeat' (first | (show VH _ _ _ _ _ _ _; first | refine v_seq ?_ | refine r_seq ?_ | refine v_ret ?_ | refine v_cond_t rfl tbL ?_) | (show SH _ _ _ _ _ (_ :: _) _ _ _; first | (show SH _ _ _ _ _ (⟨_, .assign _, _, _, _, _⟩ :: _) _ _ _; refine asg evL ?_) | (show SH _ _ _ _ _ (⟨_, .load _ _, _, _, _, _⟩ :: _) _ _ _; refine lba rfl spL (by rfl) ?_) | (show SH _ _ _ _ _ (⟨_, .call ⟨.value (.func 15), _, _⟩, _, _, _, _⟩ :: _) _ _ _; refine cl (callee := .func 15) rfl (fun w hw => hV _ hw.ext) rfl rfl ?_) | refine bnoF rfl ?_ | refine bld rfl rfl ?_ | refine ala rfl (fun b => ?_) | (show SH _ _ _ _ _ (⟨_, .box _ _, _, _, _, _⟩ :: _) _ _ _; refine bxx rfl evL rfl (fun b => ?_)) | (show SH _ _ _ _ _ (⟨_, .store _ _ _, _, _, _, _⟩ :: _) _ _ _; refine sta rfl rfl rfl spL (by rfl) (by rfl) (by rfl) kpL ?_)) | refine s_nil ?_ | refine kh_normal ?_ | refine kh_ret ?_))
    exact rhC2 rfl rfl rfl rfl (fun w hw => loadVar_bx hw spL (by rfl)) ⟨none, 0, [], rfl, rfl, rfl⟩ (ent_nilrow (ent_all_nil (ent_nil _)))
  rw [decide_eq_true hv] at hV
  cases hb : findB t id l with
  | false =>
    rw [hb] at hF
    unfold findB at hb
    rw [decide_eq_true hv, Bool.true_and] at hb
    have hN : thg id (ents l) = none := by rw [thg_find ((rising_ents l).1 hv.up), if_neg (by rw [hb]; simp)]
    generalize findI t id l = i at hF
    rw [show remErr t id (ents l) = 6 by unfold remErr; rw [if_pos hv, hN]; rfl]
    simp only [show ((6 : Int) = 0) = False from by simp, if_false]
    clear hv hN
    refine enterH Tryd.func38 rfl rfl Tryd.ntmps38 rfl (Wd.refl _) ?_
    (repeat' (first | (show VH _ _ _ _ _ _ _; first | refine v_seq ?_ | refine r_seq ?_ | refine v_ret ?_ | refine v_skip ?_ | refine v_cond_t rfl tbL ?_ | refine v_cond_f rfl tbL ?_) | (show SH _ _ _ _ _ (_ :: _) _ _ _; first | (show SH _ _ _ _ _ (⟨_, .move _, _, _, _, _⟩ :: _) _ _ _; refine mov evL ?_) | (show SH _ _ _ _ _ (⟨_, .assign _, _, _, _, _⟩ :: _) _ _ _; refine asg evL ?_) | (show SH _ _ _ _ _ (⟨_, .load _ _, _, _, _, _⟩ :: _) _ _ _; refine lba rfl spL (by rfl) ?_) | (show SH _ _ _ _ _ (⟨_, .call ⟨.value (.func 15), _, _⟩, _, _, _, _⟩ :: _) _ _ _; refine cl (callee := .func 15) rfl (fun w hw => hV _ hw.ext) rfl rfl ?_) | (show SH _ _ _ _ _ (⟨_, .call ⟨.value (.func 44), _, _⟩, _, _, _, _⟩ :: _) _ _ _; refine cl (callee := .func 44) rfl (fun w hw => hF _ hw.ext) rfl rfl ?_) | (show SH _ _ _ _ _ (⟨_, .unOp .not _ _, _, _, _, _⟩ :: _) _ _ _; first | refine bnoT rfl ?_ | refine bnoF rfl ?_) | refine extr rfl rfl ?_ | refine bld rfl rfl ?_ | refine ala rfl (fun b => ?_) | (show SH _ _ _ _ _ (⟨_, .box _ _, _, _, _, _⟩ :: _) _ _ _; refine bxx rfl evL rfl (fun b => ?_)) | (show SH _ _ _ _ _ (⟨_, .store _ _ _, _, _, _, _⟩ :: _) _ _ _; refine sta rfl rfl rfl spL (by rfl) (by rfl) (by rfl) kpL ?_)) | refine s_nil ?_ | refine kh_normal ?_ | refine kh_ret ?_))
    exact rhC2 rfl rfl rfl rfl (fun w hw => loadVar_bx hw spL (by rfl)) ⟨none, 0, [], rfl, rfl, rfl⟩ (ent_nilrow (ent_all_nil (ent_nil _)))
  | true =>
    rw [hb] at hF
    unfold findB at hb
    rw [decide_eq_true hv, Bool.true_and] at hb
    unfold findI at hF
    rw [if_pos hv] at hF
    have hsome : (thg id (ents l)).isSome = true := by rw [thg_find ((rising_ents l).1 hv.up), if_pos hb]; rfl
    rw [show remErr t id (ents l) = 0 by unfold remErr; rw [if_pos hv, hsome]; rfl]
    simp only [if_true]
    clear hsome
    refine enterH Tryd.func38 rfl rfl Tryd.ntmps38 rfl (Wd.refl _) ?_
    (repeat' (first | (show VH _ _ _ _ _ _ _; first | refine v_seq ?_ | refine r_seq ?_ | refine v_skip ?_ | refine v_cond_f rfl tbL ?_) | (show SH _ _ _ _ _ (_ :: _) _ _ _; first | (show SH _ _ _ _ _ (⟨_, .move _, _, _, _, _⟩ :: _) _ _ _; refine mov evL ?_) | (show SH _ _ _ _ _ (⟨_, .assign _, _, _, _, _⟩ :: _) _ _ _; refine asg evL ?_) | (show SH _ _ _ _ _ (⟨_, .load _ _, _, _, _, _⟩ :: _) _ _ _; refine lba rfl spL (by rfl) ?_) | (show SH _ _ _ _ _ (⟨_, .call ⟨.value (.func 15), _, _⟩, _, _, _, _⟩ :: _) _ _ _; refine cl (callee := .func 15) rfl (fun w hw => hV _ hw.ext) rfl rfl ?_) | (show SH _ _ _ _ _ (⟨_, .call ⟨.value (.func 44), _, _⟩, _, _, _, _⟩ :: _) _ _ _; refine cl (callee := .func 44) rfl (fun w hw => hF _ hw.ext) rfl rfl ?_) | (show SH _ _ _ _ _ (⟨_, .call ⟨.value (.func 46), _, _⟩, _, _, _, _⟩ :: _) _ _ _; refine cp (callee := .func 46) rfl (fun w hw => hC _ hw.ext) rfl rfl ?_) | refine bnoT rfl ?_ | refine extr rfl rfl ?_ | refine ala rfl (fun b => ?_) | (show SH _ _ _ _ _ (⟨_, .box _ _, _, _, _, _⟩ :: _) _ _ _; refine bxx rfl evL rfl (fun b => ?_))) | refine s_nil ?_ | refine kh_normal ?_))
    rintro _ _ ⟨A2, c2, L, rfl, hL, rfl⟩
    clear hV hF hC
    have hdel := del_ents hL hv.up hb
    have hil := (thg_l hL hv.up hb).1
    have hLl : L.length = l.length := by
      have := congrArg List.length hL
      rwa [List.length_map, ents_len] at this
    clear hv hb
    generalize lbK idE id l = i at hdel hil
    (repeat' ((fail_if_success (show VH _ _ (.seq (.region 7 _ _) _) _ _ _ _)); first | (show SH _ _ _ _ _ (_ :: _) _ _ _; first | refine ala rfl (fun b => ?_) | (show SH _ _ _ _ _ (⟨_, .store _ _ _, _, _, _, _⟩ :: _) _ _ _; refine sta rfl rfl rfl spL (by rfl) (by rfl) (by rfl) kpL ?_)) | refine s_nil ?_ | refine kh_normal ?_))
    rename_i b2 b4
    revert b
    intro b8
    (repeat' (first | (show VH _ _ _ _ _ _ _; first | refine v_seq ?_ | refine r_seq ?_) | (show SH _ _ _ _ _ (_ :: _) _ _ _; first | (show SH _ _ _ _ _ (⟨_, .move _, _, _, _, _⟩ :: _) _ _ _; refine mov evL ?_) | (show SH _ _ _ _ _ (⟨_, .binOp .add _ _ _ _, _, _, _, _⟩ :: _) _ _ _; refine add rfl rfl inL ?_) | (show SH _ _ _ _ _ (⟨_, .load _ _, _, _, _, _⟩ :: _) _ _ _; refine lbx rfl spL (by rfl) ?_) | refine fad rfl ?_)))
    refine cm rfl (fun w hw => deleteE_spec A2 L c2 i _ [allH (L.map rowOf), bx b8 25 [.int .i64 t, .slice A2 L.length c2], bx b4 25 [.int .i64 0, .slice none 0 0]] w hil (by omega) (Ent.wd enL hw)) rfl rfl ?_
    rintro _ _ ⟨rfl, rfl⟩
    refine ⟨trivial, ?_⟩
    (repeat' (first | (show VH _ _ _ _ _ _ _; first | refine v_seq ?_ | refine r_seq ?_ | refine v_ret ?_) | (show SH _ _ _ _ _ (_ :: _) _ _ _; first | (show SH _ _ _ _ _ (⟨_, .assign _, _, _, _, _⟩ :: _) _ _ _; refine asg evL ?_) | (show SH _ _ _ _ _ (⟨_, .load _ _, _, _, _, _⟩ :: _) _ _ _; refine lba rfl spL (by rfl) ?_) | refine fad rfl ?_ | (show SH _ _ _ _ _ (⟨_, .store _ _ _, _, _, _, _⟩ :: _) _ _ _; first | refine stb rfl rfl evL spL rfl rfl (by first | decide | exact Nat.zero_lt_succ _ | exact of_decide_eq_true rfl) kpL ?_ | refine sta rfl rfl rfl spL (by rfl) (by rfl) (by rfl) kpL ?_)) | refine s_nil ?_ | refine kh_normal ?_))
    refine rhC2 rfl rfl rfl rfl (fun w hw => loadVar_bx hw spL (by rfl)) ⟨A2, c2, L.eraseIdx i, rfl, hdel, rfl⟩ ?_
    exact Ent.trans (B := [allH (L.map rowOf), orow 32 A2 c2 (L.eraseIdx i)]) enL ((ent_all_open (d := Flat.dflt) (f := rowOf) hil).trans enL)

set_option maxHeartbeats 4000000 in
set_option maxRecDepth 100000 in
theorem add_spec (t : Int) (x : EntP) (A : Option Addr) (l : List EntP) (c1 : Nat) (w : World) (hG : Glob w) (hs : Sz l) (hl : l.length ≤ 1000000) (hse : ∀ x ∈ l, x.e.comps.length ≤ 100000) (hr : RdW w A l) (hxl : x.e.comps.length ≤ 100000) (hxr : Rd w x.A x.e.comps) :
    Ret Tryd.prog 13 [wv t A l c1, .agg (Flat.enc x).toArray].toArray w (RP w (ChgR t (addL x.e (ents l)) (addErr t x.e (ents l)))) := by
  have hV := fun w' (he : Ext w w') => valid_spec t A l c1 w' (hG.ext he) hs (hr.ext he)
  have hF := fun w' (he : Ext w w') => find_spec t x.e.id A l c1 w' (hG.ext he) hs (hr.ext he)
  have hR := fun w' (he : Ext w w') => right_spec x w' (hG.ext he) (by omega) (hxr.ext he)
  have hO := fun w' (he : Ext w w') => own_spec x w' (by omega) (hxr.ext he)
  have hC := fun w' (he : Ext w w') => copied_spec t A l c1 w' hl (fun x hx => by have := hse x hx; omega) (hr.ext he)
  unfold WorldR at hC
  unfold OwnR at hO
  unfold ChgR
  unfold wv at hV hF hC ⊢
  obtain ⟨⟨ei, cs⟩, Ax, cx⟩ := x
  try simp only at hF hR hO hxl hxr ⊢
  rw [show Flat.enc (⟨⟨ei, cs⟩, Ax, cx⟩ : EntP) = [.int .i64 ei, .slice Ax cs.length cx] from rfl] at hR hO ⊢
  by_cases hv : ValidW t (ents l)
  case neg =>
    rw [decide_eq_false hv] at hV
    rw [show addErr t ⟨ei, cs⟩ (ents l) = 2 from if_neg (fun h => hv h.1)]
    simp only [show ((2 : Int) = 0) = False from by simp, if_false]
    clear hv
    refine enterH Tryd.func13 rfl rfl Tryd.ntmps13 rfl (Wd.refl _) ?_
    (repeat' (first | (show VH _ _ _ _ _ _ _; first | refine v_seq ?_ | refine r_seq ?_ | refine v_ret ?_ | refine v_cond_t rfl tbL ?_) | (show SH _ _ _ _ _ (_ :: _) _ _ _; first | (show SH _ _ _ _ _ (⟨_, _, _, _, _, some _⟩ :: _) _ _ _; (refine gif rfl rfl ?_; refine giFT tbL ?_)) | (show SH _ _ _ _ _ (⟨_, .move _, _, _, _, _⟩ :: _) _ _ _; refine mov evL ?_) | (show SH _ _ _ _ _ (⟨_, .assign _, _, _, _, _⟩ :: _) _ _ _; refine asg evL ?_) | (show SH _ _ _ _ _ (⟨_, .load _ _, _, _, _, _⟩ :: _) _ _ _; refine lba rfl spL (by rfl) ?_) | (show SH _ _ _ _ _ (⟨_, .call ⟨.value (.func 15), _, _⟩, _, _, _, _⟩ :: _) _ _ _; refine cl (callee := .func 15) rfl (fun w hw => hV _ hw.ext) rfl rfl ?_) | refine bnoF rfl ?_ | (show SH _ _ _ _ _ (⟨_, .pick _ _ _, _, _, _, _⟩ :: _) _ _ _; refine pkt rfl tbL evL ?_) | refine bld rfl rfl ?_ | refine ala rfl (fun b => ?_) | (show SH _ _ _ _ _ (⟨_, .box _ _, _, _, _, _⟩ :: _) _ _ _; refine bxx rfl evL rfl (fun b => ?_)) | (show SH _ _ _ _ _ (⟨_, .store _ _ _, _, _, _, _⟩ :: _) _ _ _; refine sta rfl rfl rfl spL (by rfl) (by rfl) (by rfl) kpL ?_)) | refine s_nil ?_ | refine kh_normal ?_ | refine kh_ret ?_))
    exact rhC2 rfl rfl rfl rfl (fun w hw => loadVar_bx hw spL (by rfl)) ⟨none, 0, [], rfl, rfl, rfl⟩ (ent_nilrow (ent_all_nil (ent_nil _)))
  rw [decide_eq_true hv] at hV
  by_cases hf : RightE ⟨ei, cs⟩
  case neg =>
    rw [decide_eq_false hf] at hR
    rw [show addErr t ⟨ei, cs⟩ (ents l) = 2 from if_neg (fun h => hf h.2)]
    simp only [show ((2 : Int) = 0) = False from by simp, if_false]
    clear hv hf
    refine enterH Tryd.func13 rfl rfl Tryd.ntmps13 rfl (Wd.refl _) ?_
    (repeat' (first | (show VH _ _ _ _ _ _ _; first | refine v_seq ?_ | refine r_seq ?_ | refine v_ret ?_ | refine v_cond_t rfl tbL ?_) | (show SH _ _ _ _ _ (_ :: _) _ _ _; first | (show SH _ _ _ _ _ (⟨_, _, _, _, _, some _⟩ :: _) _ _ _; (refine gif rfl rfl ?_; refine giFF tbL ?_)) | (show SH _ _ _ _ _ (⟨_, .move _, _, _, _, _⟩ :: _) _ _ _; refine mov evL ?_) | (show SH _ _ _ _ _ (⟨_, .assign _, _, _, _, _⟩ :: _) _ _ _; refine asg evL ?_) | (show SH _ _ _ _ _ (⟨_, .load _ _, _, _, _, _⟩ :: _) _ _ _; refine lba rfl spL (by rfl) ?_) | (show SH _ _ _ _ _ (⟨_, .call ⟨.value (.func 15), _, _⟩, _, _, _, _⟩ :: _) _ _ _; refine cl (callee := .func 15) rfl (fun w hw => hV _ hw.ext) rfl rfl ?_) | (show SH _ _ _ _ _ (⟨_, .call ⟨.value (.func 26), _, _⟩, _, _, _, _⟩ :: _) _ _ _; refine cl (callee := .func 26) rfl (fun w hw => hR _ hw.ext) rfl rfl ?_) | (show SH _ _ _ _ _ (⟨_, .unOp .not _ _, _, _, _, _⟩ :: _) _ _ _; first | refine bnoT rfl ?_ | refine bnoF rfl ?_) | (show SH _ _ _ _ _ (⟨_, .pick _ _ _, _, _, _, _⟩ :: _) _ _ _; refine pkf rfl tbL evL ?_) | refine bld rfl rfl ?_ | refine ala rfl (fun b => ?_) | (show SH _ _ _ _ _ (⟨_, .box _ _, _, _, _, _⟩ :: _) _ _ _; refine bxx rfl evL rfl (fun b => ?_)) | (show SH _ _ _ _ _ (⟨_, .store _ _ _, _, _, _, _⟩ :: _) _ _ _; refine sta rfl rfl rfl spL (by rfl) (by rfl) (by rfl) kpL ?_)) | refine s_nil ?_ | refine kh_normal ?_ | refine kh_ret ?_))
    exact rhC2 rfl rfl rfl rfl (fun w hw => loadVar_bx hw spL (by rfl)) ⟨none, 0, [], rfl, rfl, rfl⟩ (ent_nilrow (ent_all_nil (ent_nil _)))
  rw [decide_eq_true hf] at hR
  cases hb : findB t ei l with
  | true =>
    rw [hb] at hF
    unfold findB at hb
    rw [decide_eq_true hv, Bool.true_and] at hb
    have hN : (thg ei (ents l)).isSome = true := by rw [thg_find ((rising_ents l).1 hv.up), if_pos hb]; rfl
    generalize findI t ei l = i at hF
    rw [show addErr t ⟨ei, cs⟩ (ents l) = 2 by unfold addErr; rw [if_pos ⟨hv, hf⟩, hN]; rfl]
    simp only [show ((2 : Int) = 0) = False from by simp, if_false]
    clear hv hf hN
    refine enterH Tryd.func13 rfl rfl Tryd.ntmps13 rfl (Wd.refl _) ?_
    (repeat' (first | (show VH _ _ _ _ _ _ _; first | refine v_seq ?_ | refine r_seq ?_ | refine v_block ?_ | refine v_ret ?_ | refine v_skip ?_ | refine v_cond_t rfl tbL ?_ | refine v_cond_f rfl tbL ?_) | (show SH _ _ _ _ _ (_ :: _) _ _ _; first | (show SH _ _ _ _ _ (⟨_, _, _, _, _, some _⟩ :: _) _ _ _; (refine gif rfl rfl ?_; refine giFF tbL ?_)) | (show SH _ _ _ _ _ (⟨_, .move _, _, _, _, _⟩ :: _) _ _ _; refine mov evL ?_) | (show SH _ _ _ _ _ (⟨_, .assign _, _, _, _, _⟩ :: _) _ _ _; refine asg evL ?_) | (show SH _ _ _ _ _ (⟨_, .load _ _, _, _, _, _⟩ :: _) _ _ _; first | refine lbx rfl spL (by rfl) ?_ | refine lba rfl spL (by rfl) ?_) | (show SH _ _ _ _ _ (⟨_, .call ⟨.value (.func 15), _, _⟩, _, _, _, _⟩ :: _) _ _ _; refine cl (callee := .func 15) rfl (fun w hw => hV _ hw.ext) rfl rfl ?_) | (show SH _ _ _ _ _ (⟨_, .call ⟨.value (.func 26), _, _⟩, _, _, _, _⟩ :: _) _ _ _; refine cl (callee := .func 26) rfl (fun w hw => hR _ hw.ext) rfl rfl ?_) | (show SH _ _ _ _ _ (⟨_, .call ⟨.value (.func 44), _, _⟩, _, _, _, _⟩ :: _) _ _ _; refine cl (callee := .func 44) rfl (fun w hw => hF _ hw.ext) rfl rfl ?_) | refine bnoT rfl ?_ | (show SH _ _ _ _ _ (⟨_, .pick _ _ _, _, _, _, _⟩ :: _) _ _ _; refine pkf rfl tbL evL ?_) | refine extr rfl rfl ?_ | refine fad rfl ?_ | refine bld rfl rfl ?_ | refine ala rfl (fun b => ?_) | (show SH _ _ _ _ _ (⟨_, .box _ _, _, _, _, _⟩ :: _) _ _ _; refine bxx rfl evL rfl (fun b => ?_)) | (show SH _ _ _ _ _ (⟨_, .store _ _ _, _, _, _, _⟩ :: _) _ _ _; refine sta rfl rfl rfl spL (by rfl) (by rfl) (by rfl) kpL ?_)) | refine s_nil ?_ | refine kh_normal ?_ | refine kh_ret ?_ | refine bh_ret ?_))
    exact rhC2 rfl rfl rfl rfl (fun w hw => loadVar_bx hw spL (by rfl)) ⟨none, 0, [], rfl, rfl, rfl⟩ (ent_nilrow (ent_all_nil (ent_nil _)))
  | false =>
    rw [hb] at hF
    unfold findB at hb
    rw [decide_eq_true hv, Bool.true_and] at hb
    have hN : thg ei (ents l) = none := by rw [thg_find ((rising_ents l).1 hv.up), if_neg (by rw [hb]; simp)]
    have hle := ents_len l
    by_cases h64 : 64 ≤ l.length
    · generalize findI t ei l = i at hF
      rw [show addErr t ⟨ei, cs⟩ (ents l) = 4 by unfold addErr; rw [if_pos ⟨hv, hf⟩, hN, if_neg (by simp), if_pos (by omega)]]
      simp only [show ((4 : Int) = 0) = False from by simp, if_false]
      clear hv hf hN
      refine enterH Tryd.func13 rfl rfl Tryd.ntmps13 rfl (Wd.refl _) ?_
      (repeat' (first | (show VH _ _ _ _ _ _ _; first | refine v_seq ?_ | refine r_seq ?_ | refine v_block ?_ | refine v_ret ?_ | refine v_skip ?_ | refine v_cond_t rfl tbL ?_ | refine v_cond_f rfl tbL ?_) | (show SH _ _ _ _ _ (_ :: _) _ _ _; first | (show SH _ _ _ _ _ (⟨_, _, _, _, _, some _⟩ :: _) _ _ _; (refine gif rfl rfl ?_; refine giFF tbL ?_)) | (show SH _ _ _ _ _ (⟨_, .move _, _, _, _, _⟩ :: _) _ _ _; refine mov evL ?_) | (show SH _ _ _ _ _ (⟨_, .assign _, _, _, _, _⟩ :: _) _ _ _; refine asg evL ?_) | (show SH _ _ _ _ _ (⟨_, .binOp .geq _ _ _ _, _, _, _, _⟩ :: _) _ _ _; refine geqT rfl rfl omD ?_) | (show SH _ _ _ _ _ (⟨_, .load _ _, _, _, _, _⟩ :: _) _ _ _; first | refine lbx rfl spL (by rfl) ?_ | refine lba rfl spL (by rfl) ?_) | refine slen rfl ?_ | (show SH _ _ _ _ _ (⟨_, .call ⟨.value (.func 15), _, _⟩, _, _, _, _⟩ :: _) _ _ _; refine cl (callee := .func 15) rfl (fun w hw => hV _ hw.ext) rfl rfl ?_) | (show SH _ _ _ _ _ (⟨_, .call ⟨.value (.func 26), _, _⟩, _, _, _, _⟩ :: _) _ _ _; refine cl (callee := .func 26) rfl (fun w hw => hR _ hw.ext) rfl rfl ?_) | (show SH _ _ _ _ _ (⟨_, .call ⟨.value (.func 44), _, _⟩, _, _, _, _⟩ :: _) _ _ _; refine cl (callee := .func 44) rfl (fun w hw => hF _ hw.ext) rfl rfl ?_) | refine bnoT rfl ?_ | (show SH _ _ _ _ _ (⟨_, .pick _ _ _, _, _, _, _⟩ :: _) _ _ _; refine pkf rfl tbL evL ?_) | refine extr rfl rfl ?_ | refine fad rfl ?_ | refine bld rfl rfl ?_ | refine ala rfl (fun b => ?_) | (show SH _ _ _ _ _ (⟨_, .box _ _, _, _, _, _⟩ :: _) _ _ _; refine bxx rfl evL rfl (fun b => ?_)) | (show SH _ _ _ _ _ (⟨_, .store _ _ _, _, _, _, _⟩ :: _) _ _ _; refine sta rfl rfl rfl spL (by rfl) (by rfl) (by rfl) kpL ?_)) | refine s_nil ?_ | refine kh_normal ?_ | refine kh_ret ?_ | refine bh_ret ?_))
      exact rhC2 rfl rfl rfl rfl (fun w hw => loadVar_bx hw spL (by rfl)) ⟨none, 0, [], rfl, rfl, rfl⟩ (ent_nilrow (ent_all_nil (ent_nil _)))
    · unfold findI at hF
      rw [if_pos hv] at hF
      rw [show addErr t ⟨ei, cs⟩ (ents l) = 0 by unfold addErr; rw [if_pos ⟨hv, hf⟩, hN, if_neg (by simp), if_neg (by omega)]]
      simp only [if_true]
      clear hN hf hle
      refine enterH Tryd.func13 rfl rfl Tryd.ntmps13 rfl (Wd.refl _) ?_
      (repeat' (first | (show VH _ _ _ _ _ _ _; first | refine v_seq ?_ | refine r_seq ?_ | refine v_block ?_ | refine v_skip ?_ | refine v_cond_f rfl tbL ?_) | (show SH _ _ _ _ _ (_ :: _) _ _ _; first | (show SH _ _ _ _ _ (⟨_, _, _, _, _, some _⟩ :: _) _ _ _; (refine gif rfl rfl ?_; refine giFF tbL ?_)) | (show SH _ _ _ _ _ (⟨_, .move _, _, _, _, _⟩ :: _) _ _ _; refine mov evL ?_) | (show SH _ _ _ _ _ (⟨_, .assign _, _, _, _, _⟩ :: _) _ _ _; refine asg evL ?_) | (show SH _ _ _ _ _ (⟨_, .binOp .geq _ _ _ _, _, _, _, _⟩ :: _) _ _ _; refine geqF rfl rfl omD ?_) | (show SH _ _ _ _ _ (⟨_, .load _ _, _, _, _, _⟩ :: _) _ _ _; first | refine lbx rfl spL (by rfl) ?_ | refine lba rfl spL (by rfl) ?_) | refine slen rfl ?_ | (show SH _ _ _ _ _ (⟨_, .call ⟨.value (.func 15), _, _⟩, _, _, _, _⟩ :: _) _ _ _; refine cl (callee := .func 15) rfl (fun w hw => hV _ hw.ext) rfl rfl ?_) | (show SH _ _ _ _ _ (⟨_, .call ⟨.value (.func 26), _, _⟩, _, _, _, _⟩ :: _) _ _ _; refine cl (callee := .func 26) rfl (fun w hw => hR _ hw.ext) rfl rfl ?_) | (show SH _ _ _ _ _ (⟨_, .call ⟨.value (.func 44), _, _⟩, _, _, _, _⟩ :: _) _ _ _; refine cl (callee := .func 44) rfl (fun w hw => hF _ hw.ext) rfl rfl ?_) | (show SH _ _ _ _ _ (⟨_, .call ⟨.value (.func 46), _, _⟩, _, _, _, _⟩ :: _) _ _ _; refine cp (callee := .func 46) rfl (fun w hw => hC _ hw.ext) rfl rfl ?_) | refine bnoT rfl ?_ | (show SH _ _ _ _ _ (⟨_, .pick _ _ _, _, _, _, _⟩ :: _) _ _ _; refine pkf rfl tbL evL ?_) | refine extr rfl rfl ?_ | refine fad rfl ?_ | refine ala rfl (fun b => ?_) | (show SH _ _ _ _ _ (⟨_, .box _ _, _, _, _, _⟩ :: _) _ _ _; refine bxx rfl evL rfl (fun b => ?_))) | refine s_nil ?_ | refine kh_normal ?_ | refine bh_normal ?_))
      rintro _ _ ⟨A2, c2, L, rfl, hL, rfl⟩
      clear hV hF hC hR
      have hnew := fun y => new_ents (y := (⟨⟨ei, cs⟩, (y : Option Addr × Nat).1, y.2⟩ : EntP)) hL hv.up hb
      simp only at hnew
      have hLl : L.length = l.length := by
        have := congrArg List.length hL
        rwa [List.length_map, ents_len] at this
      have hil : lbK idE ei l ≤ L.length := by have := lb_le (key := idE) ei l; omega
      clear hv hb
      generalize lbK idE ei l = i at hnew hil ⊢
      (repeat' ((fail_if_success (show VH _ _ (.seq (.region 9 _ _) _) _ _ _ _)); first | (show SH _ _ _ _ _ (_ :: _) _ _ _; first | refine ala rfl (fun b => ?_) | (show SH _ _ _ _ _ (⟨_, .store _ _ _, _, _, _, _⟩ :: _) _ _ _; refine sta rfl rfl rfl spL (by rfl) (by rfl) (by rfl) kpL ?_)) | refine s_nil ?_ | refine kh_normal ?_))
      rename_i b2 b3 b4
      revert b
      intro b8
      refine v_seq ?_
      refine r_heldT [bx b3 32 [.int .i64 ei, .slice Ax cs.length cx]] (tr [(0, true), (2, true), (3, true)] (.fork 1 (tr [(4, false), (5, false), (6, false), (7, false), (8, false)] .nil) 4 (tr [] (.fork 1 (tr [(5, false), (6, false), (7, false), (8, false)] .nil) 5 (tr [(1, false), (6, false), (7, false), (8, false)] .nil))))) hmix (by kernel_rfl) enL ?_
      (repeat' (first | (show SH _ _ _ _ _ (_ :: _) _ _ _; first | (show SH _ _ _ _ _ (⟨_, .move _, _, _, _, _⟩ :: _) _ _ _; refine mov evL ?_) | (show SH _ _ _ _ _ (⟨_, .load _ _, _, _, _, _⟩ :: _) _ _ _; first | refine lbx rfl spL (by rfl) ?_ | refine lba rfl spL (by rfl) ?_) | (show SH _ _ _ _ _ (⟨_, .call ⟨.value (.func 45), _, _⟩, _, _, _, _⟩ :: _) _ _ _; refine cp (callee := .func 45) rfl (fun w hw => hO _ hw.ext) rfl rfl ?_) | refine fad rfl ?_) | refine s_fork ?_ ?_))
      all_goals
        rintro _ _ ⟨A8, c8, rfl, rfl⟩
        (repeat' (first | (show SH _ _ _ _ _ (_ :: _) _ _ _; (show SH _ _ _ _ _ (⟨_, .load _ _, _, _, _, _⟩ :: _) _ _ _; refine lbx rfl spL (by rfl) ?_)) | refine s_fork ?_ ?_))
      all_goals
        refine bsl (l := [(⟨⟨ei, cs⟩, A8, c8⟩ : EntP)]) rfl rfl (Vals.cons rfl Vals.nil) rfl rfl (by decide) (fun b9 => ?_)
        (repeat' ((show SH _ _ _ _ _ (_ :: _) _ _ _; (show SH _ _ _ _ _ (⟨_, .load _ _, _, _, _, _⟩ :: _) _ _ _; refine lbx rfl spL (by rfl) ?_))))
      all_goals
        refine cm rfl (fun w hw => insertE_spec A2 L c2 i b9 (⟨⟨ei, cs⟩, A8, c8⟩ : EntP) _ [orow 42 A8 c8 cs, allH (L.map rowOf), bx b8 25 [.int .i64 t, .slice A2 L.length c2], bx b4 25 [.int .i64 0, .slice none 0 0], bx b3 32 [.int .i64 ei, .slice Ax cs.length cx]] w hil (by omega) (Ent.wd enL hw)) rfl rfl ?_
        rintro _ _ ⟨A5, c5, rfl, rfl⟩
        refine ⟨enL, ?_⟩
        (repeat' (first | (show VH _ _ _ _ _ _ _; first | refine v_seq ?_ | refine r_seq ?_ | refine v_ret ?_) | (show SH _ _ _ _ _ (_ :: _) _ _ _; first | (show SH _ _ _ _ _ (⟨_, .assign _, _, _, _, _⟩ :: _) _ _ _; refine asg evL ?_) | (show SH _ _ _ _ _ (⟨_, .load _ _, _, _, _, _⟩ :: _) _ _ _; refine lba rfl spL (by rfl) ?_) | refine fad rfl ?_ | (show SH _ _ _ _ _ (⟨_, .store _ _ _, _, _, _, _⟩ :: _) _ _ _; first | refine stb rfl rfl evL spL rfl rfl (by first | decide | exact Nat.zero_lt_succ _ | exact of_decide_eq_true rfl) kpL ?_ | refine sta rfl rfl rfl spL (by rfl) (by rfl) (by rfl) kpL ?_)) | refine s_nil ?_ | refine kh_normal ?_))
        refine rhC2 rfl rfl rfl rfl (fun w hw => loadVar_bx hw spL (by rfl)) ⟨A5, c5, L.take i ++ (⟨⟨ei, cs⟩, A8, c8⟩ : EntP) :: L.drop i, rfl, hnew (A8, c8), rfl⟩ ?_
        exact Ent.trans (B := [rowOf (⟨⟨ei, cs⟩, A8, c8⟩ : EntP), allH (L.map rowOf), orow 32 A5 c5 (L.take i ++ (⟨⟨ei, cs⟩, A8, c8⟩ : EntP) :: L.drop i)]) enL ((ent_all_ins (f := rowOf) L i).trans enL)

end Go.Proofs.YtfodpcpclmnbkaaDoor
