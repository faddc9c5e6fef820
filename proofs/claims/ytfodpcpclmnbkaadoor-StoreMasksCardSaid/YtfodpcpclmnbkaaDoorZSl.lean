/- Package store: Set. -/
import Derived.Test.YtfodpcpclmnbkaaDoorZTw
import Derived.Test.YtfodpcpclmnbkaaDoorZQb
import Derived.Test.YtfodpcpclmnbkaaDoorZSi
import Derived.Test.YtfodpcpclmnbkaaDoorZWz
set_option linter.unusedSimpArgs false
set_option linter.unusedVariables false
namespace Go.Proofs.YtfodpcpclmnbkaaDoor
open Go.Fw Go.RowKit
set_option maxHeartbeats 4000000 in
set_option maxRecDepth 100000 in
theorem set_spec (t id : Int) (c : Comp) (A : Option Addr) (l : List EntP) (c1 : Nat) (w : World) (hG : Glob w) (hs : Sz l) (hl : l.length ≤ 1000000) (hse : ∀ x ∈ l, x.e.comps.length ≤ 100000) (hr : RdW w A l) :
    Ret Tryd.prog 16 [wv t A l c1, .int .i64 id, .agg (Flat.enc c).toArray].toArray w (RP w (ChgR t (setL id c (ents l)) (setErr t id c (ents l)))) := by
  have hV := fun w' (he : Ext w w') => valid_spec t A l c1 w' (hG.ext he) hs (hr.ext he)
  have hF := fun w' (he : Ext w w') => find_spec t id A l c1 w' (hG.ext he) hs (hr.ext he)
  have hT := fun w' (he : Ext w w') => fits_spec c w' (hG.ext he)
  have hC := fun w' (he : Ext w w') => copied_spec t A l c1 w' hl (fun x hx => by have := hse x hx; omega) (hr.ext he)
  unfold WorldR at hC
  unfold ChgR
  unfold wv at hV hF hC ⊢
  obtain ⟨ck, ca, cb, cc, cd⟩ := c
  rw [show Flat.enc (⟨ck, ca, cb, cc, cd⟩ : Comp) = [.int .u8 ck, .int .i64 ca, .int .i64 cb, .int .i64 cc, .int .i64 cd] from rfl] at hT ⊢
  by_cases hv : ValidW t (ents l)
  case neg =>
    rw [show setErr t id ⟨ck, ca, cb, cc, cd⟩ (ents l) = 2 from if_neg (fun h => hv h.1)]
    simp only [show ((2 : Int) = 0) = False from by simp, if_false]
    rw [decide_eq_false hv] at hV
    clear hv
    refine enterH Tryd.func16 rfl rfl Tryd.ntmps16 rfl (Wd.refl _) ?_
    (repeat' (first | (show VH _ _ _ _ _ _ _; first | refine v_seq ?_ | refine r_seq ?_ | refine v_ret ?_ | refine v_cond_t rfl tbL ?_) | (show SH _ _ _ _ _ (_ :: _) _ _ _; first | (show SH _ _ _ _ _ (⟨_, _, _, _, _, some _⟩ :: _) _ _ _; (refine gif rfl rfl ?_; refine giFT tbL ?_)) | (show SH _ _ _ _ _ (⟨_, .move _, _, _, _, _⟩ :: _) _ _ _; refine mov evL ?_) | (show SH _ _ _ _ _ (⟨_, .assign _, _, _, _, _⟩ :: _) _ _ _; refine asg evL ?_) | (show SH _ _ _ _ _ (⟨_, .load _ _, _, _, _, _⟩ :: _) _ _ _; refine lba rfl spL (by rfl) ?_) | (show SH _ _ _ _ _ (⟨_, .call ⟨.value (.func 15), _, _⟩, _, _, _, _⟩ :: _) _ _ _; refine cl (callee := .func 15) rfl (fun w hw => hV _ hw.ext) rfl rfl ?_) | refine bnoF rfl ?_ | (show SH _ _ _ _ _ (⟨_, .pick _ _ _, _, _, _, _⟩ :: _) _ _ _; refine pkt rfl tbL evL ?_) | refine bld rfl rfl ?_ | refine ala rfl (fun b => ?_) | (show SH _ _ _ _ _ (⟨_, .box _ _, _, _, _, _⟩ :: _) _ _ _; refine bxx rfl evL rfl (fun b => ?_)) | (show SH _ _ _ _ _ (⟨_, .store _ _ _, _, _, _, _⟩ :: _) _ _ _; refine sta rfl rfl rfl spL (by rfl) (by rfl) (by rfl) kpL ?_)) | refine s_nil ?_ | refine kh_normal ?_ | refine kh_ret ?_))
    exact rhC2 rfl rfl rfl rfl (fun w hw => loadVar_bx hw spL (by rfl)) ⟨none, 0, [], rfl, rfl, rfl⟩ (ent_nilrow (ent_all_nil (ent_nil _)))
  by_cases hf : Fits ⟨ck, ca, cb, cc, cd⟩
  case neg =>
    rw [show setErr t id ⟨ck, ca, cb, cc, cd⟩ (ents l) = 2 from if_neg (fun h => hf h.2)]
    simp only [show ((2 : Int) = 0) = False from by simp, if_false]
    rw [decide_eq_true hv] at hV
    rw [decide_eq_false hf] at hT
    clear hv
    refine enterH Tryd.func16 rfl rfl Tryd.ntmps16 rfl (Wd.refl _) ?_
    (repeat' (first | (show VH _ _ _ _ _ _ _; first | refine v_seq ?_ | refine r_seq ?_ | refine v_ret ?_ | refine v_cond_t rfl tbL ?_) | (show SH _ _ _ _ _ (_ :: _) _ _ _; first | (show SH _ _ _ _ _ (⟨_, _, _, _, _, some _⟩ :: _) _ _ _; (refine gif rfl rfl ?_; refine giFF tbL ?_)) | (show SH _ _ _ _ _ (⟨_, .move _, _, _, _, _⟩ :: _) _ _ _; refine mov evL ?_) | (show SH _ _ _ _ _ (⟨_, .assign _, _, _, _, _⟩ :: _) _ _ _; refine asg evL ?_) | (show SH _ _ _ _ _ (⟨_, .load _ _, _, _, _, _⟩ :: _) _ _ _; refine lba rfl spL (by rfl) ?_) | (show SH _ _ _ _ _ (⟨_, .call ⟨.value (.func 15), _, _⟩, _, _, _, _⟩ :: _) _ _ _; refine cl (callee := .func 15) rfl (fun w hw => hV _ hw.ext) rfl rfl ?_) | (show SH _ _ _ _ _ (⟨_, .call ⟨.value (.func 17), _, _⟩, _, _, _, _⟩ :: _) _ _ _; refine cl (callee := .func 17) rfl (fun w hw => hT _ hw.ext) rfl rfl ?_) | (show SH _ _ _ _ _ (⟨_, .unOp .not _ _, _, _, _, _⟩ :: _) _ _ _; first | refine bnoT rfl ?_ | refine bnoF rfl ?_) | (show SH _ _ _ _ _ (⟨_, .pick _ _ _, _, _, _, _⟩ :: _) _ _ _; refine pkf rfl tbL evL ?_) | refine bld rfl rfl ?_ | refine ala rfl (fun b => ?_) | (show SH _ _ _ _ _ (⟨_, .box _ _, _, _, _, _⟩ :: _) _ _ _; refine bxx rfl evL rfl (fun b => ?_)) | (show SH _ _ _ _ _ (⟨_, .store _ _ _, _, _, _, _⟩ :: _) _ _ _; refine sta rfl rfl rfl spL (by rfl) (by rfl) (by rfl) kpL ?_)) | refine s_nil ?_ | refine kh_normal ?_ | refine kh_ret ?_))
    exact rhC2 rfl rfl rfl rfl (fun w hw => loadVar_bx hw spL (by rfl)) ⟨none, 0, [], rfl, rfl, rfl⟩ (ent_nilrow (ent_all_nil (ent_nil _)))
  rw [decide_eq_true hv] at hV
  rw [decide_eq_true hf] at hT
  cases hb : findB t id l with
  | false =>
    rw [hb] at hF
    unfold findB at hb
    rw [decide_eq_true hv, Bool.true_and] at hb
    have hN : thg id (ents l) = none := by rw [thg_find ((rising_ents l).1 hv.up), if_neg (by rw [hb]; simp)]
    rw [show setErr t id ⟨ck, ca, cb, cc, cd⟩ (ents l) = 6 by unfold setErr; rw [if_pos ⟨hv, hf⟩, hN]; rfl]
    simp only [show ((6 : Int) = 0) = False from by simp, if_false]
    generalize findI t id l = i at hF
    clear hv hf hN
    refine enterH Tryd.func16 rfl rfl Tryd.ntmps16 rfl (Wd.refl _) ?_
    (repeat' (first | (show VH _ _ _ _ _ _ _; first | refine v_seq ?_ | refine r_seq ?_ | refine v_ret ?_ | refine v_skip ?_ | refine v_cond_t rfl tbL ?_ | refine v_cond_f rfl tbL ?_) | (show SH _ _ _ _ _ (_ :: _) _ _ _; first | (show SH _ _ _ _ _ (⟨_, _, _, _, _, some _⟩ :: _) _ _ _; (refine gif rfl rfl ?_; refine giFF tbL ?_)) | (show SH _ _ _ _ _ (⟨_, .move _, _, _, _, _⟩ :: _) _ _ _; refine mov evL ?_) | (show SH _ _ _ _ _ (⟨_, .assign _, _, _, _, _⟩ :: _) _ _ _; refine asg evL ?_) | (show SH _ _ _ _ _ (⟨_, .load _ _, _, _, _, _⟩ :: _) _ _ _; refine lba rfl spL (by rfl) ?_) | (show SH _ _ _ _ _ (⟨_, .call ⟨.value (.func 15), _, _⟩, _, _, _, _⟩ :: _) _ _ _; refine cl (callee := .func 15) rfl (fun w hw => hV _ hw.ext) rfl rfl ?_) | (show SH _ _ _ _ _ (⟨_, .call ⟨.value (.func 17), _, _⟩, _, _, _, _⟩ :: _) _ _ _; refine cl (callee := .func 17) rfl (fun w hw => hT _ hw.ext) rfl rfl ?_) | (show SH _ _ _ _ _ (⟨_, .call ⟨.value (.func 44), _, _⟩, _, _, _, _⟩ :: _) _ _ _; refine cl (callee := .func 44) rfl (fun w hw => hF _ hw.ext) rfl rfl ?_) | (show SH _ _ _ _ _ (⟨_, .unOp .not _ _, _, _, _, _⟩ :: _) _ _ _; first | refine bnoT rfl ?_ | refine bnoF rfl ?_) | (show SH _ _ _ _ _ (⟨_, .pick _ _ _, _, _, _, _⟩ :: _) _ _ _; refine pkf rfl tbL evL ?_) | refine extr rfl rfl ?_ | refine bld rfl rfl ?_ | refine ala rfl (fun b => ?_) | (show SH _ _ _ _ _ (⟨_, .box _ _, _, _, _, _⟩ :: _) _ _ _; refine bxx rfl evL rfl (fun b => ?_)) | (show SH _ _ _ _ _ (⟨_, .store _ _ _, _, _, _, _⟩ :: _) _ _ _; refine sta rfl rfl rfl spL (by rfl) (by rfl) (by rfl) kpL ?_)) | refine s_nil ?_ | refine kh_normal ?_ | refine kh_ret ?_))
    exact rhC2 rfl rfl rfl rfl (fun w hw => loadVar_bx hw spL (by rfl)) ⟨none, 0, [], rfl, rfl, rfl⟩ (ent_nilrow (ent_all_nil (ent_nil _)))
  | true =>
    rw [hb] at hF
    unfold findB at hb
    rw [decide_eq_true hv, Bool.true_and] at hb
    unfold findI at hF
    rw [if_pos hv] at hF
    have hsome : (thg id (ents l)).isSome = true := by rw [thg_find ((rising_ents l).1 hv.up), if_pos hb]; rfl
    rw [show setErr t id ⟨ck, ca, cb, cc, cd⟩ (ents l) = 0 by unfold setErr; rw [if_pos ⟨hv, hf⟩, hsome]; rfl]
    simp only [if_true]
    clear hsome hf
    have hle : l.length = (ents l).length := by rw [ents_len]
    refine enterH Tryd.func16 rfl rfl Tryd.ntmps16 rfl (Wd.refl _) ?_
    (repeat' (first | (show VH _ _ _ _ _ _ _; first | refine v_seq ?_ | refine r_seq ?_ | refine v_skip ?_ | refine v_cond_f rfl tbL ?_) | (show SH _ _ _ _ _ (_ :: _) _ _ _; first | (show SH _ _ _ _ _ (⟨_, _, _, _, _, some _⟩ :: _) _ _ _; (refine gif rfl rfl ?_; refine giFF tbL ?_)) | (show SH _ _ _ _ _ (⟨_, .move _, _, _, _, _⟩ :: _) _ _ _; refine mov evL ?_) | (show SH _ _ _ _ _ (⟨_, .assign _, _, _, _, _⟩ :: _) _ _ _; refine asg evL ?_) | (show SH _ _ _ _ _ (⟨_, .load _ _, _, _, _, _⟩ :: _) _ _ _; refine lba rfl spL (by rfl) ?_) | (show SH _ _ _ _ _ (⟨_, .call ⟨.value (.func 15), _, _⟩, _, _, _, _⟩ :: _) _ _ _; refine cl (callee := .func 15) rfl (fun w hw => hV _ hw.ext) rfl rfl ?_) | (show SH _ _ _ _ _ (⟨_, .call ⟨.value (.func 17), _, _⟩, _, _, _, _⟩ :: _) _ _ _; refine cl (callee := .func 17) rfl (fun w hw => hT _ hw.ext) rfl rfl ?_) | (show SH _ _ _ _ _ (⟨_, .call ⟨.value (.func 44), _, _⟩, _, _, _, _⟩ :: _) _ _ _; refine cl (callee := .func 44) rfl (fun w hw => hF _ hw.ext) rfl rfl ?_) | (show SH _ _ _ _ _ (⟨_, .call ⟨.value (.func 46), _, _⟩, _, _, _, _⟩ :: _) _ _ _; refine cp (callee := .func 46) rfl (fun w hw => hC _ hw.ext) rfl rfl ?_) | refine bnoT rfl ?_ | (show SH _ _ _ _ _ (⟨_, .pick _ _ _, _, _, _, _⟩ :: _) _ _ _; refine pkf rfl tbL evL ?_) | refine extr rfl rfl ?_ | refine ala rfl (fun b => ?_) | (show SH _ _ _ _ _ (⟨_, .box _ _, _, _, _, _⟩ :: _) _ _ _; refine bxx rfl evL rfl (fun b => ?_))) | refine s_nil ?_ | refine kh_normal ?_))
    rintro _ _ ⟨A2, c2, L, rfl, hL, rfl⟩
    clear hV hF hT hC
    have hset := fun y hy => set_ents (y := y) hL hv.up hb hy
    obtain ⟨hil, hid, hthg⟩ := thg_l hL hv.up hb
    have hLl : L.length = l.length := by
      have := congrArg List.length hL
      rwa [List.length_map, ents_len] at this
    have hxm : (L.getD (lbK idE id l) Flat.dflt).e ∈ ents l := by rw [← hL]; exact List.mem_map_of_mem (getD_mem hil)
    have hxr := hv.right _ hxm
    have hxl : (L.getD (lbK idE id l) Flat.dflt).e.comps.length ≤ 100000 := by
      obtain ⟨x, hx, he⟩ := List.mem_map.1 hxm
      rw [← he]; exact hse x hx
    generalize lbK idE id l = i at hset hil hid hthg hxm hxr hxl ⊢
    obtain ⟨x, hx⟩ : ∃ x, L.getD i Flat.dflt = x := ⟨_, rfl⟩
    have hxE : Flat.enc (L.getD i Flat.dflt) = Flat.enc x := by rw [hx]
    rw [hx] at hid hthg hxr hxl
    have hsl : setL id ⟨ck, ca, cb, cc, cd⟩ (ents l) = insK Ent1.id (setE ⟨ck, ca, cb, cc, cd⟩ x.e) (ents l) := by
      unfold setL; rw [hthg]
    rw [hsl]
    clear hthg hxm hsl hv hb
    obtain ⟨⟨ei, cs⟩, Ax, cx⟩ := x
    simp only at hid hxr hxl hset
    rw [show Flat.enc (⟨⟨ei, cs⟩, Ax, cx⟩ : EntP) = [.int .i64 ei, .slice Ax cs.length cx] from rfl] at hxE
    (repeat' ((fail_if_success (show VH _ _ (.seq (.region 8 _ _) _) _ _ _ _)); first | (show VH _ _ _ _ _ _ _; first | refine v_seq ?_ | refine r_seq ?_) | (show SH _ _ _ _ _ (_ :: _) _ _ _; first | (show SH _ _ _ _ _ (⟨_, .move _, _, _, _, _⟩ :: _) _ _ _; refine mov evL ?_) | (show SH _ _ _ _ _ (⟨_, .assign _, _, _, _, _⟩ :: _) _ _ _; refine asg evL ?_) | (show SH _ _ _ _ _ (⟨_, .load _ _, _, _, _, _⟩ :: _) _ _ _; refine lbx rfl spL (by rfl) ?_) | (show SH _ _ _ _ _ (⟨_, .indexAddr _ _ _, _, _, _, _⟩ :: _) _ _ _; refine ix rfl rfl (by with_reducible rfl) (fun _ _ => rdY) (by rfl) omL omL ?_) | refine fad rfl ?_ | refine ala rfl (fun b => ?_) | (show SH _ _ _ _ _ (⟨_, .store _ _ _, _, _, _, _⟩ :: _) _ _ _; refine sta rfl rfl rfl spL (by rfl) (by rfl) (by rfl) kpL ?_)) | refine s_nil ?_ | refine kh_normal ?_))
    rename_i b3 b5 b6
    revert b
    intro b10
    refine VH.ent (G := [orow 42 Ax cx cs, allH ((L.eraseIdx i).map rowOf), bx b10 25 [.int .i64 t, .slice A2 L.length c2], orow 32 A2 c2 L, bx b6 25 [.int .i64 0, .slice none 0 0], bx b5 42 [.int .u8 ck, .int .i64 ca, .int .i64 cb, .int .i64 cc, .int .i64 cd]]) ?_ (Ent.trans (B := [allH (L.map rowOf), bx b10 25 [.int .i64 t, .slice A2 L.length c2], orow 32 A2 c2 L, bx b6 25 [.int .i64 0, .slice none 0 0], bx b5 42 [.int .u8 ck, .int .i64 ca, .int .i64 cb, .int .i64 cc, .int .i64 cd]]) enL (by
      have h := ent_all_open (d := Flat.dflt) (f := rowOf) (L := L) (k := i) (G := [bx b10 25 [.int .i64 t, .slice A2 L.length c2], orow 32 A2 c2 L, bx b6 25 [.int .i64 0, .slice none 0 0], bx b5 42 [.int .u8 ck, .int .i64 ca, .int .i64 cb, .int .i64 cc, .int .i64 cd]]) hil
      rw [hx] at h
      exact h))
    have hP := fun w hr' => placeC_spec Ax cs cx ck _ kindC w (by omega) hr' hxr.up (kindOf_key w cs)
    have hcsl : (insK kindC (⟨ck, ca, cb, cc, cd⟩ : Comp) cs).length ≤ cs.length + 1 := insK_len hxr.up
    cases hbk : hasK kindC ck cs with
    | true =>
      have hcs : cs.set (lbK kindC ck cs) ⟨ck, ca, cb, cc, cd⟩ = insK kindC ⟨ck, ca, cb, cc, cd⟩ cs := ins_set (c := (⟨ck, ca, cb, cc, cd⟩ : Comp)) hxr.up hbk
      obtain ⟨hkl, _⟩ := has_lt hbk
      rw [hbk] at hP
      clear hbk hxr hcsl
      generalize lbK kindC ck cs = k at hP hcs hkl
      (repeat' ((fail_if_success (show VH _ _ (.seq (.region 9 _ _) _) _ _ _ _)); first | (show VH _ _ _ _ _ _ _; first | refine v_seq ?_ | refine r_quiet hmix (by kernel_rfl) ?_) | (show SH _ _ _ _ _ (_ :: _) _ _ _; first | (show SH _ _ _ _ _ (⟨_, .move _, _, _, _, _⟩ :: _) _ _ _; refine mov evL ?_) | (show SH _ _ _ _ _ (⟨_, .assign _, _, _, _, _⟩ :: _) _ _ _; refine asg evL ?_) | (show SH _ _ _ _ _ (⟨_, .load _ _, _, _, _, _⟩ :: _) _ _ _; first | refine lrg rfl (fun _ _ => rdY) (by rfl) omL (by assumption) (by rfl) ?_ | refine lbx rfl spL (by rfl) ?_) | (show SH _ _ _ _ _ (⟨_, .call ⟨.value (.func 53), _, _⟩, _, _, _, _⟩ :: _) _ _ _; refine cl (callee := .func 53) rfl (fun w hw => hP w (hw.rd spL)) rfl rfl ?_) | refine nlc rfl ?_ | refine extr rfl rfl ?_ | refine fad rfl ?_) | refine s_nil ?_ | refine kh_normal ?_))
      (repeat' (first | (show VH _ _ _ _ _ _ _; first | refine v_seq ?_ | refine r_seq ?_ | refine v_cond_t rfl tbL ?_) | (show SH _ _ _ _ _ (_ :: _) _ _ _; (show SH _ _ _ _ _ (⟨_, .move _, _, _, _, _⟩ :: _) _ _ _; refine mov evL ?_)) | refine s_nil ?_ | refine kh_normal ?_))
      refine v_some (A := Ax) (l := cs) spL (by omega) (fun hAx => ?_)
      refine r_heldT [orow 32 A2 c2 L, bx b5 42 [.int .u8 ck, .int .i64 ca, .int .i64 cb, .int .i64 cc, .int .i64 cd]] (tr [(0, true), (1, true), (2, true), (3, true), (4, true), (5, false), (6, false), (7, false)] .nil) hmix (by kernel_rfl) enL ?_
      (repeat' ((show SH _ _ _ _ _ (_ :: _) _ _ _; first | (show SH _ _ _ _ _ (⟨_, .move _, _, _, _, _⟩ :: _) _ _ _; refine mov evL ?_) | (show SH _ _ _ _ _ (⟨_, .load _ _, _, _, _, _⟩ :: _) _ _ _; first | refine lrg rfl (fun _ _ => rdY) (by rfl) omL (by assumption) (by rfl) ?_ | refine lba rfl spL (by rfl) ?_) | (show SH _ _ _ _ _ (⟨_, .indexAddr _ _ _, _, _, _, _⟩ :: _) _ _ _; refine ix rfl rfl (by with_reducible rfl) (fun _ _ => rdY) (by rfl) omL omL ?_) | refine nlc rfl ?_ | refine fad rfl ?_)))
      refine stv (x' := (⟨ck, ca, cb, cc, cd⟩ : Comp)) (i := k) (l := cs) (A := Ax) rfl rfl rfl spL rfl (by omega) rfl enL ?_
      rw [hcs]
      have hyl : (insK kindC (⟨ck, ca, cb, cc, cd⟩ : Comp) cs).length = cs.length := by rw [← hcs, List.length_set]
      have hyE : Flat.enc (⟨⟨ei, insK kindC ⟨ck, ca, cb, cc, cd⟩ cs⟩, Ax, cx⟩ : EntP) = Flat.enc (L.getD i Flat.dflt) := by
        rw [hxE]
        show [Value.int .i64 ei, .slice Ax (insK kindC (⟨ck, ca, cb, cc, cd⟩ : Comp) cs).length cx] = _
        rw [hyl]
      have hyr := orow_same (e := 32) (A := A2) (c := c2) hil hyE
      (repeat' (first | (show VH _ _ _ _ _ _ _; first | refine v_seq ?_ | refine r_seq ?_ | refine v_ret ?_) | (show SH _ _ _ _ _ (_ :: _) _ _ _; first | (show SH _ _ _ _ _ (⟨_, .assign _, _, _, _, _⟩ :: _) _ _ _; refine asg evL ?_) | (show SH _ _ _ _ _ (⟨_, .load _ _, _, _, _, _⟩ :: _) _ _ _; refine lba rfl spL (by rfl) ?_) | (show SH _ _ _ _ _ (⟨_, .store _ _ _, _, _, _, _⟩ :: _) _ _ _; refine sta rfl rfl rfl spL (by rfl) (by rfl) (by rfl) kpL ?_)) | refine s_nil ?_ | refine kh_normal ?_))
      refine rhC2 rfl rfl rfl rfl (fun w hw => loadVar_bx hw spL (by rfl)) ⟨A2, c2, L.set i ⟨⟨ei, insK kindC ⟨ck, ca, cb, cc, cd⟩ cs⟩, Ax, cx⟩, congrArg (fun m => Value.tuple #[.agg #[.int .i64 t, .slice A2 m c2], .int .i64 0]) (List.length_set ..).symm, hset _ hid, rfl⟩ ?_
      rw [hyr]
      exact Ent.trans (B := [orow 42 Ax cx (insK kindC ⟨ck, ca, cb, cc, cd⟩ cs), allH ((L.eraseIdx i).map rowOf), orow 32 A2 c2 L]) enL ((ent_all_close (f := rowOf) (x := (⟨⟨ei, insK kindC ⟨ck, ca, cb, cc, cd⟩ cs⟩, Ax, cx⟩ : EntP)) hil).trans enL)
    | false =>
      have hcs : cs.take (lbK kindC ck cs) ++ ⟨ck, ca, cb, cc, cd⟩ :: cs.drop (lbK kindC ck cs) = insK kindC ⟨ck, ca, cb, cc, cd⟩ cs := ins_new (c := (⟨ck, ca, cb, cc, cd⟩ : Comp)) hxr.up hbk
      have hkl := lb_le (key := kindC) ck cs
      rw [hbk] at hP
      clear hbk hxr hcsl
      generalize lbK kindC ck cs = k at hP hcs hkl
      (repeat' ((fail_if_success (show VH _ _ (.seq (.region 9 _ _) _) _ _ _ _)); first | (show VH _ _ _ _ _ _ _; first | refine v_seq ?_ | refine r_quiet hmix (by kernel_rfl) ?_) | (show SH _ _ _ _ _ (_ :: _) _ _ _; first | (show SH _ _ _ _ _ (⟨_, .move _, _, _, _, _⟩ :: _) _ _ _; refine mov evL ?_) | (show SH _ _ _ _ _ (⟨_, .assign _, _, _, _, _⟩ :: _) _ _ _; refine asg evL ?_) | (show SH _ _ _ _ _ (⟨_, .load _ _, _, _, _, _⟩ :: _) _ _ _; first | refine lrg rfl (fun _ _ => rdY) (by rfl) omL (by assumption) (by rfl) ?_ | refine lbx rfl spL (by rfl) ?_) | (show SH _ _ _ _ _ (⟨_, .call ⟨.value (.func 53), _, _⟩, _, _, _, _⟩ :: _) _ _ _; refine cl (callee := .func 53) rfl (fun w hw => hP w (hw.rd spL)) rfl rfl ?_) | refine nlc rfl ?_ | refine extr rfl rfl ?_ | refine fad rfl ?_) | refine s_nil ?_ | refine kh_normal ?_))
      (repeat' (first | (show VH _ _ _ _ _ _ _; first | refine v_seq ?_ | refine r_seq ?_ | refine v_cond_f rfl tbL ?_) | (show SH _ _ _ _ _ (_ :: _) _ _ _; (show SH _ _ _ _ _ (⟨_, .move _, _, _, _, _⟩ :: _) _ _ _; refine mov evL ?_)) | refine s_nil ?_ | refine kh_normal ?_))
      refine r_heldT [bx b5 42 [.int .u8 ck, .int .i64 ca, .int .i64 cb, .int .i64 cc, .int .i64 cd]] (tr [(0, true), (1, true), (2, true), (3, true), (5, true), (6, true)] (.fork 4 (tr [(7, false), (8, false), (9, false), (10, false), (11, false)] .nil) 7 (tr [(4, false), (8, false), (9, false), (10, false), (11, false)] .nil))) hmix (by kernel_rfl) enL ?_
      (repeat' (first | (show SH _ _ _ _ _ (_ :: _) _ _ _; first | (show SH _ _ _ _ _ (⟨_, .move _, _, _, _, _⟩ :: _) _ _ _; refine mov evL ?_) | (show SH _ _ _ _ _ (⟨_, .load _ _, _, _, _, _⟩ :: _) _ _ _; first | refine lrg rfl (fun _ _ => rdY) (by rfl) omL (by assumption) (by rfl) ?_ | refine lba rfl spL (by rfl) ?_) | refine nlc rfl ?_ | refine fad rfl ?_) | refine s_fork ?_ ?_))
      repeat' (first
        | (show SH _ _ _ _ _ (⟨_, .buildSlice _ _ _, _, _, _, _⟩ :: _) _ _ _; refine bsl (l := [(⟨ck, ca, cb, cc, cd⟩ : Comp)]) rfl rfl (Vals.cons rfl Vals.nil) rfl rfl (by decide) (fun b9 => ?_); (repeat' ((show SH _ _ _ _ _ (_ :: _) _ _ _; (show SH _ _ _ _ _ (⟨_, .load _ _, _, _, _, _⟩ :: _) _ _ _; refine lrg rfl (fun _ _ => rdY) (by rfl) omL (by assumption) (by rfl) ?_)))))
        | (show SH _ _ _ _ _ (⟨_, .load _ _, _, _, _, _⟩ :: _) _ _ _; refine lrg (i := i) (off := 1) (l := L) (A := A2) rfl (fun w hw => hw.rd spL) rfl hil hxE rfl ?_; (repeat' (first | (show VH _ _ _ _ _ _ _; first | refine v_seq ?_ | refine r_seq ?_ | refine r_quiet hmix (by kernel_rfl) ?_ | refine v_block ?_ | refine v_ret ?_ | refine v_skip ?_ | refine v_exit ?_ | refine v_label ?_ | refine v_cond_t rfl tbL ?_ | refine v_cond_f rfl tbL ?_ | refine v_cond_dec rfl (fun h => ?_) (fun h => ?_) | refine v_cond_ndec rfl (fun h => ?_) (fun h => ?_) | refine v_cond rfl (fun h => ?_) (fun h => ?_)) | (show SH _ _ _ _ _ (_ :: _) _ _ _; first | (show SH _ _ _ _ _ (⟨_, _, _, _, _, some _⟩ :: _) _ _ _; first | (refine gif rfl rfl ?_; first | refine giTT tbL ?_ | refine giTF tbL ?_ | refine giFF tbL ?_ | refine giFT tbL ?_ | refine giTd (fun h => ?_) (fun h => ?_) | refine giFd (fun h => ?_) (fun h => ?_) | refine giT (fun h => ?_) (fun h => ?_) | refine giF (fun h => ?_) (fun h => ?_)) | refine gu rfl rfl ?_ | refine grT rfl rfl tbL ?_ | refine grF rfl rfl tbL ?_) | (show SH _ _ _ _ _ (⟨_, .move _, _, _, _, _⟩ :: _) _ _ _; refine mov evL ?_) | (show SH _ _ _ _ _ (⟨_, .assign _, _, _, _, _⟩ :: _) _ _ _; refine asg evL ?_) | (show SH _ _ _ _ _ (⟨_, .load _ _, _, _, _, _⟩ :: _) _ _ _; first | refine lgi rfl (fun _ _ => rdY) omL (by assumption) ?_ | refine lag rfl (fun _ _ => rdY) (by rfl) omL (by assumption) ?_ | refine lrg rfl (fun _ _ => rdY) (by rfl) omL (by assumption) (by rfl) ?_ | refine lin rfl (fun _ _ => rdY) omL ?_ | refine lbx rfl spL (by rfl) ?_ | refine lba rfl spL (by rfl) ?_ | refine lbi rfl spL omL ?_ | refine lr1 rfl (fun _ _ => rdY) (by rfl) omL (by rfl) ?_ | refine lra rfl (fun _ _ => rdY) (by rfl) omL ?_ | refine lrf rfl (fun _ _ => rdY) (by rfl) omL (by rfl) ?_ | refine lcell rfl (fun w hw => hw.ext.cell (by assumption)) ?_ | refine lrs rfl (fun _ _ => rdY) (by rfl) omL (by rfl) (by rfl) ?_ | refine lbs rfl spL (by rfl) (by rfl) ?_ | refine lca rfl (fun _ _ => rdY) (by rfl) ?_ | refine lcs rfl (fun _ _ => rdY) (by rfl) ?_ | refine lcf rfl (fun _ _ => rdY) (by rfl) ?_ | refine lrf rfl (fun _ _ => rdY) (by rfl) (by simp only [List.length_cons, List.length_nil]; omega) (by rfl) ?_ | refine lra rfl (fun _ _ => rdY) (by rfl) (by simp only [List.length_cons, List.length_nil]; omega) ?_) | (show SH _ _ _ _ _ (⟨_, .indexAddr _ _ _, _, _, _, _⟩ :: _) _ _ _; first | refine ix rfl rfl (by with_reducible rfl) (fun _ _ => rdY) (by rfl) omL omL ?_ | refine ixi rfl rfl (fun _ _ => rdY) (by rfl) omL omL omL ?_ | refine ixb rfl rfl omL ?_ | refine ixq rfl rfl (by assumption) omL omL ?_ | refine ixA _ rfl rfl rfl omL ?_ | refine ixi rfl rfl (fun _ _ => rdY) (by rfl) omL (by first | omega | (simp only [List.length_cons, List.length_nil]; omega)) (by simp only [List.length_cons, List.length_nil]; omega) ?_) | (show SH _ _ _ _ _ (⟨_, .unOp .not _ _, _, _, _, _⟩ :: _) _ _ _; first | refine bnoT rfl ?_ | refine bnoF rfl ?_ | refine bnot rfl ?_) | (show SH _ _ _ _ _ (⟨_, .pick _ _ _, _, _, _, _⟩ :: _) _ _ _; first | refine pkt rfl tbL evL ?_ | refine pkf rfl tbL evL ?_) | refine nlc rfl ?_ | refine extr rfl rfl ?_ | refine fad rfl ?_ | (show SH _ _ _ _ _ (⟨_, .build _ _, _, _, _, _⟩ :: _) _ _ _; first | refine bld rfl rfl ?_ | refine bldZ ?_ | refine bldZN ?_) | (show SH _ _ _ _ _ (⟨_, .alloc _, _, _, _, _⟩ :: _) _ _ _; first | refine al1 rfl (fun b => ?_) | refine ala rfl (fun b => ?_)) | (show SH _ _ _ _ _ (⟨_, .box _ _, _, _, _, _⟩ :: _) _ _ _; refine bxx rfl evL rfl (fun b => ?_)) | (show SH _ _ _ _ _ (⟨_, .store _ _ _, _, _, _, _⟩ :: _) _ _ _; first | refine stb rfl rfl evL spL rfl rfl (by first | decide | exact Nat.zero_lt_succ _ | exact of_decide_eq_true rfl) kpL ?_ | refine sta rfl rfl rfl spL (by rfl) (by rfl) (by rfl) kpL ?_ | refine sti rfl rfl rfl spL omL kpL ?_ | refine sbi rfl rfl rfl spL omL kpL ?_ | refine sbs rfl rfl evL spL (by rfl) (by rfl) (of_decide_eq_true rfl) kpL ?_) | (show SH _ _ _ _ _ (⟨_, .buildSlice _ _ _, _, _, _, _⟩ :: _) _ _ _; refine bsl (α := Int) rfl rfl (by repeat (first | exact Vals.nil | (apply Vals.cons; rfl))) rfl (by rfl) (by decide) (fun b => ?_))) | refine s_nil ?_ | refine s_fork ?_ ?_ | refine s_fork3 ?_ ?_ ?_ | refine s_fork4 ?_ ?_ ?_ ?_ | refine kh_normal ?_ | refine kh_ret ?_ | refine kh_exit ?_ | refine bh_normal ?_ | refine bh_ret ?_ | refine bh_exit ?_ | refine bh_exit_ne rfl ?_))))
      all_goals
        refine cm rfl (fun w hw => insertC_spec Ax cs cx k b9 ⟨ck, ca, cb, cc, cd⟩ _ [allH ((L.eraseIdx i).map rowOf), bx b10 25 [.int .i64 t, .slice A2 L.length c2], orow 32 A2 c2 L, bx b6 25 [.int .i64 0, .slice none 0 0], bx b5 42 [.int .u8 ck, .int .i64 ca, .int .i64 cb, .int .i64 cc, .int .i64 cd]] w (by omega) (by omega) (Ent.wd enL hw)) rfl rfl ?_
        rintro _ _ ⟨A5, c5, rfl, rfl⟩
        refine ⟨enL, ?_⟩
        rw [hcs]
        (repeat' ((show SH _ _ _ _ _ (_ :: _) _ _ _; first | refine nlc rfl ?_ | refine fad rfl ?_)))
        refine stf (x' := (⟨⟨ei, insK kindC ⟨ck, ca, cb, cc, cd⟩ cs⟩, A5, c5⟩ : EntP)) (i := i) (off := 1) (l := L) (A := A2) rfl rfl rfl spL rfl hil rfl rfl (by decide) (by rw [hxE]; rfl) enL ?_
        (repeat' (first | (show VH _ _ _ _ _ _ _; first | refine v_seq ?_ | refine r_seq ?_ | refine v_ret ?_) | (show SH _ _ _ _ _ (_ :: _) _ _ _; first | (show SH _ _ _ _ _ (⟨_, .assign _, _, _, _, _⟩ :: _) _ _ _; refine asg evL ?_) | (show SH _ _ _ _ _ (⟨_, .load _ _, _, _, _, _⟩ :: _) _ _ _; refine lba rfl spL (by rfl) ?_) | (show SH _ _ _ _ _ (⟨_, .store _ _ _, _, _, _, _⟩ :: _) _ _ _; refine sta rfl rfl rfl spL (by rfl) (by rfl) (by rfl) kpL ?_)) | refine s_nil ?_ | refine kh_normal ?_))
        refine rhC2 rfl rfl rfl rfl (fun w hw => loadVar_bx hw spL (by rfl)) ⟨A2, c2, L.set i ⟨⟨ei, insK kindC ⟨ck, ca, cb, cc, cd⟩ cs⟩, A5, c5⟩, congrArg (fun m => Value.tuple #[.agg #[.int .i64 t, .slice A2 m c2], .int .i64 0]) (List.length_set ..).symm, hset _ hid, rfl⟩ ?_
        exact Ent.trans (B := [orow 42 A5 c5 (insK kindC ⟨ck, ca, cb, cc, cd⟩ cs), allH ((L.eraseIdx i).map rowOf), orow 32 A2 c2 (L.set i (⟨⟨ei, insK kindC ⟨ck, ca, cb, cc, cd⟩ cs⟩, A5, c5⟩ : EntP))]) enL ((ent_all_close (f := rowOf) (x := (⟨⟨ei, insK kindC ⟨ck, ca, cb, cc, cd⟩ cs⟩, A5, c5⟩ : EntP)) hil).trans enL)
end Go.Proofs.YtfodpcpclmnbkaaDoor
