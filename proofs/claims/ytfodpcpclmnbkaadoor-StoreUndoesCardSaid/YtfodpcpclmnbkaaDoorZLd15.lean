/- StoreUndoes (printed by gen_ld15.py). -/
import Derived.Test.YtfodpcpclmnbkaaDoorZTw
import Derived.Test.YtfodpcpclmnbkaaDoorZPd15
import Derived.Test.YtfodpcpclmnbkaaDoorZBu15
import Derived.Test.YtfodpcpclmnbkaaDoorZJc
import Derived.Test.YtfodpcpclmnbkaaDoorZWz
set_option linter.unusedSimpArgs false
set_option linter.unusedVariables false
namespace Go.Proofs.YtfodpcpclmnbkaaDoor
open Go.Fw Go.RowKit
set_option maxHeartbeats 4000000 in
set_option maxRecDepth 100000 in
theorem undoesLaw (A0 : Option Addr) (c0 : Nat) (l0 : List U16) (a1 : Int) (cc : Comp) (e : EntP) (W : World) (hG : Glob W) (hr0 : Rd W A0 l0) (hb0 : R16 l0) (hl0 : l0.length ≤ maxLen) (hc0 : l0.length ≤ c0) (lo1 : 0 ≤ a1) (hi1 : a1 ≤ 255) (hre : Rd W e.A e.e.comps) :
    Ret Tryd.prog 8 [.slice A0 l0.length c0, .int .u8 a1, .agg (Flat.enc cc).toArray, .agg (Flat.enc e).toArray].toArray W (Out W (.bool true)) := by
  have hB := fun w' (he : Ext W w') => built_spec A0 l0 c0 w' hl0 hc0 (hr0.ext he) hb0
  have hv := built_valid hb0
  have hcm0 : ∀ e ∈ builtL l0, e.comps.length ≤ 10 := fun e he => built_comps he
  have hln : (builtL l0).length ≤ 20 := by unfold builtL; rw [builtN_len]; omega
  unfold WorldR wv at hB
  generalize builtL l0 = es0 at hB hv hcm0 hln
  have hA := fun w (h : Ext W w) => awake15_spec w (hG.ext h)
  have hTc := fun w (h : Ext W w) => fits_spec cc w (hG.ext h)
  obtain ⟨⟨ei, es⟩, Ae, ce⟩ := e
  simp only at hre
  rw [show Flat.enc (⟨⟨ei, es⟩, Ae, ce⟩ : EntP) = [.int .i64 ei, .slice Ae es.length ce] from rfl]
  clear hr0 hb0 hl0 hc0
  refine enterH Tryd.func8 rfl rfl Tryd.ntmps8 rfl (Wd.refl _) ?_
  (repeat' (first | (show VH _ _ _ _ _ _ _; first | refine v_seq ?_ | refine r_seq ?_) | (show SH _ _ _ _ _ (_ :: _) _ _ _; first | (show SH _ _ _ _ _ (⟨_, .move _, _, _, _, _⟩ :: _) _ _ _; refine mov evL ?_) | (show SH _ _ _ _ _ (⟨_, .assign _, _, _, _, _⟩ :: _) _ _ _; refine asg evL ?_) | (show SH _ _ _ _ _ (⟨_, .call ⟨.value (.func 10), _, _⟩, _, _, _, _⟩ :: _) _ _ _; refine cp (callee := .func 10) rfl (fun w hw => hB w hw.ext) rfl rfl ?_) | (show SH _ _ _ _ _ (⟨_, .box _ _, _, _, _, _⟩ :: _) _ _ _; refine bxx rfl evL rfl (fun b => ?_))) | refine s_nil ?_ | refine kh_normal ?_))
  rintro _ _ ⟨A, c, L, rfl, hL, rfl⟩
  clear hB
  have hL' : ents L = es0 := hL
  subst hL'
  have hle := ents_len L
  rw [hle] at hln
  obtain ⟨hs, hl, hse, hse2⟩ := built_sz (L := L) rfl (by omega) hcm0 (by omega)
  (repeat' ((fail_if_success (show VH _ _ (.seq (.region 2 _ _) _) _ _ _ _)); first | refine v_seq ?_ | (show SH _ _ _ _ _ (_ :: _) _ _ _; first | refine ala rfl (fun b => ?_) | (show SH _ _ _ _ _ (⟨_, .store _ _ _, _, _, _, _⟩ :: _) _ _ _; refine sta rfl rfl rfl spL (by rfl) (by rfl) (by rfl) kpL ?_)) | refine s_nil ?_ | refine kh_normal ?_))
  rename_i b6 b7
  revert b
  intro b9
  refine VH.ent (G := [bx b9 25 [.int .i64 5, .slice A L.length c], knw A L, bx b6 42 (Flat.enc cc), bx b7 32 [.int .i64 ei, .slice Ae es.length ce]]) ?_ (Ent.trans (B := [orow 32 A c L, allH (L.map rowOf), bx b9 25 [.int .i64 5, .slice A L.length c], bx b6 42 (Flat.enc cc), bx b7 32 [.int .i64 ei, .slice Ae es.length ce]]) enL (ent_knw.trans enL))
  by_cases h14 : 14 < es.length
  · (repeat' (first | (show VH _ _ _ _ _ _ _; first | refine v_seq ?_ | refine r_seq ?_ | refine v_ret ?_ | refine v_cond_t rfl tbL ?_) | (show SH _ _ _ _ _ (_ :: _) _ _ _; first | (show SH _ _ _ _ _ (⟨_, .assign _, _, _, _, _⟩ :: _) _ _ _; refine asg evL ?_) | (show SH _ _ _ _ _ (⟨_, .binOp .gtr _ _ _ _, _, _, _, _⟩ :: _) _ _ _; refine gtrT rfl rfl omD ?_) | (show SH _ _ _ _ _ (⟨_, .load _ _, _, _, _, _⟩ :: _) _ _ _; refine lbx rfl spL (by rfl) ?_) | refine slen rfl ?_ | (show SH _ _ _ _ _ (⟨_, .call ⟨.value (.func 14), _, _⟩, _, _, _, _⟩ :: _) _ _ _; refine cl (callee := .func 14) rfl (fun w hw => hA w hw.ext) rfl rfl ?_) | refine fad rfl ?_) | refine s_nil ?_ | refine kh_normal ?_ | refine kh_ret ?_))
    exact rh1 rfl rfl ⟨rfl, rfl⟩ (ent_nil _)
  (repeat' ((fail_if_success (show VH _ _ (.seq (.region 4 _ _) _) _ _ _ _)); first | (show VH _ _ _ _ _ _ _; first | refine v_seq ?_ | refine r_seq ?_ | refine v_skip ?_ | refine v_cond_f rfl tbL ?_) | (show SH _ _ _ _ _ (_ :: _) _ _ _; first | (show SH _ _ _ _ _ (⟨_, .binOp .gtr _ _ _ _, _, _, _, _⟩ :: _) _ _ _; refine gtrF rfl rfl omD ?_) | (show SH _ _ _ _ _ (⟨_, .load _ _, _, _, _, _⟩ :: _) _ _ _; refine lbx rfl spL (by rfl) ?_) | refine slen rfl ?_ | refine fad rfl ?_) | refine s_nil ?_ | refine kh_normal ?_))
  refine v_norm [(1,_),(6,_),(7,_),(8,_),(9,_)] heL (fun g => ?_)
  refine v_cut [(10, 15), (34, 96)] (fun _ : Unit => []) (fun _ => [bx b9 25 [.int .i64 5, .slice A L.length c], knw A L, bx b6 42 (Flat.enc cc), bx b7 32 [.int .i64 ei, .slice Ae es.length ce]]) (fun _ => True) ?_ ?_ ent_vh
  · have hAdd := fun w hG hr hx => add_spec 5 (⟨⟨ei, es⟩, Ae, ce⟩ : EntP) A L c w hG hs hl hse hr (show es.length ≤ 100000 by omega) hx
    rw [show (⟨⟨ei, es⟩, Ae, ce⟩ : EntP).e = ⟨ei, es⟩ from rfl, show Flat.enc (⟨⟨ei, es⟩, Ae, ce⟩ : EntP) = [.int .i64 ei, .slice Ae es.length ce] from rfl] at hAdd
    simp only at hAdd
    by_cases hadd : RightE ⟨ei, es⟩ ∧ thg ei (ents L) = none
    · obtain ⟨hright, hnone⟩ := hadd
      rw [add_err hv hright hnone (by omega)] at hAdd
      obtain ⟨hv2, hlen2⟩ := add_ok hv hright hnone (by omega)
      have hrm := add_rem (e := ⟨ei, es⟩) hv hnone
      have hth : thg ei (addL ⟨ei, es⟩ (ents L)) = some ⟨ei, es⟩ := by rw [add_thg hv, if_pos rfl]
      have hcm2 : ∀ e ∈ addL ⟨ei, es⟩ (ents L), e.comps.length ≤ 20 := fun e he => by
        rcases mem_insK.1 he with rfl | ⟨h, _⟩
        · show es.length ≤ 20; omega
        · have := hcm0 e h; omega
      have hre2 : remErr 5 ei (addL ⟨ei, es⟩ (ents L)) = 0 := by unfold remErr; rw [if_pos hv2, hth]; rfl
      unfold ChgR wv at hAdd
      simp only [if_true] at hAdd
      (repeat' (first | (show VH _ _ _ _ _ _ _; first | refine v_seq ?_ | refine r_seq ?_) | (show SH _ _ _ _ _ (_ :: _) _ _ _; first | (show SH _ _ _ _ _ (⟨_, .load _ _, _, _, _, _⟩ :: _) _ _ _; refine lba rfl spL (by rfl) ?_) | (show SH _ _ _ _ _ (⟨_, .call ⟨.value (.func 13), _, _⟩, _, _, _, _⟩ :: _) _ _ _; refine cp (callee := .func 13) rfl (fun w hw => hAdd w (hG.ext hw.ext) (hw.kw (A := A) (l := L) spL) (hre.ext hw.ext)) rfl rfl ?_))))
      rintro _ _ ⟨A2, c2, L2, rfl, hL2, rfl⟩
      clear hAdd
      have hL2' : ents L2 = addL ⟨ei, es⟩ (ents L) := hL2
      have hle2 := ents_len L2
      rw [← hL2'] at hv2 hlen2 hrm hth hcm2 hre2
      rw [hle2, hle] at hlen2
      obtain ⟨hs2, hl2, hse2', hse22⟩ := built_sz (L := L2) rfl (by omega) hcm2 (by omega)
      have hR := fun w hG hr => remove_spec 5 ei A2 L2 c2 w hG hs2 hl2 hse2' hr
      rw [hre2, hrm] at hR
      have hE := fun w hG hr => entity_spec 5 ei A2 L2 c2 w hG hs2 hse22 hr
      have hV := fun w hG hr => valid_spec 5 A2 L2 c2 w hG hs2 hr
      rw [decide_eq_true hv2] at hV
      have hfb : findB 5 ei L2 = true := by rw [findB_thg hv2, hth]; rfl
      have hk : hasK idE ei L2 = true := by
        unfold findB at hfb
        rw [decide_eq_true hv2, Bool.true_and] at hfb
        exact hfb
      have hxe : (L2.getD (lbK idE ei L2) Flat.dflt).e = ⟨ei, es⟩ := by
        have := thg_find ((rising_ents L2).1 hv2.up) ei
        rw [if_pos hk, hth] at this
        injection this with this
        exact this.symm
      unfold EntityR at hE
      simp only [hfb, if_true, hxe] at hE
      unfold ChgR wv at hR
      simp only [if_true] at hR
      unfold wv at hE hV
      clear hfb hk hxe hth hre2 hrm hse2' hse22
      (repeat' ((fail_if_success (show VH _ _ (.seq (.region 5 _ _) _) _ _ _ _)); first | (show SH _ _ _ _ _ (_ :: _) _ _ _; first | (show SH _ _ _ _ _ (⟨_, .move _, _, _, _, _⟩ :: _) _ _ _; refine mov evL ?_) | (show SH _ _ _ _ _ (⟨_, .assign _, _, _, _, _⟩ :: _) _ _ _; refine asg evL ?_) | refine extr rfl rfl ?_ | refine ala rfl (fun b => ?_) | (show SH _ _ _ _ _ (⟨_, .store _ _ _, _, _, _, _⟩ :: _) _ _ _; refine sta rfl rfl rfl spL (by rfl) (by rfl) (by rfl) kpL ?_)) | refine s_nil ?_ | refine kh_normal ?_))
      revert b
      intro b10
      refine VH.ent (G := [bx b10 25 [.int .i64 5, .slice A2 L2.length c2], knw A2 L2, bx b9 25 [.int .i64 5, .slice A L.length c], knw A L, bx b6 42 (Flat.enc cc), bx b7 32 [.int .i64 ei, .slice Ae es.length ce]]) ?_ (Ent.trans (B := [orow 32 A2 c2 L2, allH (L2.map rowOf), bx b10 25 [.int .i64 5, .slice A2 L2.length c2], bx b9 25 [.int .i64 5, .slice A L.length c], knw A L, bx b6 42 (Flat.enc cc), bx b7 32 [.int .i64 ei, .slice Ae es.length ce]]) enL (ent_knw.trans enL))
      (repeat' (first | (show VH _ _ _ _ _ _ _; first | refine v_seq ?_ | refine r_seq ?_ | refine v_cond_t rfl tbL ?_) | (show SH _ _ _ _ _ (_ :: _) _ _ _; first | (show SH _ _ _ _ _ (⟨_, .move _, _, _, _, _⟩ :: _) _ _ _; refine mov evL ?_) | (show SH _ _ _ _ _ (⟨_, .binOp .eql _ _ _ _, _, _, _, _⟩ :: _) _ _ _; refine eqlT rfl rfl omD ?_) | (show SH _ _ _ _ _ (⟨_, .load _ _, _, _, _, _⟩ :: _) _ _ _; first | refine lbx rfl spL (by rfl) ?_ | refine lba rfl spL (by rfl) ?_) | (show SH _ _ _ _ _ (⟨_, .call ⟨.value (.func 38), _, _⟩, _, _, _, _⟩ :: _) _ _ _; refine cp (callee := .func 38) rfl (fun w hw => hR w (hG.ext hw.ext) (hw.kw (A := A2) (l := L2) spL)) rfl rfl ?_) | refine fad rfl ?_) | refine s_nil ?_ | refine kh_normal ?_))
      rintro _ _ ⟨A3, c3, L3, rfl, hL3, rfl⟩
      clear hR
      have hL3' : ents L3 = ents L := hL3
      (repeat' ((fail_if_success (show VH _ _ (.seq (.region 7 _ _) _) _ _ _ _)); first | (show SH _ _ _ _ _ (_ :: _) _ _ _; first | (show SH _ _ _ _ _ (⟨_, .move _, _, _, _, _⟩ :: _) _ _ _; refine mov evL ?_) | (show SH _ _ _ _ _ (⟨_, .assign _, _, _, _, _⟩ :: _) _ _ _; refine asg evL ?_) | refine extr rfl rfl ?_ | refine ala rfl (fun b => ?_) | (show SH _ _ _ _ _ (⟨_, .store _ _ _, _, _, _, _⟩ :: _) _ _ _; refine sta rfl rfl rfl spL (by rfl) (by rfl) (by rfl) kpL ?_)) | refine s_nil ?_ | refine kh_normal ?_))
      revert b
      intro b12
      refine VH.ent (G := [bx b12 25 [.int .i64 5, .slice A3 L3.length c3], knw A3 L3, bx b10 25 [.int .i64 5, .slice A2 L2.length c2], knw A2 L2, bx b9 25 [.int .i64 5, .slice A L.length c], knw A L, bx b6 42 (Flat.enc cc), bx b7 32 [.int .i64 ei, .slice Ae es.length ce]]) ?_ (Ent.trans (B := [orow 32 A3 c3 L3, allH (L3.map rowOf), bx b12 25 [.int .i64 5, .slice A3 L3.length c3], bx b10 25 [.int .i64 5, .slice A2 L2.length c2], knw A2 L2, bx b9 25 [.int .i64 5, .slice A L.length c], knw A L, bx b6 42 (Flat.enc cc), bx b7 32 [.int .i64 ei, .slice Ae es.length ce]]) enL (ent_knw.trans enL))
      have hs3 : Sz L3 := (built_sz hL3' (by rw [hle]; omega) hcm0 (by omega)).1
      have hsm := fun w h1 h2 => same_spec 5 5 A3 A L3 L c3 c w h1 h2 hs3
      rw [decide_eq_true ⟨rfl, hL3'⟩] at hsm
      unfold wv at hsm
      (repeat' (first | (show VH _ _ _ _ _ _ _; first | refine v_seq ?_ | refine r_seq ?_) | (show SH _ _ _ _ _ (_ :: _) _ _ _; first | (show SH _ _ _ _ _ (⟨_, .load _ _, _, _, _, _⟩ :: _) _ _ _; first | refine lbx rfl spL (by rfl) ?_ | refine lba rfl spL (by rfl) ?_) | (show SH _ _ _ _ _ (⟨_, .call ⟨.value (.func 12), _, _⟩, _, _, _, _⟩ :: _) _ _ _; refine cp (callee := .func 12) rfl (fun w hw => hE w (hG.ext hw.ext) (hw.kw (A := A2) (l := L2) spL)) rfl rfl ?_) | refine fad rfl ?_)))
      rintro _ _ ⟨A4, c4, rfl, rfl⟩
      clear hE
      have hse4 := fun w h1 h2 => sameE_spec (⟨⟨ei, es⟩, A4, c4⟩ : EntP) (⟨⟨ei, es⟩, Ae, ce⟩ : EntP) w h1 h2 (show es.length ≤ 140737488355328 by omega)
      rw [decide_eq_true rfl] at hse4
      rw [show Flat.enc (⟨⟨ei, es⟩, A4, c4⟩ : EntP) = [.int .i64 ei, .slice A4 es.length c4] from rfl, show Flat.enc (⟨⟨ei, es⟩, Ae, ce⟩ : EntP) = [.int .i64 ei, .slice Ae es.length ce] from rfl] at hse4
      simp only at hse4
      (repeat' (first | (show VH _ _ _ _ _ _ _; first | refine v_seq ?_ | refine r_seq ?_ | refine v_skip ?_ | refine v_cond_f rfl tbL ?_) | (show SH _ _ _ _ _ (_ :: _) _ _ _; first | (show SH _ _ _ _ _ (⟨_, _, _, _, _, some _⟩ :: _) _ _ _; (refine gif rfl rfl ?_; refine giFF tbL ?_)) | (show SH _ _ _ _ _ (⟨_, .move _, _, _, _, _⟩ :: _) _ _ _; refine mov evL ?_) | (show SH _ _ _ _ _ (⟨_, .assign _, _, _, _, _⟩ :: _) _ _ _; refine asg evL ?_) | (show SH _ _ _ _ _ (⟨_, .binOp .neq _ _ _ _, _, _, _, _⟩ :: _) _ _ _; refine neqF rfl rfl omD ?_) | (show SH _ _ _ _ _ (⟨_, .binOp .add _ _ _ _, _, _, _, _⟩ :: _) _ _ _; refine add rfl rfl inL ?_) | (show SH _ _ _ _ _ (⟨_, .load _ _, _, _, _, _⟩ :: _) _ _ _; first | refine lbx rfl spL (by rfl) ?_ | refine lba rfl spL (by rfl) ?_) | refine slen rfl ?_ | (show SH _ _ _ _ _ (⟨_, .call ⟨.value (.func 18), _, _⟩, _, _, _, _⟩ :: _) _ _ _; refine cl (callee := .func 18) rfl (fun w hw => hsm w (hw.kw (A := A3) (l := L3) spL) (hw.kw (A := A) (l := L) spL)) rfl rfl ?_) | (show SH _ _ _ _ _ (⟨_, .call ⟨.value (.func 23), _, _⟩, _, _, _, _⟩ :: _) _ _ _; refine cl (callee := .func 23) rfl (fun w hw => hse4 w (hw.rd spL) (hre.ext hw.ext)) rfl rfl ?_) | (show SH _ _ _ _ _ (⟨_, .call ⟨.value (.func 15), _, _⟩, _, _, _, _⟩ :: _) _ _ _; refine cl (callee := .func 15) rfl (fun w hw => hV w (hG.ext hw.ext) (hw.kw (A := A2) (l := L2) spL)) rfl rfl ?_) | refine bnoT rfl ?_ | (show SH _ _ _ _ _ (⟨_, .pick _ _ _, _, _, _, _⟩ :: _) _ _ _; refine pkf rfl tbL evL ?_) | refine extr rfl rfl ?_ | refine fad rfl ?_ | refine ala rfl (fun b => ?_) | (show SH _ _ _ _ _ (⟨_, .store _ _ _, _, _, _, _⟩ :: _) _ _ _; refine sta rfl rfl rfl spL (by rfl) (by rfl) (by rfl) kpL ?_)) | refine s_nil ?_ | refine kh_normal ?_))
      exact ⟨agL, (), hsL, enL, trivial⟩
    · rw [add_bad (by omega) hadd] at hAdd
      unfold ChgR wv at hAdd
      simp only [show ((2 : Int) = 0) = False from by simp, if_false] at hAdd
      clear hadd
      (repeat' (first | (show VH _ _ _ _ _ _ _; first | refine v_seq ?_ | refine r_seq ?_) | (show SH _ _ _ _ _ (_ :: _) _ _ _; first | (show SH _ _ _ _ _ (⟨_, .load _ _, _, _, _, _⟩ :: _) _ _ _; refine lba rfl spL (by rfl) ?_) | (show SH _ _ _ _ _ (⟨_, .call ⟨.value (.func 13), _, _⟩, _, _, _, _⟩ :: _) _ _ _; refine cp (callee := .func 13) rfl (fun w hw => hAdd w (hG.ext hw.ext) (hw.kw (A := A) (l := L) spL) (hre.ext hw.ext)) rfl rfl ?_))))
      rintro _ _ ⟨A2, c2, L2, rfl, hL2, rfl⟩
      clear hAdd
      (repeat' (first | (show VH _ _ _ _ _ _ _; first | refine v_seq ?_ | refine r_seq ?_ | refine v_skip ?_ | refine v_cond_f rfl tbL ?_) | (show SH _ _ _ _ _ (_ :: _) _ _ _; first | (show SH _ _ _ _ _ (⟨_, _, _, _, _, some _⟩ :: _) _ _ _; (refine gif rfl rfl ?_; refine giFF tbL ?_)) | (show SH _ _ _ _ _ (⟨_, .move _, _, _, _, _⟩ :: _) _ _ _; refine mov evL ?_) | (show SH _ _ _ _ _ (⟨_, .assign _, _, _, _, _⟩ :: _) _ _ _; refine asg evL ?_) | (show SH _ _ _ _ _ (⟨_, .binOp .geq _ _ _ _, _, _, _, _⟩ :: _) _ _ _; refine geqF rfl rfl omD ?_) | (show SH _ _ _ _ _ (⟨_, .binOp .eql _ _ _ _, _, _, _, _⟩ :: _) _ _ _; refine eqlF rfl rfl omD ?_) | (show SH _ _ _ _ _ (⟨_, .binOp .neq _ _ _ _, _, _, _, _⟩ :: _) _ _ _; refine neqF rfl rfl omD ?_) | (show SH _ _ _ _ _ (⟨_, .load _ _, _, _, _, _⟩ :: _) _ _ _; refine lbx rfl spL (by rfl) ?_) | refine slen rfl ?_ | (show SH _ _ _ _ _ (⟨_, .pick _ _ _, _, _, _, _⟩ :: _) _ _ _; refine pkf rfl tbL evL ?_) | refine extr rfl rfl ?_ | refine fad rfl ?_ | refine ala rfl (fun b => ?_) | (show SH _ _ _ _ _ (⟨_, .store _ _ _, _, _, _, _⟩ :: _) _ _ _; refine sta rfl rfl rfl spL (by rfl) (by rfl) (by rfl) kpL ?_)) | refine s_nil ?_ | refine kh_normal ?_))
      exact ⟨agL, (), hsL, enL, trivial⟩
  rintro _ g1 _ _ rfl
  simp only [sets]
  
  by_cases h0 : L.length = 0
  · (repeat' (first | (show VH _ _ _ _ _ _ _; first | refine v_seq ?_ | refine r_seq ?_ | refine v_ret ?_ | refine v_cond_t rfl tbL ?_) | (show SH _ _ _ _ _ (_ :: _) _ _ _; first | (show SH _ _ _ _ _ (⟨_, .assign _, _, _, _, _⟩ :: _) _ _ _; refine asg evL ?_) | (show SH _ _ _ _ _ (⟨_, .binOp .eql _ _ _ _, _, _, _, _⟩ :: _) _ _ _; refine eqlT rfl rfl omD ?_) | (show SH _ _ _ _ _ (⟨_, .load _ _, _, _, _, _⟩ :: _) _ _ _; refine lbx rfl spL (by rfl) ?_) | refine slen rfl ?_ | (show SH _ _ _ _ _ (⟨_, .call ⟨.value (.func 14), _, _⟩, _, _, _, _⟩ :: _) _ _ _; refine cl (callee := .func 14) rfl (fun w hw => hA w hw.ext) rfl rfl ?_) | refine fad rfl ?_) | refine s_nil ?_ | refine kh_normal ?_ | refine kh_ret ?_))
    exact rh1 rfl rfl ⟨rfl, rfl⟩ (ent_nil _)
  obtain ⟨i, hi⟩ : ∃ i : Nat, a1 % (L.length : Int) = i := ⟨(a1 % (L.length : Int)).toNat, by
    have := Int.emod_nonneg a1 (show (L.length : Int) ≠ 0 by omega)
    omega⟩
  have hil : i < L.length := by
    have := Int.emod_lt_of_pos a1 (show (0 : Int) < (L.length : Int) by omega)
    omega
  obtain ⟨x, hx⟩ : ∃ x, L.getD i Flat.dflt = x := ⟨_, rfl⟩
  have hxE : Flat.enc (L.getD i Flat.dflt) = Flat.enc x := by rw [hx]
  have hxm : x ∈ L := by rw [← hx]; exact getD_mem hil
  have hxl := hse x hxm
  have hrx : ∀ w, RdW w A L → Rd w x.A x.e.comps := fun w h => h.2 x hxm
  have hxe : x.e ∈ ents L := List.mem_map_of_mem hxm
  have hrE := rem_err hv hxe
  have hv5 := rem_valid (id := x.e.id) hv
  have hra := rem_add hv hxe
  have hae := add_err hv5 (hv.right _ hxe) (by rw [rem_thg, if_pos rfl]) (rem_less hv hxe)
  have hcm5 : ∀ e ∈ remL x.e.id (ents L), e.comps.length ≤ 10 := fun e he => hcm0 e (List.mem_filter.1 he).1
  have hR := fun w hG hr => remove_spec 5 x.e.id A L c w hG hs hl hse hr
  have hGt := fun w hG hr => get_spec 5 x.e.id cc.kind A L c w hG hs hr
  have hSt := fun w hG hr => set_spec 5 x.e.id cc A L c w hG hs hl hse hr
  have hse5 := fun hc => set_err (c := cc) hv hxe hc
  have hv6 := fun hc => set_valid (c := cc) hv hxe hc
  have hcm6 : ∀ e ∈ setL x.e.id cc (ents L), e.comps.length ≤ 11 := set_comps hv hcm0
  have hsu := fun hc hn => set_uns (c := cc) hv hxe hc hn
  rw [hrE] at hR
  obtain ⟨⟨xi, xs⟩, Ax, cx⟩ := x
  simp only at hxl hrx hR hGt hSt hra hae hcm5 hcm6 hse5 hv5 hv6 hsu
  rw [show Flat.enc (⟨⟨xi, xs⟩, Ax, cx⟩ : EntP) = [.int .i64 xi, .slice Ax xs.length cx] from rfl] at hxE
  unfold ChgR wv at hR hSt
  simp only [if_true] at hR
  unfold wv at hGt
  clear hx hxm hrE
  (repeat' (first | (show VH _ _ _ _ _ _ _; first | refine v_seq ?_ | refine r_seq ?_ | refine v_skip ?_ | refine v_cond_f rfl tbL ?_) | (show SH _ _ _ _ _ (_ :: _) _ _ _; first | (show SH _ _ _ _ _ (⟨_, .binOp .eql _ _ _ _, _, _, _, _⟩ :: _) _ _ _; refine eqlF rfl rfl omD ?_) | (show SH _ _ _ _ _ (⟨_, .load _ _, _, _, _, _⟩ :: _) _ _ _; refine lbx rfl spL (by rfl) ?_) | refine slen rfl ?_ | refine fad rfl ?_) | refine s_nil ?_ | refine kh_normal ?_))
  refine r_heldT [bx b9 25 [.int .i64 5, .slice A L.length c], knw A L] (tr [(0, true), (1, true), (2, true), (3, true), (4, true), (5, true), (6, true), (7, true), (8, true), (9, true), (10, false), (11, false)] .nil) hmix (by kernel_rfl) enL ?_
  (repeat' ((fail_if_success (show VH _ _ (.seq (.region 15 _ _) _) _ _ _ _)); first | (show SH _ _ _ _ _ (_ :: _) _ _ _; first | (show SH _ _ _ _ _ (⟨_, .move _, _, _, _, _⟩ :: _) _ _ _; refine mov evL ?_) | (show SH _ _ _ _ _ (⟨_, .binOp .rem _ _ _ _, _, _, _, _⟩ :: _) _ _ _; refine rem rfl rfl omL omL ?_) | (show SH _ _ _ _ _ (⟨_, .load _ _, _, _, _, _⟩ :: _) _ _ _; first | refine lbx rfl spL (by rfl) ?_ | refine lra rfl (fun _ _ => rdY) (by rfl) omL ?_ | refine lra rfl (fun _ _ => rdY) (by rfl) (by simp only [List.length_cons, List.length_nil]; omega) ?_) | (show SH _ _ _ _ _ (⟨_, .indexAddr _ _ _, _, _, _, _⟩ :: _) _ _ _; first | refine ixi rfl rfl (fun _ _ => rdY) (by rfl) omL omL omL ?_ | refine ixi rfl rfl (fun _ _ => rdY) (by rfl) omL (by first | omega | (simp only [List.length_cons, List.length_nil]; omega)) (by simp only [List.length_cons, List.length_nil]; omega) ?_) | refine slen rfl ?_ | refine fad rfl ?_ | (show SH _ _ _ _ _ (⟨_, .convert _ _ _, _, _, _, _⟩ :: _) _ _ _; refine c64 rfl inL ?_) | refine ala rfl (fun b => ?_) | (show SH _ _ _ _ _ (⟨_, .store _ _ _, _, _, _, _⟩ :: _) _ _ _; refine sta rfl rfl rfl spL (by rfl) (by rfl) (by rfl) kpL ?_)) | refine s_nil ?_ | refine kh_normal ?_))
  rw [hi, Int.toNat_natCast, hxE]
  revert b
  intro b16
  clear hi hil hxE h0
  (repeat' (first | (show VH _ _ _ _ _ _ _; first | refine v_seq ?_ | refine r_seq ?_) | (show SH _ _ _ _ _ (_ :: _) _ _ _; first | (show SH _ _ _ _ _ (⟨_, .load _ _, _, _, _, _⟩ :: _) _ _ _; first | refine lbx rfl spL (by rfl) ?_ | refine lba rfl spL (by rfl) ?_) | (show SH _ _ _ _ _ (⟨_, .call ⟨.value (.func 38), _, _⟩, _, _, _, _⟩ :: _) _ _ _; refine cp (callee := .func 38) rfl (fun w hw => hR w (hG.ext hw.ext) (hw.kw (A := A) (l := L) spL)) rfl rfl ?_) | refine fad rfl ?_)))
  rintro _ _ ⟨A5, c5, L5, rfl, hL5, rfl⟩
  clear hR
  have hL5' : ents L5 = remL xi (ents L) := hL5
  rw [← hL5'] at hra hae hcm5 hv5
  have hle5 := ents_len L5
  obtain ⟨hs5, hl5, hse5', _⟩ := built_sz (L := L5) rfl (by have := hv5.len; omega) hcm5 (by omega)
  have hAd := fun w hG hr hx => add_spec 5 (⟨⟨xi, xs⟩, Ax, cx⟩ : EntP) A5 L5 c5 w hG hs5 hl5 hse5' hr hxl hx
  rw [show (⟨⟨xi, xs⟩, Ax, cx⟩ : EntP).e = ⟨xi, xs⟩ from rfl, show Flat.enc (⟨⟨xi, xs⟩, Ax, cx⟩ : EntP) = [.int .i64 xi, .slice Ax xs.length cx] from rfl] at hAd
  simp only at hAd
  rw [hae, hra] at hAd
  unfold ChgR wv at hAd
  simp only [if_true] at hAd
  clear hae hra hcm5 hv5 hle5 hse5'
  (repeat' ((fail_if_success (show VH _ _ (.seq (.region 16 _ _) _) _ _ _ _)); first | (show SH _ _ _ _ _ (_ :: _) _ _ _; first | (show SH _ _ _ _ _ (⟨_, .move _, _, _, _, _⟩ :: _) _ _ _; refine mov evL ?_) | (show SH _ _ _ _ _ (⟨_, .assign _, _, _, _, _⟩ :: _) _ _ _; refine asg evL ?_) | refine extr rfl rfl ?_ | refine ala rfl (fun b => ?_) | (show SH _ _ _ _ _ (⟨_, .store _ _ _, _, _, _, _⟩ :: _) _ _ _; refine sta rfl rfl rfl spL (by rfl) (by rfl) (by rfl) kpL ?_)) | refine s_nil ?_ | refine kh_normal ?_))
  revert b
  intro b17
  refine VH.ent (G := [bx b17 25 [.int .i64 5, .slice A5 L5.length c5], knw A5 L5, bx b16 32 [.int .i64 xi, .slice Ax xs.length cx], bx b9 25 [.int .i64 5, .slice A L.length c], knw A L, bx b6 42 (Flat.enc cc), bx b7 32 [.int .i64 ei, .slice Ae es.length ce]]) ?_ (Ent.trans (B := [orow 32 A5 c5 L5, allH (L5.map rowOf), bx b17 25 [.int .i64 5, .slice A5 L5.length c5], bx b16 32 [.int .i64 xi, .slice Ax xs.length cx], bx b9 25 [.int .i64 5, .slice A L.length c], knw A L, bx b6 42 (Flat.enc cc), bx b7 32 [.int .i64 ei, .slice Ae es.length ce]]) enL (ent_knw.trans enL))
  (repeat' (first | (show VH _ _ _ _ _ _ _; first | refine v_seq ?_ | refine r_seq ?_) | (show SH _ _ _ _ _ (_ :: _) _ _ _; first | (show SH _ _ _ _ _ (⟨_, .load _ _, _, _, _, _⟩ :: _) _ _ _; refine lba rfl spL (by rfl) ?_) | (show SH _ _ _ _ _ (⟨_, .call ⟨.value (.func 13), _, _⟩, _, _, _, _⟩ :: _) _ _ _; refine cp (callee := .func 13) rfl (fun w hw => hAd w (hG.ext hw.ext) (hw.kw (A := A5) (l := L5) spL) (hrx w (hw.kw (A := A) (l := L) spL))) rfl rfl ?_))))
  rintro _ _ ⟨A7, c7, L7, rfl, hL7, rfl⟩
  clear hAd
  have hL7' : ents L7 = ents L := hL7
  (repeat' ((fail_if_success (show VH _ _ (.seq (.region 17 _ _) _) _ _ _ _)); first | refine v_seq ?_ | (show SH _ _ _ _ _ (_ :: _) _ _ _; first | (show SH _ _ _ _ _ (⟨_, .move _, _, _, _, _⟩ :: _) _ _ _; refine mov evL ?_) | (show SH _ _ _ _ _ (⟨_, .assign _, _, _, _, _⟩ :: _) _ _ _; refine asg evL ?_) | refine extr rfl rfl ?_ | refine ala rfl (fun b => ?_) | (show SH _ _ _ _ _ (⟨_, .store _ _ _, _, _, _, _⟩ :: _) _ _ _; refine sta rfl rfl rfl spL (by rfl) (by rfl) (by rfl) kpL ?_)) | refine s_nil ?_ | refine kh_normal ?_))
  revert b
  intro b19
  refine VH.ent (G := [bx b19 25 [.int .i64 5, .slice A7 L7.length c7], knw A7 L7, bx b17 25 [.int .i64 5, .slice A5 L5.length c5], knw A5 L5, bx b16 32 [.int .i64 xi, .slice Ax xs.length cx], bx b9 25 [.int .i64 5, .slice A L.length c], knw A L, bx b6 42 (Flat.enc cc), bx b7 32 [.int .i64 ei, .slice Ae es.length ce]]) ?_ (Ent.trans (B := [orow 32 A7 c7 L7, allH (L7.map rowOf), bx b19 25 [.int .i64 5, .slice A7 L7.length c7], bx b17 25 [.int .i64 5, .slice A5 L5.length c5], knw A5 L5, bx b16 32 [.int .i64 xi, .slice Ax xs.length cx], bx b9 25 [.int .i64 5, .slice A L.length c], knw A L, bx b6 42 (Flat.enc cc), bx b7 32 [.int .i64 ei, .slice Ae es.length ce]]) enL (ent_knw.trans enL))
  have hs7 : Sz L7 := (built_sz hL7' (by rw [hle]; omega) hcm0 (by omega)).1
  have hsm := fun w h1 h2 => same_spec 5 5 A7 A L7 L c7 c w h1 h2 hs7
  rw [decide_eq_true ⟨rfl, hL7'⟩] at hsm
  unfold wv at hsm
  (repeat' ((fail_if_success (show VH _ _ (.seq (.region 19 _ _) _) _ _ _ _)); first | (show VH _ _ _ _ _ _ _; first | refine v_seq ?_ | refine r_seq ?_ | refine v_skip ?_ | refine v_cond_f rfl tbL ?_) | (show SH _ _ _ _ _ (_ :: _) _ _ _; first | (show SH _ _ _ _ _ (⟨_, _, _, _, _, some _⟩ :: _) _ _ _; (refine gif rfl rfl ?_; refine giFF tbL ?_)) | (show SH _ _ _ _ _ (⟨_, .move _, _, _, _, _⟩ :: _) _ _ _; refine mov evL ?_) | (show SH _ _ _ _ _ (⟨_, .binOp .neq _ _ _ _, _, _, _, _⟩ :: _) _ _ _; refine neqF rfl rfl omD ?_) | (show SH _ _ _ _ _ (⟨_, .load _ _, _, _, _, _⟩ :: _) _ _ _; refine lba rfl spL (by rfl) ?_) | (show SH _ _ _ _ _ (⟨_, .call ⟨.value (.func 18), _, _⟩, _, _, _, _⟩ :: _) _ _ _; refine cl (callee := .func 18) rfl (fun w hw => hsm w (hw.kw (A := A7) (l := L7) spL) (hw.kw (A := A) (l := L) spL)) rfl rfl ?_) | refine bnoT rfl ?_ | (show SH _ _ _ _ _ (⟨_, .pick _ _ _, _, _, _, _⟩ :: _) _ _ _; refine pkf rfl tbL evL ?_)) | refine s_nil ?_ | refine kh_normal ?_))
  clear hsm hs7
  refine VH.ent (G := [bx b16 32 [.int .i64 xi, .slice Ax xs.length cx], bx b9 25 [.int .i64 5, .slice A L.length c], knw A L, bx b6 42 (Flat.enc cc), bx b7 32 [.int .i64 ei, .slice Ae es.length ce]]) ?_ enL
  refine v_norm [(6,_),(7,_),(8,_),(9,_),(16,_)] heL (fun g => ?_)
  by_cases hn : getM 5 xi cc.kind (ents L) = none
  case neg =>
    obtain ⟨q, hq⟩ := Option.ne_none_iff_exists'.1 hn
    rw [hq] at hGt
    clear hSt hn hsu hse5 hv6 hTc
    (repeat' (first | (show VH _ _ _ _ _ _ _; first | refine v_seq ?_ | refine r_seq ?_ | refine v_ret ?_ | refine v_cond_t rfl tbL ?_) | (show SH _ _ _ _ _ (_ :: _) _ _ _; first | (show SH _ _ _ _ _ (⟨_, _, _, _, _, some _⟩ :: _) _ _ _; (refine gif rfl rfl ?_; refine giFT tbL ?_)) | (show SH _ _ _ _ _ (⟨_, .move _, _, _, _, _⟩ :: _) _ _ _; refine mov evL ?_) | (show SH _ _ _ _ _ (⟨_, .assign _, _, _, _, _⟩ :: _) _ _ _; refine asg evL ?_) | (show SH _ _ _ _ _ (⟨_, .load _ _, _, _, _, _⟩ :: _) _ _ _; first | refine lbx rfl spL (by rfl) ?_ | refine lba rfl spL (by rfl) ?_) | (show SH _ _ _ _ _ (⟨_, .call ⟨.value (.func 19), _, _⟩, _, _, _, _⟩ :: _) _ _ _; refine cl (callee := .func 19) rfl (fun w hw => hGt w (hG.ext hw.ext) (hw.kw (A := A) (l := L) spL)) rfl rfl ?_) | (show SH _ _ _ _ _ (⟨_, .call ⟨.value (.func 14), _, _⟩, _, _, _, _⟩ :: _) _ _ _; refine cl (callee := .func 14) rfl (fun w hw => hA w hw.ext) rfl rfl ?_) | (show SH _ _ _ _ _ (⟨_, .pick _ _ _, _, _, _, _⟩ :: _) _ _ _; refine pkt rfl tbL evL ?_) | refine extr rfl rfl ?_ | refine fad rfl ?_ | refine ala rfl (fun b => ?_) | (show SH _ _ _ _ _ (⟨_, .store _ _ _, _, _, _, _⟩ :: _) _ _ _; refine sta rfl rfl rfl spL (by rfl) (by rfl) (by rfl) kpL ?_)) | refine s_nil ?_ | refine kh_normal ?_ | refine kh_ret ?_))
    exact rh1 rfl rfl ⟨rfl, rfl⟩ (ent_nil _)
  rw [hn] at hGt
  by_cases hc : Fits cc
  case neg =>
    rw [decide_eq_false hc] at hTc
    clear hSt hn hsu hse5 hv6
    (repeat' (first | (show VH _ _ _ _ _ _ _; first | refine v_seq ?_ | refine r_seq ?_ | refine v_ret ?_ | refine v_cond_t rfl tbL ?_) | (show SH _ _ _ _ _ (_ :: _) _ _ _; first | (show SH _ _ _ _ _ (⟨_, _, _, _, _, some _⟩ :: _) _ _ _; (refine gif rfl rfl ?_; refine giFF tbL ?_)) | (show SH _ _ _ _ _ (⟨_, .move _, _, _, _, _⟩ :: _) _ _ _; refine mov evL ?_) | (show SH _ _ _ _ _ (⟨_, .assign _, _, _, _, _⟩ :: _) _ _ _; refine asg evL ?_) | (show SH _ _ _ _ _ (⟨_, .load _ _, _, _, _, _⟩ :: _) _ _ _; first | refine lbx rfl spL (by rfl) ?_ | refine lba rfl spL (by rfl) ?_) | (show SH _ _ _ _ _ (⟨_, .call ⟨.value (.func 19), _, _⟩, _, _, _, _⟩ :: _) _ _ _; refine cl (callee := .func 19) rfl (fun w hw => hGt w (hG.ext hw.ext) (hw.kw (A := A) (l := L) spL)) rfl rfl ?_) | (show SH _ _ _ _ _ (⟨_, .call ⟨.value (.func 17), _, _⟩, _, _, _, _⟩ :: _) _ _ _; refine cl (callee := .func 17) rfl (fun w hw => hTc w hw.ext) rfl rfl ?_) | (show SH _ _ _ _ _ (⟨_, .call ⟨.value (.func 14), _, _⟩, _, _, _, _⟩ :: _) _ _ _; refine cl (callee := .func 14) rfl (fun w hw => hA w hw.ext) rfl rfl ?_) | refine bnoF rfl ?_ | (show SH _ _ _ _ _ (⟨_, .pick _ _ _, _, _, _, _⟩ :: _) _ _ _; refine pkf rfl tbL evL ?_) | refine extr rfl rfl ?_ | refine fad rfl ?_ | refine ala rfl (fun b => ?_) | (show SH _ _ _ _ _ (⟨_, .store _ _ _, _, _, _, _⟩ :: _) _ _ _; refine sta rfl rfl rfl spL (by rfl) (by rfl) (by rfl) kpL ?_)) | refine s_nil ?_ | refine kh_normal ?_ | refine kh_ret ?_))
    exact rh1 rfl rfl ⟨rfl, rfl⟩ (ent_nil _)
  rw [decide_eq_true hc] at hTc
  rw [hse5 hc] at hSt
  simp only [if_true] at hSt
  obtain ⟨hu1, hu2⟩ := hsu hc hn
  have hv6 := hv6 hc
  clear hn hsu hse5
  (repeat' (first | (show VH _ _ _ _ _ _ _; first | refine v_seq ?_ | refine r_seq ?_ | refine v_skip ?_ | refine v_cond_f rfl tbL ?_) | (show SH _ _ _ _ _ (_ :: _) _ _ _; first | (show SH _ _ _ _ _ (⟨_, _, _, _, _, some _⟩ :: _) _ _ _; (refine gif rfl rfl ?_; refine giFF tbL ?_)) | (show SH _ _ _ _ _ (⟨_, .move _, _, _, _, _⟩ :: _) _ _ _; refine mov evL ?_) | (show SH _ _ _ _ _ (⟨_, .assign _, _, _, _, _⟩ :: _) _ _ _; refine asg evL ?_) | (show SH _ _ _ _ _ (⟨_, .load _ _, _, _, _, _⟩ :: _) _ _ _; first | refine lbx rfl spL (by rfl) ?_ | refine lba rfl spL (by rfl) ?_) | (show SH _ _ _ _ _ (⟨_, .call ⟨.value (.func 19), _, _⟩, _, _, _, _⟩ :: _) _ _ _; refine cl (callee := .func 19) rfl (fun w hw => hGt w (hG.ext hw.ext) (hw.kw (A := A) (l := L) spL)) rfl rfl ?_) | (show SH _ _ _ _ _ (⟨_, .call ⟨.value (.func 17), _, _⟩, _, _, _, _⟩ :: _) _ _ _; refine cl (callee := .func 17) rfl (fun w hw => hTc w hw.ext) rfl rfl ?_) | (show SH _ _ _ _ _ (⟨_, .call ⟨.value (.func 16), _, _⟩, _, _, _, _⟩ :: _) _ _ _; refine cp (callee := .func 16) rfl (fun w hw => hSt w (hG.ext hw.ext) (hw.kw (A := A) (l := L) spL)) rfl rfl ?_) | refine bnoT rfl ?_ | (show SH _ _ _ _ _ (⟨_, .pick _ _ _, _, _, _, _⟩ :: _) _ _ _; refine pkf rfl tbL evL ?_) | refine extr rfl rfl ?_ | refine fad rfl ?_ | refine ala rfl (fun b => ?_) | (show SH _ _ _ _ _ (⟨_, .store _ _ _, _, _, _, _⟩ :: _) _ _ _; refine sta rfl rfl rfl spL (by rfl) (by rfl) (by rfl) kpL ?_)) | refine s_nil ?_ | refine kh_normal ?_))
  rintro _ _ ⟨A6, c6, L6, rfl, hL6, rfl⟩
  clear hSt hGt hTc
  have hL6' : ents L6 = setL xi cc (ents L) := hL6
  rw [← hL6'] at hv6 hcm6 hu1 hu2
  have hle6 := ents_len L6
  obtain ⟨hs6, hl6, hse6, _⟩ := built_sz (L := L6) rfl (by have := hv6.len; omega) hcm6 (by omega)
  have hU := fun w hG hr => unset_spec 5 xi cc.kind A6 L6 c6 w hG hs6 hl6 hse6 hr
  rw [hu1, hu2] at hU
  unfold ChgR wv at hU
  simp only [if_true] at hU
  clear hu1 hu2 hv6 hcm6
  (repeat' ((fail_if_success (show VH _ _ (.seq (.region 23 _ _) _) _ _ _ _)); first | (show SH _ _ _ _ _ (_ :: _) _ _ _; first | (show SH _ _ _ _ _ (⟨_, .move _, _, _, _, _⟩ :: _) _ _ _; refine mov evL ?_) | (show SH _ _ _ _ _ (⟨_, .assign _, _, _, _, _⟩ :: _) _ _ _; refine asg evL ?_) | refine extr rfl rfl ?_ | refine ala rfl (fun b => ?_) | (show SH _ _ _ _ _ (⟨_, .store _ _ _, _, _, _, _⟩ :: _) _ _ _; refine sta rfl rfl rfl spL (by rfl) (by rfl) (by rfl) kpL ?_)) | refine s_nil ?_ | refine kh_normal ?_))
  revert b
  intro b23
  refine VH.ent (G := [bx b23 25 [.int .i64 5, .slice A6 L6.length c6], knw A6 L6, bx b16 32 [.int .i64 xi, .slice Ax xs.length cx], bx b9 25 [.int .i64 5, .slice A L.length c], knw A L, bx b6 42 (Flat.enc cc), bx b7 32 [.int .i64 ei, .slice Ae es.length ce]]) ?_ (Ent.trans (B := [orow 32 A6 c6 L6, allH (L6.map rowOf), bx b23 25 [.int .i64 5, .slice A6 L6.length c6], bx b16 32 [.int .i64 xi, .slice Ax xs.length cx], bx b9 25 [.int .i64 5, .slice A L.length c], knw A L, bx b6 42 (Flat.enc cc), bx b7 32 [.int .i64 ei, .slice Ae es.length ce]]) enL (ent_knw.trans enL))
  (repeat' (first | (show VH _ _ _ _ _ _ _; first | refine v_seq ?_ | refine r_seq ?_) | (show SH _ _ _ _ _ (_ :: _) _ _ _; first | (show SH _ _ _ _ _ (⟨_, .load _ _, _, _, _, _⟩ :: _) _ _ _; first | refine lbx rfl spL (by rfl) ?_ | refine lba rfl spL (by rfl) ?_) | (show SH _ _ _ _ _ (⟨_, .call ⟨.value (.func 37), _, _⟩, _, _, _, _⟩ :: _) _ _ _; refine cp (callee := .func 37) rfl (fun w hw => hU w (hG.ext hw.ext) (hw.kw (A := A6) (l := L6) spL)) rfl rfl ?_) | refine fad rfl ?_)))
  rintro _ _ ⟨A8, c8, L8, rfl, hL8, rfl⟩
  clear hU
  have hL8' : ents L8 = ents L := hL8
  (repeat' ((fail_if_success (show VH _ _ (.seq (.region 24 _ _) _) _ _ _ _)); first | (show SH _ _ _ _ _ (_ :: _) _ _ _; first | (show SH _ _ _ _ _ (⟨_, .move _, _, _, _, _⟩ :: _) _ _ _; refine mov evL ?_) | (show SH _ _ _ _ _ (⟨_, .assign _, _, _, _, _⟩ :: _) _ _ _; refine asg evL ?_) | refine extr rfl rfl ?_ | refine ala rfl (fun b => ?_) | (show SH _ _ _ _ _ (⟨_, .store _ _ _, _, _, _, _⟩ :: _) _ _ _; refine sta rfl rfl rfl spL (by rfl) (by rfl) (by rfl) kpL ?_)) | refine s_nil ?_ | refine kh_normal ?_))
  revert b
  intro b25
  refine VH.ent (G := [bx b25 25 [.int .i64 5, .slice A8 L8.length c8], knw A8 L8, bx b23 25 [.int .i64 5, .slice A6 L6.length c6], knw A6 L6, bx b16 32 [.int .i64 xi, .slice Ax xs.length cx], bx b9 25 [.int .i64 5, .slice A L.length c], knw A L, bx b6 42 (Flat.enc cc), bx b7 32 [.int .i64 ei, .slice Ae es.length ce]]) ?_ (Ent.trans (B := [orow 32 A8 c8 L8, allH (L8.map rowOf), bx b25 25 [.int .i64 5, .slice A8 L8.length c8], bx b23 25 [.int .i64 5, .slice A6 L6.length c6], knw A6 L6, bx b16 32 [.int .i64 xi, .slice Ax xs.length cx], bx b9 25 [.int .i64 5, .slice A L.length c], knw A L, bx b6 42 (Flat.enc cc), bx b7 32 [.int .i64 ei, .slice Ae es.length ce]]) enL (ent_knw.trans enL))
  have hs8 : Sz L8 := (built_sz hL8' (by rw [hle]; omega) hcm0 (by omega)).1
  have hsm := fun w h1 h2 => same_spec 5 5 A8 A L8 L c8 c w h1 h2 hs8
  rw [decide_eq_true ⟨rfl, hL8'⟩] at hsm
  unfold wv at hsm
  (repeat' (first | (show VH _ _ _ _ _ _ _; first | refine v_seq ?_ | refine r_seq ?_ | refine v_ret ?_) | (show SH _ _ _ _ _ (_ :: _) _ _ _; first | (show SH _ _ _ _ _ (⟨_, _, _, _, _, some _⟩ :: _) _ _ _; (refine gif rfl rfl ?_; refine giTT tbL ?_)) | (show SH _ _ _ _ _ (⟨_, .move _, _, _, _, _⟩ :: _) _ _ _; refine mov evL ?_) | (show SH _ _ _ _ _ (⟨_, .assign _, _, _, _, _⟩ :: _) _ _ _; refine asg evL ?_) | (show SH _ _ _ _ _ (⟨_, .binOp .eql _ _ _ _, _, _, _, _⟩ :: _) _ _ _; refine eqlT rfl rfl omD ?_) | (show SH _ _ _ _ _ (⟨_, .load _ _, _, _, _, _⟩ :: _) _ _ _; refine lba rfl spL (by rfl) ?_) | (show SH _ _ _ _ _ (⟨_, .call ⟨.value (.func 18), _, _⟩, _, _, _, _⟩ :: _) _ _ _; refine cl (callee := .func 18) rfl (fun w hw => hsm w (hw.kw (A := A8) (l := L8) spL) (hw.kw (A := A) (l := L) spL)) rfl rfl ?_) | (show SH _ _ _ _ _ (⟨_, .call ⟨.value (.func 14), _, _⟩, _, _, _, _⟩ :: _) _ _ _; refine cl (callee := .func 14) rfl (fun w hw => hA w hw.ext) rfl rfl ?_) | (show SH _ _ _ _ _ (⟨_, .pick _ _ _, _, _, _, _⟩ :: _) _ _ _; refine pkt rfl tbL evL ?_)) | refine s_nil ?_ | refine kh_normal ?_))
  exact rh1 rfl rfl ⟨rfl, rfl⟩ (ent_nil _)
end Go.Proofs.YtfodpcpclmnbkaaDoor
