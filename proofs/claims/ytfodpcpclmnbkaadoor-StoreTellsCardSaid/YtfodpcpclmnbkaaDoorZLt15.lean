/- StoreTells (printed by gen_lt15.py). -/
import Derived.Test.YtfodpcpclmnbkaaDoorZTw
import Derived.Test.YtfodpcpclmnbkaaDoorZJc
import Derived.Test.YtfodpcpclmnbkaaDoorZRj
import Derived.Test.YtfodpcpclmnbkaaDoorZWz
set_option linter.unusedSimpArgs false
set_option linter.unusedVariables false
namespace Go.Proofs.YtfodpcpclmnbkaaDoor
open Go.Fw Go.RowKit
theorem few_sz {l : List EntP} (h : fewW l = true) : l.length ≤ 70 ∧ ∀ x ∈ l, x.e.comps.length ≤ 14 := by
  unfold fewW at h
  rw [Bool.and_eq_true, decide_eq_true_eq, List.all_eq_true] at h
  exact ⟨h.1, fun x hx => by simpa using h.2 x hx⟩
theorem self_neq (z : Bool) : (!(z == z)) = false := by simp
theorem self_eq (z : Bool) : (z == z) = true := by simp
set_option maxHeartbeats 4000000 in
set_option maxRecDepth 100000 in
theorem tellsLaw (t : Int) (A : Option Addr) (l : List EntP) (c : Nat) (e : EntP) (cc : Comp) (id kd : Int) (m : Nat) (W : World) (hG : Glob W) (hr : RdW W A l) (hre : Rd W e.A e.e.comps) (hm : m < 4294967296) :
    Ret Tryd.prog 6 [wv t A l c, .agg (Flat.enc e).toArray, .agg (Flat.enc cc).toArray, .int .i64 id, .int .u8 kd, .int .u32 m].toArray W (Out W (.bool true)) := by
  have hFw := fun w' (he : Ext W w') => few15_spec t A l c w' (hr.1.ext he)
  have hA := fun w (h : Ext W w) => awake15_spec w (hG.ext h)
  obtain ⟨⟨ei, es⟩, Ae, ce⟩ := e
  simp only at hre
  rw [show Flat.enc (⟨⟨ei, es⟩, Ae, ce⟩ : EntP) = [.int .i64 ei, .slice Ae es.length ce] from rfl]
  unfold wv at hFw ⊢
  cases hf : fewW l with
  | false =>
    rw [hf] at hFw
    refine enterH Tryd.func6 rfl rfl Tryd.ntmps6 rfl (Wd.refl _) ?_
    (repeat' (first | (show VH _ _ _ _ _ _ _; first | refine v_seq ?_ | refine r_seq ?_ | refine v_ret ?_ | refine v_cond_t rfl tbL ?_) | (show SH _ _ _ _ _ (_ :: _) _ _ _; first | (show SH _ _ _ _ _ (⟨_, _, _, _, _, some _⟩ :: _) _ _ _; (refine gif rfl rfl ?_; refine giFT tbL ?_)) | (show SH _ _ _ _ _ (⟨_, .move _, _, _, _, _⟩ :: _) _ _ _; refine mov evL ?_) | (show SH _ _ _ _ _ (⟨_, .assign _, _, _, _, _⟩ :: _) _ _ _; refine asg evL ?_) | (show SH _ _ _ _ _ (⟨_, .load _ _, _, _, _, _⟩ :: _) _ _ _; refine lba rfl spL (by rfl) ?_) | (show SH _ _ _ _ _ (⟨_, .call ⟨.value (.func 24), _, _⟩, _, _, _, _⟩ :: _) _ _ _; refine cl (callee := .func 24) rfl (fun w hw => hFw w hw.ext) rfl rfl ?_) | (show SH _ _ _ _ _ (⟨_, .call ⟨.value (.func 14), _, _⟩, _, _, _, _⟩ :: _) _ _ _; refine cl (callee := .func 14) rfl (fun w hw => hA w hw.ext) rfl rfl ?_) | refine bnoF rfl ?_ | (show SH _ _ _ _ _ (⟨_, .pick _ _ _, _, _, _, _⟩ :: _) _ _ _; refine pkt rfl tbL evL ?_) | (show SH _ _ _ _ _ (⟨_, .box _ _, _, _, _, _⟩ :: _) _ _ _; refine bxx rfl evL rfl (fun b => ?_))) | refine s_nil ?_ | refine kh_normal ?_ | refine kh_ret ?_))
    exact rh1 rfl rfl ⟨rfl, rfl⟩ (ent_nil _)
  | true =>
  rw [hf] at hFw
  by_cases h14 : 14 < es.length
  · clear hf
    refine enterH Tryd.func6 rfl rfl Tryd.ntmps6 rfl (Wd.refl _) ?_
    (repeat' (first | (show VH _ _ _ _ _ _ _; first | refine v_seq ?_ | refine r_seq ?_ | refine v_ret ?_ | refine v_cond_t rfl tbL ?_) | (show SH _ _ _ _ _ (_ :: _) _ _ _; first | (show SH _ _ _ _ _ (⟨_, _, _, _, _, some _⟩ :: _) _ _ _; (refine gif rfl rfl ?_; refine giFF tbL ?_)) | (show SH _ _ _ _ _ (⟨_, .move _, _, _, _, _⟩ :: _) _ _ _; refine mov evL ?_) | (show SH _ _ _ _ _ (⟨_, .assign _, _, _, _, _⟩ :: _) _ _ _; refine asg evL ?_) | (show SH _ _ _ _ _ (⟨_, .binOp .gtr _ _ _ _, _, _, _, _⟩ :: _) _ _ _; refine gtrT rfl rfl omD ?_) | (show SH _ _ _ _ _ (⟨_, .load _ _, _, _, _, _⟩ :: _) _ _ _; first | refine lbx rfl spL (by rfl) ?_ | refine lba rfl spL (by rfl) ?_) | refine slen rfl ?_ | (show SH _ _ _ _ _ (⟨_, .call ⟨.value (.func 24), _, _⟩, _, _, _, _⟩ :: _) _ _ _; refine cl (callee := .func 24) rfl (fun w hw => hFw w hw.ext) rfl rfl ?_) | (show SH _ _ _ _ _ (⟨_, .call ⟨.value (.func 14), _, _⟩, _, _, _, _⟩ :: _) _ _ _; refine cl (callee := .func 14) rfl (fun w hw => hA w hw.ext) rfl rfl ?_) | refine bnoT rfl ?_ | (show SH _ _ _ _ _ (⟨_, .pick _ _ _, _, _, _, _⟩ :: _) _ _ _; refine pkf rfl tbL evL ?_) | refine fad rfl ?_ | (show SH _ _ _ _ _ (⟨_, .box _ _, _, _, _, _⟩ :: _) _ _ _; refine bxx rfl evL rfl (fun b => ?_))) | refine s_nil ?_ | refine kh_normal ?_ | refine kh_ret ?_))
    exact rh1 rfl rfl ⟨rfl, rfl⟩ (ent_nil _)
  obtain ⟨h70, hc14⟩ := few_sz hf
  have hs : Sz l := ⟨by omega, fun x hx => by have := hc14 x hx; omega⟩
  have hse : ∀ x ∈ l, x.e.comps.length ≤ 1000000 := fun x hx => by have := hc14 x hx; omega
  clear hf
  have hFt := fun w (h : Ext W w) => fits_spec cc w (hG.ext h)
  have hFr := fun w (h : Ext W w) => refFits_spec cc w
  have hRt := fun w (h : Ext W w) => right_spec ⟨⟨ei, es⟩, Ae, ce⟩ w (hG.ext h) (by show es.length ≤ _; omega) (hre.ext h)
  have hRr := fun w (h : Ext W w) => refRight_spec ⟨⟨ei, es⟩, Ae, ce⟩ w (by show es.length ≤ _; omega) (hre.ext h)
  have hVt := fun w (h : Ext W w) => valid_spec t A l c w (hG.ext h) hs (hr.ext h)
  have hVr := fun w (h : Ext W w) => refValid_spec t A l c w hs (hr.ext h)
  have hMt := fun w (h : Ext W w) => mask_spec ⟨⟨ei, es⟩, Ae, ce⟩ w (by show es.length ≤ _; omega) (hre.ext h)
  have hMr := fun w (h : Ext W w) => refMask_spec ⟨⟨ei, es⟩, Ae, ce⟩ w (by show es.length ≤ _; omega) (hre.ext h)
  have hPt := fun w (h : Ext W w) => part_spec ⟨⟨ei, es⟩, Ae, ce⟩ (m : Int) w (by show es.length ≤ _; omega) (hre.ext h)
  have hPr := fun w (h : Ext W w) => refPart_spec ⟨⟨ei, es⟩, Ae, ce⟩ m w hm (by show es.length ≤ _; omega) (hre.ext h)
  have hEt := fun w (h : Ext W w) => entity_spec t id A l c w (hG.ext h) hs hse (hr.ext h)
  have hEr := fun w (h : Ext W w) => refEntity_spec t id A l c w hs (hr.ext h)
  have hGt := fun w (h : Ext W w) => get_spec t id kd A l c w (hG.ext h) hs (hr.ext h)
  have hGr := fun w (h : Ext W w) => refGet_spec t id kd A l c w hs (hr.ext h)
  have hNt := fun w (h : Ext W w) => next_spec t A l c w (hG.ext h) hs (hr.ext h)
  have hNr := fun w (h : Ext W w) => refNext_spec t A l c w hs (hr.ext h)
  have hWt := fun w (h : Ext W w) => with_spec t (m : Int) A l c w (hG.ext h) hs hse (hr.ext h)
  have hWr := fun w (h : Ext W w) => refWith_spec t m A l c w hm hs hse (hr.ext h)
  have hPl : (partC (m : Int) es).length ≤ 140737488355328 := by
    have := List.length_filter_le (inMask (m : Int)) es
    show (es.filter (inMask (m : Int))).length ≤ _
    omega
  have hWl : (withM t (m : Int) (ents l)).length ≤ 140737488355328 := by
    unfold withM
    split
    · rw [List.length_map]
      have := List.length_filter_le (fun e : Ent1 => decide (bandK .u32 (maskC e.comps) (m : Int) = (m : Int))) (ents l)
      rw [ents_len] at this
      omega
    · simp
  have hSP := fun A1 c1 A2 c2 w h1 h2 => sameE_spec ⟨⟨ei, partC (m : Int) es⟩, A1, c1⟩ ⟨⟨ei, partC (m : Int) es⟩, A2, c2⟩ w h1 h2 hPl
  have hSI := fun A1 c1 A2 c2 w h1 h2 => ints_spec A1 A2 (withM t (m : Int) (ents l)) (withM t (m : Int) (ents l)) c1 c2 w h1 h2 hWl
  simp only [decide_eq_true] at hSP hSI
  rw [show Flat.enc (⟨⟨ei, es⟩, Ae, ce⟩ : EntP) = [.int .i64 ei, .slice Ae es.length ce] from rfl] at hRt hRr hMt hMr hPt hPr
  simp only at hSP hRt hRr hMt hMr hPt hPr
  unfold wv at hVt hVr hEt hEr hGt hGr hNt hNr hWt hWr
  unfold OwnR at hPt hPr
  unfold Fresh at hWt hWr
  simp only at hPt hPr
  generalize decide (Fits cc) = z1 at hFt hFr
  generalize decide (RightE ⟨ei, es⟩) = z2 at hRt hRr
  generalize decide (ValidW t (ents l)) = z3 at hVt hVr
  generalize maskC es = mk at hMt hMr
  generalize partC (m : Int) es = pc at hPt hPr hSP hPl
  generalize withM t (m : Int) (ents l) = wm at hWt hWr hSI hWl
  generalize (if ValidW t (ents l) then nextI (ents l) 1 else 0) = n1 at hNt hNr
  generalize (if ValidW t (ents l) then 0 else 2 : Int) = n2 at hNt hNr
  generalize (getM t id kd (ents l)).isSome = gq at hGt hGr
  generalize compD (getM t id kd (ents l)) = gc at hGt hGr
  have hv1 := self_neq z1
  have hv2 := self_neq z2
  have hv3 := self_neq z3
  have hv4 := self_eq gq
  refine enterH Tryd.func6 rfl rfl Tryd.ntmps6 rfl (Wd.refl _) ?_
  (repeat' ((fail_if_success (show VH _ _ (.seq (.region 3 _ _) _) _ _ _ _)); first | (show VH _ _ _ _ _ _ _; first | refine v_seq ?_ | refine r_seq ?_ | refine v_skip ?_ | refine v_cond_f rfl tbL ?_) | (show SH _ _ _ _ _ (_ :: _) _ _ _; first | (show SH _ _ _ _ _ (⟨_, _, _, _, _, some _⟩ :: _) _ _ _; (refine gif rfl rfl ?_; refine giFF tbL ?_)) | (show SH _ _ _ _ _ (⟨_, .move _, _, _, _, _⟩ :: _) _ _ _; refine mov evL ?_) | (show SH _ _ _ _ _ (⟨_, .assign _, _, _, _, _⟩ :: _) _ _ _; refine asg evL ?_) | (show SH _ _ _ _ _ (⟨_, .binOp .gtr _ _ _ _, _, _, _, _⟩ :: _) _ _ _; refine gtrF rfl rfl omD ?_) | (show SH _ _ _ _ _ (⟨_, .load _ _, _, _, _, _⟩ :: _) _ _ _; first | refine lbx rfl spL (by rfl) ?_ | refine lba rfl spL (by rfl) ?_) | refine slen rfl ?_ | (show SH _ _ _ _ _ (⟨_, .call ⟨.value (.func 24), _, _⟩, _, _, _, _⟩ :: _) _ _ _; refine cl (callee := .func 24) rfl (fun w hw => hFw w hw.ext) rfl rfl ?_) | refine bnoT rfl ?_ | (show SH _ _ _ _ _ (⟨_, .pick _ _ _, _, _, _, _⟩ :: _) _ _ _; refine pkf rfl tbL evL ?_) | refine fad rfl ?_ | (show SH _ _ _ _ _ (⟨_, .box _ _, _, _, _, _⟩ :: _) _ _ _; refine bxx rfl evL rfl (fun b => ?_))) | refine s_nil ?_ | refine kh_normal ?_))
  rename_i b6 b7
  revert b
  intro b8
  refine v_seq ?_
  refine r_heldT [bx b8 42 (Flat.enc cc), bx b7 32 [.int .i64 ei, .slice Ae es.length ce], bx b6 25 [.int .i64 t, .slice A l.length c]] (tr [(0, true), (2, true), (1, false), (3, false), (4, false), (5, false), (6, true), (8, true), (7, false), (9, false), (10, false), (11, false), (12, false), (13, true), (15, true), (14, false), (16, false), (17, false), (18, false), (19, false), (20, true), (22, true), (21, false), (23, false), (24, false), (25, false), (26, false), (27, true), (28, true), (30, true), (31, true), (29, false), (32, false), (33, false), (34, false), (35, false)] .nil) hmix (by kernel_rfl) enL ?_
  (repeat' ((show SH _ _ _ _ _ (_ :: _) _ _ _; first | (show SH _ _ _ _ _ (⟨_, _, _, _, _, some _⟩ :: _) _ _ _; (refine gif rfl rfl ?_; refine giFF tbL ?_)) | (show SH _ _ _ _ _ (⟨_, .move _, _, _, _, _⟩ :: _) _ _ _; refine mov evL ?_) | (show SH _ _ _ _ _ (⟨_, .binOp .neq _ _ _ _, _, _, _, _⟩ :: _) _ _ _; first | refine neqF rfl rfl omD ?_ | refine neb rfl rfl ?_) | (show SH _ _ _ _ _ (⟨_, .load _ _, _, _, _, _⟩ :: _) _ _ _; refine lba rfl spL (by rfl) ?_) | (show SH _ _ _ _ _ (⟨_, .call ⟨.value (.func 17), _, _⟩, _, _, _, _⟩ :: _) _ _ _; refine cl (callee := .func 17) rfl (fun w hw => hFt w hw.ext) rfl rfl ?_) | (show SH _ _ _ _ _ (⟨_, .call ⟨.value (.func 25), _, _⟩, _, _, _, _⟩ :: _) _ _ _; refine cl (callee := .func 25) rfl (fun w hw => hFr w hw.ext) rfl rfl ?_) | (show SH _ _ _ _ _ (⟨_, .call ⟨.value (.func 26), _, _⟩, _, _, _, _⟩ :: _) _ _ _; refine cl (callee := .func 26) rfl (fun w hw => hRt w hw.ext) rfl rfl ?_) | (show SH _ _ _ _ _ (⟨_, .call ⟨.value (.func 27), _, _⟩, _, _, _, _⟩ :: _) _ _ _; refine cl (callee := .func 27) rfl (fun w hw => hRr w hw.ext) rfl rfl ?_) | (show SH _ _ _ _ _ (⟨_, .call ⟨.value (.func 15), _, _⟩, _, _, _, _⟩ :: _) _ _ _; refine cl (callee := .func 15) rfl (fun w hw => hVt w hw.ext) rfl rfl ?_) | (show SH _ _ _ _ _ (⟨_, .call ⟨.value (.func 28), _, _⟩, _, _, _, _⟩ :: _) _ _ _; refine cl (callee := .func 28) rfl (fun w hw => hVr w hw.ext) rfl rfl ?_) | (show SH _ _ _ _ _ (⟨_, .call ⟨.value (.func 22), _, _⟩, _, _, _, _⟩ :: _) _ _ _; refine cl (callee := .func 22) rfl (fun w hw => hMt w hw.ext) rfl rfl ?_) | (show SH _ _ _ _ _ (⟨_, .call ⟨.value (.func 29), _, _⟩, _, _, _, _⟩ :: _) _ _ _; refine cl (callee := .func 29) rfl (fun w hw => hMr w hw.ext) rfl rfl ?_) | (show SH _ _ _ _ _ (⟨_, .call ⟨.value (.func 21), _, _⟩, _, _, _, _⟩ :: _) _ _ _; refine cp (callee := .func 21) rfl (fun w hw => hPt w hw.ext) rfl rfl ?_) | (show SH _ _ _ _ _ (⟨_, .pick _ _ _, _, _, _, _⟩ :: _) _ _ _; refine pkf rfl tbL evL ?_))))
  rintro _ _ ⟨A1, c1, rfl, rfl⟩
  (repeat' ((show SH _ _ _ _ _ (_ :: _) _ _ _; first | (show SH _ _ _ _ _ (⟨_, _, _, _, _, some _⟩ :: _) _ _ _; (refine gif rfl rfl ?_; refine giFF tbL ?_)) | (show SH _ _ _ _ _ (⟨_, .call ⟨.value (.func 30), _, _⟩, _, _, _, _⟩ :: _) _ _ _; refine cp (callee := .func 30) rfl (fun w hw => hPr w hw.ext) rfl rfl ?_))))
  rintro _ _ ⟨A2, c2, rfl, rfl⟩
  (repeat' ((fail_if_success (show VH _ _ (.seq (.region 5 _ _) _) _ _ _ _)); first | (show VH _ _ _ _ _ _ _; first | refine v_skip ?_ | refine v_cond_f rfl tbL ?_) | (show SH _ _ _ _ _ (_ :: _) _ _ _; first | (show SH _ _ _ _ _ (⟨_, _, _, _, _, some _⟩ :: _) _ _ _; (refine gif rfl rfl ?_; refine giFF tbL ?_)) | (show SH _ _ _ _ _ (⟨_, .call ⟨.value (.func 23), _, _⟩, _, _, _, _⟩ :: _) _ _ _; refine cl (callee := .func 23) rfl (fun w hw => hSP _ _ _ _ w (hw.rd spL) (hw.rd spL)) rfl rfl ?_) | refine bnoT rfl ?_ | (show SH _ _ _ _ _ (⟨_, .pick _ _ _, _, _, _, _⟩ :: _) _ _ _; refine pkf rfl tbL evL ?_)) | refine s_nil ?_ | refine kh_normal ?_))
  refine v_norm [(3,_),(4,_),(5,_),(6,_),(7,_),(8,_),(12,_)] heL (fun g => ?_)
  refine VH.ent (G := [bx b8 42 (Flat.enc cc), bx b7 32 [.int .i64 ei, .slice Ae es.length ce], bx b6 25 [.int .i64 t, .slice A l.length c]]) ?_ enL
  clear hFt hFr hRt hRr hVt hVr hMt hMr hPt hPr hSP hPl hv1 hv2 hv3 hFw h14
  unfold entD at hEr
  unfold EntityR at hEt
  obtain ⟨g0, g1, g2, g3, g4⟩ := gc
  rw [show Flat.enc (⟨g0, g1, g2, g3, g4⟩ : Comp) = [.int .u8 g0, .int .i64 g1, .int .i64 g2, .int .i64 g3, .int .i64 g4] from rfl] at hGt hGr
  cases hb : findB t id l with
  | false =>
    rw [hb] at hEr hEt
    simp only [Bool.false_eq_true, if_false] at hEr hEt
    rw [show (Flat.enc (Flat.dflt : EntP)).toArray = #[.int .i64 0, .slice none 0 0] from rfl] at hEr
    have hSE := fun w => sameE_spec ⟨⟨0, []⟩, none, 0⟩ ⟨⟨0, []⟩, none, 0⟩ w (Rd.nil _ _) (Rd.nil _ _) (by simp)
    simp only [decide_eq_true] at hSE
    (repeat' (first | (show VH _ _ _ _ _ _ _; first | refine v_seq ?_ | refine r_seq ?_) | (show SH _ _ _ _ _ (_ :: _) _ _ _; first | (show SH _ _ _ _ _ (⟨_, .move _, _, _, _, _⟩ :: _) _ _ _; refine mov evL ?_) | (show SH _ _ _ _ _ (⟨_, .load _ _, _, _, _, _⟩ :: _) _ _ _; refine lba rfl spL (by rfl) ?_) | (show SH _ _ _ _ _ (⟨_, .call ⟨.value (.func 12), _, _⟩, _, _, _, _⟩ :: _) _ _ _; refine cp (callee := .func 12) rfl (fun w hw => hEt w hw.ext) rfl rfl ?_))))
    rintro _ _ ⟨rfl, rfl⟩
    (repeat' ((fail_if_success (show VH _ _ (.seq (.region 11 _ _) _) _ _ _ _)); first | (show VH _ _ _ _ _ _ _; first | refine v_seq ?_ | refine r_seq ?_) | (show SH _ _ _ _ _ (_ :: _) _ _ _; first | (show SH _ _ _ _ _ (⟨_, .move _, _, _, _, _⟩ :: _) _ _ _; refine mov evL ?_) | (show SH _ _ _ _ _ (⟨_, .assign _, _, _, _, _⟩ :: _) _ _ _; refine asg evL ?_) | (show SH _ _ _ _ _ (⟨_, .load _ _, _, _, _, _⟩ :: _) _ _ _; refine lba rfl spL (by rfl) ?_) | (show SH _ _ _ _ _ (⟨_, .call ⟨.value (.func 31), _, _⟩, _, _, _, _⟩ :: _) _ _ _; refine cl (callee := .func 31) rfl (fun w hw => hEr w hw.ext) rfl rfl ?_) | (show SH _ _ _ _ _ (⟨_, .call ⟨.value (.func 19), _, _⟩, _, _, _, _⟩ :: _) _ _ _; refine cl (callee := .func 19) rfl (fun w hw => hGt w hw.ext) rfl rfl ?_) | (show SH _ _ _ _ _ (⟨_, .call ⟨.value (.func 32), _, _⟩, _, _, _, _⟩ :: _) _ _ _; refine cl (callee := .func 32) rfl (fun w hw => hGr w hw.ext) rfl rfl ?_) | (show SH _ _ _ _ _ (⟨_, .call ⟨.value (.func 11), _, _⟩, _, _, _, _⟩ :: _) _ _ _; refine cl (callee := .func 11) rfl (fun w hw => hNt w hw.ext) rfl rfl ?_) | (show SH _ _ _ _ _ (⟨_, .call ⟨.value (.func 33), _, _⟩, _, _, _, _⟩ :: _) _ _ _; refine cl (callee := .func 33) rfl (fun w hw => hNr w hw.ext) rfl rfl ?_) | refine extr rfl rfl ?_ | refine ala rfl (fun b => ?_) | (show SH _ _ _ _ _ (⟨_, .store _ _ _, _, _, _, _⟩ :: _) _ _ _; refine sta rfl rfl rfl spL (by rfl) (by rfl) (by rfl) kpL ?_)) | refine s_nil ?_ | refine kh_normal ?_))
    rename_i b13 b15 b17
    revert b
    intro b19
    refine v_seq ?_
    refine r_heldT [bx b19 42 [.int .u8 g0, .int .i64 g1, .int .i64 g2, .int .i64 g3, .int .i64 g4], bx b17 42 [.int .u8 g0, .int .i64 g1, .int .i64 g2, .int .i64 g3, .int .i64 g4], bx b15 32 [.int .i64 0, .slice none 0 0], bx b13 32 [.int .i64 0, .slice none 0 0], bx b6 25 [.int .i64 t, .slice A l.length c]] (tr [(0, true), (1, false), (2, false), (3, false), (4, true), (5, false), (6, false), (7, false), (8, false), (9, true), (10, false), (11, false), (12, false), (13, false), (14, true), (15, false), (16, false), (17, false), (18, false), (19, true), (20, false), (21, false), (22, false), (23, false), (24, true), (25, false), (26, false), (27, false), (28, false), (29, true), (30, true), (32, true), (33, true), (31, false), (34, false), (35, false), (36, false), (37, false), (38, false), (39, false), (40, false)] .nil) hmix (by kernel_rfl) enL ?_
    (repeat' ((show SH _ _ _ _ _ (_ :: _) _ _ _; first | (show SH _ _ _ _ _ (⟨_, _, _, _, _, some _⟩ :: _) _ _ _; (refine gif rfl rfl ?_; refine giTT tbL ?_)) | (show SH _ _ _ _ _ (⟨_, .move _, _, _, _, _⟩ :: _) _ _ _; refine mov evL ?_) | refine eqb rfl rfl ?_ | (show SH _ _ _ _ _ (⟨_, .load _ _, _, _, _, _⟩ :: _) _ _ _; refine lba rfl spL (by rfl) ?_) | (show SH _ _ _ _ _ (⟨_, .call ⟨.value (.func 23), _, _⟩, _, _, _, _⟩ :: _) _ _ _; refine cl (callee := .func 23) rfl (fun w hw => hSE w) rfl rfl ?_) | (show SH _ _ _ _ _ (⟨_, .pick _ _ _, _, _, _, _⟩ :: _) _ _ _; refine pkt rfl tbL evL ?_))))
    refine eqa (⟨g0, g1, g2, g3, g4⟩ : Comp) ⟨g0, g1, g2, g3, g4⟩ rfl rfl ?_
    rw [decide_eq_true rfl]
    (repeat' ((show SH _ _ _ _ _ (_ :: _) _ _ _; first | (show SH _ _ _ _ _ (⟨_, _, _, _, _, some _⟩ :: _) _ _ _; (refine gif rfl rfl ?_; refine giTT tbL ?_)) | (show SH _ _ _ _ _ (⟨_, .move _, _, _, _, _⟩ :: _) _ _ _; refine mov evL ?_) | (show SH _ _ _ _ _ (⟨_, .binOp .eql _ _ _ _, _, _, _, _⟩ :: _) _ _ _; refine eqlT rfl rfl omD ?_) | (show SH _ _ _ _ _ (⟨_, .load _ _, _, _, _, _⟩ :: _) _ _ _; refine lba rfl spL (by rfl) ?_) | (show SH _ _ _ _ _ (⟨_, .call ⟨.value (.func 20), _, _⟩, _, _, _, _⟩ :: _) _ _ _; refine cp (callee := .func 20) rfl (fun w hw => hWt w hw.ext) rfl rfl ?_) | (show SH _ _ _ _ _ (⟨_, .pick _ _ _, _, _, _, _⟩ :: _) _ _ _; refine pkt rfl tbL evL ?_))))
    rintro _ _ ⟨A5, c5, rfl, rfl⟩
    (repeat' ((show SH _ _ _ _ _ (_ :: _) _ _ _; first | (show SH _ _ _ _ _ (⟨_, _, _, _, _, some _⟩ :: _) _ _ _; (refine gif rfl rfl ?_; refine giTT tbL ?_)) | (show SH _ _ _ _ _ (⟨_, .call ⟨.value (.func 35), _, _⟩, _, _, _, _⟩ :: _) _ _ _; refine cp (callee := .func 35) rfl (fun w hw => hWr w hw.ext) rfl rfl ?_))))
    rintro _ _ ⟨A6, c6, rfl, rfl⟩
    (repeat' (first | refine v_ret ?_ | (show SH _ _ _ _ _ (_ :: _) _ _ _; first | (show SH _ _ _ _ _ (⟨_, _, _, _, _, some _⟩ :: _) _ _ _; (refine gif rfl rfl ?_; refine giTT tbL ?_)) | (show SH _ _ _ _ _ (⟨_, .move _, _, _, _, _⟩ :: _) _ _ _; refine mov evL ?_) | (show SH _ _ _ _ _ (⟨_, .assign _, _, _, _, _⟩ :: _) _ _ _; refine asg evL ?_) | (show SH _ _ _ _ _ (⟨_, .call ⟨.value (.func 34), _, _⟩, _, _, _, _⟩ :: _) _ _ _; refine cl (callee := .func 34) rfl (fun w hw => hSI _ _ _ _ w (hw.rd spL) (hw.rd spL)) rfl rfl ?_) | (show SH _ _ _ _ _ (⟨_, .call ⟨.value (.func 14), _, _⟩, _, _, _, _⟩ :: _) _ _ _; refine cl (callee := .func 14) rfl (fun w hw => hA w hw.ext) rfl rfl ?_) | (show SH _ _ _ _ _ (⟨_, .pick _ _ _, _, _, _, _⟩ :: _) _ _ _; refine pkt rfl tbL evL ?_)) | refine s_nil ?_ | refine kh_normal ?_))
    exact rh1 rfl rfl ⟨rfl, rfl⟩ (ent_nil _)
  | true =>
    rw [hb] at hEr hEt
    simp only [if_true] at hEr hEt
    unfold findB hasK at hb
    simp only [Bool.and_eq_true, decide_eq_true_eq] at hb
    have hx := getD_mem (d := Flat.dflt) hb.2.1
    have hxi : (l.getD (lbK idE id l) Flat.dflt).e.id = id := hb.2.2
    have hxr := hr.2 _ hx
    have hxl := hc14 _ hx
    clear hb hx
    generalize l.getD (lbK idE id l) Flat.dflt = x at hEt hEr hxi hxr hxl
    obtain ⟨⟨xi, xs⟩, Ax, cx⟩ := x
    simp only at hEt hEr hxi hxr hxl
    subst hxi
    rw [show (Flat.enc (⟨⟨xi, xs⟩, Ax, cx⟩ : EntP)).toArray = #[.int .i64 xi, .slice Ax xs.length cx] from rfl] at hEr
    have hSE := fun A1 c1 w h1 h2 => sameE_spec ⟨⟨xi, xs⟩, A1, c1⟩ ⟨⟨xi, xs⟩, Ax, cx⟩ w h1 h2 (by show xs.length ≤ _; omega)
    simp only [decide_eq_true] at hSE
    clear hxl
    (repeat' (first | (show VH _ _ _ _ _ _ _; first | refine v_seq ?_ | refine r_seq ?_) | (show SH _ _ _ _ _ (_ :: _) _ _ _; first | (show SH _ _ _ _ _ (⟨_, .move _, _, _, _, _⟩ :: _) _ _ _; refine mov evL ?_) | (show SH _ _ _ _ _ (⟨_, .load _ _, _, _, _, _⟩ :: _) _ _ _; refine lba rfl spL (by rfl) ?_) | (show SH _ _ _ _ _ (⟨_, .call ⟨.value (.func 12), _, _⟩, _, _, _, _⟩ :: _) _ _ _; refine cp (callee := .func 12) rfl (fun w hw => hEt w hw.ext) rfl rfl ?_))))
    rintro _ _ ⟨A3, c3, rfl, rfl⟩
    (repeat' ((fail_if_success (show VH _ _ (.seq (.region 11 _ _) _) _ _ _ _)); first | (show VH _ _ _ _ _ _ _; first | refine v_seq ?_ | refine r_seq ?_) | (show SH _ _ _ _ _ (_ :: _) _ _ _; first | (show SH _ _ _ _ _ (⟨_, .move _, _, _, _, _⟩ :: _) _ _ _; refine mov evL ?_) | (show SH _ _ _ _ _ (⟨_, .assign _, _, _, _, _⟩ :: _) _ _ _; refine asg evL ?_) | (show SH _ _ _ _ _ (⟨_, .load _ _, _, _, _, _⟩ :: _) _ _ _; refine lba rfl spL (by rfl) ?_) | (show SH _ _ _ _ _ (⟨_, .call ⟨.value (.func 31), _, _⟩, _, _, _, _⟩ :: _) _ _ _; refine cl (callee := .func 31) rfl (fun w hw => hEr w hw.ext) rfl rfl ?_) | (show SH _ _ _ _ _ (⟨_, .call ⟨.value (.func 19), _, _⟩, _, _, _, _⟩ :: _) _ _ _; refine cl (callee := .func 19) rfl (fun w hw => hGt w hw.ext) rfl rfl ?_) | (show SH _ _ _ _ _ (⟨_, .call ⟨.value (.func 32), _, _⟩, _, _, _, _⟩ :: _) _ _ _; refine cl (callee := .func 32) rfl (fun w hw => hGr w hw.ext) rfl rfl ?_) | (show SH _ _ _ _ _ (⟨_, .call ⟨.value (.func 11), _, _⟩, _, _, _, _⟩ :: _) _ _ _; refine cl (callee := .func 11) rfl (fun w hw => hNt w hw.ext) rfl rfl ?_) | (show SH _ _ _ _ _ (⟨_, .call ⟨.value (.func 33), _, _⟩, _, _, _, _⟩ :: _) _ _ _; refine cl (callee := .func 33) rfl (fun w hw => hNr w hw.ext) rfl rfl ?_) | refine extr rfl rfl ?_ | refine ala rfl (fun b => ?_) | (show SH _ _ _ _ _ (⟨_, .store _ _ _, _, _, _, _⟩ :: _) _ _ _; refine sta rfl rfl rfl spL (by rfl) (by rfl) (by rfl) kpL ?_)) | refine s_nil ?_ | refine kh_normal ?_))
    rename_i b13 b15 b17
    revert b
    intro b19
    refine v_seq ?_
    refine r_heldT [bx b19 42 [.int .u8 g0, .int .i64 g1, .int .i64 g2, .int .i64 g3, .int .i64 g4], bx b17 42 [.int .u8 g0, .int .i64 g1, .int .i64 g2, .int .i64 g3, .int .i64 g4], bx b15 32 [.int .i64 xi, .slice Ax xs.length cx], bx b13 32 [.int .i64 xi, .slice A3 xs.length c3], bx b6 25 [.int .i64 t, .slice A l.length c]] (tr [(0, true), (1, false), (2, false), (3, false), (4, true), (5, false), (6, false), (7, false), (8, false), (9, true), (10, false), (11, false), (12, false), (13, false), (14, true), (15, false), (16, false), (17, false), (18, false), (19, true), (20, false), (21, false), (22, false), (23, false), (24, true), (25, false), (26, false), (27, false), (28, false), (29, true), (30, true), (32, true), (33, true), (31, false), (34, false), (35, false), (36, false), (37, false), (38, false), (39, false), (40, false)] .nil) hmix (by kernel_rfl) enL ?_
    (repeat' ((show SH _ _ _ _ _ (_ :: _) _ _ _; first | (show SH _ _ _ _ _ (⟨_, _, _, _, _, some _⟩ :: _) _ _ _; (refine gif rfl rfl ?_; refine giTT tbL ?_)) | (show SH _ _ _ _ _ (⟨_, .move _, _, _, _, _⟩ :: _) _ _ _; refine mov evL ?_) | refine eqb rfl rfl ?_ | (show SH _ _ _ _ _ (⟨_, .load _ _, _, _, _, _⟩ :: _) _ _ _; refine lba rfl spL (by rfl) ?_) | (show SH _ _ _ _ _ (⟨_, .call ⟨.value (.func 23), _, _⟩, _, _, _, _⟩ :: _) _ _ _; refine cl (callee := .func 23) rfl (fun w hw => hSE _ _ w (hw.rd spL) (hxr.ext hw.ext)) rfl rfl ?_) | (show SH _ _ _ _ _ (⟨_, .pick _ _ _, _, _, _, _⟩ :: _) _ _ _; refine pkt rfl tbL evL ?_))))
    refine eqa (⟨g0, g1, g2, g3, g4⟩ : Comp) ⟨g0, g1, g2, g3, g4⟩ rfl rfl ?_
    rw [decide_eq_true rfl]
    (repeat' ((show SH _ _ _ _ _ (_ :: _) _ _ _; first | (show SH _ _ _ _ _ (⟨_, _, _, _, _, some _⟩ :: _) _ _ _; (refine gif rfl rfl ?_; refine giTT tbL ?_)) | (show SH _ _ _ _ _ (⟨_, .move _, _, _, _, _⟩ :: _) _ _ _; refine mov evL ?_) | (show SH _ _ _ _ _ (⟨_, .binOp .eql _ _ _ _, _, _, _, _⟩ :: _) _ _ _; refine eqlT rfl rfl omD ?_) | (show SH _ _ _ _ _ (⟨_, .load _ _, _, _, _, _⟩ :: _) _ _ _; refine lba rfl spL (by rfl) ?_) | (show SH _ _ _ _ _ (⟨_, .call ⟨.value (.func 20), _, _⟩, _, _, _, _⟩ :: _) _ _ _; refine cp (callee := .func 20) rfl (fun w hw => hWt w hw.ext) rfl rfl ?_) | (show SH _ _ _ _ _ (⟨_, .pick _ _ _, _, _, _, _⟩ :: _) _ _ _; refine pkt rfl tbL evL ?_))))
    rintro _ _ ⟨A5, c5, rfl, rfl⟩
    (repeat' ((show SH _ _ _ _ _ (_ :: _) _ _ _; first | (show SH _ _ _ _ _ (⟨_, _, _, _, _, some _⟩ :: _) _ _ _; (refine gif rfl rfl ?_; refine giTT tbL ?_)) | (show SH _ _ _ _ _ (⟨_, .call ⟨.value (.func 35), _, _⟩, _, _, _, _⟩ :: _) _ _ _; refine cp (callee := .func 35) rfl (fun w hw => hWr w hw.ext) rfl rfl ?_))))
    rintro _ _ ⟨A6, c6, rfl, rfl⟩
    (repeat' (first | refine v_ret ?_ | (show SH _ _ _ _ _ (_ :: _) _ _ _; first | (show SH _ _ _ _ _ (⟨_, _, _, _, _, some _⟩ :: _) _ _ _; (refine gif rfl rfl ?_; refine giTT tbL ?_)) | (show SH _ _ _ _ _ (⟨_, .move _, _, _, _, _⟩ :: _) _ _ _; refine mov evL ?_) | (show SH _ _ _ _ _ (⟨_, .assign _, _, _, _, _⟩ :: _) _ _ _; refine asg evL ?_) | (show SH _ _ _ _ _ (⟨_, .call ⟨.value (.func 34), _, _⟩, _, _, _, _⟩ :: _) _ _ _; refine cl (callee := .func 34) rfl (fun w hw => hSI _ _ _ _ w (hw.rd spL) (hw.rd spL)) rfl rfl ?_) | (show SH _ _ _ _ _ (⟨_, .call ⟨.value (.func 14), _, _⟩, _, _, _, _⟩ :: _) _ _ _; refine cl (callee := .func 14) rfl (fun w hw => hA w hw.ext) rfl rfl ?_) | (show SH _ _ _ _ _ (⟨_, .pick _ _ _, _, _, _, _⟩ :: _) _ _ _; refine pkt rfl tbL evL ?_)) | refine s_nil ?_ | refine kh_normal ?_))
    exact rh1 rfl rfl ⟨rfl, rfl⟩ (ent_nil _)
theorem tellsLawI (t : Int) (A : Option Addr) (l : List EntP) (c : Nat) (e : EntP) (cc : Comp) (id kd m : Int) (W : World) (hG : Glob W) (hr : RdW W A l) (hre : Rd W e.A e.e.comps) (lo : 0 ≤ m) (hi : m ≤ 4294967295) :
    Ret Tryd.prog 6 [wv t A l c, .agg (Flat.enc e).toArray, .agg (Flat.enc cc).toArray, .int .i64 id, .int .u8 kd, .int .u32 m].toArray W (Out W (.bool true)) := by
  obtain ⟨n, rfl⟩ : ∃ n : Nat, m = (n : Int) := ⟨m.toNat, by omega⟩
  exact tellsLaw t A l c e cc id kd n W hG hr hre (by omega)
end Go.Proofs.YtfodpcpclmnbkaaDoor
