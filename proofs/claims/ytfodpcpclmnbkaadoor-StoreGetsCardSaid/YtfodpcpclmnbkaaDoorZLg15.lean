/- StoreGets (printed by gen_lg15.py). -/
import Derived.Test.YtfodpcpclmnbkaaDoorZTw
import Derived.Test.YtfodpcpclmnbkaaDoorZPg15
import Derived.Test.YtfodpcpclmnbkaaDoorZBu15
import Derived.Test.YtfodpcpclmnbkaaDoorZJc
import Derived.Test.YtfodpcpclmnbkaaDoorZWz
set_option linter.unusedSimpArgs false
set_option linter.unusedVariables false
namespace Go.Proofs.YtfodpcpclmnbkaaDoor
open Go.Fw Go.RowKit
theorem same_nil (A1 : Option Addr) (c1 : Nat) (w : World) : Ret Tryd.prog 18 [.agg #[.int .i64 0, .slice A1 0 c1], .agg #[.int .i64 0, .slice none 0 0]].toArray w (Out w (.bool true)) := by
  have := same_spec 0 0 A1 none [] [] c1 0 w ⟨Rd.nil _ _, fun x hx => by cases hx⟩ ⟨Rd.nil _ _, fun x hx => by cases hx⟩ ⟨by simp, fun x hx => by cases hx⟩
  rw [decide_eq_true ⟨rfl, rfl⟩] at this
  exact this
set_option maxHeartbeats 4000000 in
set_option maxRecDepth 100000 in
theorem getsLaw (A0 : Option Addr) (c0 : Nat) (l0 : List U16) (a1 : Int) (cc dd : Comp) (W : World) (hG : Glob W) (hr0 : Rd W A0 l0) (hb0 : R16 l0) (hl0 : l0.length ≤ maxLen) (hc0 : l0.length ≤ c0) (lo1 : 0 ≤ a1) (hi1 : a1 ≤ 255) :
    Ret Tryd.prog 4 [.slice A0 l0.length c0, .int .u8 a1, .agg (Flat.enc cc).toArray, .agg (Flat.enc dd).toArray].toArray W (Out W (.bool true)) := by
  have hB := fun w' (he : Ext W w') => built_spec A0 l0 c0 w' hl0 hc0 (hr0.ext he) hb0
  have hv := built_valid hb0
  have hcm0 : ∀ e ∈ builtL l0, e.comps.length ≤ 10 := fun e he => built_comps he
  unfold WorldR wv at hB
  generalize builtL l0 = es0 at hB hv hcm0
  have hA := fun w (h : Ext W w) => awake15_spec w (hG.ext h)
  have hTc := fun w (h : Ext W w) => fits_spec cc w (hG.ext h)
  have hTd := fun w (h : Ext W w) => fits_spec dd w (hG.ext h)
  have hcE : Flat.enc cc = [.int .u8 cc.kind, .int .i64 cc.a, .int .i64 cc.b, .int .i64 cc.c, .int .i64 cc.d] := rfl
  have hdE : Flat.enc dd = [.int .u8 dd.kind, .int .i64 dd.a, .int .i64 dd.b, .int .i64 dd.c, .int .i64 dd.d] := rfl
  clear hr0 hb0 hl0 hc0
  refine enterH Tryd.func4 rfl rfl Tryd.ntmps4 rfl (Wd.refl _) ?_
  (repeat' (first | (show VH _ _ _ _ _ _ _; first | refine v_seq ?_ | refine r_seq ?_) | (show SH _ _ _ _ _ (_ :: _) _ _ _; first | (show SH _ _ _ _ _ (⟨_, .move _, _, _, _, _⟩ :: _) _ _ _; refine mov evL ?_) | (show SH _ _ _ _ _ (⟨_, .assign _, _, _, _, _⟩ :: _) _ _ _; refine asg evL ?_) | (show SH _ _ _ _ _ (⟨_, .call ⟨.value (.func 10), _, _⟩, _, _, _, _⟩ :: _) _ _ _; refine cp (callee := .func 10) rfl (fun w hw => hB w hw.ext) rfl rfl ?_) | (show SH _ _ _ _ _ (⟨_, .box _ _, _, _, _, _⟩ :: _) _ _ _; refine bxx rfl evL rfl (fun b => ?_))) | refine s_nil ?_ | refine kh_normal ?_))
  rintro _ _ ⟨A, c, L, rfl, hL, rfl⟩
  clear hB
  have hL' : ents L = es0 := hL
  subst hL'
  have hle := ents_len L
  have hl64 := hv.len
  rw [hle] at hl64
  obtain ⟨hs, hl, hse, hse2⟩ := built_sz (L := L) rfl (by omega) hcm0 (by omega)
  have hV0 := fun w hG hr => valid_spec 5 A L c w hG hs hr
  rw [decide_eq_true hv] at hV0
  have hS0 := fun id d w hG hr => set_spec 5 id d A L c w hG hs hl hse hr
  have hG0 := fun id k w hG hr => get_spec 5 id k A L c w hG hs hr
  unfold wv at hV0 hS0 hG0
  unfold ChgR wv at hS0
  (repeat' ((fail_if_success (show VH _ _ (.seq (.region 2 _ _) _) _ _ _ _)); first | refine v_seq ?_ | (show SH _ _ _ _ _ (_ :: _) _ _ _; first | refine ala rfl (fun b => ?_) | (show SH _ _ _ _ _ (⟨_, .store _ _ _, _, _, _, _⟩ :: _) _ _ _; refine sta rfl rfl rfl spL (by rfl) (by rfl) (by rfl) kpL ?_)) | refine s_nil ?_ | refine kh_normal ?_))
  rename_i b6 b7
  revert b
  intro b9
  refine VH.ent (G := [bx b9 25 [.int .i64 5, .slice A L.length c], knw A L, bx b6 42 (Flat.enc cc), bx b7 42 (Flat.enc dd)]) ?_ (Ent.trans (B := [orow 32 A c L, allH (L.map rowOf), bx b9 25 [.int .i64 5, .slice A L.length c], bx b6 42 (Flat.enc cc), bx b7 42 (Flat.enc dd)]) enL (ent_knw.trans enL))
  by_cases h0 : L.length = 0
  · (repeat' (first | (show VH _ _ _ _ _ _ _; first | refine v_seq ?_ | refine r_seq ?_ | refine v_ret ?_ | refine v_skip ?_ | refine v_cond_t rfl tbL ?_ | refine v_cond_f rfl tbL ?_) | (show SH _ _ _ _ _ (_ :: _) _ _ _; first | (show SH _ _ _ _ _ (⟨_, .assign _, _, _, _, _⟩ :: _) _ _ _; refine asg evL ?_) | (show SH _ _ _ _ _ (⟨_, .binOp .eql _ _ _ _, _, _, _, _⟩ :: _) _ _ _; refine eqlT rfl rfl omD ?_) | (show SH _ _ _ _ _ (⟨_, .load _ _, _, _, _, _⟩ :: _) _ _ _; first | refine lbx rfl spL (by rfl) ?_ | refine lba rfl spL (by rfl) ?_) | refine slen rfl ?_ | (show SH _ _ _ _ _ (⟨_, .call ⟨.value (.func 15), _, _⟩, _, _, _, _⟩ :: _) _ _ _; refine cl (callee := .func 15) rfl (fun w hw => hV0 w (hG.ext hw.ext) (hw.kw spL)) rfl rfl ?_) | (show SH _ _ _ _ _ (⟨_, .call ⟨.value (.func 14), _, _⟩, _, _, _, _⟩ :: _) _ _ _; refine cl (callee := .func 14) rfl (fun w hw => hA w hw.ext) rfl rfl ?_) | refine bnoT rfl ?_ | refine fad rfl ?_) | refine s_nil ?_ | refine kh_normal ?_ | refine kh_ret ?_))
    exact rh1 rfl rfl ⟨rfl, rfl⟩ (ent_nil _)
  obtain ⟨i, hi⟩ : ∃ i : Nat, a1 % (L.length : Int) = i := ⟨(a1 % (L.length : Int)).toNat, by
    have := Int.emod_nonneg a1 (show (L.length : Int) ≠ 0 by omega)
    omega⟩
  have hil : i < L.length := by
    have := Int.emod_lt_of_pos a1 (show (0 : Int) < (L.length : Int) by omega)
    omega
  obtain ⟨x, hx⟩ : ∃ x, (L.getD i Flat.dflt).e = x := ⟨_, rfl⟩
  have hxm : x ∈ ents L := by rw [← hx]; exact List.mem_map_of_mem (getD_mem hil)
  have hxi : (L.getD i Flat.dflt).e.id = x.id := by rw [hx]
  clear hx
  (repeat' ((fail_if_success (show VH _ _ (.seq (.region 7 _ _) _) _ _ _ _)); first | (show VH _ _ _ _ _ _ _; first | refine v_seq ?_ | refine r_seq ?_ | refine r_quiet hmix (by kernel_rfl) ?_ | refine v_skip ?_ | refine v_cond_f rfl tbL ?_) | (show SH _ _ _ _ _ (_ :: _) _ _ _; first | (show SH _ _ _ _ _ (⟨_, .move _, _, _, _, _⟩ :: _) _ _ _; refine mov evL ?_) | (show SH _ _ _ _ _ (⟨_, .assign _, _, _, _, _⟩ :: _) _ _ _; refine asg evL ?_) | (show SH _ _ _ _ _ (⟨_, .binOp .eql _ _ _ _, _, _, _, _⟩ :: _) _ _ _; refine eqlF rfl rfl omD ?_) | (show SH _ _ _ _ _ (⟨_, .binOp .rem _ _ _ _, _, _, _, _⟩ :: _) _ _ _; refine rem rfl rfl omL omL ?_) | (show SH _ _ _ _ _ (⟨_, .load _ _, _, _, _, _⟩ :: _) _ _ _; first | refine lbx rfl spL (by rfl) ?_ | refine lba rfl spL (by rfl) ?_ | refine lrf rfl (fun _ _ => rdY) (by rfl) omL (by rfl) ?_ | refine lrf rfl (fun _ _ => rdY) (by rfl) (by simp only [List.length_cons, List.length_nil]; omega) (by rfl) ?_) | (show SH _ _ _ _ _ (⟨_, .indexAddr _ _ _, _, _, _, _⟩ :: _) _ _ _; first | refine ixi rfl rfl (fun _ _ => rdY) (by rfl) omL omL omL ?_ | refine ixi rfl rfl (fun _ _ => rdY) (by rfl) omL (by first | omega | (simp only [List.length_cons, List.length_nil]; omega)) (by simp only [List.length_cons, List.length_nil]; omega) ?_) | refine slen rfl ?_ | (show SH _ _ _ _ _ (⟨_, .call ⟨.value (.func 15), _, _⟩, _, _, _, _⟩ :: _) _ _ _; refine cl (callee := .func 15) rfl (fun w hw => hV0 w (hG.ext hw.ext) (hw.kw spL)) rfl rfl ?_) | refine bnoT rfl ?_ | refine fad rfl ?_ | (show SH _ _ _ _ _ (⟨_, .convert _ _ _, _, _, _, _⟩ :: _) _ _ _; refine c64 rfl inL ?_)) | refine s_nil ?_ | refine kh_normal ?_))
  rw [hi, Int.toNat_natCast, hxi]
  clear hV0 hi hil hxi h0
  refine v_norm [(6,_),(7,_),(8,_),(9,_),(10,_)] heL (fun g => ?_)
  have hS := fun w hG hr => hS0 x.id cc w hG hr
  by_cases hc : Fits cc
  case neg =>
    rw [set_bad hc] at hS
    simp only [show ((2 : Int) = 0) = False from by simp, if_false] at hS
    rw [decide_eq_false hc] at hTc
    clear hS0 hG0 hTd
    (repeat' (first | (show VH _ _ _ _ _ _ _; first | refine v_seq ?_ | refine r_seq ?_) | (show SH _ _ _ _ _ (_ :: _) _ _ _; first | (show SH _ _ _ _ _ (⟨_, .move _, _, _, _, _⟩ :: _) _ _ _; refine mov evL ?_) | (show SH _ _ _ _ _ (⟨_, .load _ _, _, _, _, _⟩ :: _) _ _ _; refine lba rfl spL (by rfl) ?_) | (show SH _ _ _ _ _ (⟨_, .call ⟨.value (.func 16), _, _⟩, _, _, _, _⟩ :: _) _ _ _; refine cp (callee := .func 16) rfl (fun w hw => hS w (hG.ext hw.ext) (hw.kw spL)) rfl rfl ?_))))
    rintro _ _ ⟨A2, c2, L2, rfl, hL2, rfl⟩
    obtain rfl : L2 = [] := List.map_eq_nil_iff.1 hL2
    clear hS
    (repeat' (first | (show VH _ _ _ _ _ _ _; first | refine v_seq ?_ | refine r_seq ?_ | refine v_ret ?_ | refine v_cond_t rfl tbL ?_) | (show SH _ _ _ _ _ (_ :: _) _ _ _; first | (show SH _ _ _ _ _ (⟨_, _, _, _, _, some _⟩ :: _) _ _ _; (refine gif rfl rfl ?_; refine giTT tbL ?_)) | (show SH _ _ _ _ _ (⟨_, .move _, _, _, _, _⟩ :: _) _ _ _; refine mov evL ?_) | (show SH _ _ _ _ _ (⟨_, .assign _, _, _, _, _⟩ :: _) _ _ _; refine asg evL ?_) | (show SH _ _ _ _ _ (⟨_, .binOp .eql _ _ _ _, _, _, _, _⟩ :: _) _ _ _; refine eqlT rfl rfl omD ?_) | (show SH _ _ _ _ _ (⟨_, .binOp .neq _ _ _ _, _, _, _, _⟩ :: _) _ _ _; refine neqT rfl rfl omD ?_) | (show SH _ _ _ _ _ (⟨_, .load _ _, _, _, _, _⟩ :: _) _ _ _; refine lba rfl spL (by rfl) ?_) | (show SH _ _ _ _ _ (⟨_, .call ⟨.value (.func 17), _, _⟩, _, _, _, _⟩ :: _) _ _ _; refine cl (callee := .func 17) rfl (fun w hw => hTc w hw.ext) rfl rfl ?_) | (show SH _ _ _ _ _ (⟨_, .call ⟨.value (.func 18), _, _⟩, _, _, _, _⟩ :: _) _ _ _; refine cl (callee := .func 18) rfl (fun w hw => same_nil A2 c2 w) rfl rfl ?_) | (show SH _ _ _ _ _ (⟨_, .call ⟨.value (.func 14), _, _⟩, _, _, _, _⟩ :: _) _ _ _; refine cl (callee := .func 14) rfl (fun w hw => hA w hw.ext) rfl rfl ?_) | refine bnoF rfl ?_ | (show SH _ _ _ _ _ (⟨_, .pick _ _ _, _, _, _, _⟩ :: _) _ _ _; refine pkt rfl tbL evL ?_) | refine extr rfl rfl ?_ | refine bld rfl rfl ?_ | refine ala rfl (fun b => ?_) | (show SH _ _ _ _ _ (⟨_, .store _ _ _, _, _, _, _⟩ :: _) _ _ _; refine sta rfl rfl rfl spL (by rfl) (by rfl) (by rfl) kpL ?_)) | refine s_nil ?_ | refine kh_normal ?_ | refine kh_ret ?_))
    exact rh1 rfl rfl ⟨rfl, rfl⟩ (ent_nil _)
  rw [set_err hv hxm hc] at hS
  simp only [if_true] at hS
  rw [decide_eq_true hc] at hTc
  (repeat' (first | (show VH _ _ _ _ _ _ _; first | refine v_seq ?_ | refine r_seq ?_) | (show SH _ _ _ _ _ (_ :: _) _ _ _; first | (show SH _ _ _ _ _ (⟨_, .move _, _, _, _, _⟩ :: _) _ _ _; refine mov evL ?_) | (show SH _ _ _ _ _ (⟨_, .load _ _, _, _, _, _⟩ :: _) _ _ _; refine lba rfl spL (by rfl) ?_) | (show SH _ _ _ _ _ (⟨_, .call ⟨.value (.func 16), _, _⟩, _, _, _, _⟩ :: _) _ _ _; refine cp (callee := .func 16) rfl (fun w hw => hS w (hG.ext hw.ext) (hw.kw spL)) rfl rfl ?_))))
  rintro _ _ ⟨A2, c2, L2, rfl, hL2, rfl⟩
  clear hS
  have hL2' : ents L2 = setL x.id cc (ents L) := hL2
  have hv2 := set_valid hv hxm hc
  have hcm2 : ∀ e ∈ setL x.id cc (ents L), e.comps.length ≤ 11 := set_comps hv hcm0
  have hget := fun i k => set_get (i := i) (k := k) hv hxm hc
  have hx2 := set_mem (c := cc) hv hxm
  have htw := fun h => set_twice (d := dd) hv hxm hc h
  have hsw := fun hd h => set_swap (d := dd) hv hxm hc hd h
  rw [← hL2'] at hv2 hcm2 hx2
  simp only [← hL2'] at hget htw hsw
  have hle2 := ents_len L2
  have hl264 := hv2.len
  rw [hle2] at hl264
  obtain ⟨hs2, hl2, hse2', hse22⟩ := built_sz (L := L2) rfl (by omega) hcm2 (by omega)
  have hV2 := fun w hG hr => valid_spec 5 A2 L2 c2 w hG hs2 hr
  rw [decide_eq_true hv2] at hV2
  have hS2 := fun w hG hr => set_spec 5 x.id dd A2 L2 c2 w hG hs2 hl2 hse2' hr
  have hG2 := fun id k w hG hr => get_spec 5 id k A2 L2 c2 w hG hs2 hr
  unfold wv at hV2 hS2 hG2
  unfold ChgR wv at hS2
  (repeat' ((fail_if_success (show VH _ _ (.seq (.region 8 _ _) _) _ _ _ _)); first | refine v_seq ?_ | (show SH _ _ _ _ _ (_ :: _) _ _ _; first | (show SH _ _ _ _ _ (⟨_, .move _, _, _, _, _⟩ :: _) _ _ _; refine mov evL ?_) | (show SH _ _ _ _ _ (⟨_, .assign _, _, _, _, _⟩ :: _) _ _ _; refine asg evL ?_) | refine extr rfl rfl ?_ | refine ala rfl (fun b => ?_) | (show SH _ _ _ _ _ (⟨_, .store _ _ _, _, _, _, _⟩ :: _) _ _ _; refine sta rfl rfl rfl spL (by rfl) (by rfl) (by rfl) kpL ?_)) | refine s_nil ?_ | refine kh_normal ?_))
  revert b
  intro b11
  refine VH.ent (G := [bx b11 25 [.int .i64 5, .slice A2 L2.length c2], knw A2 L2, bx b9 25 [.int .i64 5, .slice A L.length c], knw A L, bx b6 42 (Flat.enc cc), bx b7 42 (Flat.enc dd)]) ?_ (Ent.trans (B := [orow 32 A2 c2 L2, allH (L2.map rowOf), bx b11 25 [.int .i64 5, .slice A2 L2.length c2], bx b9 25 [.int .i64 5, .slice A L.length c], knw A L, bx b6 42 (Flat.enc cc), bx b7 42 (Flat.enc dd)]) enL (ent_knw.trans enL))
  have hg1 := fun w hG hr => hG2 x.id cc.kind w hG hr
  rw [hget, if_pos ⟨rfl, rfl⟩] at hg1
  clear hL2 hL2' hle2
  (repeat' (first | (show VH _ _ _ _ _ _ _; first | refine v_seq ?_ | refine r_seq ?_ | refine v_skip ?_ | refine v_cond_f rfl tbL ?_) | (show SH _ _ _ _ _ (_ :: _) _ _ _; first | (show SH _ _ _ _ _ (⟨_, _, _, _, _, some _⟩ :: _) _ _ _; (refine gif rfl rfl ?_; refine giFF tbL ?_)) | (show SH _ _ _ _ _ (⟨_, .move _, _, _, _, _⟩ :: _) _ _ _; refine mov evL ?_) | (show SH _ _ _ _ _ (⟨_, .assign _, _, _, _, _⟩ :: _) _ _ _; refine asg evL ?_) | (show SH _ _ _ _ _ (⟨_, .binOp .neq _ _ _ _, _, _, _, _⟩ :: _) _ _ _; refine neqF rfl rfl omD ?_) | (show SH _ _ _ _ _ (⟨_, .load _ _, _, _, _, _⟩ :: _) _ _ _; first | refine lbx rfl spL (by rfl) ?_ | refine lba rfl spL (by rfl) ?_) | (show SH _ _ _ _ _ (⟨_, .call ⟨.value (.func 19), _, _⟩, _, _, _, _⟩ :: _) _ _ _; refine cl (callee := .func 19) rfl (fun w hw => hg1 w (hG.ext hw.ext) (hw.kw (A := A2) (l := L2) spL)) rfl rfl ?_) | refine bnoT rfl ?_ | refine extr rfl rfl ?_ | refine fad rfl ?_ | refine ala rfl (fun b => ?_) | (show SH _ _ _ _ _ (⟨_, .store _ _ _, _, _, _, _⟩ :: _) _ _ _; refine sta rfl rfl rfl spL (by rfl) (by rfl) (by rfl) kpL ?_)) | refine s_nil ?_ | refine kh_normal ?_))
  refine nea cc cc rfl rfl ?_
  rw [decide_eq_true rfl]
  (repeat' (first | (show VH _ _ _ _ _ _ _; first | refine v_seq ?_ | refine r_seq ?_ | refine v_block ?_ | refine v_skip ?_ | refine v_cond_f rfl tbL ?_) | (show SH _ _ _ _ _ (_ :: _) _ _ _; first | (show SH _ _ _ _ _ (⟨_, _, _, _, _, some _⟩ :: _) _ _ _; (refine gif rfl rfl ?_; refine giFF tbL ?_)) | (show SH _ _ _ _ _ (⟨_, .move _, _, _, _, _⟩ :: _) _ _ _; refine mov evL ?_) | (show SH _ _ _ _ _ (⟨_, .binOp .neq _ _ _ _, _, _, _, _⟩ :: _) _ _ _; refine neqF rfl rfl omD ?_) | (show SH _ _ _ _ _ (⟨_, .load _ _, _, _, _, _⟩ :: _) _ _ _; first | refine lbx rfl spL (by rfl) ?_ | refine lba rfl spL (by rfl) ?_) | refine slen rfl ?_ | (show SH _ _ _ _ _ (⟨_, .call ⟨.value (.func 15), _, _⟩, _, _, _, _⟩ :: _) _ _ _; refine cl (callee := .func 15) rfl (fun w hw => hV2 w (hG.ext hw.ext) (hw.kw (A := A2) (l := L2) spL)) rfl rfl ?_) | (show SH _ _ _ _ _ (⟨_, .call ⟨.value (.func 17), _, _⟩, _, _, _, _⟩ :: _) _ _ _; refine cl (callee := .func 17) rfl (fun w hw => hTc w hw.ext) rfl rfl ?_) | refine bnoT rfl ?_ | (show SH _ _ _ _ _ (⟨_, .pick _ _ _, _, _, _, _⟩ :: _) _ _ _; refine pkf rfl tbL evL ?_) | refine fad rfl ?_) | refine s_nil ?_ | refine kh_normal ?_))
  
  refine v_norm [(6,_),(7,_),(8,_),(9,_),(10,_),(11,_),(106,_),(107,_),(108,_)] heL (fun g => ?_)
  refine VH.ent (G := [bx b11 25 [.int .i64 5, .slice A2 L2.length c2], knw A2 L2, bx b9 25 [.int .i64 5, .slice A L.length c], knw A L, bx b6 42 (Flat.enc cc), bx b7 42 (Flat.enc dd)]) ?_ enL
  refine v_loop0 [(8,8),(16,21),(108,150)] (fun i : Nat => [(108, .int .i64 i)]) (fun i => i ≤ L.length) (fun i => L.length - i) 0 hsL (Nat.zero_le _) ?_
  rintro i g2 hi
  simp only [sets]
  by_cases hil : i < L.length
  · obtain ⟨⟨⟨yi, ys⟩, Ay, cy⟩, hy⟩ : ∃ y, L.getD i Flat.dflt = y := ⟨_, rfl⟩
    have hyE : Flat.enc (L.getD i Flat.dflt) = [.int .i64 yi, .slice Ay ys.length cy] := by rw [hy]; rfl
    clear hy htw hsw hV2 hS2 hS0 hg1
    (repeat' (first | (show VH _ _ _ _ _ _ _; first | refine v_seq ?_ | refine r_seq ?_ | refine v_block ?_ | refine v_skip ?_ | refine v_cond_t rfl tbL ?_) | (show SH _ _ _ _ _ (_ :: _) _ _ _; first | (show SH _ _ _ _ _ (⟨_, .assign _, _, _, _, _⟩ :: _) _ _ _; refine asg evL ?_) | (show SH _ _ _ _ _ (⟨_, .binOp .lss _ _ _ _, _, _, _, _⟩ :: _) _ _ _; refine lssT rfl rfl omD ?_) | (show SH _ _ _ _ _ (⟨_, .load _ _, _, _, _, _⟩ :: _) _ _ _; refine lag rfl (fun _ _ => rdY) (by rfl) omL (by assumption) ?_) | (show SH _ _ _ _ _ (⟨_, .indexAddr _ _ _, _, _, _, _⟩ :: _) _ _ _; refine ix rfl rfl (by with_reducible rfl) (fun _ _ => rdY) (by rfl) omL omL ?_) | refine ala rfl (fun b => ?_) | (show SH _ _ _ _ _ (⟨_, .store _ _ _, _, _, _, _⟩ :: _) _ _ _; refine sta rfl rfl rfl spL (by rfl) (by rfl) (by rfl) kpL ?_)) | refine s_nil ?_ | refine kh_normal ?_))
    refine v_normS [(8,8),(16,21),(108,150)] _ agL [(16,_),(17,_),(108,_)] heL (fun g => ?_)
    refine v_loop0 [(8,8),(17,21),(112,149)] (fun k : Nat => [(17, .int .u8 k)]) (fun k => k ≤ 12) (fun k => 12 - k) 0 hsL (Nat.zero_le _) ?_
    rintro k g3 hk
    simp only [sets]
    by_cases hkl : k < 12
    · have hk1 := fun w hG hr => hG0 yi k w hG hr
      have hk2 := fun w hG hr => hG2 yi k w hG hr
      have hg := hget yi k
      clear hG0 hG2 hget
      by_cases hcase : yi = x.id ∧ (k : Int) = cc.kind
      · obtain ⟨hc1, hc2⟩ := hcase
        clear hg
        generalize getM 5 yi k (ents L2) = r2 at hk2
        generalize getM 5 yi k (ents L) = r1 at hk1
        (repeat' (first | (show VH _ _ _ _ _ _ _; first | refine v_seq ?_ | refine r_seq ?_ | refine v_block ?_ | refine v_skip ?_ | refine v_exit ?_ | refine v_cond_t rfl tbL ?_) | (show SH _ _ _ _ _ (_ :: _) _ _ _; first | (show SH _ _ _ _ _ (⟨_, _, _, _, _, some _⟩ :: _) _ _ _; (refine gif rfl rfl ?_; refine giTT tbL ?_)) | (show SH _ _ _ _ _ (⟨_, .move _, _, _, _, _⟩ :: _) _ _ _; refine mov evL ?_) | (show SH _ _ _ _ _ (⟨_, .assign _, _, _, _, _⟩ :: _) _ _ _; refine asg evL ?_) | (show SH _ _ _ _ _ (⟨_, .binOp .leq _ _ _ _, _, _, _, _⟩ :: _) _ _ _; refine leqT rfl rfl omD ?_) | (show SH _ _ _ _ _ (⟨_, .binOp .eql _ _ _ _, _, _, _, _⟩ :: _) _ _ _; refine eqlT rfl rfl omD ?_) | (show SH _ _ _ _ _ (⟨_, .load _ _, _, _, _, _⟩ :: _) _ _ _; first | refine lbx rfl spL (by rfl) ?_ | refine lba rfl spL (by rfl) ?_) | (show SH _ _ _ _ _ (⟨_, .call ⟨.value (.func 19), _, _⟩, _, _, _, _⟩ :: _) _ _ _; refine cl (callee := .func 19) rfl (fun w hw => hk1 w (hG.ext hw.ext) (hw.kw (A := A) (l := L) spL)) rfl rfl ?_) | (show SH _ _ _ _ _ (⟨_, .call ⟨.value (.func 19), _, _⟩, _, _, _, _⟩ :: _) _ _ _; refine cl (callee := .func 19) rfl (fun w hw => hk2 w (hG.ext hw.ext) (hw.kw (A := A2) (l := L2) spL)) rfl rfl ?_) | (show SH _ _ _ _ _ (⟨_, .pick _ _ _, _, _, _, _⟩ :: _) _ _ _; refine pkt rfl tbL evL ?_) | refine extr rfl rfl ?_ | refine fad rfl ?_ | refine ala rfl (fun b => ?_) | (show SH _ _ _ _ _ (⟨_, .store _ _ _, _, _, _, _⟩ :: _) _ _ _; refine sta rfl rfl rfl spL (by rfl) (by rfl) (by rfl) kpL ?_)) | refine s_nil ?_ | refine kh_normal ?_ | refine kh_exit ?_ | refine bh_exit ?_))
        refine addw rfl rfl ((k : Int) + 1) (wrap8 (by omega) (by omega)) ?_
        (repeat' (first | (show SH _ _ _ _ _ (_ :: _) _ _ _; (show SH _ _ _ _ _ (⟨_, .assign _, _, _, _, _⟩ :: _) _ _ _; refine asg evL ?_)) | refine s_nil ?_ | refine kh_normal ?_))
        exact ⟨agL, k + 1, ⟨congrArg (Value.int .u8) (by omega), trivial⟩, enL, by omega, by omega⟩
      · rw [if_neg hcase] at hg
        rw [hg] at hk2
        generalize getM 5 yi k (ents L) = r1 at hk1 hk2
        obtain ⟨z, hz⟩ : ∃ z, r1.isSome = z := ⟨_, rfl⟩
        obtain ⟨q, hq⟩ : ∃ q, compD r1 = q := ⟨_, rfl⟩
        rw [hz, hq] at hk1 hk2
        clear hg hz hq
        by_cases hc1 : yi = x.id
        · have hc2 : (k : Int) ≠ cc.kind := fun h => hcase ⟨hc1, h⟩
          clear hcase
          have hvv : (!(z == z)) = false := by simp
          (repeat' (first | (show VH _ _ _ _ _ _ _; first | refine v_seq ?_ | refine r_seq ?_ | refine v_block ?_ | refine v_skip ?_ | refine v_cond_t rfl tbL ?_ | refine v_cond_f rfl tbL ?_) | (show SH _ _ _ _ _ (_ :: _) _ _ _; first | (show SH _ _ _ _ _ (⟨_, _, _, _, _, some _⟩ :: _) _ _ _; (refine gif rfl rfl ?_; first | refine giTT tbL ?_ | refine giFF tbL ?_)) | (show SH _ _ _ _ _ (⟨_, .move _, _, _, _, _⟩ :: _) _ _ _; refine mov evL ?_) | (show SH _ _ _ _ _ (⟨_, .assign _, _, _, _, _⟩ :: _) _ _ _; refine asg evL ?_) | (show SH _ _ _ _ _ (⟨_, .binOp .leq _ _ _ _, _, _, _, _⟩ :: _) _ _ _; refine leqT rfl rfl omD ?_) | (show SH _ _ _ _ _ (⟨_, .binOp .eql _ _ _ _, _, _, _, _⟩ :: _) _ _ _; first | refine eqlT rfl rfl omD ?_ | refine eqlF rfl rfl omD ?_) | refine neb rfl rfl ?_ | (show SH _ _ _ _ _ (⟨_, .load _ _, _, _, _, _⟩ :: _) _ _ _; first | refine lbx rfl spL (by rfl) ?_ | refine lba rfl spL (by rfl) ?_) | (show SH _ _ _ _ _ (⟨_, .call ⟨.value (.func 19), _, _⟩, _, _, _, _⟩ :: _) _ _ _; refine cl (callee := .func 19) rfl (fun w hw => hk1 w (hG.ext hw.ext) (hw.kw (A := A) (l := L) spL)) rfl rfl ?_) | (show SH _ _ _ _ _ (⟨_, .call ⟨.value (.func 19), _, _⟩, _, _, _, _⟩ :: _) _ _ _; refine cl (callee := .func 19) rfl (fun w hw => hk2 w (hG.ext hw.ext) (hw.kw (A := A2) (l := L2) spL)) rfl rfl ?_) | (show SH _ _ _ _ _ (⟨_, .pick _ _ _, _, _, _, _⟩ :: _) _ _ _; refine pkt rfl tbL evL ?_) | refine extr rfl rfl ?_ | refine fad rfl ?_ | refine ala rfl (fun b => ?_) | (show SH _ _ _ _ _ (⟨_, .store _ _ _, _, _, _, _⟩ :: _) _ _ _; refine sta rfl rfl rfl spL (by rfl) (by rfl) (by rfl) kpL ?_)) | refine s_nil ?_ | refine kh_normal ?_))
          refine nea q q rfl rfl ?_
          rw [decide_eq_true rfl]
          (repeat' (first | (show VH _ _ _ _ _ _ _; first | refine r_seq ?_ | refine v_skip ?_ | refine v_cond_f rfl tbL ?_) | (show SH _ _ _ _ _ (_ :: _) _ _ _; first | (show SH _ _ _ _ _ (⟨_, .move _, _, _, _, _⟩ :: _) _ _ _; refine mov evL ?_) | (show SH _ _ _ _ _ (⟨_, .pick _ _ _, _, _, _, _⟩ :: _) _ _ _; refine pkf rfl tbL evL ?_)) | refine s_nil ?_ | refine kh_normal ?_ | refine bh_normal ?_))
          refine addw rfl rfl ((k : Int) + 1) (wrap8 (by omega) (by omega)) ?_
          (repeat' (first | (show SH _ _ _ _ _ (_ :: _) _ _ _; (show SH _ _ _ _ _ (⟨_, .assign _, _, _, _, _⟩ :: _) _ _ _; refine asg evL ?_)) | refine s_nil ?_ | refine kh_normal ?_))
          exact ⟨agL, k + 1, ⟨congrArg (Value.int .u8) (by omega), trivial⟩, enL, by omega, by omega⟩
        · clear hcase
          have hvv : (!(z == z)) = false := by simp
          (repeat' (first | (show VH _ _ _ _ _ _ _; first | refine v_seq ?_ | refine r_seq ?_ | refine v_block ?_ | refine v_skip ?_ | refine v_cond_t rfl tbL ?_ | refine v_cond_f rfl tbL ?_) | (show SH _ _ _ _ _ (_ :: _) _ _ _; first | (show SH _ _ _ _ _ (⟨_, _, _, _, _, some _⟩ :: _) _ _ _; (refine gif rfl rfl ?_; first | refine giTF tbL ?_ | refine giFF tbL ?_)) | (show SH _ _ _ _ _ (⟨_, .move _, _, _, _, _⟩ :: _) _ _ _; refine mov evL ?_) | (show SH _ _ _ _ _ (⟨_, .assign _, _, _, _, _⟩ :: _) _ _ _; refine asg evL ?_) | (show SH _ _ _ _ _ (⟨_, .binOp .leq _ _ _ _, _, _, _, _⟩ :: _) _ _ _; refine leqT rfl rfl omD ?_) | (show SH _ _ _ _ _ (⟨_, .binOp .eql _ _ _ _, _, _, _, _⟩ :: _) _ _ _; refine eqlF rfl rfl omD ?_) | refine neb rfl rfl ?_ | (show SH _ _ _ _ _ (⟨_, .load _ _, _, _, _, _⟩ :: _) _ _ _; first | refine lbx rfl spL (by rfl) ?_ | refine lba rfl spL (by rfl) ?_) | (show SH _ _ _ _ _ (⟨_, .call ⟨.value (.func 19), _, _⟩, _, _, _, _⟩ :: _) _ _ _; refine cl (callee := .func 19) rfl (fun w hw => hk1 w (hG.ext hw.ext) (hw.kw (A := A) (l := L) spL)) rfl rfl ?_) | (show SH _ _ _ _ _ (⟨_, .call ⟨.value (.func 19), _, _⟩, _, _, _, _⟩ :: _) _ _ _; refine cl (callee := .func 19) rfl (fun w hw => hk2 w (hG.ext hw.ext) (hw.kw (A := A2) (l := L2) spL)) rfl rfl ?_) | (show SH _ _ _ _ _ (⟨_, .pick _ _ _, _, _, _, _⟩ :: _) _ _ _; refine pkf rfl tbL evL ?_) | refine extr rfl rfl ?_ | refine fad rfl ?_ | refine ala rfl (fun b => ?_) | (show SH _ _ _ _ _ (⟨_, .store _ _ _, _, _, _, _⟩ :: _) _ _ _; refine sta rfl rfl rfl spL (by rfl) (by rfl) (by rfl) kpL ?_)) | refine s_nil ?_ | refine kh_normal ?_))
          refine nea q q rfl rfl ?_
          rw [decide_eq_true rfl]
          (repeat' (first | (show VH _ _ _ _ _ _ _; first | refine r_seq ?_ | refine v_skip ?_ | refine v_cond_f rfl tbL ?_) | (show SH _ _ _ _ _ (_ :: _) _ _ _; first | (show SH _ _ _ _ _ (⟨_, .move _, _, _, _, _⟩ :: _) _ _ _; refine mov evL ?_) | (show SH _ _ _ _ _ (⟨_, .pick _ _ _, _, _, _, _⟩ :: _) _ _ _; refine pkf rfl tbL evL ?_)) | refine s_nil ?_ | refine kh_normal ?_ | refine bh_normal ?_))
          refine addw rfl rfl ((k : Int) + 1) (wrap8 (by omega) (by omega)) ?_
          (repeat' (first | (show SH _ _ _ _ _ (_ :: _) _ _ _; (show SH _ _ _ _ _ (⟨_, .assign _, _, _, _, _⟩ :: _) _ _ _; refine asg evL ?_)) | refine s_nil ?_ | refine kh_normal ?_))
          exact ⟨agL, k + 1, ⟨congrArg (Value.int .u8) (by omega), trivial⟩, enL, by omega, by omega⟩
    · have hk12 : k = 12 := by omega
      subst hk12
      clear hG0 hG2 hget
      (repeat' (first | (show VH _ _ _ _ _ _ _; first | refine v_seq ?_ | refine r_seq ?_ | refine v_exit ?_ | refine v_cond_f rfl tbL ?_) | (show SH _ _ _ _ _ (_ :: _) _ _ _; first | (show SH _ _ _ _ _ (⟨_, .move _, _, _, _, _⟩ :: _) _ _ _; refine mov evL ?_) | (show SH _ _ _ _ _ (⟨_, .binOp .leq _ _ _ _, _, _, _, _⟩ :: _) _ _ _; refine leqF rfl rfl omD ?_) | (show SH _ _ _ _ _ (⟨_, .binOp .add _ _ _ _, _, _, _, _⟩ :: _) _ _ _; refine add rfl rfl inL ?_)) | refine s_nil ?_ | refine kh_normal ?_ | refine kh_exit ?_ | refine bh_normal ?_ | refine bh_exit ?_))
      exact ⟨agL, i + 1, hsL, enL, by omega, by omega⟩
  
  clear hG0 hG2 hget hg1 hV2
  by_cases hd : Fits dd
  case neg =>
    rw [set_bad hd] at hS2
    simp only [show ((2 : Int) = 0) = False from by simp, if_false] at hS2
    rw [decide_eq_false hd] at hTd
    clear hS0 hTc htw hsw
    (repeat' (first | (show VH _ _ _ _ _ _ _; first | refine v_seq ?_ | refine r_seq ?_ | refine v_exit ?_ | refine v_cond_f rfl tbL ?_) | (show SH _ _ _ _ _ (_ :: _) _ _ _; first | (show SH _ _ _ _ _ (⟨_, .move _, _, _, _, _⟩ :: _) _ _ _; refine mov evL ?_) | (show SH _ _ _ _ _ (⟨_, .binOp .lss _ _ _ _, _, _, _, _⟩ :: _) _ _ _; refine lssF rfl rfl omD ?_) | (show SH _ _ _ _ _ (⟨_, .load _ _, _, _, _, _⟩ :: _) _ _ _; refine lba rfl spL (by rfl) ?_) | (show SH _ _ _ _ _ (⟨_, .call ⟨.value (.func 16), _, _⟩, _, _, _, _⟩ :: _) _ _ _; refine cp (callee := .func 16) rfl (fun w hw => hS2 w (hG.ext hw.ext) (hw.kw (A := A2) (l := L2) spL)) rfl rfl ?_)) | refine s_nil ?_ | refine kh_normal ?_ | refine kh_exit ?_ | refine bh_exit ?_))
    rintro _ _ ⟨A3, c3, L3, rfl, hL3, rfl⟩
    clear hS2
    (repeat' (first | (show VH _ _ _ _ _ _ _; first | refine v_seq ?_ | refine r_seq ?_ | refine v_ret ?_ | refine v_cond_t rfl tbL ?_) | (show SH _ _ _ _ _ (_ :: _) _ _ _; first | (show SH _ _ _ _ _ (⟨_, _, _, _, _, some _⟩ :: _) _ _ _; (refine gif rfl rfl ?_; refine giTT tbL ?_)) | (show SH _ _ _ _ _ (⟨_, .move _, _, _, _, _⟩ :: _) _ _ _; refine mov evL ?_) | (show SH _ _ _ _ _ (⟨_, .assign _, _, _, _, _⟩ :: _) _ _ _; refine asg evL ?_) | (show SH _ _ _ _ _ (⟨_, .binOp .neq _ _ _ _, _, _, _, _⟩ :: _) _ _ _; refine neqT rfl rfl omD ?_) | (show SH _ _ _ _ _ (⟨_, .load _ _, _, _, _, _⟩ :: _) _ _ _; refine lba rfl spL (by rfl) ?_) | (show SH _ _ _ _ _ (⟨_, .call ⟨.value (.func 17), _, _⟩, _, _, _, _⟩ :: _) _ _ _; refine cl (callee := .func 17) rfl (fun w hw => hTd w hw.ext) rfl rfl ?_) | (show SH _ _ _ _ _ (⟨_, .call ⟨.value (.func 14), _, _⟩, _, _, _, _⟩ :: _) _ _ _; refine cl (callee := .func 14) rfl (fun w hw => hA w hw.ext) rfl rfl ?_) | refine bnoF rfl ?_ | (show SH _ _ _ _ _ (⟨_, .pick _ _ _, _, _, _, _⟩ :: _) _ _ _; refine pkt rfl tbL evL ?_) | refine extr rfl rfl ?_ | refine ala rfl (fun b => ?_) | (show SH _ _ _ _ _ (⟨_, .store _ _ _, _, _, _, _⟩ :: _) _ _ _; refine sta rfl rfl rfl spL (by rfl) (by rfl) (by rfl) kpL ?_)) | refine s_nil ?_ | refine kh_normal ?_ | refine kh_ret ?_))
    exact rh1 rfl rfl ⟨rfl, rfl⟩ (ent_nil _)
  have hS1 := fun w hG hr => hS0 x.id dd w hG hr
  rw [set_err hv hxm hd] at hS1
  rw [show setErr 5 x.id dd (ents L2) = 0 from set_err (x := setE cc x) hv2 hx2 hd] at hS2
  simp only [if_true] at hS1 hS2
  have hv4 := set_valid hv hxm hd
  have hx4 := set_mem (c := dd) hv hxm
  have hcm4 : ∀ e ∈ setL x.id dd (ents L), e.comps.length ≤ 11 := set_comps hv hcm0
  have hv3 : ValidW 5 (setL x.id dd (ents L2)) := set_valid (x := setE cc x) hv2 hx2 hd
  have hcm3 := set_comps (id := x.id) (c := dd) hv2 hcm2
  (repeat' (first | (show VH _ _ _ _ _ _ _; first | refine v_seq ?_ | refine r_seq ?_ | refine v_exit ?_ | refine v_cond_f rfl tbL ?_) | (show SH _ _ _ _ _ (_ :: _) _ _ _; first | (show SH _ _ _ _ _ (⟨_, .move _, _, _, _, _⟩ :: _) _ _ _; refine mov evL ?_) | (show SH _ _ _ _ _ (⟨_, .binOp .lss _ _ _ _, _, _, _, _⟩ :: _) _ _ _; refine lssF rfl rfl omD ?_) | (show SH _ _ _ _ _ (⟨_, .load _ _, _, _, _, _⟩ :: _) _ _ _; refine lba rfl spL (by rfl) ?_) | (show SH _ _ _ _ _ (⟨_, .call ⟨.value (.func 16), _, _⟩, _, _, _, _⟩ :: _) _ _ _; refine cp (callee := .func 16) rfl (fun w hw => hS2 w (hG.ext hw.ext) (hw.kw (A := A2) (l := L2) spL)) rfl rfl ?_)) | refine s_nil ?_ | refine kh_normal ?_ | refine kh_exit ?_ | refine bh_exit ?_))
  rintro _ _ ⟨A3, c3, L3, rfl, hL3, rfl⟩
  clear hS2 hS0 hTd hTc
  have hL3' : ents L3 = setL x.id dd (ents L2) := hL3
  (repeat' ((fail_if_success (show VH _ _ (.seq (.region 26 _ _) _) _ _ _ _)); first | refine v_seq ?_ | (show SH _ _ _ _ _ (_ :: _) _ _ _; first | (show SH _ _ _ _ _ (⟨_, .move _, _, _, _, _⟩ :: _) _ _ _; refine mov evL ?_) | (show SH _ _ _ _ _ (⟨_, .assign _, _, _, _, _⟩ :: _) _ _ _; refine asg evL ?_) | refine extr rfl rfl ?_ | refine ala rfl (fun b => ?_) | (show SH _ _ _ _ _ (⟨_, .store _ _ _, _, _, _, _⟩ :: _) _ _ _; refine sta rfl rfl rfl spL (by rfl) (by rfl) (by rfl) kpL ?_)) | refine s_nil ?_ | refine kh_normal ?_))
  revert b
  intro b22
  refine VH.ent (G := [bx b22 25 [.int .i64 5, .slice A3 L3.length c3], knw A3 L3, bx b11 25 [.int .i64 5, .slice A2 L2.length c2], knw A2 L2, bx b9 25 [.int .i64 5, .slice A L.length c], knw A L, bx b6 42 (Flat.enc cc), bx b7 42 (Flat.enc dd)]) ?_ (Ent.trans (B := [orow 32 A3 c3 L3, allH (L3.map rowOf), bx b22 25 [.int .i64 5, .slice A3 L3.length c3], bx b11 25 [.int .i64 5, .slice A2 L2.length c2], knw A2 L2, bx b9 25 [.int .i64 5, .slice A L.length c], knw A L, bx b6 42 (Flat.enc cc), bx b7 42 (Flat.enc dd)]) enL (ent_knw.trans enL))
  (repeat' (first | (show VH _ _ _ _ _ _ _; first | refine v_seq ?_ | refine r_seq ?_ | refine v_skip ?_ | refine v_cond_f rfl tbL ?_) | (show SH _ _ _ _ _ (_ :: _) _ _ _; first | (show SH _ _ _ _ _ (⟨_, .move _, _, _, _, _⟩ :: _) _ _ _; refine mov evL ?_) | (show SH _ _ _ _ _ (⟨_, .binOp .neq _ _ _ _, _, _, _, _⟩ :: _) _ _ _; refine neqF rfl rfl omD ?_) | (show SH _ _ _ _ _ (⟨_, .load _ _, _, _, _, _⟩ :: _) _ _ _; refine lba rfl spL (by rfl) ?_) | (show SH _ _ _ _ _ (⟨_, .call ⟨.value (.func 16), _, _⟩, _, _, _, _⟩ :: _) _ _ _; refine cp (callee := .func 16) rfl (fun w hw => hS1 w (hG.ext hw.ext) (hw.kw (A := A) (l := L) spL)) rfl rfl ?_)) | refine s_nil ?_ | refine kh_normal ?_))
  rintro _ _ ⟨A4, c4, L4, rfl, hL4, rfl⟩
  clear hS1
  have hL4' : ents L4 = setL x.id dd (ents L) := hL4
  (repeat' ((fail_if_success (show VH _ _ (.seq (.region 29 _ _) _) _ _ _ _)); first | refine v_seq ?_ | (show SH _ _ _ _ _ (_ :: _) _ _ _; first | (show SH _ _ _ _ _ (⟨_, .move _, _, _, _, _⟩ :: _) _ _ _; refine mov evL ?_) | (show SH _ _ _ _ _ (⟨_, .assign _, _, _, _, _⟩ :: _) _ _ _; refine asg evL ?_) | refine extr rfl rfl ?_ | refine ala rfl (fun b => ?_) | (show SH _ _ _ _ _ (⟨_, .store _ _ _, _, _, _, _⟩ :: _) _ _ _; refine sta rfl rfl rfl spL (by rfl) (by rfl) (by rfl) kpL ?_)) | refine s_nil ?_ | refine kh_normal ?_))
  revert b
  intro b24
  refine VH.ent (G := [bx b24 25 [.int .i64 5, .slice A4 L4.length c4], knw A4 L4, bx b22 25 [.int .i64 5, .slice A3 L3.length c3], knw A3 L3, bx b11 25 [.int .i64 5, .slice A2 L2.length c2], knw A2 L2, bx b9 25 [.int .i64 5, .slice A L.length c], knw A L, bx b6 42 (Flat.enc cc), bx b7 42 (Flat.enc dd)]) ?_ (Ent.trans (B := [orow 32 A4 c4 L4, allH (L4.map rowOf), bx b24 25 [.int .i64 5, .slice A4 L4.length c4], bx b22 25 [.int .i64 5, .slice A3 L3.length c3], knw A3 L3, bx b11 25 [.int .i64 5, .slice A2 L2.length c2], knw A2 L2, bx b9 25 [.int .i64 5, .slice A L.length c], knw A L, bx b6 42 (Flat.enc cc), bx b7 42 (Flat.enc dd)]) enL (ent_knw.trans enL))
  have hv3l : (ents L3).length ≤ 64 := by rw [hL3']; exact hv3.len
  have hs3 : Sz L3 := (built_sz (m := 12) hL3' (by rw [← hL3']; omega) hcm3 (by omega)).1
  by_cases hk : cc.kind = dd.kind
  · have hsm := fun w h1 h2 => same_spec 5 5 A3 A4 L3 L4 c3 c4 w h1 h2 hs3
    rw [decide_eq_true ⟨rfl, by rw [hL3', hL4']; exact htw hk⟩] at hsm
    unfold wv at hsm
    clear htw hsw
    (repeat' (first | (show VH _ _ _ _ _ _ _; first | refine v_seq ?_ | refine r_seq ?_ | refine v_ret ?_ | refine v_skip ?_ | refine v_cond_t rfl tbL ?_ | refine v_cond_f rfl tbL ?_) | (show SH _ _ _ _ _ (_ :: _) _ _ _; first | (show SH _ _ _ _ _ (⟨_, _, _, _, _, some _⟩ :: _) _ _ _; (refine gif rfl rfl ?_; refine giTT tbL ?_)) | (show SH _ _ _ _ _ (⟨_, .move _, _, _, _, _⟩ :: _) _ _ _; refine mov evL ?_) | (show SH _ _ _ _ _ (⟨_, .assign _, _, _, _, _⟩ :: _) _ _ _; refine asg evL ?_) | (show SH _ _ _ _ _ (⟨_, .binOp .eql _ _ _ _, _, _, _, _⟩ :: _) _ _ _; refine eqlT rfl rfl omD ?_) | (show SH _ _ _ _ _ (⟨_, .binOp .neq _ _ _ _, _, _, _, _⟩ :: _) _ _ _; refine neqF rfl rfl omD ?_) | (show SH _ _ _ _ _ (⟨_, .load _ _, _, _, _, _⟩ :: _) _ _ _; first | refine lbx rfl spL (by rfl) ?_ | refine lba rfl spL (by rfl) ?_) | (show SH _ _ _ _ _ (⟨_, .call ⟨.value (.func 18), _, _⟩, _, _, _, _⟩ :: _) _ _ _; refine cl (callee := .func 18) rfl (fun w hw => hsm w (hw.kw (A := A3) (l := L3) spL) (hw.kw (A := A4) (l := L4) spL)) rfl rfl ?_) | (show SH _ _ _ _ _ (⟨_, .call ⟨.value (.func 14), _, _⟩, _, _, _, _⟩ :: _) _ _ _; refine cl (callee := .func 14) rfl (fun w hw => hA w hw.ext) rfl rfl ?_) | (show SH _ _ _ _ _ (⟨_, .pick _ _ _, _, _, _, _⟩ :: _) _ _ _; refine pkt rfl tbL evL ?_) | refine fad rfl ?_) | refine s_nil ?_ | refine kh_normal ?_ | refine kh_ret ?_))
    exact rh1 rfl rfl ⟨rfl, rfl⟩ (ent_nil _)
  · have hle4 := ents_len L4
    rw [← hL4'] at hv4 hx4 hcm4
    have hl464 := hv4.len
    rw [hle4] at hl464
    obtain ⟨hs4, hl4, hse4, _⟩ := built_sz (L := L4) rfl (by omega) hcm4 (by omega)
    have hS4 := fun w hG hr => set_spec 5 x.id cc A4 L4 c4 w hG hs4 hl4 hse4 hr
    rw [show setErr 5 x.id cc (ents L4) = 0 from set_err (x := setE dd x) hv4 hx4 hc] at hS4
    unfold ChgR wv at hS4
    simp only [if_true] at hS4
    (repeat' (first | (show VH _ _ _ _ _ _ _; first | refine v_seq ?_ | refine r_seq ?_ | refine v_skip ?_ | refine v_cond_f rfl tbL ?_) | (show SH _ _ _ _ _ (_ :: _) _ _ _; first | (show SH _ _ _ _ _ (⟨_, .move _, _, _, _, _⟩ :: _) _ _ _; refine mov evL ?_) | (show SH _ _ _ _ _ (⟨_, .binOp .eql _ _ _ _, _, _, _, _⟩ :: _) _ _ _; refine eqlF rfl rfl omD ?_) | (show SH _ _ _ _ _ (⟨_, .binOp .neq _ _ _ _, _, _, _, _⟩ :: _) _ _ _; refine neqF rfl rfl omD ?_) | (show SH _ _ _ _ _ (⟨_, .load _ _, _, _, _, _⟩ :: _) _ _ _; first | refine lbx rfl spL (by rfl) ?_ | refine lba rfl spL (by rfl) ?_) | (show SH _ _ _ _ _ (⟨_, .call ⟨.value (.func 16), _, _⟩, _, _, _, _⟩ :: _) _ _ _; refine cp (callee := .func 16) rfl (fun w hw => hS4 w (hG.ext hw.ext) (hw.kw (A := A4) (l := L4) spL)) rfl rfl ?_) | refine fad rfl ?_) | refine s_nil ?_ | refine kh_normal ?_))
    rintro _ _ ⟨A5, c5, L5, rfl, hL5, rfl⟩
    clear hS4
    have hL5' : ents L5 = setL x.id cc (ents L4) := hL5
    (repeat' ((fail_if_success (show VH _ _ (.seq (.region 34 _ _) _) _ _ _ _)); first | (show SH _ _ _ _ _ (_ :: _) _ _ _; first | (show SH _ _ _ _ _ (⟨_, .move _, _, _, _, _⟩ :: _) _ _ _; refine mov evL ?_) | (show SH _ _ _ _ _ (⟨_, .assign _, _, _, _, _⟩ :: _) _ _ _; refine asg evL ?_) | refine extr rfl rfl ?_ | refine ala rfl (fun b => ?_) | (show SH _ _ _ _ _ (⟨_, .store _ _ _, _, _, _, _⟩ :: _) _ _ _; refine sta rfl rfl rfl spL (by rfl) (by rfl) (by rfl) kpL ?_)) | refine s_nil ?_ | refine kh_normal ?_))
    revert b
    intro b26
    refine VH.ent (G := [bx b26 25 [.int .i64 5, .slice A5 L5.length c5], knw A5 L5, bx b24 25 [.int .i64 5, .slice A4 L4.length c4], knw A4 L4, bx b22 25 [.int .i64 5, .slice A3 L3.length c3], knw A3 L3, bx b11 25 [.int .i64 5, .slice A2 L2.length c2], knw A2 L2, bx b9 25 [.int .i64 5, .slice A L.length c], knw A L, bx b6 42 (Flat.enc cc), bx b7 42 (Flat.enc dd)]) ?_ (Ent.trans (B := [orow 32 A5 c5 L5, allH (L5.map rowOf), bx b26 25 [.int .i64 5, .slice A5 L5.length c5], bx b24 25 [.int .i64 5, .slice A4 L4.length c4], knw A4 L4, bx b22 25 [.int .i64 5, .slice A3 L3.length c3], knw A3 L3, bx b11 25 [.int .i64 5, .slice A2 L2.length c2], knw A2 L2, bx b9 25 [.int .i64 5, .slice A L.length c], knw A L, bx b6 42 (Flat.enc cc), bx b7 42 (Flat.enc dd)]) enL (ent_knw.trans enL))
    have hsm := fun w h1 h2 => same_spec 5 5 A3 A5 L3 L5 c3 c5 w h1 h2 hs3
    rw [decide_eq_true ⟨rfl, by rw [hL3', hL5', hL4']; exact hsw hd hk⟩] at hsm
    unfold wv at hsm
    clear htw hsw
    (repeat' (first | (show VH _ _ _ _ _ _ _; first | refine v_seq ?_ | refine r_seq ?_ | refine v_ret ?_) | (show SH _ _ _ _ _ (_ :: _) _ _ _; first | (show SH _ _ _ _ _ (⟨_, _, _, _, _, some _⟩ :: _) _ _ _; (refine gif rfl rfl ?_; refine giTT tbL ?_)) | (show SH _ _ _ _ _ (⟨_, .move _, _, _, _, _⟩ :: _) _ _ _; refine mov evL ?_) | (show SH _ _ _ _ _ (⟨_, .assign _, _, _, _, _⟩ :: _) _ _ _; refine asg evL ?_) | (show SH _ _ _ _ _ (⟨_, .binOp .eql _ _ _ _, _, _, _, _⟩ :: _) _ _ _; refine eqlT rfl rfl omD ?_) | (show SH _ _ _ _ _ (⟨_, .load _ _, _, _, _, _⟩ :: _) _ _ _; refine lba rfl spL (by rfl) ?_) | (show SH _ _ _ _ _ (⟨_, .call ⟨.value (.func 18), _, _⟩, _, _, _, _⟩ :: _) _ _ _; refine cl (callee := .func 18) rfl (fun w hw => hsm w (hw.kw (A := A3) (l := L3) spL) (hw.kw (A := A5) (l := L5) spL)) rfl rfl ?_) | (show SH _ _ _ _ _ (⟨_, .call ⟨.value (.func 14), _, _⟩, _, _, _, _⟩ :: _) _ _ _; refine cl (callee := .func 14) rfl (fun w hw => hA w hw.ext) rfl rfl ?_) | (show SH _ _ _ _ _ (⟨_, .pick _ _ _, _, _, _, _⟩ :: _) _ _ _; refine pkt rfl tbL evL ?_)) | refine s_nil ?_ | refine kh_normal ?_))
    exact rh1 rfl rfl ⟨rfl, rfl⟩ (ent_nil _)
end Go.Proofs.YtfodpcpclmnbkaaDoor
