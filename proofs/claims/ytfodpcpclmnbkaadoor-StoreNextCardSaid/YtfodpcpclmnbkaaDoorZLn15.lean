/- StoreNext. -/
import Derived.Test.YtfodpcpclmnbkaaDoorZTw
import Derived.Test.YtfodpcpclmnbkaaDoorZPn15
import Derived.Test.YtfodpcpclmnbkaaDoorZBu15
import Derived.Test.YtfodpcpclmnbkaaDoorZJc
import Derived.Test.YtfodpcpclmnbkaaDoorZWz
set_option linter.unusedSimpArgs false
set_option linter.unusedVariables false
namespace Go.Proofs.YtfodpcpclmnbkaaDoor
open Go.Fw Go.RowKit
set_option maxHeartbeats 4000000 in
set_option maxRecDepth 100000 in
theorem nextLaw (A0 : Option Addr) (c0 : Nat) (l0 : List U16) (a1 : Int) (W : World) (hG : Glob W) (hr0 : Rd W A0 l0) (hb0 : R16 l0) (hl0 : l0.length ≤ maxLen) (hc0 : l0.length ≤ c0) (lo1 : 0 ≤ a1) (hi1 : a1 ≤ 255) :
    Ret Tryd.prog 3 [.slice A0 l0.length c0, .int .u8 a1].toArray W (Out W (.bool true)) := by
  have hB := fun w' (he : Ext W w') => built_spec A0 l0 c0 w' hl0 hc0 (hr0.ext he) hb0
  have hv0 := built_valid hb0
  have hcm0 : ∀ e ∈ builtL l0, e.comps.length ≤ 10 := fun e he => built_comps he
  unfold WorldR wv at hB
  generalize builtL l0 = es0 at hB hv0 hcm0
  have hA := fun w (h : Ext W w) => awake15_spec w (hG.ext h)
  obtain ⟨m, hm⟩ : ∃ m : Nat, a1 % 70 = m := ⟨(a1 % 70).toNat, by omega⟩
  clear hr0 hb0 hl0 hc0
  refine enterH Tryd.func3 rfl rfl Tryd.ntmps3 rfl (Wd.refl _) ?_
  (repeat' (first | (show VH _ _ _ _ _ _ _; first | refine v_seq ?_ | refine r_seq ?_) | (show SH _ _ _ _ _ (_ :: _) _ _ _; first | (show SH _ _ _ _ _ (⟨_, .move _, _, _, _, _⟩ :: _) _ _ _; refine mov evL ?_) | (show SH _ _ _ _ _ (⟨_, .assign _, _, _, _, _⟩ :: _) _ _ _; refine asg evL ?_) | (show SH _ _ _ _ _ (⟨_, .call ⟨.value (.func 10), _, _⟩, _, _, _, _⟩ :: _) _ _ _; refine cp (callee := .func 10) rfl (fun w hw => hB w hw.ext) rfl rfl ?_)) | refine s_nil ?_ | refine kh_normal ?_))
  rintro _ _ ⟨A, c, L, rfl, hL, rfl⟩
  clear hB
  have hL' : ents L = es0 := hL
  subst hL'
  (repeat' ((fail_if_success (show VH _ _ (.seq (.region 2 _ _) _) _ _ _ _)); first | refine v_seq ?_ | (show SH _ _ _ _ _ (_ :: _) _ _ _; first | refine ala rfl (fun b => ?_) | (show SH _ _ _ _ _ (⟨_, .store _ _ _, _, _, _, _⟩ :: _) _ _ _; refine sta rfl rfl rfl spL (by rfl) (by rfl) (by rfl) kpL ?_)) | refine s_nil ?_ | refine kh_normal ?_))
  refine VH.ent (G := [bx b 25 [.int .i64 5, .slice A L.length c], knw A L]) ?_ (Ent.trans (B := [bx b 25 [.int .i64 5, .slice A L.length c], orow 32 A c L, allH (L.map rowOf)]) enL (ent_cons Split.head (ent_knw (G := []))))
  revert b
  intro b5
  (repeat' (first | (show VH _ _ _ _ _ _ _; first | refine v_seq ?_ | refine r_seq ?_ | refine v_block ?_) | (show SH _ _ _ _ _ (_ :: _) _ _ _; first | (show SH _ _ _ _ _ (⟨_, .move _, _, _, _, _⟩ :: _) _ _ _; refine mov evL ?_) | (show SH _ _ _ _ _ (⟨_, .binOp .rem _ _ _ _, _, _, _, _⟩ :: _) _ _ _; refine rem rfl rfl omL omL ?_) | (show SH _ _ _ _ _ (⟨_, .convert _ _ _, _, _, _, _⟩ :: _) _ _ _; refine c64 rfl inL ?_)) | refine s_nil ?_ | refine kh_normal ?_))
  rw [hm]
  refine v_norm [(4,_),(5,_),(19,_),(20,_)] heL (fun g => ?_)
  have hm70 : m ≤ 69 := by omega
  clear lo1 hi1 hm hL
  refine v_loop [(4,4),(6,14),(20,85)] (fun s : Nat × (Option Addr × Nat × List EntP) => [(20, .int .i64 s.1)]) (fun s => [bx b5 25 [.int .i64 5, .slice s.2.1 s.2.2.2.length s.2.2.1], knw s.2.1 s.2.2.2]) (fun s => s.1 ≤ m ∧ ValidW 5 (ents s.2.2.2) ∧ ∀ e ∈ ents s.2.2.2, e.comps.length ≤ 10) (fun s => m - s.1) (0, A, c, L) hsL enL ⟨Nat.zero_le _, hv0, hcm0⟩ ?_
  clear hv0 hcm0
  rintro ⟨k, A, c, L⟩ g ⟨hk, hv, hcm⟩
  simp only [sets]
  simp only at hk hv hcm
  by_cases hkm : k < m
  · have hl64 := hv.len
    obtain ⟨hs, hl, hse, hse2⟩ := built_sz (L := L) rfl (by omega) hcm (by omega)
    have hN := fun w hG hr => next_spec 5 A L c w hG hs hr
    rw [if_pos hv, if_pos hv] at hN
    obtain ⟨⟨hn1, hn2⟩, hn3, hn4⟩ := nextI_props (ents L) 1 hv.up (fun e he => (hv.right e he).id.1)
    have hE := fun id w hG hr => entity_spec 5 id A L c w hG hs hse2 hr
    unfold EntityR at hE
    have hf0 : findB 5 (nextI (ents L) 1) L = false := by rw [findB_thg hv, thg_none hn4]; rfl
    have hf1 : ∀ i, 1 ≤ i → i < nextI (ents L) 1 → findB 5 i L = true := fun i h1 h2 => by
      obtain ⟨e, he, hid⟩ := hn3 i h1 h2
      rw [findB_thg hv, thg_some hv.up he hid]; rfl
    have hAdd := fun w hG hr => add_spec 5 (⟨⟨nextI (ents L) 1, []⟩, none, 0⟩ : EntP) A L c w hG hs hl hse hr (by simp) (Rd.nil _ none)
    have hright : RightE ⟨nextI (ents L) 1, []⟩ := ⟨⟨by show 1 ≤ nextI (ents L) 1; omega, by show nextI (ents L) 1 ≤ 65536; omega⟩, List.Pairwise.nil, fun c hc => by cases hc⟩
    have her : addErr 5 ⟨nextI (ents L) 1, []⟩ (ents L) = if 64 ≤ (ents L).length then 4 else 0 := by
      unfold addErr
      rw [if_pos ⟨hv, hright⟩, thg_none hn4, if_neg (by simp)]
    rw [her] at hAdd
    have hok := fun h => add_ok hv hright (thg_none hn4) h
    have hle := ents_len L
    rw [hle] at hn2 hok hAdd hl64
    clear hn3 hn4 her hright
    unfold wv at hN hE
    unfold ChgR wv at hAdd
    have hcm2 : ∀ e ∈ addL ⟨nextI (ents L) 1, []⟩ (ents L), e.comps.length ≤ 10 := fun e he => by
      rcases mem_insK.1 he with rfl | ⟨h, _⟩
      · simp
      · exact hcm e h
    rw [show (⟨⟨nextI (ents L) 1, []⟩, none, 0⟩ : EntP).e = ⟨nextI (ents L) 1, []⟩ from rfl] at hAdd
    generalize addL ⟨nextI (ents L) 1, []⟩ (ents L) = es2 at hAdd hok hcm2
    generalize nextI (ents L) 1 = n at hN hn1 hn2 hf0 hf1 hAdd
    obtain ⟨n, rfl⟩ : ∃ j : Nat, n = j := ⟨n.toNat, by omega⟩
    have hE0 := fun w hG hr => hE n w hG hr
    simp only [hf0, Bool.false_eq_true, if_false] at hE0
    (repeat' (first | (show VH _ _ _ _ _ _ _; first | refine v_seq ?_ | refine r_seq ?_ | refine v_block ?_ | refine v_skip ?_ | refine v_cond_t rfl tbL ?_ | refine v_cond_f rfl tbL ?_) | (show SH _ _ _ _ _ (_ :: _) _ _ _; first | (show SH _ _ _ _ _ (⟨_, _, _, _, _, some _⟩ :: _) _ _ _; (refine gif rfl rfl ?_; refine giFF tbL ?_)) | (show SH _ _ _ _ _ (⟨_, .move _, _, _, _, _⟩ :: _) _ _ _; refine mov evL ?_) | (show SH _ _ _ _ _ (⟨_, .assign _, _, _, _, _⟩ :: _) _ _ _; refine asg evL ?_) | (show SH _ _ _ _ _ (⟨_, .binOp .lss _ _ _ _, _, _, _, _⟩ :: _) _ _ _; first | refine lssT rfl rfl omD ?_ | refine lssF rfl rfl omD ?_) | (show SH _ _ _ _ _ (⟨_, .binOp .gtr _ _ _ _, _, _, _, _⟩ :: _) _ _ _; refine gtrF rfl rfl omD ?_) | (show SH _ _ _ _ _ (⟨_, .binOp .neq _ _ _ _, _, _, _, _⟩ :: _) _ _ _; refine neqF rfl rfl omD ?_) | (show SH _ _ _ _ _ (⟨_, .binOp .add _ _ _ _, _, _, _, _⟩ :: _) _ _ _; refine add rfl rfl inL ?_) | (show SH _ _ _ _ _ (⟨_, .load _ _, _, _, _, _⟩ :: _) _ _ _; first | refine lbx rfl spL (by rfl) ?_ | refine lba rfl spL (by rfl) ?_) | refine slen rfl ?_ | (show SH _ _ _ _ _ (⟨_, .call ⟨.value (.func 11), _, _⟩, _, _, _, _⟩ :: _) _ _ _; refine cl (callee := .func 11) rfl (fun w hw => hN w (hG.ext hw.ext) (hw.kw spL)) rfl rfl ?_) | (show SH _ _ _ _ _ (⟨_, .call ⟨.value (.func 12), _, _⟩, _, _, _, _⟩ :: _) _ _ _; refine cp (callee := .func 12) rfl (fun w hw => hE0 w (hG.ext hw.ext) (hw.kw spL)) rfl rfl ?_) | (show SH _ _ _ _ _ (⟨_, .pick _ _ _, _, _, _, _⟩ :: _) _ _ _; refine pkf rfl tbL evL ?_) | refine extr rfl rfl ?_ | refine fad rfl ?_) | refine s_nil ?_ | refine kh_normal ?_))
    rintro _ _ ⟨rfl, rfl⟩
    clear hN hE0 hf0
    (repeat' (first | (show VH _ _ _ _ _ _ _; first | refine v_seq ?_ | refine r_seq ?_ | refine v_block ?_ | refine v_skip ?_ | refine v_cond_f rfl tbL ?_) | (show SH _ _ _ _ _ (_ :: _) _ _ _; first | (show SH _ _ _ _ _ (⟨_, .move _, _, _, _, _⟩ :: _) _ _ _; refine mov evL ?_) | (show SH _ _ _ _ _ (⟨_, .assign _, _, _, _, _⟩ :: _) _ _ _; refine asg evL ?_) | refine extr rfl rfl ?_ | refine ala rfl (fun b => ?_) | (show SH _ _ _ _ _ (⟨_, .store _ _ _, _, _, _, _⟩ :: _) _ _ _; refine sta rfl rfl rfl spL (by rfl) (by rfl) (by rfl) kpL ?_)) | refine s_nil ?_ | refine kh_normal ?_))
    refine v_normS [(4,4),(6,14),(20,85)] _ agL [(6,_),(10,_),(20,_)] heL (fun g => ?_)
    refine VH.ent (G := [bx b5 25 [.int .i64 5, .slice A L.length c], knw A L]) ?_ enL
    refine v_loop [(4,4),(10,12),(48,60)] (fun i : Nat => [(10, .int .i64 i)]) (fun _ => [bx b5 25 [.int .i64 5, .slice A L.length c], knw A L]) (fun i => 1 ≤ i ∧ i ≤ n) (fun i => n - i) 1 hsL enL ⟨Nat.le_refl _, by omega⟩ ?_
    rintro i g3 ⟨hi1, hi2⟩
    simp only [sets]
    by_cases hin : i < n
    · have hE1 := fun w hG hr => hE i w hG hr
      simp only [hf1 i (by omega) (by omega), if_true] at hE1
      clear hf1 hE hAdd
      (repeat' (first | (show VH _ _ _ _ _ _ _; first | refine v_seq ?_ | refine r_seq ?_ | refine v_block ?_ | refine v_skip ?_ | refine v_cond_t rfl tbL ?_) | (show SH _ _ _ _ _ (_ :: _) _ _ _; first | (show SH _ _ _ _ _ (⟨_, .move _, _, _, _, _⟩ :: _) _ _ _; refine mov evL ?_) | (show SH _ _ _ _ _ (⟨_, .binOp .lss _ _ _ _, _, _, _, _⟩ :: _) _ _ _; refine lssT rfl rfl omD ?_) | (show SH _ _ _ _ _ (⟨_, .load _ _, _, _, _, _⟩ :: _) _ _ _; refine lba rfl spL (by rfl) ?_) | (show SH _ _ _ _ _ (⟨_, .call ⟨.value (.func 12), _, _⟩, _, _, _, _⟩ :: _) _ _ _; refine cp (callee := .func 12) rfl (fun w hw => hE1 w (hG.ext hw.ext) (hw.kw spL)) rfl rfl ?_)) | refine s_nil ?_ | refine kh_normal ?_))
      rintro _ _ ⟨A3, c3, rfl, rfl⟩
      (repeat' (first | (show VH _ _ _ _ _ _ _; first | refine v_seq ?_ | refine r_seq ?_ | refine v_skip ?_ | refine v_cond_f rfl tbL ?_) | (show SH _ _ _ _ _ (_ :: _) _ _ _; first | (show SH _ _ _ _ _ (⟨_, .move _, _, _, _, _⟩ :: _) _ _ _; refine mov evL ?_) | (show SH _ _ _ _ _ (⟨_, .assign _, _, _, _, _⟩ :: _) _ _ _; refine asg evL ?_) | (show SH _ _ _ _ _ (⟨_, .binOp .add _ _ _ _, _, _, _, _⟩ :: _) _ _ _; refine add rfl rfl inL ?_) | refine bnoT rfl ?_ | refine extr rfl rfl ?_ | refine ala rfl (fun b => ?_) | (show SH _ _ _ _ _ (⟨_, .store _ _ _, _, _, _, _⟩ :: _) _ _ _; refine sta rfl rfl rfl spL (by rfl) (by rfl) (by rfl) kpL ?_)) | refine s_nil ?_ | refine kh_normal ?_ | refine bh_normal ?_))
      exact ⟨agL, i + 1, hsL, enL, ⟨by omega, by omega⟩, by omega⟩
    · clear hf1 hE
      (repeat' (first | (show VH _ _ _ _ _ _ _; first | refine v_seq ?_ | refine r_seq ?_ | refine v_exit ?_ | refine v_cond_f rfl tbL ?_) | (show SH _ _ _ _ _ (_ :: _) _ _ _; first | (show SH _ _ _ _ _ (⟨_, .move _, _, _, _, _⟩ :: _) _ _ _; refine mov evL ?_) | (show SH _ _ _ _ _ (⟨_, .binOp .lss _ _ _ _, _, _, _, _⟩ :: _) _ _ _; refine lssF rfl rfl omD ?_) | (show SH _ _ _ _ _ (⟨_, .load _ _, _, _, _, _⟩ :: _) _ _ _; refine lba rfl spL (by rfl) ?_) | (show SH _ _ _ _ _ (⟨_, .call ⟨.value (.func 13), _, _⟩, _, _, _, _⟩ :: _) _ _ _; refine cp (callee := .func 13) rfl (fun w hw => hAdd w (hG.ext hw.ext) (hw.kw spL)) rfl rfl ?_) | refine bld rfl rfl ?_) | refine s_nil ?_ | refine kh_normal ?_ | refine kh_exit ?_ | refine bh_exit ?_))
      rintro _ _ ⟨A4, c4, L4, rfl, hL4, rfl⟩
      clear hAdd
      (repeat' ((fail_if_success (show VH _ _ (.seq (.region 17 _ _) _) _ _ _ _)); first | refine v_seq ?_ | (show SH _ _ _ _ _ (_ :: _) _ _ _; first | (show SH _ _ _ _ _ (⟨_, .move _, _, _, _, _⟩ :: _) _ _ _; refine mov evL ?_) | (show SH _ _ _ _ _ (⟨_, .assign _, _, _, _, _⟩ :: _) _ _ _; refine asg evL ?_) | refine extr rfl rfl ?_ | refine ala rfl (fun b => ?_) | (show SH _ _ _ _ _ (⟨_, .store _ _ _, _, _, _, _⟩ :: _) _ _ _; refine sta rfl rfl rfl spL (by rfl) (by rfl) (by rfl) kpL ?_)) | refine s_nil ?_ | refine kh_normal ?_))
      by_cases h64 : 64 ≤ L.length
      · rw [if_pos h64]
        clear hok hL4
        (repeat' (first | (show VH _ _ _ _ _ _ _; first | refine v_seq ?_ | refine r_seq ?_ | refine v_ret ?_ | refine v_cond_t rfl tbL ?_) | (show SH _ _ _ _ _ (_ :: _) _ _ _; first | (show SH _ _ _ _ _ (⟨_, _, _, _, _, some _⟩ :: _) _ _ _; (refine gif rfl rfl ?_; refine giTT tbL ?_)) | (show SH _ _ _ _ _ (⟨_, .move _, _, _, _, _⟩ :: _) _ _ _; refine mov evL ?_) | (show SH _ _ _ _ _ (⟨_, .assign _, _, _, _, _⟩ :: _) _ _ _; refine asg evL ?_) | (show SH _ _ _ _ _ (⟨_, .binOp .eql _ _ _ _, _, _, _, _⟩ :: _) _ _ _; refine eqlT rfl rfl omD ?_) | (show SH _ _ _ _ _ (⟨_, .load _ _, _, _, _, _⟩ :: _) _ _ _; refine lbx rfl spL (by rfl) ?_) | refine slen rfl ?_ | (show SH _ _ _ _ _ (⟨_, .call ⟨.value (.func 14), _, _⟩, _, _, _, _⟩ :: _) _ _ _; refine cl (callee := .func 14) rfl (fun w hw => hA w hw.ext) rfl rfl ?_) | (show SH _ _ _ _ _ (⟨_, .pick _ _ _, _, _, _, _⟩ :: _) _ _ _; refine pkt rfl tbL evL ?_) | refine fad rfl ?_) | refine s_nil ?_ | refine kh_normal ?_ | refine kh_ret ?_ | refine bh_ret ?_))
        exact rh1 rfl rfl ⟨rfl, rfl⟩ (ent_nil _)
      · simp only [if_neg h64, if_true] at hL4 ⊢
        obtain ⟨hv2, hlen2⟩ := hok (by omega)
        have hL4' : ents L4 = es2 := hL4
        have hs4 := (built_sz hL4' (by have := hv2.len; omega) hcm2 (by omega)).1
        have hV := fun w hG hr => valid_spec 5 A4 L4 c4 w hG hs4 hr
        rw [hL4', decide_eq_true hv2] at hV
        unfold wv at hV
        revert b
        intro b13
        refine VH.ent (G := [bx b13 25 [.int .i64 5, .slice A4 L4.length c4], knw A4 L4, bx b5 25 [.int .i64 5, .slice A L.length c]]) ?_ (Ent.trans (B := [orow 32 A4 c4 L4, allH (L4.map rowOf), bx b13 25 [.int .i64 5, .slice A4 L4.length c4], bx b5 25 [.int .i64 5, .slice A L.length c]]) enL (ent_knw.trans enL))
        (repeat' (first | (show VH _ _ _ _ _ _ _; first | refine v_seq ?_ | refine r_seq ?_ | refine v_skip ?_ | refine v_cond_f rfl tbL ?_) | (show SH _ _ _ _ _ (_ :: _) _ _ _; first | (show SH _ _ _ _ _ (⟨_, _, _, _, _, some _⟩ :: _) _ _ _; (refine gif rfl rfl ?_; refine giFF tbL ?_)) | (show SH _ _ _ _ _ (⟨_, .move _, _, _, _, _⟩ :: _) _ _ _; refine mov evL ?_) | (show SH _ _ _ _ _ (⟨_, .binOp .eql _ _ _ _, _, _, _, _⟩ :: _) _ _ _; refine eqlF rfl rfl omD ?_) | (show SH _ _ _ _ _ (⟨_, .binOp .neq _ _ _ _, _, _, _, _⟩ :: _) _ _ _; refine neqF rfl rfl omD ?_) | (show SH _ _ _ _ _ (⟨_, .binOp .add _ _ _ _, _, _, _, _⟩ :: _) _ _ _; refine add rfl rfl inL ?_) | (show SH _ _ _ _ _ (⟨_, .load _ _, _, _, _, _⟩ :: _) _ _ _; first | refine lbx rfl spL (by rfl) ?_ | refine lba rfl spL (by rfl) ?_) | refine slen rfl ?_ | (show SH _ _ _ _ _ (⟨_, .call ⟨.value (.func 15), _, _⟩, _, _, _, _⟩ :: _) _ _ _; refine cl (callee := .func 15) rfl (fun w hw => hV w (hG.ext hw.ext) (hw.kw spL)) rfl rfl ?_) | refine bnoT rfl ?_ | (show SH _ _ _ _ _ (⟨_, .pick _ _ _, _, _, _, _⟩ :: _) _ _ _; refine pkf rfl tbL evL ?_) | refine fad rfl ?_ | (show SH _ _ _ _ _ (⟨_, .store _ _ _, _, _, _, _⟩ :: _) _ _ _; refine sta rfl rfl rfl spL (by rfl) (by rfl) (by rfl) kpL ?_)) | refine s_nil ?_ | refine kh_normal ?_ | refine bh_normal ?_))
        exact ⟨agL, (k + 1, A4, c4, L4), hsL, enL, ⟨hkm, by show ValidW 5 (ents L4); rw [hL4']; exact hv2, by show ∀ e ∈ ents L4, _; rw [hL4']; exact hcm2⟩, by show _ - (k + 1) < _ - k; omega⟩
  · (repeat' (first | (show VH _ _ _ _ _ _ _; first | refine v_seq ?_ | refine r_seq ?_ | refine v_ret ?_ | refine v_exit ?_ | refine v_cond_f rfl tbL ?_) | (show SH _ _ _ _ _ (_ :: _) _ _ _; first | (show SH _ _ _ _ _ (⟨_, .assign _, _, _, _, _⟩ :: _) _ _ _; refine asg evL ?_) | (show SH _ _ _ _ _ (⟨_, .binOp .lss _ _ _ _, _, _, _, _⟩ :: _) _ _ _; refine lssF rfl rfl omD ?_) | (show SH _ _ _ _ _ (⟨_, .call ⟨.value (.func 14), _, _⟩, _, _, _, _⟩ :: _) _ _ _; refine cl (callee := .func 14) rfl (fun w hw => hA w hw.ext) rfl rfl ?_)) | refine s_nil ?_ | refine kh_normal ?_ | refine kh_exit ?_ | refine bh_exit ?_))
    exact rh1 rfl rfl ⟨rfl, rfl⟩ (ent_nil _)
end Go.Proofs.YtfodpcpclmnbkaaDoor
