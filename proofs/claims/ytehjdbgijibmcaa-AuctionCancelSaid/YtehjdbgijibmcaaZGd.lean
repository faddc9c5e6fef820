/- The law's function AuctionCancel answers true. -/
import Derived.Test.YtehjdbgijibmcaaZGdd
import Derived.Test.YtehjdbgijibmcaaZVa
import Derived.Test.YtehjdbgijibmcaaZDo
import Derived.Test.YtehjdbgijibmcaaZAy
set_option linter.unusedSimpArgs false
set_option linter.unusedVariables false
namespace Go.Proofs.Ytehjdbgijibmcaa
open Go.Fw Go.RowKit
theorem same1 (A1 A2 : Option Addr) (m : Mv) (c1 c2 : Nat) (w : World) (h1 : Rd w A1 [m]) (h2 : Rd w A2 [m]) : Ret Try.prog 20 [.slice A1 1 c1, .slice A2 1 c2].toArray w (Out w (.bool true)) := by
  have := sameMoves_spec A1 A2 _ _ 1 1 c1 c2 w h1 h2 rfl rfl (by simp)
  rw [decide_eq_true rfl] at this
  exact this
set_option maxHeartbeats 4000000 in
set_option maxRecDepth 100000 in
theorem cancelLaw (A : Option Addr) (c0 : Nat) (h : House) (x : Do6) (other : Int) (w : World) (hr : Rd w A h.lots) : Ret Try.prog 10 [hv A c0 h, .agg (Flat.enc x).toArray, .int .i64 other].toArray w (Out w (.bool true)) := by
  by_cases h40 : 40 < h.lots.length
  · obtain ⟨tick, last, lots⟩ := h
    unfold hv
    simp only at h40 hr ⊢
    refine enterH Try.func10 rfl rfl Try.ntmps10 rfl (Wd.refl _) ?_
    (repeat' (first | (show VH _ _ _ _ _ _ _; first | refine v_seq ?_ | refine r_seq ?_ | refine v_ret ?_ | refine v_skip ?_ | refine v_cond_t rfl tbL ?_ | refine v_cond_f rfl tbL ?_) | (show SH _ _ _ _ _ (_ :: _) _ _ _; first | (refine gif rfl rfl ?_; refine giFT tbL ?_) | refine mov evL ?_ | refine asg evL ?_ | refine gtrT rfl rfl omD ?_ | refine lbx rfl spL (by rfl) ?_ | refine slen rfl ?_ | (show SH _ _ _ _ _ (⟨_, .call ⟨.value (.func 12), _, _⟩, _, _, _, _⟩ :: _) _ _ _; refine cl (callee := .func 12) rfl (fun w hw => awake_spec w) rfl rfl ?_) | refine bnoT rfl ?_ | refine pkt rfl tbL evL ?_ | refine fad rfl ?_ | refine bxx rfl evL rfl (fun b => ?_)) | refine s_nil ?_ | refine kh_normal ?_ | refine kh_ret ?_))
    exact rh1 rfl rfl ⟨rfl, rfl⟩ (ent_nil _)
  have hvs := fun w hr => valid_spec A c0 h w (by omega) hr
  cases hval : validH h with
  | false =>
    rw [hval] at hvs
    obtain ⟨tick, last, lots⟩ := h
    unfold hv at hvs ⊢
    simp only at h40 hr hvs ⊢
    refine enterH Try.func10 rfl rfl Try.ntmps10 rfl (Wd.refl _) ?_
    (repeat' (first | (show VH _ _ _ _ _ _ _; first | refine v_seq ?_ | refine r_seq ?_ | refine v_ret ?_ | refine v_skip ?_ | refine v_cond_t rfl tbL ?_ | refine v_cond_f rfl tbL ?_) | (show SH _ _ _ _ _ (_ :: _) _ _ _; first | (refine gif rfl rfl ?_; refine giFF tbL ?_) | refine mov evL ?_ | refine asg evL ?_ | refine gtrF rfl rfl omD ?_ | (show SH _ _ _ _ _ (⟨_, .load _ _, _, _, _, _⟩ :: _) _ _ _; first | refine lbx rfl spL (by rfl) ?_ | refine lba rfl spL (by rfl) ?_) | refine slen rfl ?_ | (show SH _ _ _ _ _ (⟨_, .call ⟨.value (.func 12), _, _⟩, _, _, _, _⟩ :: _) _ _ _; refine cl (callee := .func 12) rfl (fun w hw => awake_spec w) rfl rfl ?_) | (show SH _ _ _ _ _ (⟨_, .call ⟨.value (.func 18), _, _⟩, _, _, _, _⟩ :: _) _ _ _; refine cl (callee := .func 18) rfl (fun w hw => hvs _ (hr.ext hw.ext)) rfl rfl ?_) | refine bnoT rfl ?_ | refine bnoF rfl ?_ | refine pkf rfl tbL evL ?_ | refine fad rfl ?_ | refine bxx rfl evL rfl (fun b => ?_)) | refine s_nil ?_ | refine kh_normal ?_ | refine kh_ret ?_))
    exact rh1 rfl rfl ⟨rfl, rfl⟩ (ent_nil _)
  | true =>
    rw [hval] at hvs
    have hV := valid_iff.1 hval
    obtain ⟨kk, a, it, c, d, e⟩ := x
    have hO := fun w hr => open_spec A c0 h a it c d e w (by omega) hr
    by_cases he : (openH h a it c d e).2.2 = 0
    · obtain ⟨nl, led, ml, o⟩ := opened he
      obtain ⟨o1, o2, o3, o4, o5, o6, o7, o8, o9, o10, o11, o12, ha, hd, hee, hcc⟩ := o
      have htk := hV.tick
      have hlast := hV.last
      rw [o5] at hO
      have hC1 := fun A1 c1 w hr => cancel_spec A1 c1 ⟨h.tick, h.last + 1, nl⟩ (h.last + 1) a w (by show nl.length ≤ _; omega) hr
      have hC2 := fun A1 c1 w hr => cancel_spec A1 c1 ⟨h.tick, h.last + 1, nl⟩ (h.last + 1) other w (by show nl.length ≤ _; omega) hr
      have hC3 := fun A1 c1 w hr => cancel_spec A1 c1 ⟨h.tick, h.last + 1, h.lots⟩ (h.last + 1) a w (by show h.lots.length ≤ _; omega) hr
      have hC4 := fun A1 c1 w hr => cancel_spec A1 c1 ⟨h.tick, h.last + 1, led⟩ (h.last + 1) a w (by show led.length ≤ _; omega) hr
      have hB1 := fun A1 c1 w hr => bid_spec A1 c1 ⟨h.tick, h.last + 1, nl⟩ (h.last + 1) (1 + a % 65536) d w (by show nl.length ≤ _; omega) hr
      have hB2 := fun A1 c1 w hr => bid_spec A1 c1 ⟨h.tick, h.last + 1, nl⟩ (h.last + 1) a d w (by show nl.length ≤ _; omega) hr
      have hB3 := fun A1 c1 w hr => bid_spec A1 c1 ⟨h.tick, h.last + 1, nl⟩ (h.last + 1) (1 + a % 65536) (d - 1) w (by show nl.length ≤ _; omega) hr
      rw [o6] at hC1
      rw [o8] at hC3
      rw [o11] at hC4
      rw [o9] at hB1
      rw [o10] at hB2
      rw [o12] at hB3
      have hg : other ≠ a → (cancelH ⟨h.tick, h.last + 1, nl⟩ (h.last + 1) other).2.2 = 344 := fun e => by rw [o7 _ e]
      generalize cancelH ⟨h.tick, h.last + 1, nl⟩ (h.last + 1) other = rg at hC2 hg
      obtain ⟨hg', mg', eg'⟩ := rg
      obtain ⟨lw, hlw⟩ : ∃ lw : Int, (if d = 1 then 2 else 341) = lw := ⟨_, rfl⟩
      rw [hlw] at hB3
      have hlw1 : d = 1 → lw = 2 := fun e => by rw [← hlw, if_pos e]
      have hlw2 : d ≠ 1 → lw = 341 := fun e => by rw [← hlw, if_neg e]
      have hS := fun A2 A3 c2 c3 w hr2 hr3 => sameH_spec A2 A3 c2 c3 h h w hr2 hr3 (by omega)
      rw [decide_eq_true rfl] at hS
      unfold OutR at hO hC1 hC2 hC3 hC4 hB1 hB2 hB3
      clear o5 o6 o7 o8 o9 o10 o11 o12 hlw hval hV he
      obtain ⟨tick, last, lots⟩ := h
      unfold hv house0 at *
      simp only at h40 hr hvs hO hC1 hC2 hC3 hC4 hB1 hB2 hB3 hS o1 o4 htk hlast hg ⊢
      rw [show (Flat.enc (⟨kk, a, it, c, d, e⟩ : Do6)) = [.int .i64 kk, .int .i64 a, .int .i64 it, .int .i64 c, .int .i64 d, .int .i64 e] from rfl]
      refine enterH Try.func10 rfl rfl Try.ntmps10 rfl (Wd.refl _) ?_
      (repeat' (first | (show VH _ _ _ _ _ _ _; first | refine v_seq ?_ | refine r_seq ?_ | refine v_skip ?_ | refine v_cond_f rfl tbL ?_) | (show SH _ _ _ _ _ (_ :: _) _ _ _; first | (refine gif rfl rfl ?_; refine giFF tbL ?_) | refine mov evL ?_ | refine asg evL ?_ | refine gtrF rfl rfl omD ?_ | (show SH _ _ _ _ _ (⟨_, .load _ _, _, _, _, _⟩ :: _) _ _ _; first | refine lbx rfl spL (by rfl) ?_ | refine lba rfl spL (by rfl) ?_) | refine slen rfl ?_ | (show SH _ _ _ _ _ (⟨_, .call ⟨.value (.func 12), _, _⟩, _, _, _, _⟩ :: _) _ _ _; refine cl (callee := .func 12) rfl (fun w hw => awake_spec w) rfl rfl ?_) | (show SH _ _ _ _ _ (⟨_, .call ⟨.value (.func 18), _, _⟩, _, _, _, _⟩ :: _) _ _ _; refine cl (callee := .func 18) rfl (fun w hw => hvs _ (hr.ext hw.ext)) rfl rfl ?_) | (show SH _ _ _ _ _ (⟨_, .call ⟨.value (.func 13), _, _⟩, _, _, _, _⟩ :: _) _ _ _; refine cp (callee := .func 13) rfl (fun w hw => hO _ (hr.ext hw.ext)) rfl rfl ?_) | refine bnoT rfl ?_ | refine pkf rfl tbL evL ?_ | refine fad rfl ?_ | refine bxx rfl evL rfl (fun b => ?_)) | refine s_nil ?_ | refine kh_normal ?_))
      rintro _ _ ⟨A1, c1, B1, d1, rfl, rfl⟩
      clear hvs hO
      (repeat' ((fail_if_success (show VH _ _ (.seq (.region 9 _ _) _) _ _ _ _)); first | (show VH _ _ _ _ _ _ _; first | refine v_seq ?_ | refine r_seq ?_ | refine v_skip ?_ | refine v_cond_f rfl tbL ?_) | (show SH _ _ _ _ _ (_ :: _) _ _ _; first | (refine gif rfl rfl ?_; refine giFF tbL ?_) | refine mov evL ?_ | refine asg evL ?_ | (show SH _ _ _ _ _ (⟨_, .binOp _ _ _ _ _, _, _, _, _⟩ :: _) _ _ _; first | refine neqF rfl rfl omD ?_ | refine add rfl rfl inL ?_) | (show SH _ _ _ _ _ (⟨_, .load _ _, _, _, _, _⟩ :: _) _ _ _; first | refine lbx rfl spL (by rfl) ?_ | refine lra rfl (fun _ _ => rdL) (by rfl) omL ?_) | refine ix rfl rfl (by with_reducible rfl) (fun _ _ => rdL) (by rfl) omL omL ?_ | refine slen rfl ?_ | refine pkf rfl tbL evL ?_ | refine extr rfl rfl ?_ | refine fad rfl ?_ | refine ala rfl (fun b => ?_) | refine sta rfl rfl rfl spL (by rfl) (by rfl) (by rfl) kpL ?_) | refine s_nil ?_ | refine kh_normal ?_))
      rw [o4]
      rename_i b3 b4 b7
      refine v_norm [(2,_),(3,_),(4,_),(7,_),(8,_),(10,_)] heL (fun g => ?_)
      (repeat' (first | (show VH _ _ _ _ _ _ _; first | refine v_seq ?_ | refine r_seq ?_) | (show SH _ _ _ _ _ (_ :: _) _ _ _; first | refine add rfl rfl inL ?_ | (show SH _ _ _ _ _ (⟨_, .load _ _, _, _, _, _⟩ :: _) _ _ _; first | refine lbx rfl spL (by rfl) ?_ | refine lba rfl spL (by rfl) ?_) | refine fad rfl ?_ | refine bld rfl rfl ?_)))
      refine nea (⟨last + 1, a, it, c, d, tick + e, 0, 0, 0⟩ : Lot) ⟨last + 1, a, it, c, d, tick + e, 0, 0, 0⟩ rfl rfl ?_
      rw [decide_eq_true rfl]
      (repeat' ((show SH _ _ _ _ _ (_ :: _) _ _ _; first | (refine gif rfl rfl ?_; refine giFF tbL ?_) | refine mov evL ?_ | refine lbx rfl spL (by rfl) ?_ | (show SH _ _ _ _ _ (⟨_, .call ⟨.value (.func 17), _, _⟩, _, _, _, _⟩ :: _) _ _ _; refine cl (callee := .func 17) rfl (fun w hw => mv_spec _ _ _ _ w) rfl rfl ?_) | refine fad rfl ?_)))
      refine bsl (l := [(⟨a, 0, it, c⟩ : Mv)]) rfl rfl (Vals.cons rfl Vals.nil) rfl rfl (by decide) (fun bm => ?_)
      (repeat' ((fail_if_success (show VH _ _ (.seq (.region 11 _ _) _) _ _ _ _)); first | (show VH _ _ _ _ _ _ _; first | refine v_skip ?_ | refine v_cond_f rfl tbL ?_) | (show SH _ _ _ _ _ (_ :: _) _ _ _; first | (refine gif rfl rfl ?_; refine giFF tbL ?_) | (show SH _ _ _ _ _ (⟨_, .call ⟨.value (.func 20), _, _⟩, _, _, _, _⟩ :: _) _ _ _; refine cl (callee := .func 20) rfl (fun w hw => same1 B1 (some ⟨bm, 0, none⟩) _ _ _ w (hw.rd spL) (hw.rd spL)) rfl rfl ?_) | refine bnoT rfl ?_ | refine pkf rfl tbL evL ?_) | refine s_nil ?_ | refine kh_normal ?_))
      refine v_norm [(2,_),(3,_),(4,_),(7,_),(10,_)] heL (fun g => ?_)
      refine VH.ent (G := [bx b 38 _, bx b7 26 _, orow 38 A1 c1 nl, bx b4 59 _, bx b3 26 _]) ?_ enL
      (repeat' (first | (show VH _ _ _ _ _ _ _; first | refine v_seq ?_ | refine r_seq ?_) | (show SH _ _ _ _ _ (_ :: _) _ _ _; first | (show SH _ _ _ _ _ (⟨_, .load _ _, _, _, _, _⟩ :: _) _ _ _; first | refine lbx rfl spL (by rfl) ?_ | refine lba rfl spL (by rfl) ?_) | (show SH _ _ _ _ _ (⟨_, .call ⟨.value (.func 30), _, _⟩, _, _, _, _⟩ :: _) _ _ _; refine cp (callee := .func 30) rfl (fun w hw => hC1 A1 c1 w (hw.rd spL)) rfl rfl ?_) | refine fad rfl ?_)))
      rintro _ _ ⟨A2, c2, B2, d2, rfl, rfl⟩
      (repeat' (first | (show VH _ _ _ _ _ _ _; first | refine v_seq ?_ | refine r_seq ?_) | (show SH _ _ _ _ _ (_ :: _) _ _ _; first | refine mov evL ?_ | refine asg evL ?_ | (show SH _ _ _ _ _ (⟨_, .load _ _, _, _, _, _⟩ :: _) _ _ _; first | refine lbx rfl spL (by rfl) ?_ | refine lba rfl spL (by rfl) ?_) | (show SH _ _ _ _ _ (⟨_, .call ⟨.value (.func 30), _, _⟩, _, _, _, _⟩ :: _) _ _ _; refine cp (callee := .func 30) rfl (fun w hw => hC2 A1 c1 w (hw.rd spL)) rfl rfl ?_) | refine extr rfl rfl ?_ | refine fad rfl ?_ | refine ala rfl (fun b => ?_) | refine sta rfl rfl rfl spL (by rfl) (by rfl) (by rfl) kpL ?_) | refine s_nil ?_ | refine kh_normal ?_))
      rintro _ _ ⟨A3, c3, B3, d3, rfl, rfl⟩
      (repeat' (first | (show VH _ _ _ _ _ _ _; first | refine v_seq ?_ | refine r_seq ?_) | (show SH _ _ _ _ _ (_ :: _) _ _ _; first | refine mov evL ?_ | refine asg evL ?_ | (show SH _ _ _ _ _ (⟨_, .load _ _, _, _, _, _⟩ :: _) _ _ _; first | refine lbx rfl spL (by rfl) ?_ | refine lba rfl spL (by rfl) ?_) | (show SH _ _ _ _ _ (⟨_, .call ⟨.value (.func 30), _, _⟩, _, _, _, _⟩ :: _) _ _ _; refine cp (callee := .func 30) rfl (fun w hw => hC3 A2 c2 w (hw.rd spL)) rfl rfl ?_) | refine extr rfl rfl ?_ | refine fad rfl ?_ | refine ala rfl (fun b => ?_) | refine sta rfl rfl rfl spL (by rfl) (by rfl) (by rfl) kpL ?_) | refine s_nil ?_ | refine kh_normal ?_))
      rintro _ _ ⟨A4, c4, B4, d4, rfl, rfl⟩
      rename_i b10 g1 b11
      (repeat' ((fail_if_success (show VH _ _ (.seq (.seq (.region 15 _ _) _) _) _ _ _ _)); first | (show VH _ _ _ _ _ _ _; first | refine v_seq ?_ | refine r_seq ?_) | (show SH _ _ _ _ _ (_ :: _) _ _ _; first | refine mov evL ?_ | refine asg evL ?_ | refine sub rfl rfl inL ?_ | refine lbx rfl spL (by rfl) ?_ | refine extr rfl rfl ?_ | refine fad rfl ?_ | refine ala rfl (fun b => ?_) | refine stb rfl rfl evL spL rfl rfl (by first | decide | exact Nat.zero_lt_succ _ | exact of_decide_eq_true rfl) kpL ?_ | refine sta rfl rfl rfl spL (by rfl) (by rfl) (by rfl) kpL ?_) | refine s_nil ?_ | refine kh_normal ?_))
      rw [show last + 1 - 1 = last by omega]
      rename_i b14
      refine v_norm [(2,_),(3,_),(4,_),(7,_),(10,_),(11,_),(12,_),(13,_),(16,_),(19,_)] heL (fun g => ?_)
      refine VH.ent (G := [bx b11 26 _, orow 38 A2 c2 lots, orow 36 B2 d2 [(⟨0, a, it, c⟩ : Mv)], bx b10 38 _, bx b7 26 _, orow 38 A1 c1 nl, bx b4 59 _, bx b3 26 _]) ?_ enL
      clear hC1 hC2 hC3
      refine v_seq ?_
      refine v_cut [(154, 188)] (fun _ : Unit => []) (fun _ => [bx b10 38 (Flat.enc (⟨last + 1, a, it, c, d, tick + e, 0, 0, 0⟩ : Lot)), bx b7 26 [.int .i64 tick, .int .i64 (last + 1), .slice A1 nl.length c1], orow 38 A1 c1 nl, bx b4 59 [.int .i64 kk, .int .i64 a, .int .i64 it, .int .i64 c, .int .i64 d, .int .i64 e]]) (fun _ => True) ?_ ?_ ent_vh
      · by_cases hoa : other = a
        · clear hg
          (repeat' (first | (show VH _ _ _ _ _ _ _; first | refine v_seq ?_ | refine r_seq ?_) | (show SH _ _ _ _ _ (_ :: _) _ _ _; first | (refine gif rfl rfl ?_; first | refine giTF tbL ?_ | refine giFF tbL ?_) | refine mov evL ?_ | refine neqF rfl rfl omD ?_ | (show SH _ _ _ _ _ (⟨_, .load _ _, _, _, _, _⟩ :: _) _ _ _; first | refine lbx rfl spL (by rfl) ?_ | refine lba rfl spL (by rfl) ?_) | (show SH _ _ _ _ _ (⟨_, .call ⟨.value (.func 19), _, _⟩, _, _, _, _⟩ :: _) _ _ _; refine cl (callee := .func 19) rfl (fun w hw => hS A2 A c2 c0 w (hw.rd spL) (hr.ext hw.ext)) rfl rfl ?_) | (show SH _ _ _ _ _ (⟨_, .call ⟨.value (.func 17), _, _⟩, _, _, _, _⟩ :: _) _ _ _; refine cl (callee := .func 17) rfl (fun w hw => mv_spec _ _ _ _ w) rfl rfl ?_) | refine bnoT rfl ?_ | refine pkf rfl tbL evL ?_ | refine fad rfl ?_)))
          refine bsl (l := [(⟨0, a, it, c⟩ : Mv)]) rfl rfl (Vals.cons rfl Vals.nil) rfl rfl (by decide) (fun bm => ?_)
          (repeat' (first | (show VH _ _ _ _ _ _ _; first | refine v_skip ?_ | refine v_cond_f rfl tbL ?_) | (show SH _ _ _ _ _ (_ :: _) _ _ _; first | (refine gif rfl rfl ?_; refine giFF tbL ?_) | (show SH _ _ _ _ _ (⟨_, .call ⟨.value (.func 20), _, _⟩, _, _, _, _⟩ :: _) _ _ _; refine cl (callee := .func 20) rfl (fun w hw => same1 B2 (some ⟨bm, 0, none⟩) _ _ _ w (hw.rd spL) (hw.rd spL)) rfl rfl ?_) | refine bnoT rfl ?_ | refine pkf rfl tbL evL ?_) | refine s_nil ?_ | refine kh_normal ?_))
          exact ⟨agL, (), hsL, enL, trivial⟩
        · have hge := hg hoa
          clear hg
          (repeat' (first | (show VH _ _ _ _ _ _ _; first | refine v_seq ?_ | refine r_seq ?_) | (show SH _ _ _ _ _ (_ :: _) _ _ _; first | (refine gif rfl rfl ?_; first | refine giTT tbL ?_ | refine giFF tbL ?_) | refine mov evL ?_ | (show SH _ _ _ _ _ (⟨_, .binOp _ _ _ _ _, _, _, _, _⟩ :: _) _ _ _; first | refine neqT rfl rfl omD ?_ | refine neqF rfl rfl omD ?_) | (show SH _ _ _ _ _ (⟨_, .load _ _, _, _, _, _⟩ :: _) _ _ _; first | refine lbx rfl spL (by rfl) ?_ | refine lba rfl spL (by rfl) ?_) | (show SH _ _ _ _ _ (⟨_, .call ⟨.value (.func 19), _, _⟩, _, _, _, _⟩ :: _) _ _ _; refine cl (callee := .func 19) rfl (fun w hw => hS A2 A c2 c0 w (hw.rd spL) (hr.ext hw.ext)) rfl rfl ?_) | (show SH _ _ _ _ _ (⟨_, .call ⟨.value (.func 17), _, _⟩, _, _, _, _⟩ :: _) _ _ _; refine cl (callee := .func 17) rfl (fun w hw => mv_spec _ _ _ _ w) rfl rfl ?_) | refine bnoT rfl ?_ | refine pkt rfl tbL evL ?_ | refine pkf rfl tbL evL ?_ | refine fad rfl ?_)))
          refine bsl (l := [(⟨0, a, it, c⟩ : Mv)]) rfl rfl (Vals.cons rfl Vals.nil) rfl rfl (by decide) (fun bm => ?_)
          (repeat' (first | (show VH _ _ _ _ _ _ _; first | refine v_skip ?_ | refine v_cond_f rfl tbL ?_) | (show SH _ _ _ _ _ (_ :: _) _ _ _; first | (refine gif rfl rfl ?_; refine giFF tbL ?_) | (show SH _ _ _ _ _ (⟨_, .call ⟨.value (.func 20), _, _⟩, _, _, _, _⟩ :: _) _ _ _; refine cl (callee := .func 20) rfl (fun w hw => same1 B2 (some ⟨bm, 0, none⟩) _ _ _ w (hw.rd spL) (hw.rd spL)) rfl rfl ?_) | refine bnoT rfl ?_ | refine pkf rfl tbL evL ?_) | refine s_nil ?_ | refine kh_normal ?_))
          exact ⟨agL, (), hsL, enL, trivial⟩
      rintro _ g _ _ rfl
      simp only [sets]
      clear hg hS
      (repeat' (first | (show VH _ _ _ _ _ _ _; first | refine v_seq ?_ | refine r_seq ?_) | (show SH _ _ _ _ _ (_ :: _) _ _ _; first | refine mov evL ?_ | refine asg evL ?_ | (show SH _ _ _ _ _ (⟨_, .binOp _ _ _ _ _, _, _, _, _⟩ :: _) _ _ _; first | refine add rfl rfl inL ?_ | refine rem rfl rfl omL omL ?_) | (show SH _ _ _ _ _ (⟨_, .load _ _, _, _, _, _⟩ :: _) _ _ _; first | refine lbx rfl spL (by rfl) ?_ | refine lba rfl spL (by rfl) ?_) | (show SH _ _ _ _ _ (⟨_, .call ⟨.value (.func 15), _, _⟩, _, _, _, _⟩ :: _) _ _ _; refine cp (callee := .func 15) rfl (fun w hw => hB1 A1 c1 w (hw.rd spL)) rfl rfl ?_) | refine fad rfl ?_) | refine s_nil ?_ | refine kh_normal ?_))
      rintro _ _ ⟨A5, c5, B5, d5, rfl, rfl⟩
      (repeat' ((fail_if_success (show VH _ _ (.seq (.region 19 _ _) _) _ _ _ _)); first | (show SH _ _ _ _ _ (_ :: _) _ _ _; first | refine mov evL ?_ | refine asg evL ?_ | refine extr rfl rfl ?_ | refine ala rfl (fun b => ?_) | refine sta rfl rfl rfl spL (by rfl) (by rfl) (by rfl) kpL ?_) | refine s_nil ?_ | refine kh_normal ?_))
      refine v_norm [(4,_),(7,_),(10,_),(20,_),(21,_),(23,_)] heL (fun g => ?_)
      (repeat' (first | (show VH _ _ _ _ _ _ _; first | refine v_seq ?_ | refine r_seq ?_) | (show SH _ _ _ _ _ (_ :: _) _ _ _; first | (show SH _ _ _ _ _ (⟨_, .load _ _, _, _, _, _⟩ :: _) _ _ _; first | refine lbx rfl spL (by rfl) ?_ | refine lba rfl spL (by rfl) ?_) | (show SH _ _ _ _ _ (⟨_, .call ⟨.value (.func 15), _, _⟩, _, _, _, _⟩ :: _) _ _ _; refine cp (callee := .func 15) rfl (fun w hw => hB2 A1 c1 w (hw.rd spL)) rfl rfl ?_) | refine fad rfl ?_)))
      rintro _ _ ⟨A6, c6, B6, d6, rfl, rfl⟩
      (repeat' ((fail_if_success (show VH _ _ (.seq (.region 20 _ _) _) _ _ _ _)); first | (show SH _ _ _ _ _ (_ :: _) _ _ _; first | refine mov evL ?_ | refine asg evL ?_ | refine extr rfl rfl ?_ | refine ala rfl (fun b => ?_) | refine sta rfl rfl rfl spL (by rfl) (by rfl) (by rfl) kpL ?_) | refine s_nil ?_ | refine kh_normal ?_))
      refine v_norm [(4,_),(7,_),(10,_),(20,_),(21,_),(23,_),(26,_)] heL (fun g => ?_)
      (repeat' (first | (show VH _ _ _ _ _ _ _; first | refine v_seq ?_ | refine r_seq ?_) | (show SH _ _ _ _ _ (_ :: _) _ _ _; first | (show SH _ _ _ _ _ (⟨_, .load _ _, _, _, _, _⟩ :: _) _ _ _; first | refine lbx rfl spL (by rfl) ?_ | refine lba rfl spL (by rfl) ?_) | (show SH _ _ _ _ _ (⟨_, .call ⟨.value (.func 30), _, _⟩, _, _, _, _⟩ :: _) _ _ _; refine cp (callee := .func 30) rfl (fun w hw => hC4 A5 c5 w (hw.rd spL)) rfl rfl ?_) | refine fad rfl ?_)))
      rintro _ _ ⟨A7, c7, B7, d7, rfl, rfl⟩
      (repeat' ((fail_if_success (show VH _ _ (.seq (.region 21 _ _) _) _ _ _ _)); first | (show SH _ _ _ _ _ (_ :: _) _ _ _; first | refine mov evL ?_ | refine asg evL ?_ | refine extr rfl rfl ?_ | refine ala rfl (fun b => ?_) | refine sta rfl rfl rfl spL (by rfl) (by rfl) (by rfl) kpL ?_) | refine s_nil ?_ | refine kh_normal ?_))
      refine v_norm [(4,_),(7,_),(10,_),(20,_),(23,_),(26,_),(29,_)] heL (fun g => ?_)
      (repeat' (first | (show VH _ _ _ _ _ _ _; first | refine v_seq ?_ | refine r_seq ?_) | (show SH _ _ _ _ _ (_ :: _) _ _ _; first | refine mov evL ?_ | refine sub rfl rfl inL ?_ | (show SH _ _ _ _ _ (⟨_, .load _ _, _, _, _, _⟩ :: _) _ _ _; first | refine lbx rfl spL (by rfl) ?_ | refine lba rfl spL (by rfl) ?_) | (show SH _ _ _ _ _ (⟨_, .call ⟨.value (.func 15), _, _⟩, _, _, _, _⟩ :: _) _ _ _; refine cp (callee := .func 15) rfl (fun w hw => hB3 A1 c1 w (hw.rd spL)) rfl rfl ?_) | refine fad rfl ?_)))
      rintro _ _ ⟨A8, c8, B8, d8, rfl, rfl⟩
      (repeat' ((fail_if_success (show VH _ _ (.seq (.region 22 _ _) _) _ _ _ _)); first | (show SH _ _ _ _ _ (_ :: _) _ _ _; first | refine mov evL ?_ | refine asg evL ?_ | refine extr rfl rfl ?_ | refine ala rfl (fun b => ?_) | refine sta rfl rfl rfl spL (by rfl) (by rfl) (by rfl) kpL ?_) | refine s_nil ?_ | refine kh_normal ?_))
      refine v_norm [(4,_),(23,_),(26,_),(29,_),(32,_)] heL (fun g => ?_)
      refine VH.ent (G := [bx b4 59 _]) ?_ enL
      by_cases hd1 : d = 1
      · have hl := hlw1 hd1
        clear hlw1 hlw2 hB1 hB2 hC4 hB3
        (repeat' (first | (show VH _ _ _ _ _ _ _; first | refine v_seq ?_ | refine r_seq ?_ | refine v_ret ?_) | (show SH _ _ _ _ _ (_ :: _) _ _ _; first | (show SH _ _ _ _ _ (⟨_, _, _, _, _, some _⟩ :: _) _ _ _; first | (refine gif rfl rfl ?_; first | refine giTT tbL ?_ | refine giFT tbL ?_) | refine gu rfl rfl ?_) | refine mov evL ?_ | refine asg evL ?_ | refine eqlT rfl rfl omD ?_ | refine lbx rfl spL (by rfl) ?_ | refine pkt rfl tbL evL ?_ | refine fad rfl ?_) | refine s_nil ?_ | refine kh_normal ?_))
        exact rh1 rfl rfl ⟨congrArg Value.bool (by first | rfl | exact decide_eq_true (by omega)), rfl⟩ (ent_nil _)
      · have hl := hlw2 hd1
        clear hlw1 hlw2 hB1 hB2 hC4 hB3
        (repeat' (first | (show VH _ _ _ _ _ _ _; first | refine v_seq ?_ | refine r_seq ?_ | refine v_ret ?_) | (show SH _ _ _ _ _ (_ :: _) _ _ _; first | (refine gif rfl rfl ?_; first | refine giTT tbL ?_ | refine giTF tbL ?_ | refine giFF tbL ?_) | refine mov evL ?_ | refine asg evL ?_ | (show SH _ _ _ _ _ (⟨_, .binOp _ _ _ _ _, _, _, _, _⟩ :: _) _ _ _; first | refine gtrT rfl rfl omD ?_ | refine eqlT rfl rfl omD ?_ | refine eqlF rfl rfl omD ?_) | refine lbx rfl spL (by rfl) ?_ | refine pkt rfl tbL evL ?_ | refine pkf rfl tbL evL ?_ | refine fad rfl ?_) | refine s_nil ?_ | refine kh_normal ?_))
        exact rh1 rfl rfl ⟨congrArg Value.bool (by first | rfl | exact decide_eq_true (by omega)), rfl⟩ (ent_nil _)
    · exact cancelLaw_err A c0 h ⟨kk, a, it, c, d, e⟩ other w hr h40 hvs he
end Go.Proofs.Ytehjdbgijibmcaa
