/- The reference of layer 34: Valid. -/
import Derived.Test.YtehjdbgijibmcaaZHa
set_option linter.unusedSimpArgs false
set_option linter.unusedVariables false
namespace Go.Proofs.Ytehjdbgijibmcaa
open Go.Fw Go.RowKit
/-- The ID of the lot ahead. -/
def prevId (lots : List Lot) (k : Nat) : Int := if k = 0 then 0 else (lots.getD (k - 1) Flat.dflt).id
set_option maxHeartbeats 4000000 in
set_option maxRecDepth 100000 in
theorem rValid_spec (A : Option Addr) (cp : Nat) (h : House) (w : World) (hl : h.lots.length ≤ 1000000) (hr : Rd w A h.lots) : Ret Try.prog 23 [hv A cp h].toArray w (Out w (.bool (validH h))) := by
  obtain ⟨tick, last, lots⟩ := h
  unfold hv validH
  simp only at *
  by_cases h1 : 0 ≤ tick ∧ tick ≤ 1073741824 ∧ 0 ≤ last ∧ last ≤ 1048576 ∧ lots.length ≤ 32
  · have e : (inB tick 0 1073741824 && inB last 0 1048576 && decide (lots.length ≤ 32)) = true := by
      rw [inB_iff.2 (by omega), inB_iff.2 (by omega), decide_eq_true (by omega)]; rfl
    rw [e, Bool.true_and]
    clear e
    refine enterH Try.func23 rfl rfl Try.ntmps23 rfl (Wd.refl _) ?_
    (repeat' (first | (show VH _ _ _ _ _ _ _; first | refine v_seq ?_ | refine r_seq ?_ | refine v_block ?_ | refine v_skip ?_ | refine v_cond_f rfl tbL ?_) | (show SH _ _ _ _ _ (_ :: _) _ _ _; first | (refine gif rfl rfl ?_; refine giFF tbL ?_) | refine mov evL ?_ | refine asg evL ?_ | (show SH _ _ _ _ _ (⟨_, .binOp _ _ _ _ _, _, _, _, _⟩ :: _) _ _ _; first | refine lss rfl rfl ?_ | refine gtr rfl rfl ?_) | refine lbx rfl spL (by rfl) ?_ | refine slen rfl ?_ | refine pkf rfl tbL evL ?_ | refine fad rfl ?_ | refine bxx rfl evL rfl (fun b => ?_)) | refine s_nil ?_ | refine kh_normal ?_))
    refine v_norm [(1,_),(2,_),(3,_)] heL (fun g => ?_)
    refine v_loop [(2,4),(29,73)] (fun k : Nat => [(3, .int .i64 k)]) (fun _ => [bx b 53 [.int .i64 tick, .int .i64 last, .slice A lots.length cp]]) (fun k => k ≤ lots.length ∧ risingL (prevId lots k) last tick (lots.drop k) = risingL 0 last tick lots ∧ 0 ≤ prevId lots k) (fun k => lots.length - k) 0 hsL enL ⟨Nat.zero_le _, rfl, Int.le_refl _⟩ ?_
    rintro k g ⟨hk, hv, hpp⟩
    simp only [sets]
    by_cases hkl : k < lots.length
    · rw [drop_cons (d := Flat.dflt) hkl, risingL] at hv
      have hpv : 0 < k → prevId lots k = (lots.getD (k - 1) Flat.dflt).id := fun h => by unfold prevId; rw [if_neg (by omega)]
      have hp0 : k = 0 → prevId lots k = 0 := fun h => by unfold prevId; rw [if_pos h]
      have hpn : prevId lots (k + 1) = (lots.getD k Flat.dflt).id := by unfold prevId; rw [if_neg (by omega), Nat.add_sub_cancel]
      have hrs := rRight_spec (lots.getD k Flat.dflt) tick
      have hk0 : k = 0 ∧ prevId lots k = 0 ∨ 0 < k ∧ prevId lots k = (lots.getD ((k : Int) - 1).toNat Flat.dflt).id := by
        by_cases h : k = 0
        · exact .inl ⟨h, hp0 h⟩
        · exact .inr ⟨by omega, by rw [show ((k : Int) - 1).toNat = k - 1 by omega]; exact hpv (by omega)⟩
      clear hpv hp0 hk
      generalize prevId lots k = pv at hv hk0 hpp
      by_cases hid : pv < (lots.getD k Flat.dflt).id ∧ (lots.getD k Flat.dflt).id ≤ last
      · have hd : (decide (pv < (lots.getD k Flat.dflt).id) && decide ((lots.getD k Flat.dflt).id ≤ last)) = true := by rw [Bool.and_eq_true, decide_eq_true_eq, decide_eq_true_eq]; exact hid
        rw [hd, Bool.true_and] at hv
        clear hd
        cases hR : rightL (lots.getD k Flat.dflt) tick with
        | true =>
          rw [hR, Bool.true_and] at hv
          rw [hR] at hrs
          rcases hk0 with ⟨hk0, hp⟩ | ⟨hk0, hp⟩
          · (repeat' (first | (show VH _ _ _ _ _ _ _; first | refine v_seq ?_ | refine r_seq ?_ | refine r_quiet hmix (by kernel_rfl) ?_ | refine v_block ?_ | refine v_skip ?_ | refine v_cond_t rfl tbL ?_ | refine v_cond_f rfl tbL ?_) | (show SH _ _ _ _ _ (_ :: _) _ _ _; first | (refine gif rfl rfl ?_; first | refine giTF tbL ?_ | refine giFF tbL ?_) | refine mov evL ?_ | refine asg evL ?_ | (show SH _ _ _ _ _ (⟨_, .binOp _ _ _ _ _, _, _, _, _⟩ :: _) _ _ _; first | refine add rfl rfl inL ?_ | refine lss rfl rfl ?_ | refine gtr rfl rfl ?_) | (show SH _ _ _ _ _ (⟨_, .load _ _, _, _, _, _⟩ :: _) _ _ _; first | refine lbx rfl spL (by rfl) ?_ | refine lba rfl spL (by rfl) ?_ | refine lra rfl (fun _ _ => rdL) (by rfl) omL ?_) | refine ix rfl rfl (by with_reducible rfl) (fun _ _ => rdL) (by rfl) omL omL ?_ | refine slen rfl ?_ | (show SH _ _ _ _ _ (⟨_, .call ⟨.value (.func 42), _, _⟩, _, _, _, _⟩ :: _) _ _ _; refine cl (callee := .func 42) rfl (fun w hw => hrs w (by omega)) rfl rfl ?_) | refine pkf rfl tbL evL ?_ | refine bnot rfl ?_ | refine fad rfl ?_ | refine ala rfl (fun b => ?_) | refine sta rfl rfl rfl spL (by rfl) (by rfl) (by rfl) kpL ?_) | refine s_nil ?_ | refine kh_normal ?_ | refine bh_normal ?_))
            exact ⟨agL, k + 1, hsL, enL, ⟨hkl, by rw [← hpn] at hv; exact hv, by rw [hpn]; omega⟩, by show _ - (k + 1) < _ - k; omega⟩
          · (repeat' (first | (show VH _ _ _ _ _ _ _; first | refine v_seq ?_ | refine r_seq ?_ | refine r_quiet hmix (by kernel_rfl) ?_ | refine v_block ?_ | refine v_skip ?_ | refine v_cond_t rfl tbL ?_ | refine v_cond_f rfl tbL ?_) | (show SH _ _ _ _ _ (_ :: _) _ _ _; first | (refine gif rfl rfl ?_; first | refine giTT tbL ?_ | refine giFF tbL ?_) | refine mov evL ?_ | refine asg evL ?_ | (show SH _ _ _ _ _ (⟨_, .binOp _ _ _ _ _, _, _, _, _⟩ :: _) _ _ _; first | refine add rfl rfl inL ?_ | refine sub rfl rfl inL ?_ | refine lss rfl rfl ?_ | refine leq rfl rfl ?_ | refine gtr rfl rfl ?_) | (show SH _ _ _ _ _ (⟨_, .load _ _, _, _, _, _⟩ :: _) _ _ _; first | refine lbx rfl spL (by rfl) ?_ | refine lba rfl spL (by rfl) ?_ | refine lra rfl (fun _ _ => rdL) (by rfl) omL ?_ | refine lrf rfl (fun _ _ => rdL) (by rfl) omL (by rfl) ?_) | (show SH _ _ _ _ _ (⟨_, .indexAddr _ _ _, _, _, _, _⟩ :: _) _ _ _; first | refine ix rfl rfl (by with_reducible rfl) (fun _ _ => rdL) (by rfl) omL omL ?_ | refine ixi rfl rfl (fun _ _ => rdL) (by rfl) omL omL omL ?_) | refine slen rfl ?_ | (show SH _ _ _ _ _ (⟨_, .call ⟨.value (.func 42), _, _⟩, _, _, _, _⟩ :: _) _ _ _; refine cl (callee := .func 42) rfl (fun w hw => hrs w (by omega)) rfl rfl ?_) | refine pkt rfl tbL evL ?_ | refine pkf rfl tbL evL ?_ | refine bnot rfl ?_ | refine fad rfl ?_ | refine ala rfl (fun b => ?_) | refine sta rfl rfl rfl spL (by rfl) (by rfl) (by rfl) kpL ?_) | refine s_nil ?_ | refine kh_normal ?_ | refine bh_normal ?_))
            exact ⟨agL, k + 1, hsL, enL, ⟨hkl, by rw [← hpn] at hv; exact hv, by rw [hpn]; omega⟩, by show _ - (k + 1) < _ - k; omega⟩
        | false =>
          rw [hR, Bool.false_and] at hv
          rw [hR] at hrs
          rw [← hv]
          rcases hk0 with ⟨hk0, hp⟩ | ⟨hk0, hp⟩
          · (repeat' (first | (show VH _ _ _ _ _ _ _; first | refine v_seq ?_ | refine r_seq ?_ | refine r_quiet hmix (by kernel_rfl) ?_ | refine v_block ?_ | refine v_ret ?_ | refine v_skip ?_ | refine v_cond_t rfl tbL ?_) | (show SH _ _ _ _ _ (_ :: _) _ _ _; first | (refine gif rfl rfl ?_; first | refine giTF tbL ?_ | refine giFF tbL ?_) | refine mov evL ?_ | refine asg evL ?_ | (show SH _ _ _ _ _ (⟨_, .binOp _ _ _ _ _, _, _, _, _⟩ :: _) _ _ _; first | refine lss rfl rfl ?_ | refine gtr rfl rfl ?_) | (show SH _ _ _ _ _ (⟨_, .load _ _, _, _, _, _⟩ :: _) _ _ _; first | refine lbx rfl spL (by rfl) ?_ | refine lba rfl spL (by rfl) ?_ | refine lra rfl (fun _ _ => rdL) (by rfl) omL ?_) | refine ix rfl rfl (by with_reducible rfl) (fun _ _ => rdL) (by rfl) omL omL ?_ | refine slen rfl ?_ | (show SH _ _ _ _ _ (⟨_, .call ⟨.value (.func 42), _, _⟩, _, _, _, _⟩ :: _) _ _ _; refine cl (callee := .func 42) rfl (fun w hw => hrs w (by omega)) rfl rfl ?_) | refine pkf rfl tbL evL ?_ | refine bnot rfl ?_ | refine fad rfl ?_ | refine ala rfl (fun b => ?_) | refine sta rfl rfl rfl spL (by rfl) (by rfl) (by rfl) kpL ?_) | refine s_nil ?_ | refine kh_normal ?_ | refine kh_ret ?_ | refine bh_ret ?_))
            exact rh1 rfl rfl ⟨rfl, rfl⟩ (ent_nil _)
          · (repeat' (first | (show VH _ _ _ _ _ _ _; first | refine v_seq ?_ | refine r_seq ?_ | refine r_quiet hmix (by kernel_rfl) ?_ | refine v_block ?_ | refine v_ret ?_ | refine v_skip ?_ | refine v_cond_t rfl tbL ?_) | (show SH _ _ _ _ _ (_ :: _) _ _ _; first | (refine gif rfl rfl ?_; first | refine giTT tbL ?_ | refine giFF tbL ?_) | refine mov evL ?_ | refine asg evL ?_ | (show SH _ _ _ _ _ (⟨_, .binOp _ _ _ _ _, _, _, _, _⟩ :: _) _ _ _; first | refine sub rfl rfl inL ?_ | refine lss rfl rfl ?_ | refine leq rfl rfl ?_ | refine gtr rfl rfl ?_) | (show SH _ _ _ _ _ (⟨_, .load _ _, _, _, _, _⟩ :: _) _ _ _; first | refine lbx rfl spL (by rfl) ?_ | refine lba rfl spL (by rfl) ?_ | refine lra rfl (fun _ _ => rdL) (by rfl) omL ?_ | refine lrf rfl (fun _ _ => rdL) (by rfl) omL (by rfl) ?_) | (show SH _ _ _ _ _ (⟨_, .indexAddr _ _ _, _, _, _, _⟩ :: _) _ _ _; first | refine ix rfl rfl (by with_reducible rfl) (fun _ _ => rdL) (by rfl) omL omL ?_ | refine ixi rfl rfl (fun _ _ => rdL) (by rfl) omL omL omL ?_) | refine slen rfl ?_ | (show SH _ _ _ _ _ (⟨_, .call ⟨.value (.func 42), _, _⟩, _, _, _, _⟩ :: _) _ _ _; refine cl (callee := .func 42) rfl (fun w hw => hrs w (by omega)) rfl rfl ?_) | refine pkt rfl tbL evL ?_ | refine pkf rfl tbL evL ?_ | refine bnot rfl ?_ | refine fad rfl ?_ | refine ala rfl (fun b => ?_) | refine sta rfl rfl rfl spL (by rfl) (by rfl) (by rfl) kpL ?_) | refine s_nil ?_ | refine kh_normal ?_ | refine kh_ret ?_ | refine bh_ret ?_))
            exact rh1 rfl rfl ⟨rfl, rfl⟩ (ent_nil _)
      · have hd : (decide (pv < (lots.getD k Flat.dflt).id) && decide ((lots.getD k Flat.dflt).id ≤ last)) = false := by
          rw [Bool.and_eq_false_iff, decide_eq_false_iff_not, decide_eq_false_iff_not]; omega
        rw [hd, Bool.false_and, Bool.false_and] at hv
        rw [← hv]
        clear hv hd hrs
        rcases (show (lots.getD k Flat.dflt).id < 1 ∨ (1 ≤ (lots.getD k Flat.dflt).id ∧ last < (lots.getD k Flat.dflt).id) ∨ (1 ≤ (lots.getD k Flat.dflt).id ∧ (lots.getD k Flat.dflt).id ≤ last ∧ (lots.getD k Flat.dflt).id ≤ pv) by omega) with hc | hc | hc
        · clear hk0 hid hpp
          (repeat' (first | (show VH _ _ _ _ _ _ _; first | refine v_seq ?_ | refine r_seq ?_ | refine r_quiet hmix (by kernel_rfl) ?_ | refine v_block ?_ | refine v_ret ?_ | refine v_skip ?_ | refine v_cond_t rfl tbL ?_) | (show SH _ _ _ _ _ (_ :: _) _ _ _; first | (show SH _ _ _ _ _ (⟨_, _, _, _, _, some _⟩ :: _) _ _ _; first | (refine gif rfl rfl ?_; refine giFT tbL ?_) | refine gu rfl rfl ?_) | refine mov evL ?_ | refine asg evL ?_ | refine lss rfl rfl ?_ | (show SH _ _ _ _ _ (⟨_, .load _ _, _, _, _, _⟩ :: _) _ _ _; first | refine lbx rfl spL (by rfl) ?_ | refine lra rfl (fun _ _ => rdL) (by rfl) omL ?_) | refine ix rfl rfl (by with_reducible rfl) (fun _ _ => rdL) (by rfl) omL omL ?_ | refine slen rfl ?_ | refine pkt rfl tbL evL ?_ | refine fad rfl ?_ | refine ala rfl (fun b => ?_) | refine sta rfl rfl rfl spL (by rfl) (by rfl) (by rfl) kpL ?_) | refine s_nil ?_ | refine kh_normal ?_ | refine kh_ret ?_ | refine bh_ret ?_))
          exact rh1 rfl rfl ⟨rfl, rfl⟩ (ent_nil _)
        · clear hk0 hid hpp
          (repeat' (first | (show VH _ _ _ _ _ _ _; first | refine v_seq ?_ | refine r_seq ?_ | refine r_quiet hmix (by kernel_rfl) ?_ | refine v_block ?_ | refine v_ret ?_ | refine v_skip ?_ | refine v_cond_t rfl tbL ?_) | (show SH _ _ _ _ _ (_ :: _) _ _ _; first | (show SH _ _ _ _ _ (⟨_, _, _, _, _, some _⟩ :: _) _ _ _; first | (refine gif rfl rfl ?_; first | refine giFF tbL ?_ | refine giFT tbL ?_) | refine gu rfl rfl ?_) | refine mov evL ?_ | refine asg evL ?_ | (show SH _ _ _ _ _ (⟨_, .binOp _ _ _ _ _, _, _, _, _⟩ :: _) _ _ _; first | refine lss rfl rfl ?_ | refine gtr rfl rfl ?_) | (show SH _ _ _ _ _ (⟨_, .load _ _, _, _, _, _⟩ :: _) _ _ _; first | refine lbx rfl spL (by rfl) ?_ | refine lra rfl (fun _ _ => rdL) (by rfl) omL ?_) | refine ix rfl rfl (by with_reducible rfl) (fun _ _ => rdL) (by rfl) omL omL ?_ | refine slen rfl ?_ | refine pkt rfl tbL evL ?_ | refine pkf rfl tbL evL ?_ | refine fad rfl ?_ | refine ala rfl (fun b => ?_) | refine sta rfl rfl rfl spL (by rfl) (by rfl) (by rfl) kpL ?_) | refine s_nil ?_ | refine kh_normal ?_ | refine kh_ret ?_ | refine bh_ret ?_))
          exact rh1 rfl rfl ⟨rfl, rfl⟩ (ent_nil _)
        · obtain ⟨hk0, hp⟩ := hk0.resolve_left (by omega)
          clear hid
          (repeat' (first | (show VH _ _ _ _ _ _ _; first | refine v_seq ?_ | refine r_seq ?_ | refine r_quiet hmix (by kernel_rfl) ?_ | refine v_block ?_ | refine v_ret ?_ | refine v_skip ?_ | refine v_cond_t rfl tbL ?_) | (show SH _ _ _ _ _ (_ :: _) _ _ _; first | (refine gif rfl rfl ?_; first | refine giTT tbL ?_ | refine giFF tbL ?_ | refine giFT tbL ?_) | refine mov evL ?_ | refine asg evL ?_ | (show SH _ _ _ _ _ (⟨_, .binOp _ _ _ _ _, _, _, _, _⟩ :: _) _ _ _; first | refine sub rfl rfl inL ?_ | refine lss rfl rfl ?_ | refine leq rfl rfl ?_ | refine gtr rfl rfl ?_) | (show SH _ _ _ _ _ (⟨_, .load _ _, _, _, _, _⟩ :: _) _ _ _; first | refine lbx rfl spL (by rfl) ?_ | refine lra rfl (fun _ _ => rdL) (by rfl) omL ?_ | refine lrf rfl (fun _ _ => rdL) (by rfl) omL (by rfl) ?_) | (show SH _ _ _ _ _ (⟨_, .indexAddr _ _ _, _, _, _, _⟩ :: _) _ _ _; first | refine ix rfl rfl (by with_reducible rfl) (fun _ _ => rdL) (by rfl) omL omL ?_ | refine ixi rfl rfl (fun _ _ => rdL) (by rfl) omL omL omL ?_) | refine slen rfl ?_ | refine pkt rfl tbL evL ?_ | refine pkf rfl tbL evL ?_ | refine fad rfl ?_ | refine ala rfl (fun b => ?_) | refine sta rfl rfl rfl spL (by rfl) (by rfl) (by rfl) kpL ?_) | refine s_nil ?_ | refine kh_normal ?_ | refine kh_ret ?_ | refine bh_ret ?_))
          exact rh1 rfl rfl ⟨rfl, rfl⟩ (ent_nil _)
    · rw [List.drop_of_length_le (by omega), risingL] at hv
      rw [← hv]
      (repeat' (first | (show VH _ _ _ _ _ _ _; first | refine v_seq ?_ | refine r_seq ?_ | refine v_ret ?_ | refine v_exit ?_ | refine v_cond_f rfl tbL ?_) | (show SH _ _ _ _ _ (_ :: _) _ _ _; first | refine mov evL ?_ | refine asg evL ?_ | refine lss rfl rfl ?_ | refine lbx rfl spL (by rfl) ?_ | refine slen rfl ?_ | refine fad rfl ?_) | refine s_nil ?_ | refine kh_normal ?_ | refine kh_exit ?_ | refine bh_exit ?_))
      exact rh1 rfl rfl ⟨rfl, rfl⟩ (ent_nil _)
  · have e : (inB tick 0 1073741824 && inB last 0 1048576 && decide (lots.length ≤ 32)) = false := by
      cases e1 : inB tick 0 1073741824 <;> cases e2 : inB last 0 1048576 <;> simp_all [inB]
    rw [e, Bool.false_and]
    rcases (show tick < 0 ∨ (0 ≤ tick ∧ 1073741824 < tick) ∨ (0 ≤ tick ∧ tick ≤ 1073741824 ∧ last < 0) ∨ (0 ≤ tick ∧ tick ≤ 1073741824 ∧ 0 ≤ last ∧ 1048576 < last) ∨ (0 ≤ tick ∧ tick ≤ 1073741824 ∧ 0 ≤ last ∧ last ≤ 1048576 ∧ 32 < lots.length) by omega) with hc | hc | hc | hc | hc
    all_goals
      clear h1 e
      refine enterH Try.func23 rfl rfl Try.ntmps23 rfl (Wd.refl _) ?_
      (repeat' (first | (show VH _ _ _ _ _ _ _; first | refine v_seq ?_ | refine r_seq ?_ | refine v_ret ?_ | refine v_cond_t rfl tbL ?_) | (show SH _ _ _ _ _ (_ :: _) _ _ _; first | (refine gif rfl rfl ?_; first | refine giFF tbL ?_ | refine giFT tbL ?_) | refine mov evL ?_ | refine asg evL ?_ | (show SH _ _ _ _ _ (⟨_, .binOp _ _ _ _ _, _, _, _, _⟩ :: _) _ _ _; first | refine lss rfl rfl ?_ | refine gtr rfl rfl ?_) | refine lbx rfl spL (by rfl) ?_ | refine slen rfl ?_ | refine pkt rfl tbL evL ?_ | refine pkf rfl tbL evL ?_ | refine fad rfl ?_ | refine bxx rfl evL rfl (fun b => ?_)) | refine s_nil ?_ | refine kh_normal ?_ | refine kh_ret ?_))
      exact rh1 rfl rfl ⟨rfl, rfl⟩ (ent_nil _)
end Go.Proofs.Ytehjdbgijibmcaa
