/- Package auction: in, right, Valid, Next. -/
import Derived.Test.YtehjdbgijibmcaaZTa
import Derived.Test.YtehjdbgijibmcaaZAl
set_option linter.unusedSimpArgs false
set_option linter.unusedVariables false
namespace Go.Proofs.Ytehjdbgijibmcaa
open Go.Fw Go.RowKit
theorem in_spec (n lo hi : Int) (w : World) : Ret Try.prog 31 [.int .i64 n, .int .i64 lo, .int .i64 hi].toArray w (Out w (.bool (inB n lo hi))) := by
  refine enterH Try.func31 rfl rfl Try.ntmps31 rfl (Wd.refl _) ?_
  (repeat' (first | (show VH _ _ _ _ _ _ _; first | refine v_seq ?_ | refine r_seq ?_ | refine v_ret ?_) | (show SH _ _ _ _ _ (_ :: _) _ _ _; first | (refine gif rfl rfl ?_; first | refine giTT tbL ?_ | refine giTF tbL ?_ | refine giTd (fun h => ?_) (fun h => ?_)) | refine mov evL ?_ | refine asg evL ?_ | (show SH _ _ _ _ _ (⟨_, .binOp _ _ _ _ _, _, _, _, _⟩ :: _) _ _ _; first | refine leq rfl rfl ?_ | refine geq rfl rfl ?_) | refine pkt rfl tbL evL ?_ | refine pkf rfl tbL evL ?_) | refine s_nil ?_ | refine kh_normal ?_))
  all_goals exact rh1 rfl rfl ⟨congrArg Value.bool (by unfold inB; simp [*]), rfl⟩ (ent_nil _)
set_option maxRecDepth 100000 in
theorem right_spec (l : Lot) (tick : Int) (w : World) (h0 : -1000000000000 ≤ tick ∧ tick ≤ 1000000000000) : Ret Try.prog 32 [.agg (Flat.enc l).toArray, .int .i64 tick].toArray w (Out w (.bool (rightL l tick))) := by
  refine enterH Try.func32 rfl rfl Try.ntmps32 rfl (Wd.refl _) ?_
  (repeat' (first | (show VH _ _ _ _ _ _ _; first | refine v_seq ?_ | refine r_seq ?_ | refine v_ret ?_ | refine v_skip ?_ | refine v_cond_t rfl tbL ?_ | refine v_cond_dec rfl (fun h => ?_) (fun h => ?_) | refine v_cond rfl (fun h => ?_) (fun h => ?_)) | (show SH _ _ _ _ _ (_ :: _) _ _ _; first | (refine gif rfl rfl ?_; first | refine giTT tbL ?_ | refine giTF tbL ?_ | refine giFF tbL ?_ | refine giFT tbL ?_ | refine giTd (fun h => ?_) (fun h => ?_) | refine giT (fun h => ?_) (fun h => ?_) | refine giF (fun h => ?_) (fun h => ?_)) | refine mov evL ?_ | refine asg evL ?_ | (show SH _ _ _ _ _ (⟨_, .binOp _ _ _ _ _, _, _, _, _⟩ :: _) _ _ _; first | refine add rfl rfl inL ?_ | refine leq rfl rfl ?_ | refine eql rfl rfl ?_ | refine neq rfl rfl ?_) | refine lbx rfl spL (by rfl) ?_ | (show SH _ _ _ _ _ (⟨_, .call ⟨.value (.func 31), _, _⟩, _, _, _, _⟩ :: _) _ _ _; refine cl (callee := .func 31) rfl (fun w hw => in_spec _ _ _ w) rfl rfl ?_) | refine pkt rfl tbL evL ?_ | refine pkf rfl tbL evL ?_ | refine bnot rfl ?_ | refine fad rfl ?_ | refine bxx rfl evL rfl (fun b => ?_)) | refine s_nil ?_ | refine kh_normal ?_ | refine kh_ret ?_))
  all_goals exact rh1 rfl rfl ⟨congrArg Value.bool (by unfold rightL; simp_all), rfl⟩ (ent_nil _)
/-- A house as a value. -/
def hv (A : Option Addr) (cp : Nat) (h : House) : Value := .agg #[.int .i64 h.tick, .int .i64 h.last, .slice A h.lots.length cp]
set_option maxRecDepth 100000 in
theorem valid_spec (A : Option Addr) (cp : Nat) (h : House) (w : World) (hl : h.lots.length ≤ 1000000) (hr : Rd w A h.lots) : Ret Try.prog 18 [hv A cp h].toArray w (Out w (.bool (validH h))) := by
  obtain ⟨tick, last, lots⟩ := h
  unfold hv
  refine enterH Try.func18 rfl rfl Try.ntmps18 rfl (Wd.refl _) ?_
  unfold validH
  simp only at *
  cases h1 : inB tick 0 1073741824 with
  | false =>
    have hi := h1 ▸ in_spec tick 0 1073741824
    (repeat' (first | (show VH _ _ _ _ _ _ _; first | refine v_seq ?_ | refine r_seq ?_ | refine v_ret ?_ | refine v_cond_t rfl tbL ?_) | (show SH _ _ _ _ _ (_ :: _) _ _ _; first | (refine gif rfl rfl ?_; refine giFT tbL ?_) | refine mov evL ?_ | refine asg evL ?_ | refine lbx rfl spL (by rfl) ?_ | (show SH _ _ _ _ _ (⟨_, .call ⟨.value (.func 31), _, _⟩, _, _, _, _⟩ :: _) _ _ _; refine cl (callee := .func 31) rfl (fun w hw => hi w) rfl rfl ?_) | refine pkt rfl tbL evL ?_ | refine bnot rfl ?_ | refine fad rfl ?_ | refine bxx rfl evL rfl (fun b => ?_)) | refine s_nil ?_ | refine kh_normal ?_ | refine kh_ret ?_))
    exact rh1 rfl rfl ⟨rfl, rfl⟩ (ent_nil _)
  | true =>
    have hi := h1 ▸ in_spec tick 0 1073741824
    have htk := inB_iff.1 h1
    cases h2 : inB last 0 1048576 with
    | false =>
      have hi2 := h2 ▸ in_spec last 0 1048576
      (repeat' (first | (show VH _ _ _ _ _ _ _; first | refine v_seq ?_ | refine r_seq ?_ | refine v_ret ?_ | refine v_cond_t rfl tbL ?_) | (show SH _ _ _ _ _ (_ :: _) _ _ _; first | (refine gif rfl rfl ?_; first | refine giFF tbL ?_ | refine giFT tbL ?_) | refine mov evL ?_ | refine asg evL ?_ | refine lbx rfl spL (by rfl) ?_ | (show SH _ _ _ _ _ (⟨_, .call ⟨.value (.func 31), _, _⟩, _, _, _, _⟩ :: _) _ _ _; refine cl (callee := .func 31) rfl (fun w hw => hi w) rfl rfl ?_) | (show SH _ _ _ _ _ (⟨_, .call ⟨.value (.func 31), _, _⟩, _, _, _, _⟩ :: _) _ _ _; refine cl (callee := .func 31) rfl (fun w hw => hi2 w) rfl rfl ?_) | refine pkt rfl tbL evL ?_ | refine pkf rfl tbL evL ?_ | refine bnot rfl ?_ | refine fad rfl ?_ | refine bxx rfl evL rfl (fun b => ?_)) | refine s_nil ?_ | refine kh_normal ?_ | refine kh_ret ?_))
      exact rh1 rfl rfl ⟨rfl, rfl⟩ (ent_nil _)
    | true =>
      have hi2 := h2 ▸ in_spec last 0 1048576
      (repeat' (first | (show VH _ _ _ _ _ _ _; first | refine v_seq ?_ | refine r_seq ?_ | refine v_block ?_ | refine v_ret ?_ | refine v_skip ?_ | refine v_cond_dec rfl (fun h => ?_) (fun h => ?_)) | (show SH _ _ _ _ _ (_ :: _) _ _ _; first | (refine gif rfl rfl ?_; refine giFF tbL ?_) | refine mov evL ?_ | refine asg evL ?_ | refine gtr rfl rfl ?_ | refine lbx rfl spL (by rfl) ?_ | refine slen rfl ?_ | (show SH _ _ _ _ _ (⟨_, .call ⟨.value (.func 31), _, _⟩, _, _, _, _⟩ :: _) _ _ _; refine cl (callee := .func 31) rfl (fun w hw => hi w) rfl rfl ?_) | (show SH _ _ _ _ _ (⟨_, .call ⟨.value (.func 31), _, _⟩, _, _, _, _⟩ :: _) _ _ _; refine cl (callee := .func 31) rfl (fun w hw => hi2 w) rfl rfl ?_) | refine pkf rfl tbL evL ?_ | refine bnot rfl ?_ | refine fad rfl ?_ | refine bxx rfl evL rfl (fun b => ?_)) | refine s_nil ?_ | refine kh_normal ?_ | refine kh_ret ?_))
      · exact rh1 rfl rfl ⟨congrArg Value.bool (by rw [decide_eq_false (by omega)]; rfl), rfl⟩ (ent_nil _)
      · refine v_norm [(1,_),(3,_),(23,_),(24,_),(25,_)] heL (fun g => ?_)
        refine v_loop0 [(2,3),(5,5),(25,49)] (fun y : Nat × Int => [(25, .int .i64 y.1), (3, .int .i64 y.2)]) (fun y => y.1 ≤ lots.length ∧ risingL y.2 last tick (lots.drop y.1) = risingL 0 last tick lots) (fun y => lots.length - y.1) (0, 0) hsL ⟨Nat.zero_le _, rfl⟩ ?_
        rintro ⟨k, prev⟩ g ⟨hk, hv⟩
        simp only [sets]
        simp only at hk hv
        by_cases hkl : k < lots.length
        · rw [drop_cons (d := Flat.dflt) hkl, risingL] at hv
          generalize hx : lots.getD k Flat.dflt = x at hv
          (repeat' (first | (show VH _ _ _ _ _ _ _; first | refine v_seq ?_ | refine r_seq ?_ | refine v_block ?_ | refine v_ret ?_ | refine v_skip ?_ | refine v_cond_t rfl tbL ?_ | refine v_cond rfl (fun h => ?_) (fun h => ?_)) | (show SH _ _ _ _ _ (_ :: _) _ _ _; first | (refine gif rfl rfl ?_; first | refine giFF tbL ?_ | refine giFT tbL ?_ | refine giFd (fun h => ?_) (fun h => ?_)) | refine mov evL ?_ | refine asg evL ?_ | (show SH _ _ _ _ _ (⟨_, .binOp _ _ _ _ _, _, _, _, _⟩ :: _) _ _ _; first | refine add rfl rfl inL ?_ | refine lss rfl rfl ?_ | refine leq rfl rfl ?_ | refine gtr rfl rfl ?_) | (show SH _ _ _ _ _ (⟨_, .load _ _, _, _, _, _⟩ :: _) _ _ _; first | refine lbx rfl spL (by rfl) ?_ | refine lba rfl spL (by rfl) ?_ | refine lra rfl (fun _ _ => rdL) (by rfl) omL ?_) | refine ix rfl rfl (by with_reducible rfl) (fun _ _ => rdL) (by rfl) omL omL ?_ | (show SH _ _ _ _ _ (⟨_, .call ⟨.value (.func 32), _, _⟩, _, _, _, _⟩ :: _) _ _ _; refine cl (callee := .func 32) rfl (fun w hw => right_spec _ _ w (by omega)) rfl rfl ?_) | refine pkt rfl tbL evL ?_ | refine pkf rfl tbL evL ?_ | refine bnot rfl ?_ | refine fad rfl ?_ | refine ala rfl (fun b => ?_) | refine sta rfl rfl rfl spL (by rfl) (by rfl) (by rfl) kpL ?_) | refine s_nil ?_ | refine kh_normal ?_ | refine kh_ret ?_ | refine bh_normal ?_ | refine bh_ret ?_))
          all_goals rw [hx] at *
          all_goals first
            | exact rh1 rfl rfl ⟨congrArg Value.bool (by rw [← hv]; first | (simp_all; done) | (rw [decide_eq_false (show ¬ prev < x.id by omega)]; simp) | (rw [decide_eq_false (show ¬ x.id ≤ last by omega)]; simp)), rfl⟩ (ent_nil _)
            | exact ⟨agL, (k + 1, x.id), by rw [← hx]; (repeat (first | exact trivial | refine And.intro rfl ?_)), enL, ⟨by show k + 1 ≤ _; omega, by simp_all⟩, by show _ - (k + 1) < _ - k; omega⟩
        · rw [List.drop_of_length_le (by omega), risingL] at hv
          (repeat' (first | (show VH _ _ _ _ _ _ _; first | refine v_seq ?_ | refine r_seq ?_ | refine v_ret ?_ | refine v_exit ?_ | refine v_cond_f rfl tbL ?_) | (show SH _ _ _ _ _ (_ :: _) _ _ _; first | refine asg evL ?_ | refine lss rfl rfl ?_) | refine s_nil ?_ | refine kh_normal ?_ | refine kh_exit ?_ | refine bh_exit ?_))
          exact rh1 rfl rfl ⟨congrArg Value.bool (by rw [← hv, decide_eq_true (by omega)]; rfl), rfl⟩ (ent_nil _)
set_option maxRecDepth 100000 in
theorem next_spec (p : Int) (w : World) : Ret Try.prog 21 [.int .i64 p].toArray w (Out w (.int .i64 (nextP p))) := by
  refine enterH Try.func21 rfl rfl Try.ntmps21 rfl (Wd.refl _) ?_
  unfold nextP
  cases hb : inB p 0 2147483647 with
  | false =>
    have hi := hb ▸ in_spec p 0 2147483647
    (repeat' (first | (show VH _ _ _ _ _ _ _; first | refine v_seq ?_ | refine r_seq ?_ | refine v_ret ?_ | refine v_cond_t rfl tbL ?_) | (show SH _ _ _ _ _ (_ :: _) _ _ _; first | refine mov evL ?_ | refine asg evL ?_ | (show SH _ _ _ _ _ (⟨_, .call ⟨.value (.func 31), _, _⟩, _, _, _, _⟩ :: _) _ _ _; refine cl (callee := .func 31) rfl (fun w hw => hi w) rfl rfl ?_) | refine bnot rfl ?_) | refine s_nil ?_ | refine kh_normal ?_ | refine kh_ret ?_))
    exact rh1 rfl rfl ⟨rfl, rfl⟩ (ent_nil _)
  | true =>
    have hi := hb ▸ in_spec p 0 2147483647
    have := inB_iff.1 hb
    (repeat' (first | (show VH _ _ _ _ _ _ _; first | refine v_seq ?_ | refine r_seq ?_ | refine v_ret ?_ | refine v_skip ?_ | refine v_cond_f rfl tbL ?_) | (show SH _ _ _ _ _ (_ :: _) _ _ _; first | refine mov evL ?_ | refine asg evL ?_ | (show SH _ _ _ _ _ (⟨_, .binOp _ _ _ _ _, _, _, _, _⟩ :: _) _ _ _; first | refine add rfl rfl inL ?_ | refine quo rfl rfl omL omL omL ?_) | (show SH _ _ _ _ _ (⟨_, .call ⟨.value (.func 31), _, _⟩, _, _, _, _⟩ :: _) _ _ _; refine cl (callee := .func 31) rfl (fun w hw => hi w) rfl rfl ?_) | refine bnot rfl ?_) | refine s_nil ?_ | refine kh_normal ?_))
    exact rh1 rfl rfl ⟨rfl, rfl⟩ (ent_nil _)
end Go.Proofs.Ytehjdbgijibmcaa
