/- awake, the examples of the chapter. -/
import Derived.Test.YtehjdbgijibmcaaZDi
set_option linter.unusedSimpArgs false
set_option linter.unusedVariables false
namespace Go.Proofs.Ytehjdbgijibmcaa
open Go.Fw Go.RowKit
theorem aw1_eq : openH ⟨0, 0, ([] : List Lot)⟩ 5 2 3 100 50 = (⟨0, 1, [(⟨1, 5, 2, 3, 100, 50, 0, 0, 0⟩ : Lot)]⟩, ([⟨5, 0, 2, 3⟩] : List Mv), 0) := by kernel_rfl
theorem aw1_spec (A0 : Option Addr) (c0 : Nat) (w : World) (hr : Rd w A0 ([] : List Lot)) : Ret Try.prog 13 [.agg #[.int .i64 0, .int .i64 0, .slice A0 0 c0], .int .i64 5, .int .i64 2, .int .i64 3, .int .i64 100, .int .i64 50].toArray w (RP w fun v H' => ∃ A c B d, v = .tuple #[.agg #[.int .i64 0, .int .i64 1, .slice A 1 c], .slice B 1 d, .int .i64 0] ∧ H' = [orow 38 A c [(⟨1, 5, 2, 3, 100, 50, 0, 0, 0⟩ : Lot)], orow 36 B d ([⟨5, 0, 2, 3⟩] : List Mv)]) := by
  have := open_spec A0 c0 ⟨0, 0, ([] : List Lot)⟩ 5 2 3 100 50 w (by simp) hr
  rw [aw1_eq] at this
  exact this
theorem aw2_eq : bidH ⟨0, 1, [(⟨1, 5, 2, 3, 100, 50, 0, 0, 0⟩ : Lot)]⟩ 1 7 200 = (⟨0, 1, [(⟨1, 5, 2, 3, 100, 50, 7, 200, 100⟩ : Lot)]⟩, ([⟨7, 0, 0, 200⟩] : List Mv), 0) := by kernel_rfl
theorem aw2_spec (A0 : Option Addr) (c0 : Nat) (w : World) (hr : Rd w A0 [(⟨1, 5, 2, 3, 100, 50, 0, 0, 0⟩ : Lot)]) : Ret Try.prog 15 [.agg #[.int .i64 0, .int .i64 1, .slice A0 1 c0], .int .i64 1, .int .i64 7, .int .i64 200].toArray w (RP w fun v H' => ∃ A c B d, v = .tuple #[.agg #[.int .i64 0, .int .i64 1, .slice A 1 c], .slice B 1 d, .int .i64 0] ∧ H' = [orow 38 A c [(⟨1, 5, 2, 3, 100, 50, 7, 200, 100⟩ : Lot)], orow 36 B d ([⟨7, 0, 0, 200⟩] : List Mv)]) := by
  have := bid_spec A0 c0 ⟨0, 1, [(⟨1, 5, 2, 3, 100, 50, 0, 0, 0⟩ : Lot)]⟩ 1 7 200 w (by simp) hr
  rw [aw2_eq] at this
  exact this
theorem aw3_eq : bidH ⟨0, 1, [(⟨1, 5, 2, 3, 100, 50, 7, 200, 100⟩ : Lot)]⟩ 1 8 107 = (⟨0, 1, [(⟨1, 5, 2, 3, 100, 50, 7, 200, 114⟩ : Lot)]⟩, ([] : List Mv), 0) := by kernel_rfl
theorem aw3_spec (A0 : Option Addr) (c0 : Nat) (w : World) (hr : Rd w A0 [(⟨1, 5, 2, 3, 100, 50, 7, 200, 100⟩ : Lot)]) : Ret Try.prog 15 [.agg #[.int .i64 0, .int .i64 1, .slice A0 1 c0], .int .i64 1, .int .i64 8, .int .i64 107].toArray w (RP w fun v H' => ∃ A c B d, v = .tuple #[.agg #[.int .i64 0, .int .i64 1, .slice A 1 c], .slice B 0 d, .int .i64 0] ∧ H' = [orow 38 A c [(⟨1, 5, 2, 3, 100, 50, 7, 200, 114⟩ : Lot)], orow 36 B d ([] : List Mv)]) := by
  have := bid_spec A0 c0 ⟨0, 1, [(⟨1, 5, 2, 3, 100, 50, 7, 200, 100⟩ : Lot)]⟩ 1 8 107 w (by simp) hr
  rw [aw3_eq] at this
  exact this
theorem awl_eq : bidH ⟨0, 1, [(⟨1, 5, 2, 3, 100, 50, 7, 200, 114⟩ : Lot)]⟩ 1 8 121 = (⟨0, 0, ([] : List Lot)⟩, ([] : List Mv), 341) := by kernel_rfl
theorem awl_spec (A0 : Option Addr) (c0 : Nat) (w : World) (hr : Rd w A0 [(⟨1, 5, 2, 3, 100, 50, 7, 200, 114⟩ : Lot)]) : Ret Try.prog 15 [.agg #[.int .i64 0, .int .i64 1, .slice A0 1 c0], .int .i64 1, .int .i64 8, .int .i64 121].toArray w (RP w fun v H' => ∃ A c B d, v = .tuple #[.agg #[.int .i64 0, .int .i64 0, .slice A 0 c], .slice B 0 d, .int .i64 341] ∧ H' = [orow 38 A c ([] : List Lot), orow 36 B d ([] : List Mv)]) := by
  have := bid_spec A0 c0 ⟨0, 1, [(⟨1, 5, 2, 3, 100, 50, 7, 200, 114⟩ : Lot)]⟩ 1 8 121 w (by simp) hr
  rw [awl_eq] at this
  exact this
theorem aw4_eq : bidH ⟨0, 1, [(⟨1, 5, 2, 3, 100, 50, 7, 200, 114⟩ : Lot)]⟩ 1 8 200 = (⟨0, 1, [(⟨1, 5, 2, 3, 100, 50, 7, 200, 200⟩ : Lot)]⟩, ([] : List Mv), 0) := by kernel_rfl
theorem aw4_spec (A0 : Option Addr) (c0 : Nat) (w : World) (hr : Rd w A0 [(⟨1, 5, 2, 3, 100, 50, 7, 200, 114⟩ : Lot)]) : Ret Try.prog 15 [.agg #[.int .i64 0, .int .i64 1, .slice A0 1 c0], .int .i64 1, .int .i64 8, .int .i64 200].toArray w (RP w fun v H' => ∃ A c B d, v = .tuple #[.agg #[.int .i64 0, .int .i64 1, .slice A 1 c], .slice B 0 d, .int .i64 0] ∧ H' = [orow 38 A c [(⟨1, 5, 2, 3, 100, 50, 7, 200, 200⟩ : Lot)], orow 36 B d ([] : List Mv)]) := by
  have := bid_spec A0 c0 ⟨0, 1, [(⟨1, 5, 2, 3, 100, 50, 7, 200, 114⟩ : Lot)]⟩ 1 8 200 w (by simp) hr
  rw [aw4_eq] at this
  exact this
theorem aw5_eq : bidH ⟨0, 1, [(⟨1, 5, 2, 3, 100, 50, 7, 200, 200⟩ : Lot)]⟩ 1 9 250 = (⟨0, 1, [(⟨1, 5, 2, 3, 100, 50, 9, 250, 213⟩ : Lot)]⟩, ([⟨9, 0, 0, 250⟩, ⟨0, 7, 0, 200⟩] : List Mv), 0) := by kernel_rfl
theorem aw5_spec (A0 : Option Addr) (c0 : Nat) (w : World) (hr : Rd w A0 [(⟨1, 5, 2, 3, 100, 50, 7, 200, 200⟩ : Lot)]) : Ret Try.prog 15 [.agg #[.int .i64 0, .int .i64 1, .slice A0 1 c0], .int .i64 1, .int .i64 9, .int .i64 250].toArray w (RP w fun v H' => ∃ A c B d, v = .tuple #[.agg #[.int .i64 0, .int .i64 1, .slice A 1 c], .slice B 2 d, .int .i64 0] ∧ H' = [orow 38 A c [(⟨1, 5, 2, 3, 100, 50, 9, 250, 213⟩ : Lot)], orow 36 B d ([⟨9, 0, 0, 250⟩, ⟨0, 7, 0, 200⟩] : List Mv)]) := by
  have := bid_spec A0 c0 ⟨0, 1, [(⟨1, 5, 2, 3, 100, 50, 7, 200, 200⟩ : Lot)]⟩ 1 9 250 w (by simp) hr
  rw [aw5_eq] at this
  exact this
theorem awe_eq : advH ⟨0, 1, [(⟨1, 5, 2, 3, 100, 50, 9, 250, 213⟩ : Lot)]⟩ 50 = (⟨50, 1, ([] : List Lot)⟩, ([⟨0, 5, 0, 213⟩, ⟨0, 9, 0, 37⟩, ⟨0, 9, 2, 3⟩] : List Mv), 0) := by kernel_rfl
theorem awe_spec (A0 : Option Addr) (c0 : Nat) (w : World) (hr : Rd w A0 [(⟨1, 5, 2, 3, 100, 50, 9, 250, 213⟩ : Lot)]) : Ret Try.prog 16 [.agg #[.int .i64 0, .int .i64 1, .slice A0 1 c0], .int .i64 50].toArray w (RP w fun v H' => ∃ A c B d, v = .tuple #[.agg #[.int .i64 50, .int .i64 1, .slice A 0 c], .slice B 3 d, .int .i64 0] ∧ H' = [orow 38 A c ([] : List Lot), orow 36 B d ([⟨0, 5, 0, 213⟩, ⟨0, 9, 0, 37⟩, ⟨0, 9, 2, 3⟩] : List Mv)]) := by
  have := adv_spec A0 c0 ⟨0, 1, [(⟨1, 5, 2, 3, 100, 50, 9, 250, 213⟩ : Lot)]⟩ 50 w (by simp) hr
  rw [awe_eq] at this
  exact this
theorem awm_eq : advH ⟨0, 1, [(⟨1, 5, 2, 3, 100, 50, 9, 250, 213⟩ : Lot)]⟩ 40 = (⟨40, 1, [(⟨1, 5, 2, 3, 100, 50, 9, 250, 213⟩ : Lot)]⟩, ([] : List Mv), 0) := by kernel_rfl
theorem awm_spec (A0 : Option Addr) (c0 : Nat) (w : World) (hr : Rd w A0 [(⟨1, 5, 2, 3, 100, 50, 9, 250, 213⟩ : Lot)]) : Ret Try.prog 16 [.agg #[.int .i64 0, .int .i64 1, .slice A0 1 c0], .int .i64 40].toArray w (RP w fun v H' => ∃ A c B d, v = .tuple #[.agg #[.int .i64 40, .int .i64 1, .slice A 1 c], .slice B 0 d, .int .i64 0] ∧ H' = [orow 38 A c [(⟨1, 5, 2, 3, 100, 50, 9, 250, 213⟩ : Lot)], orow 36 B d ([] : List Mv)]) := by
  have := adv_spec A0 c0 ⟨0, 1, [(⟨1, 5, 2, 3, 100, 50, 9, 250, 213⟩ : Lot)]⟩ 40 w (by simp) hr
  rw [awm_eq] at this
  exact this
theorem awt_eq : bidH ⟨40, 1, [(⟨1, 5, 2, 3, 100, 50, 9, 250, 213⟩ : Lot)]⟩ 1 9 300 = (⟨40, 1, [(⟨1, 5, 2, 3, 100, 60, 9, 300, 213⟩ : Lot)]⟩, ([⟨9, 0, 0, 50⟩] : List Mv), 0) := by kernel_rfl
theorem awt_spec (A0 : Option Addr) (c0 : Nat) (w : World) (hr : Rd w A0 [(⟨1, 5, 2, 3, 100, 50, 9, 250, 213⟩ : Lot)]) : Ret Try.prog 15 [.agg #[.int .i64 40, .int .i64 1, .slice A0 1 c0], .int .i64 1, .int .i64 9, .int .i64 300].toArray w (RP w fun v H' => ∃ A c B d, v = .tuple #[.agg #[.int .i64 40, .int .i64 1, .slice A 1 c], .slice B 1 d, .int .i64 0] ∧ H' = [orow 38 A c [(⟨1, 5, 2, 3, 100, 60, 9, 300, 213⟩ : Lot)], orow 36 B d ([⟨9, 0, 0, 50⟩] : List Mv)]) := by
  have := bid_spec A0 c0 ⟨40, 1, [(⟨1, 5, 2, 3, 100, 50, 9, 250, 213⟩ : Lot)]⟩ 1 9 300 w (by simp) hr
  rw [awt_eq] at this
  exact this
theorem awh_spec (A0 : Option Addr) (c0 : Nat) (w : World) (hr : Rd w A0 [(⟨1, 5, 2, 3, 100, 50, 9, 250, 213⟩ : Lot)]) : Ret Try.prog 28 [.agg #[.int .i64 0, .int .i64 1, .slice A0 1 c0]].toArray w (Out w (.tuple #[.agg (Flat.enc (⟨250, 0, 3, 0⟩ : Q4)).toArray, .int .i64 0])) := by
  have := holds_spec1 A0 c0 ⟨0, 1, [(⟨1, 5, 2, 3, 100, 50, 9, 250, 213⟩ : Lot)]⟩ w (by simp) hr (by kernel_rfl)
  rw [show holdsH ⟨0, 1, [(⟨1, 5, 2, 3, 100, 50, 9, 250, 213⟩ : Lot)]⟩ = [250, 0, 3, 0] by kernel_rfl] at this
  exact this
theorem awa_same (A1 A2 : Option Addr) (c1 c2 : Nat) (w : World) (h1 : Rd w A1 ([⟨5, 0, 2, 3⟩] : List Mv)) (h2 : Rd w A2 ([⟨5, 0, 2, 3⟩] : List Mv)) : Ret Try.prog 20 [.slice A1 1 c1, .slice A2 1 c2].toArray w (Out w (.bool true)) := by
  have := sameMoves_spec A1 A2 _ _ 1 1 c1 c2 w h1 h2 rfl rfl (by simp)
  rw [decide_eq_true rfl] at this
  exact this
theorem awb_same (A1 A2 : Option Addr) (c1 c2 : Nat) (w : World) (h1 : Rd w A1 ([⟨7, 0, 0, 200⟩] : List Mv)) (h2 : Rd w A2 ([⟨7, 0, 0, 200⟩] : List Mv)) : Ret Try.prog 20 [.slice A1 1 c1, .slice A2 1 c2].toArray w (Out w (.bool true)) := by
  have := sameMoves_spec A1 A2 _ _ 1 1 c1 c2 w h1 h2 rfl rfl (by simp)
  rw [decide_eq_true rfl] at this
  exact this
theorem awd_same (A1 A2 : Option Addr) (c1 c2 : Nat) (w : World) (h1 : Rd w A1 ([⟨9, 0, 0, 250⟩, ⟨0, 7, 0, 200⟩] : List Mv)) (h2 : Rd w A2 ([⟨9, 0, 0, 250⟩, ⟨0, 7, 0, 200⟩] : List Mv)) : Ret Try.prog 20 [.slice A1 2 c1, .slice A2 2 c2].toArray w (Out w (.bool true)) := by
  have := sameMoves_spec A1 A2 _ _ 2 2 c1 c2 w h1 h2 rfl rfl (by simp)
  rw [decide_eq_true rfl] at this
  exact this
theorem awl_same (A1 A2 : Option Addr) (c1 c2 : Nat) (w : World) (h1 : Rd w A1 ([⟨0, 5, 0, 213⟩, ⟨0, 9, 0, 37⟩, ⟨0, 9, 2, 3⟩] : List Mv)) (h2 : Rd w A2 ([⟨0, 5, 0, 213⟩, ⟨0, 9, 0, 37⟩, ⟨0, 9, 2, 3⟩] : List Mv)) : Ret Try.prog 20 [.slice A1 3 c1, .slice A2 3 c2].toArray w (Out w (.bool true)) := by
  have := sameMoves_spec A1 A2 _ _ 3 3 c1 c2 w h1 h2 rfl rfl (by simp)
  rw [decide_eq_true rfl] at this
  exact this
set_option maxHeartbeats 4000000 in
set_option maxRecDepth 100000 in
theorem awake_spec (w : World) : Ret Try.prog 12 ([] : List Value).toArray w (Out w (.bool true)) := by
  refine enterH Try.func12 rfl rfl Try.ntmps12 rfl (Wd.refl _) ?_
  (repeat' (first | (show VH _ _ _ _ _ _ _; first | refine v_seq ?_ | refine r_seq ?_) | (show SH _ _ _ _ _ (_ :: _) _ _ _; first | refine asg evL ?_ | refine lba rfl spL (by rfl) ?_ | (show SH _ _ _ _ _ (⟨_, .call ⟨.value (.func 13), _, _⟩, _, _, _, _⟩ :: _) _ _ _; refine cp (callee := .func 13) rfl (fun w hw => aw1_spec none 0 w (Rd.nil _ none)) rfl rfl ?_) | refine ala rfl (fun b => ?_)) | refine s_nil ?_ | refine kh_normal ?_))
  rintro _ _ ⟨A1, c1, B1, d1, rfl, rfl⟩
  (repeat' (first | (show VH _ _ _ _ _ _ _; first | refine v_seq ?_ | refine r_seq ?_) | (show SH _ _ _ _ _ (_ :: _) _ _ _; first | refine mov evL ?_ | refine asg evL ?_ | refine lba rfl spL (by rfl) ?_ | (show SH _ _ _ _ _ (⟨_, .call ⟨.value (.func 15), _, _⟩, _, _, _, _⟩ :: _) _ _ _; refine cp (callee := .func 15) rfl (fun w hw => aw2_spec A1 c1 w (hw.rd spL)) rfl rfl ?_) | refine extr rfl rfl ?_ | refine sta rfl rfl rfl spL (by rfl) (by rfl) (by rfl) kpL ?_) | refine s_nil ?_ | refine kh_normal ?_))
  rintro _ _ ⟨A2, c2, B2, d2, rfl, rfl⟩
  (repeat' (first | (show VH _ _ _ _ _ _ _; first | refine v_seq ?_ | refine r_seq ?_) | (show SH _ _ _ _ _ (_ :: _) _ _ _; first | refine mov evL ?_ | refine asg evL ?_ | refine lba rfl spL (by rfl) ?_ | (show SH _ _ _ _ _ (⟨_, .call ⟨.value (.func 15), _, _⟩, _, _, _, _⟩ :: _) _ _ _; refine cp (callee := .func 15) rfl (fun w hw => aw3_spec A2 c2 w (hw.rd spL)) rfl rfl ?_) | refine extr rfl rfl ?_ | refine sta rfl rfl rfl spL (by rfl) (by rfl) (by rfl) kpL ?_) | refine s_nil ?_ | refine kh_normal ?_))
  rintro _ _ ⟨A3, c3, B3, d3, rfl, rfl⟩
  (repeat' ((fail_if_success (show VH _ _ (.seq (.region 7 _ _) _) _ _ _ _)); first | (show VH _ _ _ _ _ _ _; first | refine v_seq ?_ | refine r_seq ?_ | refine v_skip ?_ | refine v_cond_f rfl tbL ?_) | (show SH _ _ _ _ _ (_ :: _) _ _ _; first | (refine gif rfl rfl ?_; refine giFF tbL ?_) | refine mov evL ?_ | refine asg evL ?_ | (show SH _ _ _ _ _ (⟨_, .binOp _ _ _ _ _, _, _, _, _⟩ :: _) _ _ _; first | refine add rfl rfl inL ?_ | refine neq rfl rfl ?_) | (show SH _ _ _ _ _ (⟨_, .load _ _, _, _, _, _⟩ :: _) _ _ _; first | refine lbx rfl spL (by rfl) ?_ | refine lrf rfl (fun _ _ => rdL) (by rfl) omL (by rfl) ?_) | refine ixi rfl rfl (fun _ _ => rdL) (by rfl) omL omL omL ?_ | refine slen rfl ?_ | refine pkf rfl tbL evL ?_ | refine extr rfl rfl ?_ | refine fad rfl ?_ | refine sta rfl rfl rfl spL (by rfl) (by rfl) (by rfl) kpL ?_) | refine s_nil ?_ | refine kh_normal ?_))
  refine VH.ent (G := [bx _ 26 _, orow 38 A3 c3 [(⟨1, 5, 2, 3, 100, 50, 7, 200, 114⟩ : Lot)], orow 36 B1 d1 ([⟨5, 0, 2, 3⟩] : List Mv), orow 36 B2 d2 ([⟨7, 0, 0, 200⟩] : List Mv)]) ?_ enL
  (repeat' (first | (show VH _ _ _ _ _ _ _; first | refine v_seq ?_ | refine r_seq ?_) | (show SH _ _ _ _ _ (_ :: _) _ _ _; first | refine lba rfl spL (by rfl) ?_ | (show SH _ _ _ _ _ (⟨_, .call ⟨.value (.func 15), _, _⟩, _, _, _, _⟩ :: _) _ _ _; refine cp (callee := .func 15) rfl (fun w hw => awl_spec A3 c3 w (hw.rd spL)) rfl rfl ?_))))
  rintro _ _ ⟨A9, c9, B9, d9, rfl, rfl⟩
  (repeat' (first | (show VH _ _ _ _ _ _ _; first | refine v_seq ?_ | refine r_seq ?_) | (show SH _ _ _ _ _ (_ :: _) _ _ _; first | refine mov evL ?_ | refine asg evL ?_ | refine lba rfl spL (by rfl) ?_ | (show SH _ _ _ _ _ (⟨_, .call ⟨.value (.func 15), _, _⟩, _, _, _, _⟩ :: _) _ _ _; refine cp (callee := .func 15) rfl (fun w hw => aw4_spec A3 c3 w (hw.rd spL)) rfl rfl ?_) | refine extr rfl rfl ?_ | refine ala rfl (fun b => ?_) | refine sta rfl rfl rfl spL (by rfl) (by rfl) (by rfl) kpL ?_) | refine s_nil ?_ | refine kh_normal ?_))
  rintro _ _ ⟨A4, c4, B4, d4, rfl, rfl⟩
  (repeat' (first | (show VH _ _ _ _ _ _ _; first | refine v_seq ?_ | refine r_seq ?_) | (show SH _ _ _ _ _ (_ :: _) _ _ _; first | refine mov evL ?_ | refine asg evL ?_ | refine lba rfl spL (by rfl) ?_ | (show SH _ _ _ _ _ (⟨_, .call ⟨.value (.func 15), _, _⟩, _, _, _, _⟩ :: _) _ _ _; refine cp (callee := .func 15) rfl (fun w hw => aw5_spec A4 c4 w (hw.rd spL)) rfl rfl ?_) | refine extr rfl rfl ?_ | refine sta rfl rfl rfl spL (by rfl) (by rfl) (by rfl) kpL ?_) | refine s_nil ?_ | refine kh_normal ?_))
  rintro _ _ ⟨A5, c5, B5, d5, rfl, rfl⟩
  (repeat' ((fail_if_success (show VH _ _ (.seq (.region 11 _ _) _) _ _ _ _)); first | (show VH _ _ _ _ _ _ _; first | refine v_seq ?_ | refine r_seq ?_) | (show SH _ _ _ _ _ (_ :: _) _ _ _; first | refine mov evL ?_ | refine asg evL ?_ | refine lba rfl spL (by rfl) ?_ | (show SH _ _ _ _ _ (⟨_, .call ⟨.value (.func 28), _, _⟩, _, _, _, _⟩ :: _) _ _ _; refine cl (callee := .func 28) rfl (fun w hw => awh_spec A5 c5 w (hw.rd spL)) rfl rfl ?_) | refine extr rfl rfl ?_ | refine ala rfl (fun b => ?_) | refine sta rfl rfl rfl spL (by rfl) (by rfl) (by rfl) kpL ?_) | refine s_nil ?_ | refine kh_normal ?_))
  rename_i bq br
  refine v_norm [(1,_),(2,_),(4,_),(6,_),(10,_),(12,_),(13,_),(14,_),(15,_),(16,_)] heL (fun g => ?_)
  refine VH.ent (G := [bx _ 66 _, bx bq 26 _, orow 38 A5 c5 [(⟨1, 5, 2, 3, 100, 50, 9, 250, 213⟩ : Lot)], orow 36 B1 d1 ([⟨5, 0, 2, 3⟩] : List Mv), orow 36 B2 d2 ([⟨7, 0, 0, 200⟩] : List Mv), orow 36 B5 d5 ([⟨9, 0, 0, 250⟩, ⟨0, 7, 0, 200⟩] : List Mv)]) ?_ enL
  (repeat' (first | (show VH _ _ _ _ _ _ _; first | refine v_seq ?_ | refine r_seq ?_) | (show SH _ _ _ _ _ (_ :: _) _ _ _; first | refine lba rfl spL (by rfl) ?_ | (show SH _ _ _ _ _ (⟨_, .call ⟨.value (.func 16), _, _⟩, _, _, _, _⟩ :: _) _ _ _; refine cp (callee := .func 16) rfl (fun w hw => awe_spec A5 c5 w (hw.rd spL)) rfl rfl ?_))))
  rintro _ _ ⟨A6, c6, B6, d6, rfl, rfl⟩
  (repeat' (first | (show VH _ _ _ _ _ _ _; first | refine v_seq ?_ | refine r_seq ?_) | (show SH _ _ _ _ _ (_ :: _) _ _ _; first | refine mov evL ?_ | refine asg evL ?_ | refine lba rfl spL (by rfl) ?_ | (show SH _ _ _ _ _ (⟨_, .call ⟨.value (.func 16), _, _⟩, _, _, _, _⟩ :: _) _ _ _; refine cp (callee := .func 16) rfl (fun w hw => awm_spec A5 c5 w (hw.rd spL)) rfl rfl ?_) | refine extr rfl rfl ?_ | refine ala rfl (fun b => ?_) | refine sta rfl rfl rfl spL (by rfl) (by rfl) (by rfl) kpL ?_) | refine s_nil ?_ | refine kh_normal ?_))
  rintro _ _ ⟨A7, c7, B7, d7, rfl, rfl⟩
  (repeat' (first | (show VH _ _ _ _ _ _ _; first | refine v_seq ?_ | refine r_seq ?_) | (show SH _ _ _ _ _ (_ :: _) _ _ _; first | refine mov evL ?_ | refine asg evL ?_ | refine lba rfl spL (by rfl) ?_ | (show SH _ _ _ _ _ (⟨_, .call ⟨.value (.func 15), _, _⟩, _, _, _, _⟩ :: _) _ _ _; refine cp (callee := .func 15) rfl (fun w hw => awt_spec A7 c7 w (hw.rd spL)) rfl rfl ?_) | refine extr rfl rfl ?_ | refine ala rfl (fun b => ?_) | refine sta rfl rfl rfl spL (by rfl) (by rfl) (by rfl) kpL ?_) | refine s_nil ?_ | refine kh_normal ?_))
  rintro _ _ ⟨A8, c8, B8, d8, rfl, rfl⟩
  (repeat' (first | (show VH _ _ _ _ _ _ _; first | refine v_seq ?_ | refine r_seq ?_) | (show SH _ _ _ _ _ (_ :: _) _ _ _; first | (refine gif rfl rfl ?_; refine giFF tbL ?_) | refine mov evL ?_ | refine asg evL ?_ | (show SH _ _ _ _ _ (⟨_, .binOp _ _ _ _ _, _, _, _, _⟩ :: _) _ _ _; first | refine add rfl rfl inL ?_ | refine neq rfl rfl ?_) | (show SH _ _ _ _ _ (⟨_, .load _ _, _, _, _, _⟩ :: _) _ _ _; first | refine lbx rfl spL (by rfl) ?_ | refine lba rfl spL (by rfl) ?_ | refine lrf rfl (fun _ _ => rdL) (by rfl) omL (by rfl) ?_) | refine ixi rfl rfl (fun _ _ => rdL) (by rfl) omL omL omL ?_ | refine slen rfl ?_ | refine pkf rfl tbL evL ?_ | refine extr rfl rfl ?_ | refine fad rfl ?_ | refine ala rfl (fun b => ?_) | refine sta rfl rfl rfl spL (by rfl) (by rfl) (by rfl) kpL ?_) | refine s_nil ?_ | refine kh_normal ?_))
  refine bldQ rfl rfl rfl rfl ?_
  (repeat' ((refine gif rfl rfl ?_; refine giFF tbL ?_)))
  refine nea (⟨250, 0, 3, 0⟩ : Q4) ⟨250, 0, 3, 0⟩ rfl rfl ?_
  rw [decide_eq_true rfl]
  (repeat' (first | (show VH _ _ _ _ _ _ _; first | refine v_seq ?_ | refine r_seq ?_ | refine v_skip ?_ | refine v_cond_f rfl tbL ?_) | (show SH _ _ _ _ _ (_ :: _) _ _ _; first | refine mov evL ?_ | (show SH _ _ _ _ _ (⟨_, .call ⟨.value (.func 17), _, _⟩, _, _, _, _⟩ :: _) _ _ _; refine cl (callee := .func 17) rfl (fun w hw => mv_spec _ _ _ _ w) rfl rfl ?_) | refine pkf rfl tbL evL ?_) | refine s_nil ?_ | refine kh_normal ?_))
  refine bsl (l := ([⟨5, 0, 2, 3⟩] : List Mv)) rfl rfl (Vals.cons rfl Vals.nil) rfl rfl (by decide) (fun ea => ?_)
  (repeat' ((show SH _ _ _ _ _ (_ :: _) _ _ _; first | (refine gif rfl rfl ?_; refine giTT tbL ?_) | refine mov evL ?_ | (show SH _ _ _ _ _ (⟨_, .call ⟨.value (.func 17), _, _⟩, _, _, _, _⟩ :: _) _ _ _; refine cl (callee := .func 17) rfl (fun w hw => mv_spec _ _ _ _ w) rfl rfl ?_) | (show SH _ _ _ _ _ (⟨_, .call ⟨.value (.func 20), _, _⟩, _, _, _, _⟩ :: _) _ _ _; refine cl (callee := .func 20) rfl (fun w hw => awa_same B1 (some ⟨ea, 0, none⟩) _ _ w (hw.rd spL) (hw.rd spL)) rfl rfl ?_))))
  refine bsl (l := ([⟨7, 0, 0, 200⟩] : List Mv)) rfl rfl (Vals.cons rfl Vals.nil) rfl rfl (by decide) (fun eb => ?_)
  (repeat' ((show SH _ _ _ _ _ (_ :: _) _ _ _; first | (refine gif rfl rfl ?_; refine giTT tbL ?_) | refine mov evL ?_ | refine eql rfl rfl ?_ | refine slen rfl ?_ | (show SH _ _ _ _ _ (⟨_, .call ⟨.value (.func 17), _, _⟩, _, _, _, _⟩ :: _) _ _ _; refine cl (callee := .func 17) rfl (fun w hw => mv_spec _ _ _ _ w) rfl rfl ?_) | (show SH _ _ _ _ _ (⟨_, .call ⟨.value (.func 20), _, _⟩, _, _, _, _⟩ :: _) _ _ _; refine cl (callee := .func 20) rfl (fun w hw => awb_same B2 (some ⟨eb, 0, none⟩) _ _ w (hw.rd spL) (hw.rd spL)) rfl rfl ?_) | refine pkt rfl tbL evL ?_)))
  refine bsl (l := ([⟨9, 0, 0, 250⟩, ⟨0, 7, 0, 200⟩] : List Mv)) rfl rfl (Vals.cons rfl (Vals.cons rfl Vals.nil)) rfl rfl (by decide) (fun ed => ?_)
  (repeat' ((show SH _ _ _ _ _ (_ :: _) _ _ _; first | (refine gif rfl rfl ?_; refine giTT tbL ?_) | refine mov evL ?_ | (show SH _ _ _ _ _ (⟨_, .call ⟨.value (.func 17), _, _⟩, _, _, _, _⟩ :: _) _ _ _; refine cl (callee := .func 17) rfl (fun w hw => mv_spec _ _ _ _ w) rfl rfl ?_) | (show SH _ _ _ _ _ (⟨_, .call ⟨.value (.func 20), _, _⟩, _, _, _, _⟩ :: _) _ _ _; refine cl (callee := .func 20) rfl (fun w hw => awd_same B5 (some ⟨ed, 0, none⟩) _ _ w (hw.rd spL) (hw.rd spL)) rfl rfl ?_) | refine pkt rfl tbL evL ?_)))
  refine bsl (l := ([⟨0, 5, 0, 213⟩, ⟨0, 9, 0, 37⟩, ⟨0, 9, 2, 3⟩] : List Mv)) rfl rfl (Vals.cons rfl (Vals.cons rfl (Vals.cons rfl Vals.nil))) rfl rfl (by decide) (fun el => ?_)
  (repeat' (first | refine v_ret ?_ | (show SH _ _ _ _ _ (_ :: _) _ _ _; first | (refine gif rfl rfl ?_; refine giTT tbL ?_) | refine mov evL ?_ | refine asg evL ?_ | refine eql rfl rfl ?_ | (show SH _ _ _ _ _ (⟨_, .call ⟨.value (.func 20), _, _⟩, _, _, _, _⟩ :: _) _ _ _; refine cl (callee := .func 20) rfl (fun w hw => awl_same B6 (some ⟨el, 0, none⟩) _ _ w (hw.rd spL) (hw.rd spL)) rfl rfl ?_) | (show SH _ _ _ _ _ (⟨_, .call ⟨.value (.func 21), _, _⟩, _, _, _, _⟩ :: _) _ _ _; refine cl (callee := .func 21) rfl (fun w hw => next_spec _ w) rfl rfl ?_) | refine pkt rfl tbL evL ?_) | refine s_nil ?_ | refine kh_normal ?_))
  exact rh1 rfl rfl ⟨rfl, rfl⟩ (ent_nil _)
end Go.Proofs.Ytehjdbgijibmcaa
