/- The reference of layer 34: right, Valid, Next, Holds. -/
import Derived.Test.YtehjdbgijibmcaaZDi
set_option linter.unusedSimpArgs false
set_option linter.unusedVariables false
namespace Go.Proofs.Ytehjdbgijibmcaa
open Go.Fw Go.RowKit
theorem right_dec (l : Lot) (tick : Int) : rightL l tick = decide (1 ≤ l.seller ∧ l.seller ≤ 65536 ∧ 1 ≤ l.item ∧ l.item ≤ 3 ∧ 1 ≤ l.count ∧ l.count ≤ 1000 ∧ 1 ≤ l.reserve ∧ l.reserve ≤ 2147483647 ∧ tick + 1 ≤ l.till ∧ l.till ≤ tick + 10000 ∧
    ((l.leader = 0 ∧ l.most = 0 ∧ l.price = 0) ∨ (1 ≤ l.leader ∧ l.leader ≤ 65536 ∧ l.leader ≠ l.seller ∧ l.reserve ≤ l.price ∧ l.price ≤ l.most ∧ l.most ≤ 2147483647))) := by
  have h := right_iff (l := l) (tick := tick)
  cases hR : rightL l tick with
  | true =>
    obtain ⟨h1, h2, h3, h4, h5, h6⟩ := h.1 hR
    exact (decide_eq_true ⟨h1.1, h1.2, h2.1, h2.2, h3.1, h3.2, h4.1, h4.2, h5.1, h5.2, h6⟩).symm
  | false =>
    refine (decide_eq_false fun ⟨a, b, c, d, e, f, g, i, j, k, m⟩ => ?_).symm
    have := h.2 ⟨⟨a, b⟩, ⟨c, d⟩, ⟨e, f⟩, ⟨g, i⟩, ⟨j, k⟩, m⟩
    rw [hR] at this
    cases this
set_option maxHeartbeats 4000000 in
set_option maxRecDepth 100000 in
theorem rRight_spec (l : Lot) (tick : Int) (w : World) (h0 : -1000000000000 ≤ tick ∧ tick ≤ 1000000000000) : Ret Try.prog 42 [.agg (Flat.enc l).toArray, .int .i64 tick].toArray w (Out w (.bool (rightL l tick))) := by
  rw [right_dec]
  refine enterH Try.func42 rfl rfl Try.ntmps42 rfl (Wd.refl _) ?_
  (repeat' (first | (show VH _ _ _ _ _ _ _; first | refine v_seq ?_ | refine r_seq ?_ | refine v_ret ?_ | refine v_skip ?_ | refine v_cond_t rfl tbL ?_ | refine v_cond_f rfl tbL ?_ | refine v_cond_dec rfl (fun h => ?_) (fun h => ?_)) | (show SH _ _ _ _ _ (_ :: _) _ _ _; first | (refine gif rfl rfl ?_; first | refine giTT tbL ?_ | refine giTF tbL ?_ | refine giFF tbL ?_ | refine giFT tbL ?_ | refine giTd (fun h => ?_) (fun h => ?_) | refine giFd (fun h => ?_) (fun h => ?_)) | refine mov evL ?_ | refine asg evL ?_ | (show SH _ _ _ _ _ (⟨_, .binOp _ _ _ _ _, _, _, _, _⟩ :: _) _ _ _; first | refine add rfl rfl inL ?_ | refine lss rfl rfl ?_ | refine leq rfl rfl ?_ | refine gtr rfl rfl ?_ | refine geq rfl rfl ?_ | refine eql rfl rfl ?_ | refine neq rfl rfl ?_) | refine lbx rfl spL (by rfl) ?_ | refine pkt rfl tbL evL ?_ | refine pkf rfl tbL evL ?_ | refine fad rfl ?_ | refine bxx rfl evL rfl (fun b => ?_)) | refine s_nil ?_ | refine kh_normal ?_ | refine kh_ret ?_))
  all_goals exact rh1 rfl rfl ⟨congrArg Value.bool (by first | exact (decide_eq_true (by omega)).symm | exact (decide_eq_false (by omega)).symm | exact decide_eq_decide.2 (by omega)), rfl⟩ (ent_nil _)
theorem rNext_spec (p : Int) (w : World) : Ret Try.prog 45 [.int .i64 p].toArray w (Out w (.int .i64 (nextP p))) := by
  have e : nextP p = if 0 ≤ p ∧ p ≤ 2147483647 then p + p / 16 + 1 else 0 := by
    unfold nextP
    by_cases h : 0 ≤ p ∧ p ≤ 2147483647
    · rw [if_pos h, if_pos (inB_iff.2 h)]
    · rw [if_neg h, if_neg (fun h' => h (inB_iff.1 h'))]
  rw [e]
  refine enterH Try.func45 rfl rfl Try.ntmps45 rfl (Wd.refl _) ?_
  (repeat' (first | (show VH _ _ _ _ _ _ _; first | refine v_seq ?_ | refine r_seq ?_ | refine v_ret ?_ | refine v_skip ?_ | refine v_cond_t rfl tbL ?_ | refine v_cond_dec rfl (fun h => ?_) (fun h => ?_)) | (show SH _ _ _ _ _ (_ :: _) _ _ _; first | (refine gif rfl rfl ?_; first | refine giFF tbL ?_ | refine giFT tbL ?_ | refine giFd (fun h => ?_) (fun h => ?_)) | refine mov evL ?_ | refine asg evL ?_ | (show SH _ _ _ _ _ (⟨_, .binOp _ _ _ _ _, _, _, _, _⟩ :: _) _ _ _; first | refine add rfl rfl inL ?_ | refine lss rfl rfl ?_ | refine gtr rfl rfl ?_ | refine quo rfl rfl omL omL omL ?_) | refine pkt rfl tbL evL ?_ | refine pkf rfl tbL evL ?_) | refine s_nil ?_ | refine kh_normal ?_ | refine kh_ret ?_))
  all_goals first
    | exact rh1 rfl rfl ⟨congrArg (Value.int .i64) (by rw [if_pos (by omega)]), rfl⟩ (ent_nil _)
    | exact rh1 rfl rfl ⟨congrArg (Value.int .i64) (by rw [if_neg (by omega)]), rfl⟩ (ent_nil _)
end Go.Proofs.Ytehjdbgijibmcaa
