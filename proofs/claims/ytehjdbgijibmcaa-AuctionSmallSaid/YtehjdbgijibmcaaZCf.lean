/- Package auction: offers, the choice of a way. -/
import Derived.Test.YtehjdbgijibmcaaZCe
set_option linter.unusedSimpArgs false
set_option linter.unusedVariables false
namespace Go.Proofs.Ytehjdbgijibmcaa
open Go.Fw Go.RowKit
def waysL (l : Lot) (who most : Int) (bw bm : Nat) : List Offer :=
  [⟨decide (l.leader = 0), decide (most < l.reserve), 52, [bw, bm]⟩, ⟨decide (l.leader = who), decide (most ≤ l.most), 53, [bm, bw]⟩,
   ⟨decide (l.most < most), false, 54, [bw, bm]⟩, ⟨true, decide (most < nextP l.price), 55, [bm]⟩]
set_option maxHeartbeats 1000000 in
set_option maxRecDepth 100000 in
theorem offers_spec (l : Lot) (who most : Int) (w : World) :
    Ret Try.prog 36 [.agg (Flat.enc l).toArray, .int .i64 who, .int .i64 most].toArray w (RP w fun v H' => ∃ bw bm, v = .agg (encs (waysL l who most bw bm)).toArray ∧ H' = [bx bw 3 [.int .i64 who], bx bm 3 [.int .i64 most]]) := by
  refine enterH Try.func36 rfl rfl Try.ntmps36 rfl (Wd.refl _) ?_
  (repeat' (first | (show VH _ _ _ _ _ _ _; first | refine v_seq ?_ | refine r_seq ?_) | (show SH _ _ _ _ _ (_ :: _) _ _ _; first | refine asg evL ?_ | refine mf1 evL ?_ | refine mf2 evL evL ?_ | refine ala rfl (fun b => ?_) | refine bxx rfl evL rfl (fun b => ?_)) | refine s_nil ?_ | refine kh_normal ?_))
  refine r_held [bx _ 38 _, bx _ 3 _, bx _ 3 _] [(0, true), (1, true), (2, true), (3, true), (4, true), (5, true), (6, true), (7, true), (8, true), (9, true), (10, true), (11, true), (12, true), (13, true), (14, true), (15, true), (16, true), (17, true), (18, true), (19, true), (20, true), (21, true), (22, true), (23, true), (24, true), (25, true), (26, true), (27, true), (30, true), (28, false), (29, false), (31, false), (32, false), (33, false)] hmix (by kernel_rfl) enL ?_
  (repeat' ((show SH _ _ _ _ _ (_ :: _) _ _ _; first | refine mov evL ?_ | (show SH _ _ _ _ _ (⟨_, .binOp _ _ _ _ _, _, _, _, _⟩ :: _) _ _ _; first | refine lss rfl rfl ?_ | refine leq rfl rfl ?_ | refine gtr rfl rfl ?_ | refine eql rfl rfl ?_) | refine lbx rfl spL (by rfl) ?_ | (show SH _ _ _ _ _ (⟨_, .call ⟨.value (.func 21), _, _⟩, _, _, _, _⟩ :: _) _ _ _; refine cl (callee := .func 21) rfl (fun w hw => next_spec _ w) rfl rfl ?_) | refine fad rfl ?_ | refine bld rfl rfl ?_)))
  refine bldO rfl rfl rfl rfl ?_
  (repeat' (first | refine v_ret ?_ | refine sta rfl rfl rfl spL (by rfl) (by rfl) (by rfl) kpL ?_ | refine s_nil ?_ | refine kh_normal ?_))
  exact rhC rfl rfl rfl (fun w hw => loadVar_bx hw spL (by rfl)) ⟨_, _, rfl, rfl⟩ enL
abbrev AsksOf (w : World) (fv : Value) (p : Offer → Bool) : Prop := Fun1 Try.prog w fv (fun x : Offer => .agg (Flat.enc x).toArray) (fun x => .bool (p x)) (fun _ => True)
theorem bid1_spec (o : Offer) (w : World) : Ret Try.prog 38 [.agg (Flat.enc o).toArray].toArray w (Out w (.bool o.applies)) := by
  refine enterH Try.func38 rfl rfl Try.ntmps38 rfl (Wd.refl _) ?_
  (repeat' (first | (show VH _ _ _ _ _ _ _; first | refine v_seq ?_ | refine r_seq ?_ | refine v_ret ?_) | (show SH _ _ _ _ _ (_ :: _) _ _ _; first | refine asg evL ?_ | refine lbx rfl spL (by rfl) ?_ | refine fad rfl ?_ | refine bxx rfl evL rfl (fun b => ?_)) | refine s_nil ?_ | refine kh_normal ?_))
  exact rh1 rfl rfl ⟨rfl, rfl⟩ (ent_nil _)
set_option maxRecDepth 100000 in
theorem indexOf_spec (A : Option Addr) (l : List Offer) (c : Nat) (fv : Value) (p : Offer → Bool) (w : World) (hl : l.length ≤ 1000000) (hr : Rd w A l) (hp : AsksOf w fv p) :
    Ret Try.prog 56 [.slice A l.length c, fv].toArray w (Out w (.int .i64 (idxOf p l))) := by
  obtain ⟨g0, fst, cap, rfl, hp⟩ := hp
  refine enterH Try.func56 rfl rfl Try.ntmps56 rfl (Wd.refl _) ?_
  (repeat' (first | (show VH _ _ _ _ _ _ _; first | refine v_seq ?_ | refine r_seq ?_ | refine v_block ?_) | (show SH _ _ _ _ _ (_ :: _) _ _ _; first | refine mov evL ?_ | refine asg evL ?_ | refine slen rfl ?_) | refine s_nil ?_ | refine kh_normal ?_))
  refine v_loop0 [(4,5),(8,18)] (fun k : Nat => [(8, .int .i64 k)]) (fun k => k ≤ l.length ∧ idxFrom p k (l.drop k) = idxOf p l) (fun k => l.length - k) 0 hsL ⟨Nat.zero_le _, rfl⟩ ?_
  rintro k g ⟨hk, hv⟩
  simp only [sets]
  (repeat' (first | (show VH _ _ _ _ _ _ _; first | refine v_seq ?_ | refine r_seq ?_ | refine v_block ?_ | refine v_ret ?_ | refine v_skip ?_ | refine v_exit ?_ | refine v_cond_dec rfl (fun h => ?_) (fun h => ?_) | refine v_cond rfl (fun h => ?_) (fun h => ?_)) | (show SH _ _ _ _ _ (_ :: _) _ _ _; first | refine mov evL ?_ | refine asg evL ?_ | (show SH _ _ _ _ _ (⟨_, .binOp _ _ _ _ _, _, _, _, _⟩ :: _) _ _ _; first | refine add rfl rfl inL ?_ | refine lss rfl rfl ?_) | refine lra rfl (fun _ _ => rdL) (by rfl) omL ?_ | refine ix rfl rfl (by with_reducible rfl) (fun _ _ => rdL) (by rfl) omL omL ?_ | (show SH _ _ _ _ _ (⟨_, .call ⟨.value (.tmp _), _, _⟩, _, _, _, _⟩ :: _) _ _ _; refine cl (callee := .tmp _) rfl (fun w hw => hp _ hw.ext _ trivial) rfl rfl ?_)) | refine s_nil ?_ | refine kh_normal ?_ | refine kh_ret ?_ | refine kh_exit ?_ | refine bh_normal ?_ | refine bh_ret ?_ | refine bh_exit ?_))
  · exact rh1 rfl rfl ⟨congrArg (Value.int .i64) (by rw [drop_cons (d := Flat.dflt) (by omega), idxFrom, if_pos h] at hv; exact hv), rfl⟩ (ent_nil _)
  · refine ⟨agL, k + 1, hsL, enL, ⟨by omega, ?_⟩, by omega⟩
    rw [drop_cons (d := Flat.dflt) (by omega), idxFrom, if_neg (by rw [h]; simp)] at hv
    exact hv
  · exact rh1 rfl rfl ⟨congrArg (Value.int .i64) (by rw [List.drop_of_length_le (by omega), idxFrom] at hv; exact hv), rfl⟩ (ent_nil _)
set_option maxRecDepth 100000 in
theorem findOf_spec (A : Option Addr) (l : List Offer) (c : Nat) (fv : Value) (p : Offer → Bool) (w : World) (hl : l.length ≤ 1000000) (hr : Rd w A l) (hp : AsksOf w fv p) :
    Ret Try.prog 37 [.slice A l.length c, fv].toArray w (Out w (.tuple #[.int .i64 (idxOf p l), .bool (decide (0 ≤ idxOf p l))])) := by
  refine enterH Try.func37 rfl rfl Try.ntmps37 rfl (Wd.refl _) ?_
  (repeat' (first | (show VH _ _ _ _ _ _ _; first | refine v_seq ?_ | refine r_seq ?_ | refine v_ret ?_) | (show SH _ _ _ _ _ (_ :: _) _ _ _; first | refine mov evL ?_ | refine asg evL ?_ | refine geq rfl rfl ?_ | (show SH _ _ _ _ _ (⟨_, .call ⟨.value (.func 56), _, _⟩, _, _, _, _⟩ :: _) _ _ _; refine cl (callee := .func 56) rfl (fun w hw => indexOf_spec A l c fv p w hl (hr.ext hw.ext) (hp.ext hw.ext)) rfl rfl ?_)) | refine s_nil ?_ | refine kh_normal ?_))
  exact rh2 rfl rfl rfl ⟨rfl, rfl⟩ (ent_nil _)
end Go.Proofs.Ytehjdbgijibmcaa
