/- Package store: what is valid. -/
import Derived.Test.YtjefoecnciepmaaDoorZTw
import Derived.Test.YtjefoecnciepmaaDoorZSf
set_option linter.unusedSimpArgs false
set_option linter.unusedVariables false
namespace Go.Proofs.YtjefoecnciepmaaDoor
open Go.Fw Go.RowKit
/-- The package-level table of ranges reads as it is laid. -/
abbrev Glob (w : World) : Prop := Rd w (some ⟨0, 0, none⟩) RNG
set_option maxHeartbeats 1000000 in
set_option maxRecDepth 100000 in
theorem fits_spec (c : Comp) (w : World) (hG : Glob w) : Ret Tryd.prog 70 [.agg (Flat.enc c).toArray].toArray w (Out w (.bool (decide (Fits c)))) := by
  obtain ⟨k, a, b, c, d⟩ := c
  rw [show Flat.enc (⟨k, a, b, c, d⟩ : Comp) = [.int .u8 k, .int .i64 a, .int .i64 b, .int .i64 c, .int .i64 d] from rfl]
  by_cases hk : 1 ≤ k ∧ k ≤ 10
  case neg =>
    have hF : ¬ Fits ⟨k, a, b, c, d⟩ := fun h => hk h.kind
    rw [decide_eq_false hF]
    refine enterH Tryd.func70 rfl rfl Tryd.ntmps70 rfl (Wd.refl _) ?_
    by_cases hk1 : k < 1
    · (repeat' (first | (show VH _ _ _ _ _ _ _; first | refine v_seq ?_ | refine r_seq ?_ | refine v_ret ?_ | refine v_cond_t rfl tbL ?_) | (show SH _ _ _ _ _ (_ :: _) _ _ _; first | (refine gif rfl rfl ?_; refine giFT tbL ?_) | refine mov evL ?_ | refine asg evL ?_ | refine lssT rfl rfl omD ?_ | refine lbx rfl spL (by rfl) ?_ | refine pkt rfl tbL evL ?_ | refine fad rfl ?_ | refine bxx rfl evL rfl (fun b => ?_)) | refine s_nil ?_ | refine kh_normal ?_ | refine kh_ret ?_))
      exact rh1 rfl rfl ⟨rfl, rfl⟩ (ent_nil _)
    · (repeat' (first | (show VH _ _ _ _ _ _ _; first | refine v_seq ?_ | refine r_seq ?_ | refine v_ret ?_ | refine v_cond_t rfl tbL ?_) | (show SH _ _ _ _ _ (_ :: _) _ _ _; first | (refine gif rfl rfl ?_; refine giFF tbL ?_) | refine mov evL ?_ | refine asg evL ?_ | (show SH _ _ _ _ _ (⟨_, .binOp _ _ _ _ _, _, _, _, _⟩ :: _) _ _ _; first | refine lssF rfl rfl omD ?_ | refine gtrT rfl rfl omD ?_) | refine lbx rfl spL (by rfl) ?_ | refine pkf rfl tbL evL ?_ | refine fad rfl ?_ | refine bxx rfl evL rfl (fun b => ?_)) | refine s_nil ?_ | refine kh_normal ?_ | refine kh_ret ?_))
      exact rh1 rfl rfl ⟨rfl, rfl⟩ (ent_nil _)
  obtain ⟨j, rfl⟩ : ∃ j : Nat, k = (j : Int) := ⟨k.toNat, by omega⟩
  have hj11 : j < RNG.length := by show j < 11; omega
  have hlen : RNG.length = 11 := rfl
  obtain ⟨R, hR⟩ : ∃ R, RNG = R := ⟨_, rfl⟩
  have hF : Fits ⟨(j : Int), a, b, c, d⟩ ↔ InR (R.getD j Flat.dflt) ⟨j, a, b, c, d⟩ ∧ (j = 3 → c = 0 ∨ a = b) ∧ (j = 5 → a % 2 = 0) := by
    have hj : ((j : Int)).toNat = j := Int.toNat_natCast j
    constructor
    · rintro ⟨_, h2, h3, h4⟩
      simp only [hj] at h2
      rw [← hR]
      exact ⟨h2, fun e => h3 (by show (j : Int) = 3; omega), fun e => h4 (by show (j : Int) = 5; omega)⟩
    · rintro ⟨h2, h3, h4⟩
      rw [← hR] at h2
      exact ⟨hk, by simp only [hj]; exact h2, fun e => h3 (by have e : (j : Int) = 3 := e; omega), fun e => h4 (by have e : (j : Int) = 5 := e; omega)⟩
  unfold Glob at hG
  rw [hR] at hG hj11 hlen
  refine enterH Tryd.func70 rfl rfl Tryd.ntmps70 rfl (Wd.refl _) ?_
  (repeat' (first | (show VH _ _ _ _ _ _ _; first | refine v_seq ?_ | refine r_seq ?_ | refine v_block ?_ | refine v_skip ?_ | refine v_cond_f rfl tbL ?_) | (show SH _ _ _ _ _ (_ :: _) _ _ _; first | (refine gif rfl rfl ?_; refine giFF tbL ?_) | refine mov evL ?_ | refine asg evL ?_ | (show SH _ _ _ _ _ (⟨_, .binOp _ _ _ _ _, _, _, _, _⟩ :: _) _ _ _; first | refine lssF rfl rfl omD ?_ | refine gtrF rfl rfl omD ?_) | (show SH _ _ _ _ _ (⟨_, .load _ _, _, _, _, _⟩ :: _) _ _ _; first | refine lbx rfl spL (by rfl) ?_ | refine lra rfl (fun _ _ => rdX) (by rfl) omL ?_ | refine lra rfl (fun _ _ => rdX) (by rfl) (by simp only [List.length_cons, List.length_nil]; omega) ?_) | refine ixA _ rfl rfl rfl omL ?_ | refine pkf rfl tbL evL ?_ | refine fad rfl ?_ | refine bxx rfl evL rfl (fun b => ?_)) | refine s_nil ?_ | refine kh_normal ?_))
  rename_i b1
  obtain ⟨r, hr⟩ : ∃ r, R.getD j Flat.dflt = r := ⟨_, rfl⟩
  rw [hr] at hF
  have hrow : (Flat.enc (R.getD j Flat.dflt)) = Flat.enc r := by rw [hr]
  rw [hrow]
  clear hrow
  obtain ⟨l0, h0, l1, h1, l2, h2, l3, h3⟩ := r
  refine v_norm [(1,_),(16,_),(17,_)] heL (fun g => ?_)
  refine v_loop0 [(2,4),(17,37)] (fun i : Nat => [(17, .int .i64 i)]) (fun i => i ≤ 4 ∧ (0 < i → l0 ≤ a ∧ a ≤ h0) ∧ (1 < i → l1 ≤ b1 ∧ b1 ≤ h1) ∧ (2 < i → l2 ≤ c ∧ c ≤ h2) ∧ (3 < i → l3 ≤ d ∧ d ≤ h3)) (fun i => 4 - i) 0 hsL ⟨Nat.zero_le _, fun h => absurd h (by omega), fun h => absurd h (by omega), fun h => absurd h (by omega), fun h => absurd h (by omega)⟩ ?_
  rintro i g1 ⟨hi, i0, i1, i2, i3⟩
  simp only [sets]
  obtain rfl | rfl | rfl | rfl | rfl : i = 0 ∨ i = 1 ∨ i = 2 ∨ i = 3 ∨ i = 4 := by omega
  · have r0 : InR ⟨l0, h0, l1, h1, l2, h2, l3, h3⟩ ⟨j, a, b1, c, d⟩ → l0 ≤ a ∧ a ≤ h0 := fun h => h.r0
    have hfits := hF
    by_cases ha : l0 ≤ a
    · by_cases hb : a ≤ h0
      · clear hF hfits r0
        (repeat' (first | (show VH _ _ _ _ _ _ _; first | refine v_seq ?_ | refine r_seq ?_ | refine v_block ?_ | refine v_skip ?_ | refine v_cond_t rfl tbL ?_) | (show SH _ _ _ _ _ (_ :: _) _ _ _; first | refine mov evL ?_ | refine lssT rfl rfl omD ?_) | refine s_nil ?_ | refine kh_normal ?_))
        refine idxA (i := 0) (cs := [.int .i64 l0, .int .i64 h0]) rfl rfl rfl (by decide) rfl rfl ?_
        (repeat' (first | (show VH _ _ _ _ _ _ _; first | refine v_seq ?_ | refine r_seq ?_ | refine r_quiet hmix (by kernel_rfl) ?_ | refine v_skip ?_ | refine v_cond_f rfl tbL ?_) | (show SH _ _ _ _ _ (_ :: _) _ _ _; first | (refine gif rfl rfl ?_; refine giFF tbL ?_) | refine mov evL ?_ | refine asg evL ?_ | (show SH _ _ _ _ _ (⟨_, .binOp _ _ _ _ _, _, _, _, _⟩ :: _) _ _ _; first | refine lssF rfl rfl omD ?_ | refine gtrF rfl rfl omD ?_ | refine add rfl rfl inL ?_) | refine lbx rfl spL (by rfl) ?_ | refine ixA _ rfl rfl rfl omL ?_ | refine pkf rfl tbL evL ?_ | refine fad rfl ?_ | refine ala rfl (fun b => ?_) | refine sta rfl rfl rfl spL (by rfl) (by rfl) (by rfl) kpL ?_) | refine s_nil ?_ | refine kh_normal ?_ | refine bh_normal ?_))
        exact ⟨agL, 1, hsL, enL, ⟨by omega, fun _ => ⟨ha, hb⟩, fun h => absurd h (by omega), fun h => absurd h (by omega), fun h => absurd h (by omega)⟩, by omega⟩
      · rw [decide_eq_false (fun h => hb (r0 (hF.1 h).1).2)]
        clear hF hfits r0
        (repeat' (first | (show VH _ _ _ _ _ _ _; first | refine v_seq ?_ | refine r_seq ?_ | refine v_block ?_ | refine v_skip ?_ | refine v_cond_t rfl tbL ?_) | (show SH _ _ _ _ _ (_ :: _) _ _ _; first | refine mov evL ?_ | refine lssT rfl rfl omD ?_) | refine s_nil ?_ | refine kh_normal ?_))
        refine idxA (i := 0) (cs := [.int .i64 l0, .int .i64 h0]) rfl rfl rfl (by decide) rfl rfl ?_
        (repeat' (first | (show VH _ _ _ _ _ _ _; first | refine v_seq ?_ | refine r_seq ?_ | refine r_quiet hmix (by kernel_rfl) ?_ | refine v_ret ?_ | refine v_cond_t rfl tbL ?_) | (show SH _ _ _ _ _ (_ :: _) _ _ _; first | (refine gif rfl rfl ?_; refine giFF tbL ?_) | refine mov evL ?_ | refine asg evL ?_ | (show SH _ _ _ _ _ (⟨_, .binOp _ _ _ _ _, _, _, _, _⟩ :: _) _ _ _; first | refine lssF rfl rfl omD ?_ | refine gtrT rfl rfl omD ?_) | refine lbx rfl spL (by rfl) ?_ | refine ixA _ rfl rfl rfl omL ?_ | refine pkf rfl tbL evL ?_ | refine fad rfl ?_ | refine ala rfl (fun b => ?_) | refine sta rfl rfl rfl spL (by rfl) (by rfl) (by rfl) kpL ?_) | refine s_nil ?_ | refine kh_normal ?_ | refine kh_ret ?_ | refine bh_ret ?_))
        exact rh1 rfl rfl ⟨rfl, rfl⟩ (ent_nil _)
    · rw [decide_eq_false (fun h => ha (r0 (hF.1 h).1).1)]
      clear hF hfits r0
      (repeat' (first | (show VH _ _ _ _ _ _ _; first | refine v_seq ?_ | refine r_seq ?_ | refine v_block ?_ | refine v_skip ?_ | refine v_cond_t rfl tbL ?_) | (show SH _ _ _ _ _ (_ :: _) _ _ _; first | refine mov evL ?_ | refine lssT rfl rfl omD ?_) | refine s_nil ?_ | refine kh_normal ?_))
      refine idxA (i := 0) (cs := [.int .i64 l0, .int .i64 h0]) rfl rfl rfl (by decide) rfl rfl ?_
      (repeat' (first | (show VH _ _ _ _ _ _ _; first | refine v_seq ?_ | refine r_seq ?_ | refine r_quiet hmix (by kernel_rfl) ?_ | refine v_ret ?_ | refine v_cond_t rfl tbL ?_) | (show SH _ _ _ _ _ (_ :: _) _ _ _; first | (refine gif rfl rfl ?_; refine giFT tbL ?_) | refine mov evL ?_ | refine asg evL ?_ | refine lssT rfl rfl omD ?_ | refine lbx rfl spL (by rfl) ?_ | refine ixA _ rfl rfl rfl omL ?_ | refine pkt rfl tbL evL ?_ | refine fad rfl ?_ | refine ala rfl (fun b => ?_) | refine sta rfl rfl rfl spL (by rfl) (by rfl) (by rfl) kpL ?_) | refine s_nil ?_ | refine kh_normal ?_ | refine kh_ret ?_ | refine bh_ret ?_))
      exact rh1 rfl rfl ⟨rfl, rfl⟩ (ent_nil _)
  · have r0 : InR ⟨l0, h0, l1, h1, l2, h2, l3, h3⟩ ⟨j, a, b1, c, d⟩ → l1 ≤ b1 ∧ b1 ≤ h1 := fun h => h.r1
    have hfits := hF
    by_cases ha : l1 ≤ b1
    · by_cases hb : b1 ≤ h1
      · clear hF hfits r0
        (repeat' (first | (show VH _ _ _ _ _ _ _; first | refine v_seq ?_ | refine r_seq ?_ | refine v_block ?_ | refine v_skip ?_ | refine v_cond_t rfl tbL ?_) | (show SH _ _ _ _ _ (_ :: _) _ _ _; first | refine mov evL ?_ | refine lssT rfl rfl omD ?_) | refine s_nil ?_ | refine kh_normal ?_))
        refine idxA (i := 1) (cs := [.int .i64 l1, .int .i64 h1]) rfl rfl rfl (by decide) rfl rfl ?_
        (repeat' (first | (show VH _ _ _ _ _ _ _; first | refine v_seq ?_ | refine r_seq ?_ | refine r_quiet hmix (by kernel_rfl) ?_ | refine v_skip ?_ | refine v_cond_f rfl tbL ?_) | (show SH _ _ _ _ _ (_ :: _) _ _ _; first | (refine gif rfl rfl ?_; refine giFF tbL ?_) | refine mov evL ?_ | refine asg evL ?_ | (show SH _ _ _ _ _ (⟨_, .binOp _ _ _ _ _, _, _, _, _⟩ :: _) _ _ _; first | refine lssF rfl rfl omD ?_ | refine gtrF rfl rfl omD ?_ | refine add rfl rfl inL ?_) | refine lbx rfl spL (by rfl) ?_ | refine ixA _ rfl rfl rfl omL ?_ | refine pkf rfl tbL evL ?_ | refine fad rfl ?_ | refine ala rfl (fun b => ?_) | refine sta rfl rfl rfl spL (by rfl) (by rfl) (by rfl) kpL ?_) | refine s_nil ?_ | refine kh_normal ?_ | refine bh_normal ?_))
        exact ⟨agL, 2, hsL, enL, ⟨by omega, fun _ => i0 (by omega), fun _ => ⟨ha, hb⟩, fun h => absurd h (by omega), fun h => absurd h (by omega)⟩, by omega⟩
      · rw [decide_eq_false (fun h => hb (r0 (hF.1 h).1).2)]
        clear hF hfits r0
        (repeat' (first | (show VH _ _ _ _ _ _ _; first | refine v_seq ?_ | refine r_seq ?_ | refine v_block ?_ | refine v_skip ?_ | refine v_cond_t rfl tbL ?_) | (show SH _ _ _ _ _ (_ :: _) _ _ _; first | refine mov evL ?_ | refine lssT rfl rfl omD ?_) | refine s_nil ?_ | refine kh_normal ?_))
        refine idxA (i := 1) (cs := [.int .i64 l1, .int .i64 h1]) rfl rfl rfl (by decide) rfl rfl ?_
        (repeat' (first | (show VH _ _ _ _ _ _ _; first | refine v_seq ?_ | refine r_seq ?_ | refine r_quiet hmix (by kernel_rfl) ?_ | refine v_ret ?_ | refine v_cond_t rfl tbL ?_) | (show SH _ _ _ _ _ (_ :: _) _ _ _; first | (refine gif rfl rfl ?_; refine giFF tbL ?_) | refine mov evL ?_ | refine asg evL ?_ | (show SH _ _ _ _ _ (⟨_, .binOp _ _ _ _ _, _, _, _, _⟩ :: _) _ _ _; first | refine lssF rfl rfl omD ?_ | refine gtrT rfl rfl omD ?_) | refine lbx rfl spL (by rfl) ?_ | refine ixA _ rfl rfl rfl omL ?_ | refine pkf rfl tbL evL ?_ | refine fad rfl ?_ | refine ala rfl (fun b => ?_) | refine sta rfl rfl rfl spL (by rfl) (by rfl) (by rfl) kpL ?_) | refine s_nil ?_ | refine kh_normal ?_ | refine kh_ret ?_ | refine bh_ret ?_))
        exact rh1 rfl rfl ⟨rfl, rfl⟩ (ent_nil _)
    · rw [decide_eq_false (fun h => ha (r0 (hF.1 h).1).1)]
      clear hF hfits r0
      (repeat' (first | (show VH _ _ _ _ _ _ _; first | refine v_seq ?_ | refine r_seq ?_ | refine v_block ?_ | refine v_skip ?_ | refine v_cond_t rfl tbL ?_) | (show SH _ _ _ _ _ (_ :: _) _ _ _; first | refine mov evL ?_ | refine lssT rfl rfl omD ?_) | refine s_nil ?_ | refine kh_normal ?_))
      refine idxA (i := 1) (cs := [.int .i64 l1, .int .i64 h1]) rfl rfl rfl (by decide) rfl rfl ?_
      (repeat' (first | (show VH _ _ _ _ _ _ _; first | refine v_seq ?_ | refine r_seq ?_ | refine r_quiet hmix (by kernel_rfl) ?_ | refine v_ret ?_ | refine v_cond_t rfl tbL ?_) | (show SH _ _ _ _ _ (_ :: _) _ _ _; first | (refine gif rfl rfl ?_; refine giFT tbL ?_) | refine mov evL ?_ | refine asg evL ?_ | refine lssT rfl rfl omD ?_ | refine lbx rfl spL (by rfl) ?_ | refine ixA _ rfl rfl rfl omL ?_ | refine pkt rfl tbL evL ?_ | refine fad rfl ?_ | refine ala rfl (fun b => ?_) | refine sta rfl rfl rfl spL (by rfl) (by rfl) (by rfl) kpL ?_) | refine s_nil ?_ | refine kh_normal ?_ | refine kh_ret ?_ | refine bh_ret ?_))
      exact rh1 rfl rfl ⟨rfl, rfl⟩ (ent_nil _)
  · have r0 : InR ⟨l0, h0, l1, h1, l2, h2, l3, h3⟩ ⟨j, a, b1, c, d⟩ → l2 ≤ c ∧ c ≤ h2 := fun h => h.r2
    have hfits := hF
    by_cases ha : l2 ≤ c
    · by_cases hb : c ≤ h2
      · clear hF hfits r0
        (repeat' (first | (show VH _ _ _ _ _ _ _; first | refine v_seq ?_ | refine r_seq ?_ | refine v_block ?_ | refine v_skip ?_ | refine v_cond_t rfl tbL ?_) | (show SH _ _ _ _ _ (_ :: _) _ _ _; first | refine mov evL ?_ | refine lssT rfl rfl omD ?_) | refine s_nil ?_ | refine kh_normal ?_))
        refine idxA (i := 2) (cs := [.int .i64 l2, .int .i64 h2]) rfl rfl rfl (by decide) rfl rfl ?_
        (repeat' (first | (show VH _ _ _ _ _ _ _; first | refine v_seq ?_ | refine r_seq ?_ | refine r_quiet hmix (by kernel_rfl) ?_ | refine v_skip ?_ | refine v_cond_f rfl tbL ?_) | (show SH _ _ _ _ _ (_ :: _) _ _ _; first | (refine gif rfl rfl ?_; refine giFF tbL ?_) | refine mov evL ?_ | refine asg evL ?_ | (show SH _ _ _ _ _ (⟨_, .binOp _ _ _ _ _, _, _, _, _⟩ :: _) _ _ _; first | refine lssF rfl rfl omD ?_ | refine gtrF rfl rfl omD ?_ | refine add rfl rfl inL ?_) | refine lbx rfl spL (by rfl) ?_ | refine ixA _ rfl rfl rfl omL ?_ | refine pkf rfl tbL evL ?_ | refine fad rfl ?_ | refine ala rfl (fun b => ?_) | refine sta rfl rfl rfl spL (by rfl) (by rfl) (by rfl) kpL ?_) | refine s_nil ?_ | refine kh_normal ?_ | refine bh_normal ?_))
        exact ⟨agL, 3, hsL, enL, ⟨by omega, fun _ => i0 (by omega), fun _ => i1 (by omega), fun _ => ⟨ha, hb⟩, fun h => absurd h (by omega)⟩, by omega⟩
      · rw [decide_eq_false (fun h => hb (r0 (hF.1 h).1).2)]
        clear hF hfits r0
        (repeat' (first | (show VH _ _ _ _ _ _ _; first | refine v_seq ?_ | refine r_seq ?_ | refine v_block ?_ | refine v_skip ?_ | refine v_cond_t rfl tbL ?_) | (show SH _ _ _ _ _ (_ :: _) _ _ _; first | refine mov evL ?_ | refine lssT rfl rfl omD ?_) | refine s_nil ?_ | refine kh_normal ?_))
        refine idxA (i := 2) (cs := [.int .i64 l2, .int .i64 h2]) rfl rfl rfl (by decide) rfl rfl ?_
        (repeat' (first | (show VH _ _ _ _ _ _ _; first | refine v_seq ?_ | refine r_seq ?_ | refine r_quiet hmix (by kernel_rfl) ?_ | refine v_ret ?_ | refine v_cond_t rfl tbL ?_) | (show SH _ _ _ _ _ (_ :: _) _ _ _; first | (refine gif rfl rfl ?_; refine giFF tbL ?_) | refine mov evL ?_ | refine asg evL ?_ | (show SH _ _ _ _ _ (⟨_, .binOp _ _ _ _ _, _, _, _, _⟩ :: _) _ _ _; first | refine lssF rfl rfl omD ?_ | refine gtrT rfl rfl omD ?_) | refine lbx rfl spL (by rfl) ?_ | refine ixA _ rfl rfl rfl omL ?_ | refine pkf rfl tbL evL ?_ | refine fad rfl ?_ | refine ala rfl (fun b => ?_) | refine sta rfl rfl rfl spL (by rfl) (by rfl) (by rfl) kpL ?_) | refine s_nil ?_ | refine kh_normal ?_ | refine kh_ret ?_ | refine bh_ret ?_))
        exact rh1 rfl rfl ⟨rfl, rfl⟩ (ent_nil _)
    · rw [decide_eq_false (fun h => ha (r0 (hF.1 h).1).1)]
      clear hF hfits r0
      (repeat' (first | (show VH _ _ _ _ _ _ _; first | refine v_seq ?_ | refine r_seq ?_ | refine v_block ?_ | refine v_skip ?_ | refine v_cond_t rfl tbL ?_) | (show SH _ _ _ _ _ (_ :: _) _ _ _; first | refine mov evL ?_ | refine lssT rfl rfl omD ?_) | refine s_nil ?_ | refine kh_normal ?_))
      refine idxA (i := 2) (cs := [.int .i64 l2, .int .i64 h2]) rfl rfl rfl (by decide) rfl rfl ?_
      (repeat' (first | (show VH _ _ _ _ _ _ _; first | refine v_seq ?_ | refine r_seq ?_ | refine r_quiet hmix (by kernel_rfl) ?_ | refine v_ret ?_ | refine v_cond_t rfl tbL ?_) | (show SH _ _ _ _ _ (_ :: _) _ _ _; first | (refine gif rfl rfl ?_; refine giFT tbL ?_) | refine mov evL ?_ | refine asg evL ?_ | refine lssT rfl rfl omD ?_ | refine lbx rfl spL (by rfl) ?_ | refine ixA _ rfl rfl rfl omL ?_ | refine pkt rfl tbL evL ?_ | refine fad rfl ?_ | refine ala rfl (fun b => ?_) | refine sta rfl rfl rfl spL (by rfl) (by rfl) (by rfl) kpL ?_) | refine s_nil ?_ | refine kh_normal ?_ | refine kh_ret ?_ | refine bh_ret ?_))
      exact rh1 rfl rfl ⟨rfl, rfl⟩ (ent_nil _)
  · have r0 : InR ⟨l0, h0, l1, h1, l2, h2, l3, h3⟩ ⟨j, a, b1, c, d⟩ → l3 ≤ d ∧ d ≤ h3 := fun h => h.r3
    have hfits := hF
    by_cases ha : l3 ≤ d
    · by_cases hb : d ≤ h3
      · clear hF hfits r0
        (repeat' (first | (show VH _ _ _ _ _ _ _; first | refine v_seq ?_ | refine r_seq ?_ | refine v_block ?_ | refine v_skip ?_ | refine v_cond_t rfl tbL ?_) | (show SH _ _ _ _ _ (_ :: _) _ _ _; first | refine mov evL ?_ | refine lssT rfl rfl omD ?_) | refine s_nil ?_ | refine kh_normal ?_))
        refine idxA (i := 3) (cs := [.int .i64 l3, .int .i64 h3]) rfl rfl rfl (by decide) rfl rfl ?_
        (repeat' (first | (show VH _ _ _ _ _ _ _; first | refine v_seq ?_ | refine r_seq ?_ | refine r_quiet hmix (by kernel_rfl) ?_ | refine v_skip ?_ | refine v_cond_f rfl tbL ?_) | (show SH _ _ _ _ _ (_ :: _) _ _ _; first | (refine gif rfl rfl ?_; refine giFF tbL ?_) | refine mov evL ?_ | refine asg evL ?_ | (show SH _ _ _ _ _ (⟨_, .binOp _ _ _ _ _, _, _, _, _⟩ :: _) _ _ _; first | refine lssF rfl rfl omD ?_ | refine gtrF rfl rfl omD ?_ | refine add rfl rfl inL ?_) | refine lbx rfl spL (by rfl) ?_ | refine ixA _ rfl rfl rfl omL ?_ | refine pkf rfl tbL evL ?_ | refine fad rfl ?_ | refine ala rfl (fun b => ?_) | refine sta rfl rfl rfl spL (by rfl) (by rfl) (by rfl) kpL ?_) | refine s_nil ?_ | refine kh_normal ?_ | refine bh_normal ?_))
        exact ⟨agL, 4, hsL, enL, ⟨by omega, fun _ => i0 (by omega), fun _ => i1 (by omega), fun _ => i2 (by omega), fun _ => ⟨ha, hb⟩⟩, by omega⟩
      · rw [decide_eq_false (fun h => hb (r0 (hF.1 h).1).2)]
        clear hF hfits r0
        (repeat' (first | (show VH _ _ _ _ _ _ _; first | refine v_seq ?_ | refine r_seq ?_ | refine v_block ?_ | refine v_skip ?_ | refine v_cond_t rfl tbL ?_) | (show SH _ _ _ _ _ (_ :: _) _ _ _; first | refine mov evL ?_ | refine lssT rfl rfl omD ?_) | refine s_nil ?_ | refine kh_normal ?_))
        refine idxA (i := 3) (cs := [.int .i64 l3, .int .i64 h3]) rfl rfl rfl (by decide) rfl rfl ?_
        (repeat' (first | (show VH _ _ _ _ _ _ _; first | refine v_seq ?_ | refine r_seq ?_ | refine r_quiet hmix (by kernel_rfl) ?_ | refine v_ret ?_ | refine v_cond_t rfl tbL ?_) | (show SH _ _ _ _ _ (_ :: _) _ _ _; first | (refine gif rfl rfl ?_; refine giFF tbL ?_) | refine mov evL ?_ | refine asg evL ?_ | (show SH _ _ _ _ _ (⟨_, .binOp _ _ _ _ _, _, _, _, _⟩ :: _) _ _ _; first | refine lssF rfl rfl omD ?_ | refine gtrT rfl rfl omD ?_) | refine lbx rfl spL (by rfl) ?_ | refine ixA _ rfl rfl rfl omL ?_ | refine pkf rfl tbL evL ?_ | refine fad rfl ?_ | refine ala rfl (fun b => ?_) | refine sta rfl rfl rfl spL (by rfl) (by rfl) (by rfl) kpL ?_) | refine s_nil ?_ | refine kh_normal ?_ | refine kh_ret ?_ | refine bh_ret ?_))
        exact rh1 rfl rfl ⟨rfl, rfl⟩ (ent_nil _)
    · rw [decide_eq_false (fun h => ha (r0 (hF.1 h).1).1)]
      clear hF hfits r0
      (repeat' (first | (show VH _ _ _ _ _ _ _; first | refine v_seq ?_ | refine r_seq ?_ | refine v_block ?_ | refine v_skip ?_ | refine v_cond_t rfl tbL ?_) | (show SH _ _ _ _ _ (_ :: _) _ _ _; first | refine mov evL ?_ | refine lssT rfl rfl omD ?_) | refine s_nil ?_ | refine kh_normal ?_))
      refine idxA (i := 3) (cs := [.int .i64 l3, .int .i64 h3]) rfl rfl rfl (by decide) rfl rfl ?_
      (repeat' (first | (show VH _ _ _ _ _ _ _; first | refine v_seq ?_ | refine r_seq ?_ | refine r_quiet hmix (by kernel_rfl) ?_ | refine v_ret ?_ | refine v_cond_t rfl tbL ?_) | (show SH _ _ _ _ _ (_ :: _) _ _ _; first | (refine gif rfl rfl ?_; refine giFT tbL ?_) | refine mov evL ?_ | refine asg evL ?_ | refine lssT rfl rfl omD ?_ | refine lbx rfl spL (by rfl) ?_ | refine ixA _ rfl rfl rfl omL ?_ | refine pkt rfl tbL evL ?_ | refine fad rfl ?_ | refine ala rfl (fun b => ?_) | refine sta rfl rfl rfl spL (by rfl) (by rfl) (by rfl) kpL ?_) | refine s_nil ?_ | refine kh_normal ?_ | refine kh_ret ?_ | refine bh_ret ?_))
      exact rh1 rfl rfl ⟨rfl, rfl⟩ (ent_nil _)
  · have hin : InR ⟨l0, h0, l1, h1, l2, h2, l3, h3⟩ ⟨j, a, b1, c, d⟩ := ⟨i0 (by omega), i1 (by omega), i2 (by omega), i3 (by omega)⟩
    clear i0 i1 i2 i3 hi
    by_cases j3 : j = 3
    · by_cases hc : c = 0
      · rw [decide_eq_true (hF.2 ⟨hin, fun _ => .inl hc, fun e => absurd e (by omega)⟩)]
        clear hF hin
        (repeat' (first | (show VH _ _ _ _ _ _ _; first | refine v_seq ?_ | refine r_seq ?_ | refine v_block ?_ | refine v_ret ?_ | refine v_exit ?_ | refine v_cond_t rfl tbL ?_ | refine v_cond_f rfl tbL ?_) | (show SH _ _ _ _ _ (_ :: _) _ _ _; first | (refine gif rfl rfl ?_; refine giFT tbL ?_) | refine mov evL ?_ | refine asg evL ?_ | (show SH _ _ _ _ _ (⟨_, .binOp _ _ _ _ _, _, _, _, _⟩ :: _) _ _ _; first | refine lssF rfl rfl omD ?_ | refine eqlT rfl rfl omD ?_) | refine lbx rfl spL (by rfl) ?_ | refine ixA _ rfl rfl rfl omL ?_ | refine pkt rfl tbL evL ?_ | refine fad rfl ?_) | refine s_nil ?_ | refine kh_normal ?_ | refine kh_ret ?_ | refine kh_exit ?_ | refine bh_ret ?_ | refine bh_exit ?_))
        exact rh1 rfl rfl ⟨rfl, rfl⟩ (ent_nil _)
      · by_cases hab : a = b1
        · rw [decide_eq_true (hF.2 ⟨hin, fun _ => .inr hab, fun e => absurd e (by omega)⟩)]
          clear hF hin
          (repeat' (first | (show VH _ _ _ _ _ _ _; first | refine v_seq ?_ | refine r_seq ?_ | refine v_block ?_ | refine v_ret ?_ | refine v_exit ?_ | refine v_cond_t rfl tbL ?_ | refine v_cond_f rfl tbL ?_) | (show SH _ _ _ _ _ (_ :: _) _ _ _; first | (refine gif rfl rfl ?_; refine giFF tbL ?_) | refine mov evL ?_ | refine asg evL ?_ | (show SH _ _ _ _ _ (⟨_, .binOp _ _ _ _ _, _, _, _, _⟩ :: _) _ _ _; first | refine lssF rfl rfl omD ?_ | refine eqlT rfl rfl omD ?_ | refine eqlF rfl rfl omD ?_) | refine lbx rfl spL (by rfl) ?_ | refine ixA _ rfl rfl rfl omL ?_ | refine pkf rfl tbL evL ?_ | refine fad rfl ?_) | refine s_nil ?_ | refine kh_normal ?_ | refine kh_ret ?_ | refine kh_exit ?_ | refine bh_ret ?_ | refine bh_exit ?_))
          exact rh1 rfl rfl ⟨rfl, rfl⟩ (ent_nil _)
        · rw [decide_eq_false (fun h => ((hF.1 h).2.1 j3).elim hc hab)]
          clear hF hin
          (repeat' (first | (show VH _ _ _ _ _ _ _; first | refine v_seq ?_ | refine r_seq ?_ | refine v_block ?_ | refine v_ret ?_ | refine v_exit ?_ | refine v_cond_t rfl tbL ?_ | refine v_cond_f rfl tbL ?_) | (show SH _ _ _ _ _ (_ :: _) _ _ _; first | (refine gif rfl rfl ?_; refine giFF tbL ?_) | refine mov evL ?_ | refine asg evL ?_ | (show SH _ _ _ _ _ (⟨_, .binOp _ _ _ _ _, _, _, _, _⟩ :: _) _ _ _; first | refine lssF rfl rfl omD ?_ | refine eqlT rfl rfl omD ?_ | refine eqlF rfl rfl omD ?_) | refine lbx rfl spL (by rfl) ?_ | refine ixA _ rfl rfl rfl omL ?_ | refine pkf rfl tbL evL ?_ | refine fad rfl ?_) | refine s_nil ?_ | refine kh_normal ?_ | refine kh_ret ?_ | refine kh_exit ?_ | refine bh_ret ?_ | refine bh_exit ?_))
          exact rh1 rfl rfl ⟨rfl, rfl⟩ (ent_nil _)
    · by_cases j5 : j = 5
      · have hr5 : l0 = 0 := by
          have := congrArg Rng.l0 hr
          rw [← hR, j5] at this
          exact this.symm
        have ha0 : 0 ≤ a := by have := hin.r0.1; have : l0 ≤ a := this; omega
        by_cases h2 : a % 2 = 0
        · rw [decide_eq_true (hF.2 ⟨hin, fun e => absurd e j3, fun _ => h2⟩)]
          clear hF hin
          (repeat' (first | (show VH _ _ _ _ _ _ _; first | refine v_seq ?_ | refine r_seq ?_ | refine v_block ?_ | refine v_ret ?_ | refine v_exit ?_ | refine v_cond_t rfl tbL ?_ | refine v_cond_f rfl tbL ?_) | (show SH _ _ _ _ _ (_ :: _) _ _ _; first | refine asg evL ?_ | (show SH _ _ _ _ _ (⟨_, .binOp _ _ _ _ _, _, _, _, _⟩ :: _) _ _ _; first | refine lssF rfl rfl omD ?_ | refine eqlT rfl rfl omD ?_ | refine eqlF rfl rfl omD ?_ | refine rem rfl rfl omL omL ?_) | refine lbx rfl spL (by rfl) ?_ | refine ixA _ rfl rfl rfl omL ?_ | refine fad rfl ?_) | refine s_nil ?_ | refine kh_normal ?_ | refine kh_ret ?_ | refine kh_exit ?_ | refine bh_ret ?_ | refine bh_exit ?_))
          exact rh1 rfl rfl ⟨rfl, rfl⟩ (ent_nil _)
        · rw [decide_eq_false (fun h => h2 ((hF.1 h).2.2 j5))]
          clear hF hin
          (repeat' (first | (show VH _ _ _ _ _ _ _; first | refine v_seq ?_ | refine r_seq ?_ | refine v_block ?_ | refine v_ret ?_ | refine v_exit ?_ | refine v_cond_t rfl tbL ?_ | refine v_cond_f rfl tbL ?_) | (show SH _ _ _ _ _ (_ :: _) _ _ _; first | refine asg evL ?_ | (show SH _ _ _ _ _ (⟨_, .binOp _ _ _ _ _, _, _, _, _⟩ :: _) _ _ _; first | refine lssF rfl rfl omD ?_ | refine eqlT rfl rfl omD ?_ | refine eqlF rfl rfl omD ?_ | refine rem rfl rfl omL omL ?_) | refine lbx rfl spL (by rfl) ?_ | refine ixA _ rfl rfl rfl omL ?_ | refine fad rfl ?_) | refine s_nil ?_ | refine kh_normal ?_ | refine kh_ret ?_ | refine kh_exit ?_ | refine bh_ret ?_ | refine bh_exit ?_))
          exact rh1 rfl rfl ⟨rfl, rfl⟩ (ent_nil _)
      · rw [decide_eq_true (hF.2 ⟨hin, fun e => absurd e j3, fun e => absurd e j5⟩)]
        clear hF hin
        (repeat' (first | (show VH _ _ _ _ _ _ _; first | refine v_seq ?_ | refine r_seq ?_ | refine v_block ?_ | refine v_ret ?_ | refine v_skip ?_ | refine v_exit ?_ | refine v_cond_f rfl tbL ?_) | (show SH _ _ _ _ _ (_ :: _) _ _ _; first | refine asg evL ?_ | (show SH _ _ _ _ _ (⟨_, .binOp _ _ _ _ _, _, _, _, _⟩ :: _) _ _ _; first | refine lssF rfl rfl omD ?_ | refine eqlF rfl rfl omD ?_) | refine lbx rfl spL (by rfl) ?_ | refine fad rfl ?_) | refine s_nil ?_ | refine kh_normal ?_ | refine kh_exit ?_ | refine bh_normal ?_ | refine bh_exit ?_))
        exact rh1 rfl rfl ⟨rfl, rfl⟩ (ent_nil _)
end Go.Proofs.YtjefoecnciepmaaDoor
