/- The reference of layer 15: In, Mask, Part. -/
import Derived.Test.YtfodpcpclmnbkaaDoorZRb
set_option linter.unusedSimpArgs false
set_option linter.unusedVariables false
namespace Go.Proofs.YtfodpcpclmnbkaaDoor
open Go.Fw Go.RowKit
set_option maxHeartbeats 1000000 in
set_option maxRecDepth 100000 in
theorem refIn_spec (k : Int) (m : Nat) (w : World) (hm : m < 4294967296) : Ret Tryd.prog 60 [.int .u8 k, .int .u32 m].toArray w (Out w (.bool (decide (inM k m)))) := by
  by_cases hk : 1 ≤ k ∧ k ≤ 10
  · obtain ⟨n, rfl⟩ : ∃ n : Nat, k = (n : Int) := ⟨k.toNat, by omega⟩
    have hs := shr32 m n (by omega)
    have hres : decide (inM (n : Int) m) = decide (m / 2 ^ n % 2 = 1) := decide_eq_decide.2 (by unfold inM; rw [Int.toNat_natCast]; exact ⟨fun h => h.2.2, fun h => ⟨hk.1, hk.2, h⟩⟩)
    rw [hres]
    clear hres
    generalize m / 2 ^ n = q at hs ⊢
    refine enterH Tryd.func60 rfl rfl Tryd.ntmps60 rfl (Wd.refl _) ?_
    (repeat' (first | (show VH _ _ _ _ _ _ _; first | refine v_seq ?_ | refine r_seq ?_ | refine v_skip ?_ | refine v_cond_f rfl tbL ?_) | (show SH _ _ _ _ _ (_ :: _) _ _ _; first | (show SH _ _ _ _ _ (⟨_, _, _, _, _, some _⟩ :: _) _ _ _; (refine gif rfl rfl ?_; refine giFF tbL ?_)) | (show SH _ _ _ _ _ (⟨_, .move _, _, _, _, _⟩ :: _) _ _ _; refine mov evL ?_) | (show SH _ _ _ _ _ (⟨_, .assign _, _, _, _, _⟩ :: _) _ _ _; refine asg evL ?_) | refine lss rfl rfl ?_ | refine gtr rfl rfl ?_ | (show SH _ _ _ _ _ (⟨_, .pick _ _ _, _, _, _, _⟩ :: _) _ _ _; refine pkf rfl tbL evL ?_)) | refine s_nil ?_ | refine kh_normal ?_))
    refine shrw rfl rfl (by omega) _ hs ?_
    (repeat' (first | refine v_ret ?_ | (show SH _ _ _ _ _ (_ :: _) _ _ _; first | (show SH _ _ _ _ _ (⟨_, .assign _, _, _, _, _⟩ :: _) _ _ _; refine asg evL ?_) | refine eql rfl rfl ?_ | (show SH _ _ _ _ _ (⟨_, .binOp .rem _ _ _ _, _, _, _, _⟩ :: _) _ _ _; refine rem rfl rfl omL omL ?_)) | refine s_nil ?_ | refine kh_normal ?_))
    exact rh1 rfl rfl ⟨congrArg Value.bool (decide_eq_decide.2 (by omega)), rfl⟩ (ent_nil _)
  · rw [decide_eq_false (fun h => hk ⟨h.1, h.2.1⟩)]
    rcases (show k < 1 ∨ 10 < k by omega) with hq | hq
    all_goals
      clear hk
      refine enterH Tryd.func60 rfl rfl Tryd.ntmps60 rfl (Wd.refl _) ?_
      (repeat' (first | (show VH _ _ _ _ _ _ _; first | refine v_seq ?_ | refine r_seq ?_ | refine v_ret ?_ | refine v_cond_t rfl tbL ?_) | (show SH _ _ _ _ _ (_ :: _) _ _ _; first | (show SH _ _ _ _ _ (⟨_, _, _, _, _, some _⟩ :: _) _ _ _; (refine gif rfl rfl ?_; first | refine giFF tbL ?_ | refine giFT tbL ?_)) | (show SH _ _ _ _ _ (⟨_, .move _, _, _, _, _⟩ :: _) _ _ _; refine mov evL ?_) | (show SH _ _ _ _ _ (⟨_, .assign _, _, _, _, _⟩ :: _) _ _ _; refine asg evL ?_) | refine lss rfl rfl ?_ | refine gtr rfl rfl ?_ | (show SH _ _ _ _ _ (⟨_, .pick _ _ _, _, _, _, _⟩ :: _) _ _ _; first | refine pkt rfl tbL evL ?_ | refine pkf rfl tbL evL ?_)) | refine s_nil ?_ | refine kh_normal ?_ | refine kh_ret ?_))
      exact rh1 rfl rfl ⟨rfl, rfl⟩ (ent_nil _)
theorem anyK_next {cs : List Comp} {i k : Nat} (h : i < cs.length) : anyK (cs.take (i + 1)) k = (anyK (cs.take i) k || decide ((cs.getD i Flat.dflt).kind = (k : Int))) := by
  unfold anyK
  rw [take_snoc (d := Flat.dflt) h, List.any_append, List.any_cons, List.any_nil, Bool.or_false]
theorem inc8 (n : Nat) (h : n < 255) : IntKind.u8.wrap ((n : Int) + 1) = ((n + 1 : Nat) : Int) := by
  have : IntKind.u8.wrap ((n : Int) + 1) = ((n : Int) + 1) % 256 := rfl
  rw [this]; omega
theorem sumN_next (cs : List Comp) (a : Nat) (ha : a < 10) (h : anyK cs (a + 1) = true) : IntKind.u32.wrap ((sumN cs a : Int) + ((2 ^ (a + 1) : Nat) : Int)) = ((sumN cs (a + 1) : Nat) : Int) := by
  have h1 := sumN_lt cs (a + 1)
  have h2 : 2 ^ (a + 1 + 1) ≤ 2 ^ 11 := Nat.pow_le_pow_right (by decide) (by omega)
  have h3 : sumN cs (a + 1) = sumN cs a + 2 ^ (a + 1) := by show sumN cs a + (if anyK cs (a + 1) then 2 ^ (a + 1) else 0) = _; rw [if_pos h]
  have h4 : (sumN cs a : Int) + ((2 ^ (a + 1) : Nat) : Int) = ((sumN cs (a + 1) : Nat) : Int) := by rw [h3, Int.natCast_add]
  rw [h4]
  exact wrap32 (Nat.lt_of_lt_of_le h1 (Nat.le_trans h2 (by decide)))
theorem sumN_not (cs : List Comp) (a : Nat) (h : anyK cs (a + 1) = false) : sumN cs (a + 1) = sumN cs a := by
  show sumN cs a + (if anyK cs (a + 1) then 2 ^ (a + 1) else 0) = _
  rw [if_neg (by rw [h]; simp), Nat.add_zero]
set_option maxHeartbeats 2000000 in
set_option maxRecDepth 100000 in
theorem refMask_spec (x : EntP) (w : World) (hl : x.e.comps.length ≤ 1000000) (hr : Rd w x.A x.e.comps) : Ret Tryd.prog 29 [.agg (Flat.enc x).toArray].toArray w (Out w (.int .u32 (maskC x.e.comps))) := by
  obtain ⟨⟨ei, cs⟩, A, c1⟩ := x
  try simp only at hl hr ⊢
  rw [show Flat.enc (⟨⟨ei, cs⟩, A, c1⟩ : EntP) = [.int .i64 ei, .slice A cs.length c1] from rfl]
  rw [maskC_N, mask_sum]
  refine enterH Tryd.func29 rfl rfl Tryd.ntmps29 rfl (Wd.refl _) ?_
  (repeat' (first | (show VH _ _ _ _ _ _ _; first | refine v_seq ?_ | refine r_seq ?_ | refine v_block ?_) | (show SH _ _ _ _ _ (_ :: _) _ _ _; first | (show SH _ _ _ _ _ (⟨_, .assign _, _, _, _, _⟩ :: _) _ _ _; refine asg evL ?_) | (show SH _ _ _ _ _ (⟨_, .box _ _, _, _, _, _⟩ :: _) _ _ _; refine bxx rfl evL rfl (fun b => ?_))) | refine s_nil ?_ | refine kh_normal ?_))
  refine v_norm [(1,_),(2,_),(3,_),(4,_),(5,_),(6,_)] heL (fun g => ?_)
  refine v_loop0 [(3,33)] (fun k : Nat => [(4, .int .u8 k), (3, .int .u32 (sumN cs (k - 1)))]) (fun k => 1 ≤ k ∧ k ≤ 11) (fun k => 11 - k) 1 hsL (by omega) ?_
  rintro k g ⟨hk1, hk⟩
  obtain ⟨a, rfl⟩ : ∃ a, k = a + 1 := ⟨k - 1, by omega⟩
  simp only [sets, Nat.add_sub_cancel]
  by_cases ha : a < 10
  · have hsh := shl32 (a + 1) (by omega)
    have hnx := sumN_next cs a ha
    have hno := sumN_not cs a
    generalize sumN cs a = sa at hnx hno ⊢
    obtain ⟨sb, hsb⟩ : ∃ sb, sumN cs (a + 1) = sb := ⟨_, rfl⟩
    rw [hsb] at hnx hno
    generalize 2 ^ (a + 1) = pw at hsh hnx
    (repeat' (first | (show VH _ _ _ _ _ _ _; first | refine v_seq ?_ | refine r_seq ?_ | refine v_block ?_ | refine v_skip ?_ | refine v_cond_t rfl tbL ?_) | (show SH _ _ _ _ _ (_ :: _) _ _ _; first | (show SH _ _ _ _ _ (⟨_, .move _, _, _, _, _⟩ :: _) _ _ _; refine mov evL ?_) | (show SH _ _ _ _ _ (⟨_, .assign _, _, _, _, _⟩ :: _) _ _ _; refine asg evL ?_) | refine leq rfl rfl ?_) | refine s_nil ?_ | refine kh_normal ?_))
    refine v_loop0 [(5,6),(11,28)] (fun i : Nat => [(6, .int .i64 i), (5, .bool (anyK (cs.take i) (a + 1)))]) (fun i => i ≤ cs.length) (fun i => cs.length - i) 0 hsL (Nat.zero_le _) ?_
    rintro i g2 hi
    simp only [sets]
    by_cases hil : i < cs.length
    · have hn := anyK_next (k := a + 1) hil
      clear hsh hnx hno
      cases hb : anyK (cs.take i) (a + 1) with
      | true =>
        rw [hb, Bool.true_or] at hn
        (repeat' (first | (show VH _ _ _ _ _ _ _; first | refine v_seq ?_ | refine r_seq ?_ | refine v_block ?_ | refine v_skip ?_ | refine v_cond_t rfl tbL ?_) | (show SH _ _ _ _ _ (_ :: _) _ _ _; first | (show SH _ _ _ _ _ (⟨_, _, _, _, _, some _⟩ :: _) _ _ _; (refine gif rfl rfl ?_; refine giFT tbL ?_)) | (show SH _ _ _ _ _ (⟨_, .move _, _, _, _, _⟩ :: _) _ _ _; refine mov evL ?_) | (show SH _ _ _ _ _ (⟨_, .assign _, _, _, _, _⟩ :: _) _ _ _; refine asg evL ?_) | (show SH _ _ _ _ _ (⟨_, .binOp .add _ _ _ _, _, _, _, _⟩ :: _) _ _ _; refine add rfl rfl inL ?_) | refine lss rfl rfl ?_ | (show SH _ _ _ _ _ (⟨_, .load _ _, _, _, _, _⟩ :: _) _ _ _; refine lbx rfl spL (by rfl) ?_) | refine slen rfl ?_ | (show SH _ _ _ _ _ (⟨_, .pick _ _ _, _, _, _, _⟩ :: _) _ _ _; refine pkt rfl tbL evL ?_) | refine fad rfl ?_) | refine s_nil ?_ | refine kh_normal ?_ | refine bh_normal ?_))
        exact ⟨agL, i + 1, by rw [hn]; (repeat (first | exact trivial | refine And.intro rfl ?_)), enL, hil, by show _ - (i + 1) < _ - i; omega⟩
      | false =>
        rw [hb, Bool.false_or] at hn
        (repeat' (first | (show VH _ _ _ _ _ _ _; first | refine v_seq ?_ | refine r_seq ?_ | refine v_block ?_ | refine v_skip ?_ | refine v_cond_t rfl tbL ?_) | (show SH _ _ _ _ _ (_ :: _) _ _ _; first | (show SH _ _ _ _ _ (⟨_, _, _, _, _, some _⟩ :: _) _ _ _; (refine gif rfl rfl ?_; refine giFF tbL ?_)) | (show SH _ _ _ _ _ (⟨_, .move _, _, _, _, _⟩ :: _) _ _ _; refine mov evL ?_) | (show SH _ _ _ _ _ (⟨_, .assign _, _, _, _, _⟩ :: _) _ _ _; refine asg evL ?_) | (show SH _ _ _ _ _ (⟨_, .binOp .add _ _ _ _, _, _, _, _⟩ :: _) _ _ _; refine add rfl rfl inL ?_) | refine lss rfl rfl ?_ | refine eql rfl rfl ?_ | (show SH _ _ _ _ _ (⟨_, .load _ _, _, _, _, _⟩ :: _) _ _ _; first | refine lbx rfl spL (by rfl) ?_ | refine lrf rfl (fun _ _ => rdL) (by rfl) omL (by rfl) ?_) | (show SH _ _ _ _ _ (⟨_, .indexAddr _ _ _, _, _, _, _⟩ :: _) _ _ _; refine ix rfl rfl (by with_reducible rfl) (fun _ _ => rdL) (by rfl) omL omL ?_) | refine slen rfl ?_ | (show SH _ _ _ _ _ (⟨_, .pick _ _ _, _, _, _, _⟩ :: _) _ _ _; refine pkf rfl tbL evL ?_) | refine fad rfl ?_) | refine s_nil ?_ | refine kh_normal ?_ | refine bh_normal ?_))
        exact ⟨agL, i + 1, by rw [hn]; (repeat (first | exact trivial | refine And.intro rfl ?_)), enL, hil, by show _ - (i + 1) < _ - i; omega⟩
    · have hke : i = cs.length := by omega
      rw [hke, List.take_length]
      cases hb : anyK cs (a + 1) with
      | true =>
        have hnx := hnx hb
        clear hno
        (repeat' (first | (show VH _ _ _ _ _ _ _; first | refine v_seq ?_ | refine r_seq ?_ | refine v_exit ?_ | refine v_cond_t rfl tbL ?_ | refine v_cond_f rfl tbL ?_) | (show SH _ _ _ _ _ (_ :: _) _ _ _; first | (show SH _ _ _ _ _ (⟨_, .move _, _, _, _, _⟩ :: _) _ _ _; refine mov evL ?_) | refine lss rfl rfl ?_ | (show SH _ _ _ _ _ (⟨_, .load _ _, _, _, _, _⟩ :: _) _ _ _; refine lbx rfl spL (by rfl) ?_) | refine slen rfl ?_ | refine fad rfl ?_) | refine s_nil ?_ | refine kh_normal ?_ | refine kh_exit ?_ | refine bh_exit ?_))
        refine shlw rfl rfl (by omega) _ hsh ?_
        (repeat' (first | (show VH _ _ _ _ _ _ _; first | refine v_seq ?_ | refine r_seq ?_ | refine r_quiet hmix (by kernel_rfl) ?_ | refine v_block ?_ | refine v_ret ?_ | refine v_skip ?_ | refine v_exit ?_ | refine v_label ?_ | refine v_cond_t rfl tbL ?_ | refine v_cond_f rfl tbL ?_ | refine v_cond_dec rfl (fun h => ?_) (fun h => ?_) | refine v_cond_ndec rfl (fun h => ?_) (fun h => ?_) | refine v_cond rfl (fun h => ?_) (fun h => ?_)) | (show SH _ _ _ _ _ (_ :: _) _ _ _; first | (show SH _ _ _ _ _ (⟨_, _, _, _, _, some _⟩ :: _) _ _ _; first | (refine gif rfl rfl ?_; first | refine giTT tbL ?_ | refine giTF tbL ?_ | refine giFF tbL ?_ | refine giFT tbL ?_ | refine giTd (fun h => ?_) (fun h => ?_) | refine giFd (fun h => ?_) (fun h => ?_) | refine giT (fun h => ?_) (fun h => ?_) | refine giF (fun h => ?_) (fun h => ?_)) | refine gu rfl rfl ?_ | refine grT rfl rfl tbL ?_ | refine grF rfl rfl tbL ?_) | (show SH _ _ _ _ _ (⟨_, .move _, _, _, _, _⟩ :: _) _ _ _; refine mov evL ?_) | (show SH _ _ _ _ _ (⟨_, .assign _, _, _, _, _⟩ :: _) _ _ _; refine asg evL ?_) | (show SH _ _ _ _ _ (⟨_, .binOp .add _ _ _ _, _, _, _, _⟩ :: _) _ _ _; refine add rfl rfl inL ?_) | refine lss rfl rfl ?_ | refine leq rfl rfl ?_ | (show SH _ _ _ _ _ (⟨_, .binOp .eql _ _ _ _, _, _, _, _⟩ :: _) _ _ _; first | refine eql rfl rfl ?_ | refine eqn rfl rfl ?_ | refine eqb rfl rfl ?_) | (show SH _ _ _ _ _ (⟨_, .load _ _, _, _, _, _⟩ :: _) _ _ _; first | refine lin rfl (fun _ _ => rdL) omL ?_ | refine lbx rfl spL (by rfl) ?_ | refine lba rfl spL (by rfl) ?_ | refine lbi rfl spL omL ?_ | refine lr1 rfl (fun _ _ => rdL) (by rfl) omL (by rfl) ?_ | refine lra rfl (fun _ _ => rdL) (by rfl) omL ?_ | refine lrf rfl (fun _ _ => rdL) (by rfl) omL (by rfl) ?_ | refine lcell rfl (fun w hw => hw.ext.cell (by assumption)) ?_ | refine lsl rfl (fun _ _ => rdL) omL (by assumption) ?_) | (show SH _ _ _ _ _ (⟨_, .indexAddr _ _ _, _, _, _, _⟩ :: _) _ _ _; first | refine ix rfl rfl (by with_reducible rfl) (fun _ _ => rdL) (by rfl) omL omL ?_ | refine ixi rfl rfl (fun _ _ => rdL) (by rfl) omL omL omL ?_ | refine ixb rfl rfl omL ?_ | refine ixq rfl rfl (by assumption) omL omL ?_) | refine slen rfl ?_ | (show SH _ _ _ _ _ (⟨_, .pick _ _ _, _, _, _, _⟩ :: _) _ _ _; first | refine pkt rfl tbL evL ?_ | refine pkf rfl tbL evL ?_) | refine fad rfl ?_ | (show SH _ _ _ _ _ (⟨_, .box _ _, _, _, _, _⟩ :: _) _ _ _; refine bxx rfl evL rfl (fun b => ?_))) | refine s_nil ?_ | refine kh_normal ?_ | refine kh_ret ?_ | refine kh_exit ?_ | refine bh_normal ?_ | refine bh_ret ?_ | refine bh_exit ?_ | refine bh_exit_ne rfl ?_))
        refine addw rfl rfl _ hnx ?_
        (repeat' (first | refine r_seq ?_ | (show SH _ _ _ _ _ (_ :: _) _ _ _; first | (show SH _ _ _ _ _ (⟨_, .move _, _, _, _, _⟩ :: _) _ _ _; refine mov evL ?_) | (show SH _ _ _ _ _ (⟨_, .assign _, _, _, _, _⟩ :: _) _ _ _; refine asg evL ?_)) | refine s_nil ?_ | refine kh_normal ?_ | refine bh_normal ?_))
        refine addw rfl rfl _ (inc8 (a + 1) (by omega)) ?_
        (repeat' (first | (show SH _ _ _ _ _ (_ :: _) _ _ _; (show SH _ _ _ _ _ (⟨_, .assign _, _, _, _, _⟩ :: _) _ _ _; refine asg evL ?_)) | refine s_nil ?_ | refine kh_normal ?_))
        exact ⟨agL, a + 1 + 1, by simp only [Nat.add_sub_cancel]; rw [hsb]; (repeat (first | exact trivial | refine And.intro rfl ?_)), enL, by omega, by omega⟩
      | false =>
        obtain rfl := hno hb
        clear hnx hno
        (repeat' (first | (show VH _ _ _ _ _ _ _; first | refine v_seq ?_ | refine r_seq ?_ | refine v_skip ?_ | refine v_exit ?_ | refine v_cond_f rfl tbL ?_) | (show SH _ _ _ _ _ (_ :: _) _ _ _; first | (show SH _ _ _ _ _ (⟨_, .move _, _, _, _, _⟩ :: _) _ _ _; refine mov evL ?_) | refine lss rfl rfl ?_ | (show SH _ _ _ _ _ (⟨_, .load _ _, _, _, _, _⟩ :: _) _ _ _; refine lbx rfl spL (by rfl) ?_) | refine slen rfl ?_ | refine fad rfl ?_) | refine s_nil ?_ | refine kh_normal ?_ | refine kh_exit ?_ | refine bh_normal ?_ | refine bh_exit ?_))
        refine addw rfl rfl _ (inc8 (a + 1) (by omega)) ?_
        (repeat' (first | (show SH _ _ _ _ _ (_ :: _) _ _ _; (show SH _ _ _ _ _ (⟨_, .assign _, _, _, _, _⟩ :: _) _ _ _; refine asg evL ?_)) | refine s_nil ?_ | refine kh_normal ?_))
        exact ⟨agL, a + 1 + 1, by simp only [Nat.add_sub_cancel]; rw [hsb]; (repeat (first | exact trivial | refine And.intro rfl ?_)), enL, by omega, by omega⟩
  · obtain rfl : a = 10 := by omega
    (repeat' (first | (show VH _ _ _ _ _ _ _; first | refine v_seq ?_ | refine r_seq ?_ | refine v_ret ?_ | refine v_exit ?_ | refine v_cond_f rfl tbL ?_) | (show SH _ _ _ _ _ (_ :: _) _ _ _; first | (show SH _ _ _ _ _ (⟨_, .move _, _, _, _, _⟩ :: _) _ _ _; refine mov evL ?_) | (show SH _ _ _ _ _ (⟨_, .assign _, _, _, _, _⟩ :: _) _ _ _; refine asg evL ?_) | refine leq rfl rfl ?_) | refine s_nil ?_ | refine kh_normal ?_ | refine kh_exit ?_ | refine bh_exit ?_))
    exact rh1 rfl rfl ⟨rfl, rfl⟩ (ent_nil _)
set_option maxHeartbeats 2000000 in
set_option maxRecDepth 100000 in
theorem refPart_spec (x : EntP) (m : Nat) (w : World) (hm : m < 4294967296) (hl : x.e.comps.length ≤ 1000000) (hr : Rd w x.A x.e.comps) : Ret Tryd.prog 30 [.agg (Flat.enc x).toArray, .int .u32 m].toArray w (RP w (OwnR ⟨x.e.id, partC m x.e.comps⟩)) := by
  obtain ⟨⟨ei, cs⟩, A, c1⟩ := x
  try simp only at hl hr ⊢
  rw [show Flat.enc (⟨⟨ei, cs⟩, A, c1⟩ : EntP) = [.int .i64 ei, .slice A cs.length c1] from rfl]
  unfold OwnR partC
  try simp only
  refine enterH Tryd.func30 rfl rfl Tryd.ntmps30 rfl (Wd.refl _) ?_
  (repeat' (first | (show VH _ _ _ _ _ _ _; first | refine v_seq ?_ | refine r_seq ?_ | refine v_block ?_) | (show SH _ _ _ _ _ (_ :: _) _ _ _; first | (show SH _ _ _ _ _ (⟨_, .assign _, _, _, _, _⟩ :: _) _ _ _; refine asg evL ?_) | (show SH _ _ _ _ _ (⟨_, .load _ _, _, _, _, _⟩ :: _) _ _ _; refine lbx rfl spL (by rfl) ?_) | refine fad rfl ?_ | refine bld rfl rfl ?_ | refine ala rfl (fun b => ?_) | (show SH _ _ _ _ _ (⟨_, .box _ _, _, _, _, _⟩ :: _) _ _ _; refine bxx rfl evL rfl (fun b => ?_)) | (show SH _ _ _ _ _ (⟨_, .store _ _ _, _, _, _, _⟩ :: _) _ _ _; refine sta rfl rfl rfl spL (by rfl) (by rfl) (by rfl) kpL ?_)) | refine s_nil ?_ | refine kh_normal ?_))
  rename_i b2 b4
  revert b
  intro b5
  refine v_loop [(6,6),(10,34)] (fun s : Nat × (Option Addr × Nat) => [(6, .int .i64 s.1)]) (fun s => [bx b5 32 [.int .i64 ei, .slice s.2.1 ((cs.take s.1).filter (inMask m)).length s.2.2], orow 42 s.2.1 s.2.2 ((cs.take s.1).filter (inMask m)), bx b4 32 [.int .i64 0, .slice none 0 0], bx b2 32 [.int .i64 ei, .slice A cs.length c1]]) (fun s => s.1 ≤ cs.length) (fun s => cs.length - s.1) (0, none, 0) hsL (ent_cons spL (ent_nilrow enL)) (Nat.zero_le _) ?_
  rintro ⟨k, A1, c2⟩ g hk
  simp only [sets]
  simp only at hk
  have hlen : ((cs.take k).filter (inMask m)).length ≤ k := by
    have := List.length_filter_le (inMask m) (cs.take k)
    rw [List.length_take] at this; omega
  by_cases hkl : k < cs.length
  · have hn := filt_next Flat.dflt (inMask m) id hkl
    simp only [List.map_id_fun, id_eq] at hn
    have hB := fun w => refIn_spec (cs.getD k Flat.dflt).kind m w hm
    have hi := inMask_iff hm (cs.getD k Flat.dflt)
    rw [← hi] at hB
    clear hi
    cases hb : inMask m (cs.getD k Flat.dflt) with
    | true =>
      rw [if_pos hb] at hn
      rw [hb] at hB
      clear hb
      (repeat' (first | (show VH _ _ _ _ _ _ _; first | refine v_seq ?_ | refine r_seq ?_ | refine v_block ?_ | refine v_skip ?_ | refine v_cond_t rfl tbL ?_) | (show SH _ _ _ _ _ (_ :: _) _ _ _; first | (show SH _ _ _ _ _ (⟨_, .move _, _, _, _, _⟩ :: _) _ _ _; refine mov evL ?_) | refine lss rfl rfl ?_ | (show SH _ _ _ _ _ (⟨_, .load _ _, _, _, _, _⟩ :: _) _ _ _; first | refine lbx rfl spL (by rfl) ?_ | refine lrf rfl (fun _ _ => rdL) (by rfl) omL (by rfl) ?_) | (show SH _ _ _ _ _ (⟨_, .indexAddr _ _ _, _, _, _, _⟩ :: _) _ _ _; refine ix rfl rfl (by with_reducible rfl) (fun _ _ => rdL) (by rfl) omL omL ?_) | refine slen rfl ?_ | (show SH _ _ _ _ _ (⟨_, .call ⟨.value (.func 60), _, _⟩, _, _, _, _⟩ :: _) _ _ _; refine cl (callee := .func 60) rfl (fun w hw => hB w) rfl rfl ?_) | refine fad rfl ?_) | refine s_nil ?_ | refine kh_normal ?_))
      refine r_heldT [bx b2 32 [.int .i64 ei, .slice A cs.length c1]] (tr [(0, true), (2, true), (3, true), (4, true), (5, true), (6, true)] (.fork 1 (tr [(7, false), (8, false), (9, false), (10, false)] .nil) 7 (tr [(1, false), (8, false), (9, false), (10, false)] .nil))) hmix (by kernel_rfl) enL ?_
      (repeat' ((show SH _ _ _ _ _ (_ :: _) _ _ _; first | (show SH _ _ _ _ _ (⟨_, .move _, _, _, _, _⟩ :: _) _ _ _; refine mov evL ?_) | (show SH _ _ _ _ _ (⟨_, .load _ _, _, _, _, _⟩ :: _) _ _ _; first | refine lbx rfl spL (by rfl) ?_ | refine lra rfl (fun _ _ => rdL) (by rfl) omL ?_) | (show SH _ _ _ _ _ (⟨_, .indexAddr _ _ _, _, _, _, _⟩ :: _) _ _ _; refine ix rfl rfl (by with_reducible rfl) (fun _ _ => rdL) (by rfl) omL omL ?_) | refine fad rfl ?_)))
      repeat' (first
        | (refine s_fork3 ?_ ?_ ?_ <;> (repeat' (first | (show VH _ _ _ _ _ _ _; first | refine v_seq ?_ | refine r_seq ?_ | refine r_quiet hmix (by kernel_rfl) ?_ | refine v_block ?_ | refine v_ret ?_ | refine v_skip ?_ | refine v_exit ?_ | refine v_label ?_ | refine v_cond_t rfl tbL ?_ | refine v_cond_f rfl tbL ?_ | refine v_cond_dec rfl (fun h => ?_) (fun h => ?_) | refine v_cond_ndec rfl (fun h => ?_) (fun h => ?_) | refine v_cond rfl (fun h => ?_) (fun h => ?_)) | (show SH _ _ _ _ _ (_ :: _) _ _ _; first | (show SH _ _ _ _ _ (⟨_, .move _, _, _, _, _⟩ :: _) _ _ _; refine mov evL ?_) | (show SH _ _ _ _ _ (⟨_, .assign _, _, _, _, _⟩ :: _) _ _ _; refine asg evL ?_) | (show SH _ _ _ _ _ (⟨_, .binOp .add _ _ _ _, _, _, _, _⟩ :: _) _ _ _; refine add rfl rfl inL ?_) | refine lss rfl rfl ?_ | (show SH _ _ _ _ _ (⟨_, .load _ _, _, _, _, _⟩ :: _) _ _ _; first | refine lin rfl (fun _ _ => rdL) omL ?_ | refine lbx rfl spL (by rfl) ?_ | refine lba rfl spL (by rfl) ?_ | refine lbi rfl spL omL ?_ | refine lr1 rfl (fun _ _ => rdL) (by rfl) omL (by rfl) ?_ | refine lra rfl (fun _ _ => rdL) (by rfl) omL ?_ | refine lrf rfl (fun _ _ => rdL) (by rfl) omL (by rfl) ?_ | refine lcell rfl (fun w hw => hw.ext.cell (by assumption)) ?_ | refine lsl rfl (fun _ _ => rdL) omL (by assumption) ?_) | (show SH _ _ _ _ _ (⟨_, .indexAddr _ _ _, _, _, _, _⟩ :: _) _ _ _; first | refine ix rfl rfl (by with_reducible rfl) (fun _ _ => rdL) (by rfl) omL omL ?_ | refine ixi rfl rfl (fun _ _ => rdL) (by rfl) omL omL omL ?_ | refine ixb rfl rfl omL ?_ | refine ixq rfl rfl (by assumption) omL omL ?_) | refine slen rfl ?_ | refine fad rfl ?_ | refine bld rfl rfl ?_ | (show SH _ _ _ _ _ (⟨_, .alloc _, _, _, _, _⟩ :: _) _ _ _; first | refine al1 rfl (fun b => ?_) | refine ala rfl (fun b => ?_)) | (show SH _ _ _ _ _ (⟨_, .box _ _, _, _, _, _⟩ :: _) _ _ _; refine bxx rfl evL rfl (fun b => ?_)) | (show SH _ _ _ _ _ (⟨_, .store _ _ _, _, _, _, _⟩ :: _) _ _ _; first | refine stb rfl rfl evL spL rfl rfl (by first | decide | exact Nat.zero_lt_succ _ | exact of_decide_eq_true rfl) kpL ?_ | refine sta rfl rfl rfl spL (by rfl) (by rfl) (by rfl) kpL ?_ | refine sti rfl rfl rfl spL omL kpL ?_ | refine sbi rfl rfl rfl spL omL kpL ?_) | (show SH _ _ _ _ _ (⟨_, .buildSlice _ _ _, _, _, _, _⟩ :: _) _ _ _; refine bsl (α := Int) rfl rfl (by repeat (first | exact Vals.nil | (apply Vals.cons; rfl))) rfl (by rfl) (by decide) (fun b => ?_))) | refine s_nil ?_ | refine kh_normal ?_ | refine kh_ret ?_ | refine kh_exit ?_ | refine bh_normal ?_ | refine bh_ret ?_ | refine bh_exit ?_ | refine bh_exit_ne rfl ?_)))
        | (refine s_fork ?_ ?_ <;> (repeat' ((show SH _ _ _ _ _ (_ :: _) _ _ _; (show SH _ _ _ _ _ (⟨_, .load _ _, _, _, _, _⟩ :: _) _ _ _; refine lbx rfl spL (by rfl) ?_)))))
        | (refine bsl (l := [cs.getD k Flat.dflt]) rfl rfl (Vals.cons rfl Vals.nil) rfl rfl (by decide) (fun b9 => ?_); (repeat' ((show SH _ _ _ _ _ (_ :: _) _ _ _; (show SH _ _ _ _ _ (⟨_, .load _ _, _, _, _, _⟩ :: _) _ _ _; refine lbx rfl spL (by rfl) ?_)))))
        | (refine app (l := (cs.take k).filter (inMask m)) (l2 := [cs.getD k Flat.dflt]) rfl rfl rfl spL (fun w hw => hw.rd spL) rfl rfl rfl (by simp only [List.length_cons, List.length_nil]; omega) (by simp only [List.length_cons, List.length_nil]; omega) (fun A4 c4 => ⟨enL, ?_⟩); rw [← hn]; (repeat' (first | refine r_seq ?_ | (show SH _ _ _ _ _ (_ :: _) _ _ _; first | (show SH _ _ _ _ _ (⟨_, .move _, _, _, _, _⟩ :: _) _ _ _; refine mov evL ?_) | (show SH _ _ _ _ _ (⟨_, .assign _, _, _, _, _⟩ :: _) _ _ _; refine asg evL ?_) | (show SH _ _ _ _ _ (⟨_, .binOp .add _ _ _ _, _, _, _, _⟩ :: _) _ _ _; refine add rfl rfl inL ?_) | refine fad rfl ?_ | (show SH _ _ _ _ _ (⟨_, .store _ _ _, _, _, _, _⟩ :: _) _ _ _; refine stb rfl rfl evL spL rfl rfl (by first | decide | exact Nat.zero_lt_succ _ | exact of_decide_eq_true rfl) kpL ?_)) | refine s_nil ?_ | refine kh_normal ?_ | refine bh_normal ?_))))
      all_goals exact ⟨agL, (k + 1, A4, c4), hsL, enL, hkl, by show _ - (k + 1) < _ - k; omega⟩
    | false =>
      rw [if_neg (by rw [hb]; simp), List.append_nil] at hn
      rw [hb] at hB
      clear hb
      (repeat' (first | (show VH _ _ _ _ _ _ _; first | refine v_seq ?_ | refine r_seq ?_ | refine v_block ?_ | refine v_skip ?_ | refine v_cond_t rfl tbL ?_ | refine v_cond_f rfl tbL ?_) | (show SH _ _ _ _ _ (_ :: _) _ _ _; first | (show SH _ _ _ _ _ (⟨_, .move _, _, _, _, _⟩ :: _) _ _ _; refine mov evL ?_) | (show SH _ _ _ _ _ (⟨_, .assign _, _, _, _, _⟩ :: _) _ _ _; refine asg evL ?_) | (show SH _ _ _ _ _ (⟨_, .binOp .add _ _ _ _, _, _, _, _⟩ :: _) _ _ _; refine add rfl rfl inL ?_) | refine lss rfl rfl ?_ | (show SH _ _ _ _ _ (⟨_, .load _ _, _, _, _, _⟩ :: _) _ _ _; first | refine lbx rfl spL (by rfl) ?_ | refine lrf rfl (fun _ _ => rdL) (by rfl) omL (by rfl) ?_) | (show SH _ _ _ _ _ (⟨_, .indexAddr _ _ _, _, _, _, _⟩ :: _) _ _ _; refine ix rfl rfl (by with_reducible rfl) (fun _ _ => rdL) (by rfl) omL omL ?_) | refine slen rfl ?_ | (show SH _ _ _ _ _ (⟨_, .call ⟨.value (.func 60), _, _⟩, _, _, _, _⟩ :: _) _ _ _; refine cl (callee := .func 60) rfl (fun w hw => hB w) rfl rfl ?_) | refine fad rfl ?_) | refine s_nil ?_ | refine kh_normal ?_ | refine bh_normal ?_))
      exact ⟨agL, (k + 1, A1, c2), hsL, by rw [hn]; exact enL, hkl, by show _ - (k + 1) < _ - k; omega⟩
  · have hke : k = cs.length := by omega
    subst hke
    rw [List.take_length]
    (repeat' (first | (show VH _ _ _ _ _ _ _; first | refine v_seq ?_ | refine r_seq ?_ | refine v_ret ?_ | refine v_exit ?_ | refine v_cond_f rfl tbL ?_) | (show SH _ _ _ _ _ (_ :: _) _ _ _; first | (show SH _ _ _ _ _ (⟨_, .move _, _, _, _, _⟩ :: _) _ _ _; refine mov evL ?_) | refine lss rfl rfl ?_ | (show SH _ _ _ _ _ (⟨_, .load _ _, _, _, _, _⟩ :: _) _ _ _; first | refine lbx rfl spL (by rfl) ?_ | refine lba rfl spL (by rfl) ?_) | refine slen rfl ?_ | refine fad rfl ?_ | (show SH _ _ _ _ _ (⟨_, .store _ _ _, _, _, _, _⟩ :: _) _ _ _; refine sta rfl rfl rfl spL (by rfl) (by rfl) (by rfl) kpL ?_)) | refine s_nil ?_ | refine kh_normal ?_ | refine kh_exit ?_ | refine bh_exit ?_))
    exact rhC rfl rfl rfl (fun w hw => loadVar_bx hw spL (by rfl)) ⟨A1, c2, rfl, rfl⟩ enL
end Go.Proofs.YtfodpcpclmnbkaaDoor
