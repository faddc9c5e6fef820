/- AuctionSmall answers true, whatever the input; no condition. -/
import Derived.Test.YtehjdbgijibmcaaZGe
import Derived.Test.YtehjdbgijibmcaaZHc
import Derived.Test.YtehjdbgijibmcaaZHbd
import Derived.Test.YtehjdbgijibmcaaZHd
import Derived.Test.YtehjdbgijibmcaaZHb
import Derived.Test.YtehjdbgijibmcaaZVa
import Derived.Test.YtehjdbgijibmcaaZCm
import Derived.Test.YtehjdbgijibmcaaZGkk
import Derived.Test.YtehjdbgijibmcaaZDj
import Derived.Test.YtehjdbgijibmcaaZVn
import Derived.Test.YtehjdbgijibmcaaZSq
set_option linter.unusedSimpArgs false
set_option linter.unusedVariables false
/- A house is copied, into the reference's types and back. -/
namespace Go.Proofs.Ytehjdbgijibmcaa
open Go.Fw Go.RowKit
set_option maxHeartbeats 1000000 in
set_option maxRecDepth 100000 in
theorem given_spec (A : Option Addr) (c0 : Nat) (h : House) (w : World) (hl : h.lots.length ≤ 100000) (hr : Rd w A h.lots) :
    Ret Try.prog 22 [hv A c0 h].toArray w (RP w fun v H' => ∃ A' c', v = hv A' c' h ∧ H' = [orow 61 A' c' h.lots]) := by
  obtain ⟨tick, last, lots⟩ := h
  unfold hv
  simp only at hl hr ⊢
  refine enterH Try.func22 rfl rfl Try.ntmps22 rfl (Wd.refl _) ?_
  (repeat' (first | (show VH _ _ _ _ _ _ _; first | refine v_seq ?_ | refine r_seq ?_) | (show SH _ _ _ _ _ (_ :: _) _ _ _; first | refine asg evL ?_ | refine lbx rfl spL (by rfl) ?_ | refine fad rfl ?_ | refine bld rfl rfl ?_ | refine ala rfl (fun b => ?_) | refine bxx rfl evL rfl (fun b => ?_) | refine sta rfl rfl rfl spL (by rfl) (by rfl) (by rfl) kpL ?_) | refine s_nil ?_ | refine kh_normal ?_))
  rename_i b1 b2
  refine v_norm [(1,_),(2,_),(3,_),(4,_)] heL (fun g => ?_)
  (repeat' (refine v_block ?_))
  refine v_loop [(4,4),(10,26)] (fun y : Nat × (Option Addr × Nat) => [(4, .int .i64 y.1)]) (fun y => [bx b 53 [.int .i64 tick, .int .i64 last, .slice y.2.1 y.1 y.2.2], orow 61 y.2.1 y.2.2 (lots.take y.1), bx b1 26 [.int .i64 tick, .int .i64 last, .slice A lots.length c0], bx b2 53 [.int .i64 0, .int .i64 0, .slice none 0 0]])
    (fun y => y.1 ≤ lots.length) (fun y => lots.length - y.1) (0, none, 0) hsL (ent_cons spL (ent_nilrow (ent_cons spL (ent_cons spL (ent_nil _))))) (Nat.zero_le _) ?_
  rintro ⟨k, A1, c1⟩ g hk
  simp only [sets]
  simp only at hk
  have hlk : (lots.take k).length = k := by rw [List.length_take]; omega
  by_cases hkl : k < lots.length
  · have hts := take_snoc (d := Flat.dflt) hkl
    have hlk1 : (lots.take (k + 1)).length = k + 1 := by rw [List.length_take]; omega
    (repeat' (first | (show VH _ _ _ _ _ _ _; first | refine v_seq ?_ | refine r_seq ?_ | refine v_block ?_ | refine v_skip ?_ | refine v_cond_t rfl tbL ?_) | (show SH _ _ _ _ _ (_ :: _) _ _ _; first | refine mov evL ?_ | refine lss rfl rfl ?_ | refine lbx rfl spL (by rfl) ?_ | refine slen rfl ?_ | refine fad rfl ?_) | refine s_nil ?_ | refine kh_normal ?_))
    refine r_heldT [bx b1 26 _] (tr [(0, true), (2, true), (3, true), (4, true), (5, true), (6, true)] (.fork 1 (tr [(7, false), (8, false), (9, false), (10, false)] .nil) 7 (tr [(1, false), (8, false), (9, false), (10, false)] .nil))) hmix (by kernel_rfl) enL ?_
    (repeat' ((show SH _ _ _ _ _ (_ :: _) _ _ _; first | refine mov evL ?_ | (show SH _ _ _ _ _ (⟨_, .load _ _, _, _, _, _⟩ :: _) _ _ _; first | refine lbx rfl spL (by rfl) ?_ | refine lra rfl (fun _ _ => rdL) (by rfl) omL ?_) | refine ix rfl rfl (by with_reducible rfl) (fun _ _ => rdL) (by rfl) omL omL ?_ | refine fad rfl ?_)))
    refine s_fork ?_ ?_
    all_goals
      (repeat' (refine lbx rfl spL (by rfl) ?_))
      refine bsl (l := [lots.getD k Flat.dflt]) rfl rfl (Vals.cons rfl Vals.nil) rfl rfl (by decide) (fun b9 => ?_)
      (repeat' (refine lbx rfl spL (by rfl) ?_))
      refine app (l := lots.take k) (l2 := [lots.getD k Flat.dflt]) rfl rfl rfl spL (fun w hw => hw.rd spL) rfl hlk.symm rfl (by simp only [List.length_cons, List.length_nil]; omega) (by simp only [List.length_cons, List.length_nil]; omega) (fun A4 c4 => ⟨enL, ?_⟩)
      rw [← hts, hlk1]
      (repeat' (first | refine r_seq ?_ | (show SH _ _ _ _ _ (_ :: _) _ _ _; first | refine mov evL ?_ | refine asg evL ?_ | refine add rfl rfl inL ?_ | refine fad rfl ?_ | refine stb rfl rfl evL spL rfl rfl (by first | decide | exact Nat.zero_lt_succ _ | exact of_decide_eq_true rfl) kpL ?_) | refine s_nil ?_ | refine kh_normal ?_ | refine bh_normal ?_))
      exact ⟨agL, (k + 1, A4, c4), hsL, enL, hkl, by show _ - (k + 1) < _ - k; omega⟩
  · have hke : k = lots.length := by omega
    subst hke
    rw [List.take_length]
    (repeat' (first | (show VH _ _ _ _ _ _ _; first | refine v_seq ?_ | refine r_seq ?_ | refine v_ret ?_ | refine v_exit ?_ | refine v_cond_f rfl tbL ?_) | (show SH _ _ _ _ _ (_ :: _) _ _ _; first | refine mov evL ?_ | refine lss rfl rfl ?_ | (show SH _ _ _ _ _ (⟨_, .load _ _, _, _, _, _⟩ :: _) _ _ _; first | refine lbx rfl spL (by rfl) ?_ | refine lba rfl spL (by rfl) ?_) | refine slen rfl ?_ | refine fad rfl ?_ | refine sta rfl rfl rfl spL (by rfl) (by rfl) (by rfl) kpL ?_) | refine s_nil ?_ | refine kh_normal ?_ | refine kh_exit ?_ | refine bh_exit ?_))
    exact rhC rfl rfl rfl (fun w hw => loadVar_bx hw spL (by rfl)) ⟨A1, c1, rfl, rfl⟩ enL
set_option maxHeartbeats 1000000 in
set_option maxRecDepth 100000 in
theorem taken_spec (A : Option Addr) (c0 : Nat) (h : House) (w : World) (hl : h.lots.length ≤ 100000) (hr : Rd w A h.lots) :
    Ret Try.prog 25 [hv A c0 h].toArray w (RP w fun v H' => ∃ A' c', v = hv A' c' h ∧ H' = [orow 38 A' c' h.lots]) := by
  obtain ⟨tick, last, lots⟩ := h
  unfold hv
  simp only at hl hr ⊢
  refine enterH Try.func25 rfl rfl Try.ntmps25 rfl (Wd.refl _) ?_
  (repeat' (first | (show VH _ _ _ _ _ _ _; first | refine v_seq ?_ | refine r_seq ?_) | (show SH _ _ _ _ _ (_ :: _) _ _ _; first | refine asg evL ?_ | refine lbx rfl spL (by rfl) ?_ | refine fad rfl ?_ | refine bld rfl rfl ?_ | refine ala rfl (fun b => ?_) | refine bxx rfl evL rfl (fun b => ?_) | refine sta rfl rfl rfl spL (by rfl) (by rfl) (by rfl) kpL ?_) | refine s_nil ?_ | refine kh_normal ?_))
  rename_i b1 b2
  refine v_norm [(1,_),(2,_),(3,_),(4,_)] heL (fun g => ?_)
  (repeat' (refine v_block ?_))
  refine v_loop [(4,4),(10,26)] (fun y : Nat × (Option Addr × Nat) => [(4, .int .i64 y.1)]) (fun y => [bx b 26 [.int .i64 tick, .int .i64 last, .slice y.2.1 y.1 y.2.2], orow 38 y.2.1 y.2.2 (lots.take y.1), bx b1 53 [.int .i64 tick, .int .i64 last, .slice A lots.length c0], bx b2 26 [.int .i64 0, .int .i64 0, .slice none 0 0]])
    (fun y => y.1 ≤ lots.length) (fun y => lots.length - y.1) (0, none, 0) hsL (ent_cons spL (ent_nilrow (ent_cons spL (ent_cons spL (ent_nil _))))) (Nat.zero_le _) ?_
  rintro ⟨k, A1, c1⟩ g hk
  simp only [sets]
  simp only at hk
  have hlk : (lots.take k).length = k := by rw [List.length_take]; omega
  by_cases hkl : k < lots.length
  · have hts := take_snoc (d := Flat.dflt) hkl
    have hlk1 : (lots.take (k + 1)).length = k + 1 := by rw [List.length_take]; omega
    (repeat' (first | (show VH _ _ _ _ _ _ _; first | refine v_seq ?_ | refine r_seq ?_ | refine v_block ?_ | refine v_skip ?_ | refine v_cond_t rfl tbL ?_) | (show SH _ _ _ _ _ (_ :: _) _ _ _; first | refine mov evL ?_ | refine lss rfl rfl ?_ | refine lbx rfl spL (by rfl) ?_ | refine slen rfl ?_ | refine fad rfl ?_) | refine s_nil ?_ | refine kh_normal ?_))
    refine r_heldT [bx b1 53 _] (tr [(0, true), (2, true), (3, true), (4, true), (5, true), (6, true)] (.fork 1 (tr [(7, false), (8, false), (9, false), (10, false)] .nil) 7 (tr [(1, false), (8, false), (9, false), (10, false)] .nil))) hmix (by kernel_rfl) enL ?_
    (repeat' ((show SH _ _ _ _ _ (_ :: _) _ _ _; first | refine mov evL ?_ | (show SH _ _ _ _ _ (⟨_, .load _ _, _, _, _, _⟩ :: _) _ _ _; first | refine lbx rfl spL (by rfl) ?_ | refine lra rfl (fun _ _ => rdL) (by rfl) omL ?_) | refine ix rfl rfl (by with_reducible rfl) (fun _ _ => rdL) (by rfl) omL omL ?_ | refine fad rfl ?_)))
    refine s_fork ?_ ?_
    all_goals
      (repeat' (refine lbx rfl spL (by rfl) ?_))
      refine bsl (l := [lots.getD k Flat.dflt]) rfl rfl (Vals.cons rfl Vals.nil) rfl rfl (by decide) (fun b9 => ?_)
      (repeat' (refine lbx rfl spL (by rfl) ?_))
      refine app (l := lots.take k) (l2 := [lots.getD k Flat.dflt]) rfl rfl rfl spL (fun w hw => hw.rd spL) rfl hlk.symm rfl (by simp only [List.length_cons, List.length_nil]; omega) (by simp only [List.length_cons, List.length_nil]; omega) (fun A4 c4 => ⟨enL, ?_⟩)
      rw [← hts, hlk1]
      (repeat' (first | refine r_seq ?_ | (show SH _ _ _ _ _ (_ :: _) _ _ _; first | refine mov evL ?_ | refine asg evL ?_ | refine add rfl rfl inL ?_ | refine fad rfl ?_ | refine stb rfl rfl evL spL rfl rfl (by first | decide | exact Nat.zero_lt_succ _ | exact of_decide_eq_true rfl) kpL ?_) | refine s_nil ?_ | refine kh_normal ?_ | refine bh_normal ?_))
      exact ⟨agL, (k + 1, A4, c4), hsL, enL, hkl, by show _ - (k + 1) < _ - k; omega⟩
  · have hke : k = lots.length := by omega
    subst hke
    rw [List.take_length]
    (repeat' (first | (show VH _ _ _ _ _ _ _; first | refine v_seq ?_ | refine r_seq ?_ | refine v_ret ?_ | refine v_exit ?_ | refine v_cond_f rfl tbL ?_) | (show SH _ _ _ _ _ (_ :: _) _ _ _; first | refine mov evL ?_ | refine lss rfl rfl ?_ | (show SH _ _ _ _ _ (⟨_, .load _ _, _, _, _, _⟩ :: _) _ _ _; first | refine lbx rfl spL (by rfl) ?_ | refine lba rfl spL (by rfl) ?_) | refine slen rfl ?_ | refine fad rfl ?_ | refine sta rfl rfl rfl spL (by rfl) (by rfl) (by rfl) kpL ?_) | refine s_nil ?_ | refine kh_normal ?_ | refine kh_exit ?_ | refine bh_exit ?_))
    exact rhC rfl rfl rfl (fun w hw => loadVar_bx hw spL (by rfl)) ⟨A1, c1, rfl, rfl⟩ enL
end Go.Proofs.Ytehjdbgijibmcaa

/- The reference of layer 34: one thing that is done. -/
namespace Go.Proofs.Ytehjdbgijibmcaa
open Go.Fw Go.RowKit
set_option maxHeartbeats 1000000 in
set_option maxRecDepth 100000 in
theorem sameR_spec (A : Option Addr) (c0 : Nat) (h : House) (x : Do6) (w : World) (hl : h.lots.length ≤ 100000) (hc : h.lots.length ≤ c0) (hr : Rd w A h.lots) :
    Ret Try.prog 43 [hv A c0 h, .agg (Flat.enc x).toArray].toArray w (RP w (OutRR (oneH h x))) := by
  obtain ⟨kk, a, b, c, d, e⟩ := x
  have hp : ∀ w, Ret Try.prog 14 [.int .i64 kk, .int .i64 5].toArray w (Out w (.int .i64 (kk % 5))) := fun w => pick_spec kk 5 w (by omega) (by omega)
  have hO := fun w hr => rOpen_spec A c0 h a b c d e w (by omega) hr
  have hB := fun w hr => rBid_spec A c0 h a b c w hl hr
  have hC := fun w hr => rCancel_spec A c0 h a b w hl hc hr
  have hD := fun w hr => rAdv_spec A c0 h a w hl hc hr
  have hk1 := Int.emod_nonneg kk (show (5 : Int) ≠ 0 by omega)
  have hk2 := Int.emod_lt_of_pos kk (show (0 : Int) < 5 by omega)
  unfold oneH
  simp only
  generalize kk % 5 = q at hp hk1 hk2 ⊢
  unfold OutRR at *
  obtain ⟨tick, last, lots⟩ := h
  unfold hv at *
  simp only at hl hc hr hO hB hC hD ⊢
  by_cases q0 : q = 0
  · rw [if_pos q0]
    generalize openH _ _ _ _ _ _ = r at hO ⊢
    refine enterH Try.func43 rfl rfl Try.ntmps43 rfl (Wd.refl _) ?_
    (repeat' (first | (show VH _ _ _ _ _ _ _; first | refine v_seq ?_ | refine r_seq ?_ | refine v_block ?_ | refine v_cond_t rfl tbL ?_) | (show SH _ _ _ _ _ (_ :: _) _ _ _; first | refine asg evL ?_ | refine eql rfl rfl ?_ | (show SH _ _ _ _ _ (⟨_, .load _ _, _, _, _, _⟩ :: _) _ _ _; first | refine lbx rfl spL (by rfl) ?_ | refine lba rfl spL (by rfl) ?_) | (show SH _ _ _ _ _ (⟨_, .call ⟨.value (.func 14), _, _⟩, _, _, _, _⟩ :: _) _ _ _; refine cl (callee := .func 14) rfl (fun w hw => hp w) rfl rfl ?_) | (show SH _ _ _ _ _ (⟨_, .call ⟨.value (.func 62), _, _⟩, _, _, _, _⟩ :: _) _ _ _; refine cp (callee := .func 62) rfl (fun w hw => hO _ (hr.ext hw.ext)) rfl rfl ?_) | refine fad rfl ?_ | refine ala rfl (fun b => ?_) | refine bxx rfl evL rfl (fun b => ?_)) | refine s_nil ?_ | refine kh_normal ?_))
    rintro _ _ ⟨A1, c1, B1, d1, rfl, rfl⟩
    (repeat' (first | refine v_ret ?_ | (show SH _ _ _ _ _ (_ :: _) _ _ _; first | refine asg evL ?_ | refine extr rfl rfl ?_ | refine sta rfl rfl rfl spL (by rfl) (by rfl) (by rfl) kpL ?_) | refine s_nil ?_ | refine kh_normal ?_ | refine kh_ret ?_ | refine bh_ret ?_))
    exact rhC3 rfl rfl rfl rfl rfl (fun w hw => loadVar_bx hw spL (by rfl)) ⟨A1, c1, B1, d1, rfl, rfl⟩ enL
  · rw [if_neg q0]
    by_cases q1 : q = 1 ∨ q = 2
    · rw [if_pos q1]
      generalize bidH _ _ _ _ = r at hB ⊢
      rcases q1 with rfl | rfl
      all_goals
        refine enterH Try.func43 rfl rfl Try.ntmps43 rfl (Wd.refl _) ?_
        (repeat' (first | (show VH _ _ _ _ _ _ _; first | refine v_seq ?_ | refine r_seq ?_ | refine v_block ?_ | refine v_skip ?_ | refine v_cond_t rfl tbL ?_ | refine v_cond_f rfl tbL ?_) | (show SH _ _ _ _ _ (_ :: _) _ _ _; first | refine asg evL ?_ | refine eql rfl rfl ?_ | (show SH _ _ _ _ _ (⟨_, .load _ _, _, _, _, _⟩ :: _) _ _ _; first | refine lbx rfl spL (by rfl) ?_ | refine lba rfl spL (by rfl) ?_) | (show SH _ _ _ _ _ (⟨_, .call ⟨.value (.func 14), _, _⟩, _, _, _, _⟩ :: _) _ _ _; refine cl (callee := .func 14) rfl (fun w hw => hp w) rfl rfl ?_) | (show SH _ _ _ _ _ (⟨_, .call ⟨.value (.func 63), _, _⟩, _, _, _, _⟩ :: _) _ _ _; refine cp (callee := .func 63) rfl (fun w hw => hB _ (hr.ext hw.ext)) rfl rfl ?_) | refine fad rfl ?_ | refine ala rfl (fun b => ?_) | refine bxx rfl evL rfl (fun b => ?_)) | refine s_nil ?_ | refine kh_normal ?_))
        rintro _ _ ⟨A1, c1, B1, d1, rfl, rfl⟩
        (repeat' (first | refine v_ret ?_ | (show SH _ _ _ _ _ (_ :: _) _ _ _; first | refine asg evL ?_ | refine extr rfl rfl ?_ | refine sta rfl rfl rfl spL (by rfl) (by rfl) (by rfl) kpL ?_) | refine s_nil ?_ | refine kh_normal ?_ | refine kh_ret ?_ | refine bh_ret ?_))
        exact rhC3 rfl rfl rfl rfl rfl (fun w hw => loadVar_bx hw spL (by rfl)) ⟨A1, c1, B1, d1, rfl, rfl⟩ enL
    · rw [if_neg q1]
      by_cases q3 : q = 3
      · rw [if_pos q3]
        generalize cancelH _ _ _ = r at hC ⊢
        refine enterH Try.func43 rfl rfl Try.ntmps43 rfl (Wd.refl _) ?_
        (repeat' (first | (show VH _ _ _ _ _ _ _; first | refine v_seq ?_ | refine r_seq ?_ | refine v_block ?_ | refine v_cond_t rfl tbL ?_ | refine v_cond_f rfl tbL ?_) | (show SH _ _ _ _ _ (_ :: _) _ _ _; first | refine asg evL ?_ | refine eql rfl rfl ?_ | (show SH _ _ _ _ _ (⟨_, .load _ _, _, _, _, _⟩ :: _) _ _ _; first | refine lbx rfl spL (by rfl) ?_ | refine lba rfl spL (by rfl) ?_) | (show SH _ _ _ _ _ (⟨_, .call ⟨.value (.func 14), _, _⟩, _, _, _, _⟩ :: _) _ _ _; refine cl (callee := .func 14) rfl (fun w hw => hp w) rfl rfl ?_) | (show SH _ _ _ _ _ (⟨_, .call ⟨.value (.func 64), _, _⟩, _, _, _, _⟩ :: _) _ _ _; refine cp (callee := .func 64) rfl (fun w hw => hC _ (hr.ext hw.ext)) rfl rfl ?_) | refine fad rfl ?_ | refine ala rfl (fun b => ?_) | refine bxx rfl evL rfl (fun b => ?_)) | refine s_nil ?_ | refine kh_normal ?_))
        rintro _ _ ⟨A1, c1, B1, d1, rfl, rfl⟩
        (repeat' (first | refine v_ret ?_ | (show SH _ _ _ _ _ (_ :: _) _ _ _; first | refine asg evL ?_ | refine extr rfl rfl ?_ | refine sta rfl rfl rfl spL (by rfl) (by rfl) (by rfl) kpL ?_) | refine s_nil ?_ | refine kh_normal ?_ | refine kh_ret ?_ | refine bh_ret ?_))
        exact rhC3 rfl rfl rfl rfl rfl (fun w hw => loadVar_bx hw spL (by rfl)) ⟨A1, c1, B1, d1, rfl, rfl⟩ enL
      · rw [if_neg q3]
        generalize advH _ _ = r at hD ⊢
        refine enterH Try.func43 rfl rfl Try.ntmps43 rfl (Wd.refl _) ?_
        (repeat' (first | (show VH _ _ _ _ _ _ _; first | refine v_seq ?_ | refine r_seq ?_ | refine v_block ?_ | refine v_skip ?_ | refine v_cond_f rfl tbL ?_) | (show SH _ _ _ _ _ (_ :: _) _ _ _; first | refine asg evL ?_ | refine eql rfl rfl ?_ | (show SH _ _ _ _ _ (⟨_, .load _ _, _, _, _, _⟩ :: _) _ _ _; first | refine lbx rfl spL (by rfl) ?_ | refine lba rfl spL (by rfl) ?_) | (show SH _ _ _ _ _ (⟨_, .call ⟨.value (.func 14), _, _⟩, _, _, _, _⟩ :: _) _ _ _; refine cl (callee := .func 14) rfl (fun w hw => hp w) rfl rfl ?_) | (show SH _ _ _ _ _ (⟨_, .call ⟨.value (.func 65), _, _⟩, _, _, _, _⟩ :: _) _ _ _; refine cp (callee := .func 65) rfl (fun w hw => hD _ (hr.ext hw.ext)) rfl rfl ?_) | refine fad rfl ?_ | refine ala rfl (fun b => ?_) | refine bxx rfl evL rfl (fun b => ?_)) | refine s_nil ?_ | refine kh_normal ?_ | refine bh_normal ?_))
        rintro _ _ ⟨A1, c1, B1, d1, rfl, rfl⟩
        (repeat' (first | refine v_ret ?_ | (show SH _ _ _ _ _ (_ :: _) _ _ _; first | refine asg evL ?_ | refine extr rfl rfl ?_ | refine sta rfl rfl rfl spL (by rfl) (by rfl) (by rfl) kpL ?_) | refine s_nil ?_ | refine kh_normal ?_))
        exact rhC3 rfl rfl rfl rfl rfl (fun w hw => loadVar_bx hw spL (by rfl)) ⟨A1, c1, B1, d1, rfl, rfl⟩ enL
end Go.Proofs.Ytehjdbgijibmcaa

/- The reference of layer 34: Holds. -/
namespace Go.Proofs.Ytehjdbgijibmcaa
open Go.Fw Go.RowKit
set_option maxHeartbeats 1000000 in
set_option maxRecDepth 100000 in
theorem rHolds_spec0 (A : Option Addr) (c0 : Nat) (h : House) (w : World) (hl : h.lots.length ≤ 1000000) (hr : Rd w A h.lots) (hval : validH h = false) :
    Ret Try.prog 44 [hv A c0 h].toArray w (Out w (.tuple #[.agg (ints [0, 0, 0, 0]).toArray, .int .i64 2])) := by
  have hvs := fun w hr => rValid_spec A c0 h w hl hr
  obtain ⟨tick, last, lots⟩ := h
  simp only at hl hr
  rw [hval] at hvs
  unfold hv at hvs ⊢
  simp only at hvs ⊢
  refine enterH Try.func44 rfl rfl Try.ntmps44 rfl (Wd.refl _) ?_
  (repeat' (first | (show VH _ _ _ _ _ _ _; first | refine v_seq ?_ | refine r_seq ?_ | refine v_cond_t rfl tbL ?_) | (show SH _ _ _ _ _ (_ :: _) _ _ _; first | refine asg evL ?_ | refine lba rfl spL (by rfl) ?_ | (show SH _ _ _ _ _ (⟨_, .call ⟨.value (.func 23), _, _⟩, _, _, _, _⟩ :: _) _ _ _; refine cl (callee := .func 23) rfl (fun w hw => hvs _ (hr.ext hw.ext)) rfl rfl ?_) | refine bnoF rfl ?_ | refine ala rfl (fun b => ?_) | refine bxx rfl evL rfl (fun b => ?_)) | refine s_nil ?_ | refine kh_normal ?_))
  refine bldQ0 ?_
  (repeat' (first | refine v_ret ?_ | (show SH _ _ _ _ _ (_ :: _) _ _ _; first | refine asg evL ?_ | refine sta rfl rfl rfl spL (by rfl) (by rfl) (by rfl) kpL ?_) | refine s_nil ?_ | refine kh_normal ?_ | refine kh_ret ?_))
  exact rhC2 rfl rfl rfl rfl (fun w hw => loadVar_bx hw spL (by rfl)) ⟨rfl, rfl⟩ (ent_nil _)
set_option maxHeartbeats 1000000 in
set_option maxRecDepth 100000 in
theorem rHolds_spec1 (A : Option Addr) (c0 : Nat) (h : House) (w : World) (hl : h.lots.length ≤ 1000000) (hr : Rd w A h.lots) (hval : validH h = true) :
    Ret Try.prog 44 [hv A c0 h].toArray w (Out w (.tuple #[.agg (ints (holdsH h)).toArray, .int .i64 0])) := by
  have hvs := fun w hr => rValid_spec A c0 h w hl hr
  have hV := valid_iff.1 hval
  unfold holdsH
  rw [if_pos hval]
  obtain ⟨tick, last, lots⟩ := h
  have hlen := hV.len
  have hlot := hV.lot
  simp only at hl hr hlen hlot
  rw [hval] at hvs
  unfold hv at hvs ⊢
  simp only at hvs ⊢
  refine enterH Try.func44 rfl rfl Try.ntmps44 rfl (Wd.refl _) ?_
  (repeat' (first | (show VH _ _ _ _ _ _ _; first | refine v_seq ?_ | refine r_seq ?_ | refine v_block ?_ | refine v_skip ?_ | refine v_cond_f rfl tbL ?_) | (show SH _ _ _ _ _ (_ :: _) _ _ _; first | refine asg evL ?_ | refine lba rfl spL (by rfl) ?_ | (show SH _ _ _ _ _ (⟨_, .call ⟨.value (.func 23), _, _⟩, _, _, _, _⟩ :: _) _ _ _; refine cl (callee := .func 23) rfl (fun w hw => hvs _ (hr.ext hw.ext)) rfl rfl ?_) | refine bnoT rfl ?_ | refine ala rfl (fun b => ?_) | refine bxx rfl evL rfl (fun b => ?_)) | refine s_nil ?_ | refine kh_normal ?_))
  clear hvs
  rename_i bh br
  refine v_norm [(1,_),(2,_),(4,_),(5,_)] heL (fun g => ?_)
  refine v_loop [(5,6),(11,45)] (fun y : Nat × List Int => [(5, .int .i64 y.1)]) (fun y => [bx b 66 (ints y.2), bx br 66 (ints [0, 0, 0, 0]), bx bh 53 [.int .i64 tick, .int .i64 last, .slice A lots.length c0]]) (fun y => y.2.length = 4 ∧ y.1 ≤ lots.length ∧ (∀ i, 0 ≤ y.2.getD i 0 ∧ y.2.getD i 0 ≤ 3000000000 * y.1) ∧ (lots.drop y.1).foldl bump4 y.2 = lots.foldl bump4 [0, 0, 0, 0]) (fun y => lots.length - y.1) (0, [0, 0, 0, 0]) hsL enL
    ⟨rfl, Nat.zero_le _, fun i => by rcases i with _ | _ | _ | _ | i <;> simp, rfl⟩ ?_
  rintro ⟨k, L⟩ g ⟨hL, hk, hb, hf⟩
  simp only [sets]
  simp only at hL hk hb hf
  have hb0 := hb 0
  by_cases hkl : k < lots.length
  · have hR : Right (lots.getD k Flat.dflt) tick := (hlot _ (getD_mem hkl)).2.2
    have hit := hR.item
    have hco := hR.count
    have hmo : 0 ≤ (lots.getD k Flat.dflt).most ∧ (lots.getD k Flat.dflt).most ≤ 2147483647 := by
      have := hR.led
      have := hR.reserve
      omega
    (repeat' (first | (show VH _ _ _ _ _ _ _; first | refine v_seq ?_ | refine r_seq ?_ | refine v_block ?_ | refine v_skip ?_ | refine v_cond_t rfl tbL ?_) | (show SH _ _ _ _ _ (_ :: _) _ _ _; first | refine mov evL ?_ | refine lssT rfl rfl omD ?_ | refine lbx rfl spL (by rfl) ?_ | refine slen rfl ?_ | refine fad rfl ?_) | refine s_nil ?_ | refine kh_normal ?_))
    refine r_heldT [bx bh 53 _] (tr [(0, true), (2, true), (3, true), (4, true), (5, true), (6, true), (7, true), (1, false), (8, false), (9, false), (10, false)] .nil) hmix (by kernel_rfl) enL ?_
    refine ixS rfl rfl (show (0 : Int) = ((0 : Nat) : Int) from rfl) (by decide) ?_
    have hb0 : 0 ≤ L.getD (0 * 1) 0 ∧ L.getD (0 * 1) 0 ≤ 3000000000 * k := hb 0
    have hL0 : 0 * 1 < L.length := by omega
    (repeat' (first | (show VH _ _ _ _ _ _ _; first | refine v_seq ?_ | refine r_seq ?_) | (show SH _ _ _ _ _ (_ :: _) _ _ _; first | refine mov evL ?_ | refine asg evL ?_ | refine add rfl rfl inL ?_ | (show SH _ _ _ _ _ (⟨_, .load _ _, _, _, _, _⟩ :: _) _ _ _; first | refine lbx rfl spL (by rfl) ?_ | refine lbi rfl spL omL ?_ | refine lrf rfl (fun _ _ => rdL) (by rfl) omL (by rfl) ?_) | (show SH _ _ _ _ _ (⟨_, .indexAddr _ _ _, _, _, _, _⟩ :: _) _ _ _; first | refine ix rfl rfl (by with_reducible rfl) (fun _ _ => rdL) (by rfl) omL omL ?_ | refine ixb rfl rfl omL ?_) | refine fad rfl ?_ | refine sbi rfl rfl rfl spL omL kpL ?_) | refine s_nil ?_ | refine kh_normal ?_))
    refine r_heldT [bx bh 53 _] (tr [(0, true), (4, true), (5, true), (6, true), (7, true), (8, true), (9, true), (1, false), (2, false), (3, false), (10, false), (11, false), (12, false)] .nil) hmix (by kernel_rfl) enL ?_
    (repeat' ((show SH _ _ _ _ _ (_ :: _) _ _ _; first | refine mov evL ?_ | (show SH _ _ _ _ _ (⟨_, .load _ _, _, _, _, _⟩ :: _) _ _ _; first | refine lbx rfl spL (by rfl) ?_ | refine lrf rfl (fun _ _ => rdL) (by rfl) omL (by rfl) ?_) | refine ix rfl rfl (by with_reducible rfl) (fun _ _ => rdL) (by rfl) omL omL ?_ | refine fad rfl ?_)))
    obtain ⟨q, hq⟩ : ∃ q : Nat, (lots.getD k Flat.dflt).item = (q : Int) := ⟨(lots.getD k Flat.dflt).item.toNat, by omega⟩
    refine ixS rfl rfl hq (show q < 4 by omega) ?_
    have hbq := hb q
    have hg : (L.set 0 (L.getD (0 * 1) 0 + (lots.getD k Flat.dflt).most)).getD (q * 1) 0 = L.getD q 0 := by
      simp only [List.getD_eq_getElem?_getD]
      rw [List.getElem?_set_ne (by omega), Nat.mul_one]
    refine lbi (i := q * 1) rfl spL (by rw [List.length_set]; omega) ?_
    rw [hg]
    (repeat' (refine add rfl rfl inL ?_))
    refine ixS rfl rfl hq (show q < 4 by omega) ?_
    refine sbi (i := q * 1) rfl rfl rfl spL (by rw [List.length_set]; omega) enL ?_
    (repeat' (first | refine r_seq ?_ | (show SH _ _ _ _ _ (_ :: _) _ _ _; first | refine mov evL ?_ | refine asg evL ?_ | refine add rfl rfl inL ?_) | refine s_nil ?_ | refine kh_normal ?_ | refine bh_normal ?_))
    have hB : bump4 L (lots.getD k Flat.dflt) = (L.set 0 (L.getD (0 * 1) 0 + (lots.getD k Flat.dflt).most)).set (q * 1) (L.getD q 0 + (lots.getD k Flat.dflt).count) := by
      rw [bump4, show (lots.getD k Flat.dflt).item.toNat = q * 1 by omega]
      show (L.set 0 (L.getD (0 * 1) 0 + (lots.getD k Flat.dflt).most)).set (q * 1) ((L.set 0 (L.getD (0 * 1) 0 + (lots.getD k Flat.dflt).most)).getD (q * 1) 0 + _) = _
      rw [hg]
    refine ⟨agL, (k + 1, bump4 L (lots.getD k Flat.dflt)), hsL, hB ▸ enL, ⟨by show (bump4 _ _).length = 4; rw [bump4_len]; exact hL, by show k + 1 ≤ _; omega, fun i => ?_, ?_⟩, by show _ - (k + 1) < _ - k; omega⟩
    · have := hb i
      show 0 ≤ (bump4 L _).getD i 0 ∧ (bump4 L _).getD i 0 ≤ 3000000000 * ((k + 1 : Nat) : Int)
      rw [hB, set2_get (by omega) (by omega) (by omega)]
      split
      · omega
      · split <;> omega
    · show (lots.drop (k + 1)).foldl bump4 (bump4 L _) = _
      rw [drop_cons (d := Flat.dflt) (by omega), List.foldl_cons] at hf
      exact hf
  · rw [List.drop_of_length_le (by omega), List.foldl_nil] at hf
    subst hf
    (repeat' (first | (show VH _ _ _ _ _ _ _; first | refine v_seq ?_ | refine r_seq ?_ | refine v_exit ?_ | refine v_cond_f rfl tbL ?_) | (show SH _ _ _ _ _ (_ :: _) _ _ _; first | refine mov evL ?_ | refine lssF rfl rfl omD ?_ | refine lbx rfl spL (by rfl) ?_ | refine slen rfl ?_ | refine fad rfl ?_) | refine s_nil ?_ | refine kh_normal ?_ | refine kh_exit ?_ | refine bh_exit ?_))
    refine lba rfl spL (by rw [ints_len]; exact hL) ?_
    refine sta rfl rfl rfl spL (by rfl) (by rw [ints_len]; exact hL) (List.all_eq_true.2 (ints_one _)) trivial ?_
    (repeat' (first | refine v_ret ?_ | refine asg evL ?_ | refine s_nil ?_ | refine kh_normal ?_))
    exact rhC2 rfl rfl rfl rfl (fun w hw => loadVar_bx hw spL (by rw [ints_len]; exact hL)) ⟨rfl, rfl⟩ (ent_nil _)
theorem rHolds_spec (A : Option Addr) (c0 : Nat) (h : House) (w : World) (hl : h.lots.length ≤ 1000000) (hr : Rd w A h.lots) :
    Ret Try.prog 44 [hv A c0 h].toArray w (Out w (.tuple #[.agg (ints (holdsH h)).toArray, .int .i64 (if validH h then 0 else 2)])) := by
  cases hval : validH h with
  | false =>
    have := rHolds_spec0 A c0 h w hl hr hval
    unfold holdsH; rw [hval]; exact this
  | true => exact rHolds_spec1 A c0 h w hl hr hval
end Go.Proofs.Ytehjdbgijibmcaa

/- The law's function does: the program does what the reference does. -/
namespace Go.Proofs.Ytehjdbgijibmcaa
open Go.Fw Go.RowKit
/-- What does gives: the house behind it. -/
def DoesR (A : Option Addr) (c0 : Nat) (h : House) (r : Res) (v : Value) (H : List HP) : Prop :=
  if r.2.2 = 0 then ∃ A' c', v = .tuple #[hv A' c' r.1, .bool true] ∧ H = [orow 61 A' c' r.1.lots] else v = .tuple #[hv A c0 h, .bool true] ∧ H = []
set_option maxHeartbeats 8000000 in
set_option maxRecDepth 100000 in
theorem does_spec (A : Option Addr) (c0 : Nat) (h : House) (x : Do6) (w : World) (hl : h.lots.length ≤ 40) (hc : h.lots.length ≤ c0) (hr : Rd w A h.lots) :
    Ret Try.prog 24 [hv A c0 h, .agg (Flat.enc x).toArray].toArray w (RP w (DoesR A c0 h (oneH h x))) := by
  have hT := fun A c w hr => taken_spec A c h w (by omega) hr
  have hO := fun A c w hr => one_spec A c h x w (by omega) hr
  have hR := fun w hr => sameR_spec A c0 h x w (by omega) hc hr
  have hH1 := fun A c w hr => holds_spec A c h w (by omega) hr
  have hH2 := fun w hr => rHolds_spec A c0 h w (by omega) hr
  have hV1 := fun A c w hr => valid_spec A c h w (by omega) hr
  have hV2 := fun w hr => rValid_spec A c0 h w (by omega) hr
  have hS2 := fun A2 A3 c2 c3 w hr2 hr3 => sameH_spec A2 A3 c2 c3 h h w hr2 hr3 (by omega)
  obtain ⟨hn1, hn2⟩ := oneH_small h x
  have hz : ∀ i, i < (oneH h x).2.1.length → True := fun _ _ => trivial
  unfold DoesR
  generalize oneH h x = r at hO hR hn1 hn2 ⊢
  clear hz
  obtain ⟨nx, M, er⟩ := r
  simp only at hn1 hn2 ⊢
  have hT2 := fun A c w hr => taken_spec A c nx w (by omega) hr
  have hS1 := fun A2 A3 c2 c3 w hr2 hr3 => sameH_spec A2 A3 c2 c3 nx nx w hr2 hr3 (by omega)
  have hN1 := fun w => next_spec x.c w
  have hN2 := fun w => rNext_spec x.c w
  rw [decide_eq_true rfl] at hS1 hS2
  have hhl := holds_len h
  generalize holdsH h = hh at hH1 hH2 hhl
  obtain ⟨p0, p1, p2, p3, rfl⟩ := list4 hhl
  generalize nextP x.c = np at hN1 hN2
  obtain ⟨ev, hev⟩ : ∃ ev : Int, (if validH h then 0 else 2) = ev := ⟨_, rfl⟩
  rw [hev] at hH1 hH2
  clear hev hhl
  unfold OutR at hO
  unfold OutRR at hR
  obtain ⟨kk, a, b0, c, d, e⟩ := x
  obtain ⟨tick, last, lots⟩ := h
  obtain ⟨ntick, nlast, nlots⟩ := nx
  unfold hv at *
  simp only at *
  rw [show (Flat.enc (⟨kk, a, b0, c, d, e⟩ : Do6)) = [.int .i64 kk, .int .i64 a, .int .i64 b0, .int .i64 c, .int .i64 d, .int .i64 e] from rfl] at *
  generalize validH ⟨tick, last, lots⟩ = vb at hV1 hV2
  have hbb : (!(vb == vb)) = false := by simp
  refine enterH Try.func24 rfl rfl Try.ntmps24 rfl (Wd.refl _) ?_
  (repeat' (first | (show VH _ _ _ _ _ _ _; first | refine v_seq ?_ | refine r_seq ?_) | (show SH _ _ _ _ _ (_ :: _) _ _ _; first | refine asg evL ?_ | refine lba rfl spL (by rfl) ?_ | (show SH _ _ _ _ _ (⟨_, .call ⟨.value (.func 25), _, _⟩, _, _, _, _⟩ :: _) _ _ _; refine cp (callee := .func 25) rfl (fun w hw => hT _ _ _ (hr.ext hw.ext)) rfl rfl ?_) | refine ala rfl (fun b => ?_) | refine bxx rfl evL rfl (fun b => ?_)) | refine s_nil ?_ | refine kh_normal ?_))
  rintro _ _ ⟨A1, c1, rfl, rfl⟩
  (repeat' (first | (show VH _ _ _ _ _ _ _; first | refine v_seq ?_ | refine r_seq ?_) | (show SH _ _ _ _ _ (_ :: _) _ _ _; first | refine lba rfl spL (by rfl) ?_ | (show SH _ _ _ _ _ (⟨_, .call ⟨.value (.func 27), _, _⟩, _, _, _, _⟩ :: _) _ _ _; refine cp (callee := .func 27) rfl (fun w hw => hO A1 c1 w (hw.rd spL)) rfl rfl ?_) | refine ala rfl (fun b => ?_) | refine sta rfl rfl rfl spL (by rfl) (by rfl) (by rfl) kpL ?_) | refine s_nil ?_ | refine kh_normal ?_))
  rintro _ _ ⟨A2, c2, B2, d2, rfl, rfl⟩
  clear hO
  (repeat' (first | (show VH _ _ _ _ _ _ _; first | refine v_seq ?_ | refine r_seq ?_) | (show SH _ _ _ _ _ (_ :: _) _ _ _; first | refine mov evL ?_ | refine asg evL ?_ | refine lba rfl spL (by rfl) ?_ | (show SH _ _ _ _ _ (⟨_, .call ⟨.value (.func 43), _, _⟩, _, _, _, _⟩ :: _) _ _ _; refine cp (callee := .func 43) rfl (fun w hw => hR _ (hr.ext hw.ext)) rfl rfl ?_) | refine extr rfl rfl ?_ | refine ala rfl (fun b => ?_) | refine sta rfl rfl rfl spL (by rfl) (by rfl) (by rfl) kpL ?_) | refine s_nil ?_ | refine kh_normal ?_))
  rintro _ _ ⟨A3, c3, B3, d3, rfl, rfl⟩
  clear hR
  (repeat' (first | (show VH _ _ _ _ _ _ _; first | refine v_seq ?_ | refine r_seq ?_) | (show SH _ _ _ _ _ (_ :: _) _ _ _; first | refine mov evL ?_ | refine asg evL ?_ | refine lba rfl spL (by rfl) ?_ | (show SH _ _ _ _ _ (⟨_, .call ⟨.value (.func 28), _, _⟩, _, _, _, _⟩ :: _) _ _ _; refine cl (callee := .func 28) rfl (fun w hw => hH1 A1 c1 w (hw.rd spL)) rfl rfl ?_) | (show SH _ _ _ _ _ (⟨_, .call ⟨.value (.func 44), _, _⟩, _, _, _, _⟩ :: _) _ _ _; refine cl (callee := .func 44) rfl (fun w hw => hH2 w (hr.ext hw.ext)) rfl rfl ?_) | refine extr rfl rfl ?_ | refine ala rfl (fun b => ?_) | refine sta rfl rfl rfl spL (by rfl) (by rfl) (by rfl) kpL ?_) | refine s_nil ?_ | refine kh_normal ?_))
  rename_i b2 b3 b4 b6 b7 b10 b13
  clear hH1 hH2
  refine r_heldT [bx b7 26 _, bx b13 66 _, bx b6 26 _, bx b2 53 _, bx b3 59 _] (tr [(0, true), (1, false), (2, false), (3, false), (4, true), (5, false), (6, false), (7, false), (8, false), (9, false), (10, false), (11, true), (12, true), (13, false), (14, false), (15, false), (16, false), (17, false), (18, true), (19, false), (20, false), (21, false), (22, false), (23, true), (24, false), (25, false), (26, false), (27, false), (28, true), (30, true), (29, false), (31, false), (32, false), (33, false), (34, false), (35, true), (36, true), (38, true), (39, true), (37, false), (40, false), (41, false), (42, false)] .nil) hmix (by kernel_rfl) enL ?_
  (repeat' ((show SH _ _ _ _ _ (_ :: _) _ _ _; first | (refine gif rfl rfl ?_; refine giFF tbL ?_) | refine mov evL ?_ | refine neqF rfl rfl omD ?_ | refine lba rfl spL (by rfl) ?_ | (show SH _ _ _ _ _ (⟨_, .call ⟨.value (.func 25), _, _⟩, _, _, _, _⟩ :: _) _ _ _; refine cp (callee := .func 25) rfl (fun w hw => hT2 A3 c3 w (hw.rd spL)) rfl rfl ?_))))
  rintro _ _ ⟨A4, c4, rfl, rfl⟩
  clear hT2
  (repeat' ((show SH _ _ _ _ _ (_ :: _) _ _ _; first | (refine gif rfl rfl ?_; refine giFF tbL ?_) | refine mov evL ?_ | refine neqF rfl rfl omD ?_ | refine lba rfl spL (by rfl) ?_ | refine slen rfl ?_ | (show SH _ _ _ _ _ (⟨_, .call ⟨.value (.func 19), _, _⟩, _, _, _, _⟩ :: _) _ _ _; refine cl (callee := .func 19) rfl (fun w hw => hS1 A2 A4 c2 c4 w (hw.rd spL) (hw.rd spL)) rfl rfl ?_) | refine bnoT rfl ?_ | refine pkf rfl tbL evL ?_)))
  clear hS1
  refine nea (⟨p0, p1, p2, p3⟩ : Q4) ⟨p0, p1, p2, p3⟩ rfl rfl ?_
  rw [decide_eq_true rfl]
  (repeat' (first | (show VH _ _ _ _ _ _ _; first | refine v_seq ?_ | refine r_seq ?_ | refine v_block ?_ | refine v_skip ?_ | refine v_cond_f rfl tbL ?_) | (show SH _ _ _ _ _ (_ :: _) _ _ _; first | (refine gif rfl rfl ?_; refine giFF tbL ?_) | refine mov evL ?_ | refine asg evL ?_ | (show SH _ _ _ _ _ (⟨_, .binOp _ _ _ _ _, _, _, _, _⟩ :: _) _ _ _; first | refine neqF rfl rfl omD ?_ | refine neb rfl rfl ?_) | (show SH _ _ _ _ _ (⟨_, .load _ _, _, _, _, _⟩ :: _) _ _ _; first | refine lbx rfl spL (by rfl) ?_ | refine lba rfl spL (by rfl) ?_) | (show SH _ _ _ _ _ (⟨_, .call ⟨.value (.func 18), _, _⟩, _, _, _, _⟩ :: _) _ _ _; refine cl (callee := .func 18) rfl (fun w hw => hV1 A1 c1 w (hw.rd spL)) rfl rfl ?_) | (show SH _ _ _ _ _ (⟨_, .call ⟨.value (.func 23), _, _⟩, _, _, _, _⟩ :: _) _ _ _; refine cl (callee := .func 23) rfl (fun w hw => hV2 w (hr.ext hw.ext)) rfl rfl ?_) | (show SH _ _ _ _ _ (⟨_, .call ⟨.value (.func 21), _, _⟩, _, _, _, _⟩ :: _) _ _ _; refine cl (callee := .func 21) rfl (fun w hw => hN1 w) rfl rfl ?_) | (show SH _ _ _ _ _ (⟨_, .call ⟨.value (.func 45), _, _⟩, _, _, _, _⟩ :: _) _ _ _; refine cl (callee := .func 45) rfl (fun w hw => hN2 w) rfl rfl ?_) | refine pkf rfl tbL evL ?_ | refine fad rfl ?_) | refine s_nil ?_ | refine kh_normal ?_))
  clear hV1 hV2 hN1 hN2
  refine v_norm [(2,_),(4,_),(6,_),(7,_),(8,_),(10,_),(11,_),(12,_),(17,_)] heL (fun g => ?_)
  refine VH.ent (G := [bx b10 53 _, orow 61 A3 c3 nlots, orow 100 B3 d3 M, bx b7 26 _, orow 38 A2 c2 nlots, orow 36 B2 d2 M, bx b6 26 _, orow 38 A1 c1 lots, bx b4 53 _, bx b2 53 _]) ?_ enL
  refine v_loop0 [(5,5),(17,17),(89,104)] (fun i : Nat => [(17, .int .i64 i)]) (fun i => i ≤ M.length) (fun i => M.length - i) 0 hsL (Nat.zero_le _) ?_
  rintro i g1 hi
  simp only [sets]
  by_cases him : i < M.length
  · (repeat' (first | (show VH _ _ _ _ _ _ _; first | refine v_seq ?_ | refine r_seq ?_ | refine v_block ?_ | refine v_skip ?_ | refine v_cond_t rfl tbL ?_) | (show SH _ _ _ _ _ (_ :: _) _ _ _; first | refine mov evL ?_ | refine lssT rfl rfl omD ?_ | refine slen rfl ?_) | refine s_nil ?_ | refine kh_normal ?_))
    refine r_quiet hmix (by kernel_rfl) ?_
    (repeat' ((show SH _ _ _ _ _ (_ :: _) _ _ _; first | refine mov evL ?_ | refine lra rfl (fun _ _ => rdL) (by rfl) omL ?_ | refine ix rfl rfl (by with_reducible rfl) (fun _ _ => rdL) (by rfl) omL omL ?_)))
    refine nea (M.getD i Flat.dflt) (M.getD i Flat.dflt) rfl rfl ?_
    rw [decide_eq_true rfl]
    (repeat' (first | (show VH _ _ _ _ _ _ _; first | refine r_seq ?_ | refine v_skip ?_ | refine v_cond_f rfl tbL ?_) | (show SH _ _ _ _ _ (_ :: _) _ _ _; first | refine mov evL ?_ | refine asg evL ?_ | refine add rfl rfl inL ?_) | refine s_nil ?_ | refine kh_normal ?_ | refine bh_normal ?_))
    exact ⟨agL, i + 1, hsL, enL, him, by show _ - (i + 1) < _ - i; omega⟩
  · (repeat' (first | (show VH _ _ _ _ _ _ _; first | refine v_seq ?_ | refine r_seq ?_ | refine v_block ?_ | refine v_exit ?_ | refine v_cond_f rfl tbL ?_) | (show SH _ _ _ _ _ (_ :: _) _ _ _; first | refine mov evL ?_ | refine asg evL ?_ | refine lssF rfl rfl omD ?_ | refine slen rfl ?_) | refine s_nil ?_ | refine kh_normal ?_ | refine kh_exit ?_ | refine bh_exit ?_))
    clear hi him
    refine v_loop [(18,18),(105,116)] (fun y : Nat × List Lot => [(18, .int .i64 y.1)]) (fun y => [orow 38 A2 c2 y.2, bx b7 26 [.int .i64 ntick, .int .i64 nlast, .slice A2 nlots.length c2], bx b10 53 [.int .i64 ntick, .int .i64 nlast, .slice A3 nlots.length c3], orow 61 A3 c3 nlots, bx b6 26 [.int .i64 tick, .int .i64 last, .slice A1 lots.length c1], orow 38 A1 c1 lots, bx b4 53 [.int .i64 0, .int .i64 0, .slice none 0 0], bx b2 53 [.int .i64 tick, .int .i64 last, .slice A lots.length c0]]) (fun y => y.2.length = nlots.length ∧ y.1 ≤ nlots.length) (fun y => nlots.length - y.1) (0, nlots) hsL enL ⟨rfl, Nat.zero_le _⟩ ?_
    rintro ⟨j, L⟩ g2 ⟨hL, hj⟩
    simp only [sets]
    simp only at hL hj
    by_cases hjn : j < nlots.length
    · have hjL : j < L.length := by omega
      (repeat' (first | (show VH _ _ _ _ _ _ _; first | refine v_seq ?_ | refine r_seq ?_ | refine v_block ?_ | refine v_skip ?_ | refine v_cond_t rfl tbL ?_) | (show SH _ _ _ _ _ (_ :: _) _ _ _; first | refine mov evL ?_ | refine lssT rfl rfl omD ?_ | refine lbx rfl spL (by rfl) ?_ | refine ix rfl rfl (by with_reducible rfl) (fun _ _ => rdL) (by rfl) omL omL ?_ | refine slen rfl ?_ | refine fad rfl ?_) | refine s_nil ?_ | refine kh_normal ?_))
      refine stf { L.getD j Flat.dflt with id := -1 } rfl rfl rfl spL rfl hjL rfl rfl (by decide) rfl trivial ?_
      (repeat' (first | refine r_seq ?_ | (show SH _ _ _ _ _ (_ :: _) _ _ _; first | refine mov evL ?_ | refine asg evL ?_ | refine add rfl rfl inL ?_) | refine s_nil ?_ | refine kh_normal ?_ | refine bh_normal ?_))
      exact ⟨agL, (j + 1, L.set j { L.getD j Flat.dflt with id := -1 }), hsL, enL, ⟨by rw [← hL]; exact List.length_set, hjn⟩, by show _ - (j + 1) < _ - j; omega⟩
    · by_cases her : er = 0
      · (repeat' (first | (show VH _ _ _ _ _ _ _; first | refine v_seq ?_ | refine r_seq ?_ | refine v_skip ?_ | refine v_exit ?_ | refine v_cond_f rfl tbL ?_) | (show SH _ _ _ _ _ (_ :: _) _ _ _; first | refine mov evL ?_ | (show SH _ _ _ _ _ (⟨_, .binOp _ _ _ _ _, _, _, _, _⟩ :: _) _ _ _; first | refine lssF rfl rfl omD ?_ | refine neqF rfl rfl omD ?_) | refine lbx rfl spL (by rfl) ?_ | refine slen rfl ?_ | refine fad rfl ?_) | refine s_nil ?_ | refine kh_normal ?_ | refine kh_exit ?_ | refine bh_exit ?_))
        refine r_heldT [bx b10 53 _, bx b6 26 _] (tr [(0, true), (1, true), (2, false), (3, false), (4, false), (5, false), (6, false)] .nil) hmix (by kernel_rfl) enL ?_
        (repeat' ((show SH _ _ _ _ _ (_ :: _) _ _ _; first | refine lba rfl spL (by rfl) ?_ | (show SH _ _ _ _ _ (⟨_, .call ⟨.value (.func 25), _, _⟩, _, _, _, _⟩ :: _) _ _ _; refine cp (callee := .func 25) rfl (fun w hw => hT _ _ _ (hr.ext hw.ext)) rfl rfl ?_))))
        rintro _ _ ⟨A5, c5, rfl, rfl⟩
        (repeat' (first | refine v_ret ?_ | (show SH _ _ _ _ _ (_ :: _) _ _ _; first | refine asg evL ?_ | (show SH _ _ _ _ _ (⟨_, .call ⟨.value (.func 19), _, _⟩, _, _, _, _⟩ :: _) _ _ _; refine cl (callee := .func 19) rfl (fun w hw => hS2 A1 A5 c1 c5 w (hw.rd spL) (hw.rd spL)) rfl rfl ?_) | refine sta rfl rfl rfl spL (by rfl) (by rfl) (by rfl) kpL ?_) | refine s_nil ?_ | refine kh_normal ?_))
        exact rhC2 rfl rfl rfl rfl (fun w hw => loadVar_bx hw spL (by rfl)) (by rw [if_pos her]; exact ⟨A3, c3, rfl, rfl⟩) enL
      · (repeat' (first | (show VH _ _ _ _ _ _ _; first | refine v_seq ?_ | refine r_seq ?_ | refine v_exit ?_ | refine v_cond_t rfl tbL ?_ | refine v_cond_f rfl tbL ?_) | (show SH _ _ _ _ _ (_ :: _) _ _ _; first | refine mov evL ?_ | (show SH _ _ _ _ _ (⟨_, .binOp _ _ _ _ _, _, _, _, _⟩ :: _) _ _ _; first | refine lssF rfl rfl omD ?_ | refine neqT rfl rfl omD ?_) | (show SH _ _ _ _ _ (⟨_, .load _ _, _, _, _, _⟩ :: _) _ _ _; first | refine lbx rfl spL (by rfl) ?_ | refine lba rfl spL (by rfl) ?_) | refine slen rfl ?_ | refine fad rfl ?_ | refine sta rfl rfl rfl spL (by rfl) (by rfl) (by rfl) kpL ?_) | refine s_nil ?_ | refine kh_normal ?_ | refine kh_exit ?_ | refine bh_exit ?_))
        refine r_heldT [bx b10 53 _, bx b6 26 _] (tr [(0, true), (1, true), (2, false), (3, false), (4, false), (5, false), (6, false)] .nil) hmix (by kernel_rfl) enL ?_
        (repeat' ((show SH _ _ _ _ _ (_ :: _) _ _ _; first | refine lba rfl spL (by rfl) ?_ | (show SH _ _ _ _ _ (⟨_, .call ⟨.value (.func 25), _, _⟩, _, _, _, _⟩ :: _) _ _ _; refine cp (callee := .func 25) rfl (fun w hw => hT _ _ _ (hr.ext hw.ext)) rfl rfl ?_))))
        rintro _ _ ⟨A5, c5, rfl, rfl⟩
        (repeat' (first | refine v_ret ?_ | (show SH _ _ _ _ _ (_ :: _) _ _ _; first | refine asg evL ?_ | (show SH _ _ _ _ _ (⟨_, .call ⟨.value (.func 19), _, _⟩, _, _, _, _⟩ :: _) _ _ _; refine cl (callee := .func 19) rfl (fun w hw => hS2 A1 A5 c1 c5 w (hw.rd spL) (hw.rd spL)) rfl rfl ?_) | refine sta rfl rfl rfl spL (by rfl) (by rfl) (by rfl) kpL ?_) | refine s_nil ?_ | refine kh_normal ?_))
        exact rhC2 rfl rfl rfl rfl (fun w hw => loadVar_bx hw spL (by rfl)) (by rw [if_neg her]; exact ⟨rfl, rfl⟩) enL
end Go.Proofs.Ytehjdbgijibmcaa

/- What follows of the law's function does, for its callers: memory side by side. -/
namespace Go.Proofs.Ytehjdbgijibmcaa
open Go.Fw Go.RowKit
abbrev LotsR (A : Option Addr) (c : Nat) (h : House) : HP := orow 61 A c h.lots
/-- The house behind it: a new one, or the same. -/
theorem does_p (A : Option Addr) (c0 : Nat) (h : House) (x : Do6) (w : World) (hl : h.lots.length ≤ 40) (hc : h.lots.length ≤ c0) (hr : Rd w A h.lots) :
    Ret Try.prog 24 [hv A c0 h, .agg (Flat.enc x).toArray].toArray w (RP w fun v H' => ∃ A' c' t s l, v = .tuple #[.agg #[.int .i64 t, .int .i64 s, .slice A' l.length c'], .bool true] ∧ l.length ≤ 40 ∧ l.length ≤ c' ∧ (H' = [orow 61 A' c' l] ∨ H' = [] ∧ A' = A ∧ c' = c0 ∧ l = h.lots)) :=
  (does_spec A c0 h x w hl hc hr).mono fun v w' ⟨H1, h1, h2⟩ => by
    have hn := (oneH_small h x).1
    unfold DoesR at h1
    split at h1
    · obtain ⟨A', c', rfl, rfl⟩ := h1
      exact ⟨_, ⟨A', c', _, _, (oneH h x).1.lots, rfl, by omega, (own_cap (h2.own Split.head)).1, .inl rfl⟩, h2⟩
    · obtain ⟨rfl, rfl⟩ := h1
      exact ⟨_, ⟨A, c0, _, _, h.lots, rfl, hl, hc, .inr ⟨rfl, rfl, rfl, rfl⟩⟩, h2⟩
/-- The house behind it is dropped. -/
theorem does_d (A : Option Addr) (c0 : Nat) (h : House) (x : Do6) (w : World) (hl : h.lots.length ≤ 40) (hc : h.lots.length ≤ c0) (hr : Rd w A h.lots) :
    Ret Try.prog 24 [hv A c0 h, .agg (Flat.enc x).toArray].toArray w (RP w fun v H' => (∃ A' c' t s n, v = .tuple #[.agg #[.int .i64 t, .int .i64 s, .slice A' n c'], .bool true]) ∧ H' = []) :=
  (does_spec A c0 h x w hl hc hr).mono fun v w' ⟨H1, h1, h2⟩ => by
    unfold DoesR at h1
    split at h1
    · obtain ⟨A', c', rfl, rfl⟩ := h1
      exact ⟨[], ⟨⟨A', c', _, _, _, rfl⟩, rfl⟩, Ent.wd (ent_nil _) h2⟩
    · obtain ⟨rfl, rfl⟩ := h1
      exact ⟨[], ⟨⟨A, c0, _, _, _, rfl⟩, rfl⟩, h2⟩
end Go.Proofs.Ytehjdbgijibmcaa

/- The law's function full answers true. -/
namespace Go.Proofs.Ytehjdbgijibmcaa
open Go.Fw Go.RowKit
set_option maxHeartbeats 8000000 in
set_option maxRecDepth 100000 in
theorem full_spec (w : World) : Ret Try.prog 26 ([] : List Value).toArray w (Out w (.bool true)) := by
  refine enterH Try.func26 rfl rfl Try.ntmps26 rfl (Wd.refl _) ?_
  (repeat' (first | (show VH _ _ _ _ _ _ _; first | refine v_seq ?_ | refine r_seq ?_ | refine v_block ?_) | (show SH _ _ _ _ _ (_ :: _) _ _ _; first | refine asg evL ?_ | refine ala rfl (fun b => ?_)) | refine s_nil ?_ | refine kh_normal ?_))
  refine v_norm [(0,_),(1,_),(2,_)] heL (fun g => ?_)
  refine v_loop [(0,0),(2,4),(11,53)] (fun y : Nat × (Int × Int) × (Option Addr × Nat × List Lot) => [(2, .int .i64 y.1)]) (fun y => [bx b 53 [.int .i64 y.2.1.1, .int .i64 y.2.1.2, .slice y.2.2.1 y.2.2.2.2.length y.2.2.2.1], orow 61 y.2.2.1 y.2.2.2.1 y.2.2.2.2])
    (fun y => y.1 ≤ 34 ∧ y.2.2.2.2.length ≤ 40 ∧ y.2.2.2.2.length ≤ y.2.2.2.1) (fun y => 34 - y.1) (0, (0, 0), none, 0, []) hsL enL ⟨Nat.zero_le _, Nat.zero_le _, Nat.zero_le _⟩ ?_
  rintro ⟨k, ⟨t, s⟩, A3, c3, L⟩ g ⟨hk, hL, hLc⟩
  simp only [sets]
  simp only at hk hL hLc
  by_cases hkl : k < 34
  · have hD := fun w hr => does_p A3 c3 ⟨t, s, L⟩ ⟨0, 1 + (k : Int) % 4, 1 + (k : Int) % 3, 1 + (k : Int), 5 + (k : Int), 10 + (k : Int) * 7 % 5⟩ w hL hLc hr
    unfold hv at hD
    simp only at hD
    (repeat' (first | (show VH _ _ _ _ _ _ _; first | refine v_seq ?_ | refine r_seq ?_ | refine v_block ?_ | refine v_skip ?_ | refine v_cond_t rfl tbL ?_) | (show SH _ _ _ _ _ (_ :: _) _ _ _; first | refine mov evL ?_ | (show SH _ _ _ _ _ (⟨_, .binOp _ _ _ _ _, _, _, _, _⟩ :: _) _ _ _; first | refine add rfl rfl inL ?_ | refine lss rfl rfl ?_ | refine mul rfl rfl inL ?_ | refine rem rfl rfl omL omL ?_) | refine lba rfl spL (by rfl) ?_ | (show SH _ _ _ _ _ (⟨_, .call ⟨.value (.func 24), _, _⟩, _, _, _, _⟩ :: _) _ _ _; refine cp (callee := .func 24) rfl (fun w hw => hD w (hw.rd spL)) rfl rfl ?_) | refine bld rfl rfl ?_) | refine s_nil ?_ | refine kh_normal ?_))
    rintro _ _ ⟨A4, c4, t4, s4, L4, rfl, hL4, hc4, rfl | ⟨rfl, rfl, rfl, rfl⟩⟩
    all_goals
      have hD2 := fun w hr => does_p A4 c4 ⟨t4, s4, L4⟩ ⟨1, 1 + (k : Int), 5 + (k : Int) % 3, 4 + 2 * (k : Int), 0, 0⟩ w hL4 hc4 hr
      unfold hv at hD2
      simp only at hD2
      (repeat' (first | (show VH _ _ _ _ _ _ _; first | refine v_seq ?_ | refine r_seq ?_ | refine v_skip ?_ | refine v_cond_f rfl tbL ?_) | (show SH _ _ _ _ _ (_ :: _) _ _ _; first | refine mov evL ?_ | refine asg evL ?_ | (show SH _ _ _ _ _ (⟨_, .binOp _ _ _ _ _, _, _, _, _⟩ :: _) _ _ _; first | refine add rfl rfl inL ?_ | refine mul rfl rfl inL ?_ | refine rem rfl rfl omL omL ?_) | refine lba rfl spL (by rfl) ?_ | (show SH _ _ _ _ _ (⟨_, .call ⟨.value (.func 24), _, _⟩, _, _, _, _⟩ :: _) _ _ _; refine cp (callee := .func 24) rfl (fun w hw => hD2 w (hw.rd spL)) rfl rfl ?_) | refine bnot rfl ?_ | refine extr rfl rfl ?_ | refine bld rfl rfl ?_ | refine ala rfl (fun b => ?_) | refine sta rfl rfl rfl spL (by rfl) (by rfl) (by rfl) kpL ?_) | refine s_nil ?_ | refine kh_normal ?_))
      rintro _ _ ⟨A5, c5, t5, s5, L5, rfl, hL5, hc5, rfl | ⟨rfl, rfl, rfl, rfl⟩⟩
      all_goals
        (repeat' (first | (show VH _ _ _ _ _ _ _; first | refine v_seq ?_ | refine r_seq ?_ | refine v_skip ?_ | refine v_cond_f rfl tbL ?_) | (show SH _ _ _ _ _ (_ :: _) _ _ _; first | refine mov evL ?_ | refine asg evL ?_ | refine add rfl rfl inL ?_ | refine lba rfl spL (by rfl) ?_ | refine bnot rfl ?_ | refine extr rfl rfl ?_ | refine sta rfl rfl rfl spL (by rfl) (by rfl) (by rfl) kpL ?_) | refine s_nil ?_ | refine kh_normal ?_ | refine bh_normal ?_))
        exact ⟨agL, (k + 1, (t5, s5), _, _, _), hsL, enL, ⟨hkl, hL5, hc5⟩, by show _ - (k + 1) < _ - k; omega⟩
  · (repeat' (first | (show VH _ _ _ _ _ _ _; first | refine v_seq ?_ | refine r_seq ?_ | refine v_block ?_ | refine v_exit ?_ | refine v_cond_f rfl tbL ?_) | (show SH _ _ _ _ _ (_ :: _) _ _ _; first | refine mov evL ?_ | refine asg evL ?_ | refine lss rfl rfl ?_) | refine s_nil ?_ | refine kh_normal ?_ | refine kh_exit ?_ | refine bh_exit ?_))
    clear hk hkl
    refine v_loop0 [(0,0),(5,7),(54,66)] (fun i : Nat => [(5, .int .i64 i)]) (fun i => 9 ≤ i ∧ i ≤ 31) (fun i => 31 - i) 9 hsL ⟨Nat.le_refl _, by omega⟩ ?_
    rintro i g2 ⟨hi9, hi⟩
    simp only [sets]
    by_cases hil : i < 31
    · have hD := fun w hr => does_d A3 c3 ⟨t, s, L⟩ ⟨4, (i : Int), 0, 0, 0, 0⟩ w hL hLc hr
      unfold hv at hD
      simp only at hD
      (repeat' (first | (show VH _ _ _ _ _ _ _; first | refine v_seq ?_ | refine r_seq ?_ | refine v_block ?_ | refine v_skip ?_ | refine v_cond_t rfl tbL ?_) | (show SH _ _ _ _ _ (_ :: _) _ _ _; first | refine mov evL ?_ | refine lss rfl rfl ?_ | refine lba rfl spL (by rfl) ?_ | (show SH _ _ _ _ _ (⟨_, .call ⟨.value (.func 24), _, _⟩, _, _, _, _⟩ :: _) _ _ _; refine cp (callee := .func 24) rfl (fun w hw => hD w (hw.rd spL)) rfl rfl ?_) | refine bld rfl rfl ?_) | refine s_nil ?_ | refine kh_normal ?_))
      rintro _ _ ⟨⟨A4, c4, t4, s4, n4, rfl⟩, rfl⟩
      (repeat' (first | (show VH _ _ _ _ _ _ _; first | refine v_seq ?_ | refine r_seq ?_ | refine v_skip ?_ | refine v_cond_f rfl tbL ?_) | (show SH _ _ _ _ _ (_ :: _) _ _ _; first | refine mov evL ?_ | refine asg evL ?_ | refine add rfl rfl inL ?_ | refine bnot rfl ?_ | refine extr rfl rfl ?_ | refine ala rfl (fun b => ?_) | refine sta rfl rfl rfl spL (by rfl) (by rfl) (by rfl) kpL ?_) | refine s_nil ?_ | refine kh_normal ?_ | refine bh_normal ?_))
      exact ⟨agL, i + 1, hsL, enL, ⟨by omega, by omega⟩, by show _ - (i + 1) < _ - i; omega⟩
    · (repeat' (first | (show VH _ _ _ _ _ _ _; first | refine v_seq ?_ | refine r_seq ?_ | refine v_block ?_ | refine v_exit ?_ | refine v_cond_f rfl tbL ?_) | (show SH _ _ _ _ _ (_ :: _) _ _ _; first | refine mov evL ?_ | refine asg evL ?_ | refine lss rfl rfl ?_) | refine s_nil ?_ | refine kh_normal ?_ | refine kh_exit ?_ | refine bh_exit ?_))
      clear hi hi9 hil
      refine v_loop0 [(0,0),(8,10),(67,80)] (fun q : Nat => [(8, .int .i64 q)]) (fun q => q ≤ 3) (fun q => 3 - q) 0 hsL (Nat.zero_le _) ?_
      rintro q g3 hq
      simp only [sets]
      by_cases hql : q < 3
      · have hD := fun w => does_d none 0 ⟨0, 1048575 + (q : Int), []⟩ ⟨0, 5, 1, 1, 10, 50⟩ w (Nat.zero_le _) (Nat.zero_le _) (Rd.nil w none)
        unfold hv at hD
        simp only [List.length_nil] at hD
        (repeat' (first | (show VH _ _ _ _ _ _ _; first | refine v_seq ?_ | refine r_seq ?_ | refine v_block ?_ | refine v_skip ?_ | refine v_cond_t rfl tbL ?_) | (show SH _ _ _ _ _ (_ :: _) _ _ _; first | refine mov evL ?_ | (show SH _ _ _ _ _ (⟨_, .binOp _ _ _ _ _, _, _, _, _⟩ :: _) _ _ _; first | refine add rfl rfl inL ?_ | refine lss rfl rfl ?_) | (show SH _ _ _ _ _ (⟨_, .call ⟨.value (.func 24), _, _⟩, _, _, _, _⟩ :: _) _ _ _; refine cp (callee := .func 24) rfl (fun w hw => hD w) rfl rfl ?_) | refine bld rfl rfl ?_) | refine s_nil ?_ | refine kh_normal ?_))
        rintro _ _ ⟨⟨A4, c4, t4, s4, n4, rfl⟩, rfl⟩
        (repeat' (first | (show VH _ _ _ _ _ _ _; first | refine v_seq ?_ | refine r_seq ?_ | refine v_skip ?_ | refine v_cond_f rfl tbL ?_) | (show SH _ _ _ _ _ (_ :: _) _ _ _; first | refine mov evL ?_ | refine asg evL ?_ | refine add rfl rfl inL ?_ | refine bnot rfl ?_ | refine extr rfl rfl ?_ | refine ala rfl (fun b => ?_) | refine sta rfl rfl rfl spL (by rfl) (by rfl) (by rfl) kpL ?_) | refine s_nil ?_ | refine kh_normal ?_ | refine bh_normal ?_))
        exact ⟨agL, q + 1, hsL, enL, by omega, by show _ - (q + 1) < _ - q; omega⟩
      · (repeat' (first | (show VH _ _ _ _ _ _ _; first | refine v_seq ?_ | refine r_seq ?_ | refine v_ret ?_ | refine v_exit ?_ | refine v_cond_f rfl tbL ?_) | (show SH _ _ _ _ _ (_ :: _) _ _ _; first | refine mov evL ?_ | refine asg evL ?_ | refine lss rfl rfl ?_) | refine s_nil ?_ | refine kh_normal ?_ | refine kh_exit ?_ | refine bh_exit ?_))
        exact rh1 rfl rfl ⟨rfl, rfl⟩ (ent_nil _)
end Go.Proofs.Ytehjdbgijibmcaa

/- The law's function AuctionSmall answers true (printed by gen_gsm.py). -/
namespace Go.Proofs.Ytehjdbgijibmcaa
open Go.Fw Go.RowKit
instance : TArB Try.prog 62 6 (List.replicate 30 (.int .i64 0)) := ⟨⟨5, 59, by kernel_rfl, fun w => by kernel_rfl⟩, fun w => by kernel_rfl⟩
instance : TIdx Try.prog 62 5 6 true := ⟨59, by kernel_rfl, fun w => by kernel_rfl, fun w => by kernel_rfl⟩
theorem encs_part {α : Type} [F : Flat α] {l : List α} {k : Nat} (hk : k < l.length) : ((encs l).drop (k * F.sz)).take F.sz = F.enc (l.getD k F.dflt) := by
  rw [encs_drop, drop_cons (d := F.dflt) hk, encs_cons, List.take_append, F.len, Nat.sub_self, List.take_of_length_le (by rw [F.len]; omega)]; simp
def base5 : List Do6 := [⟨0, 5, 1, 1, 10, 50⟩, ⟨1, 3, 7, 20, 0, 0⟩, ⟨1, 4, 8, 60, 0, 0⟩, ⟨3, 3, 5, 0, 0, 0⟩, ⟨4, 110, 0, 0, 0, 0⟩]
def ends34 : List Int := [-9223372036854775808, -1, 0, 1, 3, 4, 5, 7, 9, 10, 99, 100, 101, 110, 111, 1000, 1001, 10000, 10001, 65536, 65537, 1048576, 1048577, 1073741824, 1073741825, 2147483647, 2147483648, 9223372036854775807]
def lots3 : List Lot := [⟨3, 5, 1, 7, 10, 110, 0, 0, 0⟩, ⟨4, 6, 3, 1000, 10, 101, 7, 50, 50⟩, ⟨9, 5, 1, 1, 2147483647, 110, 8, 2147483647, 2147483647⟩]
set_option maxHeartbeats 16000000 in
set_option maxRecDepth 100000 in
theorem smallLaw (w : World) : Ret Try.prog 8 ([] : List Value).toArray w (Out w (.bool true)) := by
  refine enterH Try.func8 rfl rfl Try.ntmps8 rfl (Wd.refl _) ?_
  (repeat' (first | (show VH _ _ _ _ _ _ _; first | refine v_seq ?_ | refine r_seq ?_ | refine v_block ?_) | refine asg evL ?_ | refine s_nil ?_ | refine kh_normal ?_))
  refine v_loop0 [(0,8),(23,82)] (fun i : Nat => [(1, .int .i64 i)]) (fun i => i ≤ 1280) (fun i => 1280 - i) 0 hsL (Nat.zero_le _) ?_
  rintro i g hi
  simp only [sets]
  by_cases hil : i < 1280
  · by_cases h4 : (0 : Int) < (i : Int) % 4
    all_goals
      (repeat' ((fail_if_success (show VH _ _ (.seq (.region 7 _ _) _) _ _ _ _)); first | (show VH _ _ _ _ _ _ _; first | refine v_seq ?_ | refine r_seq ?_ | refine v_block ?_ | refine v_skip ?_ | refine v_cond_t rfl tbL ?_ | refine v_cond_f rfl tbL ?_) | (show SH _ _ _ _ _ (_ :: _) _ _ _; first | refine mov evL ?_ | (show SH _ _ _ _ _ (⟨_, .binOp _ _ _ _ _, _, _, _, _⟩ :: _) _ _ _; first | refine add rfl rfl inL ?_ | refine lss rfl rfl ?_ | refine gtr rfl rfl ?_ | refine rem rfl rfl omL omL ?_ | refine quo rfl rfl omL omL omL ?_) | refine fad rfl ?_ | refine bld rfl rfl ?_ | refine ala rfl (fun b => ?_) | refine stb rfl rfl evL spL rfl rfl (by first | decide | exact Nat.zero_lt_succ _ | exact of_decide_eq_true rfl) kpL ?_ | refine sta rfl rfl rfl spL (by rfl) (by rfl) (by rfl) kpL ?_) | refine s_nil ?_ | refine kh_normal ?_))
      (repeat' (first | (show VH _ _ _ _ _ _ _; first | refine v_seq ?_ | refine r_seq ?_) | refine lba rfl spL (by rfl) ?_))
    · refine bsl (l := [(⟨2, 9, 1, 5, 16, 30, (i : Int) % 4, 16 + (i : Int) / 4 % 8 + (i : Int) / 32 % 8, 16 + (i : Int) / 4 % 8⟩ : Lot)]) rfl rfl (Vals.cons rfl Vals.nil) rfl rfl (by decide) (fun b9 => ?_)
      have hD := fun w hr => does_p (some ⟨b9, 0, none⟩) 1 ⟨5, 3, [⟨2, 9, 1, 5, 16, 30, (i : Int) % 4, 16 + (i : Int) / 4 % 8 + (i : Int) / 32 % 8, 16 + (i : Int) / 4 % 8⟩]⟩ ⟨1, 2, 1 + (i : Int) % 3, 1 + (i : Int) / 32, 0, 0⟩ w (by simp) (by simp) hr
      unfold hv at hD
      simp only [List.length_cons, List.length_nil, Nat.zero_add] at hD
      generalize [(⟨2, 9, 1, 5, 16, 30, (i : Int) % 4, 16 + (i : Int) / 4 % 8 + (i : Int) / 32 % 8, 16 + (i : Int) / 4 % 8⟩ : Lot)] = L0 at hD ⊢
      (repeat' (first | (show VH _ _ _ _ _ _ _; first | refine v_seq ?_ | refine r_seq ?_) | (show SH _ _ _ _ _ (_ :: _) _ _ _; first | refine mov evL ?_ | (show SH _ _ _ _ _ (⟨_, .binOp _ _ _ _ _, _, _, _, _⟩ :: _) _ _ _; first | refine add rfl rfl inL ?_ | refine rem rfl rfl omL omL ?_ | refine quo rfl rfl omL omL omL ?_) | refine lba rfl spL (by rfl) ?_ | (show SH _ _ _ _ _ (⟨_, .call ⟨.value (.func 24), _, _⟩, _, _, _, _⟩ :: _) _ _ _; refine cp (callee := .func 24) rfl (fun w hw => hD w (hw.rd spL)) rfl rfl ?_) | refine bld rfl rfl ?_ | refine ala rfl (fun b => ?_) | refine sta rfl rfl rfl spL (by rfl) (by rfl) (by rfl) kpL ?_) | refine s_nil ?_ | refine kh_normal ?_))
      rintro _ _ ⟨A4, c4, t4, s4, L4, rfl, hL4, hc4, rfl | ⟨rfl, rfl, rfl, rfl⟩⟩
      all_goals
        clear hD
        (repeat' (first | (show VH _ _ _ _ _ _ _; first | refine v_seq ?_ | refine r_seq ?_ | refine v_block ?_ | refine v_skip ?_ | refine v_cond_f rfl tbL ?_) | (show SH _ _ _ _ _ (_ :: _) _ _ _; first | refine mov evL ?_ | refine asg evL ?_ | refine bnot rfl ?_ | refine extr rfl rfl ?_ | refine ala rfl (fun b => ?_) | refine sta rfl rfl rfl spL (by rfl) (by rfl) (by rfl) kpL ?_) | refine s_nil ?_ | refine kh_normal ?_))
        refine v_loop0 [(0,0),(6,8),(65,82)] (fun k : Nat => [(6, .int .i64 k)]) (fun k => k ≤ 12) (fun k => 12 - k) 0 hsL (Nat.zero_le _) ?_
        rintro k g2 hk
        simp only [sets]
        by_cases hkl : k < 12
        · have hD := fun A c L (hl : L.length ≤ 40) (hc : L.length ≤ c) w hr => does_d A c ⟨t4, s4, L⟩ ⟨1, 2, 1 + (k : Int) % 4, 14 + 3 * (k : Int), 0, 0⟩ w hl hc hr
          unfold hv at hD
          simp only at hD
          (repeat' (first | (show VH _ _ _ _ _ _ _; first | refine v_seq ?_ | refine r_seq ?_ | refine v_block ?_ | refine v_skip ?_ | refine v_cond_t rfl tbL ?_) | (show SH _ _ _ _ _ (_ :: _) _ _ _; first | refine mov evL ?_ | (show SH _ _ _ _ _ (⟨_, .binOp _ _ _ _ _, _, _, _, _⟩ :: _) _ _ _; first | refine add rfl rfl inL ?_ | refine lss rfl rfl ?_ | refine mul rfl rfl inL ?_ | refine rem rfl rfl omL omL ?_) | refine lba rfl spL (by rfl) ?_ | (show SH _ _ _ _ _ (⟨_, .call ⟨.value (.func 24), _, _⟩, _, _, _, _⟩ :: _) _ _ _; refine cp (callee := .func 24) rfl (fun w hw => hD _ _ _ hL4 hc4 w (hw.rd spL)) rfl rfl ?_) | refine bld rfl rfl ?_) | refine s_nil ?_ | refine kh_normal ?_))
          rintro _ _ ⟨⟨A5, c5, t5, s5, n5, rfl⟩, rfl⟩
          (repeat' (first | (show VH _ _ _ _ _ _ _; first | refine v_seq ?_ | refine r_seq ?_ | refine v_skip ?_ | refine v_cond_f rfl tbL ?_) | (show SH _ _ _ _ _ (_ :: _) _ _ _; first | refine mov evL ?_ | refine asg evL ?_ | refine add rfl rfl inL ?_ | refine bnot rfl ?_ | refine extr rfl rfl ?_ | refine ala rfl (fun b => ?_) | refine sta rfl rfl rfl spL (by rfl) (by rfl) (by rfl) kpL ?_) | refine s_nil ?_ | refine kh_normal ?_ | refine bh_normal ?_))
          exact ⟨agL, k + 1, hsL, enL, by omega, by show _ - (k + 1) < _ - k; omega⟩
        · (repeat' (first | (show VH _ _ _ _ _ _ _; first | refine v_seq ?_ | refine r_seq ?_ | refine v_exit ?_ | refine v_cond_f rfl tbL ?_) | (show SH _ _ _ _ _ (_ :: _) _ _ _; first | refine mov evL ?_ | refine asg evL ?_ | (show SH _ _ _ _ _ (⟨_, .binOp _ _ _ _ _, _, _, _, _⟩ :: _) _ _ _; first | refine add rfl rfl inL ?_ | refine lss rfl rfl ?_)) | refine s_nil ?_ | refine kh_normal ?_ | refine kh_exit ?_ | refine bh_normal ?_ | refine bh_exit ?_))
          exact ⟨agL, i + 1, hsL, enL, by omega, by show _ - (i + 1) < _ - i; omega⟩
    · refine bsl (l := [(⟨2, 9, 1, 5, 16, 30, 0, 0, 0⟩ : Lot)]) rfl rfl (Vals.cons rfl Vals.nil) rfl rfl (by decide) (fun b9 => ?_)
      have hD := fun w hr => does_p (some ⟨b9, 0, none⟩) 1 ⟨5, 3, [⟨2, 9, 1, 5, 16, 30, 0, 0, 0⟩]⟩ ⟨1, 2, 1 + (i : Int) % 3, 1 + (i : Int) / 32, 0, 0⟩ w (by simp) (by simp) hr
      unfold hv at hD
      simp only [List.length_cons, List.length_nil, Nat.zero_add] at hD
      generalize [(⟨2, 9, 1, 5, 16, 30, 0, 0, 0⟩ : Lot)] = L0 at hD ⊢
      (repeat' (first | (show VH _ _ _ _ _ _ _; first | refine v_seq ?_ | refine r_seq ?_) | (show SH _ _ _ _ _ (_ :: _) _ _ _; first | refine mov evL ?_ | (show SH _ _ _ _ _ (⟨_, .binOp _ _ _ _ _, _, _, _, _⟩ :: _) _ _ _; first | refine add rfl rfl inL ?_ | refine rem rfl rfl omL omL ?_ | refine quo rfl rfl omL omL omL ?_) | refine lba rfl spL (by rfl) ?_ | (show SH _ _ _ _ _ (⟨_, .call ⟨.value (.func 24), _, _⟩, _, _, _, _⟩ :: _) _ _ _; refine cp (callee := .func 24) rfl (fun w hw => hD w (hw.rd spL)) rfl rfl ?_) | refine bld rfl rfl ?_ | refine ala rfl (fun b => ?_) | refine sta rfl rfl rfl spL (by rfl) (by rfl) (by rfl) kpL ?_) | refine s_nil ?_ | refine kh_normal ?_))
      rintro _ _ ⟨A4, c4, t4, s4, L4, rfl, hL4, hc4, rfl | ⟨rfl, rfl, rfl, rfl⟩⟩
      all_goals
        clear hD
        (repeat' (first | (show VH _ _ _ _ _ _ _; first | refine v_seq ?_ | refine r_seq ?_ | refine v_block ?_ | refine v_skip ?_ | refine v_cond_f rfl tbL ?_) | (show SH _ _ _ _ _ (_ :: _) _ _ _; first | refine mov evL ?_ | refine asg evL ?_ | refine bnot rfl ?_ | refine extr rfl rfl ?_ | refine ala rfl (fun b => ?_) | refine sta rfl rfl rfl spL (by rfl) (by rfl) (by rfl) kpL ?_) | refine s_nil ?_ | refine kh_normal ?_))
        refine v_loop0 [(0,0),(6,8),(65,82)] (fun k : Nat => [(6, .int .i64 k)]) (fun k => k ≤ 12) (fun k => 12 - k) 0 hsL (Nat.zero_le _) ?_
        rintro k g2 hk
        simp only [sets]
        by_cases hkl : k < 12
        · have hD := fun A c L (hl : L.length ≤ 40) (hc : L.length ≤ c) w hr => does_d A c ⟨t4, s4, L⟩ ⟨1, 2, 1 + (k : Int) % 4, 14 + 3 * (k : Int), 0, 0⟩ w hl hc hr
          unfold hv at hD
          simp only at hD
          (repeat' (first | (show VH _ _ _ _ _ _ _; first | refine v_seq ?_ | refine r_seq ?_ | refine v_block ?_ | refine v_skip ?_ | refine v_cond_t rfl tbL ?_) | (show SH _ _ _ _ _ (_ :: _) _ _ _; first | refine mov evL ?_ | (show SH _ _ _ _ _ (⟨_, .binOp _ _ _ _ _, _, _, _, _⟩ :: _) _ _ _; first | refine add rfl rfl inL ?_ | refine lss rfl rfl ?_ | refine mul rfl rfl inL ?_ | refine rem rfl rfl omL omL ?_) | refine lba rfl spL (by rfl) ?_ | (show SH _ _ _ _ _ (⟨_, .call ⟨.value (.func 24), _, _⟩, _, _, _, _⟩ :: _) _ _ _; refine cp (callee := .func 24) rfl (fun w hw => hD _ _ _ hL4 hc4 w (hw.rd spL)) rfl rfl ?_) | refine bld rfl rfl ?_) | refine s_nil ?_ | refine kh_normal ?_))
          rintro _ _ ⟨⟨A5, c5, t5, s5, n5, rfl⟩, rfl⟩
          (repeat' (first | (show VH _ _ _ _ _ _ _; first | refine v_seq ?_ | refine r_seq ?_ | refine v_skip ?_ | refine v_cond_f rfl tbL ?_) | (show SH _ _ _ _ _ (_ :: _) _ _ _; first | refine mov evL ?_ | refine asg evL ?_ | refine add rfl rfl inL ?_ | refine bnot rfl ?_ | refine extr rfl rfl ?_ | refine ala rfl (fun b => ?_) | refine sta rfl rfl rfl spL (by rfl) (by rfl) (by rfl) kpL ?_) | refine s_nil ?_ | refine kh_normal ?_ | refine bh_normal ?_))
          exact ⟨agL, k + 1, hsL, enL, by omega, by show _ - (k + 1) < _ - k; omega⟩
        · (repeat' (first | (show VH _ _ _ _ _ _ _; first | refine v_seq ?_ | refine r_seq ?_ | refine v_exit ?_ | refine v_cond_f rfl tbL ?_) | (show SH _ _ _ _ _ (_ :: _) _ _ _; first | refine mov evL ?_ | refine asg evL ?_ | (show SH _ _ _ _ _ (⟨_, .binOp _ _ _ _ _, _, _, _, _⟩ :: _) _ _ _; first | refine add rfl rfl inL ?_ | refine lss rfl rfl ?_)) | refine s_nil ?_ | refine kh_normal ?_ | refine kh_exit ?_ | refine bh_normal ?_ | refine bh_exit ?_))
          exact ⟨agL, i + 1, hsL, enL, by omega, by show _ - (i + 1) < _ - i; omega⟩
  · (repeat' (first | (show VH _ _ _ _ _ _ _; first | refine v_seq ?_ | refine r_seq ?_ | refine v_exit ?_ | refine v_cond_f rfl tbL ?_) | (show SH _ _ _ _ _ (_ :: _) _ _ _; first | refine mov evL ?_ | refine lss rfl rfl ?_ | refine bld rfl rfl ?_) | refine s_nil ?_ | refine kh_normal ?_ | refine kh_exit ?_ | refine bh_exit ?_))
    clear hi hil
    refine bsl (l := lots3) rfl rfl (Vals.cons rfl (Vals.cons rfl (Vals.cons rfl Vals.nil))) rfl rfl (by decide) (fun b8 => ?_)
    obtain ⟨L3, hL3⟩ : ∃ L3, lots3 = L3 := ⟨_, rfl⟩
    have hL3l : L3.length = 3 := by rw [← hL3]; rfl
    rw [hL3]
    clear hL3
    (repeat' (first | (show VH _ _ _ _ _ _ _; first | refine v_seq ?_ | refine r_seq ?_ | refine v_block ?_) | (show SH _ _ _ _ _ (_ :: _) _ _ _; first | refine asg evL ?_ | refine bld rfl rfl ?_ | refine ala rfl (fun b => ?_) | refine sta rfl rfl rfl spL (by rfl) (by rfl) (by rfl) kpL ?_ | refine bsl (α := Int) rfl rfl (by repeat (first | exact Vals.nil | (apply Vals.cons; rfl))) rfl (by rfl) (by decide) (fun b => ?_)) | refine s_nil ?_ | refine kh_normal ?_))
    rename_i b9
    refine VH.ent (G := [bx b9 53 [.int .i64 100, .int .i64 9, .slice (some ⟨b8, 0, none⟩) 3 3], orow 61 (some ⟨b8, 0, none⟩) 3 L3, orow 3 (some ⟨b, 0, none⟩) 28 ends34]) ?_ enL
    obtain ⟨E, hE, hEl⟩ : ∃ E, ends34 = E ∧ E.length = 28 := ⟨_, rfl, rfl⟩
    rw [hE]
    clear hE
    revert b
    intro b10
    refine v_norm [(9,_),(10,_),(11,_)] heL (fun g => ?_)
    refine v_loop0 [(0,0),(11,22),(89,285)] (fun i : Nat => [(11, .int .i64 i)]) (fun i => i ≤ 28) (fun i => 28 - i) 0 hsL (Nat.zero_le _) ?_
    rintro i g1 hi
    simp only [sets]
    by_cases hil : i < 28
    · (repeat' (first | (show VH _ _ _ _ _ _ _; first | refine v_seq ?_ | refine r_seq ?_ | refine v_block ?_ | refine v_skip ?_ | refine v_cond_t rfl tbL ?_) | (show SH _ _ _ _ _ (_ :: _) _ _ _; first | refine mov evL ?_ | refine asg evL ?_ | refine lss rfl rfl ?_ | refine slen rfl ?_) | refine s_nil ?_ | refine kh_normal ?_))
      refine v_loop0 [(0,0),(12,17),(95,155)] (fun k : Nat => [(12, .int .i64 k)]) (fun k => k ≤ 5) (fun k => 5 - k) 0 hsL (Nat.zero_le _) ?_
      rintro k g2 hk
      simp only [sets]
      by_cases hkl : k < 5
      · have hb5 : k < base5.length := hkl
        have hpart := encs_part hb5
        (repeat' (first | (show VH _ _ _ _ _ _ _; first | refine v_seq ?_ | refine r_seq ?_ | refine v_block ?_ | refine v_skip ?_ | refine v_cond_t rfl tbL ?_) | (show SH _ _ _ _ _ (_ :: _) _ _ _; first | refine mov evL ?_ | refine lss rfl rfl ?_ | refine bld rfl rfl ?_) | refine s_nil ?_ | refine kh_normal ?_))
        refine bldV (l := base5) rfl (Vals.cons rfl (Vals.cons rfl (Vals.cons rfl (Vals.cons rfl (Vals.cons rfl Vals.nil))))) rfl rfl ?_
        (repeat' (refine mov evL ?_))
        refine idxA (i := k) rfl rfl rfl hkl hpart rfl ?_
        generalize base5.getD k Flat.dflt = B0 at hpart ⊢
        clear hpart hb5
        obtain ⟨q0, q1, q2, q3, q4, q5⟩ := B0
        (repeat' (first | (show VH _ _ _ _ _ _ _; first | refine v_seq ?_ | refine r_seq ?_ | refine v_block ?_) | (show SH _ _ _ _ _ (_ :: _) _ _ _; first | refine asg evL ?_ | refine ala rfl (fun b => ?_) | refine sta rfl rfl rfl spL (by rfl) (by rfl) (by rfl) kpL ?_) | refine s_nil ?_ | refine kh_normal ?_))
        refine v_normS [(0,0),(12,17),(95,155)] _ agL [(12,_),(13,_),(14,_)] heL (fun g => ?_)
        refine v_loop0 [(0,0),(14,17),(107,155)] (fun j : Nat => [(14, .int .i64 j)]) (fun j => j ≤ 5) (fun j => 5 - j) 0 hsL (Nat.zero_le _) ?_
        rintro j g3 hj
        simp only [sets]
        by_cases hjl : j < 5
        · have hD := fun a b c d e w hr => does_d (some ⟨b8, 0, none⟩) 3 ⟨100, 9, L3⟩ ⟨q0, a, b, c, d, e⟩ w (by show L3.length ≤ 40; omega) (by show L3.length ≤ 3; omega) hr
          unfold hv at hD
          simp only [hL3l] at hD
          obtain rfl | rfl | rfl | rfl | rfl : j = 0 ∨ j = 1 ∨ j = 2 ∨ j = 3 ∨ j = 4 := by omega
          · (repeat' (first | (show VH _ _ _ _ _ _ _; first | refine v_seq ?_ | refine r_seq ?_ | refine v_block ?_ | refine v_skip ?_ | refine v_cond_t rfl tbL ?_) | (show SH _ _ _ _ _ (_ :: _) _ _ _; first | refine mov evL ?_ | refine asg evL ?_ | (show SH _ _ _ _ _ (⟨_, .binOp _ _ _ _ _, _, _, _, _⟩ :: _) _ _ _; first | refine lss rfl rfl ?_ | refine eql rfl rfl ?_) | (show SH _ _ _ _ _ (⟨_, .load _ _, _, _, _, _⟩ :: _) _ _ _; first | refine lin rfl (fun _ _ => rdL) omL ?_ | refine lba rfl spL (by rfl) ?_) | refine ix rfl rfl (by with_reducible rfl) (fun _ _ => rdL) (by rfl) omL omL ?_ | (show SH _ _ _ _ _ (⟨_, .call ⟨.value (.func 24), _, _⟩, _, _, _, _⟩ :: _) _ _ _; refine cp (callee := .func 24) rfl (fun w hw => hD (E.getD i 0) q2 q3 q4 q5 w (hw.rd spL)) rfl rfl ?_) | refine fad rfl ?_ | refine ala rfl (fun b => ?_) | refine stb rfl rfl evL spL rfl rfl (by first | decide | exact Nat.zero_lt_succ _ | exact of_decide_eq_true rfl) kpL ?_ | refine sta rfl rfl rfl spL (by rfl) (by rfl) (by rfl) kpL ?_) | refine s_nil ?_ | refine kh_normal ?_ | refine bh_normal ?_))
            rintro _ _ ⟨⟨A5, c5, t5, s5, n5, rfl⟩, rfl⟩
            (repeat' (first | (show VH _ _ _ _ _ _ _; first | refine v_seq ?_ | refine r_seq ?_ | refine v_skip ?_ | refine v_cond_f rfl tbL ?_) | (show SH _ _ _ _ _ (_ :: _) _ _ _; first | refine mov evL ?_ | refine asg evL ?_ | refine add rfl rfl inL ?_ | refine bnot rfl ?_ | refine extr rfl rfl ?_ | refine ala rfl (fun b => ?_) | refine sta rfl rfl rfl spL (by rfl) (by rfl) (by rfl) kpL ?_) | refine s_nil ?_ | refine kh_normal ?_ | refine bh_normal ?_))
            exact ⟨agL, 1, hsL, enL, by omega, by omega⟩
          · (repeat' (first | (show VH _ _ _ _ _ _ _; first | refine v_seq ?_ | refine r_seq ?_ | refine v_block ?_ | refine v_skip ?_ | refine v_cond_t rfl tbL ?_ | refine v_cond_f rfl tbL ?_) | (show SH _ _ _ _ _ (_ :: _) _ _ _; first | refine mov evL ?_ | refine asg evL ?_ | (show SH _ _ _ _ _ (⟨_, .binOp _ _ _ _ _, _, _, _, _⟩ :: _) _ _ _; first | refine lss rfl rfl ?_ | refine eql rfl rfl ?_) | (show SH _ _ _ _ _ (⟨_, .load _ _, _, _, _, _⟩ :: _) _ _ _; first | refine lin rfl (fun _ _ => rdL) omL ?_ | refine lba rfl spL (by rfl) ?_) | refine ix rfl rfl (by with_reducible rfl) (fun _ _ => rdL) (by rfl) omL omL ?_ | (show SH _ _ _ _ _ (⟨_, .call ⟨.value (.func 24), _, _⟩, _, _, _, _⟩ :: _) _ _ _; refine cp (callee := .func 24) rfl (fun w hw => hD q1 (E.getD i 0) q3 q4 q5 w (hw.rd spL)) rfl rfl ?_) | refine fad rfl ?_ | refine ala rfl (fun b => ?_) | refine stb rfl rfl evL spL rfl rfl (by first | decide | exact Nat.zero_lt_succ _ | exact of_decide_eq_true rfl) kpL ?_ | refine sta rfl rfl rfl spL (by rfl) (by rfl) (by rfl) kpL ?_) | refine s_nil ?_ | refine kh_normal ?_ | refine bh_normal ?_))
            rintro _ _ ⟨⟨A5, c5, t5, s5, n5, rfl⟩, rfl⟩
            (repeat' (first | (show VH _ _ _ _ _ _ _; first | refine v_seq ?_ | refine r_seq ?_ | refine v_skip ?_ | refine v_cond_f rfl tbL ?_) | (show SH _ _ _ _ _ (_ :: _) _ _ _; first | refine mov evL ?_ | refine asg evL ?_ | refine add rfl rfl inL ?_ | refine bnot rfl ?_ | refine extr rfl rfl ?_ | refine ala rfl (fun b => ?_) | refine sta rfl rfl rfl spL (by rfl) (by rfl) (by rfl) kpL ?_) | refine s_nil ?_ | refine kh_normal ?_ | refine bh_normal ?_))
            exact ⟨agL, 2, hsL, enL, by omega, by omega⟩
          · (repeat' (first | (show VH _ _ _ _ _ _ _; first | refine v_seq ?_ | refine r_seq ?_ | refine v_block ?_ | refine v_skip ?_ | refine v_cond_t rfl tbL ?_ | refine v_cond_f rfl tbL ?_) | (show SH _ _ _ _ _ (_ :: _) _ _ _; first | refine mov evL ?_ | refine asg evL ?_ | (show SH _ _ _ _ _ (⟨_, .binOp _ _ _ _ _, _, _, _, _⟩ :: _) _ _ _; first | refine lss rfl rfl ?_ | refine eql rfl rfl ?_) | (show SH _ _ _ _ _ (⟨_, .load _ _, _, _, _, _⟩ :: _) _ _ _; first | refine lin rfl (fun _ _ => rdL) omL ?_ | refine lba rfl spL (by rfl) ?_) | refine ix rfl rfl (by with_reducible rfl) (fun _ _ => rdL) (by rfl) omL omL ?_ | (show SH _ _ _ _ _ (⟨_, .call ⟨.value (.func 24), _, _⟩, _, _, _, _⟩ :: _) _ _ _; refine cp (callee := .func 24) rfl (fun w hw => hD q1 q2 (E.getD i 0) q4 q5 w (hw.rd spL)) rfl rfl ?_) | refine fad rfl ?_ | refine ala rfl (fun b => ?_) | refine stb rfl rfl evL spL rfl rfl (by first | decide | exact Nat.zero_lt_succ _ | exact of_decide_eq_true rfl) kpL ?_ | refine sta rfl rfl rfl spL (by rfl) (by rfl) (by rfl) kpL ?_) | refine s_nil ?_ | refine kh_normal ?_ | refine bh_normal ?_))
            rintro _ _ ⟨⟨A5, c5, t5, s5, n5, rfl⟩, rfl⟩
            (repeat' (first | (show VH _ _ _ _ _ _ _; first | refine v_seq ?_ | refine r_seq ?_ | refine v_skip ?_ | refine v_cond_f rfl tbL ?_) | (show SH _ _ _ _ _ (_ :: _) _ _ _; first | refine mov evL ?_ | refine asg evL ?_ | refine add rfl rfl inL ?_ | refine bnot rfl ?_ | refine extr rfl rfl ?_ | refine ala rfl (fun b => ?_) | refine sta rfl rfl rfl spL (by rfl) (by rfl) (by rfl) kpL ?_) | refine s_nil ?_ | refine kh_normal ?_ | refine bh_normal ?_))
            exact ⟨agL, 3, hsL, enL, by omega, by omega⟩
          · (repeat' (first | (show VH _ _ _ _ _ _ _; first | refine v_seq ?_ | refine r_seq ?_ | refine v_block ?_ | refine v_skip ?_ | refine v_cond_t rfl tbL ?_ | refine v_cond_f rfl tbL ?_) | (show SH _ _ _ _ _ (_ :: _) _ _ _; first | refine mov evL ?_ | refine asg evL ?_ | (show SH _ _ _ _ _ (⟨_, .binOp _ _ _ _ _, _, _, _, _⟩ :: _) _ _ _; first | refine lss rfl rfl ?_ | refine eql rfl rfl ?_) | (show SH _ _ _ _ _ (⟨_, .load _ _, _, _, _, _⟩ :: _) _ _ _; first | refine lin rfl (fun _ _ => rdL) omL ?_ | refine lba rfl spL (by rfl) ?_) | refine ix rfl rfl (by with_reducible rfl) (fun _ _ => rdL) (by rfl) omL omL ?_ | (show SH _ _ _ _ _ (⟨_, .call ⟨.value (.func 24), _, _⟩, _, _, _, _⟩ :: _) _ _ _; refine cp (callee := .func 24) rfl (fun w hw => hD q1 q2 q3 (E.getD i 0) q5 w (hw.rd spL)) rfl rfl ?_) | refine fad rfl ?_ | refine ala rfl (fun b => ?_) | refine stb rfl rfl evL spL rfl rfl (by first | decide | exact Nat.zero_lt_succ _ | exact of_decide_eq_true rfl) kpL ?_ | refine sta rfl rfl rfl spL (by rfl) (by rfl) (by rfl) kpL ?_) | refine s_nil ?_ | refine kh_normal ?_ | refine bh_normal ?_))
            rintro _ _ ⟨⟨A5, c5, t5, s5, n5, rfl⟩, rfl⟩
            (repeat' (first | (show VH _ _ _ _ _ _ _; first | refine v_seq ?_ | refine r_seq ?_ | refine v_skip ?_ | refine v_cond_f rfl tbL ?_) | (show SH _ _ _ _ _ (_ :: _) _ _ _; first | refine mov evL ?_ | refine asg evL ?_ | refine add rfl rfl inL ?_ | refine bnot rfl ?_ | refine extr rfl rfl ?_ | refine ala rfl (fun b => ?_) | refine sta rfl rfl rfl spL (by rfl) (by rfl) (by rfl) kpL ?_) | refine s_nil ?_ | refine kh_normal ?_ | refine bh_normal ?_))
            exact ⟨agL, 4, hsL, enL, by omega, by omega⟩
          · (repeat' (first | (show VH _ _ _ _ _ _ _; first | refine v_seq ?_ | refine r_seq ?_ | refine v_block ?_ | refine v_skip ?_ | refine v_cond_t rfl tbL ?_ | refine v_cond_f rfl tbL ?_) | (show SH _ _ _ _ _ (_ :: _) _ _ _; first | refine mov evL ?_ | refine asg evL ?_ | (show SH _ _ _ _ _ (⟨_, .binOp _ _ _ _ _, _, _, _, _⟩ :: _) _ _ _; first | refine lss rfl rfl ?_ | refine eql rfl rfl ?_) | (show SH _ _ _ _ _ (⟨_, .load _ _, _, _, _, _⟩ :: _) _ _ _; first | refine lin rfl (fun _ _ => rdL) omL ?_ | refine lba rfl spL (by rfl) ?_) | refine ix rfl rfl (by with_reducible rfl) (fun _ _ => rdL) (by rfl) omL omL ?_ | (show SH _ _ _ _ _ (⟨_, .call ⟨.value (.func 24), _, _⟩, _, _, _, _⟩ :: _) _ _ _; refine cp (callee := .func 24) rfl (fun w hw => hD q1 q2 q3 q4 (E.getD i 0) w (hw.rd spL)) rfl rfl ?_) | refine fad rfl ?_ | refine ala rfl (fun b => ?_) | refine stb rfl rfl evL spL rfl rfl (by first | decide | exact Nat.zero_lt_succ _ | exact of_decide_eq_true rfl) kpL ?_ | refine sta rfl rfl rfl spL (by rfl) (by rfl) (by rfl) kpL ?_) | refine s_nil ?_ | refine kh_normal ?_ | refine bh_normal ?_))
            rintro _ _ ⟨⟨A5, c5, t5, s5, n5, rfl⟩, rfl⟩
            (repeat' (first | (show VH _ _ _ _ _ _ _; first | refine v_seq ?_ | refine r_seq ?_ | refine v_skip ?_ | refine v_cond_f rfl tbL ?_) | (show SH _ _ _ _ _ (_ :: _) _ _ _; first | refine mov evL ?_ | refine asg evL ?_ | refine add rfl rfl inL ?_ | refine bnot rfl ?_ | refine extr rfl rfl ?_ | refine ala rfl (fun b => ?_) | refine sta rfl rfl rfl spL (by rfl) (by rfl) (by rfl) kpL ?_) | refine s_nil ?_ | refine kh_normal ?_ | refine bh_normal ?_))
            exact ⟨agL, 5, hsL, enL, by omega, by omega⟩
        · (repeat' (first | (show VH _ _ _ _ _ _ _; first | refine v_seq ?_ | refine r_seq ?_ | refine v_exit ?_ | refine v_cond_f rfl tbL ?_) | (show SH _ _ _ _ _ (_ :: _) _ _ _; first | refine mov evL ?_ | refine asg evL ?_ | (show SH _ _ _ _ _ (⟨_, .binOp _ _ _ _ _, _, _, _, _⟩ :: _) _ _ _; first | refine add rfl rfl inL ?_ | refine lss rfl rfl ?_)) | refine s_nil ?_ | refine kh_normal ?_ | refine kh_exit ?_ | refine bh_normal ?_ | refine bh_exit ?_))
          exact ⟨agL, k + 1, hsL, enL, by omega, by show _ - (k + 1) < _ - k; omega⟩
      · (repeat' (first | (show VH _ _ _ _ _ _ _; first | refine v_seq ?_ | refine r_seq ?_ | refine v_block ?_ | refine v_exit ?_ | refine v_cond_f rfl tbL ?_) | (show SH _ _ _ _ _ (_ :: _) _ _ _; first | refine mov evL ?_ | refine asg evL ?_ | refine lss rfl rfl ?_) | refine s_nil ?_ | refine kh_normal ?_ | refine kh_exit ?_ | refine bh_exit ?_))
        clear hk hkl
        refine v_normS [(0,0),(11,22),(89,285)] _ agL [(11,_),(18,_)] heL (fun g => ?_)
        refine v_loop0 [(0,0),(18,22),(156,285)] (fun j : Nat => [(18, .int .i64 j)]) (fun j => j ≤ 12) (fun j => 12 - j) 0 hsL (Nat.zero_le _) ?_
        rintro j g3 hj
        simp only [sets]
        by_cases hjl : j < 12
        · have hT := fun w hr => taken_spec (some ⟨b8, 0, none⟩) 3 ⟨100, 9, L3⟩ w (by show L3.length ≤ 100000; omega) hr
          have hG := fun A c w hr => given_spec A c ⟨100, 9, L3⟩ w (by show L3.length ≤ 100000; omega) hr
          unfold hv at hT hG
          simp only [hL3l] at hT hG
          (repeat' (first | (show VH _ _ _ _ _ _ _; first | refine v_seq ?_ | refine r_seq ?_ | refine v_block ?_ | refine v_skip ?_ | refine v_cond_t rfl tbL ?_) | (show SH _ _ _ _ _ (_ :: _) _ _ _; first | refine mov evL ?_ | refine lss rfl rfl ?_ | refine lba rfl spL (by rfl) ?_ | (show SH _ _ _ _ _ (⟨_, .call ⟨.value (.func 25), _, _⟩, _, _, _, _⟩ :: _) _ _ _; refine cp (callee := .func 25) rfl (fun w hw => hT w (hw.rd spL)) rfl rfl ?_)) | refine s_nil ?_ | refine kh_normal ?_))
          rintro _ _ ⟨A5, c5, rfl, rfl⟩
          (repeat' ((show SH _ _ _ _ _ (⟨_, .call ⟨.value (.func 22), _, _⟩, _, _, _, _⟩ :: _) _ _ _; refine cp (callee := .func 22) rfl (fun w hw => hG A5 c5 w (hw.rd spL)) rfl rfl ?_)))
          rintro _ _ ⟨A6, c6, rfl, rfl⟩
          (repeat' ((fail_if_success (show VH _ _ (.seq (.region 48 _ _) _) _ _ _ _)); first | (show SH _ _ _ _ _ (_ :: _) _ _ _; first | refine ala rfl (fun b => ?_) | refine sta rfl rfl rfl spL (by rfl) (by rfl) (by rfl) kpL ?_) | refine s_nil ?_ | refine kh_normal ?_))
          refine v_cap (e := 61) (A := A6) (cp := c6) (l := L3) spL (fun hcap => ?_)
          clear hT hG
          have hD : ∀ t s (l : List Lot) (hl : l.length = 3) w (hr : Rd w A6 l), Ret Try.prog 24 [.agg #[.int .i64 t, .int .i64 s, .slice A6 3 c6], .agg (Flat.enc (⟨4, 105, 0, 0, 0, 0⟩ : Do6)).toArray].toArray w (RP w fun v H' => (∃ A' c' t s n, v = .tuple #[.agg #[.int .i64 t, .int .i64 s, .slice A' n c'], .bool true]) ∧ H' = []) := fun t s l hl w hr => by
            have := does_d A6 c6 ⟨t, s, l⟩ ⟨4, 105, 0, 0, 0, 0⟩ w (by show l.length ≤ 40; omega) (by show l.length ≤ c6; omega) hr
            unfold hv at this
            simp only [hl] at this
            exact this
          clear hcap
          refine v_normS [(0,0),(18,22),(156,285)] _ agL [(18,_),(19,_)] heL (fun g => ?_)
          have hset : ∀ x : Lot, (L3.set 1 x).length = 3 := fun x => by rw [List.length_set]; exact hL3l
          obtain rfl | rfl | rfl | rfl | rfl | rfl | rfl | rfl | rfl | rfl | rfl | rfl : j = 0 ∨ j = 1 ∨ j = 2 ∨ j = 3 ∨ j = 4 ∨ j = 5 ∨ j = 6 ∨ j = 7 ∨ j = 8 ∨ j = 9 ∨ j = 10 ∨ j = 11 := by omega
          · (repeat' (first | (show VH _ _ _ _ _ _ _; first | refine v_seq ?_ | refine r_seq ?_ | refine v_block ?_ | refine v_cond_t rfl tbL ?_) | (show SH _ _ _ _ _ (_ :: _) _ _ _; first | refine mov evL ?_ | refine asg evL ?_ | refine eql rfl rfl ?_ | (show SH _ _ _ _ _ (⟨_, .load _ _, _, _, _, _⟩ :: _) _ _ _; first | refine lin rfl (fun _ _ => rdL) omL ?_ | refine lbx rfl spL (by rfl) ?_ | refine lba rfl spL (by rfl) ?_) | (show SH _ _ _ _ _ (⟨_, .indexAddr _ _ _, _, _, _, _⟩ :: _) _ _ _; first | refine ix rfl rfl (by with_reducible rfl) (fun _ _ => rdL) (by rfl) omL omL ?_ | refine ixi rfl rfl (fun _ _ => rdL) (by rfl) omL omL omL ?_) | (show SH _ _ _ _ _ (⟨_, .call ⟨.value (.func 24), _, _⟩, _, _, _, _⟩ :: _) _ _ _; refine cp (callee := .func 24) rfl (fun w hw => hD (E.getD i 0) 9 L3 hL3l w (hw.rd spL)) rfl rfl ?_) | refine fad rfl ?_ | refine bld rfl rfl ?_ | refine stb rfl rfl evL spL rfl rfl (by first | decide | exact Nat.zero_lt_succ _ | exact of_decide_eq_true rfl) kpL ?_) | refine s_nil ?_ | refine kh_normal ?_ | refine bh_normal ?_))
            rintro _ _ ⟨⟨A7, c7, t5, s5, n5, rfl⟩, rfl⟩
            (repeat' (first | (show VH _ _ _ _ _ _ _; first | refine v_seq ?_ | refine r_seq ?_ | refine v_skip ?_ | refine v_cond_f rfl tbL ?_) | (show SH _ _ _ _ _ (_ :: _) _ _ _; first | refine mov evL ?_ | refine asg evL ?_ | refine add rfl rfl inL ?_ | refine bnot rfl ?_ | refine extr rfl rfl ?_ | refine ala rfl (fun b => ?_) | refine sta rfl rfl rfl spL (by rfl) (by rfl) (by rfl) kpL ?_) | refine s_nil ?_ | refine kh_normal ?_ | refine bh_normal ?_))
            exact ⟨agL, 1, hsL, enL, by omega, by omega⟩
          · (repeat' (first | (show VH _ _ _ _ _ _ _; first | refine v_seq ?_ | refine r_seq ?_ | refine v_block ?_ | refine v_cond_t rfl tbL ?_ | refine v_cond_f rfl tbL ?_) | (show SH _ _ _ _ _ (_ :: _) _ _ _; first | refine mov evL ?_ | refine asg evL ?_ | refine eql rfl rfl ?_ | (show SH _ _ _ _ _ (⟨_, .load _ _, _, _, _, _⟩ :: _) _ _ _; first | refine lin rfl (fun _ _ => rdL) omL ?_ | refine lbx rfl spL (by rfl) ?_ | refine lba rfl spL (by rfl) ?_) | (show SH _ _ _ _ _ (⟨_, .indexAddr _ _ _, _, _, _, _⟩ :: _) _ _ _; first | refine ix rfl rfl (by with_reducible rfl) (fun _ _ => rdL) (by rfl) omL omL ?_ | refine ixi rfl rfl (fun _ _ => rdL) (by rfl) omL omL omL ?_) | (show SH _ _ _ _ _ (⟨_, .call ⟨.value (.func 24), _, _⟩, _, _, _, _⟩ :: _) _ _ _; refine cp (callee := .func 24) rfl (fun w hw => hD 100 (E.getD i 0) L3 hL3l w (hw.rd spL)) rfl rfl ?_) | refine fad rfl ?_ | refine bld rfl rfl ?_ | refine stb rfl rfl evL spL rfl rfl (by first | decide | exact Nat.zero_lt_succ _ | exact of_decide_eq_true rfl) kpL ?_) | refine s_nil ?_ | refine kh_normal ?_ | refine bh_normal ?_))
            rintro _ _ ⟨⟨A7, c7, t5, s5, n5, rfl⟩, rfl⟩
            (repeat' (first | (show VH _ _ _ _ _ _ _; first | refine v_seq ?_ | refine r_seq ?_ | refine v_skip ?_ | refine v_cond_f rfl tbL ?_) | (show SH _ _ _ _ _ (_ :: _) _ _ _; first | refine mov evL ?_ | refine asg evL ?_ | refine add rfl rfl inL ?_ | refine bnot rfl ?_ | refine extr rfl rfl ?_ | refine ala rfl (fun b => ?_) | refine sta rfl rfl rfl spL (by rfl) (by rfl) (by rfl) kpL ?_) | refine s_nil ?_ | refine kh_normal ?_ | refine bh_normal ?_))
            exact ⟨agL, 2, hsL, enL, by omega, by omega⟩
          · (repeat' (first | (show VH _ _ _ _ _ _ _; first | refine v_seq ?_ | refine r_seq ?_ | refine v_block ?_ | refine v_cond_t rfl tbL ?_ | refine v_cond_f rfl tbL ?_) | (show SH _ _ _ _ _ (_ :: _) _ _ _; first | refine mov evL ?_ | refine asg evL ?_ | refine eql rfl rfl ?_ | (show SH _ _ _ _ _ (⟨_, .load _ _, _, _, _, _⟩ :: _) _ _ _; first | refine lin rfl (fun _ _ => rdL) omL ?_ | refine lbx rfl spL (by rfl) ?_) | (show SH _ _ _ _ _ (⟨_, .indexAddr _ _ _, _, _, _, _⟩ :: _) _ _ _; first | refine ix rfl rfl (by with_reducible rfl) (fun _ _ => rdL) (by rfl) omL omL ?_ | refine ixi rfl rfl (fun _ _ => rdL) (by rfl) omL omL omL ?_) | refine nlc rfl ?_ | refine fad rfl ?_) | refine s_nil ?_ | refine kh_normal ?_))
            refine stf { L3.getD 1 Flat.dflt with id := E.getD i 0 } rfl rfl rfl spL rfl (by omega) rfl rfl (by decide) rfl trivial ?_
            (repeat' (first | (show VH _ _ _ _ _ _ _; first | refine v_seq ?_ | refine r_seq ?_) | (show SH _ _ _ _ _ (_ :: _) _ _ _; first | refine lba rfl spL (by rfl) ?_ | (show SH _ _ _ _ _ (⟨_, .call ⟨.value (.func 24), _, _⟩, _, _, _, _⟩ :: _) _ _ _; refine cp (callee := .func 24) rfl (fun w hw => hD 100 9 _ (hset _) w (hw.rd spL)) rfl rfl ?_) | refine bld rfl rfl ?_) | refine s_nil ?_ | refine kh_normal ?_ | refine bh_normal ?_))
            rintro _ _ ⟨⟨A7, c7, t5, s5, n5, rfl⟩, rfl⟩
            (repeat' (first | (show VH _ _ _ _ _ _ _; first | refine v_seq ?_ | refine r_seq ?_ | refine v_skip ?_ | refine v_cond_f rfl tbL ?_) | (show SH _ _ _ _ _ (_ :: _) _ _ _; first | refine mov evL ?_ | refine asg evL ?_ | refine add rfl rfl inL ?_ | refine bnot rfl ?_ | refine extr rfl rfl ?_ | refine ala rfl (fun b => ?_) | refine sta rfl rfl rfl spL (by rfl) (by rfl) (by rfl) kpL ?_) | refine s_nil ?_ | refine kh_normal ?_ | refine bh_normal ?_))
            exact ⟨agL, 3, hsL, enL, by omega, by omega⟩
          · (repeat' (first | (show VH _ _ _ _ _ _ _; first | refine v_seq ?_ | refine r_seq ?_ | refine v_block ?_ | refine v_cond_t rfl tbL ?_ | refine v_cond_f rfl tbL ?_) | (show SH _ _ _ _ _ (_ :: _) _ _ _; first | refine mov evL ?_ | refine asg evL ?_ | refine eql rfl rfl ?_ | (show SH _ _ _ _ _ (⟨_, .load _ _, _, _, _, _⟩ :: _) _ _ _; first | refine lin rfl (fun _ _ => rdL) omL ?_ | refine lbx rfl spL (by rfl) ?_) | (show SH _ _ _ _ _ (⟨_, .indexAddr _ _ _, _, _, _, _⟩ :: _) _ _ _; first | refine ix rfl rfl (by with_reducible rfl) (fun _ _ => rdL) (by rfl) omL omL ?_ | refine ixi rfl rfl (fun _ _ => rdL) (by rfl) omL omL omL ?_) | refine nlc rfl ?_ | refine fad rfl ?_) | refine s_nil ?_ | refine kh_normal ?_))
            refine stf { L3.getD 1 Flat.dflt with seller := E.getD i 0 } rfl rfl rfl spL rfl (by omega) rfl rfl (by decide) rfl trivial ?_
            (repeat' (first | (show VH _ _ _ _ _ _ _; first | refine v_seq ?_ | refine r_seq ?_) | (show SH _ _ _ _ _ (_ :: _) _ _ _; first | refine lba rfl spL (by rfl) ?_ | (show SH _ _ _ _ _ (⟨_, .call ⟨.value (.func 24), _, _⟩, _, _, _, _⟩ :: _) _ _ _; refine cp (callee := .func 24) rfl (fun w hw => hD 100 9 _ (hset _) w (hw.rd spL)) rfl rfl ?_) | refine bld rfl rfl ?_) | refine s_nil ?_ | refine kh_normal ?_ | refine bh_normal ?_))
            rintro _ _ ⟨⟨A7, c7, t5, s5, n5, rfl⟩, rfl⟩
            (repeat' (first | (show VH _ _ _ _ _ _ _; first | refine v_seq ?_ | refine r_seq ?_ | refine v_skip ?_ | refine v_cond_f rfl tbL ?_) | (show SH _ _ _ _ _ (_ :: _) _ _ _; first | refine mov evL ?_ | refine asg evL ?_ | refine add rfl rfl inL ?_ | refine bnot rfl ?_ | refine extr rfl rfl ?_ | refine ala rfl (fun b => ?_) | refine sta rfl rfl rfl spL (by rfl) (by rfl) (by rfl) kpL ?_) | refine s_nil ?_ | refine kh_normal ?_ | refine bh_normal ?_))
            exact ⟨agL, 4, hsL, enL, by omega, by omega⟩
          · (repeat' (first | (show VH _ _ _ _ _ _ _; first | refine v_seq ?_ | refine r_seq ?_ | refine v_block ?_ | refine v_cond_t rfl tbL ?_ | refine v_cond_f rfl tbL ?_) | (show SH _ _ _ _ _ (_ :: _) _ _ _; first | refine mov evL ?_ | refine asg evL ?_ | refine eql rfl rfl ?_ | (show SH _ _ _ _ _ (⟨_, .load _ _, _, _, _, _⟩ :: _) _ _ _; first | refine lin rfl (fun _ _ => rdL) omL ?_ | refine lbx rfl spL (by rfl) ?_) | (show SH _ _ _ _ _ (⟨_, .indexAddr _ _ _, _, _, _, _⟩ :: _) _ _ _; first | refine ix rfl rfl (by with_reducible rfl) (fun _ _ => rdL) (by rfl) omL omL ?_ | refine ixi rfl rfl (fun _ _ => rdL) (by rfl) omL omL omL ?_) | refine nlc rfl ?_ | refine fad rfl ?_) | refine s_nil ?_ | refine kh_normal ?_))
            refine stf { L3.getD 1 Flat.dflt with item := E.getD i 0 } rfl rfl rfl spL rfl (by omega) rfl rfl (by decide) rfl trivial ?_
            (repeat' (first | (show VH _ _ _ _ _ _ _; first | refine v_seq ?_ | refine r_seq ?_) | (show SH _ _ _ _ _ (_ :: _) _ _ _; first | refine lba rfl spL (by rfl) ?_ | (show SH _ _ _ _ _ (⟨_, .call ⟨.value (.func 24), _, _⟩, _, _, _, _⟩ :: _) _ _ _; refine cp (callee := .func 24) rfl (fun w hw => hD 100 9 _ (hset _) w (hw.rd spL)) rfl rfl ?_) | refine bld rfl rfl ?_) | refine s_nil ?_ | refine kh_normal ?_ | refine bh_normal ?_))
            rintro _ _ ⟨⟨A7, c7, t5, s5, n5, rfl⟩, rfl⟩
            (repeat' (first | (show VH _ _ _ _ _ _ _; first | refine v_seq ?_ | refine r_seq ?_ | refine v_skip ?_ | refine v_cond_f rfl tbL ?_) | (show SH _ _ _ _ _ (_ :: _) _ _ _; first | refine mov evL ?_ | refine asg evL ?_ | refine add rfl rfl inL ?_ | refine bnot rfl ?_ | refine extr rfl rfl ?_ | refine ala rfl (fun b => ?_) | refine sta rfl rfl rfl spL (by rfl) (by rfl) (by rfl) kpL ?_) | refine s_nil ?_ | refine kh_normal ?_ | refine bh_normal ?_))
            exact ⟨agL, 5, hsL, enL, by omega, by omega⟩
          · (repeat' (first | (show VH _ _ _ _ _ _ _; first | refine v_seq ?_ | refine r_seq ?_ | refine v_block ?_ | refine v_cond_t rfl tbL ?_ | refine v_cond_f rfl tbL ?_) | (show SH _ _ _ _ _ (_ :: _) _ _ _; first | refine mov evL ?_ | refine asg evL ?_ | refine eql rfl rfl ?_ | (show SH _ _ _ _ _ (⟨_, .load _ _, _, _, _, _⟩ :: _) _ _ _; first | refine lin rfl (fun _ _ => rdL) omL ?_ | refine lbx rfl spL (by rfl) ?_) | (show SH _ _ _ _ _ (⟨_, .indexAddr _ _ _, _, _, _, _⟩ :: _) _ _ _; first | refine ix rfl rfl (by with_reducible rfl) (fun _ _ => rdL) (by rfl) omL omL ?_ | refine ixi rfl rfl (fun _ _ => rdL) (by rfl) omL omL omL ?_) | refine nlc rfl ?_ | refine fad rfl ?_) | refine s_nil ?_ | refine kh_normal ?_))
            refine stf { L3.getD 1 Flat.dflt with count := E.getD i 0 } rfl rfl rfl spL rfl (by omega) rfl rfl (by decide) rfl trivial ?_
            (repeat' (first | (show VH _ _ _ _ _ _ _; first | refine v_seq ?_ | refine r_seq ?_) | (show SH _ _ _ _ _ (_ :: _) _ _ _; first | refine lba rfl spL (by rfl) ?_ | (show SH _ _ _ _ _ (⟨_, .call ⟨.value (.func 24), _, _⟩, _, _, _, _⟩ :: _) _ _ _; refine cp (callee := .func 24) rfl (fun w hw => hD 100 9 _ (hset _) w (hw.rd spL)) rfl rfl ?_) | refine bld rfl rfl ?_) | refine s_nil ?_ | refine kh_normal ?_ | refine bh_normal ?_))
            rintro _ _ ⟨⟨A7, c7, t5, s5, n5, rfl⟩, rfl⟩
            (repeat' (first | (show VH _ _ _ _ _ _ _; first | refine v_seq ?_ | refine r_seq ?_ | refine v_skip ?_ | refine v_cond_f rfl tbL ?_) | (show SH _ _ _ _ _ (_ :: _) _ _ _; first | refine mov evL ?_ | refine asg evL ?_ | refine add rfl rfl inL ?_ | refine bnot rfl ?_ | refine extr rfl rfl ?_ | refine ala rfl (fun b => ?_) | refine sta rfl rfl rfl spL (by rfl) (by rfl) (by rfl) kpL ?_) | refine s_nil ?_ | refine kh_normal ?_ | refine bh_normal ?_))
            exact ⟨agL, 6, hsL, enL, by omega, by omega⟩
          · (repeat' (first | (show VH _ _ _ _ _ _ _; first | refine v_seq ?_ | refine r_seq ?_ | refine v_block ?_ | refine v_cond_t rfl tbL ?_ | refine v_cond_f rfl tbL ?_) | (show SH _ _ _ _ _ (_ :: _) _ _ _; first | refine mov evL ?_ | refine asg evL ?_ | refine eql rfl rfl ?_ | (show SH _ _ _ _ _ (⟨_, .load _ _, _, _, _, _⟩ :: _) _ _ _; first | refine lin rfl (fun _ _ => rdL) omL ?_ | refine lbx rfl spL (by rfl) ?_) | (show SH _ _ _ _ _ (⟨_, .indexAddr _ _ _, _, _, _, _⟩ :: _) _ _ _; first | refine ix rfl rfl (by with_reducible rfl) (fun _ _ => rdL) (by rfl) omL omL ?_ | refine ixi rfl rfl (fun _ _ => rdL) (by rfl) omL omL omL ?_) | refine nlc rfl ?_ | refine fad rfl ?_) | refine s_nil ?_ | refine kh_normal ?_))
            refine stf { L3.getD 1 Flat.dflt with reserve := E.getD i 0 } rfl rfl rfl spL rfl (by omega) rfl rfl (by decide) rfl trivial ?_
            (repeat' (first | (show VH _ _ _ _ _ _ _; first | refine v_seq ?_ | refine r_seq ?_) | (show SH _ _ _ _ _ (_ :: _) _ _ _; first | refine lba rfl spL (by rfl) ?_ | (show SH _ _ _ _ _ (⟨_, .call ⟨.value (.func 24), _, _⟩, _, _, _, _⟩ :: _) _ _ _; refine cp (callee := .func 24) rfl (fun w hw => hD 100 9 _ (hset _) w (hw.rd spL)) rfl rfl ?_) | refine bld rfl rfl ?_) | refine s_nil ?_ | refine kh_normal ?_ | refine bh_normal ?_))
            rintro _ _ ⟨⟨A7, c7, t5, s5, n5, rfl⟩, rfl⟩
            (repeat' (first | (show VH _ _ _ _ _ _ _; first | refine v_seq ?_ | refine r_seq ?_ | refine v_skip ?_ | refine v_cond_f rfl tbL ?_) | (show SH _ _ _ _ _ (_ :: _) _ _ _; first | refine mov evL ?_ | refine asg evL ?_ | refine add rfl rfl inL ?_ | refine bnot rfl ?_ | refine extr rfl rfl ?_ | refine ala rfl (fun b => ?_) | refine sta rfl rfl rfl spL (by rfl) (by rfl) (by rfl) kpL ?_) | refine s_nil ?_ | refine kh_normal ?_ | refine bh_normal ?_))
            exact ⟨agL, 7, hsL, enL, by omega, by omega⟩
          · (repeat' (first | (show VH _ _ _ _ _ _ _; first | refine v_seq ?_ | refine r_seq ?_ | refine v_block ?_ | refine v_cond_t rfl tbL ?_ | refine v_cond_f rfl tbL ?_) | (show SH _ _ _ _ _ (_ :: _) _ _ _; first | refine mov evL ?_ | refine asg evL ?_ | refine eql rfl rfl ?_ | (show SH _ _ _ _ _ (⟨_, .load _ _, _, _, _, _⟩ :: _) _ _ _; first | refine lin rfl (fun _ _ => rdL) omL ?_ | refine lbx rfl spL (by rfl) ?_) | (show SH _ _ _ _ _ (⟨_, .indexAddr _ _ _, _, _, _, _⟩ :: _) _ _ _; first | refine ix rfl rfl (by with_reducible rfl) (fun _ _ => rdL) (by rfl) omL omL ?_ | refine ixi rfl rfl (fun _ _ => rdL) (by rfl) omL omL omL ?_) | refine nlc rfl ?_ | refine fad rfl ?_) | refine s_nil ?_ | refine kh_normal ?_))
            refine stf { L3.getD 1 Flat.dflt with till := E.getD i 0 } rfl rfl rfl spL rfl (by omega) rfl rfl (by decide) rfl trivial ?_
            (repeat' (first | (show VH _ _ _ _ _ _ _; first | refine v_seq ?_ | refine r_seq ?_) | (show SH _ _ _ _ _ (_ :: _) _ _ _; first | refine lba rfl spL (by rfl) ?_ | (show SH _ _ _ _ _ (⟨_, .call ⟨.value (.func 24), _, _⟩, _, _, _, _⟩ :: _) _ _ _; refine cp (callee := .func 24) rfl (fun w hw => hD 100 9 _ (hset _) w (hw.rd spL)) rfl rfl ?_) | refine bld rfl rfl ?_) | refine s_nil ?_ | refine kh_normal ?_ | refine bh_normal ?_))
            rintro _ _ ⟨⟨A7, c7, t5, s5, n5, rfl⟩, rfl⟩
            (repeat' (first | (show VH _ _ _ _ _ _ _; first | refine v_seq ?_ | refine r_seq ?_ | refine v_skip ?_ | refine v_cond_f rfl tbL ?_) | (show SH _ _ _ _ _ (_ :: _) _ _ _; first | refine mov evL ?_ | refine asg evL ?_ | refine add rfl rfl inL ?_ | refine bnot rfl ?_ | refine extr rfl rfl ?_ | refine ala rfl (fun b => ?_) | refine sta rfl rfl rfl spL (by rfl) (by rfl) (by rfl) kpL ?_) | refine s_nil ?_ | refine kh_normal ?_ | refine bh_normal ?_))
            exact ⟨agL, 8, hsL, enL, by omega, by omega⟩
          · (repeat' (first | (show VH _ _ _ _ _ _ _; first | refine v_seq ?_ | refine r_seq ?_ | refine v_block ?_ | refine v_cond_t rfl tbL ?_ | refine v_cond_f rfl tbL ?_) | (show SH _ _ _ _ _ (_ :: _) _ _ _; first | refine mov evL ?_ | refine asg evL ?_ | refine eql rfl rfl ?_ | (show SH _ _ _ _ _ (⟨_, .load _ _, _, _, _, _⟩ :: _) _ _ _; first | refine lin rfl (fun _ _ => rdL) omL ?_ | refine lbx rfl spL (by rfl) ?_) | (show SH _ _ _ _ _ (⟨_, .indexAddr _ _ _, _, _, _, _⟩ :: _) _ _ _; first | refine ix rfl rfl (by with_reducible rfl) (fun _ _ => rdL) (by rfl) omL omL ?_ | refine ixi rfl rfl (fun _ _ => rdL) (by rfl) omL omL omL ?_) | refine nlc rfl ?_ | refine fad rfl ?_) | refine s_nil ?_ | refine kh_normal ?_))
            refine stf { L3.getD 1 Flat.dflt with leader := E.getD i 0 } rfl rfl rfl spL rfl (by omega) rfl rfl (by decide) rfl trivial ?_
            (repeat' (first | (show VH _ _ _ _ _ _ _; first | refine v_seq ?_ | refine r_seq ?_) | (show SH _ _ _ _ _ (_ :: _) _ _ _; first | refine lba rfl spL (by rfl) ?_ | (show SH _ _ _ _ _ (⟨_, .call ⟨.value (.func 24), _, _⟩, _, _, _, _⟩ :: _) _ _ _; refine cp (callee := .func 24) rfl (fun w hw => hD 100 9 _ (hset _) w (hw.rd spL)) rfl rfl ?_) | refine bld rfl rfl ?_) | refine s_nil ?_ | refine kh_normal ?_ | refine bh_normal ?_))
            rintro _ _ ⟨⟨A7, c7, t5, s5, n5, rfl⟩, rfl⟩
            (repeat' (first | (show VH _ _ _ _ _ _ _; first | refine v_seq ?_ | refine r_seq ?_ | refine v_skip ?_ | refine v_cond_f rfl tbL ?_) | (show SH _ _ _ _ _ (_ :: _) _ _ _; first | refine mov evL ?_ | refine asg evL ?_ | refine add rfl rfl inL ?_ | refine bnot rfl ?_ | refine extr rfl rfl ?_ | refine ala rfl (fun b => ?_) | refine sta rfl rfl rfl spL (by rfl) (by rfl) (by rfl) kpL ?_) | refine s_nil ?_ | refine kh_normal ?_ | refine bh_normal ?_))
            exact ⟨agL, 9, hsL, enL, by omega, by omega⟩
          · (repeat' (first | (show VH _ _ _ _ _ _ _; first | refine v_seq ?_ | refine r_seq ?_ | refine v_block ?_ | refine v_cond_t rfl tbL ?_ | refine v_cond_f rfl tbL ?_) | (show SH _ _ _ _ _ (_ :: _) _ _ _; first | refine mov evL ?_ | refine asg evL ?_ | refine eql rfl rfl ?_ | (show SH _ _ _ _ _ (⟨_, .load _ _, _, _, _, _⟩ :: _) _ _ _; first | refine lin rfl (fun _ _ => rdL) omL ?_ | refine lbx rfl spL (by rfl) ?_) | (show SH _ _ _ _ _ (⟨_, .indexAddr _ _ _, _, _, _, _⟩ :: _) _ _ _; first | refine ix rfl rfl (by with_reducible rfl) (fun _ _ => rdL) (by rfl) omL omL ?_ | refine ixi rfl rfl (fun _ _ => rdL) (by rfl) omL omL omL ?_) | refine nlc rfl ?_ | refine fad rfl ?_) | refine s_nil ?_ | refine kh_normal ?_))
            refine stf { L3.getD 1 Flat.dflt with most := E.getD i 0 } rfl rfl rfl spL rfl (by omega) rfl rfl (by decide) rfl trivial ?_
            (repeat' (first | (show VH _ _ _ _ _ _ _; first | refine v_seq ?_ | refine r_seq ?_) | (show SH _ _ _ _ _ (_ :: _) _ _ _; first | refine lba rfl spL (by rfl) ?_ | (show SH _ _ _ _ _ (⟨_, .call ⟨.value (.func 24), _, _⟩, _, _, _, _⟩ :: _) _ _ _; refine cp (callee := .func 24) rfl (fun w hw => hD 100 9 _ (hset _) w (hw.rd spL)) rfl rfl ?_) | refine bld rfl rfl ?_) | refine s_nil ?_ | refine kh_normal ?_ | refine bh_normal ?_))
            rintro _ _ ⟨⟨A7, c7, t5, s5, n5, rfl⟩, rfl⟩
            (repeat' (first | (show VH _ _ _ _ _ _ _; first | refine v_seq ?_ | refine r_seq ?_ | refine v_skip ?_ | refine v_cond_f rfl tbL ?_) | (show SH _ _ _ _ _ (_ :: _) _ _ _; first | refine mov evL ?_ | refine asg evL ?_ | refine add rfl rfl inL ?_ | refine bnot rfl ?_ | refine extr rfl rfl ?_ | refine ala rfl (fun b => ?_) | refine sta rfl rfl rfl spL (by rfl) (by rfl) (by rfl) kpL ?_) | refine s_nil ?_ | refine kh_normal ?_ | refine bh_normal ?_))
            exact ⟨agL, 10, hsL, enL, by omega, by omega⟩
          · (repeat' (first | (show VH _ _ _ _ _ _ _; first | refine v_seq ?_ | refine r_seq ?_ | refine v_block ?_ | refine v_cond_t rfl tbL ?_ | refine v_cond_f rfl tbL ?_) | (show SH _ _ _ _ _ (_ :: _) _ _ _; first | refine mov evL ?_ | refine asg evL ?_ | refine eql rfl rfl ?_ | (show SH _ _ _ _ _ (⟨_, .load _ _, _, _, _, _⟩ :: _) _ _ _; first | refine lin rfl (fun _ _ => rdL) omL ?_ | refine lbx rfl spL (by rfl) ?_) | (show SH _ _ _ _ _ (⟨_, .indexAddr _ _ _, _, _, _, _⟩ :: _) _ _ _; first | refine ix rfl rfl (by with_reducible rfl) (fun _ _ => rdL) (by rfl) omL omL ?_ | refine ixi rfl rfl (fun _ _ => rdL) (by rfl) omL omL omL ?_) | refine nlc rfl ?_ | refine fad rfl ?_) | refine s_nil ?_ | refine kh_normal ?_))
            refine stf { L3.getD 1 Flat.dflt with price := E.getD i 0 } rfl rfl rfl spL rfl (by omega) rfl rfl (by decide) rfl trivial ?_
            (repeat' (first | (show VH _ _ _ _ _ _ _; first | refine v_seq ?_ | refine r_seq ?_) | (show SH _ _ _ _ _ (_ :: _) _ _ _; first | refine lba rfl spL (by rfl) ?_ | (show SH _ _ _ _ _ (⟨_, .call ⟨.value (.func 24), _, _⟩, _, _, _, _⟩ :: _) _ _ _; refine cp (callee := .func 24) rfl (fun w hw => hD 100 9 _ (hset _) w (hw.rd spL)) rfl rfl ?_) | refine bld rfl rfl ?_) | refine s_nil ?_ | refine kh_normal ?_ | refine bh_normal ?_))
            rintro _ _ ⟨⟨A7, c7, t5, s5, n5, rfl⟩, rfl⟩
            (repeat' (first | (show VH _ _ _ _ _ _ _; first | refine v_seq ?_ | refine r_seq ?_ | refine v_skip ?_ | refine v_cond_f rfl tbL ?_) | (show SH _ _ _ _ _ (_ :: _) _ _ _; first | refine mov evL ?_ | refine asg evL ?_ | refine add rfl rfl inL ?_ | refine bnot rfl ?_ | refine extr rfl rfl ?_ | refine ala rfl (fun b => ?_) | refine sta rfl rfl rfl spL (by rfl) (by rfl) (by rfl) kpL ?_) | refine s_nil ?_ | refine kh_normal ?_ | refine bh_normal ?_))
            exact ⟨agL, 11, hsL, enL, by omega, by omega⟩
          · (repeat' (first | (show VH _ _ _ _ _ _ _; first | refine v_seq ?_ | refine r_seq ?_ | refine v_block ?_ | refine v_cond_t rfl tbL ?_ | refine v_cond_f rfl tbL ?_) | (show SH _ _ _ _ _ (_ :: _) _ _ _; first | refine mov evL ?_ | refine asg evL ?_ | (show SH _ _ _ _ _ (⟨_, .binOp _ _ _ _ _, _, _, _, _⟩ :: _) _ _ _; first | refine eql rfl rfl ?_ | refine rem rfl rfl omL omL ?_ | refine quo rfl rfl omL omL omL ?_) | refine lbx rfl spL (by rfl) ?_ | refine ixi rfl rfl (fun _ _ => rdL) (by rfl) omL omL omL ?_ | refine nlc rfl ?_ | refine fad rfl ?_) | refine s_nil ?_ | refine kh_normal ?_))
            obtain ⟨x1, hx1⟩ : ∃ x1 : Lot, Flat.enc x1 = (Flat.enc (L3.getD 1 Flat.dflt)).set 6 (.int .i64 0) := ⟨{ L3.getD 1 Flat.dflt with leader := 0 }, rfl⟩
            refine stf x1 rfl rfl rfl spL rfl (by omega) rfl rfl (by decide) hx1 trivial ?_
            obtain ⟨L4, hL4⟩ : ∃ L4, L3.set (Int.toNat 1) x1 = L4 := ⟨_, rfl⟩
            have hL4l : L4.length = 3 := by rw [← hL4, List.length_set]; exact hL3l
            rw [hL4]
            clear hL4 hx1
            (repeat' ((show SH _ _ _ _ _ (_ :: _) _ _ _; first | refine nlc rfl ?_ | refine fad rfl ?_)))
            obtain ⟨x2, hx2⟩ : ∃ x2 : Lot, Flat.enc x2 = (Flat.enc (L4.getD 1 Flat.dflt)).set 8 (.int .i64 ((i : Int) % 2)) := ⟨{ L4.getD 1 Flat.dflt with price := (i : Int) % 2 }, rfl⟩
            refine stf x2 rfl rfl rfl spL rfl (by omega) rfl rfl (by decide) hx2 trivial ?_
            obtain ⟨L5, hL5⟩ : ∃ L5, L4.set (Int.toNat 1) x2 = L5 := ⟨_, rfl⟩
            have hL5l : L5.length = 3 := by rw [← hL5, List.length_set]; exact hL4l
            rw [hL5]
            clear hL5 hx2
            have hset5 : ∀ x : Lot, (L5.set 1 x).length = 3 := fun x => by rw [List.length_set]; exact hL5l
            (repeat' ((show SH _ _ _ _ _ (_ :: _) _ _ _; first | refine nlc rfl ?_ | refine fad rfl ?_)))
            refine stf { L5.getD 1 Flat.dflt with most := (i : Int) / 2 % 2 } rfl rfl rfl spL rfl (by omega) rfl rfl (by decide) rfl trivial ?_
            (repeat' (first | (show VH _ _ _ _ _ _ _; first | refine v_seq ?_ | refine r_seq ?_) | (show SH _ _ _ _ _ (_ :: _) _ _ _; first | refine lba rfl spL (by rfl) ?_ | (show SH _ _ _ _ _ (⟨_, .call ⟨.value (.func 24), _, _⟩, _, _, _, _⟩ :: _) _ _ _; refine cp (callee := .func 24) rfl (fun w hw => hD 100 9 _ (hset5 _) w (hw.rd spL)) rfl rfl ?_) | refine bld rfl rfl ?_) | refine s_nil ?_ | refine kh_normal ?_ | refine bh_normal ?_))
            rintro _ _ ⟨⟨A7, c7, t5, s5, n5, rfl⟩, rfl⟩
            (repeat' (first | (show VH _ _ _ _ _ _ _; first | refine v_seq ?_ | refine r_seq ?_ | refine v_skip ?_ | refine v_cond_f rfl tbL ?_) | (show SH _ _ _ _ _ (_ :: _) _ _ _; first | refine mov evL ?_ | refine asg evL ?_ | refine add rfl rfl inL ?_ | refine bnot rfl ?_ | refine extr rfl rfl ?_ | refine ala rfl (fun b => ?_) | refine sta rfl rfl rfl spL (by rfl) (by rfl) (by rfl) kpL ?_) | refine s_nil ?_ | refine kh_normal ?_ | refine bh_normal ?_))
            exact ⟨agL, 12, hsL, enL, by omega, by omega⟩
        · (repeat' (first | (show VH _ _ _ _ _ _ _; first | refine v_seq ?_ | refine r_seq ?_ | refine v_exit ?_ | refine v_cond_f rfl tbL ?_) | (show SH _ _ _ _ _ (_ :: _) _ _ _; first | refine mov evL ?_ | refine asg evL ?_ | (show SH _ _ _ _ _ (⟨_, .binOp _ _ _ _ _, _, _, _, _⟩ :: _) _ _ _; first | refine add rfl rfl inL ?_ | refine lss rfl rfl ?_)) | refine s_nil ?_ | refine kh_normal ?_ | refine kh_exit ?_ | refine bh_normal ?_ | refine bh_exit ?_))
          exact ⟨agL, i + 1, hsL, enL, by omega, by show _ - (i + 1) < _ - i; omega⟩
    · (repeat' (first | (show VH _ _ _ _ _ _ _; first | refine v_seq ?_ | refine r_seq ?_ | refine v_ret ?_ | refine v_exit ?_ | refine v_cond_f rfl tbL ?_) | (show SH _ _ _ _ _ (_ :: _) _ _ _; first | (refine gif rfl rfl ?_; refine giTT tbL ?_) | refine mov evL ?_ | refine asg evL ?_ | refine lss rfl rfl ?_ | refine slen rfl ?_ | (show SH _ _ _ _ _ (⟨_, .call ⟨.value (.func 26), _, _⟩, _, _, _, _⟩ :: _) _ _ _; refine cl (callee := .func 26) rfl (fun w hw => full_spec w) rfl rfl ?_) | (show SH _ _ _ _ _ (⟨_, .call ⟨.value (.func 12), _, _⟩, _, _, _, _⟩ :: _) _ _ _; refine cl (callee := .func 12) rfl (fun w hw => awake_spec w) rfl rfl ?_) | refine pkt rfl tbL evL ?_) | refine s_nil ?_ | refine kh_normal ?_ | refine kh_exit ?_ | refine bh_exit ?_))
      exact rh1 rfl rfl ⟨rfl, rfl⟩ (ent_nil _)
end Go.Proofs.Ytehjdbgijibmcaa

/- AuctionSmall answers true, whatever the input; no condition. -/
namespace Go.Proofs.Ytehjdbgijibmcaa
open Go.Fw Go.RowKit Go.ChangeShapes Go.WideShapes Go.ChangeAt
set_option maxRecDepth 100000 in
theorem small_lifted (os : Os) (started : os.Started) (H : Type) (enc : TypeId × Value → H) :
    ReturnsInHanded {} Try.checked os 8 .any (Rows.auctionSmallSpec.pre6 enc Try.prog Try.f8 Rows.auctionSmallRow.domain false) (Rows.auctionSmallSpec.post enc Try.prog Try.f8 false true false false) := by
  refine returnsInHanded_of_change (C := Try.checked) ownK started (by kernel_rfl) Try.func8
    (ChangeSpec.witness6 (enc := enc) (C := Try.checked) false ⟨#[], #[], []⟩ 8 (by kernel_rfl) (by kernel_rfl) (by kernel_rfl) (by kernel_rfl)) ?_
  intro W base args ds gs before hval0 hW _ _
  have hval : ∀ (j : Nat) t v, Try.f8.params[j]? = some t → args[j]? = some v → Value.okWide Try.prog W .any base t v := hval0
  have hW' := hW
  obtain ⟨p, q, hA0, hV, rfl, _, _⟩ := hW
  have hA : DataW.TrodAll enc Try.prog W 0 (fun _ => true) true Try.f8.params.toList args.toList ds p := hA0
  rw [Try.params8] at hA
  obtain ⟨h1, rfl, rfl⟩ := trodAll_nil hA
  obtain rfl : args = #[] := by cases args; simp_all
  refine ((smallLaw W).2).mono fun e W' ⟨v, he, hR, ⟨hv, _⟩, hext⟩ => ?_
  subst hv
  exact ⟨_, he, law_post (P := Try.prog) (tb := 4) laidK (by kernel_rfl) rfl Try.underlying4 rfl ⟨rfl, rfl, rfl⟩ hW' hext.ext⟩
theorem small_holds : Rows.AuctionSmallSaid :=
  OpenClaim.holds_of_wide 8 Try.f8 rfl rfl rfl rfl rfl rfl rfl ⟨rfl, rfl, rfl, rfl, rfl⟩ rfl rfl rfl rfl rfl (by kernel_rfl) Try.func8 (by kernel_rfl)
    (of_decide_eq_true (by kernel_rfl)) (by unfold Func.isWrapper; first | (rw [if_pos (by decide +kernel)]; kernel_rfl) | (rw [if_neg (by decide +kernel)]; exact ⟨rfl, rfl⟩))
    (fun os started H enc _ => small_lifted os started H enc)
end Go.Proofs.Ytehjdbgijibmcaa

