/- A house is copied, into the reference's types and back. -/
import Derived.Test.YtehjdbgijibmcaaZGe
set_option linter.unusedSimpArgs false
set_option linter.unusedVariables false
namespace Go.Proofs.Ytehjdbgijibmcaa
open Go.Fw Go.RowKit
set_option maxHeartbeats 1000000 in
set_option maxRecDepth 100000 in
theorem given_spec (A : Option Addr) (c0 : Nat) (h : House) (w : World) (hl : h.lots.length ≤ 100000) (hr : Rd w A h.lots) :
    Ret Try.prog 22 [hv A c0 h].toArray w (RP w fun v H' => ∃ A' c', v = hv A' c' h ∧ H' = [orow 61 A' c' h.lots]) := by
  obtain ⟨tick, last, lots⟩ := h
  unfold hv
  simp only at hl hr ⊢
  refine enterH Try.func22 rfl rfl Try.ntmps22 rfl (Wd.refl _) ?_
  (repeat' (first | (show VH _ _ _ _ _ _ _; first | refine v_seq ?_ | refine r_seq ?_) | (show SH _ _ _ _ _ (_ :: _) _ _ _; first | refine asg evL ?_ | refine lbx rfl spL (by rfl) ?_ | refine fad rfl ?_ | refine bld rfl rfl ?_ | refine ala rfl (fun b => ?_) | refine bxx rfl evL rfl (fun b => ?_) | refine sta rfl rfl rfl spL (by rfl) (by rfl) (by rfl) kpL ?_) | refine s_nil ?_ | refine kh_normal ?_))
  rename_i b1 b2
  refine v_norm [(1,_),(2,_),(3,_),(4,_)] heL (fun g => ?_)
  (repeat' (refine v_block ?_))
  refine v_loop [(4,4),(10,26)] (fun y : Nat × (Option Addr × Nat) => [(4, .int .i64 y.1)]) (fun y => [bx b 53 [.int .i64 tick, .int .i64 last, .slice y.2.1 y.1 y.2.2], orow 61 y.2.1 y.2.2 (lots.take y.1), bx b1 26 [.int .i64 tick, .int .i64 last, .slice A lots.length c0], bx b2 53 [.int .i64 0, .int .i64 0, .slice none 0 0]])
    (fun y => y.1 ≤ lots.length) (fun y => lots.length - y.1) (0, none, 0) hsL (ent_cons spL (ent_nilrow (ent_cons spL (ent_cons spL (ent_nil _))))) (Nat.zero_le _) ?_
  rintro ⟨k, A1, c1⟩ g hk
  simp only [sets]
  simp only at hk
  have hlk : (lots.take k).length = k := by rw [List.length_take]; omega
  by_cases hkl : k < lots.length
  · have hts := take_snoc (d := Flat.dflt) hkl
    have hlk1 : (lots.take (k + 1)).length = k + 1 := by rw [List.length_take]; omega
    (repeat' (first | (show VH _ _ _ _ _ _ _; first | refine v_seq ?_ | refine r_seq ?_ | refine v_block ?_ | refine v_skip ?_ | refine v_cond_t rfl tbL ?_) | (show SH _ _ _ _ _ (_ :: _) _ _ _; first | refine mov evL ?_ | refine lss rfl rfl ?_ | refine lbx rfl spL (by rfl) ?_ | refine slen rfl ?_ | refine fad rfl ?_) | refine s_nil ?_ | refine kh_normal ?_))
    refine r_heldT [bx b1 26 _] (tr [(0, true), (2, true), (3, true), (4, true), (5, true), (6, true)] (.fork 1 (tr [(7, false), (8, false), (9, false), (10, false)] .nil) 7 (tr [(1, false), (8, false), (9, false), (10, false)] .nil))) hmix (by kernel_rfl) enL ?_
    (repeat' ((show SH _ _ _ _ _ (_ :: _) _ _ _; first | refine mov evL ?_ | (show SH _ _ _ _ _ (⟨_, .load _ _, _, _, _, _⟩ :: _) _ _ _; first | refine lbx rfl spL (by rfl) ?_ | refine lra rfl (fun _ _ => rdL) (by rfl) omL ?_) | refine ix rfl rfl (by with_reducible rfl) (fun _ _ => rdL) (by rfl) omL omL ?_ | refine fad rfl ?_)))
    refine s_fork ?_ ?_
    all_goals
      (repeat' (refine lbx rfl spL (by rfl) ?_))
      refine bsl (l := [lots.getD k Flat.dflt]) rfl rfl (Vals.cons rfl Vals.nil) rfl rfl (by decide) (fun b9 => ?_)
      (repeat' (refine lbx rfl spL (by rfl) ?_))
      refine app (l := lots.take k) (l2 := [lots.getD k Flat.dflt]) rfl rfl rfl spL (fun w hw => hw.rd spL) rfl hlk.symm rfl (by simp only [List.length_cons, List.length_nil]; omega) (by simp only [List.length_cons, List.length_nil]; omega) (fun A4 c4 => ⟨enL, ?_⟩)
      rw [← hts, hlk1]
      (repeat' (first | refine r_seq ?_ | (show SH _ _ _ _ _ (_ :: _) _ _ _; first | refine mov evL ?_ | refine asg evL ?_ | refine add rfl rfl inL ?_ | refine fad rfl ?_ | refine stb rfl rfl evL spL rfl rfl (by first | decide | exact Nat.zero_lt_succ _ | exact of_decide_eq_true rfl) kpL ?_) | refine s_nil ?_ | refine kh_normal ?_ | refine bh_normal ?_))
      exact ⟨agL, (k + 1, A4, c4), hsL, enL, hkl, by show _ - (k + 1) < _ - k; omega⟩
  · have hke : k = lots.length := by omega
    subst hke
    rw [List.take_length]
    (repeat' (first | (show VH _ _ _ _ _ _ _; first | refine v_seq ?_ | refine r_seq ?_ | refine v_ret ?_ | refine v_exit ?_ | refine v_cond_f rfl tbL ?_) | (show SH _ _ _ _ _ (_ :: _) _ _ _; first | refine mov evL ?_ | refine lss rfl rfl ?_ | (show SH _ _ _ _ _ (⟨_, .load _ _, _, _, _, _⟩ :: _) _ _ _; first | refine lbx rfl spL (by rfl) ?_ | refine lba rfl spL (by rfl) ?_) | refine slen rfl ?_ | refine fad rfl ?_ | refine sta rfl rfl rfl spL (by rfl) (by rfl) (by rfl) kpL ?_) | refine s_nil ?_ | refine kh_normal ?_ | refine kh_exit ?_ | refine bh_exit ?_))
    exact rhC rfl rfl rfl (fun w hw => loadVar_bx hw spL (by rfl)) ⟨A1, c1, rfl, rfl⟩ enL
set_option maxHeartbeats 1000000 in
set_option maxRecDepth 100000 in
theorem taken_spec (A : Option Addr) (c0 : Nat) (h : House) (w : World) (hl : h.lots.length ≤ 100000) (hr : Rd w A h.lots) :
    Ret Try.prog 25 [hv A c0 h].toArray w (RP w fun v H' => ∃ A' c', v = hv A' c' h ∧ H' = [orow 38 A' c' h.lots]) := by
  obtain ⟨tick, last, lots⟩ := h
  unfold hv
  simp only at hl hr ⊢
  refine enterH Try.func25 rfl rfl Try.ntmps25 rfl (Wd.refl _) ?_
  (repeat' (first | (show VH _ _ _ _ _ _ _; first | refine v_seq ?_ | refine r_seq ?_) | (show SH _ _ _ _ _ (_ :: _) _ _ _; first | refine asg evL ?_ | refine lbx rfl spL (by rfl) ?_ | refine fad rfl ?_ | refine bld rfl rfl ?_ | refine ala rfl (fun b => ?_) | refine bxx rfl evL rfl (fun b => ?_) | refine sta rfl rfl rfl spL (by rfl) (by rfl) (by rfl) kpL ?_) | refine s_nil ?_ | refine kh_normal ?_))
  rename_i b1 b2
  refine v_norm [(1,_),(2,_),(3,_),(4,_)] heL (fun g => ?_)
  (repeat' (refine v_block ?_))
  refine v_loop [(4,4),(10,26)] (fun y : Nat × (Option Addr × Nat) => [(4, .int .i64 y.1)]) (fun y => [bx b 26 [.int .i64 tick, .int .i64 last, .slice y.2.1 y.1 y.2.2], orow 38 y.2.1 y.2.2 (lots.take y.1), bx b1 53 [.int .i64 tick, .int .i64 last, .slice A lots.length c0], bx b2 26 [.int .i64 0, .int .i64 0, .slice none 0 0]])
    (fun y => y.1 ≤ lots.length) (fun y => lots.length - y.1) (0, none, 0) hsL (ent_cons spL (ent_nilrow (ent_cons spL (ent_cons spL (ent_nil _))))) (Nat.zero_le _) ?_
  rintro ⟨k, A1, c1⟩ g hk
  simp only [sets]
  simp only at hk
  have hlk : (lots.take k).length = k := by rw [List.length_take]; omega
  by_cases hkl : k < lots.length
  · have hts := take_snoc (d := Flat.dflt) hkl
    have hlk1 : (lots.take (k + 1)).length = k + 1 := by rw [List.length_take]; omega
    (repeat' (first | (show VH _ _ _ _ _ _ _; first | refine v_seq ?_ | refine r_seq ?_ | refine v_block ?_ | refine v_skip ?_ | refine v_cond_t rfl tbL ?_) | (show SH _ _ _ _ _ (_ :: _) _ _ _; first | refine mov evL ?_ | refine lss rfl rfl ?_ | refine lbx rfl spL (by rfl) ?_ | refine slen rfl ?_ | refine fad rfl ?_) | refine s_nil ?_ | refine kh_normal ?_))
    refine r_heldT [bx b1 53 _] (tr [(0, true), (2, true), (3, true), (4, true), (5, true), (6, true)] (.fork 1 (tr [(7, false), (8, false), (9, false), (10, false)] .nil) 7 (tr [(1, false), (8, false), (9, false), (10, false)] .nil))) hmix (by kernel_rfl) enL ?_
    (repeat' ((show SH _ _ _ _ _ (_ :: _) _ _ _; first | refine mov evL ?_ | (show SH _ _ _ _ _ (⟨_, .load _ _, _, _, _, _⟩ :: _) _ _ _; first | refine lbx rfl spL (by rfl) ?_ | refine lra rfl (fun _ _ => rdL) (by rfl) omL ?_) | refine ix rfl rfl (by with_reducible rfl) (fun _ _ => rdL) (by rfl) omL omL ?_ | refine fad rfl ?_)))
    refine s_fork ?_ ?_
    all_goals
      (repeat' (refine lbx rfl spL (by rfl) ?_))
      refine bsl (l := [lots.getD k Flat.dflt]) rfl rfl (Vals.cons rfl Vals.nil) rfl rfl (by decide) (fun b9 => ?_)
      (repeat' (refine lbx rfl spL (by rfl) ?_))
      refine app (l := lots.take k) (l2 := [lots.getD k Flat.dflt]) rfl rfl rfl spL (fun w hw => hw.rd spL) rfl hlk.symm rfl (by simp only [List.length_cons, List.length_nil]; omega) (by simp only [List.length_cons, List.length_nil]; omega) (fun A4 c4 => ⟨enL, ?_⟩)
      rw [← hts, hlk1]
      (repeat' (first | refine r_seq ?_ | (show SH _ _ _ _ _ (_ :: _) _ _ _; first | refine mov evL ?_ | refine asg evL ?_ | refine add rfl rfl inL ?_ | refine fad rfl ?_ | refine stb rfl rfl evL spL rfl rfl (by first | decide | exact Nat.zero_lt_succ _ | exact of_decide_eq_true rfl) kpL ?_) | refine s_nil ?_ | refine kh_normal ?_ | refine bh_normal ?_))
      exact ⟨agL, (k + 1, A4, c4), hsL, enL, hkl, by show _ - (k + 1) < _ - k; omega⟩
  · have hke : k = lots.length := by omega
    subst hke
    rw [List.take_length]
    (repeat' (first | (show VH _ _ _ _ _ _ _; first | refine v_seq ?_ | refine r_seq ?_ | refine v_ret ?_ | refine v_exit ?_ | refine v_cond_f rfl tbL ?_) | (show SH _ _ _ _ _ (_ :: _) _ _ _; first | refine mov evL ?_ | refine lss rfl rfl ?_ | (show SH _ _ _ _ _ (⟨_, .load _ _, _, _, _, _⟩ :: _) _ _ _; first | refine lbx rfl spL (by rfl) ?_ | refine lba rfl spL (by rfl) ?_) | refine slen rfl ?_ | refine fad rfl ?_ | refine sta rfl rfl rfl spL (by rfl) (by rfl) (by rfl) kpL ?_) | refine s_nil ?_ | refine kh_normal ?_ | refine kh_exit ?_ | refine bh_exit ?_))
    exact rhC rfl rfl rfl (fun w hw => loadVar_bx hw spL (by rfl)) ⟨A1, c1, rfl, rfl⟩ enL
end Go.Proofs.Ytehjdbgijibmcaa
