/- PartyWrong answers true, whatever the input; no condition. -/
import Derived.Test.YtlfbcoohfnoacaaZTwp
import Derived.Test.YtlfbcoohfnoacaaZMp
import Derived.Test.YtlfbcoohfnoacaaZWz
import Derived.Test.YtlfbcoohfnoacaaZUxv
import Derived.Test.YtlfbcoohfnoacaaZUh
import Derived.Test.YtlfbcoohfnoacaaZUq
set_option linter.unusedSimpArgs false
set_option linter.unusedVariables false
/- marcheslaw36: Given, Taken (printed by gen_gt36.py). -/
namespace Go.Proofs.Ytlfbcoohfnoacaa
open Go.Fw Go.RowKit
/-- Invitations in a row of the reference's. -/
abbrev rowR (x : PtyP) : HP := orow 105 x.B x.cb x.p.inv
set_option maxHeartbeats 4000000 in
set_option maxRecDepth 100000 in
theorem givenParty_spec (x : PtyP) (w : World) (hl : x.p.mem.length ≤ 1000) (hl2 : x.p.inv.length ≤ 1000) (hr : Rd w x.A x.p.mem) (hr2 : Rd w x.B x.p.inv) :
    Ret Try.prog 52 [.agg (Flat.enc x).toArray].toArray w (RP w fun v H' => ∃ y : PtyP, y.p = x.p ∧ v = .agg (Flat.enc y).toArray ∧ H' = [rowM y, rowR y]) := by
  have hC := fun w' (he : Ext w w') => copyInts_spec x.A x.p.mem x.ca w' (by omega) (hr.ext he)
  obtain ⟨⟨xi, xl, xm, xv⟩, xA, xca, xB, xcb⟩ := x
  simp only at hC hr hr2 hl hl2 ⊢
  rw [show Flat.enc (⟨⟨xi, xl, xm, xv⟩, xA, xca, xB, xcb⟩ : PtyP) = [.int .i64 xi, .int .i64 xl, .slice xA xm.length xca, .slice xB xv.length xcb] from rfl]
  refine enterH Try.func52 rfl rfl Try.ntmps52 rfl (Wd.refl _) ?_
  (repeat' (first | (show VH _ _ _ _ _ _ _; first | refine v_seq ?_ | refine r_seq ?_) | (show SH _ _ _ _ _ (_ :: _) _ _ _; first | refine ala rfl (fun b => ?_) | (show SH _ _ _ _ _ (⟨_, .box _ _, _, _, _, _⟩ :: _) _ _ _; refine bxx rfl evL rfl (fun b => ?_))) | refine s_nil ?_ | refine kh_normal ?_))
  rename_i b1
  revert b
  intro b2
  refine r_heldT [bx b1 37 _] (tr [(0, true), (1, true), (2, true), (3, true), (4, true), (5, true)] (.fork 6 (tr [(7, true), (8, false), (9, false)] .nil) 8 (tr [(6, false), (7, false), (9, false)] .nil))) hmix (by kernel_rfl) enL ?_
  (repeat' (first | (show SH _ _ _ _ _ (_ :: _) _ _ _; first | (show SH _ _ _ _ _ (⟨_, .load _ _, _, _, _, _⟩ :: _) _ _ _; refine lbx rfl spL (by rfl) ?_) | (show SH _ _ _ _ _ (⟨_, .call ⟨.value (.func 80), _, _⟩, _, _, _, _⟩ :: _) _ _ _; refine cp (callee := .func 80) rfl (fun w hw => hC _ hw.ext) rfl rfl ?_) | refine fad rfl ?_ | refine ala rfl (fun b => ?_)) | refine s_fork ?_ ?_))
  all_goals
    rintro _ _ ⟨A1, a1, rfl, rfl⟩
    (repeat' (first | (show VH _ _ _ _ _ _ _; first | refine v_seq ?_ | refine r_seq ?_ | refine v_block ?_) | (show SH _ _ _ _ _ (_ :: _) _ _ _; first | (show SH _ _ _ _ _ (⟨_, .assign _, _, _, _, _⟩ :: _) _ _ _; refine asg evL ?_) | refine bld rfl rfl ?_ | refine ala rfl (fun b => ?_) | (show SH _ _ _ _ _ (⟨_, .store _ _ _, _, _, _, _⟩ :: _) _ _ _; refine sta rfl rfl rfl spL (by rfl) (by rfl) (by rfl) kpL ?_)) | refine s_nil ?_ | refine kh_normal ?_))
    revert b
    intro b3
    refine v_norm [(1,_),(2,_),(3,_),(4,_)] heL (fun g => ?_)
    refine VH.ent (G := [orow 105 none 0 ([] : List Inv), bx b3 83 [.int .i64 xi, .int .i64 xl, .slice A1 xm.length a1, .slice none 0 0], orow 3 A1 a1 xm, bx b1 37 [.int .i64 xi, .int .i64 xl, .slice xA xm.length xca, .slice xB xv.length xcb], bx b2 83 [.int .i64 0, .int .i64 0, .slice none 0 0, .slice none 0 0]]) ?_ (ent_nilrow enL)
    refine v_loop [(4,4),(13,37)] (fun y : Nat × Option Addr × Nat => [(4, .int .i64 y.1)]) (fun y => [orow 105 y.2.1 y.2.2 (xv.take y.1), bx b3 83 [.int .i64 xi, .int .i64 xl, .slice A1 xm.length a1, .slice y.2.1 (xv.take y.1).length y.2.2], orow 3 A1 a1 xm, bx b1 37 [.int .i64 xi, .int .i64 xl, .slice xA xm.length xca, .slice xB xv.length xcb], bx b2 83 [.int .i64 0, .int .i64 0, .slice none 0 0, .slice none 0 0]]) (fun y => y.1 ≤ xv.length) (fun y => xv.length - y.1) (0, none, 0) hsL enL (Nat.zero_le _) ?_
    rintro ⟨k, B, d⟩ g hk
    simp only [sets]
    simp only at hk
    by_cases hkl : k < xv.length
    · have htk := take_snoc (d := (Flat.dflt : Inv)) hkl
      obtain ⟨v, hv⟩ : ∃ v, xv.getD k Flat.dflt = v := ⟨_, rfl⟩
      have hvE := inv_enc hv
      rw [hv] at htk
      have hfl : (xv.take k).length ≤ 1000 := by rw [List.length_take]; omega
      clear hv hC
      obtain ⟨vw, vt⟩ := v
      simp only at hvE
      generalize xv.take k = F at htk hfl ⊢
      (repeat' (first | (show VH _ _ _ _ _ _ _; first | refine v_seq ?_ | refine r_seq ?_ | refine v_block ?_ | refine v_skip ?_ | refine v_cond_t rfl tbL ?_) | (show SH _ _ _ _ _ (_ :: _) _ _ _; first | (show SH _ _ _ _ _ (⟨_, .move _, _, _, _, _⟩ :: _) _ _ _; refine mov evL ?_) | (show SH _ _ _ _ _ (⟨_, .binOp .lss _ _ _ _, _, _, _, _⟩ :: _) _ _ _; refine lssT rfl rfl omD ?_) | (show SH _ _ _ _ _ (⟨_, .load _ _, _, _, _, _⟩ :: _) _ _ _; refine lbx rfl spL (by rfl) ?_) | refine slen rfl ?_ | refine fad rfl ?_) | refine s_nil ?_ | refine kh_normal ?_))
      refine r_heldT [bx b1 37 _] (tr [(0, true), (2, true), (3, true), (4, true), (5, true), (6, true), (7, true), (8, true), (9, true), (10, true), (11, true), (12, true), (13, true), (14, true)] (.fork 1 (tr [(15, false), (16, false), (17, false), (18, false)] .nil) 15 (tr [(1, false), (16, false), (17, false), (18, false)] .nil))) hmix (by kernel_rfl) enL ?_
      (repeat' (first | (show SH _ _ _ _ _ (_ :: _) _ _ _; first | (show SH _ _ _ _ _ (⟨_, .move _, _, _, _, _⟩ :: _) _ _ _; refine mov evL ?_) | (show SH _ _ _ _ _ (⟨_, .load _ _, _, _, _, _⟩ :: _) _ _ _; first | refine lbx rfl spL (by rfl) ?_ | refine lrg rfl (fun _ _ => rdP) (by rfl) omL (by assumption) (by rfl) ?_) | (show SH _ _ _ _ _ (⟨_, .indexAddr _ _ _, _, _, _, _⟩ :: _) _ _ _; refine ix rfl rfl (by with_reducible rfl) (fun _ _ => rdP) (by rfl) omL omL ?_) | refine fad rfl ?_ | refine bld rfl rfl ?_) | refine s_fork ?_ ?_))
      all_goals
        refine bsl (l := [(⟨vw, vt⟩ : Inv)]) rfl rfl (Vals.cons rfl Vals.nil) rfl rfl (by decide) (fun b9 => ?_)
        (repeat' ((show SH _ _ _ _ _ (_ :: _) _ _ _; (show SH _ _ _ _ _ (⟨_, .load _ _, _, _, _, _⟩ :: _) _ _ _; refine lbx rfl spL (by rfl) ?_))))
        refine app (l := F) (l2 := [(⟨vw, vt⟩ : Inv)]) rfl rfl rfl spL (fun w hw => hw.rd spL) rfl rfl rfl (by simp only [List.length_singleton]; omega) (by simp only [List.length_singleton]; omega) (fun A4 c4 => ⟨enL, ?_⟩)
        (repeat' (first | refine r_seq ?_ | (show SH _ _ _ _ _ (_ :: _) _ _ _; first | (show SH _ _ _ _ _ (⟨_, .move _, _, _, _, _⟩ :: _) _ _ _; refine mov evL ?_) | (show SH _ _ _ _ _ (⟨_, .assign _, _, _, _, _⟩ :: _) _ _ _; refine asg evL ?_) | (show SH _ _ _ _ _ (⟨_, .binOp .add _ _ _ _, _, _, _, _⟩ :: _) _ _ _; refine add rfl rfl inL ?_) | refine fad rfl ?_ | (show SH _ _ _ _ _ (⟨_, .store _ _ _, _, _, _, _⟩ :: _) _ _ _; refine stb rfl rfl evL spL rfl rfl (by first | decide | exact Nat.zero_lt_succ _ | exact of_decide_eq_true rfl) kpL ?_)) | refine s_nil ?_ | refine kh_normal ?_ | refine bh_normal ?_))
        exact ⟨agL, (k + 1, A4, c4), hsL, by rw [htk]; exact enL, hkl, by show xv.length - (k + 1) < xv.length - k; omega⟩
    · obtain rfl : k = xv.length := by omega
      rw [List.take_length]
      clear hC
      (repeat' (first | (show VH _ _ _ _ _ _ _; first | refine v_seq ?_ | refine r_seq ?_ | refine v_ret ?_ | refine v_exit ?_ | refine v_cond_f rfl tbL ?_) | (show SH _ _ _ _ _ (_ :: _) _ _ _; first | (show SH _ _ _ _ _ (⟨_, .move _, _, _, _, _⟩ :: _) _ _ _; refine mov evL ?_) | (show SH _ _ _ _ _ (⟨_, .binOp .lss _ _ _ _, _, _, _, _⟩ :: _) _ _ _; refine lssF rfl rfl omD ?_) | (show SH _ _ _ _ _ (⟨_, .load _ _, _, _, _, _⟩ :: _) _ _ _; first | refine lbx rfl spL (by rfl) ?_ | refine lba rfl spL (by rfl) ?_) | refine slen rfl ?_ | refine fad rfl ?_ | (show SH _ _ _ _ _ (⟨_, .store _ _ _, _, _, _, _⟩ :: _) _ _ _; refine sta rfl rfl rfl spL (by rfl) (by rfl) (by rfl) kpL ?_)) | refine s_nil ?_ | refine kh_normal ?_ | refine kh_exit ?_ | refine bh_exit ?_))
      exact rhC rfl rfl rfl (fun w hw => loadVar_bx hw spL (by rfl)) ⟨⟨⟨xi, xl, xm, xv⟩, A1, a1, B, d⟩, rfl, rfl, rfl⟩ enL
set_option maxHeartbeats 4000000 in
set_option maxRecDepth 100000 in
theorem given_spec (t la : Int) (A : Option Addr) (L : List PtyP) (c : Nat) (w : World) (hz : SzP L) (hr : RdP w A L) :
    Ret Try.prog 27 [hv36 t la A L c].toArray w (RP w fun v H' => ∃ A' c' M, ptys M = ptys L ∧ v = hv36 t la A' M c' ∧ H' = [orow 83 A' c' M, allH (M.map rowM), allH (M.map rowR)]) := by
  have hrA := hr.1
  have hll := hz.len
  refine enterH Try.func27 rfl rfl Try.ntmps27 rfl (Wd.refl _) ?_
  (repeat' (first | (show VH _ _ _ _ _ _ _; first | refine v_seq ?_ | refine r_seq ?_ | refine v_block ?_) | (show SH _ _ _ _ _ (_ :: _) _ _ _; first | (show SH _ _ _ _ _ (⟨_, .assign _, _, _, _, _⟩ :: _) _ _ _; refine asg evL ?_) | (show SH _ _ _ _ _ (⟨_, .load _ _, _, _, _, _⟩ :: _) _ _ _; refine lbx rfl spL (by rfl) ?_) | refine fad rfl ?_ | refine bld rfl rfl ?_ | refine ala rfl (fun b => ?_) | (show SH _ _ _ _ _ (⟨_, .box _ _, _, _, _, _⟩ :: _) _ _ _; refine bxx rfl evL rfl (fun b => ?_)) | (show SH _ _ _ _ _ (⟨_, .store _ _ _, _, _, _, _⟩ :: _) _ _ _; refine sta rfl rfl rfl spL (by rfl) (by rfl) (by rfl) kpL ?_)) | refine s_nil ?_ | refine kh_normal ?_))
  rename_i b1 b2
  revert b
  intro b3
  refine v_norm [(1,_),(2,_),(3,_),(4,_)] heL (fun g => ?_)
  refine VH.ent (G := [allH (([] : List PtyP).map rowM), allH (([] : List PtyP).map rowR), orow 83 none 0 ([] : List PtyP), bx b3 57 [.int .i64 t, .int .i64 la, .slice none 0 0], bx b1 24 [.int .i64 t, .int .i64 la, .slice A L.length c], bx b2 57 [.int .i64 0, .int .i64 0, .slice none 0 0]]) ?_ (ent_all_nil (ent_all_nil (ent_nilrow enL)))
  refine v_loop [(4,4),(10,27)] (fun y : Nat × Option Addr × Nat × List PtyP => [(4, .int .i64 y.1)]) (fun y => [allH (y.2.2.2.map rowM), allH (y.2.2.2.map rowR), orow 83 y.2.1 y.2.2.1 y.2.2.2, bx b3 57 [.int .i64 t, .int .i64 la, .slice y.2.1 y.2.2.2.length y.2.2.1], bx b1 24 [.int .i64 t, .int .i64 la, .slice A L.length c], bx b2 57 [.int .i64 0, .int .i64 0, .slice none 0 0]]) (fun y => y.1 ≤ L.length ∧ ptys y.2.2.2 = (ptys L).take y.1) (fun y => L.length - y.1) (0, none, 0, []) hsL enL ⟨Nat.zero_le _, by simp [ptys]⟩ ?_
  rintro ⟨k, B, d, M⟩ g ⟨hk, hM⟩
  simp only [sets]
  simp only at hk hM
  have hMl : M.length = k := by
    have := congrArg List.length hM
    rw [ptys_len, List.length_take, ptys_len] at this; omega
  by_cases hkl : k < L.length
  · have hM1 : ∀ y : PtyP, y.p = (L.getD k Flat.dflt).p → ptys (M ++ [y]) = (ptys L).take (k + 1) := fun y hy => by
      rw [ptys_snoc, hM, take_snoc (d := pty0) (by rw [ptys_len]; exact hkl), ptys_at hkl, hy]
    have hO := fun w h1 h2 => givenParty_spec (L.getD k Flat.dflt) w (hz.atm hkl) (hz.ati hkl) h1 h2
    have hm := hr.mem hkl
    have hi := hr.inv hkl
    clear hz hr hM
    (repeat' (first | (show VH _ _ _ _ _ _ _; first | refine v_seq ?_ | refine r_seq ?_ | refine v_block ?_ | refine v_skip ?_ | refine v_cond_t rfl tbL ?_) | (show SH _ _ _ _ _ (_ :: _) _ _ _; first | (show SH _ _ _ _ _ (⟨_, .move _, _, _, _, _⟩ :: _) _ _ _; refine mov evL ?_) | (show SH _ _ _ _ _ (⟨_, .binOp .lss _ _ _ _, _, _, _, _⟩ :: _) _ _ _; refine lssT rfl rfl omD ?_) | (show SH _ _ _ _ _ (⟨_, .load _ _, _, _, _, _⟩ :: _) _ _ _; refine lbx rfl spL (by rfl) ?_) | refine slen rfl ?_ | refine fad rfl ?_) | refine s_nil ?_ | refine kh_normal ?_))
    refine r_heldT [bx b1 24 _] (tr [(0, true), (2, true), (3, true), (4, true), (5, true), (6, true)] (.fork 1 (tr [(7, false), (8, false), (9, false), (10, false), (11, false)] .nil) 7 (tr [] (.fork 1 (tr [(8, false), (9, false), (10, false), (11, false)] .nil) 8 (tr [(1, false), (9, false), (10, false), (11, false)] .nil))))) hmix (by kernel_rfl) enL ?_
    (repeat' (first | (show SH _ _ _ _ _ (_ :: _) _ _ _; first | (show SH _ _ _ _ _ (⟨_, .move _, _, _, _, _⟩ :: _) _ _ _; refine mov evL ?_) | (show SH _ _ _ _ _ (⟨_, .load _ _, _, _, _, _⟩ :: _) _ _ _; first | refine lbx rfl spL (by rfl) ?_ | refine lra rfl (fun _ _ => rdP) (by rfl) omL ?_ | refine lra rfl (fun _ _ => rdP) (by rfl) (by simp only [List.length_cons, List.length_nil]; omega) ?_) | (show SH _ _ _ _ _ (⟨_, .indexAddr _ _ _, _, _, _, _⟩ :: _) _ _ _; refine ix rfl rfl (by with_reducible rfl) (fun _ _ => rdP) (by rfl) omL omL ?_) | (show SH _ _ _ _ _ (⟨_, .call ⟨.value (.func 52), _, _⟩, _, _, _, _⟩ :: _) _ _ _; refine cp (callee := .func 52) rfl (fun w hw => hO w (hm.ext hw.ext) (hi.ext hw.ext)) rfl rfl ?_) | refine fad rfl ?_) | refine s_fork ?_ ?_))
    all_goals
      rintro _ _ ⟨y, hyp, rfl, rfl⟩
      (repeat' (first | (show SH _ _ _ _ _ (_ :: _) _ _ _; (show SH _ _ _ _ _ (⟨_, .load _ _, _, _, _, _⟩ :: _) _ _ _; refine lbx rfl spL (by rfl) ?_)) | refine s_fork ?_ ?_))
    all_goals
      refine bsl (l := [y]) rfl rfl (Vals.cons rfl Vals.nil) rfl rfl (by decide) (fun b9 => ?_)
      (repeat' ((show SH _ _ _ _ _ (_ :: _) _ _ _; (show SH _ _ _ _ _ (⟨_, .load _ _, _, _, _, _⟩ :: _) _ _ _; refine lbx rfl spL (by rfl) ?_))))
    all_goals
      refine app (l := M) (l2 := [y]) rfl rfl rfl spL (fun w hw => hw.rd spL) rfl rfl rfl (by simp only [List.length_singleton]; omega) (by simp only [List.length_singleton]; omega) (fun A4 c4 => ⟨enL, ?_⟩)
      (repeat' (first | refine r_seq ?_ | (show SH _ _ _ _ _ (_ :: _) _ _ _; first | (show SH _ _ _ _ _ (⟨_, .move _, _, _, _, _⟩ :: _) _ _ _; refine mov evL ?_) | (show SH _ _ _ _ _ (⟨_, .assign _, _, _, _, _⟩ :: _) _ _ _; refine asg evL ?_) | (show SH _ _ _ _ _ (⟨_, .binOp .add _ _ _ _, _, _, _, _⟩ :: _) _ _ _; refine add rfl rfl inL ?_) | refine fad rfl ?_ | (show SH _ _ _ _ _ (⟨_, .store _ _ _, _, _, _, _⟩ :: _) _ _ _; refine stb rfl rfl evL spL rfl rfl (by first | decide | exact Nat.zero_lt_succ _ | exact of_decide_eq_true rfl) kpL ?_)) | refine s_nil ?_ | refine kh_normal ?_ | refine bh_normal ?_))
      refine ⟨agL, (k + 1, A4, c4, M ++ [y]), hsL, ?_, ⟨hkl, hM1 y hyp⟩, by show L.length - (k + 1) < L.length - k; omega⟩
      exact Ent.trans (B := [rowM y, allH (M.map rowM), rowR y, allH (M.map rowR), orow 83 A4 c4 (M ++ [y]), bx b3 57 [.int .i64 t, .int .i64 la, .slice A4 (M ++ [y]).length c4], bx b1 24 [.int .i64 t, .int .i64 la, .slice A L.length c], bx b2 57 [.int .i64 0, .int .i64 0, .slice none 0 0]]) enL (ent_all_snoc.trans (ent_cons Split.head ent_all_snoc))
  · obtain rfl : k = L.length := by omega
    have hMp : ptys M = ptys L := by rw [hM, ← ptys_len, List.take_length]
    (repeat' (first | (show VH _ _ _ _ _ _ _; first | refine v_seq ?_ | refine r_seq ?_ | refine v_ret ?_ | refine v_exit ?_ | refine v_cond_f rfl tbL ?_) | (show SH _ _ _ _ _ (_ :: _) _ _ _; first | (show SH _ _ _ _ _ (⟨_, .move _, _, _, _, _⟩ :: _) _ _ _; refine mov evL ?_) | (show SH _ _ _ _ _ (⟨_, .binOp .lss _ _ _ _, _, _, _, _⟩ :: _) _ _ _; refine lssF rfl rfl omD ?_) | (show SH _ _ _ _ _ (⟨_, .load _ _, _, _, _, _⟩ :: _) _ _ _; first | refine lbx rfl spL (by rfl) ?_ | refine lba rfl spL (by rfl) ?_) | refine slen rfl ?_ | refine fad rfl ?_ | (show SH _ _ _ _ _ (⟨_, .store _ _ _, _, _, _, _⟩ :: _) _ _ _; refine sta rfl rfl rfl spL (by rfl) (by rfl) (by rfl) kpL ?_)) | refine s_nil ?_ | refine kh_normal ?_ | refine kh_exit ?_ | refine bh_exit ?_))
    exact rhC rfl rfl rfl (fun w hw => loadVar_bx hw spL (by rfl)) ⟨B, d, M, hMp, rfl, rfl⟩ enL
set_option maxHeartbeats 4000000 in
set_option maxRecDepth 100000 in
theorem takenParty_spec (x : PtyP) (w : World) (hl : x.p.mem.length ≤ 1000) (hl2 : x.p.inv.length ≤ 1000) (hr : Rd w x.A x.p.mem) (hr2 : Rd w x.B x.p.inv) :
    Ret Try.prog 51 [.agg (Flat.enc x).toArray].toArray w (RP w fun v H' => ∃ y : PtyP, y.p = x.p ∧ v = .agg (Flat.enc y).toArray ∧ H' = [rowM y, rowI y]) := by
  have hC := fun w' (he : Ext w w') => copyInts_spec x.A x.p.mem x.ca w' (by omega) (hr.ext he)
  obtain ⟨⟨xi, xl, xm, xv⟩, xA, xca, xB, xcb⟩ := x
  simp only at hC hr hr2 hl hl2 ⊢
  rw [show Flat.enc (⟨⟨xi, xl, xm, xv⟩, xA, xca, xB, xcb⟩ : PtyP) = [.int .i64 xi, .int .i64 xl, .slice xA xm.length xca, .slice xB xv.length xcb] from rfl]
  refine enterH Try.func51 rfl rfl Try.ntmps51 rfl (Wd.refl _) ?_
  (repeat' (first | (show VH _ _ _ _ _ _ _; first | refine v_seq ?_ | refine r_seq ?_) | (show SH _ _ _ _ _ (_ :: _) _ _ _; first | refine ala rfl (fun b => ?_) | (show SH _ _ _ _ _ (⟨_, .box _ _, _, _, _, _⟩ :: _) _ _ _; refine bxx rfl evL rfl (fun b => ?_))) | refine s_nil ?_ | refine kh_normal ?_))
  rename_i b1
  revert b
  intro b2
  refine r_heldT [bx b1 83 _] (tr [(0, true), (1, true), (2, true), (3, true), (4, true), (5, true)] (.fork 6 (tr [(7, true), (8, false), (9, false)] .nil) 8 (tr [(6, false), (7, false), (9, false)] .nil))) hmix (by kernel_rfl) enL ?_
  (repeat' (first | (show SH _ _ _ _ _ (_ :: _) _ _ _; first | (show SH _ _ _ _ _ (⟨_, .load _ _, _, _, _, _⟩ :: _) _ _ _; refine lbx rfl spL (by rfl) ?_) | (show SH _ _ _ _ _ (⟨_, .call ⟨.value (.func 80), _, _⟩, _, _, _, _⟩ :: _) _ _ _; refine cp (callee := .func 80) rfl (fun w hw => hC _ hw.ext) rfl rfl ?_) | refine fad rfl ?_ | refine ala rfl (fun b => ?_)) | refine s_fork ?_ ?_))
  all_goals
    rintro _ _ ⟨A1, a1, rfl, rfl⟩
    (repeat' (first | (show VH _ _ _ _ _ _ _; first | refine v_seq ?_ | refine r_seq ?_ | refine v_block ?_) | (show SH _ _ _ _ _ (_ :: _) _ _ _; first | (show SH _ _ _ _ _ (⟨_, .assign _, _, _, _, _⟩ :: _) _ _ _; refine asg evL ?_) | refine bld rfl rfl ?_ | refine ala rfl (fun b => ?_) | (show SH _ _ _ _ _ (⟨_, .store _ _ _, _, _, _, _⟩ :: _) _ _ _; refine sta rfl rfl rfl spL (by rfl) (by rfl) (by rfl) kpL ?_)) | refine s_nil ?_ | refine kh_normal ?_))
    revert b
    intro b3
    refine v_norm [(1,_),(2,_),(3,_),(4,_)] heL (fun g => ?_)
    refine VH.ent (G := [orow 44 none 0 ([] : List Inv), bx b3 37 [.int .i64 xi, .int .i64 xl, .slice A1 xm.length a1, .slice none 0 0], orow 3 A1 a1 xm, bx b1 83 [.int .i64 xi, .int .i64 xl, .slice xA xm.length xca, .slice xB xv.length xcb], bx b2 37 [.int .i64 0, .int .i64 0, .slice none 0 0, .slice none 0 0]]) ?_ (ent_nilrow enL)
    refine v_loop [(4,4),(13,37)] (fun y : Nat × Option Addr × Nat => [(4, .int .i64 y.1)]) (fun y => [orow 44 y.2.1 y.2.2 (xv.take y.1), bx b3 37 [.int .i64 xi, .int .i64 xl, .slice A1 xm.length a1, .slice y.2.1 (xv.take y.1).length y.2.2], orow 3 A1 a1 xm, bx b1 83 [.int .i64 xi, .int .i64 xl, .slice xA xm.length xca, .slice xB xv.length xcb], bx b2 37 [.int .i64 0, .int .i64 0, .slice none 0 0, .slice none 0 0]]) (fun y => y.1 ≤ xv.length) (fun y => xv.length - y.1) (0, none, 0) hsL enL (Nat.zero_le _) ?_
    rintro ⟨k, B, d⟩ g hk
    simp only [sets]
    simp only at hk
    by_cases hkl : k < xv.length
    · have htk := take_snoc (d := (Flat.dflt : Inv)) hkl
      obtain ⟨v, hv⟩ : ∃ v, xv.getD k Flat.dflt = v := ⟨_, rfl⟩
      have hvE := inv_enc hv
      rw [hv] at htk
      have hfl : (xv.take k).length ≤ 1000 := by rw [List.length_take]; omega
      clear hv hC
      obtain ⟨vw, vt⟩ := v
      simp only at hvE
      generalize xv.take k = F at htk hfl ⊢
      (repeat' (first | (show VH _ _ _ _ _ _ _; first | refine v_seq ?_ | refine r_seq ?_ | refine v_block ?_ | refine v_skip ?_ | refine v_cond_t rfl tbL ?_) | (show SH _ _ _ _ _ (_ :: _) _ _ _; first | (show SH _ _ _ _ _ (⟨_, .move _, _, _, _, _⟩ :: _) _ _ _; refine mov evL ?_) | (show SH _ _ _ _ _ (⟨_, .binOp .lss _ _ _ _, _, _, _, _⟩ :: _) _ _ _; refine lssT rfl rfl omD ?_) | (show SH _ _ _ _ _ (⟨_, .load _ _, _, _, _, _⟩ :: _) _ _ _; refine lbx rfl spL (by rfl) ?_) | refine slen rfl ?_ | refine fad rfl ?_) | refine s_nil ?_ | refine kh_normal ?_))
      refine r_heldT [bx b1 83 _] (tr [(0, true), (2, true), (3, true), (4, true), (5, true), (6, true), (7, true), (8, true), (9, true), (10, true), (11, true), (12, true), (13, true), (14, true)] (.fork 1 (tr [(15, false), (16, false), (17, false), (18, false)] .nil) 15 (tr [(1, false), (16, false), (17, false), (18, false)] .nil))) hmix (by kernel_rfl) enL ?_
      (repeat' (first | (show SH _ _ _ _ _ (_ :: _) _ _ _; first | (show SH _ _ _ _ _ (⟨_, .move _, _, _, _, _⟩ :: _) _ _ _; refine mov evL ?_) | (show SH _ _ _ _ _ (⟨_, .load _ _, _, _, _, _⟩ :: _) _ _ _; first | refine lbx rfl spL (by rfl) ?_ | refine lrg rfl (fun _ _ => rdP) (by rfl) omL (by assumption) (by rfl) ?_) | (show SH _ _ _ _ _ (⟨_, .indexAddr _ _ _, _, _, _, _⟩ :: _) _ _ _; refine ix rfl rfl (by with_reducible rfl) (fun _ _ => rdP) (by rfl) omL omL ?_) | refine fad rfl ?_ | refine bld rfl rfl ?_) | refine s_fork ?_ ?_))
      all_goals
        refine bsl (l := [(⟨vw, vt⟩ : Inv)]) rfl rfl (Vals.cons rfl Vals.nil) rfl rfl (by decide) (fun b9 => ?_)
        (repeat' ((show SH _ _ _ _ _ (_ :: _) _ _ _; (show SH _ _ _ _ _ (⟨_, .load _ _, _, _, _, _⟩ :: _) _ _ _; refine lbx rfl spL (by rfl) ?_))))
        refine app (l := F) (l2 := [(⟨vw, vt⟩ : Inv)]) rfl rfl rfl spL (fun w hw => hw.rd spL) rfl rfl rfl (by simp only [List.length_singleton]; omega) (by simp only [List.length_singleton]; omega) (fun A4 c4 => ⟨enL, ?_⟩)
        (repeat' (first | refine r_seq ?_ | (show SH _ _ _ _ _ (_ :: _) _ _ _; first | (show SH _ _ _ _ _ (⟨_, .move _, _, _, _, _⟩ :: _) _ _ _; refine mov evL ?_) | (show SH _ _ _ _ _ (⟨_, .assign _, _, _, _, _⟩ :: _) _ _ _; refine asg evL ?_) | (show SH _ _ _ _ _ (⟨_, .binOp .add _ _ _ _, _, _, _, _⟩ :: _) _ _ _; refine add rfl rfl inL ?_) | refine fad rfl ?_ | (show SH _ _ _ _ _ (⟨_, .store _ _ _, _, _, _, _⟩ :: _) _ _ _; refine stb rfl rfl evL spL rfl rfl (by first | decide | exact Nat.zero_lt_succ _ | exact of_decide_eq_true rfl) kpL ?_)) | refine s_nil ?_ | refine kh_normal ?_ | refine bh_normal ?_))
        exact ⟨agL, (k + 1, A4, c4), hsL, by rw [htk]; exact enL, hkl, by show xv.length - (k + 1) < xv.length - k; omega⟩
    · obtain rfl : k = xv.length := by omega
      rw [List.take_length]
      clear hC
      (repeat' (first | (show VH _ _ _ _ _ _ _; first | refine v_seq ?_ | refine r_seq ?_ | refine v_ret ?_ | refine v_exit ?_ | refine v_cond_f rfl tbL ?_) | (show SH _ _ _ _ _ (_ :: _) _ _ _; first | (show SH _ _ _ _ _ (⟨_, .move _, _, _, _, _⟩ :: _) _ _ _; refine mov evL ?_) | (show SH _ _ _ _ _ (⟨_, .binOp .lss _ _ _ _, _, _, _, _⟩ :: _) _ _ _; refine lssF rfl rfl omD ?_) | (show SH _ _ _ _ _ (⟨_, .load _ _, _, _, _, _⟩ :: _) _ _ _; first | refine lbx rfl spL (by rfl) ?_ | refine lba rfl spL (by rfl) ?_) | refine slen rfl ?_ | refine fad rfl ?_ | (show SH _ _ _ _ _ (⟨_, .store _ _ _, _, _, _, _⟩ :: _) _ _ _; refine sta rfl rfl rfl spL (by rfl) (by rfl) (by rfl) kpL ?_)) | refine s_nil ?_ | refine kh_normal ?_ | refine kh_exit ?_ | refine bh_exit ?_))
      exact rhC rfl rfl rfl (fun w hw => loadVar_bx hw spL (by rfl)) ⟨⟨⟨xi, xl, xm, xv⟩, A1, a1, B, d⟩, rfl, rfl, rfl⟩ enL
set_option maxHeartbeats 4000000 in
set_option maxRecDepth 100000 in
theorem taken_spec (t la : Int) (A : Option Addr) (L : List PtyP) (c : Nat) (w : World) (hz : SzP L) (hr : RdP w A L) :
    Ret Try.prog 26 [hv36 t la A L c].toArray w (RP w fun v H' => ∃ A' c' M, ptys M = ptys L ∧ v = hv36 t la A' M c' ∧ H' = [orow 37 A' c' M, allH (M.map rowM), allH (M.map rowI)]) := by
  have hrA := hr.1
  have hll := hz.len
  refine enterH Try.func26 rfl rfl Try.ntmps26 rfl (Wd.refl _) ?_
  (repeat' (first | (show VH _ _ _ _ _ _ _; first | refine v_seq ?_ | refine r_seq ?_ | refine v_block ?_) | (show SH _ _ _ _ _ (_ :: _) _ _ _; first | (show SH _ _ _ _ _ (⟨_, .assign _, _, _, _, _⟩ :: _) _ _ _; refine asg evL ?_) | (show SH _ _ _ _ _ (⟨_, .load _ _, _, _, _, _⟩ :: _) _ _ _; refine lbx rfl spL (by rfl) ?_) | refine fad rfl ?_ | refine bld rfl rfl ?_ | refine ala rfl (fun b => ?_) | (show SH _ _ _ _ _ (⟨_, .box _ _, _, _, _, _⟩ :: _) _ _ _; refine bxx rfl evL rfl (fun b => ?_)) | (show SH _ _ _ _ _ (⟨_, .store _ _ _, _, _, _, _⟩ :: _) _ _ _; refine sta rfl rfl rfl spL (by rfl) (by rfl) (by rfl) kpL ?_)) | refine s_nil ?_ | refine kh_normal ?_))
  rename_i b1 b2
  revert b
  intro b3
  refine v_norm [(1,_),(2,_),(3,_),(4,_)] heL (fun g => ?_)
  refine VH.ent (G := [allH (([] : List PtyP).map rowM), allH (([] : List PtyP).map rowI), orow 37 none 0 ([] : List PtyP), bx b3 24 [.int .i64 t, .int .i64 la, .slice none 0 0], bx b1 57 [.int .i64 t, .int .i64 la, .slice A L.length c], bx b2 24 [.int .i64 0, .int .i64 0, .slice none 0 0]]) ?_ (ent_all_nil (ent_all_nil (ent_nilrow enL)))
  refine v_loop [(4,4),(10,27)] (fun y : Nat × Option Addr × Nat × List PtyP => [(4, .int .i64 y.1)]) (fun y => [allH (y.2.2.2.map rowM), allH (y.2.2.2.map rowI), orow 37 y.2.1 y.2.2.1 y.2.2.2, bx b3 24 [.int .i64 t, .int .i64 la, .slice y.2.1 y.2.2.2.length y.2.2.1], bx b1 57 [.int .i64 t, .int .i64 la, .slice A L.length c], bx b2 24 [.int .i64 0, .int .i64 0, .slice none 0 0]]) (fun y => y.1 ≤ L.length ∧ ptys y.2.2.2 = (ptys L).take y.1) (fun y => L.length - y.1) (0, none, 0, []) hsL enL ⟨Nat.zero_le _, by simp [ptys]⟩ ?_
  rintro ⟨k, B, d, M⟩ g ⟨hk, hM⟩
  simp only [sets]
  simp only at hk hM
  have hMl : M.length = k := by
    have := congrArg List.length hM
    rw [ptys_len, List.length_take, ptys_len] at this; omega
  by_cases hkl : k < L.length
  · have hM1 : ∀ y : PtyP, y.p = (L.getD k Flat.dflt).p → ptys (M ++ [y]) = (ptys L).take (k + 1) := fun y hy => by
      rw [ptys_snoc, hM, take_snoc (d := pty0) (by rw [ptys_len]; exact hkl), ptys_at hkl, hy]
    have hO := fun w h1 h2 => takenParty_spec (L.getD k Flat.dflt) w (hz.atm hkl) (hz.ati hkl) h1 h2
    have hm := hr.mem hkl
    have hi := hr.inv hkl
    clear hz hr hM
    (repeat' (first | (show VH _ _ _ _ _ _ _; first | refine v_seq ?_ | refine r_seq ?_ | refine v_block ?_ | refine v_skip ?_ | refine v_cond_t rfl tbL ?_) | (show SH _ _ _ _ _ (_ :: _) _ _ _; first | (show SH _ _ _ _ _ (⟨_, .move _, _, _, _, _⟩ :: _) _ _ _; refine mov evL ?_) | (show SH _ _ _ _ _ (⟨_, .binOp .lss _ _ _ _, _, _, _, _⟩ :: _) _ _ _; refine lssT rfl rfl omD ?_) | (show SH _ _ _ _ _ (⟨_, .load _ _, _, _, _, _⟩ :: _) _ _ _; refine lbx rfl spL (by rfl) ?_) | refine slen rfl ?_ | refine fad rfl ?_) | refine s_nil ?_ | refine kh_normal ?_))
    refine r_heldT [bx b1 57 _] (tr [(0, true), (2, true), (3, true), (4, true), (5, true), (6, true)] (.fork 1 (tr [(7, false), (8, false), (9, false), (10, false), (11, false)] .nil) 7 (tr [] (.fork 1 (tr [(8, false), (9, false), (10, false), (11, false)] .nil) 8 (tr [(1, false), (9, false), (10, false), (11, false)] .nil))))) hmix (by kernel_rfl) enL ?_
    (repeat' (first | (show SH _ _ _ _ _ (_ :: _) _ _ _; first | (show SH _ _ _ _ _ (⟨_, .move _, _, _, _, _⟩ :: _) _ _ _; refine mov evL ?_) | (show SH _ _ _ _ _ (⟨_, .load _ _, _, _, _, _⟩ :: _) _ _ _; first | refine lbx rfl spL (by rfl) ?_ | refine lra rfl (fun _ _ => rdP) (by rfl) omL ?_ | refine lra rfl (fun _ _ => rdP) (by rfl) (by simp only [List.length_cons, List.length_nil]; omega) ?_) | (show SH _ _ _ _ _ (⟨_, .indexAddr _ _ _, _, _, _, _⟩ :: _) _ _ _; refine ix rfl rfl (by with_reducible rfl) (fun _ _ => rdP) (by rfl) omL omL ?_) | (show SH _ _ _ _ _ (⟨_, .call ⟨.value (.func 51), _, _⟩, _, _, _, _⟩ :: _) _ _ _; refine cp (callee := .func 51) rfl (fun w hw => hO w (hm.ext hw.ext) (hi.ext hw.ext)) rfl rfl ?_) | refine fad rfl ?_) | refine s_fork ?_ ?_))
    all_goals
      rintro _ _ ⟨y, hyp, rfl, rfl⟩
      (repeat' (first | (show SH _ _ _ _ _ (_ :: _) _ _ _; (show SH _ _ _ _ _ (⟨_, .load _ _, _, _, _, _⟩ :: _) _ _ _; refine lbx rfl spL (by rfl) ?_)) | refine s_fork ?_ ?_))
    all_goals
      refine bsl (l := [y]) rfl rfl (Vals.cons rfl Vals.nil) rfl rfl (by decide) (fun b9 => ?_)
      (repeat' ((show SH _ _ _ _ _ (_ :: _) _ _ _; (show SH _ _ _ _ _ (⟨_, .load _ _, _, _, _, _⟩ :: _) _ _ _; refine lbx rfl spL (by rfl) ?_))))
    all_goals
      refine app (l := M) (l2 := [y]) rfl rfl rfl spL (fun w hw => hw.rd spL) rfl rfl rfl (by simp only [List.length_singleton]; omega) (by simp only [List.length_singleton]; omega) (fun A4 c4 => ⟨enL, ?_⟩)
      (repeat' (first | refine r_seq ?_ | (show SH _ _ _ _ _ (_ :: _) _ _ _; first | (show SH _ _ _ _ _ (⟨_, .move _, _, _, _, _⟩ :: _) _ _ _; refine mov evL ?_) | (show SH _ _ _ _ _ (⟨_, .assign _, _, _, _, _⟩ :: _) _ _ _; refine asg evL ?_) | (show SH _ _ _ _ _ (⟨_, .binOp .add _ _ _ _, _, _, _, _⟩ :: _) _ _ _; refine add rfl rfl inL ?_) | refine fad rfl ?_ | (show SH _ _ _ _ _ (⟨_, .store _ _ _, _, _, _, _⟩ :: _) _ _ _; refine stb rfl rfl evL spL rfl rfl (by first | decide | exact Nat.zero_lt_succ _ | exact of_decide_eq_true rfl) kpL ?_)) | refine s_nil ?_ | refine kh_normal ?_ | refine bh_normal ?_))
      refine ⟨agL, (k + 1, A4, c4, M ++ [y]), hsL, ?_, ⟨hkl, hM1 y hyp⟩, by show L.length - (k + 1) < L.length - k; omega⟩
      exact Ent.trans (B := [rowM y, allH (M.map rowM), rowI y, allH (M.map rowI), orow 37 A4 c4 (M ++ [y]), bx b3 24 [.int .i64 t, .int .i64 la, .slice A4 (M ++ [y]).length c4], bx b1 57 [.int .i64 t, .int .i64 la, .slice A L.length c], bx b2 24 [.int .i64 0, .int .i64 0, .slice none 0 0]]) enL (ent_all_snoc.trans (ent_cons Split.head ent_all_snoc))
  · obtain rfl : k = L.length := by omega
    have hMp : ptys M = ptys L := by rw [hM, ← ptys_len, List.take_length]
    (repeat' (first | (show VH _ _ _ _ _ _ _; first | refine v_seq ?_ | refine r_seq ?_ | refine v_ret ?_ | refine v_exit ?_ | refine v_cond_f rfl tbL ?_) | (show SH _ _ _ _ _ (_ :: _) _ _ _; first | (show SH _ _ _ _ _ (⟨_, .move _, _, _, _, _⟩ :: _) _ _ _; refine mov evL ?_) | (show SH _ _ _ _ _ (⟨_, .binOp .lss _ _ _ _, _, _, _, _⟩ :: _) _ _ _; refine lssF rfl rfl omD ?_) | (show SH _ _ _ _ _ (⟨_, .load _ _, _, _, _, _⟩ :: _) _ _ _; first | refine lbx rfl spL (by rfl) ?_ | refine lba rfl spL (by rfl) ?_) | refine slen rfl ?_ | refine fad rfl ?_ | (show SH _ _ _ _ _ (⟨_, .store _ _ _, _, _, _, _⟩ :: _) _ _ _; refine sta rfl rfl rfl spL (by rfl) (by rfl) (by rfl) kpL ?_)) | refine s_nil ?_ | refine kh_normal ?_ | refine kh_exit ?_ | refine bh_exit ?_))
    exact rhC rfl rfl rfl (fun w hw => loadVar_bx hw spL (by rfl)) ⟨B, d, M, hMp, rfl, rfl⟩ enL
end Go.Proofs.Ytlfbcoohfnoacaa

/- PartyWrong: from the law's function (printed by gen_lw36.py). -/
namespace Go.Proofs.Ytlfbcoohfnoacaa
open Go.Fw Go.RowKit
theorem rdPz (w : World) : RdP w none [] := ⟨Rd.nil _ _, fun _ h => by simp at h⟩
theorem rows_rdR {w0 w : World} {G : List HP} {A : Option Addr} {c : Nat} {L : List PtyP} (hs : Ent G [orow 83 A c L, allH (L.map rowM), allH (L.map rowR)]) (hw : Wd w0 G w) : RdP w A L :=
  Wd.kp (Ent.wd (hs.trans ent_knp) hw) Split.head
theorem szP_set {M : List PtyP} (hz : SzP M) {y : PtyP} (h1 : y.p.mem.length ≤ 1000) (h2 : y.p.inv.length ≤ 1000) (k : Nat) : SzP (M.set k y) := by
  refine ⟨by rw [List.length_set]; exact hz.len, fun x hx => ?_, fun x hx => ?_⟩
  · rcases List.mem_or_eq_of_mem_set hx with h | rfl
    · exact hz.mem x h
    · exact h1
  · rcases List.mem_or_eq_of_mem_set hx with h | rfl
    · exact hz.inv x h
    · exact h2
set_option maxHeartbeats 16000000 in
set_option maxRecDepth 100000 in
theorem wrongLaw (t la : Int) (A : Option Addr) (L : List PtyP) (c : Nat) (x : Do3) (fault : Int) (W : World) (f0 : 0 ≤ fault) (f1 : fault ≤ 255) (hl : L.length ≤ maxLen) (hr : RdP W A L) :
    Ret Try.prog 9 [hv36 t la A L c, .agg (Flat.enc x).toArray, .int .u8 fault].toArray W (Out W (.bool true)) := by
  have haw := fun w => awake36_spec w
  have hrA := hr.1
  have hsm := fun w h => small36_spec t la A L c w hl h
  obtain ⟨xk, xa, xb⟩ := x
  rw [show Flat.enc (⟨xk, xa, xb⟩ : Do3) = [.int .i64 xk, .int .i64 xa, .int .i64 xb] from rfl]
  by_cases hS : SmallP L
  case neg =>
    simp only [decide_eq_false hS] at hsm
    refine enterH Try.func9 rfl rfl Try.ntmps9 rfl (Wd.refl _) ?_
    (repeat' (first | (show VH _ _ _ _ _ _ _; first | refine v_seq ?_ | refine r_seq ?_ | refine v_ret ?_ | refine v_skip ?_ | refine v_cond_t rfl tbL ?_ | refine v_cond_f rfl tbL ?_) | (show SH _ _ _ _ _ (_ :: _) _ _ _; first | (show SH _ _ _ _ _ (⟨_, _, _, _, _, some _⟩ :: _) _ _ _; (refine gif rfl rfl ?_; refine giFT tbL ?_)) | (show SH _ _ _ _ _ (⟨_, .move _, _, _, _, _⟩ :: _) _ _ _; refine mov evL ?_) | (show SH _ _ _ _ _ (⟨_, .assign _, _, _, _, _⟩ :: _) _ _ _; refine asg evL ?_) | (show SH _ _ _ _ _ (⟨_, .load _ _, _, _, _, _⟩ :: _) _ _ _; refine lba rfl spL (by rfl) ?_) | (show SH _ _ _ _ _ (⟨_, .call ⟨.value (.func 10), _, _⟩, _, _, _, _⟩ :: _) _ _ _; refine cl (callee := .func 10) rfl (fun w hw => haw w) rfl rfl ?_) | (show SH _ _ _ _ _ (⟨_, .call ⟨.value (.func 11), _, _⟩, _, _, _, _⟩ :: _) _ _ _; refine cl (callee := .func 11) rfl (fun w hw => hsm w (hrA.ext hw.ext)) rfl rfl ?_) | (show SH _ _ _ _ _ (⟨_, .unOp .not _ _, _, _, _, _⟩ :: _) _ _ _; first | refine bnoT rfl ?_ | refine bnoF rfl ?_) | (show SH _ _ _ _ _ (⟨_, .pick _ _ _, _, _, _, _⟩ :: _) _ _ _; refine pkt rfl tbL evL ?_) | (show SH _ _ _ _ _ (⟨_, .box _ _, _, _, _, _⟩ :: _) _ _ _; refine bxx rfl evL rfl (fun b => ?_))) | refine s_nil ?_ | refine kh_normal ?_ | refine kh_ret ?_))
    exact rh1 rfl rfl ⟨rfl, rfl⟩ (ent_nil _)
  simp only [decide_eq_true hS] at hsm
  have hz := hS.sz
  have hvs := fun w hr => valid_spec t la A L c w hz hr
  cases hval : validHal ⟨t, la, ptys L⟩ with
  | false =>
    rw [hval] at hvs
    refine enterH Try.func9 rfl rfl Try.ntmps9 rfl (Wd.refl _) ?_
    (repeat' (first | (show VH _ _ _ _ _ _ _; first | refine v_seq ?_ | refine r_seq ?_ | refine v_ret ?_ | refine v_skip ?_ | refine v_cond_t rfl tbL ?_ | refine v_cond_f rfl tbL ?_) | (show SH _ _ _ _ _ (_ :: _) _ _ _; first | (show SH _ _ _ _ _ (⟨_, _, _, _, _, some _⟩ :: _) _ _ _; (refine gif rfl rfl ?_; first | refine giFF tbL ?_ | refine giFT tbL ?_)) | (show SH _ _ _ _ _ (⟨_, .move _, _, _, _, _⟩ :: _) _ _ _; refine mov evL ?_) | (show SH _ _ _ _ _ (⟨_, .assign _, _, _, _, _⟩ :: _) _ _ _; refine asg evL ?_) | (show SH _ _ _ _ _ (⟨_, .load _ _, _, _, _, _⟩ :: _) _ _ _; refine lba rfl spL (by rfl) ?_) | (show SH _ _ _ _ _ (⟨_, .call ⟨.value (.func 10), _, _⟩, _, _, _, _⟩ :: _) _ _ _; refine cl (callee := .func 10) rfl (fun w hw => haw w) rfl rfl ?_) | (show SH _ _ _ _ _ (⟨_, .call ⟨.value (.func 11), _, _⟩, _, _, _, _⟩ :: _) _ _ _; refine cl (callee := .func 11) rfl (fun w hw => hsm w (hrA.ext hw.ext)) rfl rfl ?_) | (show SH _ _ _ _ _ (⟨_, .call ⟨.value (.func 12), _, _⟩, _, _, _, _⟩ :: _) _ _ _; refine cl (callee := .func 12) rfl (fun w hw => hvs w (hr.ext hw.ext)) rfl rfl ?_) | (show SH _ _ _ _ _ (⟨_, .unOp .not _ _, _, _, _, _⟩ :: _) _ _ _; first | refine bnoT rfl ?_ | refine bnoF rfl ?_) | (show SH _ _ _ _ _ (⟨_, .pick _ _ _, _, _, _, _⟩ :: _) _ _ _; first | refine pkt rfl tbL evL ?_ | refine pkf rfl tbL evL ?_) | (show SH _ _ _ _ _ (⟨_, .box _ _, _, _, _, _⟩ :: _) _ _ _; refine bxx rfl evL rfl (fun b => ?_))) | refine s_nil ?_ | refine kh_normal ?_ | refine kh_ret ?_))
    exact rh1 rfl rfl ⟨rfl, rfl⟩ (ent_nil _)
  | true =>
    rw [hval] at hvs
    by_cases h2 : L.length < 2
    · clear hl
      refine enterH Try.func9 rfl rfl Try.ntmps9 rfl (Wd.refl _) ?_
      (repeat' (first | (show VH _ _ _ _ _ _ _; first | refine v_seq ?_ | refine r_seq ?_ | refine v_ret ?_ | refine v_skip ?_ | refine v_cond_t rfl tbL ?_ | refine v_cond_f rfl tbL ?_) | (show SH _ _ _ _ _ (_ :: _) _ _ _; first | (show SH _ _ _ _ _ (⟨_, _, _, _, _, some _⟩ :: _) _ _ _; (refine gif rfl rfl ?_; refine giFF tbL ?_)) | (show SH _ _ _ _ _ (⟨_, .move _, _, _, _, _⟩ :: _) _ _ _; refine mov evL ?_) | (show SH _ _ _ _ _ (⟨_, .assign _, _, _, _, _⟩ :: _) _ _ _; refine asg evL ?_) | (show SH _ _ _ _ _ (⟨_, .binOp .lss _ _ _ _, _, _, _, _⟩ :: _) _ _ _; refine lssT rfl rfl omD ?_) | (show SH _ _ _ _ _ (⟨_, .load _ _, _, _, _, _⟩ :: _) _ _ _; first | refine lbx rfl spL (by rfl) ?_ | refine lba rfl spL (by rfl) ?_) | refine slen rfl ?_ | (show SH _ _ _ _ _ (⟨_, .call ⟨.value (.func 10), _, _⟩, _, _, _, _⟩ :: _) _ _ _; refine cl (callee := .func 10) rfl (fun w hw => haw w) rfl rfl ?_) | (show SH _ _ _ _ _ (⟨_, .call ⟨.value (.func 11), _, _⟩, _, _, _, _⟩ :: _) _ _ _; refine cl (callee := .func 11) rfl (fun w hw => hsm w (hrA.ext hw.ext)) rfl rfl ?_) | (show SH _ _ _ _ _ (⟨_, .call ⟨.value (.func 12), _, _⟩, _, _, _, _⟩ :: _) _ _ _; refine cl (callee := .func 12) rfl (fun w hw => hvs w (hr.ext hw.ext)) rfl rfl ?_) | refine bnoT rfl ?_ | (show SH _ _ _ _ _ (⟨_, .pick _ _ _, _, _, _, _⟩ :: _) _ _ _; refine pkf rfl tbL evL ?_) | refine fad rfl ?_ | (show SH _ _ _ _ _ (⟨_, .box _ _, _, _, _, _⟩ :: _) _ _ _; refine bxx rfl evL rfl (fun b => ?_))) | refine s_nil ?_ | refine kh_normal ?_ | refine kh_ret ?_))
      exact rh1 rfl rfl ⟨rfl, rfl⟩ (ent_nil _)
    have hV := valid_iff.1 hval
    have hll := hz.len
    have hgv := fun w hr => given_spec t la A L c w hz hr
    have h2p : 2 ≤ (⟨t, la, ptys L⟩ : Hal).ps.length := by show 2 ≤ (ptys L).length; rw [ptys_len]; omega
    clear hl
    refine enterH Try.func9 rfl rfl Try.ntmps9 rfl (Wd.refl _) ?_
    (repeat' (first | (show VH _ _ _ _ _ _ _; first | refine v_seq ?_ | refine r_seq ?_ | refine v_skip ?_ | refine v_cond_f rfl tbL ?_) | (show SH _ _ _ _ _ (_ :: _) _ _ _; first | (show SH _ _ _ _ _ (⟨_, _, _, _, _, some _⟩ :: _) _ _ _; (refine gif rfl rfl ?_; refine giFF tbL ?_)) | (show SH _ _ _ _ _ (⟨_, .move _, _, _, _, _⟩ :: _) _ _ _; refine mov evL ?_) | (show SH _ _ _ _ _ (⟨_, .assign _, _, _, _, _⟩ :: _) _ _ _; refine asg evL ?_) | (show SH _ _ _ _ _ (⟨_, .binOp .lss _ _ _ _, _, _, _, _⟩ :: _) _ _ _; refine lssF rfl rfl omD ?_) | (show SH _ _ _ _ _ (⟨_, .load _ _, _, _, _, _⟩ :: _) _ _ _; first | refine lbx rfl spL (by rfl) ?_ | refine lba rfl spL (by rfl) ?_) | refine slen rfl ?_ | (show SH _ _ _ _ _ (⟨_, .call ⟨.value (.func 10), _, _⟩, _, _, _, _⟩ :: _) _ _ _; refine cl (callee := .func 10) rfl (fun w hw => haw w) rfl rfl ?_) | (show SH _ _ _ _ _ (⟨_, .call ⟨.value (.func 11), _, _⟩, _, _, _, _⟩ :: _) _ _ _; refine cl (callee := .func 11) rfl (fun w hw => hsm w (hrA.ext hw.ext)) rfl rfl ?_) | (show SH _ _ _ _ _ (⟨_, .call ⟨.value (.func 12), _, _⟩, _, _, _, _⟩ :: _) _ _ _; refine cl (callee := .func 12) rfl (fun w hw => hvs w (hr.ext hw.ext)) rfl rfl ?_) | (show SH _ _ _ _ _ (⟨_, .call ⟨.value (.func 27), _, _⟩, _, _, _, _⟩ :: _) _ _ _; refine cp (callee := .func 27) rfl (fun w hw => hgv w (hr.ext hw.ext)) rfl rfl ?_) | refine bnoT rfl ?_ | (show SH _ _ _ _ _ (⟨_, .pick _ _ _, _, _, _, _⟩ :: _) _ _ _; refine pkf rfl tbL evL ?_) | refine fad rfl ?_ | (show SH _ _ _ _ _ (⟨_, .box _ _, _, _, _, _⟩ :: _) _ _ _; refine bxx rfl evL rfl (fun b => ?_))) | refine s_nil ?_ | refine kh_normal ?_))
    rintro _ _ ⟨Ag, cg, Mg, hgp, rfl, rfl⟩
    rename_i b3
    revert b
    intro b4
    have hzg := szP_of hgp hz
    (repeat' ((show SH _ _ _ _ _ (⟨_, .call ⟨.value (.func 26), _, _⟩, _, _, _, _⟩ :: _) _ _ _; refine cp (callee := .func 26) rfl (fun w hw => taken_spec t la Ag Mg cg w hzg (rows_rdR (c := cg) enL hw)) rfl rfl ?_)))
    rintro _ _ ⟨A2, c2, M2, hp2, rfl, rfl⟩
    rw [hgp] at hp2
    have hz2 := szP_of hp2 hz
    have hl2 : M2.length = L.length := by rw [← ptys_len M2, hp2, ptys_len]
    clear hgv hvs hsm haw hzg hgp
    (repeat' ((fail_if_success (show VH _ _ (.seq (.region 7 _ _) _) _ _ _ _)); first | (show VH _ _ _ _ _ _ _; first | refine v_seq ?_ | refine r_seq ?_) | (show SH _ _ _ _ _ (_ :: _) _ _ _; first | (show SH _ _ _ _ _ (⟨_, .assign _, _, _, _, _⟩ :: _) _ _ _; refine asg evL ?_) | (show SH _ _ _ _ _ (⟨_, .load _ _, _, _, _, _⟩ :: _) _ _ _; refine lbx rfl spL (by rfl) ?_) | (show SH _ _ _ _ _ (⟨_, .indexAddr _ _ _, _, _, _, _⟩ :: _) _ _ _; first | refine ixi rfl rfl (fun _ _ => rdP) (by rfl) omL omL omL ?_ | refine ixi rfl rfl (fun _ _ => rdP) (by rfl) omL (by first | omega | (simp only [List.length_cons, List.length_nil]; omega)) (by simp only [List.length_cons, List.length_nil]; omega) ?_) | refine fad rfl ?_ | refine ala rfl (fun b => ?_) | (show SH _ _ _ _ _ (⟨_, .store _ _ _, _, _, _, _⟩ :: _) _ _ _; refine sta rfl rfl rfl spL (by rfl) (by rfl) (by rfl) kpL ?_)) | refine s_nil ?_ | refine kh_normal ?_))
    revert b
    intro b7
    simp only [show Int.toNat 1 = 1 from rfl]
    refine v_norm [(2,_),(3,_),(4,_),(7,_),(8,_)] heL (fun g => ?_)
    refine VH.ent (G := [bx b7 24 [.int .i64 t, .int .i64 la, .slice A2 M2.length c2], orow 37 A2 c2 M2, allH (M2.map rowM), allH (M2.map rowI), bx b4 32 [.int .i64 xk, .int .i64 xa, .int .i64 xb], bx b3 24 [.int .i64 t, .int .i64 la, .slice A L.length c]]) ?_ enL
    have hk1 : 1 < M2.length := by omega
    have hk0 : 0 < L.length := by omega
    have hx1 := ptys_at hk1
    have hm1 := hz2.atm hk1
    have hi1 := hz2.ati hk1
    have hS1 : (M2.getD 1 Flat.dflt).p.mem.length + (M2.getD 1 Flat.dflt).p.inv.length ≤ 5 ∧ 1 ≤ (M2.getD 1 Flat.dflt).p.mem.length := by
      have hq := hV.ok _ (List.mem_map_of_mem (f := PtyP.p) (getD_mem (d := Flat.dflt) (show 1 < L.length by omega)))
      have he : (M2.getD 1 Flat.dflt).p = (L.getD 1 Flat.dflt).p := by rw [← hx1, hp2]; exact ptys_at (by omega)
      rw [he]
      exact ⟨hq.2.2.1, hq.2.1⟩
    have hz0 := ptys_at hk0
    have hzm := hr.mem hk0
    have hz01 : 1 ≤ (L.getD 0 Flat.dflt).p.mem.length := (hV.ok _ (List.mem_map_of_mem (f := PtyP.p) (getD_mem (d := Flat.dflt) hk0))).2.1
    have hy0 : (M2.getD 0 Flat.dflt).p = (L.getD 0 Flat.dflt).p := by rw [← ptys_at (show 0 < M2.length by omega), hp2]; exact ptys_at hk0
    have hyE0 := pty_enc (rfl : M2.getD 0 Flat.dflt = M2.getD 0 Flat.dflt)
    rw [hy0] at hyE0
    have hopM : ∀ G, Ent (allH (M2.map rowM) :: G) (rowM (M2.getD 1 Flat.dflt) :: allH ((M2.eraseIdx 1).map rowM) :: G) := fun G => ent_all_open (f := rowM) hk1
    have hopI : ∀ G, Ent (allH (M2.map rowI) :: G) (rowI (M2.getD 1 Flat.dflt) :: allH ((M2.eraseIdx 1).map rowI) :: G) := fun G => ent_all_open (f := rowI) hk1
    have hclM : ∀ y G, Ent (rowM y :: allH ((M2.eraseIdx 1).map rowM) :: G) (allH ((M2.set 1 y).map rowM) :: G) := fun y G => ent_all_close hk1
    have hclI : ∀ y G, Ent (rowI y :: allH ((M2.eraseIdx 1).map rowI) :: G) (allH ((M2.set 1 y).map rowI) :: G) := fun y G => ent_all_close hk1
    have hsM : ∀ y : PtyP, rowM y = rowM (M2.getD 1 Flat.dflt) → (M2.set 1 y).map rowM = M2.map rowM := fun y hy => by rw [List.map_set, hy]; exact set_same (f := rowM) hk1
    have hsI : ∀ y : PtyP, rowI y = rowI (M2.getD 1 Flat.dflt) → (M2.set 1 y).map rowI = M2.map rowI := fun y hy => by rw [List.map_set, hy]; exact set_same (f := rowI) hk1
    obtain ⟨x, hx⟩ : ∃ x, M2.getD 1 Flat.dflt = x := ⟨_, rfl⟩
    have hxE := pty_enc hx
    rw [hx] at hx1 hm1 hi1 hopM hopI hsM hsI hS1
    obtain ⟨z, hzz⟩ : ∃ z, L.getD 0 Flat.dflt = z := ⟨_, rfl⟩
    have hzE : Flat.enc (L.getD (Int.toNat 0) Flat.dflt) = _ := pty_enc hzz
    rw [hzz] at hz0 hzm hz01 hyE0
    clear hx hzz hy0
    obtain ⟨⟨xi, xl, xm, xv⟩, xA, xca, xB, xcb⟩ := x
    obtain ⟨⟨zi, zl, zm, zv⟩, zA, zca, zB, zcb⟩ := z
    simp only at hx1 hm1 hi1 hopM hopI hsM hsI hxE hz0 hzm hzE hz01 hyE0 hS1
    obtain ⟨s1_, s2_⟩ := hS1
    have hsetp : ∀ y : PtyP, ptys (M2.set 1 y) = (ptys L).set 1 y.p := fun y => by rw [ptys_set, hp2]
    have hx1' : (ptys L).getD 1 pty0 = ⟨xi, xl, xm, xv⟩ := by rw [← hp2]; exact hx1
    have hf : fault % 8 = 0 ∨ fault % 8 = 1 ∨ fault % 8 = 2 ∨ fault % 8 = 3 ∨ fault % 8 = 4 ∨ fault % 8 = 5 ∨ fault % 8 = 6 ∨ fault % 8 = 7 := by omega
    rcases hf with hf | hf | hf | hf | hf | hf | hf | hf
    · clear hyE0 hzm
      (repeat' (first | (show VH _ _ _ _ _ _ _; first | refine v_seq ?_ | refine r_seq ?_ | refine v_block ?_ | refine v_cond_t rfl tbL ?_) | (show SH _ _ _ _ _ (_ :: _) _ _ _; first | (show SH _ _ _ _ _ (⟨_, .move _, _, _, _, _⟩ :: _) _ _ _; refine mov evL ?_) | (show SH _ _ _ _ _ (⟨_, .assign _, _, _, _, _⟩ :: _) _ _ _; refine asg evL ?_) | (show SH _ _ _ _ _ (⟨_, .binOp .eql _ _ _ _, _, _, _, _⟩ :: _) _ _ _; refine eqlT rfl rfl omD ?_) | (show SH _ _ _ _ _ (⟨_, .binOp .rem _ _ _ _, _, _, _, _⟩ :: _) _ _ _; refine rem rfl rfl omL omL ?_) | (show SH _ _ _ _ _ (⟨_, .load _ _, _, _, _, _⟩ :: _) _ _ _; first | refine lbx rfl spL (by rfl) ?_ | refine lrg rfl (fun _ _ => rdP) (by rfl) omL (by assumption) (by rfl) ?_) | (show SH _ _ _ _ _ (⟨_, .indexAddr _ _ _, _, _, _, _⟩ :: _) _ _ _; first | refine ixi rfl rfl (fun _ _ => rdP) (by rfl) omL omL omL ?_ | refine ixi rfl rfl (fun _ _ => rdP) (by rfl) omL (by first | omega | (simp only [List.length_cons, List.length_nil]; omega)) (by simp only [List.length_cons, List.length_nil]; omega) ?_) | refine nlc rfl ?_ | refine fad rfl ?_) | refine s_nil ?_ | refine kh_normal ?_))
      refine stf (⟨⟨xi, zl, xm, xv⟩, xA, xca, xB, xcb⟩ : PtyP) rfl rfl rfl spL rfl hk1 rfl rfl (by decide) (by rw [hxE]; rfl) trivial ?_
      obtain ⟨M3, hM3⟩ : ∃ M, M2.set 1 (⟨⟨xi, zl, xm, xv⟩, xA, xca, xB, xcb⟩ : PtyP) = M := ⟨_, rfl⟩
      have hnv : ¬ VHal ⟨t, la, ptys M3⟩ := by rw [← hM3]; exact (by rw [hsetp]; have := bad_leader hV h2p; simp only [hx1', hz0] at this; exact this)
      have hz3 : SzP M3 := by rw [← hM3]; exact szP_set hz2 hm1 hi1 1
      have hl3 : M3.length = M2.length := by subst hM3; first | rfl | exact List.length_set ..
      have e1 := fun w hr => outK_of (show doR ⟨t, la, ptys M3⟩ xk xa xb = (hal0, 2) from do_bad hnv _ _ _) (one36_spec t la A2 M3 c2 xk xa xb w hz3 hr)
      have e2 := fun w hr => of_spec t la A2 M3 c2 xa w hz3 hr
      have e3 := fun w hr => share_spec t la A2 M3 c2 xb 5 w hz3 hr
      have e4 := fun w hr => valid_spec t la A2 M3 c2 w hz3 hr
      rw [of_bad hnv] at e2
      rw [share_bad hnv] at e3
      rw [show validHal ⟨t, la, ptys M3⟩ = false from Bool.eq_false_iff.2 (fun h => hnv (valid_iff.1 h))] at e4
      simp only at e3
      (repeat' ((fail_if_success (show VH _ _ (.seq (.region 23 _ _) _) _ _ _ _)); first | refine s_nil ?_ | refine kh_normal ?_ | refine bh_normal ?_))
      refine VH.ent (G := [knp A2 M3, bx b7 24 [.int .i64 t, .int .i64 la, .slice A2 M3.length c2], bx b4 32 [.int .i64 xk, .int .i64 xa, .int .i64 xb], bx b3 24 [.int .i64 t, .int .i64 la, .slice A L.length c]]) ?_ (Ent.trans (B := orow 37 A2 c2 M3 :: allH (M3.map rowM) :: allH (M3.map rowI) :: bx b7 24 [.int .i64 t, .int .i64 la, .slice A2 M3.length c2] :: bx b4 32 [.int .i64 xk, .int .i64 xa, .int .i64 xb] :: bx b3 24 [.int .i64 t, .int .i64 la, .slice A L.length c] :: []) (by rw [hl3, ← hM3]; rw [hsM (⟨⟨xi, zl, xm, xv⟩, xA, xca, xB, xcb⟩ : PtyP) rfl, hsI (⟨⟨xi, zl, xm, xv⟩, xA, xca, xB, xcb⟩ : PtyP) rfl]; exact enL) ent_knp)
      clear hM3 hnv
      (repeat' (first | (show VH _ _ _ _ _ _ _; first | refine v_seq ?_ | refine r_seq ?_) | (show SH _ _ _ _ _ (_ :: _) _ _ _; first | (show SH _ _ _ _ _ (⟨_, .load _ _, _, _, _, _⟩ :: _) _ _ _; refine lba rfl spL (by rfl) ?_) | (show SH _ _ _ _ _ (⟨_, .call ⟨.value (.func 14), _, _⟩, _, _, _, _⟩ :: _) _ _ _; refine cp (callee := .func 14) rfl (fun w hw => e1 w (Wd.kp hw spL)) rfl rfl ?_))))
      rintro _ _ ⟨A5, c5, L5, hp5, rfl, rfl⟩
      simp only at hp5 ⊢
      have hsame := fun w h1 h2 => same36_spec 0 0 0 0 A5 none L5 [] c5 0 w (szQ_sz hp5 (by decide)) (szQ_sz (ps := []) rfl (by decide)) h1 h2
      rw [show decide ((⟨0, 0, ptys L5⟩ : Hal) = ⟨0, 0, ptys []⟩) = true from decide_eq_true (by rw [hp5]; rfl)] at hsame
      (repeat' (first | (show VH _ _ _ _ _ _ _; first | refine v_seq ?_ | refine r_seq ?_) | (show SH _ _ _ _ _ (_ :: _) _ _ _; first | (show SH _ _ _ _ _ (⟨_, .move _, _, _, _, _⟩ :: _) _ _ _; refine mov evL ?_) | (show SH _ _ _ _ _ (⟨_, .assign _, _, _, _, _⟩ :: _) _ _ _; refine asg evL ?_) | (show SH _ _ _ _ _ (⟨_, .load _ _, _, _, _, _⟩ :: _) _ _ _; first | refine lbx rfl spL (by rfl) ?_ | refine lba rfl spL (by rfl) ?_) | (show SH _ _ _ _ _ (⟨_, .call ⟨.value (.func 17), _, _⟩, _, _, _, _⟩ :: _) _ _ _; refine cp (callee := .func 17) rfl (fun w hw => e2 w (Wd.kp hw spL)) rfl rfl ?_) | refine extr rfl rfl ?_ | refine fad rfl ?_ | refine ala rfl (fun b => ?_) | (show SH _ _ _ _ _ (⟨_, .store _ _ _, _, _, _, _⟩ :: _) _ _ _; refine sta rfl rfl rfl spL (by rfl) (by rfl) (by rfl) kpL ?_)) | refine s_nil ?_ | refine kh_normal ?_))
      rintro _ _ ⟨rfl, rfl⟩
      (repeat' (first | (show VH _ _ _ _ _ _ _; first | refine v_seq ?_ | refine r_seq ?_) | (show SH _ _ _ _ _ (_ :: _) _ _ _; first | (show SH _ _ _ _ _ (⟨_, .move _, _, _, _, _⟩ :: _) _ _ _; refine mov evL ?_) | (show SH _ _ _ _ _ (⟨_, .assign _, _, _, _, _⟩ :: _) _ _ _; refine asg evL ?_) | (show SH _ _ _ _ _ (⟨_, .load _ _, _, _, _, _⟩ :: _) _ _ _; first | refine lbx rfl spL (by rfl) ?_ | refine lba rfl spL (by rfl) ?_) | (show SH _ _ _ _ _ (⟨_, .call ⟨.value (.func 25), _, _⟩, _, _, _, _⟩ :: _) _ _ _; refine cp (callee := .func 25) rfl (fun w hw => e3 w (Wd.kp hw spL)) rfl rfl ?_) | refine extr rfl rfl ?_ | refine fad rfl ?_ | refine ala rfl (fun b => ?_) | (show SH _ _ _ _ _ (⟨_, .store _ _ _, _, _, _, _⟩ :: _) _ _ _; refine sta rfl rfl rfl spL (by rfl) (by rfl) (by rfl) kpL ?_)) | refine s_nil ?_ | refine kh_normal ?_))
      rintro _ _ ⟨A6, c6, rfl, rfl⟩
      (repeat' (first | (show VH _ _ _ _ _ _ _; first | refine v_seq ?_ | refine r_seq ?_ | refine v_ret ?_) | (show SH _ _ _ _ _ (_ :: _) _ _ _; first | (show SH _ _ _ _ _ (⟨_, _, _, _, _, some _⟩ :: _) _ _ _; (refine gif rfl rfl ?_; refine giTT tbL ?_)) | (show SH _ _ _ _ _ (⟨_, .move _, _, _, _, _⟩ :: _) _ _ _; refine mov evL ?_) | (show SH _ _ _ _ _ (⟨_, .assign _, _, _, _, _⟩ :: _) _ _ _; refine asg evL ?_) | (show SH _ _ _ _ _ (⟨_, .binOp .eql _ _ _ _, _, _, _, _⟩ :: _) _ _ _; first | refine eqlT rfl rfl omD ?_ | refine eql rfl rfl ?_) | (show SH _ _ _ _ _ (⟨_, .load _ _, _, _, _, _⟩ :: _) _ _ _; first | refine lbx rfl spL (by rfl) ?_ | refine lba rfl spL (by rfl) ?_) | refine slen rfl ?_ | (show SH _ _ _ _ _ (⟨_, .call ⟨.value (.func 12), _, _⟩, _, _, _, _⟩ :: _) _ _ _; refine cl (callee := .func 12) rfl (fun w hw => e4 w (Wd.kp hw spL)) rfl rfl ?_) | (show SH _ _ _ _ _ (⟨_, .call ⟨.value (.func 15), _, _⟩, _, _, _, _⟩ :: _) _ _ _; refine cl (callee := .func 15) rfl (fun w hw => hsame w (Wd.kp hw spL) (rdPz w)) rfl rfl ?_) | refine bnoF rfl ?_ | (show SH _ _ _ _ _ (⟨_, .pick _ _ _, _, _, _, _⟩ :: _) _ _ _; refine pkt rfl tbL evL ?_) | refine extr rfl rfl ?_ | refine fad rfl ?_ | refine bld rfl rfl ?_) | refine s_nil ?_ | refine kh_normal ?_))
      exact rh1 rfl rfl ⟨rfl, rfl⟩ (ent_nil _)
    · have hu : zm.getD (Int.toNat 0) 0 ∈ zm := getD_mem (d := (0 : Int)) (show 0 < zm.length by omega)
      obtain ⟨u, hue⟩ : ∃ u, zm.getD (Int.toNat 0) 0 = u := ⟨_, rfl⟩
      rw [hue] at hu
      clear hyE0
      unfold rowM at hopM
      refine VH.ent (G := [bx b7 24 [.int .i64 t, .int .i64 la, .slice A2 M2.length c2], orow 37 A2 c2 M2, orow 3 xA xca xm, allH ((M2.eraseIdx 1).map rowM), allH (M2.map rowI), bx b4 32 [.int .i64 xk, .int .i64 xa, .int .i64 xb], bx b3 24 [.int .i64 t, .int .i64 la, .slice A L.length c]]) ?_ (Ent.trans (B := allH (M2.map rowM) :: bx b7 24 [.int .i64 t, .int .i64 la, .slice A2 M2.length c2] :: orow 37 A2 c2 M2 :: allH (M2.map rowI) :: bx b4 32 [.int .i64 xk, .int .i64 xa, .int .i64 xb] :: bx b3 24 [.int .i64 t, .int .i64 la, .slice A L.length c] :: []) enL ((hopM _).trans enL))
      (repeat' (first | (show VH _ _ _ _ _ _ _; first | refine v_seq ?_ | refine r_seq ?_ | refine v_block ?_ | refine v_cond_t rfl tbL ?_ | refine v_cond_f rfl tbL ?_) | (show SH _ _ _ _ _ (_ :: _) _ _ _; first | (show SH _ _ _ _ _ (⟨_, .move _, _, _, _, _⟩ :: _) _ _ _; refine mov evL ?_) | (show SH _ _ _ _ _ (⟨_, .assign _, _, _, _, _⟩ :: _) _ _ _; refine asg evL ?_) | (show SH _ _ _ _ _ (⟨_, .binOp .eql _ _ _ _, _, _, _, _⟩ :: _) _ _ _; first | refine eqlT rfl rfl omD ?_ | refine eqlF rfl rfl omD ?_) | (show SH _ _ _ _ _ (⟨_, .binOp .rem _ _ _ _, _, _, _, _⟩ :: _) _ _ _; refine rem rfl rfl omL omL ?_)) | refine s_nil ?_ | refine kh_normal ?_))
      refine r_heldT [bx b3 24 [.int .i64 t, .int .i64 la, .slice A L.length c]] (tr [(0, true), (1, true), (2, true), (3, true), (5, true), (6, true), (7, true), (8, true), (9, true), (10, true), (11, true)] (.fork 4 (tr [(12, false), (13, false), (14, false), (15, false), (16, false)] .nil) 12 (tr [(4, false), (13, false), (14, false), (15, false), (16, false)] .nil))) hmix (by kernel_rfl) enL ?_
      (repeat' (first | (show SH _ _ _ _ _ (_ :: _) _ _ _; first | (show SH _ _ _ _ _ (⟨_, .move _, _, _, _, _⟩ :: _) _ _ _; refine mov evL ?_) | (show SH _ _ _ _ _ (⟨_, .load _ _, _, _, _, _⟩ :: _) _ _ _; first | refine lbx rfl spL (by rfl) ?_ | refine lgi rfl (fun _ _ => rdP) omL (by assumption) ?_ | refine lrg rfl (fun _ _ => rdP) (by rfl) omL (by assumption) (by rfl) ?_) | (show SH _ _ _ _ _ (⟨_, .indexAddr _ _ _, _, _, _, _⟩ :: _) _ _ _; first | refine ixi rfl rfl (fun _ _ => rdP) (by rfl) omL omL omL ?_ | refine ixi rfl rfl (fun _ _ => rdP) (by rfl) omL (by first | omega | (simp only [List.length_cons, List.length_nil]; omega)) (by simp only [List.length_cons, List.length_nil]; omega) ?_) | refine nlc rfl ?_ | refine fad rfl ?_ | (show SH _ _ _ _ _ (⟨_, .buildSlice _ _ _, _, _, _, _⟩ :: _) _ _ _; refine bsl (α := Int) rfl rfl (by repeat (first | exact Vals.nil | (apply Vals.cons; rfl))) rfl (by rfl) (by decide) (fun b => ?_))) | refine s_fork ?_ ?_))
      all_goals
        refine app (l := xm) (l2 := [u]) rfl rfl rfl spL (fun w hw => hw.rd spL) rfl rfl rfl (by simp only [List.length_singleton]; omega) (by simp only [List.length_singleton]; omega) (fun A4 c4 => ⟨enL, ?_⟩)
        (repeat' ((show SH _ _ _ _ _ (_ :: _) _ _ _; first | refine nlc rfl ?_ | refine fad rfl ?_)))
        refine stf (⟨⟨xi, xl, xm ++ [u], xv⟩, A4, c4, xB, xcb⟩ : PtyP) rfl rfl rfl spL rfl hk1 rfl rfl (by decide) (by rw [hxE]; rfl) enL ?_
        obtain ⟨M3, hM3⟩ : ∃ M, M2.set 1 (⟨⟨xi, xl, xm ++ [u], xv⟩, A4, c4, xB, xcb⟩ : PtyP) = M := ⟨_, rfl⟩
        have hnv : ¬ VHal ⟨t, la, ptys M3⟩ := by rw [← hM3]; exact (by rw [hsetp]; have := bad_member hV h2p (x := u) (by show u ∈ ((ptys L).getD 0 pty0).mem; rw [hz0]; exact hu); simp only [hx1'] at this; exact this)
        have hz3 : SzP M3 := by rw [← hM3]; exact szP_set hz2 (by show (xm ++ [u]).length ≤ 1000; rw [List.length_append, List.length_singleton]; omega) hi1 1
        have hl3 : M3.length = M2.length := by subst hM3; first | rfl | exact List.length_set ..
        have e1 := fun w hr => outK_of (show doR ⟨t, la, ptys M3⟩ xk xa xb = (hal0, 2) from do_bad hnv _ _ _) (one36_spec t la A2 M3 c2 xk xa xb w hz3 hr)
        have e2 := fun w hr => of_spec t la A2 M3 c2 xa w hz3 hr
        have e3 := fun w hr => share_spec t la A2 M3 c2 xb 5 w hz3 hr
        have e4 := fun w hr => valid_spec t la A2 M3 c2 w hz3 hr
        rw [of_bad hnv] at e2
        rw [share_bad hnv] at e3
        rw [show validHal ⟨t, la, ptys M3⟩ = false from Bool.eq_false_iff.2 (fun h => hnv (valid_iff.1 h))] at e4
        simp only at e3
        (repeat' ((fail_if_success (show VH _ _ (.seq (.region 23 _ _) _) _ _ _ _)); first | refine s_nil ?_ | refine kh_normal ?_ | refine bh_normal ?_))
        refine VH.ent (G := [knp A2 M3, bx b7 24 [.int .i64 t, .int .i64 la, .slice A2 M3.length c2], bx b4 32 [.int .i64 xk, .int .i64 xa, .int .i64 xb], bx b3 24 [.int .i64 t, .int .i64 la, .slice A L.length c]]) ?_ (Ent.trans (B := orow 37 A2 c2 M3 :: allH (M3.map rowM) :: allH (M3.map rowI) :: bx b7 24 [.int .i64 t, .int .i64 la, .slice A2 M3.length c2] :: bx b4 32 [.int .i64 xk, .int .i64 xa, .int .i64 xb] :: bx b3 24 [.int .i64 t, .int .i64 la, .slice A L.length c] :: []) (by rw [hl3, ← hM3]; rw [hsI (⟨⟨xi, xl, xm ++ [u], xv⟩, A4, c4, xB, xcb⟩ : PtyP) rfl]; exact Ent.trans (B := rowM (⟨⟨xi, xl, xm ++ [u], xv⟩, A4, c4, xB, xcb⟩ : PtyP) :: allH ((M2.eraseIdx 1).map rowM) :: orow 37 A2 c2 (M2.set 1 (⟨⟨xi, xl, xm ++ [u], xv⟩, A4, c4, xB, xcb⟩ : PtyP)) :: allH (M2.map rowI) :: bx b7 24 [.int .i64 t, .int .i64 la, .slice A2 M2.length c2] :: bx b4 32 [.int .i64 xk, .int .i64 xa, .int .i64 xb] :: bx b3 24 [.int .i64 t, .int .i64 la, .slice A L.length c] :: []) enL ((hclM _ _).trans enL)) ent_knp)
        clear hM3 hnv
        (repeat' (first | (show VH _ _ _ _ _ _ _; first | refine v_seq ?_ | refine r_seq ?_) | (show SH _ _ _ _ _ (_ :: _) _ _ _; first | (show SH _ _ _ _ _ (⟨_, .load _ _, _, _, _, _⟩ :: _) _ _ _; refine lba rfl spL (by rfl) ?_) | (show SH _ _ _ _ _ (⟨_, .call ⟨.value (.func 14), _, _⟩, _, _, _, _⟩ :: _) _ _ _; refine cp (callee := .func 14) rfl (fun w hw => e1 w (Wd.kp hw spL)) rfl rfl ?_))))
        rintro _ _ ⟨A5, c5, L5, hp5, rfl, rfl⟩
        simp only at hp5 ⊢
        have hsame := fun w h1 h2 => same36_spec 0 0 0 0 A5 none L5 [] c5 0 w (szQ_sz hp5 (by decide)) (szQ_sz (ps := []) rfl (by decide)) h1 h2
        rw [show decide ((⟨0, 0, ptys L5⟩ : Hal) = ⟨0, 0, ptys []⟩) = true from decide_eq_true (by rw [hp5]; rfl)] at hsame
        (repeat' (first | (show VH _ _ _ _ _ _ _; first | refine v_seq ?_ | refine r_seq ?_) | (show SH _ _ _ _ _ (_ :: _) _ _ _; first | (show SH _ _ _ _ _ (⟨_, .move _, _, _, _, _⟩ :: _) _ _ _; refine mov evL ?_) | (show SH _ _ _ _ _ (⟨_, .assign _, _, _, _, _⟩ :: _) _ _ _; refine asg evL ?_) | (show SH _ _ _ _ _ (⟨_, .load _ _, _, _, _, _⟩ :: _) _ _ _; first | refine lbx rfl spL (by rfl) ?_ | refine lba rfl spL (by rfl) ?_) | (show SH _ _ _ _ _ (⟨_, .call ⟨.value (.func 17), _, _⟩, _, _, _, _⟩ :: _) _ _ _; refine cp (callee := .func 17) rfl (fun w hw => e2 w (Wd.kp hw spL)) rfl rfl ?_) | refine extr rfl rfl ?_ | refine fad rfl ?_ | refine ala rfl (fun b => ?_) | (show SH _ _ _ _ _ (⟨_, .store _ _ _, _, _, _, _⟩ :: _) _ _ _; refine sta rfl rfl rfl spL (by rfl) (by rfl) (by rfl) kpL ?_)) | refine s_nil ?_ | refine kh_normal ?_))
        rintro _ _ ⟨rfl, rfl⟩
        (repeat' (first | (show VH _ _ _ _ _ _ _; first | refine v_seq ?_ | refine r_seq ?_) | (show SH _ _ _ _ _ (_ :: _) _ _ _; first | (show SH _ _ _ _ _ (⟨_, .move _, _, _, _, _⟩ :: _) _ _ _; refine mov evL ?_) | (show SH _ _ _ _ _ (⟨_, .assign _, _, _, _, _⟩ :: _) _ _ _; refine asg evL ?_) | (show SH _ _ _ _ _ (⟨_, .load _ _, _, _, _, _⟩ :: _) _ _ _; first | refine lbx rfl spL (by rfl) ?_ | refine lba rfl spL (by rfl) ?_) | (show SH _ _ _ _ _ (⟨_, .call ⟨.value (.func 25), _, _⟩, _, _, _, _⟩ :: _) _ _ _; refine cp (callee := .func 25) rfl (fun w hw => e3 w (Wd.kp hw spL)) rfl rfl ?_) | refine extr rfl rfl ?_ | refine fad rfl ?_ | refine ala rfl (fun b => ?_) | (show SH _ _ _ _ _ (⟨_, .store _ _ _, _, _, _, _⟩ :: _) _ _ _; refine sta rfl rfl rfl spL (by rfl) (by rfl) (by rfl) kpL ?_)) | refine s_nil ?_ | refine kh_normal ?_))
        rintro _ _ ⟨A6, c6, rfl, rfl⟩
        (repeat' (first | (show VH _ _ _ _ _ _ _; first | refine v_seq ?_ | refine r_seq ?_ | refine v_ret ?_) | (show SH _ _ _ _ _ (_ :: _) _ _ _; first | (show SH _ _ _ _ _ (⟨_, _, _, _, _, some _⟩ :: _) _ _ _; (refine gif rfl rfl ?_; refine giTT tbL ?_)) | (show SH _ _ _ _ _ (⟨_, .move _, _, _, _, _⟩ :: _) _ _ _; refine mov evL ?_) | (show SH _ _ _ _ _ (⟨_, .assign _, _, _, _, _⟩ :: _) _ _ _; refine asg evL ?_) | (show SH _ _ _ _ _ (⟨_, .binOp .eql _ _ _ _, _, _, _, _⟩ :: _) _ _ _; first | refine eqlT rfl rfl omD ?_ | refine eql rfl rfl ?_) | (show SH _ _ _ _ _ (⟨_, .load _ _, _, _, _, _⟩ :: _) _ _ _; first | refine lbx rfl spL (by rfl) ?_ | refine lba rfl spL (by rfl) ?_) | refine slen rfl ?_ | (show SH _ _ _ _ _ (⟨_, .call ⟨.value (.func 12), _, _⟩, _, _, _, _⟩ :: _) _ _ _; refine cl (callee := .func 12) rfl (fun w hw => e4 w (Wd.kp hw spL)) rfl rfl ?_) | (show SH _ _ _ _ _ (⟨_, .call ⟨.value (.func 15), _, _⟩, _, _, _, _⟩ :: _) _ _ _; refine cl (callee := .func 15) rfl (fun w hw => hsame w (Wd.kp hw spL) (rdPz w)) rfl rfl ?_) | refine bnoF rfl ?_ | (show SH _ _ _ _ _ (⟨_, .pick _ _ _, _, _, _, _⟩ :: _) _ _ _; refine pkt rfl tbL evL ?_) | refine extr rfl rfl ?_ | refine fad rfl ?_ | refine bld rfl rfl ?_) | refine s_nil ?_ | refine kh_normal ?_))
        exact rh1 rfl rfl ⟨rfl, rfl⟩ (ent_nil _)
    · have hyE1 : Flat.enc (M2.getD (Int.toNat 0) Flat.dflt) = _ := hyE0
      clear hyE0 hzm
      (repeat' (first | (show VH _ _ _ _ _ _ _; first | refine v_seq ?_ | refine r_seq ?_ | refine v_block ?_ | refine v_cond_t rfl tbL ?_ | refine v_cond_f rfl tbL ?_) | (show SH _ _ _ _ _ (_ :: _) _ _ _; first | (show SH _ _ _ _ _ (⟨_, .move _, _, _, _, _⟩ :: _) _ _ _; refine mov evL ?_) | (show SH _ _ _ _ _ (⟨_, .assign _, _, _, _, _⟩ :: _) _ _ _; refine asg evL ?_) | (show SH _ _ _ _ _ (⟨_, .binOp .eql _ _ _ _, _, _, _, _⟩ :: _) _ _ _; first | refine eqlT rfl rfl omD ?_ | refine eqlF rfl rfl omD ?_) | (show SH _ _ _ _ _ (⟨_, .binOp .rem _ _ _ _, _, _, _, _⟩ :: _) _ _ _; refine rem rfl rfl omL omL ?_) | (show SH _ _ _ _ _ (⟨_, .load _ _, _, _, _, _⟩ :: _) _ _ _; first | refine lbx rfl spL (by rfl) ?_ | refine lrg rfl (fun _ _ => rdP) (by rfl) omL (by assumption) (by rfl) ?_) | (show SH _ _ _ _ _ (⟨_, .indexAddr _ _ _, _, _, _, _⟩ :: _) _ _ _; first | refine ixi rfl rfl (fun _ _ => rdP) (by rfl) omL omL omL ?_ | refine ixi rfl rfl (fun _ _ => rdP) (by rfl) omL (by first | omega | (simp only [List.length_cons, List.length_nil]; omega)) (by simp only [List.length_cons, List.length_nil]; omega) ?_) | refine nlc rfl ?_ | refine fad rfl ?_) | refine s_nil ?_ | refine kh_normal ?_))
      refine stf (⟨⟨zi, xl, xm, xv⟩, xA, xca, xB, xcb⟩ : PtyP) rfl rfl rfl spL rfl hk1 rfl rfl (by decide) (by rw [hxE]; rfl) trivial ?_
      obtain ⟨M3, hM3⟩ : ∃ M, M2.set 1 (⟨⟨zi, xl, xm, xv⟩, xA, xca, xB, xcb⟩ : PtyP) = M := ⟨_, rfl⟩
      have hnv : ¬ VHal ⟨t, la, ptys M3⟩ := by rw [← hM3]; exact (by rw [hsetp]; have := bad_id (h := ⟨t, la, ptys L⟩) h2p; simp only [hx1', hz0] at this; exact this)
      have hz3 : SzP M3 := by rw [← hM3]; exact szP_set hz2 hm1 hi1 1
      have hl3 : M3.length = M2.length := by subst hM3; first | rfl | exact List.length_set ..
      have e1 := fun w hr => outK_of (show doR ⟨t, la, ptys M3⟩ xk xa xb = (hal0, 2) from do_bad hnv _ _ _) (one36_spec t la A2 M3 c2 xk xa xb w hz3 hr)
      have e2 := fun w hr => of_spec t la A2 M3 c2 xa w hz3 hr
      have e3 := fun w hr => share_spec t la A2 M3 c2 xb 5 w hz3 hr
      have e4 := fun w hr => valid_spec t la A2 M3 c2 w hz3 hr
      rw [of_bad hnv] at e2
      rw [share_bad hnv] at e3
      rw [show validHal ⟨t, la, ptys M3⟩ = false from Bool.eq_false_iff.2 (fun h => hnv (valid_iff.1 h))] at e4
      simp only at e3
      (repeat' ((fail_if_success (show VH _ _ (.seq (.region 23 _ _) _) _ _ _ _)); first | refine s_nil ?_ | refine kh_normal ?_ | refine bh_normal ?_))
      refine VH.ent (G := [knp A2 M3, bx b7 24 [.int .i64 t, .int .i64 la, .slice A2 M3.length c2], bx b4 32 [.int .i64 xk, .int .i64 xa, .int .i64 xb], bx b3 24 [.int .i64 t, .int .i64 la, .slice A L.length c]]) ?_ (Ent.trans (B := orow 37 A2 c2 M3 :: allH (M3.map rowM) :: allH (M3.map rowI) :: bx b7 24 [.int .i64 t, .int .i64 la, .slice A2 M3.length c2] :: bx b4 32 [.int .i64 xk, .int .i64 xa, .int .i64 xb] :: bx b3 24 [.int .i64 t, .int .i64 la, .slice A L.length c] :: []) (by rw [hl3, ← hM3]; rw [hsM (⟨⟨zi, xl, xm, xv⟩, xA, xca, xB, xcb⟩ : PtyP) rfl, hsI (⟨⟨zi, xl, xm, xv⟩, xA, xca, xB, xcb⟩ : PtyP) rfl]; exact enL) ent_knp)
      clear hM3 hnv
      (repeat' (first | (show VH _ _ _ _ _ _ _; first | refine v_seq ?_ | refine r_seq ?_) | (show SH _ _ _ _ _ (_ :: _) _ _ _; first | (show SH _ _ _ _ _ (⟨_, .load _ _, _, _, _, _⟩ :: _) _ _ _; refine lba rfl spL (by rfl) ?_) | (show SH _ _ _ _ _ (⟨_, .call ⟨.value (.func 14), _, _⟩, _, _, _, _⟩ :: _) _ _ _; refine cp (callee := .func 14) rfl (fun w hw => e1 w (Wd.kp hw spL)) rfl rfl ?_))))
      rintro _ _ ⟨A5, c5, L5, hp5, rfl, rfl⟩
      simp only at hp5 ⊢
      have hsame := fun w h1 h2 => same36_spec 0 0 0 0 A5 none L5 [] c5 0 w (szQ_sz hp5 (by decide)) (szQ_sz (ps := []) rfl (by decide)) h1 h2
      rw [show decide ((⟨0, 0, ptys L5⟩ : Hal) = ⟨0, 0, ptys []⟩) = true from decide_eq_true (by rw [hp5]; rfl)] at hsame
      (repeat' (first | (show VH _ _ _ _ _ _ _; first | refine v_seq ?_ | refine r_seq ?_) | (show SH _ _ _ _ _ (_ :: _) _ _ _; first | (show SH _ _ _ _ _ (⟨_, .move _, _, _, _, _⟩ :: _) _ _ _; refine mov evL ?_) | (show SH _ _ _ _ _ (⟨_, .assign _, _, _, _, _⟩ :: _) _ _ _; refine asg evL ?_) | (show SH _ _ _ _ _ (⟨_, .load _ _, _, _, _, _⟩ :: _) _ _ _; first | refine lbx rfl spL (by rfl) ?_ | refine lba rfl spL (by rfl) ?_) | (show SH _ _ _ _ _ (⟨_, .call ⟨.value (.func 17), _, _⟩, _, _, _, _⟩ :: _) _ _ _; refine cp (callee := .func 17) rfl (fun w hw => e2 w (Wd.kp hw spL)) rfl rfl ?_) | refine extr rfl rfl ?_ | refine fad rfl ?_ | refine ala rfl (fun b => ?_) | (show SH _ _ _ _ _ (⟨_, .store _ _ _, _, _, _, _⟩ :: _) _ _ _; refine sta rfl rfl rfl spL (by rfl) (by rfl) (by rfl) kpL ?_)) | refine s_nil ?_ | refine kh_normal ?_))
      rintro _ _ ⟨rfl, rfl⟩
      (repeat' (first | (show VH _ _ _ _ _ _ _; first | refine v_seq ?_ | refine r_seq ?_) | (show SH _ _ _ _ _ (_ :: _) _ _ _; first | (show SH _ _ _ _ _ (⟨_, .move _, _, _, _, _⟩ :: _) _ _ _; refine mov evL ?_) | (show SH _ _ _ _ _ (⟨_, .assign _, _, _, _, _⟩ :: _) _ _ _; refine asg evL ?_) | (show SH _ _ _ _ _ (⟨_, .load _ _, _, _, _, _⟩ :: _) _ _ _; first | refine lbx rfl spL (by rfl) ?_ | refine lba rfl spL (by rfl) ?_) | (show SH _ _ _ _ _ (⟨_, .call ⟨.value (.func 25), _, _⟩, _, _, _, _⟩ :: _) _ _ _; refine cp (callee := .func 25) rfl (fun w hw => e3 w (Wd.kp hw spL)) rfl rfl ?_) | refine extr rfl rfl ?_ | refine fad rfl ?_ | refine ala rfl (fun b => ?_) | (show SH _ _ _ _ _ (⟨_, .store _ _ _, _, _, _, _⟩ :: _) _ _ _; refine sta rfl rfl rfl spL (by rfl) (by rfl) (by rfl) kpL ?_)) | refine s_nil ?_ | refine kh_normal ?_))
      rintro _ _ ⟨A6, c6, rfl, rfl⟩
      (repeat' (first | (show VH _ _ _ _ _ _ _; first | refine v_seq ?_ | refine r_seq ?_ | refine v_ret ?_) | (show SH _ _ _ _ _ (_ :: _) _ _ _; first | (show SH _ _ _ _ _ (⟨_, _, _, _, _, some _⟩ :: _) _ _ _; (refine gif rfl rfl ?_; refine giTT tbL ?_)) | (show SH _ _ _ _ _ (⟨_, .move _, _, _, _, _⟩ :: _) _ _ _; refine mov evL ?_) | (show SH _ _ _ _ _ (⟨_, .assign _, _, _, _, _⟩ :: _) _ _ _; refine asg evL ?_) | (show SH _ _ _ _ _ (⟨_, .binOp .eql _ _ _ _, _, _, _, _⟩ :: _) _ _ _; first | refine eqlT rfl rfl omD ?_ | refine eql rfl rfl ?_) | (show SH _ _ _ _ _ (⟨_, .load _ _, _, _, _, _⟩ :: _) _ _ _; first | refine lbx rfl spL (by rfl) ?_ | refine lba rfl spL (by rfl) ?_) | refine slen rfl ?_ | (show SH _ _ _ _ _ (⟨_, .call ⟨.value (.func 12), _, _⟩, _, _, _, _⟩ :: _) _ _ _; refine cl (callee := .func 12) rfl (fun w hw => e4 w (Wd.kp hw spL)) rfl rfl ?_) | (show SH _ _ _ _ _ (⟨_, .call ⟨.value (.func 15), _, _⟩, _, _, _, _⟩ :: _) _ _ _; refine cl (callee := .func 15) rfl (fun w hw => hsame w (Wd.kp hw spL) (rdPz w)) rfl rfl ?_) | refine bnoF rfl ?_ | (show SH _ _ _ _ _ (⟨_, .pick _ _ _, _, _, _, _⟩ :: _) _ _ _; refine pkt rfl tbL evL ?_) | refine extr rfl rfl ?_ | refine fad rfl ?_ | refine bld rfl rfl ?_) | refine s_nil ?_ | refine kh_normal ?_))
      exact rh1 rfl rfl ⟨rfl, rfl⟩ (ent_nil _)
    · have hq3 : ((M2.length : Int) - 1).toNat = M2.length - 1 := by omega
      obtain ⟨q, hq⟩ : ∃ q, M2.getD ((M2.length : Int) - 1).toNat Flat.dflt = q := ⟨_, rfl⟩
      have hqE := pty_enc hq
      have hqi : ((ptys L).getD (M2.length - 1) pty0).id = q.p.id := by rw [← hp2, ptys_at (by omega), ← hq, hq3]
      have hqv := hV.ok _ (List.mem_map_of_mem (f := PtyP.p) (getD_mem (d := Flat.dflt) (show M2.length - 1 < L.length by omega)))
      rw [← ptys_at (show M2.length - 1 < L.length by omega)] at hqv
      have hq1 : q.p.id ≤ 1048576 := by have h1 := hqv.1; have h2 := hV.l1; rw [hqi] at h1; simp only at h1 h2; omega
      have hq0 : 0 < q.p.id := by rw [← hqi]; exact hV.pos _ (by rw [ptys_at (show M2.length - 1 < L.length by omega)]; exact List.mem_map_of_mem (getD_mem (d := Flat.dflt) (by omega)))
      clear hyE0 hzm hqv hq
      obtain ⟨⟨qi, ql, qm, qv⟩, qA, qca, qB, qcb⟩ := q
      simp only at hqE hqi hq1 hq0
      obtain ⟨M3, hM3⟩ : ∃ M, M2 = M := ⟨_, rfl⟩
      have hnv : ¬ VHal ⟨t, (qi - 1), ptys M3⟩ := by rw [← hM3]; exact (by rw [hp2, ← hqi]; exact bad_last (h := ⟨t, la, ptys L⟩) (by show M2.length - 1 < (ptys L).length; rw [ptys_len]; omega))
      have hz3 : SzP M3 := by rw [← hM3]; exact hz2
      have hl3 : M3.length = M2.length := by subst hM3; first | rfl | exact List.length_set ..
      have e1 := fun w hr => outK_of (show doR ⟨t, (qi - 1), ptys M3⟩ xk xa xb = (hal0, 2) from do_bad hnv _ _ _) (one36_spec t (qi - 1) A2 M3 c2 xk xa xb w hz3 hr)
      have e2 := fun w hr => of_spec t (qi - 1) A2 M3 c2 xa w hz3 hr
      have e3 := fun w hr => share_spec t (qi - 1) A2 M3 c2 xb 5 w hz3 hr
      have e4 := fun w hr => valid_spec t (qi - 1) A2 M3 c2 w hz3 hr
      rw [of_bad hnv] at e2
      rw [share_bad hnv] at e3
      rw [show validHal ⟨t, (qi - 1), ptys M3⟩ = false from Bool.eq_false_iff.2 (fun h => hnv (valid_iff.1 h))] at e4
      simp only at e3
      (repeat' ((fail_if_success (show VH _ _ (.seq (.region 23 _ _) _) _ _ _ _)); first | (show VH _ _ _ _ _ _ _; first | refine v_seq ?_ | refine r_seq ?_ | refine v_block ?_ | refine v_cond_t rfl tbL ?_ | refine v_cond_f rfl tbL ?_) | (show SH _ _ _ _ _ (_ :: _) _ _ _; first | (show SH _ _ _ _ _ (⟨_, .move _, _, _, _, _⟩ :: _) _ _ _; refine mov evL ?_) | (show SH _ _ _ _ _ (⟨_, .assign _, _, _, _, _⟩ :: _) _ _ _; refine asg evL ?_) | (show SH _ _ _ _ _ (⟨_, .binOp .eql _ _ _ _, _, _, _, _⟩ :: _) _ _ _; first | refine eqlT rfl rfl omD ?_ | refine eqlF rfl rfl omD ?_) | (show SH _ _ _ _ _ (⟨_, .binOp .sub _ _ _ _, _, _, _, _⟩ :: _) _ _ _; refine sub rfl rfl inL ?_) | (show SH _ _ _ _ _ (⟨_, .binOp .rem _ _ _ _, _, _, _, _⟩ :: _) _ _ _; refine rem rfl rfl omL omL ?_) | (show SH _ _ _ _ _ (⟨_, .load _ _, _, _, _, _⟩ :: _) _ _ _; first | refine lbx rfl spL (by rfl) ?_ | refine lrg rfl (fun _ _ => rdP) (by rfl) omL (by assumption) (by rfl) ?_) | (show SH _ _ _ _ _ (⟨_, .indexAddr _ _ _, _, _, _, _⟩ :: _) _ _ _; first | refine ixi rfl rfl (fun _ _ => rdP) (by rfl) omL omL omL ?_ | refine ixi rfl rfl (fun _ _ => rdP) (by rfl) omL (by first | omega | (simp only [List.length_cons, List.length_nil]; omega)) (by simp only [List.length_cons, List.length_nil]; omega) ?_) | refine slen rfl ?_ | refine fad rfl ?_ | (show SH _ _ _ _ _ (⟨_, .store _ _ _, _, _, _, _⟩ :: _) _ _ _; refine stb rfl rfl evL spL rfl rfl (by first | decide | exact Nat.zero_lt_succ _ | exact of_decide_eq_true rfl) kpL ?_)) | refine s_nil ?_ | refine kh_normal ?_ | refine bh_normal ?_))
      refine VH.ent (G := [knp A2 M3, bx b7 24 [.int .i64 t, .int .i64 (qi - 1), .slice A2 M3.length c2], bx b4 32 [.int .i64 xk, .int .i64 xa, .int .i64 xb], bx b3 24 [.int .i64 t, .int .i64 la, .slice A L.length c]]) ?_ (Ent.trans (B := orow 37 A2 c2 M3 :: allH (M3.map rowM) :: allH (M3.map rowI) :: bx b7 24 [.int .i64 t, .int .i64 (qi - 1), .slice A2 M3.length c2] :: bx b4 32 [.int .i64 xk, .int .i64 xa, .int .i64 xb] :: bx b3 24 [.int .i64 t, .int .i64 la, .slice A L.length c] :: []) (by rw [hl3, ← hM3]; exact enL) ent_knp)
      clear hM3 hnv
      (repeat' (first | (show VH _ _ _ _ _ _ _; first | refine v_seq ?_ | refine r_seq ?_) | (show SH _ _ _ _ _ (_ :: _) _ _ _; first | (show SH _ _ _ _ _ (⟨_, .load _ _, _, _, _, _⟩ :: _) _ _ _; refine lba rfl spL (by rfl) ?_) | (show SH _ _ _ _ _ (⟨_, .call ⟨.value (.func 14), _, _⟩, _, _, _, _⟩ :: _) _ _ _; refine cp (callee := .func 14) rfl (fun w hw => e1 w (Wd.kp hw spL)) rfl rfl ?_))))
      rintro _ _ ⟨A5, c5, L5, hp5, rfl, rfl⟩
      simp only at hp5 ⊢
      have hsame := fun w h1 h2 => same36_spec 0 0 0 0 A5 none L5 [] c5 0 w (szQ_sz hp5 (by decide)) (szQ_sz (ps := []) rfl (by decide)) h1 h2
      rw [show decide ((⟨0, 0, ptys L5⟩ : Hal) = ⟨0, 0, ptys []⟩) = true from decide_eq_true (by rw [hp5]; rfl)] at hsame
      (repeat' (first | (show VH _ _ _ _ _ _ _; first | refine v_seq ?_ | refine r_seq ?_) | (show SH _ _ _ _ _ (_ :: _) _ _ _; first | (show SH _ _ _ _ _ (⟨_, .move _, _, _, _, _⟩ :: _) _ _ _; refine mov evL ?_) | (show SH _ _ _ _ _ (⟨_, .assign _, _, _, _, _⟩ :: _) _ _ _; refine asg evL ?_) | (show SH _ _ _ _ _ (⟨_, .load _ _, _, _, _, _⟩ :: _) _ _ _; first | refine lbx rfl spL (by rfl) ?_ | refine lba rfl spL (by rfl) ?_) | (show SH _ _ _ _ _ (⟨_, .call ⟨.value (.func 17), _, _⟩, _, _, _, _⟩ :: _) _ _ _; refine cp (callee := .func 17) rfl (fun w hw => e2 w (Wd.kp hw spL)) rfl rfl ?_) | refine extr rfl rfl ?_ | refine fad rfl ?_ | refine ala rfl (fun b => ?_) | (show SH _ _ _ _ _ (⟨_, .store _ _ _, _, _, _, _⟩ :: _) _ _ _; refine sta rfl rfl rfl spL (by rfl) (by rfl) (by rfl) kpL ?_)) | refine s_nil ?_ | refine kh_normal ?_))
      rintro _ _ ⟨rfl, rfl⟩
      (repeat' (first | (show VH _ _ _ _ _ _ _; first | refine v_seq ?_ | refine r_seq ?_) | (show SH _ _ _ _ _ (_ :: _) _ _ _; first | (show SH _ _ _ _ _ (⟨_, .move _, _, _, _, _⟩ :: _) _ _ _; refine mov evL ?_) | (show SH _ _ _ _ _ (⟨_, .assign _, _, _, _, _⟩ :: _) _ _ _; refine asg evL ?_) | (show SH _ _ _ _ _ (⟨_, .load _ _, _, _, _, _⟩ :: _) _ _ _; first | refine lbx rfl spL (by rfl) ?_ | refine lba rfl spL (by rfl) ?_) | (show SH _ _ _ _ _ (⟨_, .call ⟨.value (.func 25), _, _⟩, _, _, _, _⟩ :: _) _ _ _; refine cp (callee := .func 25) rfl (fun w hw => e3 w (Wd.kp hw spL)) rfl rfl ?_) | refine extr rfl rfl ?_ | refine fad rfl ?_ | refine ala rfl (fun b => ?_) | (show SH _ _ _ _ _ (⟨_, .store _ _ _, _, _, _, _⟩ :: _) _ _ _; refine sta rfl rfl rfl spL (by rfl) (by rfl) (by rfl) kpL ?_)) | refine s_nil ?_ | refine kh_normal ?_))
      rintro _ _ ⟨A6, c6, rfl, rfl⟩
      (repeat' (first | (show VH _ _ _ _ _ _ _; first | refine v_seq ?_ | refine r_seq ?_ | refine v_ret ?_) | (show SH _ _ _ _ _ (_ :: _) _ _ _; first | (show SH _ _ _ _ _ (⟨_, _, _, _, _, some _⟩ :: _) _ _ _; (refine gif rfl rfl ?_; refine giTT tbL ?_)) | (show SH _ _ _ _ _ (⟨_, .move _, _, _, _, _⟩ :: _) _ _ _; refine mov evL ?_) | (show SH _ _ _ _ _ (⟨_, .assign _, _, _, _, _⟩ :: _) _ _ _; refine asg evL ?_) | (show SH _ _ _ _ _ (⟨_, .binOp .eql _ _ _ _, _, _, _, _⟩ :: _) _ _ _; first | refine eqlT rfl rfl omD ?_ | refine eql rfl rfl ?_) | (show SH _ _ _ _ _ (⟨_, .load _ _, _, _, _, _⟩ :: _) _ _ _; first | refine lbx rfl spL (by rfl) ?_ | refine lba rfl spL (by rfl) ?_) | refine slen rfl ?_ | (show SH _ _ _ _ _ (⟨_, .call ⟨.value (.func 12), _, _⟩, _, _, _, _⟩ :: _) _ _ _; refine cl (callee := .func 12) rfl (fun w hw => e4 w (Wd.kp hw spL)) rfl rfl ?_) | (show SH _ _ _ _ _ (⟨_, .call ⟨.value (.func 15), _, _⟩, _, _, _, _⟩ :: _) _ _ _; refine cl (callee := .func 15) rfl (fun w hw => hsame w (Wd.kp hw spL) (rdPz w)) rfl rfl ?_) | refine bnoF rfl ?_ | (show SH _ _ _ _ _ (⟨_, .pick _ _ _, _, _, _, _⟩ :: _) _ _ _; refine pkt rfl tbL evL ?_) | refine extr rfl rfl ?_ | refine fad rfl ?_ | refine bld rfl rfl ?_) | refine s_nil ?_ | refine kh_normal ?_))
      exact rh1 rfl rfl ⟨rfl, rfl⟩ (ent_nil _)
    · obtain ⟨u, hue⟩ : ∃ u, xm.getD (Int.toNat 0) 0 = u := ⟨_, rfl⟩
      have hu : u ∈ xm := by rw [← hue]; exact getD_mem (d := (0 : Int)) (show 0 < xm.length by omega)
      have ht0 := hV.t0
      have ht1 := hV.t1
      simp only at ht0 ht1
      clear hyE0 hzm
      unfold rowI at hopI
      unfold rowM at hopM
      refine VH.ent (G := [bx b7 24 [.int .i64 t, .int .i64 la, .slice A2 M2.length c2], orow 37 A2 c2 M2, orow 44 xB xcb xv, allH ((M2.eraseIdx 1).map rowI), orow 3 xA xca xm, allH ((M2.eraseIdx 1).map rowM), bx b4 32 [.int .i64 xk, .int .i64 xa, .int .i64 xb], bx b3 24 [.int .i64 t, .int .i64 la, .slice A L.length c]]) ?_ (Ent.trans (B := allH (M2.map rowI) :: allH (M2.map rowM) :: bx b7 24 [.int .i64 t, .int .i64 la, .slice A2 M2.length c2] :: orow 37 A2 c2 M2 :: bx b4 32 [.int .i64 xk, .int .i64 xa, .int .i64 xb] :: bx b3 24 [.int .i64 t, .int .i64 la, .slice A L.length c] :: []) enL ((hopI _).trans (Ent.trans (B := allH (M2.map rowM) :: orow 44 xB xcb xv :: allH ((M2.eraseIdx 1).map rowI) :: bx b7 24 [.int .i64 t, .int .i64 la, .slice A2 M2.length c2] :: orow 37 A2 c2 M2 :: bx b4 32 [.int .i64 xk, .int .i64 xa, .int .i64 xb] :: bx b3 24 [.int .i64 t, .int .i64 la, .slice A L.length c] :: []) enL ((hopM _).trans enL))))
      (repeat' (first | (show VH _ _ _ _ _ _ _; first | refine v_seq ?_ | refine r_seq ?_ | refine v_block ?_ | refine v_cond_t rfl tbL ?_ | refine v_cond_f rfl tbL ?_) | (show SH _ _ _ _ _ (_ :: _) _ _ _; first | (show SH _ _ _ _ _ (⟨_, .move _, _, _, _, _⟩ :: _) _ _ _; refine mov evL ?_) | (show SH _ _ _ _ _ (⟨_, .assign _, _, _, _, _⟩ :: _) _ _ _; refine asg evL ?_) | (show SH _ _ _ _ _ (⟨_, .binOp .eql _ _ _ _, _, _, _, _⟩ :: _) _ _ _; first | refine eqlT rfl rfl omD ?_ | refine eqlF rfl rfl omD ?_) | (show SH _ _ _ _ _ (⟨_, .binOp .rem _ _ _ _, _, _, _, _⟩ :: _) _ _ _; refine rem rfl rfl omL omL ?_)) | refine s_nil ?_ | refine kh_normal ?_))
      refine r_heldT [bx b3 24 [.int .i64 t, .int .i64 la, .slice A L.length c], orow 3 xA xca xm] (tr [(0, true), (1, true), (2, true), (3, true), (7, true), (8, true), (9, true), (12, true), (13, true), (14, true)] (.fork 4 (tr [(5, true), (6, true), (10, true)] (.fork 11 (tr [(15, false), (16, false), (17, false), (18, false), (19, false)] .nil) 15 (tr [(11, false), (16, false), (17, false), (18, false), (19, false)] .nil))) 15 (tr [(4, false), (5, false), (6, false), (10, false), (11, false), (16, false), (17, false), (18, false), (19, false)] .nil))) hmix (by kernel_rfl) enL ?_
      (repeat' (first | (show SH _ _ _ _ _ (_ :: _) _ _ _; first | (show SH _ _ _ _ _ (⟨_, .move _, _, _, _, _⟩ :: _) _ _ _; refine mov evL ?_) | (show SH _ _ _ _ _ (⟨_, .binOp .add _ _ _ _, _, _, _, _⟩ :: _) _ _ _; refine add rfl rfl inL ?_) | (show SH _ _ _ _ _ (⟨_, .load _ _, _, _, _, _⟩ :: _) _ _ _; first | refine lbx rfl spL (by rfl) ?_ | refine lgi rfl (fun _ _ => rdP) omL (by assumption) ?_ | refine lrg rfl (fun _ _ => rdP) (by rfl) omL (by assumption) (by rfl) ?_) | (show SH _ _ _ _ _ (⟨_, .indexAddr _ _ _, _, _, _, _⟩ :: _) _ _ _; first | refine ixi rfl rfl (fun _ _ => rdP) (by rfl) omL omL omL ?_ | refine ixi rfl rfl (fun _ _ => rdP) (by rfl) omL (by first | omega | (simp only [List.length_cons, List.length_nil]; omega)) (by simp only [List.length_cons, List.length_nil]; omega) ?_) | refine nlc rfl ?_ | refine fad rfl ?_ | refine bld rfl rfl ?_) | refine s_fork ?_ ?_))
      all_goals
        refine bsl (l := [(⟨u, t + 1⟩ : Inv)]) rfl rfl (Vals.cons rfl Vals.nil) rfl rfl (by decide) (fun b9 => ?_)
        (repeat' ((show SH _ _ _ _ _ (_ :: _) _ _ _; (show SH _ _ _ _ _ (⟨_, .load _ _, _, _, _, _⟩ :: _) _ _ _; refine lrg rfl (fun _ _ => rdP) (by rfl) omL (by assumption) (by rfl) ?_))))
      all_goals
        refine app (l := [(⟨u, t + 1⟩ : Inv)]) (l2 := xv) rfl rfl rfl spL (fun w hw => hw.rd spL) rfl rfl rfl (by simp only [List.length_singleton]; omega) (by simp only [List.length_singleton]; omega) (fun A4 c4 => ⟨enL, ?_⟩)
        (repeat' ((show SH _ _ _ _ _ (_ :: _) _ _ _; first | refine nlc rfl ?_ | refine fad rfl ?_)))
        refine stf (⟨⟨xi, xl, xm, [⟨u, t + 1⟩] ++ xv⟩, xA, xca, A4, c4⟩ : PtyP) rfl rfl rfl spL rfl hk1 rfl rfl (by decide) (by rw [hxE]; rfl) enL ?_
        obtain ⟨M3, hM3⟩ : ∃ M, M2.set 1 (⟨⟨xi, xl, xm, [⟨u, t + 1⟩] ++ xv⟩, xA, xca, A4, c4⟩ : PtyP) = M := ⟨_, rfl⟩
        have hnv : ¬ VHal ⟨t, la, ptys M3⟩ := by rw [← hM3]; exact (by rw [hsetp]; have := bad_invited (h := ⟨t, la, ptys L⟩) h2p (x := u) (t := t + 1) (by show u ∈ ((ptys L).getD 1 pty0).mem; rw [hx1']; exact hu) xv; simp only [hx1'] at this; exact this)
        have hz3 : SzP M3 := by rw [← hM3]; exact szP_set hz2 hm1 (by show ([⟨u, t + 1⟩] ++ xv : List Inv).length ≤ 1000; rw [List.length_append, List.length_singleton]; omega) 1
        have hl3 : M3.length = M2.length := by subst hM3; first | rfl | exact List.length_set ..
        have e1 := fun w hr => outK_of (show doR ⟨t, la, ptys M3⟩ xk xa xb = (hal0, 2) from do_bad hnv _ _ _) (one36_spec t la A2 M3 c2 xk xa xb w hz3 hr)
        have e2 := fun w hr => of_spec t la A2 M3 c2 xa w hz3 hr
        have e3 := fun w hr => share_spec t la A2 M3 c2 xb 5 w hz3 hr
        have e4 := fun w hr => valid_spec t la A2 M3 c2 w hz3 hr
        rw [of_bad hnv] at e2
        rw [share_bad hnv] at e3
        rw [show validHal ⟨t, la, ptys M3⟩ = false from Bool.eq_false_iff.2 (fun h => hnv (valid_iff.1 h))] at e4
        simp only at e3
        (repeat' ((fail_if_success (show VH _ _ (.seq (.region 23 _ _) _) _ _ _ _)); first | refine s_nil ?_ | refine kh_normal ?_ | refine bh_normal ?_))
        refine VH.ent (G := [knp A2 M3, bx b7 24 [.int .i64 t, .int .i64 la, .slice A2 M3.length c2], bx b4 32 [.int .i64 xk, .int .i64 xa, .int .i64 xb], bx b3 24 [.int .i64 t, .int .i64 la, .slice A L.length c]]) ?_ (Ent.trans (B := orow 37 A2 c2 M3 :: allH (M3.map rowM) :: allH (M3.map rowI) :: bx b7 24 [.int .i64 t, .int .i64 la, .slice A2 M3.length c2] :: bx b4 32 [.int .i64 xk, .int .i64 xa, .int .i64 xb] :: bx b3 24 [.int .i64 t, .int .i64 la, .slice A L.length c] :: []) (by rw [hl3, ← hM3]; exact Ent.trans (B := rowI (⟨⟨xi, xl, xm, [⟨u, t + 1⟩] ++ xv⟩, xA, xca, A4, c4⟩ : PtyP) :: allH ((M2.eraseIdx 1).map rowI) :: rowM (⟨⟨xi, xl, xm, [⟨u, t + 1⟩] ++ xv⟩, xA, xca, A4, c4⟩ : PtyP) :: allH ((M2.eraseIdx 1).map rowM) :: orow 37 A2 c2 (M2.set 1 (⟨⟨xi, xl, xm, [⟨u, t + 1⟩] ++ xv⟩, xA, xca, A4, c4⟩ : PtyP)) :: bx b7 24 [.int .i64 t, .int .i64 la, .slice A2 M2.length c2] :: bx b4 32 [.int .i64 xk, .int .i64 xa, .int .i64 xb] :: bx b3 24 [.int .i64 t, .int .i64 la, .slice A L.length c] :: []) enL ((hclI _ _).trans (Ent.trans (B := rowM (⟨⟨xi, xl, xm, [⟨u, t + 1⟩] ++ xv⟩, xA, xca, A4, c4⟩ : PtyP) :: allH ((M2.eraseIdx 1).map rowM) :: allH ((M2.set 1 (⟨⟨xi, xl, xm, [⟨u, t + 1⟩] ++ xv⟩, xA, xca, A4, c4⟩ : PtyP)).map rowI) :: orow 37 A2 c2 (M2.set 1 (⟨⟨xi, xl, xm, [⟨u, t + 1⟩] ++ xv⟩, xA, xca, A4, c4⟩ : PtyP)) :: bx b7 24 [.int .i64 t, .int .i64 la, .slice A2 M2.length c2] :: bx b4 32 [.int .i64 xk, .int .i64 xa, .int .i64 xb] :: bx b3 24 [.int .i64 t, .int .i64 la, .slice A L.length c] :: []) enL ((hclM _ _).trans enL)))) ent_knp)
        clear hM3 hnv
        (repeat' (first | (show VH _ _ _ _ _ _ _; first | refine v_seq ?_ | refine r_seq ?_) | (show SH _ _ _ _ _ (_ :: _) _ _ _; first | (show SH _ _ _ _ _ (⟨_, .load _ _, _, _, _, _⟩ :: _) _ _ _; refine lba rfl spL (by rfl) ?_) | (show SH _ _ _ _ _ (⟨_, .call ⟨.value (.func 14), _, _⟩, _, _, _, _⟩ :: _) _ _ _; refine cp (callee := .func 14) rfl (fun w hw => e1 w (Wd.kp hw spL)) rfl rfl ?_))))
        rintro _ _ ⟨A5, c5, L5, hp5, rfl, rfl⟩
        simp only at hp5 ⊢
        have hsame := fun w h1 h2 => same36_spec 0 0 0 0 A5 none L5 [] c5 0 w (szQ_sz hp5 (by decide)) (szQ_sz (ps := []) rfl (by decide)) h1 h2
        rw [show decide ((⟨0, 0, ptys L5⟩ : Hal) = ⟨0, 0, ptys []⟩) = true from decide_eq_true (by rw [hp5]; rfl)] at hsame
        (repeat' (first | (show VH _ _ _ _ _ _ _; first | refine v_seq ?_ | refine r_seq ?_) | (show SH _ _ _ _ _ (_ :: _) _ _ _; first | (show SH _ _ _ _ _ (⟨_, .move _, _, _, _, _⟩ :: _) _ _ _; refine mov evL ?_) | (show SH _ _ _ _ _ (⟨_, .assign _, _, _, _, _⟩ :: _) _ _ _; refine asg evL ?_) | (show SH _ _ _ _ _ (⟨_, .load _ _, _, _, _, _⟩ :: _) _ _ _; first | refine lbx rfl spL (by rfl) ?_ | refine lba rfl spL (by rfl) ?_) | (show SH _ _ _ _ _ (⟨_, .call ⟨.value (.func 17), _, _⟩, _, _, _, _⟩ :: _) _ _ _; refine cp (callee := .func 17) rfl (fun w hw => e2 w (Wd.kp hw spL)) rfl rfl ?_) | refine extr rfl rfl ?_ | refine fad rfl ?_ | refine ala rfl (fun b => ?_) | (show SH _ _ _ _ _ (⟨_, .store _ _ _, _, _, _, _⟩ :: _) _ _ _; refine sta rfl rfl rfl spL (by rfl) (by rfl) (by rfl) kpL ?_)) | refine s_nil ?_ | refine kh_normal ?_))
        rintro _ _ ⟨rfl, rfl⟩
        (repeat' (first | (show VH _ _ _ _ _ _ _; first | refine v_seq ?_ | refine r_seq ?_) | (show SH _ _ _ _ _ (_ :: _) _ _ _; first | (show SH _ _ _ _ _ (⟨_, .move _, _, _, _, _⟩ :: _) _ _ _; refine mov evL ?_) | (show SH _ _ _ _ _ (⟨_, .assign _, _, _, _, _⟩ :: _) _ _ _; refine asg evL ?_) | (show SH _ _ _ _ _ (⟨_, .load _ _, _, _, _, _⟩ :: _) _ _ _; first | refine lbx rfl spL (by rfl) ?_ | refine lba rfl spL (by rfl) ?_) | (show SH _ _ _ _ _ (⟨_, .call ⟨.value (.func 25), _, _⟩, _, _, _, _⟩ :: _) _ _ _; refine cp (callee := .func 25) rfl (fun w hw => e3 w (Wd.kp hw spL)) rfl rfl ?_) | refine extr rfl rfl ?_ | refine fad rfl ?_ | refine ala rfl (fun b => ?_) | (show SH _ _ _ _ _ (⟨_, .store _ _ _, _, _, _, _⟩ :: _) _ _ _; refine sta rfl rfl rfl spL (by rfl) (by rfl) (by rfl) kpL ?_)) | refine s_nil ?_ | refine kh_normal ?_))
        rintro _ _ ⟨A6, c6, rfl, rfl⟩
        (repeat' (first | (show VH _ _ _ _ _ _ _; first | refine v_seq ?_ | refine r_seq ?_ | refine v_ret ?_) | (show SH _ _ _ _ _ (_ :: _) _ _ _; first | (show SH _ _ _ _ _ (⟨_, _, _, _, _, some _⟩ :: _) _ _ _; (refine gif rfl rfl ?_; refine giTT tbL ?_)) | (show SH _ _ _ _ _ (⟨_, .move _, _, _, _, _⟩ :: _) _ _ _; refine mov evL ?_) | (show SH _ _ _ _ _ (⟨_, .assign _, _, _, _, _⟩ :: _) _ _ _; refine asg evL ?_) | (show SH _ _ _ _ _ (⟨_, .binOp .eql _ _ _ _, _, _, _, _⟩ :: _) _ _ _; first | refine eqlT rfl rfl omD ?_ | refine eql rfl rfl ?_) | (show SH _ _ _ _ _ (⟨_, .load _ _, _, _, _, _⟩ :: _) _ _ _; first | refine lbx rfl spL (by rfl) ?_ | refine lba rfl spL (by rfl) ?_) | refine slen rfl ?_ | (show SH _ _ _ _ _ (⟨_, .call ⟨.value (.func 12), _, _⟩, _, _, _, _⟩ :: _) _ _ _; refine cl (callee := .func 12) rfl (fun w hw => e4 w (Wd.kp hw spL)) rfl rfl ?_) | (show SH _ _ _ _ _ (⟨_, .call ⟨.value (.func 15), _, _⟩, _, _, _, _⟩ :: _) _ _ _; refine cl (callee := .func 15) rfl (fun w hw => hsame w (Wd.kp hw spL) (rdPz w)) rfl rfl ?_) | refine bnoF rfl ?_ | (show SH _ _ _ _ _ (⟨_, .pick _ _ _, _, _, _, _⟩ :: _) _ _ _; refine pkt rfl tbL evL ?_) | refine extr rfl rfl ?_ | refine fad rfl ?_ | refine bld rfl rfl ?_) | refine s_nil ?_ | refine kh_normal ?_))
        exact rh1 rfl rfl ⟨rfl, rfl⟩ (ent_nil _)
    · clear hyE0 hzm
      (repeat' (first | (show VH _ _ _ _ _ _ _; first | refine v_seq ?_ | refine r_seq ?_ | refine v_block ?_ | refine v_cond_t rfl tbL ?_ | refine v_cond_f rfl tbL ?_) | (show SH _ _ _ _ _ (_ :: _) _ _ _; first | (show SH _ _ _ _ _ (⟨_, .move _, _, _, _, _⟩ :: _) _ _ _; refine mov evL ?_) | (show SH _ _ _ _ _ (⟨_, .assign _, _, _, _, _⟩ :: _) _ _ _; refine asg evL ?_) | (show SH _ _ _ _ _ (⟨_, .binOp .eql _ _ _ _, _, _, _, _⟩ :: _) _ _ _; first | refine eqlT rfl rfl omD ?_ | refine eqlF rfl rfl omD ?_) | (show SH _ _ _ _ _ (⟨_, .binOp .rem _ _ _ _, _, _, _, _⟩ :: _) _ _ _; refine rem rfl rfl omL omL ?_) | refine nlc rfl ?_ | refine fad rfl ?_) | refine s_nil ?_ | refine kh_normal ?_))
      refine stf (⟨⟨xi, xl, [], xv⟩, none, 0, xB, xcb⟩ : PtyP) rfl rfl rfl spL rfl hk1 rfl rfl (by decide) (by rw [hxE]; rfl) trivial ?_
      obtain ⟨M3, hM3⟩ : ∃ M, M2.set 1 (⟨⟨xi, xl, [], xv⟩, none, 0, xB, xcb⟩ : PtyP) = M := ⟨_, rfl⟩
      have hnv : ¬ VHal ⟨t, la, ptys M3⟩ := by rw [← hM3]; exact (by rw [hsetp]; have := bad_empty (h := ⟨t, la, ptys L⟩) h2p; simp only [hx1'] at this; exact this)
      have hz3 : SzP M3 := by rw [← hM3]; exact szP_set hz2 (Nat.zero_le _) hi1 1
      have hl3 : M3.length = M2.length := by subst hM3; first | rfl | exact List.length_set ..
      have e1 := fun w hr => outK_of (show doR ⟨t, la, ptys M3⟩ xk xa xb = (hal0, 2) from do_bad hnv _ _ _) (one36_spec t la A2 M3 c2 xk xa xb w hz3 hr)
      have e2 := fun w hr => of_spec t la A2 M3 c2 xa w hz3 hr
      have e3 := fun w hr => share_spec t la A2 M3 c2 xb 5 w hz3 hr
      have e4 := fun w hr => valid_spec t la A2 M3 c2 w hz3 hr
      rw [of_bad hnv] at e2
      rw [share_bad hnv] at e3
      rw [show validHal ⟨t, la, ptys M3⟩ = false from Bool.eq_false_iff.2 (fun h => hnv (valid_iff.1 h))] at e4
      simp only at e3
      (repeat' ((fail_if_success (show VH _ _ (.seq (.region 23 _ _) _) _ _ _ _)); first | refine s_nil ?_ | refine kh_normal ?_ | refine bh_normal ?_))
      refine VH.ent (G := [knp A2 M3, bx b7 24 [.int .i64 t, .int .i64 la, .slice A2 M3.length c2], bx b4 32 [.int .i64 xk, .int .i64 xa, .int .i64 xb], bx b3 24 [.int .i64 t, .int .i64 la, .slice A L.length c]]) ?_ (Ent.trans (B := orow 37 A2 c2 M3 :: allH (M3.map rowM) :: allH (M3.map rowI) :: bx b7 24 [.int .i64 t, .int .i64 la, .slice A2 M3.length c2] :: bx b4 32 [.int .i64 xk, .int .i64 xa, .int .i64 xb] :: bx b3 24 [.int .i64 t, .int .i64 la, .slice A L.length c] :: []) (by rw [hl3, ← hM3]; rw [hsI (⟨⟨xi, xl, [], xv⟩, none, 0, xB, xcb⟩ : PtyP) rfl]; exact Ent.trans (B := allH (M2.map rowM) :: orow 37 A2 c2 (M2.set 1 (⟨⟨xi, xl, [], xv⟩, none, 0, xB, xcb⟩ : PtyP)) :: allH (M2.map rowI) :: bx b7 24 [.int .i64 t, .int .i64 la, .slice A2 M2.length c2] :: bx b4 32 [.int .i64 xk, .int .i64 xa, .int .i64 xb] :: bx b3 24 [.int .i64 t, .int .i64 la, .slice A L.length c] :: []) enL ((hopM _).trans (Ent.trans (B := rowM (⟨⟨xi, xl, [], xv⟩, none, 0, xB, xcb⟩ : PtyP) :: allH ((M2.eraseIdx 1).map rowM) :: orow 37 A2 c2 (M2.set 1 (⟨⟨xi, xl, [], xv⟩, none, 0, xB, xcb⟩ : PtyP)) :: allH (M2.map rowI) :: bx b7 24 [.int .i64 t, .int .i64 la, .slice A2 M2.length c2] :: bx b4 32 [.int .i64 xk, .int .i64 xa, .int .i64 xb] :: bx b3 24 [.int .i64 t, .int .i64 la, .slice A L.length c] :: []) (ent_nilrow enL) ((hclM _ _).trans enL)))) ent_knp)
      clear hM3 hnv
      (repeat' (first | (show VH _ _ _ _ _ _ _; first | refine v_seq ?_ | refine r_seq ?_) | (show SH _ _ _ _ _ (_ :: _) _ _ _; first | (show SH _ _ _ _ _ (⟨_, .load _ _, _, _, _, _⟩ :: _) _ _ _; refine lba rfl spL (by rfl) ?_) | (show SH _ _ _ _ _ (⟨_, .call ⟨.value (.func 14), _, _⟩, _, _, _, _⟩ :: _) _ _ _; refine cp (callee := .func 14) rfl (fun w hw => e1 w (Wd.kp hw spL)) rfl rfl ?_))))
      rintro _ _ ⟨A5, c5, L5, hp5, rfl, rfl⟩
      simp only at hp5 ⊢
      have hsame := fun w h1 h2 => same36_spec 0 0 0 0 A5 none L5 [] c5 0 w (szQ_sz hp5 (by decide)) (szQ_sz (ps := []) rfl (by decide)) h1 h2
      rw [show decide ((⟨0, 0, ptys L5⟩ : Hal) = ⟨0, 0, ptys []⟩) = true from decide_eq_true (by rw [hp5]; rfl)] at hsame
      (repeat' (first | (show VH _ _ _ _ _ _ _; first | refine v_seq ?_ | refine r_seq ?_) | (show SH _ _ _ _ _ (_ :: _) _ _ _; first | (show SH _ _ _ _ _ (⟨_, .move _, _, _, _, _⟩ :: _) _ _ _; refine mov evL ?_) | (show SH _ _ _ _ _ (⟨_, .assign _, _, _, _, _⟩ :: _) _ _ _; refine asg evL ?_) | (show SH _ _ _ _ _ (⟨_, .load _ _, _, _, _, _⟩ :: _) _ _ _; first | refine lbx rfl spL (by rfl) ?_ | refine lba rfl spL (by rfl) ?_) | (show SH _ _ _ _ _ (⟨_, .call ⟨.value (.func 17), _, _⟩, _, _, _, _⟩ :: _) _ _ _; refine cp (callee := .func 17) rfl (fun w hw => e2 w (Wd.kp hw spL)) rfl rfl ?_) | refine extr rfl rfl ?_ | refine fad rfl ?_ | refine ala rfl (fun b => ?_) | (show SH _ _ _ _ _ (⟨_, .store _ _ _, _, _, _, _⟩ :: _) _ _ _; refine sta rfl rfl rfl spL (by rfl) (by rfl) (by rfl) kpL ?_)) | refine s_nil ?_ | refine kh_normal ?_))
      rintro _ _ ⟨rfl, rfl⟩
      (repeat' (first | (show VH _ _ _ _ _ _ _; first | refine v_seq ?_ | refine r_seq ?_) | (show SH _ _ _ _ _ (_ :: _) _ _ _; first | (show SH _ _ _ _ _ (⟨_, .move _, _, _, _, _⟩ :: _) _ _ _; refine mov evL ?_) | (show SH _ _ _ _ _ (⟨_, .assign _, _, _, _, _⟩ :: _) _ _ _; refine asg evL ?_) | (show SH _ _ _ _ _ (⟨_, .load _ _, _, _, _, _⟩ :: _) _ _ _; first | refine lbx rfl spL (by rfl) ?_ | refine lba rfl spL (by rfl) ?_) | (show SH _ _ _ _ _ (⟨_, .call ⟨.value (.func 25), _, _⟩, _, _, _, _⟩ :: _) _ _ _; refine cp (callee := .func 25) rfl (fun w hw => e3 w (Wd.kp hw spL)) rfl rfl ?_) | refine extr rfl rfl ?_ | refine fad rfl ?_ | refine ala rfl (fun b => ?_) | (show SH _ _ _ _ _ (⟨_, .store _ _ _, _, _, _, _⟩ :: _) _ _ _; refine sta rfl rfl rfl spL (by rfl) (by rfl) (by rfl) kpL ?_)) | refine s_nil ?_ | refine kh_normal ?_))
      rintro _ _ ⟨A6, c6, rfl, rfl⟩
      (repeat' (first | (show VH _ _ _ _ _ _ _; first | refine v_seq ?_ | refine r_seq ?_ | refine v_ret ?_) | (show SH _ _ _ _ _ (_ :: _) _ _ _; first | (show SH _ _ _ _ _ (⟨_, _, _, _, _, some _⟩ :: _) _ _ _; (refine gif rfl rfl ?_; refine giTT tbL ?_)) | (show SH _ _ _ _ _ (⟨_, .move _, _, _, _, _⟩ :: _) _ _ _; refine mov evL ?_) | (show SH _ _ _ _ _ (⟨_, .assign _, _, _, _, _⟩ :: _) _ _ _; refine asg evL ?_) | (show SH _ _ _ _ _ (⟨_, .binOp .eql _ _ _ _, _, _, _, _⟩ :: _) _ _ _; first | refine eqlT rfl rfl omD ?_ | refine eql rfl rfl ?_) | (show SH _ _ _ _ _ (⟨_, .load _ _, _, _, _, _⟩ :: _) _ _ _; first | refine lbx rfl spL (by rfl) ?_ | refine lba rfl spL (by rfl) ?_) | refine slen rfl ?_ | (show SH _ _ _ _ _ (⟨_, .call ⟨.value (.func 12), _, _⟩, _, _, _, _⟩ :: _) _ _ _; refine cl (callee := .func 12) rfl (fun w hw => e4 w (Wd.kp hw spL)) rfl rfl ?_) | (show SH _ _ _ _ _ (⟨_, .call ⟨.value (.func 15), _, _⟩, _, _, _, _⟩ :: _) _ _ _; refine cl (callee := .func 15) rfl (fun w hw => hsame w (Wd.kp hw spL) (rdPz w)) rfl rfl ?_) | refine bnoF rfl ?_ | (show SH _ _ _ _ _ (⟨_, .pick _ _ _, _, _, _, _⟩ :: _) _ _ _; refine pkt rfl tbL evL ?_) | refine extr rfl rfl ?_ | refine fad rfl ?_ | refine bld rfl rfl ?_) | refine s_nil ?_ | refine kh_normal ?_))
      exact rh1 rfl rfl ⟨rfl, rfl⟩ (ent_nil _)
    · clear hyE0 hzm
      obtain ⟨M3, hM3⟩ : ∃ M, M2 = M := ⟨_, rfl⟩
      have hnv : ¬ VHal ⟨(-1), la, ptys M3⟩ := by rw [← hM3]; exact bad_tick la (ptys M2)
      have hz3 : SzP M3 := by rw [← hM3]; exact hz2
      have hl3 : M3.length = M2.length := by subst hM3; first | rfl | exact List.length_set ..
      have e1 := fun w hr => outK_of (show doR ⟨(-1), la, ptys M3⟩ xk xa xb = (hal0, 2) from do_bad hnv _ _ _) (one36_spec (-1) la A2 M3 c2 xk xa xb w hz3 hr)
      have e2 := fun w hr => of_spec (-1) la A2 M3 c2 xa w hz3 hr
      have e3 := fun w hr => share_spec (-1) la A2 M3 c2 xb 5 w hz3 hr
      have e4 := fun w hr => valid_spec (-1) la A2 M3 c2 w hz3 hr
      rw [of_bad hnv] at e2
      rw [share_bad hnv] at e3
      rw [show validHal ⟨(-1), la, ptys M3⟩ = false from Bool.eq_false_iff.2 (fun h => hnv (valid_iff.1 h))] at e4
      simp only at e3
      (repeat' ((fail_if_success (show VH _ _ (.seq (.region 23 _ _) _) _ _ _ _)); first | (show VH _ _ _ _ _ _ _; first | refine v_seq ?_ | refine r_seq ?_ | refine v_block ?_ | refine v_cond_t rfl tbL ?_ | refine v_cond_f rfl tbL ?_) | (show SH _ _ _ _ _ (_ :: _) _ _ _; first | (show SH _ _ _ _ _ (⟨_, .move _, _, _, _, _⟩ :: _) _ _ _; refine mov evL ?_) | (show SH _ _ _ _ _ (⟨_, .assign _, _, _, _, _⟩ :: _) _ _ _; refine asg evL ?_) | (show SH _ _ _ _ _ (⟨_, .binOp .eql _ _ _ _, _, _, _, _⟩ :: _) _ _ _; first | refine eqlT rfl rfl omD ?_ | refine eqlF rfl rfl omD ?_) | (show SH _ _ _ _ _ (⟨_, .binOp .rem _ _ _ _, _, _, _, _⟩ :: _) _ _ _; refine rem rfl rfl omL omL ?_) | refine fad rfl ?_ | (show SH _ _ _ _ _ (⟨_, .store _ _ _, _, _, _, _⟩ :: _) _ _ _; refine stb rfl rfl evL spL rfl rfl (by first | decide | exact Nat.zero_lt_succ _ | exact of_decide_eq_true rfl) kpL ?_)) | refine s_nil ?_ | refine kh_normal ?_ | refine bh_normal ?_))
      refine VH.ent (G := [knp A2 M3, bx b7 24 [.int .i64 (-1), .int .i64 la, .slice A2 M3.length c2], bx b4 32 [.int .i64 xk, .int .i64 xa, .int .i64 xb], bx b3 24 [.int .i64 t, .int .i64 la, .slice A L.length c]]) ?_ (Ent.trans (B := orow 37 A2 c2 M3 :: allH (M3.map rowM) :: allH (M3.map rowI) :: bx b7 24 [.int .i64 (-1), .int .i64 la, .slice A2 M3.length c2] :: bx b4 32 [.int .i64 xk, .int .i64 xa, .int .i64 xb] :: bx b3 24 [.int .i64 t, .int .i64 la, .slice A L.length c] :: []) (by rw [hl3, ← hM3]; exact enL) ent_knp)
      clear hM3 hnv
      (repeat' (first | (show VH _ _ _ _ _ _ _; first | refine v_seq ?_ | refine r_seq ?_) | (show SH _ _ _ _ _ (_ :: _) _ _ _; first | (show SH _ _ _ _ _ (⟨_, .load _ _, _, _, _, _⟩ :: _) _ _ _; refine lba rfl spL (by rfl) ?_) | (show SH _ _ _ _ _ (⟨_, .call ⟨.value (.func 14), _, _⟩, _, _, _, _⟩ :: _) _ _ _; refine cp (callee := .func 14) rfl (fun w hw => e1 w (Wd.kp hw spL)) rfl rfl ?_))))
      rintro _ _ ⟨A5, c5, L5, hp5, rfl, rfl⟩
      simp only at hp5 ⊢
      have hsame := fun w h1 h2 => same36_spec 0 0 0 0 A5 none L5 [] c5 0 w (szQ_sz hp5 (by decide)) (szQ_sz (ps := []) rfl (by decide)) h1 h2
      rw [show decide ((⟨0, 0, ptys L5⟩ : Hal) = ⟨0, 0, ptys []⟩) = true from decide_eq_true (by rw [hp5]; rfl)] at hsame
      (repeat' (first | (show VH _ _ _ _ _ _ _; first | refine v_seq ?_ | refine r_seq ?_) | (show SH _ _ _ _ _ (_ :: _) _ _ _; first | (show SH _ _ _ _ _ (⟨_, .move _, _, _, _, _⟩ :: _) _ _ _; refine mov evL ?_) | (show SH _ _ _ _ _ (⟨_, .assign _, _, _, _, _⟩ :: _) _ _ _; refine asg evL ?_) | (show SH _ _ _ _ _ (⟨_, .load _ _, _, _, _, _⟩ :: _) _ _ _; first | refine lbx rfl spL (by rfl) ?_ | refine lba rfl spL (by rfl) ?_) | (show SH _ _ _ _ _ (⟨_, .call ⟨.value (.func 17), _, _⟩, _, _, _, _⟩ :: _) _ _ _; refine cp (callee := .func 17) rfl (fun w hw => e2 w (Wd.kp hw spL)) rfl rfl ?_) | refine extr rfl rfl ?_ | refine fad rfl ?_ | refine ala rfl (fun b => ?_) | (show SH _ _ _ _ _ (⟨_, .store _ _ _, _, _, _, _⟩ :: _) _ _ _; refine sta rfl rfl rfl spL (by rfl) (by rfl) (by rfl) kpL ?_)) | refine s_nil ?_ | refine kh_normal ?_))
      rintro _ _ ⟨rfl, rfl⟩
      (repeat' (first | (show VH _ _ _ _ _ _ _; first | refine v_seq ?_ | refine r_seq ?_) | (show SH _ _ _ _ _ (_ :: _) _ _ _; first | (show SH _ _ _ _ _ (⟨_, .move _, _, _, _, _⟩ :: _) _ _ _; refine mov evL ?_) | (show SH _ _ _ _ _ (⟨_, .assign _, _, _, _, _⟩ :: _) _ _ _; refine asg evL ?_) | (show SH _ _ _ _ _ (⟨_, .load _ _, _, _, _, _⟩ :: _) _ _ _; first | refine lbx rfl spL (by rfl) ?_ | refine lba rfl spL (by rfl) ?_) | (show SH _ _ _ _ _ (⟨_, .call ⟨.value (.func 25), _, _⟩, _, _, _, _⟩ :: _) _ _ _; refine cp (callee := .func 25) rfl (fun w hw => e3 w (Wd.kp hw spL)) rfl rfl ?_) | refine extr rfl rfl ?_ | refine fad rfl ?_ | refine ala rfl (fun b => ?_) | (show SH _ _ _ _ _ (⟨_, .store _ _ _, _, _, _, _⟩ :: _) _ _ _; refine sta rfl rfl rfl spL (by rfl) (by rfl) (by rfl) kpL ?_)) | refine s_nil ?_ | refine kh_normal ?_))
      rintro _ _ ⟨A6, c6, rfl, rfl⟩
      (repeat' (first | (show VH _ _ _ _ _ _ _; first | refine v_seq ?_ | refine r_seq ?_ | refine v_ret ?_) | (show SH _ _ _ _ _ (_ :: _) _ _ _; first | (show SH _ _ _ _ _ (⟨_, _, _, _, _, some _⟩ :: _) _ _ _; (refine gif rfl rfl ?_; refine giTT tbL ?_)) | (show SH _ _ _ _ _ (⟨_, .move _, _, _, _, _⟩ :: _) _ _ _; refine mov evL ?_) | (show SH _ _ _ _ _ (⟨_, .assign _, _, _, _, _⟩ :: _) _ _ _; refine asg evL ?_) | (show SH _ _ _ _ _ (⟨_, .binOp .eql _ _ _ _, _, _, _, _⟩ :: _) _ _ _; first | refine eqlT rfl rfl omD ?_ | refine eql rfl rfl ?_) | (show SH _ _ _ _ _ (⟨_, .load _ _, _, _, _, _⟩ :: _) _ _ _; first | refine lbx rfl spL (by rfl) ?_ | refine lba rfl spL (by rfl) ?_) | refine slen rfl ?_ | (show SH _ _ _ _ _ (⟨_, .call ⟨.value (.func 12), _, _⟩, _, _, _, _⟩ :: _) _ _ _; refine cl (callee := .func 12) rfl (fun w hw => e4 w (Wd.kp hw spL)) rfl rfl ?_) | (show SH _ _ _ _ _ (⟨_, .call ⟨.value (.func 15), _, _⟩, _, _, _, _⟩ :: _) _ _ _; refine cl (callee := .func 15) rfl (fun w hw => hsame w (Wd.kp hw spL) (rdPz w)) rfl rfl ?_) | refine bnoF rfl ?_ | (show SH _ _ _ _ _ (⟨_, .pick _ _ _, _, _, _, _⟩ :: _) _ _ _; refine pkt rfl tbL evL ?_) | refine extr rfl rfl ?_ | refine fad rfl ?_ | refine bld rfl rfl ?_) | refine s_nil ?_ | refine kh_normal ?_))
      exact rh1 rfl rfl ⟨rfl, rfl⟩ (ent_nil _)
    · clear hyE0 hzm
      (repeat' (first | (show VH _ _ _ _ _ _ _; first | refine v_seq ?_ | refine r_seq ?_ | refine v_block ?_ | refine v_cond_f rfl tbL ?_) | (show SH _ _ _ _ _ (_ :: _) _ _ _; first | (show SH _ _ _ _ _ (⟨_, .move _, _, _, _, _⟩ :: _) _ _ _; refine mov evL ?_) | (show SH _ _ _ _ _ (⟨_, .assign _, _, _, _, _⟩ :: _) _ _ _; refine asg evL ?_) | (show SH _ _ _ _ _ (⟨_, .binOp .eql _ _ _ _, _, _, _, _⟩ :: _) _ _ _; refine eqlF rfl rfl omD ?_) | (show SH _ _ _ _ _ (⟨_, .binOp .rem _ _ _ _, _, _, _, _⟩ :: _) _ _ _; refine rem rfl rfl omL omL ?_) | (show SH _ _ _ _ _ (⟨_, .load _ _, _, _, _, _⟩ :: _) _ _ _; refine lbx rfl spL (by rfl) ?_) | refine fad rfl ?_ | refine bld rfl rfl ?_) | refine s_nil ?_ | refine kh_normal ?_))
      refine bsl (l := [(⟨65535, t⟩ : Inv)]) rfl rfl (Vals.cons rfl Vals.nil) rfl rfl (by decide) (fun b9 => ?_)
      (repeat' ((show SH _ _ _ _ _ (_ :: _) _ _ _; first | refine nlc rfl ?_ | refine fad rfl ?_)))
      refine stf (⟨⟨xi, xl, xm, [⟨65535, t⟩]⟩, xA, xca, some ⟨b9, 0, none⟩, 1⟩ : PtyP) rfl rfl rfl spL rfl hk1 rfl rfl (by decide) (by rw [hxE]; rfl) trivial ?_
      obtain ⟨M3, hM3⟩ : ∃ M, M2.set 1 (⟨⟨xi, xl, xm, [⟨65535, t⟩]⟩, xA, xca, some ⟨b9, 0, none⟩, 1⟩ : PtyP) = M := ⟨_, rfl⟩
      have hnv : ¬ VHal ⟨t, la, ptys M3⟩ := by rw [← hM3]; exact (by rw [hsetp]; have := bad_until (h := ⟨t, la, ptys L⟩) h2p 65535; simp only [hx1'] at this; exact this)
      have hz3 : SzP M3 := by rw [← hM3]; exact szP_set hz2 hm1 (by show ([⟨65535, t⟩] : List Inv).length ≤ 1000; simp) 1
      have hl3 : M3.length = M2.length := by subst hM3; first | rfl | exact List.length_set ..
      have e1 := fun w hr => outK_of (show doR ⟨t, la, ptys M3⟩ xk xa xb = (hal0, 2) from do_bad hnv _ _ _) (one36_spec t la A2 M3 c2 xk xa xb w hz3 hr)
      have e2 := fun w hr => of_spec t la A2 M3 c2 xa w hz3 hr
      have e3 := fun w hr => share_spec t la A2 M3 c2 xb 5 w hz3 hr
      have e4 := fun w hr => valid_spec t la A2 M3 c2 w hz3 hr
      rw [of_bad hnv] at e2
      rw [share_bad hnv] at e3
      rw [show validHal ⟨t, la, ptys M3⟩ = false from Bool.eq_false_iff.2 (fun h => hnv (valid_iff.1 h))] at e4
      simp only at e3
      (repeat' ((fail_if_success (show VH _ _ (.seq (.region 23 _ _) _) _ _ _ _)); first | refine s_nil ?_ | refine kh_normal ?_ | refine bh_normal ?_))
      refine VH.ent (G := [knp A2 M3, bx b7 24 [.int .i64 t, .int .i64 la, .slice A2 M3.length c2], bx b4 32 [.int .i64 xk, .int .i64 xa, .int .i64 xb], bx b3 24 [.int .i64 t, .int .i64 la, .slice A L.length c]]) ?_ (Ent.trans (B := orow 37 A2 c2 M3 :: allH (M3.map rowM) :: allH (M3.map rowI) :: bx b7 24 [.int .i64 t, .int .i64 la, .slice A2 M3.length c2] :: bx b4 32 [.int .i64 xk, .int .i64 xa, .int .i64 xb] :: bx b3 24 [.int .i64 t, .int .i64 la, .slice A L.length c] :: []) (by rw [hl3, ← hM3]; rw [hsM (⟨⟨xi, xl, xm, [⟨65535, t⟩]⟩, xA, xca, some ⟨b9, 0, none⟩, 1⟩ : PtyP) rfl]; exact Ent.trans (B := allH (M2.map rowI) :: rowI (⟨⟨xi, xl, xm, [⟨65535, t⟩]⟩, xA, xca, some ⟨b9, 0, none⟩, 1⟩ : PtyP) :: orow 37 A2 c2 (M2.set 1 (⟨⟨xi, xl, xm, [⟨65535, t⟩]⟩, xA, xca, some ⟨b9, 0, none⟩, 1⟩ : PtyP)) :: allH (M2.map rowM) :: bx b7 24 [.int .i64 t, .int .i64 la, .slice A2 M2.length c2] :: bx b4 32 [.int .i64 xk, .int .i64 xa, .int .i64 xb] :: bx b3 24 [.int .i64 t, .int .i64 la, .slice A L.length c] :: []) enL ((hopI _).trans (Ent.trans (B := rowI (⟨⟨xi, xl, xm, [⟨65535, t⟩]⟩, xA, xca, some ⟨b9, 0, none⟩, 1⟩ : PtyP) :: allH ((M2.eraseIdx 1).map rowI) :: orow 37 A2 c2 (M2.set 1 (⟨⟨xi, xl, xm, [⟨65535, t⟩]⟩, xA, xca, some ⟨b9, 0, none⟩, 1⟩ : PtyP)) :: allH (M2.map rowM) :: bx b7 24 [.int .i64 t, .int .i64 la, .slice A2 M2.length c2] :: bx b4 32 [.int .i64 xk, .int .i64 xa, .int .i64 xb] :: bx b3 24 [.int .i64 t, .int .i64 la, .slice A L.length c] :: []) enL ((hclI _ _).trans enL)))) ent_knp)
      clear hM3 hnv
      (repeat' (first | (show VH _ _ _ _ _ _ _; first | refine v_seq ?_ | refine r_seq ?_) | (show SH _ _ _ _ _ (_ :: _) _ _ _; first | (show SH _ _ _ _ _ (⟨_, .load _ _, _, _, _, _⟩ :: _) _ _ _; refine lba rfl spL (by rfl) ?_) | (show SH _ _ _ _ _ (⟨_, .call ⟨.value (.func 14), _, _⟩, _, _, _, _⟩ :: _) _ _ _; refine cp (callee := .func 14) rfl (fun w hw => e1 w (Wd.kp hw spL)) rfl rfl ?_))))
      rintro _ _ ⟨A5, c5, L5, hp5, rfl, rfl⟩
      simp only at hp5 ⊢
      have hsame := fun w h1 h2 => same36_spec 0 0 0 0 A5 none L5 [] c5 0 w (szQ_sz hp5 (by decide)) (szQ_sz (ps := []) rfl (by decide)) h1 h2
      rw [show decide ((⟨0, 0, ptys L5⟩ : Hal) = ⟨0, 0, ptys []⟩) = true from decide_eq_true (by rw [hp5]; rfl)] at hsame
      (repeat' (first | (show VH _ _ _ _ _ _ _; first | refine v_seq ?_ | refine r_seq ?_) | (show SH _ _ _ _ _ (_ :: _) _ _ _; first | (show SH _ _ _ _ _ (⟨_, .move _, _, _, _, _⟩ :: _) _ _ _; refine mov evL ?_) | (show SH _ _ _ _ _ (⟨_, .assign _, _, _, _, _⟩ :: _) _ _ _; refine asg evL ?_) | (show SH _ _ _ _ _ (⟨_, .load _ _, _, _, _, _⟩ :: _) _ _ _; first | refine lbx rfl spL (by rfl) ?_ | refine lba rfl spL (by rfl) ?_) | (show SH _ _ _ _ _ (⟨_, .call ⟨.value (.func 17), _, _⟩, _, _, _, _⟩ :: _) _ _ _; refine cp (callee := .func 17) rfl (fun w hw => e2 w (Wd.kp hw spL)) rfl rfl ?_) | refine extr rfl rfl ?_ | refine fad rfl ?_ | refine ala rfl (fun b => ?_) | (show SH _ _ _ _ _ (⟨_, .store _ _ _, _, _, _, _⟩ :: _) _ _ _; refine sta rfl rfl rfl spL (by rfl) (by rfl) (by rfl) kpL ?_)) | refine s_nil ?_ | refine kh_normal ?_))
      rintro _ _ ⟨rfl, rfl⟩
      (repeat' (first | (show VH _ _ _ _ _ _ _; first | refine v_seq ?_ | refine r_seq ?_) | (show SH _ _ _ _ _ (_ :: _) _ _ _; first | (show SH _ _ _ _ _ (⟨_, .move _, _, _, _, _⟩ :: _) _ _ _; refine mov evL ?_) | (show SH _ _ _ _ _ (⟨_, .assign _, _, _, _, _⟩ :: _) _ _ _; refine asg evL ?_) | (show SH _ _ _ _ _ (⟨_, .load _ _, _, _, _, _⟩ :: _) _ _ _; first | refine lbx rfl spL (by rfl) ?_ | refine lba rfl spL (by rfl) ?_) | (show SH _ _ _ _ _ (⟨_, .call ⟨.value (.func 25), _, _⟩, _, _, _, _⟩ :: _) _ _ _; refine cp (callee := .func 25) rfl (fun w hw => e3 w (Wd.kp hw spL)) rfl rfl ?_) | refine extr rfl rfl ?_ | refine fad rfl ?_ | refine ala rfl (fun b => ?_) | (show SH _ _ _ _ _ (⟨_, .store _ _ _, _, _, _, _⟩ :: _) _ _ _; refine sta rfl rfl rfl spL (by rfl) (by rfl) (by rfl) kpL ?_)) | refine s_nil ?_ | refine kh_normal ?_))
      rintro _ _ ⟨A6, c6, rfl, rfl⟩
      (repeat' (first | (show VH _ _ _ _ _ _ _; first | refine v_seq ?_ | refine r_seq ?_ | refine v_ret ?_) | (show SH _ _ _ _ _ (_ :: _) _ _ _; first | (show SH _ _ _ _ _ (⟨_, _, _, _, _, some _⟩ :: _) _ _ _; (refine gif rfl rfl ?_; refine giTT tbL ?_)) | (show SH _ _ _ _ _ (⟨_, .move _, _, _, _, _⟩ :: _) _ _ _; refine mov evL ?_) | (show SH _ _ _ _ _ (⟨_, .assign _, _, _, _, _⟩ :: _) _ _ _; refine asg evL ?_) | (show SH _ _ _ _ _ (⟨_, .binOp .eql _ _ _ _, _, _, _, _⟩ :: _) _ _ _; first | refine eqlT rfl rfl omD ?_ | refine eql rfl rfl ?_) | (show SH _ _ _ _ _ (⟨_, .load _ _, _, _, _, _⟩ :: _) _ _ _; first | refine lbx rfl spL (by rfl) ?_ | refine lba rfl spL (by rfl) ?_) | refine slen rfl ?_ | (show SH _ _ _ _ _ (⟨_, .call ⟨.value (.func 12), _, _⟩, _, _, _, _⟩ :: _) _ _ _; refine cl (callee := .func 12) rfl (fun w hw => e4 w (Wd.kp hw spL)) rfl rfl ?_) | (show SH _ _ _ _ _ (⟨_, .call ⟨.value (.func 15), _, _⟩, _, _, _, _⟩ :: _) _ _ _; refine cl (callee := .func 15) rfl (fun w hw => hsame w (Wd.kp hw spL) (rdPz w)) rfl rfl ?_) | refine bnoF rfl ?_ | (show SH _ _ _ _ _ (⟨_, .pick _ _ _, _, _, _, _⟩ :: _) _ _ _; refine pkt rfl tbL evL ?_) | refine extr rfl rfl ?_ | refine fad rfl ?_ | refine bld rfl rfl ?_) | refine s_nil ?_ | refine kh_normal ?_))
      exact rh1 rfl rfl ⟨rfl, rfl⟩ (ent_nil _)
end Go.Proofs.Ytlfbcoohfnoacaa

/- PartyWrong answers true, whatever the input; no condition. -/
namespace Go.Proofs.Ytlfbcoohfnoacaa
open Go.Fw Go.RowKit Go.ChangeShapes Go.WideShapes Go.ChangeAt
set_option maxRecDepth 100000 in
theorem wrong_lifted (os : Os) (started : os.Started) (H : Type) (enc : TypeId × Value → H) :
    ReturnsInHanded {} Try.checked os 9 .any (Rows.partyWrongSpec.pre6 enc Try.prog Try.f9 Rows.partyWrongRow.domain false) (Rows.partyWrongSpec.post enc Try.prog Try.f9 false true false false) := by
  refine returnsInHanded_of_change (C := Try.checked) ownK started (by kernel_rfl) Try.func9
    (ChangeSpec.witness6 (enc := enc) (C := Try.checked) false ⟨#[], #[.agg #[.int .i64 0, .int .i64 0, .slice none 0 0], .agg #[.int .i64 0, .int .i64 0, .int .i64 0], .int .u8 0], []⟩ 8 (by kernel_rfl) (by kernel_rfl) (by kernel_rfl) (by kernel_rfl)) ?_
  intro W base args ds gs before hval0 hW _ _
  have hval : ∀ (j : Nat) t v, Try.f9.params[j]? = some t → args[j]? = some v → Value.okWide Try.prog W .any base t v := hval0
  have hW' := hW
  obtain ⟨p, q, hA0, hV, rfl, _, _⟩ := hW
  have hA : DataW.TrodAll enc Try.prog W 0 (fun _ => true) true Try.f9.params.toList args.toList ds p := hA0
  rw [Try.params9] at hA hval
  obtain ⟨v0, vs0, d0, ds0, p0, q0, hargs, rfl, rfl, h0, r0⟩ := trodAll_cons hA
  obtain ⟨v1, vs1, d1, ds1, p1, q1, rfl, rfl, rfl, h1, r1⟩ := trodAll_cons r0
  obtain ⟨v2, vs2, d2, ds2, p2, q2, rfl, rfl, rfl, h2, r2⟩ := trodAll_cons r1
  obtain ⟨rfl, rfl, rfl⟩ := trodAll_nil r2
  obtain rfl : args = #[v0, v1, v2] := by cases args; simp_all
  obtain ⟨t0, la0, A0, L0, c0, rfl, hr0, hl0⟩ := open_hall (hval 0 24 v0 rfl rfl) h0
  obtain ⟨a1, rfl⟩ := open_do36 (hval 1 32 v1 rfl rfl) h1
  obtain ⟨a2, rfl, _, _, w2⟩ := open_int Try.underlying5 (hval 2 5 v2 rfl rfl) h2
  obtain ⟨lo2, hi2⟩ := u8_of w2
  refine ((wrongLaw t0 la0 A0 L0 c0 a1 a2 W lo2 hi2 hl0 hr0).2).mono fun e W' ⟨v, he, hR, ⟨hv, _⟩, hext⟩ => ?_
  subst hv
  exact ⟨_, he, law_post (P := Try.prog) (tb := 4) laidK (by kernel_rfl) rfl Try.underlying4 rfl ⟨rfl, rfl, rfl⟩ hW' hext.ext⟩
theorem wrong_holds : Rows.PartyWrongSaid :=
  OpenClaim.holds_of_wide 9 Try.f9 rfl rfl rfl rfl rfl rfl rfl ⟨rfl, rfl, rfl, rfl, rfl⟩ rfl rfl rfl rfl rfl (by kernel_rfl) Try.func9 (by kernel_rfl)
    (of_decide_eq_true (by kernel_rfl)) (by unfold Func.isWrapper; first | (rw [if_pos (by decide +kernel)]; kernel_rfl) | (rw [if_neg (by decide +kernel)]; exact ⟨rfl, rfl⟩))
    (fun os started H enc _ => wrong_lifted os started H enc)
end Go.Proofs.Ytlfbcoohfnoacaa

