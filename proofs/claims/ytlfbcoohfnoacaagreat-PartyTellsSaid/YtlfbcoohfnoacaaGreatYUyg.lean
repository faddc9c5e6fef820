/- marcheslaw36: Given, Taken (printed by gen_gt36.py). -/
import Derived.Test.YtlfbcoohfnoacaaGreatYTwp
import Derived.Test.YtlfbcoohfnoacaaGreatYMp
import Derived.Test.YtlfbcoohfnoacaaGreatYWz
import Derived.Test.YtlfbcoohfnoacaaGreatYUxv
set_option linter.unusedSimpArgs false
set_option linter.unusedVariables false
namespace Go.Proofs.YtlfbcoohfnoacaaGreat
open Go.Fw Go.RowKit
/-- Invitations in a row of the reference's. -/
abbrev rowR (x : PtyP) : HP := orow 40 x.B x.cb x.p.inv
set_option maxHeartbeats 4000000 in
set_option maxRecDepth 100000 in
theorem givenParty_spec (x : PtyP) (w : World) (hl : x.p.mem.length ≤ 1000) (hl2 : x.p.inv.length ≤ 1000) (hr : Rd w x.A x.p.mem) (hr2 : Rd w x.B x.p.inv) :
    Ret Tryz.prog 22 [.agg (Flat.enc x).toArray].toArray w (RP w fun v H' => ∃ y : PtyP, y.p = x.p ∧ v = .agg (Flat.enc y).toArray ∧ H' = [rowM y, rowR y]) := by
  have hC := fun w' (he : Ext w w') => copyInts_spec x.A x.p.mem x.ca w' (by omega) (hr.ext he)
  obtain ⟨⟨xi, xl, xm, xv⟩, xA, xca, xB, xcb⟩ := x
  simp only at hC hr hr2 hl hl2 ⊢
  rw [show Flat.enc (⟨⟨xi, xl, xm, xv⟩, xA, xca, xB, xcb⟩ : PtyP) = [.int .i64 xi, .int .i64 xl, .slice xA xm.length xca, .slice xB xv.length xcb] from rfl]
  refine enterH Tryz.func22 rfl rfl Tryz.ntmps22 rfl (Wd.refl _) ?_
  (repeat' (first | (show VH _ _ _ _ _ _ _; first | refine v_seq ?_ | refine r_seq ?_) | (show SH _ _ _ _ _ (_ :: _) _ _ _; first | refine ala rfl (fun b => ?_) | (show SH _ _ _ _ _ (⟨_, .box _ _, _, _, _, _⟩ :: _) _ _ _; refine bxx rfl evL rfl (fun b => ?_))) | refine s_nil ?_ | refine kh_normal ?_))
  rename_i b1
  revert b
  intro b2
  refine r_heldT [bx b1 46 _] (tr [(0, true), (1, true), (2, true), (3, true), (4, true), (5, true)] (.fork 6 (tr [(7, true), (8, false), (9, false)] .nil) 8 (tr [(6, false), (7, false), (9, false)] .nil))) hmix (by kernel_rfl) enL ?_
  (repeat' (first | (show SH _ _ _ _ _ (_ :: _) _ _ _; first | (show SH _ _ _ _ _ (⟨_, .load _ _, _, _, _, _⟩ :: _) _ _ _; refine lbx rfl spL (by rfl) ?_) | (show SH _ _ _ _ _ (⟨_, .call ⟨.value (.func 62), _, _⟩, _, _, _, _⟩ :: _) _ _ _; refine cp (callee := .func 62) rfl (fun w hw => hC _ hw.ext) rfl rfl ?_) | refine fad rfl ?_ | refine ala rfl (fun b => ?_)) | refine s_fork ?_ ?_))
  all_goals
    rintro _ _ ⟨A1, a1, rfl, rfl⟩
    (repeat' (first | (show VH _ _ _ _ _ _ _; first | refine v_seq ?_ | refine r_seq ?_ | refine v_block ?_) | (show SH _ _ _ _ _ (_ :: _) _ _ _; first | (show SH _ _ _ _ _ (⟨_, .assign _, _, _, _, _⟩ :: _) _ _ _; refine asg evL ?_) | refine bld rfl rfl ?_ | refine ala rfl (fun b => ?_) | (show SH _ _ _ _ _ (⟨_, .store _ _ _, _, _, _, _⟩ :: _) _ _ _; refine sta rfl rfl rfl spL (by rfl) (by rfl) (by rfl) kpL ?_)) | refine s_nil ?_ | refine kh_normal ?_))
    revert b
    intro b3
    refine v_norm [(1,_),(2,_),(3,_),(4,_)] heL (fun g => ?_)
    refine VH.ent (G := [orow 40 none 0 ([] : List Inv), bx b3 43 [.int .i64 xi, .int .i64 xl, .slice A1 xm.length a1, .slice none 0 0], orow 3 A1 a1 xm, bx b1 46 [.int .i64 xi, .int .i64 xl, .slice xA xm.length xca, .slice xB xv.length xcb], bx b2 43 [.int .i64 0, .int .i64 0, .slice none 0 0, .slice none 0 0]]) ?_ (ent_nilrow enL)
    refine v_loop [(4,4),(13,37)] (fun y : Nat × Option Addr × Nat => [(4, .int .i64 y.1)]) (fun y => [orow 40 y.2.1 y.2.2 (xv.take y.1), bx b3 43 [.int .i64 xi, .int .i64 xl, .slice A1 xm.length a1, .slice y.2.1 (xv.take y.1).length y.2.2], orow 3 A1 a1 xm, bx b1 46 [.int .i64 xi, .int .i64 xl, .slice xA xm.length xca, .slice xB xv.length xcb], bx b2 43 [.int .i64 0, .int .i64 0, .slice none 0 0, .slice none 0 0]]) (fun y => y.1 ≤ xv.length) (fun y => xv.length - y.1) (0, none, 0) hsL enL (Nat.zero_le _) ?_
    rintro ⟨k, B, d⟩ g hk
    simp only [sets]
    simp only at hk
    by_cases hkl : k < xv.length
    · have htk := take_snoc (d := (Flat.dflt : Inv)) hkl
      obtain ⟨v, hv⟩ : ∃ v, xv.getD k Flat.dflt = v := ⟨_, rfl⟩
      have hvE := inv_enc hv
      rw [hv] at htk
      have hfl : (xv.take k).length ≤ 1000 := by rw [List.length_take]; omega
      clear hv hC
      obtain ⟨vw, vt⟩ := v
      simp only at hvE
      generalize xv.take k = F at htk hfl ⊢
      (repeat' (first | (show VH _ _ _ _ _ _ _; first | refine v_seq ?_ | refine r_seq ?_ | refine v_block ?_ | refine v_skip ?_ | refine v_cond_t rfl tbL ?_) | (show SH _ _ _ _ _ (_ :: _) _ _ _; first | (show SH _ _ _ _ _ (⟨_, .move _, _, _, _, _⟩ :: _) _ _ _; refine mov evL ?_) | (show SH _ _ _ _ _ (⟨_, .binOp .lss _ _ _ _, _, _, _, _⟩ :: _) _ _ _; refine lssT rfl rfl omD ?_) | (show SH _ _ _ _ _ (⟨_, .load _ _, _, _, _, _⟩ :: _) _ _ _; refine lbx rfl spL (by rfl) ?_) | refine slen rfl ?_ | refine fad rfl ?_) | refine s_nil ?_ | refine kh_normal ?_))
      refine r_heldT [bx b1 46 _] (tr [(0, true), (2, true), (3, true), (4, true), (5, true), (6, true), (7, true), (8, true), (9, true), (10, true), (11, true), (12, true), (13, true), (14, true)] (.fork 1 (tr [(15, false), (16, false), (17, false), (18, false)] .nil) 15 (tr [(1, false), (16, false), (17, false), (18, false)] .nil))) hmix (by kernel_rfl) enL ?_
      (repeat' (first | (show SH _ _ _ _ _ (_ :: _) _ _ _; first | (show SH _ _ _ _ _ (⟨_, .move _, _, _, _, _⟩ :: _) _ _ _; refine mov evL ?_) | (show SH _ _ _ _ _ (⟨_, .load _ _, _, _, _, _⟩ :: _) _ _ _; first | refine lbx rfl spL (by rfl) ?_ | refine lrg rfl (fun _ _ => rdP) (by rfl) omL (by assumption) (by rfl) ?_) | (show SH _ _ _ _ _ (⟨_, .indexAddr _ _ _, _, _, _, _⟩ :: _) _ _ _; refine ix rfl rfl (by with_reducible rfl) (fun _ _ => rdP) (by rfl) omL omL ?_) | refine fad rfl ?_ | refine bld rfl rfl ?_) | refine s_fork ?_ ?_))
      all_goals
        refine bsl (l := [(⟨vw, vt⟩ : Inv)]) rfl rfl (Vals.cons rfl Vals.nil) rfl rfl (by decide) (fun b9 => ?_)
        (repeat' ((show SH _ _ _ _ _ (_ :: _) _ _ _; (show SH _ _ _ _ _ (⟨_, .load _ _, _, _, _, _⟩ :: _) _ _ _; refine lbx rfl spL (by rfl) ?_))))
        refine app (l := F) (l2 := [(⟨vw, vt⟩ : Inv)]) rfl rfl rfl spL (fun w hw => hw.rd spL) rfl rfl rfl (by simp only [List.length_singleton]; omega) (by simp only [List.length_singleton]; omega) (fun A4 c4 => ⟨enL, ?_⟩)
        (repeat' (first | refine r_seq ?_ | (show SH _ _ _ _ _ (_ :: _) _ _ _; first | (show SH _ _ _ _ _ (⟨_, .move _, _, _, _, _⟩ :: _) _ _ _; refine mov evL ?_) | (show SH _ _ _ _ _ (⟨_, .assign _, _, _, _, _⟩ :: _) _ _ _; refine asg evL ?_) | (show SH _ _ _ _ _ (⟨_, .binOp .add _ _ _ _, _, _, _, _⟩ :: _) _ _ _; refine add rfl rfl inL ?_) | refine fad rfl ?_ | (show SH _ _ _ _ _ (⟨_, .store _ _ _, _, _, _, _⟩ :: _) _ _ _; refine stb rfl rfl evL spL rfl rfl (by first | decide | exact Nat.zero_lt_succ _ | exact of_decide_eq_true rfl) kpL ?_)) | refine s_nil ?_ | refine kh_normal ?_ | refine bh_normal ?_))
        exact ⟨agL, (k + 1, A4, c4), hsL, by rw [htk]; exact enL, hkl, by show xv.length - (k + 1) < xv.length - k; omega⟩
    · obtain rfl : k = xv.length := by omega
      rw [List.take_length]
      clear hC
      (repeat' (first | (show VH _ _ _ _ _ _ _; first | refine v_seq ?_ | refine r_seq ?_ | refine v_ret ?_ | refine v_exit ?_ | refine v_cond_f rfl tbL ?_) | (show SH _ _ _ _ _ (_ :: _) _ _ _; first | (show SH _ _ _ _ _ (⟨_, .move _, _, _, _, _⟩ :: _) _ _ _; refine mov evL ?_) | (show SH _ _ _ _ _ (⟨_, .binOp .lss _ _ _ _, _, _, _, _⟩ :: _) _ _ _; refine lssF rfl rfl omD ?_) | (show SH _ _ _ _ _ (⟨_, .load _ _, _, _, _, _⟩ :: _) _ _ _; first | refine lbx rfl spL (by rfl) ?_ | refine lba rfl spL (by rfl) ?_) | refine slen rfl ?_ | refine fad rfl ?_ | (show SH _ _ _ _ _ (⟨_, .store _ _ _, _, _, _, _⟩ :: _) _ _ _; refine sta rfl rfl rfl spL (by rfl) (by rfl) (by rfl) kpL ?_)) | refine s_nil ?_ | refine kh_normal ?_ | refine kh_exit ?_ | refine bh_exit ?_))
      exact rhC rfl rfl rfl (fun w hw => loadVar_bx hw spL (by rfl)) ⟨⟨⟨xi, xl, xm, xv⟩, A1, a1, B, d⟩, rfl, rfl, rfl⟩ enL
set_option maxHeartbeats 4000000 in
set_option maxRecDepth 100000 in
theorem given_spec (t la : Int) (A : Option Addr) (L : List PtyP) (c : Nat) (w : World) (hz : SzP L) (hr : RdP w A L) :
    Ret Tryz.prog 7 [hv36 t la A L c].toArray w (RP w fun v H' => ∃ A' c' M, ptys M = ptys L ∧ v = hv36 t la A' M c' ∧ H' = [orow 43 A' c' M, allH (M.map rowM), allH (M.map rowR)]) := by
  have hrA := hr.1
  have hll := hz.len
  refine enterH Tryz.func7 rfl rfl Tryz.ntmps7 rfl (Wd.refl _) ?_
  (repeat' (first | (show VH _ _ _ _ _ _ _; first | refine v_seq ?_ | refine r_seq ?_ | refine v_block ?_) | (show SH _ _ _ _ _ (_ :: _) _ _ _; first | (show SH _ _ _ _ _ (⟨_, .assign _, _, _, _, _⟩ :: _) _ _ _; refine asg evL ?_) | (show SH _ _ _ _ _ (⟨_, .load _ _, _, _, _, _⟩ :: _) _ _ _; refine lbx rfl spL (by rfl) ?_) | refine fad rfl ?_ | refine bld rfl rfl ?_ | refine ala rfl (fun b => ?_) | (show SH _ _ _ _ _ (⟨_, .box _ _, _, _, _, _⟩ :: _) _ _ _; refine bxx rfl evL rfl (fun b => ?_)) | (show SH _ _ _ _ _ (⟨_, .store _ _ _, _, _, _, _⟩ :: _) _ _ _; refine sta rfl rfl rfl spL (by rfl) (by rfl) (by rfl) kpL ?_)) | refine s_nil ?_ | refine kh_normal ?_))
  rename_i b1 b2
  revert b
  intro b3
  refine v_norm [(1,_),(2,_),(3,_),(4,_)] heL (fun g => ?_)
  refine VH.ent (G := [allH (([] : List PtyP).map rowM), allH (([] : List PtyP).map rowR), orow 43 none 0 ([] : List PtyP), bx b3 30 [.int .i64 t, .int .i64 la, .slice none 0 0], bx b1 24 [.int .i64 t, .int .i64 la, .slice A L.length c], bx b2 30 [.int .i64 0, .int .i64 0, .slice none 0 0]]) ?_ (ent_all_nil (ent_all_nil (ent_nilrow enL)))
  refine v_loop [(4,4),(10,27)] (fun y : Nat × Option Addr × Nat × List PtyP => [(4, .int .i64 y.1)]) (fun y => [allH (y.2.2.2.map rowM), allH (y.2.2.2.map rowR), orow 43 y.2.1 y.2.2.1 y.2.2.2, bx b3 30 [.int .i64 t, .int .i64 la, .slice y.2.1 y.2.2.2.length y.2.2.1], bx b1 24 [.int .i64 t, .int .i64 la, .slice A L.length c], bx b2 30 [.int .i64 0, .int .i64 0, .slice none 0 0]]) (fun y => y.1 ≤ L.length ∧ ptys y.2.2.2 = (ptys L).take y.1) (fun y => L.length - y.1) (0, none, 0, []) hsL enL ⟨Nat.zero_le _, by simp [ptys]⟩ ?_
  rintro ⟨k, B, d, M⟩ g ⟨hk, hM⟩
  simp only [sets]
  simp only at hk hM
  have hMl : M.length = k := by
    have := congrArg List.length hM
    rw [ptys_len, List.length_take, ptys_len] at this; omega
  by_cases hkl : k < L.length
  · have hM1 : ∀ y : PtyP, y.p = (L.getD k Flat.dflt).p → ptys (M ++ [y]) = (ptys L).take (k + 1) := fun y hy => by
      rw [ptys_snoc, hM, take_snoc (d := pty0) (by rw [ptys_len]; exact hkl), ptys_at hkl, hy]
    have hO := fun w h1 h2 => givenParty_spec (L.getD k Flat.dflt) w (hz.atm hkl) (hz.ati hkl) h1 h2
    have hm := hr.mem hkl
    have hi := hr.inv hkl
    clear hz hr hM
    (repeat' (first | (show VH _ _ _ _ _ _ _; first | refine v_seq ?_ | refine r_seq ?_ | refine v_block ?_ | refine v_skip ?_ | refine v_cond_t rfl tbL ?_) | (show SH _ _ _ _ _ (_ :: _) _ _ _; first | (show SH _ _ _ _ _ (⟨_, .move _, _, _, _, _⟩ :: _) _ _ _; refine mov evL ?_) | (show SH _ _ _ _ _ (⟨_, .binOp .lss _ _ _ _, _, _, _, _⟩ :: _) _ _ _; refine lssT rfl rfl omD ?_) | (show SH _ _ _ _ _ (⟨_, .load _ _, _, _, _, _⟩ :: _) _ _ _; refine lbx rfl spL (by rfl) ?_) | refine slen rfl ?_ | refine fad rfl ?_) | refine s_nil ?_ | refine kh_normal ?_))
    refine r_heldT [bx b1 24 _] (tr [(0, true), (2, true), (3, true), (4, true), (5, true), (6, true)] (.fork 1 (tr [(7, false), (8, false), (9, false), (10, false), (11, false)] .nil) 7 (tr [] (.fork 1 (tr [(8, false), (9, false), (10, false), (11, false)] .nil) 8 (tr [(1, false), (9, false), (10, false), (11, false)] .nil))))) hmix (by kernel_rfl) enL ?_
    (repeat' (first | (show SH _ _ _ _ _ (_ :: _) _ _ _; first | (show SH _ _ _ _ _ (⟨_, .move _, _, _, _, _⟩ :: _) _ _ _; refine mov evL ?_) | (show SH _ _ _ _ _ (⟨_, .load _ _, _, _, _, _⟩ :: _) _ _ _; first | refine lbx rfl spL (by rfl) ?_ | refine lra rfl (fun _ _ => rdP) (by rfl) omL ?_ | refine lra rfl (fun _ _ => rdP) (by rfl) (by simp only [List.length_cons, List.length_nil]; omega) ?_) | (show SH _ _ _ _ _ (⟨_, .indexAddr _ _ _, _, _, _, _⟩ :: _) _ _ _; refine ix rfl rfl (by with_reducible rfl) (fun _ _ => rdP) (by rfl) omL omL ?_) | (show SH _ _ _ _ _ (⟨_, .call ⟨.value (.func 22), _, _⟩, _, _, _, _⟩ :: _) _ _ _; refine cp (callee := .func 22) rfl (fun w hw => hO w (hm.ext hw.ext) (hi.ext hw.ext)) rfl rfl ?_) | refine fad rfl ?_) | refine s_fork ?_ ?_))
    all_goals
      rintro _ _ ⟨y, hyp, rfl, rfl⟩
      (repeat' (first | (show SH _ _ _ _ _ (_ :: _) _ _ _; (show SH _ _ _ _ _ (⟨_, .load _ _, _, _, _, _⟩ :: _) _ _ _; refine lbx rfl spL (by rfl) ?_)) | refine s_fork ?_ ?_))
    all_goals
      refine bsl (l := [y]) rfl rfl (Vals.cons rfl Vals.nil) rfl rfl (by decide) (fun b9 => ?_)
      (repeat' ((show SH _ _ _ _ _ (_ :: _) _ _ _; (show SH _ _ _ _ _ (⟨_, .load _ _, _, _, _, _⟩ :: _) _ _ _; refine lbx rfl spL (by rfl) ?_))))
    all_goals
      refine app (l := M) (l2 := [y]) rfl rfl rfl spL (fun w hw => hw.rd spL) rfl rfl rfl (by simp only [List.length_singleton]; omega) (by simp only [List.length_singleton]; omega) (fun A4 c4 => ⟨enL, ?_⟩)
      (repeat' (first | refine r_seq ?_ | (show SH _ _ _ _ _ (_ :: _) _ _ _; first | (show SH _ _ _ _ _ (⟨_, .move _, _, _, _, _⟩ :: _) _ _ _; refine mov evL ?_) | (show SH _ _ _ _ _ (⟨_, .assign _, _, _, _, _⟩ :: _) _ _ _; refine asg evL ?_) | (show SH _ _ _ _ _ (⟨_, .binOp .add _ _ _ _, _, _, _, _⟩ :: _) _ _ _; refine add rfl rfl inL ?_) | refine fad rfl ?_ | (show SH _ _ _ _ _ (⟨_, .store _ _ _, _, _, _, _⟩ :: _) _ _ _; refine stb rfl rfl evL spL rfl rfl (by first | decide | exact Nat.zero_lt_succ _ | exact of_decide_eq_true rfl) kpL ?_)) | refine s_nil ?_ | refine kh_normal ?_ | refine bh_normal ?_))
      refine ⟨agL, (k + 1, A4, c4, M ++ [y]), hsL, ?_, ⟨hkl, hM1 y hyp⟩, by show L.length - (k + 1) < L.length - k; omega⟩
      exact Ent.trans (B := [rowM y, allH (M.map rowM), rowR y, allH (M.map rowR), orow 43 A4 c4 (M ++ [y]), bx b3 30 [.int .i64 t, .int .i64 la, .slice A4 (M ++ [y]).length c4], bx b1 24 [.int .i64 t, .int .i64 la, .slice A L.length c], bx b2 30 [.int .i64 0, .int .i64 0, .slice none 0 0]]) enL (ent_all_snoc.trans (ent_cons Split.head ent_all_snoc))
  · obtain rfl : k = L.length := by omega
    have hMp : ptys M = ptys L := by rw [hM, ← ptys_len, List.take_length]
    (repeat' (first | (show VH _ _ _ _ _ _ _; first | refine v_seq ?_ | refine r_seq ?_ | refine v_ret ?_ | refine v_exit ?_ | refine v_cond_f rfl tbL ?_) | (show SH _ _ _ _ _ (_ :: _) _ _ _; first | (show SH _ _ _ _ _ (⟨_, .move _, _, _, _, _⟩ :: _) _ _ _; refine mov evL ?_) | (show SH _ _ _ _ _ (⟨_, .binOp .lss _ _ _ _, _, _, _, _⟩ :: _) _ _ _; refine lssF rfl rfl omD ?_) | (show SH _ _ _ _ _ (⟨_, .load _ _, _, _, _, _⟩ :: _) _ _ _; first | refine lbx rfl spL (by rfl) ?_ | refine lba rfl spL (by rfl) ?_) | refine slen rfl ?_ | refine fad rfl ?_ | (show SH _ _ _ _ _ (⟨_, .store _ _ _, _, _, _, _⟩ :: _) _ _ _; refine sta rfl rfl rfl spL (by rfl) (by rfl) (by rfl) kpL ?_)) | refine s_nil ?_ | refine kh_normal ?_ | refine kh_exit ?_ | refine bh_exit ?_))
    exact rhC rfl rfl rfl (fun w hw => loadVar_bx hw spL (by rfl)) ⟨B, d, M, hMp, rfl, rfl⟩ enL
set_option maxHeartbeats 4000000 in
set_option maxRecDepth 100000 in
theorem takenParty_spec (x : PtyP) (w : World) (hl : x.p.mem.length ≤ 1000) (hl2 : x.p.inv.length ≤ 1000) (hr : Rd w x.A x.p.mem) (hr2 : Rd w x.B x.p.inv) :
    Ret Tryz.prog 36 [.agg (Flat.enc x).toArray].toArray w (RP w fun v H' => ∃ y : PtyP, y.p = x.p ∧ v = .agg (Flat.enc y).toArray ∧ H' = [rowM y, rowI y]) := by
  have hC := fun w' (he : Ext w w') => copyInts_spec x.A x.p.mem x.ca w' (by omega) (hr.ext he)
  obtain ⟨⟨xi, xl, xm, xv⟩, xA, xca, xB, xcb⟩ := x
  simp only at hC hr hr2 hl hl2 ⊢
  rw [show Flat.enc (⟨⟨xi, xl, xm, xv⟩, xA, xca, xB, xcb⟩ : PtyP) = [.int .i64 xi, .int .i64 xl, .slice xA xm.length xca, .slice xB xv.length xcb] from rfl]
  refine enterH Tryz.func36 rfl rfl Tryz.ntmps36 rfl (Wd.refl _) ?_
  (repeat' (first | (show VH _ _ _ _ _ _ _; first | refine v_seq ?_ | refine r_seq ?_) | (show SH _ _ _ _ _ (_ :: _) _ _ _; first | refine ala rfl (fun b => ?_) | (show SH _ _ _ _ _ (⟨_, .box _ _, _, _, _, _⟩ :: _) _ _ _; refine bxx rfl evL rfl (fun b => ?_))) | refine s_nil ?_ | refine kh_normal ?_))
  rename_i b1
  revert b
  intro b2
  refine r_heldT [bx b1 43 _] (tr [(0, true), (1, true), (2, true), (3, true), (4, true), (5, true)] (.fork 6 (tr [(7, true), (8, false), (9, false)] .nil) 8 (tr [(6, false), (7, false), (9, false)] .nil))) hmix (by kernel_rfl) enL ?_
  (repeat' (first | (show SH _ _ _ _ _ (_ :: _) _ _ _; first | (show SH _ _ _ _ _ (⟨_, .load _ _, _, _, _, _⟩ :: _) _ _ _; refine lbx rfl spL (by rfl) ?_) | (show SH _ _ _ _ _ (⟨_, .call ⟨.value (.func 62), _, _⟩, _, _, _, _⟩ :: _) _ _ _; refine cp (callee := .func 62) rfl (fun w hw => hC _ hw.ext) rfl rfl ?_) | refine fad rfl ?_ | refine ala rfl (fun b => ?_)) | refine s_fork ?_ ?_))
  all_goals
    rintro _ _ ⟨A1, a1, rfl, rfl⟩
    (repeat' (first | (show VH _ _ _ _ _ _ _; first | refine v_seq ?_ | refine r_seq ?_ | refine v_block ?_) | (show SH _ _ _ _ _ (_ :: _) _ _ _; first | (show SH _ _ _ _ _ (⟨_, .assign _, _, _, _, _⟩ :: _) _ _ _; refine asg evL ?_) | refine bld rfl rfl ?_ | refine ala rfl (fun b => ?_) | (show SH _ _ _ _ _ (⟨_, .store _ _ _, _, _, _, _⟩ :: _) _ _ _; refine sta rfl rfl rfl spL (by rfl) (by rfl) (by rfl) kpL ?_)) | refine s_nil ?_ | refine kh_normal ?_))
    revert b
    intro b3
    refine v_norm [(1,_),(2,_),(3,_),(4,_)] heL (fun g => ?_)
    refine VH.ent (G := [orow 61 none 0 ([] : List Inv), bx b3 46 [.int .i64 xi, .int .i64 xl, .slice A1 xm.length a1, .slice none 0 0], orow 3 A1 a1 xm, bx b1 43 [.int .i64 xi, .int .i64 xl, .slice xA xm.length xca, .slice xB xv.length xcb], bx b2 46 [.int .i64 0, .int .i64 0, .slice none 0 0, .slice none 0 0]]) ?_ (ent_nilrow enL)
    refine v_loop [(4,4),(13,37)] (fun y : Nat × Option Addr × Nat => [(4, .int .i64 y.1)]) (fun y => [orow 61 y.2.1 y.2.2 (xv.take y.1), bx b3 46 [.int .i64 xi, .int .i64 xl, .slice A1 xm.length a1, .slice y.2.1 (xv.take y.1).length y.2.2], orow 3 A1 a1 xm, bx b1 43 [.int .i64 xi, .int .i64 xl, .slice xA xm.length xca, .slice xB xv.length xcb], bx b2 46 [.int .i64 0, .int .i64 0, .slice none 0 0, .slice none 0 0]]) (fun y => y.1 ≤ xv.length) (fun y => xv.length - y.1) (0, none, 0) hsL enL (Nat.zero_le _) ?_
    rintro ⟨k, B, d⟩ g hk
    simp only [sets]
    simp only at hk
    by_cases hkl : k < xv.length
    · have htk := take_snoc (d := (Flat.dflt : Inv)) hkl
      obtain ⟨v, hv⟩ : ∃ v, xv.getD k Flat.dflt = v := ⟨_, rfl⟩
      have hvE := inv_enc hv
      rw [hv] at htk
      have hfl : (xv.take k).length ≤ 1000 := by rw [List.length_take]; omega
      clear hv hC
      obtain ⟨vw, vt⟩ := v
      simp only at hvE
      generalize xv.take k = F at htk hfl ⊢
      (repeat' (first | (show VH _ _ _ _ _ _ _; first | refine v_seq ?_ | refine r_seq ?_ | refine v_block ?_ | refine v_skip ?_ | refine v_cond_t rfl tbL ?_) | (show SH _ _ _ _ _ (_ :: _) _ _ _; first | (show SH _ _ _ _ _ (⟨_, .move _, _, _, _, _⟩ :: _) _ _ _; refine mov evL ?_) | (show SH _ _ _ _ _ (⟨_, .binOp .lss _ _ _ _, _, _, _, _⟩ :: _) _ _ _; refine lssT rfl rfl omD ?_) | (show SH _ _ _ _ _ (⟨_, .load _ _, _, _, _, _⟩ :: _) _ _ _; refine lbx rfl spL (by rfl) ?_) | refine slen rfl ?_ | refine fad rfl ?_) | refine s_nil ?_ | refine kh_normal ?_))
      refine r_heldT [bx b1 43 _] (tr [(0, true), (2, true), (3, true), (4, true), (5, true), (6, true), (7, true), (8, true), (9, true), (10, true), (11, true), (12, true), (13, true), (14, true)] (.fork 1 (tr [(15, false), (16, false), (17, false), (18, false)] .nil) 15 (tr [(1, false), (16, false), (17, false), (18, false)] .nil))) hmix (by kernel_rfl) enL ?_
      (repeat' (first | (show SH _ _ _ _ _ (_ :: _) _ _ _; first | (show SH _ _ _ _ _ (⟨_, .move _, _, _, _, _⟩ :: _) _ _ _; refine mov evL ?_) | (show SH _ _ _ _ _ (⟨_, .load _ _, _, _, _, _⟩ :: _) _ _ _; first | refine lbx rfl spL (by rfl) ?_ | refine lrg rfl (fun _ _ => rdP) (by rfl) omL (by assumption) (by rfl) ?_) | (show SH _ _ _ _ _ (⟨_, .indexAddr _ _ _, _, _, _, _⟩ :: _) _ _ _; refine ix rfl rfl (by with_reducible rfl) (fun _ _ => rdP) (by rfl) omL omL ?_) | refine fad rfl ?_ | refine bld rfl rfl ?_) | refine s_fork ?_ ?_))
      all_goals
        refine bsl (l := [(⟨vw, vt⟩ : Inv)]) rfl rfl (Vals.cons rfl Vals.nil) rfl rfl (by decide) (fun b9 => ?_)
        (repeat' ((show SH _ _ _ _ _ (_ :: _) _ _ _; (show SH _ _ _ _ _ (⟨_, .load _ _, _, _, _, _⟩ :: _) _ _ _; refine lbx rfl spL (by rfl) ?_))))
        refine app (l := F) (l2 := [(⟨vw, vt⟩ : Inv)]) rfl rfl rfl spL (fun w hw => hw.rd spL) rfl rfl rfl (by simp only [List.length_singleton]; omega) (by simp only [List.length_singleton]; omega) (fun A4 c4 => ⟨enL, ?_⟩)
        (repeat' (first | refine r_seq ?_ | (show SH _ _ _ _ _ (_ :: _) _ _ _; first | (show SH _ _ _ _ _ (⟨_, .move _, _, _, _, _⟩ :: _) _ _ _; refine mov evL ?_) | (show SH _ _ _ _ _ (⟨_, .assign _, _, _, _, _⟩ :: _) _ _ _; refine asg evL ?_) | (show SH _ _ _ _ _ (⟨_, .binOp .add _ _ _ _, _, _, _, _⟩ :: _) _ _ _; refine add rfl rfl inL ?_) | refine fad rfl ?_ | (show SH _ _ _ _ _ (⟨_, .store _ _ _, _, _, _, _⟩ :: _) _ _ _; refine stb rfl rfl evL spL rfl rfl (by first | decide | exact Nat.zero_lt_succ _ | exact of_decide_eq_true rfl) kpL ?_)) | refine s_nil ?_ | refine kh_normal ?_ | refine bh_normal ?_))
        exact ⟨agL, (k + 1, A4, c4), hsL, by rw [htk]; exact enL, hkl, by show xv.length - (k + 1) < xv.length - k; omega⟩
    · obtain rfl : k = xv.length := by omega
      rw [List.take_length]
      clear hC
      (repeat' (first | (show VH _ _ _ _ _ _ _; first | refine v_seq ?_ | refine r_seq ?_ | refine v_ret ?_ | refine v_exit ?_ | refine v_cond_f rfl tbL ?_) | (show SH _ _ _ _ _ (_ :: _) _ _ _; first | (show SH _ _ _ _ _ (⟨_, .move _, _, _, _, _⟩ :: _) _ _ _; refine mov evL ?_) | (show SH _ _ _ _ _ (⟨_, .binOp .lss _ _ _ _, _, _, _, _⟩ :: _) _ _ _; refine lssF rfl rfl omD ?_) | (show SH _ _ _ _ _ (⟨_, .load _ _, _, _, _, _⟩ :: _) _ _ _; first | refine lbx rfl spL (by rfl) ?_ | refine lba rfl spL (by rfl) ?_) | refine slen rfl ?_ | refine fad rfl ?_ | (show SH _ _ _ _ _ (⟨_, .store _ _ _, _, _, _, _⟩ :: _) _ _ _; refine sta rfl rfl rfl spL (by rfl) (by rfl) (by rfl) kpL ?_)) | refine s_nil ?_ | refine kh_normal ?_ | refine kh_exit ?_ | refine bh_exit ?_))
      exact rhC rfl rfl rfl (fun w hw => loadVar_bx hw spL (by rfl)) ⟨⟨⟨xi, xl, xm, xv⟩, A1, a1, B, d⟩, rfl, rfl, rfl⟩ enL
set_option maxHeartbeats 4000000 in
set_option maxRecDepth 100000 in
theorem taken_spec (t la : Int) (A : Option Addr) (L : List PtyP) (c : Nat) (w : World) (hz : SzP L) (hr : RdP w A L) :
    Ret Tryz.prog 30 [hv36 t la A L c].toArray w (RP w fun v H' => ∃ A' c' M, ptys M = ptys L ∧ v = hv36 t la A' M c' ∧ H' = [orow 46 A' c' M, allH (M.map rowM), allH (M.map rowI)]) := by
  have hrA := hr.1
  have hll := hz.len
  refine enterH Tryz.func30 rfl rfl Tryz.ntmps30 rfl (Wd.refl _) ?_
  (repeat' (first | (show VH _ _ _ _ _ _ _; first | refine v_seq ?_ | refine r_seq ?_ | refine v_block ?_) | (show SH _ _ _ _ _ (_ :: _) _ _ _; first | (show SH _ _ _ _ _ (⟨_, .assign _, _, _, _, _⟩ :: _) _ _ _; refine asg evL ?_) | (show SH _ _ _ _ _ (⟨_, .load _ _, _, _, _, _⟩ :: _) _ _ _; refine lbx rfl spL (by rfl) ?_) | refine fad rfl ?_ | refine bld rfl rfl ?_ | refine ala rfl (fun b => ?_) | (show SH _ _ _ _ _ (⟨_, .box _ _, _, _, _, _⟩ :: _) _ _ _; refine bxx rfl evL rfl (fun b => ?_)) | (show SH _ _ _ _ _ (⟨_, .store _ _ _, _, _, _, _⟩ :: _) _ _ _; refine sta rfl rfl rfl spL (by rfl) (by rfl) (by rfl) kpL ?_)) | refine s_nil ?_ | refine kh_normal ?_))
  rename_i b1 b2
  revert b
  intro b3
  refine v_norm [(1,_),(2,_),(3,_),(4,_)] heL (fun g => ?_)
  refine VH.ent (G := [allH (([] : List PtyP).map rowM), allH (([] : List PtyP).map rowI), orow 46 none 0 ([] : List PtyP), bx b3 24 [.int .i64 t, .int .i64 la, .slice none 0 0], bx b1 30 [.int .i64 t, .int .i64 la, .slice A L.length c], bx b2 24 [.int .i64 0, .int .i64 0, .slice none 0 0]]) ?_ (ent_all_nil (ent_all_nil (ent_nilrow enL)))
  refine v_loop [(4,4),(10,27)] (fun y : Nat × Option Addr × Nat × List PtyP => [(4, .int .i64 y.1)]) (fun y => [allH (y.2.2.2.map rowM), allH (y.2.2.2.map rowI), orow 46 y.2.1 y.2.2.1 y.2.2.2, bx b3 24 [.int .i64 t, .int .i64 la, .slice y.2.1 y.2.2.2.length y.2.2.1], bx b1 30 [.int .i64 t, .int .i64 la, .slice A L.length c], bx b2 24 [.int .i64 0, .int .i64 0, .slice none 0 0]]) (fun y => y.1 ≤ L.length ∧ ptys y.2.2.2 = (ptys L).take y.1) (fun y => L.length - y.1) (0, none, 0, []) hsL enL ⟨Nat.zero_le _, by simp [ptys]⟩ ?_
  rintro ⟨k, B, d, M⟩ g ⟨hk, hM⟩
  simp only [sets]
  simp only at hk hM
  have hMl : M.length = k := by
    have := congrArg List.length hM
    rw [ptys_len, List.length_take, ptys_len] at this; omega
  by_cases hkl : k < L.length
  · have hM1 : ∀ y : PtyP, y.p = (L.getD k Flat.dflt).p → ptys (M ++ [y]) = (ptys L).take (k + 1) := fun y hy => by
      rw [ptys_snoc, hM, take_snoc (d := pty0) (by rw [ptys_len]; exact hkl), ptys_at hkl, hy]
    have hO := fun w h1 h2 => takenParty_spec (L.getD k Flat.dflt) w (hz.atm hkl) (hz.ati hkl) h1 h2
    have hm := hr.mem hkl
    have hi := hr.inv hkl
    clear hz hr hM
    (repeat' (first | (show VH _ _ _ _ _ _ _; first | refine v_seq ?_ | refine r_seq ?_ | refine v_block ?_ | refine v_skip ?_ | refine v_cond_t rfl tbL ?_) | (show SH _ _ _ _ _ (_ :: _) _ _ _; first | (show SH _ _ _ _ _ (⟨_, .move _, _, _, _, _⟩ :: _) _ _ _; refine mov evL ?_) | (show SH _ _ _ _ _ (⟨_, .binOp .lss _ _ _ _, _, _, _, _⟩ :: _) _ _ _; refine lssT rfl rfl omD ?_) | (show SH _ _ _ _ _ (⟨_, .load _ _, _, _, _, _⟩ :: _) _ _ _; refine lbx rfl spL (by rfl) ?_) | refine slen rfl ?_ | refine fad rfl ?_) | refine s_nil ?_ | refine kh_normal ?_))
    refine r_heldT [bx b1 30 _] (tr [(0, true), (2, true), (3, true), (4, true), (5, true), (6, true)] (.fork 1 (tr [(7, false), (8, false), (9, false), (10, false), (11, false)] .nil) 7 (tr [] (.fork 1 (tr [(8, false), (9, false), (10, false), (11, false)] .nil) 8 (tr [(1, false), (9, false), (10, false), (11, false)] .nil))))) hmix (by kernel_rfl) enL ?_
    (repeat' (first | (show SH _ _ _ _ _ (_ :: _) _ _ _; first | (show SH _ _ _ _ _ (⟨_, .move _, _, _, _, _⟩ :: _) _ _ _; refine mov evL ?_) | (show SH _ _ _ _ _ (⟨_, .load _ _, _, _, _, _⟩ :: _) _ _ _; first | refine lbx rfl spL (by rfl) ?_ | refine lra rfl (fun _ _ => rdP) (by rfl) omL ?_ | refine lra rfl (fun _ _ => rdP) (by rfl) (by simp only [List.length_cons, List.length_nil]; omega) ?_) | (show SH _ _ _ _ _ (⟨_, .indexAddr _ _ _, _, _, _, _⟩ :: _) _ _ _; refine ix rfl rfl (by with_reducible rfl) (fun _ _ => rdP) (by rfl) omL omL ?_) | (show SH _ _ _ _ _ (⟨_, .call ⟨.value (.func 36), _, _⟩, _, _, _, _⟩ :: _) _ _ _; refine cp (callee := .func 36) rfl (fun w hw => hO w (hm.ext hw.ext) (hi.ext hw.ext)) rfl rfl ?_) | refine fad rfl ?_) | refine s_fork ?_ ?_))
    all_goals
      rintro _ _ ⟨y, hyp, rfl, rfl⟩
      (repeat' (first | (show SH _ _ _ _ _ (_ :: _) _ _ _; (show SH _ _ _ _ _ (⟨_, .load _ _, _, _, _, _⟩ :: _) _ _ _; refine lbx rfl spL (by rfl) ?_)) | refine s_fork ?_ ?_))
    all_goals
      refine bsl (l := [y]) rfl rfl (Vals.cons rfl Vals.nil) rfl rfl (by decide) (fun b9 => ?_)
      (repeat' ((show SH _ _ _ _ _ (_ :: _) _ _ _; (show SH _ _ _ _ _ (⟨_, .load _ _, _, _, _, _⟩ :: _) _ _ _; refine lbx rfl spL (by rfl) ?_))))
    all_goals
      refine app (l := M) (l2 := [y]) rfl rfl rfl spL (fun w hw => hw.rd spL) rfl rfl rfl (by simp only [List.length_singleton]; omega) (by simp only [List.length_singleton]; omega) (fun A4 c4 => ⟨enL, ?_⟩)
      (repeat' (first | refine r_seq ?_ | (show SH _ _ _ _ _ (_ :: _) _ _ _; first | (show SH _ _ _ _ _ (⟨_, .move _, _, _, _, _⟩ :: _) _ _ _; refine mov evL ?_) | (show SH _ _ _ _ _ (⟨_, .assign _, _, _, _, _⟩ :: _) _ _ _; refine asg evL ?_) | (show SH _ _ _ _ _ (⟨_, .binOp .add _ _ _ _, _, _, _, _⟩ :: _) _ _ _; refine add rfl rfl inL ?_) | refine fad rfl ?_ | (show SH _ _ _ _ _ (⟨_, .store _ _ _, _, _, _, _⟩ :: _) _ _ _; refine stb rfl rfl evL spL rfl rfl (by first | decide | exact Nat.zero_lt_succ _ | exact of_decide_eq_true rfl) kpL ?_)) | refine s_nil ?_ | refine kh_normal ?_ | refine bh_normal ?_))
      refine ⟨agL, (k + 1, A4, c4, M ++ [y]), hsL, ?_, ⟨hkl, hM1 y hyp⟩, by show L.length - (k + 1) < L.length - k; omega⟩
      exact Ent.trans (B := [rowM y, allH (M.map rowM), rowI y, allH (M.map rowI), orow 46 A4 c4 (M ++ [y]), bx b3 24 [.int .i64 t, .int .i64 la, .slice A4 (M ++ [y]).length c4], bx b1 30 [.int .i64 t, .int .i64 la, .slice A L.length c], bx b2 24 [.int .i64 0, .int .i64 0, .slice none 0 0]]) enL (ent_all_snoc.trans (ent_cons Split.head ent_all_snoc))
  · obtain rfl : k = L.length := by omega
    have hMp : ptys M = ptys L := by rw [hM, ← ptys_len, List.take_length]
    (repeat' (first | (show VH _ _ _ _ _ _ _; first | refine v_seq ?_ | refine r_seq ?_ | refine v_ret ?_ | refine v_exit ?_ | refine v_cond_f rfl tbL ?_) | (show SH _ _ _ _ _ (_ :: _) _ _ _; first | (show SH _ _ _ _ _ (⟨_, .move _, _, _, _, _⟩ :: _) _ _ _; refine mov evL ?_) | (show SH _ _ _ _ _ (⟨_, .binOp .lss _ _ _ _, _, _, _, _⟩ :: _) _ _ _; refine lssF rfl rfl omD ?_) | (show SH _ _ _ _ _ (⟨_, .load _ _, _, _, _, _⟩ :: _) _ _ _; first | refine lbx rfl spL (by rfl) ?_ | refine lba rfl spL (by rfl) ?_) | refine slen rfl ?_ | refine fad rfl ?_ | (show SH _ _ _ _ _ (⟨_, .store _ _ _, _, _, _, _⟩ :: _) _ _ _; refine sta rfl rfl rfl spL (by rfl) (by rfl) (by rfl) kpL ?_)) | refine s_nil ?_ | refine kh_normal ?_ | refine kh_exit ?_ | refine bh_exit ?_))
    exact rhC rfl rfl rfl (fun w hw => loadVar_bx hw spL (by rfl)) ⟨B, d, M, hMp, rfl, rfl⟩ enL
end Go.Proofs.YtlfbcoohfnoacaaGreat
