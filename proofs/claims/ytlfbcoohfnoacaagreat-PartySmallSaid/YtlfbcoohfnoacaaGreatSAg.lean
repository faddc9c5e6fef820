/- The reference of layer 36: kept. -/
import Derived.Test.YtlfbcoohfnoacaaGreatSAa
import Derived.Test.YtlfbcoohfnoacaaGreatSAb
import Derived.Test.YtlfbcoohfnoacaaGreatSAc
import Derived.Test.YtlfbcoohfnoacaaGreatSAd
import Derived.Test.YtlfbcoohfnoacaaGreatSAe
import Derived.Test.YtlfbcoohfnoacaaGreatSAf
set_option linter.unusedSimpArgs false
set_option linter.unusedVariables false
/- marcheslaw36: Given, Taken (printed by gen_gt36.py). -/
namespace Go.Proofs.YtlfbcoohfnoacaaGreat
open Go.Fw Go.RowKit
/-- Invitations in a row of the reference's. -/
abbrev rowR (x : PtyP) : HP := orow 40 x.B x.cb x.p.inv
set_option maxHeartbeats 4000000 in
set_option maxRecDepth 100000 in
theorem givenParty_spec (x : PtyP) (w : World) (hl : x.p.mem.length ≤ 1000) (hl2 : x.p.inv.length ≤ 1000) (hr : Rd w x.A x.p.mem) (hr2 : Rd w x.B x.p.inv) :
    Ret Tryz.prog 22 [.agg (Flat.enc x).toArray].toArray w (RP w fun v H' => ∃ y : PtyP, y.p = x.p ∧ v = .agg (Flat.enc y).toArray ∧ H' = [rowM y, rowR y]) := by
  have hC := fun w' (he : Ext w w') => copyInts_spec x.A x.p.mem x.ca w' (by omega) (hr.ext he)
  obtain ⟨⟨xi, xl, xm, xv⟩, xA, xca, xB, xcb⟩ := x
  simp only at hC hr hr2 hl hl2 ⊢
  rw [show Flat.enc (⟨⟨xi, xl, xm, xv⟩, xA, xca, xB, xcb⟩ : PtyP) = [.int .i64 xi, .int .i64 xl, .slice xA xm.length xca, .slice xB xv.length xcb] from rfl]
  refine enterH Tryz.func22 rfl rfl Tryz.ntmps22 rfl (Wd.refl _) ?_
  (repeat' (first | (show VH _ _ _ _ _ _ _; first | refine v_seq ?_ | refine r_seq ?_) | (show SH _ _ _ _ _ (_ :: _) _ _ _; first | refine ala rfl (fun b => ?_) | (show SH _ _ _ _ _ (⟨_, .box _ _, _, _, _, _⟩ :: _) _ _ _; refine bxx rfl evL rfl (fun b => ?_))) | refine s_nil ?_ | refine kh_normal ?_))
  rename_i b1
  revert b
  intro b2
  refine r_heldT [bx b1 46 _] (tr [(0, true), (1, true), (2, true), (3, true), (4, true), (5, true)] (.fork 6 (tr [(7, true), (8, false), (9, false)] .nil) 8 (tr [(6, false), (7, false), (9, false)] .nil))) hmix (by kernel_rfl) enL ?_
  (repeat' (first | (show SH _ _ _ _ _ (_ :: _) _ _ _; first | (show SH _ _ _ _ _ (⟨_, .load _ _, _, _, _, _⟩ :: _) _ _ _; refine lbx rfl spL (by rfl) ?_) | (show SH _ _ _ _ _ (⟨_, .call ⟨.value (.func 62), _, _⟩, _, _, _, _⟩ :: _) _ _ _; refine cp (callee := .func 62) rfl (fun w hw => hC _ hw.ext) rfl rfl ?_) | refine fad rfl ?_ | refine ala rfl (fun b => ?_)) | refine s_fork ?_ ?_))
  all_goals
    rintro _ _ ⟨A1, a1, rfl, rfl⟩
    (repeat' (first | (show VH _ _ _ _ _ _ _; first | refine v_seq ?_ | refine r_seq ?_ | refine v_block ?_) | (show SH _ _ _ _ _ (_ :: _) _ _ _; first | (show SH _ _ _ _ _ (⟨_, .assign _, _, _, _, _⟩ :: _) _ _ _; refine asg evL ?_) | refine bld rfl rfl ?_ | refine ala rfl (fun b => ?_) | (show SH _ _ _ _ _ (⟨_, .store _ _ _, _, _, _, _⟩ :: _) _ _ _; refine sta rfl rfl rfl spL (by rfl) (by rfl) (by rfl) kpL ?_)) | refine s_nil ?_ | refine kh_normal ?_))
    revert b
    intro b3
    refine v_norm [(1,_),(2,_),(3,_),(4,_)] heL (fun g => ?_)
    refine VH.ent (G := [orow 40 none 0 ([] : List Inv), bx b3 43 [.int .i64 xi, .int .i64 xl, .slice A1 xm.length a1, .slice none 0 0], orow 3 A1 a1 xm, bx b1 46 [.int .i64 xi, .int .i64 xl, .slice xA xm.length xca, .slice xB xv.length xcb], bx b2 43 [.int .i64 0, .int .i64 0, .slice none 0 0, .slice none 0 0]]) ?_ (ent_nilrow enL)
    refine v_loop [(4,4),(13,37)] (fun y : Nat × Option Addr × Nat => [(4, .int .i64 y.1)]) (fun y => [orow 40 y.2.1 y.2.2 (xv.take y.1), bx b3 43 [.int .i64 xi, .int .i64 xl, .slice A1 xm.length a1, .slice y.2.1 (xv.take y.1).length y.2.2], orow 3 A1 a1 xm, bx b1 46 [.int .i64 xi, .int .i64 xl, .slice xA xm.length xca, .slice xB xv.length xcb], bx b2 43 [.int .i64 0, .int .i64 0, .slice none 0 0, .slice none 0 0]]) (fun y => y.1 ≤ xv.length) (fun y => xv.length - y.1) (0, none, 0) hsL enL (Nat.zero_le _) ?_
    rintro ⟨k, B, d⟩ g hk
    simp only [sets]
    simp only at hk
    by_cases hkl : k < xv.length
    · have htk := take_snoc (d := (Flat.dflt : Inv)) hkl
      obtain ⟨v, hv⟩ : ∃ v, xv.getD k Flat.dflt = v := ⟨_, rfl⟩
      have hvE := inv_enc hv
      rw [hv] at htk
      have hfl : (xv.take k).length ≤ 1000 := by rw [List.length_take]; omega
      clear hv hC
      obtain ⟨vw, vt⟩ := v
      simp only at hvE
      generalize xv.take k = F at htk hfl ⊢
      (repeat' (first | (show VH _ _ _ _ _ _ _; first | refine v_seq ?_ | refine r_seq ?_ | refine v_block ?_ | refine v_skip ?_ | refine v_cond_t rfl tbL ?_) | (show SH _ _ _ _ _ (_ :: _) _ _ _; first | (show SH _ _ _ _ _ (⟨_, .move _, _, _, _, _⟩ :: _) _ _ _; refine mov evL ?_) | (show SH _ _ _ _ _ (⟨_, .binOp .lss _ _ _ _, _, _, _, _⟩ :: _) _ _ _; refine lssT rfl rfl omD ?_) | (show SH _ _ _ _ _ (⟨_, .load _ _, _, _, _, _⟩ :: _) _ _ _; refine lbx rfl spL (by rfl) ?_) | refine slen rfl ?_ | refine fad rfl ?_) | refine s_nil ?_ | refine kh_normal ?_))
      refine r_heldT [bx b1 46 _] (tr [(0, true), (2, true), (3, true), (4, true), (5, true), (6, true), (7, true), (8, true), (9, true), (10, true), (11, true), (12, true), (13, true), (14, true)] (.fork 1 (tr [(15, false), (16, false), (17, false), (18, false)] .nil) 15 (tr [(1, false), (16, false), (17, false), (18, false)] .nil))) hmix (by kernel_rfl) enL ?_
      (repeat' (first | (show SH _ _ _ _ _ (_ :: _) _ _ _; first | (show SH _ _ _ _ _ (⟨_, .move _, _, _, _, _⟩ :: _) _ _ _; refine mov evL ?_) | (show SH _ _ _ _ _ (⟨_, .load _ _, _, _, _, _⟩ :: _) _ _ _; first | refine lbx rfl spL (by rfl) ?_ | refine lrg rfl (fun _ _ => rdP) (by rfl) omL (by assumption) (by rfl) ?_) | (show SH _ _ _ _ _ (⟨_, .indexAddr _ _ _, _, _, _, _⟩ :: _) _ _ _; refine ix rfl rfl (by with_reducible rfl) (fun _ _ => rdP) (by rfl) omL omL ?_) | refine fad rfl ?_ | refine bld rfl rfl ?_) | refine s_fork ?_ ?_))
      all_goals
        refine bsl (l := [(⟨vw, vt⟩ : Inv)]) rfl rfl (Vals.cons rfl Vals.nil) rfl rfl (by decide) (fun b9 => ?_)
        (repeat' ((show SH _ _ _ _ _ (_ :: _) _ _ _; (show SH _ _ _ _ _ (⟨_, .load _ _, _, _, _, _⟩ :: _) _ _ _; refine lbx rfl spL (by rfl) ?_))))
        refine app (l := F) (l2 := [(⟨vw, vt⟩ : Inv)]) rfl rfl rfl spL (fun w hw => hw.rd spL) rfl rfl rfl (by simp only [List.length_singleton]; omega) (by simp only [List.length_singleton]; omega) (fun A4 c4 => ⟨enL, ?_⟩)
        (repeat' (first | refine r_seq ?_ | (show SH _ _ _ _ _ (_ :: _) _ _ _; first | (show SH _ _ _ _ _ (⟨_, .move _, _, _, _, _⟩ :: _) _ _ _; refine mov evL ?_) | (show SH _ _ _ _ _ (⟨_, .assign _, _, _, _, _⟩ :: _) _ _ _; refine asg evL ?_) | (show SH _ _ _ _ _ (⟨_, .binOp .add _ _ _ _, _, _, _, _⟩ :: _) _ _ _; refine add rfl rfl inL ?_) | refine fad rfl ?_ | (show SH _ _ _ _ _ (⟨_, .store _ _ _, _, _, _, _⟩ :: _) _ _ _; refine stb rfl rfl evL spL rfl rfl (by first | decide | exact Nat.zero_lt_succ _ | exact of_decide_eq_true rfl) kpL ?_)) | refine s_nil ?_ | refine kh_normal ?_ | refine bh_normal ?_))
        exact ⟨agL, (k + 1, A4, c4), hsL, by rw [htk]; exact enL, hkl, by show xv.length - (k + 1) < xv.length - k; omega⟩
    · obtain rfl : k = xv.length := by omega
      rw [List.take_length]
      clear hC
      (repeat' (first | (show VH _ _ _ _ _ _ _; first | refine v_seq ?_ | refine r_seq ?_ | refine v_ret ?_ | refine v_exit ?_ | refine v_cond_f rfl tbL ?_) | (show SH _ _ _ _ _ (_ :: _) _ _ _; first | (show SH _ _ _ _ _ (⟨_, .move _, _, _, _, _⟩ :: _) _ _ _; refine mov evL ?_) | (show SH _ _ _ _ _ (⟨_, .binOp .lss _ _ _ _, _, _, _, _⟩ :: _) _ _ _; refine lssF rfl rfl omD ?_) | (show SH _ _ _ _ _ (⟨_, .load _ _, _, _, _, _⟩ :: _) _ _ _; first | refine lbx rfl spL (by rfl) ?_ | refine lba rfl spL (by rfl) ?_) | refine slen rfl ?_ | refine fad rfl ?_ | (show SH _ _ _ _ _ (⟨_, .store _ _ _, _, _, _, _⟩ :: _) _ _ _; refine sta rfl rfl rfl spL (by rfl) (by rfl) (by rfl) kpL ?_)) | refine s_nil ?_ | refine kh_normal ?_ | refine kh_exit ?_ | refine bh_exit ?_))
      exact rhC rfl rfl rfl (fun w hw => loadVar_bx hw spL (by rfl)) ⟨⟨⟨xi, xl, xm, xv⟩, A1, a1, B, d⟩, rfl, rfl, rfl⟩ enL
set_option maxHeartbeats 4000000 in
set_option maxRecDepth 100000 in
theorem given_spec (t la : Int) (A : Option Addr) (L : List PtyP) (c : Nat) (w : World) (hz : SzP L) (hr : RdP w A L) :
    Ret Tryz.prog 7 [hv36 t la A L c].toArray w (RP w fun v H' => ∃ A' c' M, ptys M = ptys L ∧ v = hv36 t la A' M c' ∧ H' = [orow 43 A' c' M, allH (M.map rowM), allH (M.map rowR)]) := by
  have hrA := hr.1
  have hll := hz.len
  refine enterH Tryz.func7 rfl rfl Tryz.ntmps7 rfl (Wd.refl _) ?_
  (repeat' (first | (show VH _ _ _ _ _ _ _; first | refine v_seq ?_ | refine r_seq ?_ | refine v_block ?_) | (show SH _ _ _ _ _ (_ :: _) _ _ _; first | (show SH _ _ _ _ _ (⟨_, .assign _, _, _, _, _⟩ :: _) _ _ _; refine asg evL ?_) | (show SH _ _ _ _ _ (⟨_, .load _ _, _, _, _, _⟩ :: _) _ _ _; refine lbx rfl spL (by rfl) ?_) | refine fad rfl ?_ | refine bld rfl rfl ?_ | refine ala rfl (fun b => ?_) | (show SH _ _ _ _ _ (⟨_, .box _ _, _, _, _, _⟩ :: _) _ _ _; refine bxx rfl evL rfl (fun b => ?_)) | (show SH _ _ _ _ _ (⟨_, .store _ _ _, _, _, _, _⟩ :: _) _ _ _; refine sta rfl rfl rfl spL (by rfl) (by rfl) (by rfl) kpL ?_)) | refine s_nil ?_ | refine kh_normal ?_))
  rename_i b1 b2
  revert b
  intro b3
  refine v_norm [(1,_),(2,_),(3,_),(4,_)] heL (fun g => ?_)
  refine VH.ent (G := [allH (([] : List PtyP).map rowM), allH (([] : List PtyP).map rowR), orow 43 none 0 ([] : List PtyP), bx b3 30 [.int .i64 t, .int .i64 la, .slice none 0 0], bx b1 24 [.int .i64 t, .int .i64 la, .slice A L.length c], bx b2 30 [.int .i64 0, .int .i64 0, .slice none 0 0]]) ?_ (ent_all_nil (ent_all_nil (ent_nilrow enL)))
  refine v_loop [(4,4),(10,27)] (fun y : Nat × Option Addr × Nat × List PtyP => [(4, .int .i64 y.1)]) (fun y => [allH (y.2.2.2.map rowM), allH (y.2.2.2.map rowR), orow 43 y.2.1 y.2.2.1 y.2.2.2, bx b3 30 [.int .i64 t, .int .i64 la, .slice y.2.1 y.2.2.2.length y.2.2.1], bx b1 24 [.int .i64 t, .int .i64 la, .slice A L.length c], bx b2 30 [.int .i64 0, .int .i64 0, .slice none 0 0]]) (fun y => y.1 ≤ L.length ∧ ptys y.2.2.2 = (ptys L).take y.1) (fun y => L.length - y.1) (0, none, 0, []) hsL enL ⟨Nat.zero_le _, by simp [ptys]⟩ ?_
  rintro ⟨k, B, d, M⟩ g ⟨hk, hM⟩
  simp only [sets]
  simp only at hk hM
  have hMl : M.length = k := by
    have := congrArg List.length hM
    rw [ptys_len, List.length_take, ptys_len] at this; omega
  by_cases hkl : k < L.length
  · have hM1 : ∀ y : PtyP, y.p = (L.getD k Flat.dflt).p → ptys (M ++ [y]) = (ptys L).take (k + 1) := fun y hy => by
      rw [ptys_snoc, hM, take_snoc (d := pty0) (by rw [ptys_len]; exact hkl), ptys_at hkl, hy]
    have hO := fun w h1 h2 => givenParty_spec (L.getD k Flat.dflt) w (hz.atm hkl) (hz.ati hkl) h1 h2
    have hm := hr.mem hkl
    have hi := hr.inv hkl
    clear hz hr hM
    (repeat' (first | (show VH _ _ _ _ _ _ _; first | refine v_seq ?_ | refine r_seq ?_ | refine v_block ?_ | refine v_skip ?_ | refine v_cond_t rfl tbL ?_) | (show SH _ _ _ _ _ (_ :: _) _ _ _; first | (show SH _ _ _ _ _ (⟨_, .move _, _, _, _, _⟩ :: _) _ _ _; refine mov evL ?_) | (show SH _ _ _ _ _ (⟨_, .binOp .lss _ _ _ _, _, _, _, _⟩ :: _) _ _ _; refine lssT rfl rfl omD ?_) | (show SH _ _ _ _ _ (⟨_, .load _ _, _, _, _, _⟩ :: _) _ _ _; refine lbx rfl spL (by rfl) ?_) | refine slen rfl ?_ | refine fad rfl ?_) | refine s_nil ?_ | refine kh_normal ?_))
    refine r_heldT [bx b1 24 _] (tr [(0, true), (2, true), (3, true), (4, true), (5, true), (6, true)] (.fork 1 (tr [(7, false), (8, false), (9, false), (10, false), (11, false)] .nil) 7 (tr [] (.fork 1 (tr [(8, false), (9, false), (10, false), (11, false)] .nil) 8 (tr [(1, false), (9, false), (10, false), (11, false)] .nil))))) hmix (by kernel_rfl) enL ?_
    (repeat' (first | (show SH _ _ _ _ _ (_ :: _) _ _ _; first | (show SH _ _ _ _ _ (⟨_, .move _, _, _, _, _⟩ :: _) _ _ _; refine mov evL ?_) | (show SH _ _ _ _ _ (⟨_, .load _ _, _, _, _, _⟩ :: _) _ _ _; first | refine lbx rfl spL (by rfl) ?_ | refine lra rfl (fun _ _ => rdP) (by rfl) omL ?_ | refine lra rfl (fun _ _ => rdP) (by rfl) (by simp only [List.length_cons, List.length_nil]; omega) ?_) | (show SH _ _ _ _ _ (⟨_, .indexAddr _ _ _, _, _, _, _⟩ :: _) _ _ _; refine ix rfl rfl (by with_reducible rfl) (fun _ _ => rdP) (by rfl) omL omL ?_) | (show SH _ _ _ _ _ (⟨_, .call ⟨.value (.func 22), _, _⟩, _, _, _, _⟩ :: _) _ _ _; refine cp (callee := .func 22) rfl (fun w hw => hO w (hm.ext hw.ext) (hi.ext hw.ext)) rfl rfl ?_) | refine fad rfl ?_) | refine s_fork ?_ ?_))
    all_goals
      rintro _ _ ⟨y, hyp, rfl, rfl⟩
      (repeat' (first | (show SH _ _ _ _ _ (_ :: _) _ _ _; (show SH _ _ _ _ _ (⟨_, .load _ _, _, _, _, _⟩ :: _) _ _ _; refine lbx rfl spL (by rfl) ?_)) | refine s_fork ?_ ?_))
    all_goals
      refine bsl (l := [y]) rfl rfl (Vals.cons rfl Vals.nil) rfl rfl (by decide) (fun b9 => ?_)
      (repeat' ((show SH _ _ _ _ _ (_ :: _) _ _ _; (show SH _ _ _ _ _ (⟨_, .load _ _, _, _, _, _⟩ :: _) _ _ _; refine lbx rfl spL (by rfl) ?_))))
    all_goals
      refine app (l := M) (l2 := [y]) rfl rfl rfl spL (fun w hw => hw.rd spL) rfl rfl rfl (by simp only [List.length_singleton]; omega) (by simp only [List.length_singleton]; omega) (fun A4 c4 => ⟨enL, ?_⟩)
      (repeat' (first | refine r_seq ?_ | (show SH _ _ _ _ _ (_ :: _) _ _ _; first | (show SH _ _ _ _ _ (⟨_, .move _, _, _, _, _⟩ :: _) _ _ _; refine mov evL ?_) | (show SH _ _ _ _ _ (⟨_, .assign _, _, _, _, _⟩ :: _) _ _ _; refine asg evL ?_) | (show SH _ _ _ _ _ (⟨_, .binOp .add _ _ _ _, _, _, _, _⟩ :: _) _ _ _; refine add rfl rfl inL ?_) | refine fad rfl ?_ | (show SH _ _ _ _ _ (⟨_, .store _ _ _, _, _, _, _⟩ :: _) _ _ _; refine stb rfl rfl evL spL rfl rfl (by first | decide | exact Nat.zero_lt_succ _ | exact of_decide_eq_true rfl) kpL ?_)) | refine s_nil ?_ | refine kh_normal ?_ | refine bh_normal ?_))
      refine ⟨agL, (k + 1, A4, c4, M ++ [y]), hsL, ?_, ⟨hkl, hM1 y hyp⟩, by show L.length - (k + 1) < L.length - k; omega⟩
      exact Ent.trans (B := [rowM y, allH (M.map rowM), rowR y, allH (M.map rowR), orow 43 A4 c4 (M ++ [y]), bx b3 30 [.int .i64 t, .int .i64 la, .slice A4 (M ++ [y]).length c4], bx b1 24 [.int .i64 t, .int .i64 la, .slice A L.length c], bx b2 30 [.int .i64 0, .int .i64 0, .slice none 0 0]]) enL (ent_all_snoc.trans (ent_cons Split.head ent_all_snoc))
  · obtain rfl : k = L.length := by omega
    have hMp : ptys M = ptys L := by rw [hM, ← ptys_len, List.take_length]
    (repeat' (first | (show VH _ _ _ _ _ _ _; first | refine v_seq ?_ | refine r_seq ?_ | refine v_ret ?_ | refine v_exit ?_ | refine v_cond_f rfl tbL ?_) | (show SH _ _ _ _ _ (_ :: _) _ _ _; first | (show SH _ _ _ _ _ (⟨_, .move _, _, _, _, _⟩ :: _) _ _ _; refine mov evL ?_) | (show SH _ _ _ _ _ (⟨_, .binOp .lss _ _ _ _, _, _, _, _⟩ :: _) _ _ _; refine lssF rfl rfl omD ?_) | (show SH _ _ _ _ _ (⟨_, .load _ _, _, _, _, _⟩ :: _) _ _ _; first | refine lbx rfl spL (by rfl) ?_ | refine lba rfl spL (by rfl) ?_) | refine slen rfl ?_ | refine fad rfl ?_ | (show SH _ _ _ _ _ (⟨_, .store _ _ _, _, _, _, _⟩ :: _) _ _ _; refine sta rfl rfl rfl spL (by rfl) (by rfl) (by rfl) kpL ?_)) | refine s_nil ?_ | refine kh_normal ?_ | refine kh_exit ?_ | refine bh_exit ?_))
    exact rhC rfl rfl rfl (fun w hw => loadVar_bx hw spL (by rfl)) ⟨B, d, M, hMp, rfl, rfl⟩ enL
set_option maxHeartbeats 4000000 in
set_option maxRecDepth 100000 in
theorem takenParty_spec (x : PtyP) (w : World) (hl : x.p.mem.length ≤ 1000) (hl2 : x.p.inv.length ≤ 1000) (hr : Rd w x.A x.p.mem) (hr2 : Rd w x.B x.p.inv) :
    Ret Tryz.prog 36 [.agg (Flat.enc x).toArray].toArray w (RP w fun v H' => ∃ y : PtyP, y.p = x.p ∧ v = .agg (Flat.enc y).toArray ∧ H' = [rowM y, rowI y]) := by
  have hC := fun w' (he : Ext w w') => copyInts_spec x.A x.p.mem x.ca w' (by omega) (hr.ext he)
  obtain ⟨⟨xi, xl, xm, xv⟩, xA, xca, xB, xcb⟩ := x
  simp only at hC hr hr2 hl hl2 ⊢
  rw [show Flat.enc (⟨⟨xi, xl, xm, xv⟩, xA, xca, xB, xcb⟩ : PtyP) = [.int .i64 xi, .int .i64 xl, .slice xA xm.length xca, .slice xB xv.length xcb] from rfl]
  refine enterH Tryz.func36 rfl rfl Tryz.ntmps36 rfl (Wd.refl _) ?_
  (repeat' (first | (show VH _ _ _ _ _ _ _; first | refine v_seq ?_ | refine r_seq ?_) | (show SH _ _ _ _ _ (_ :: _) _ _ _; first | refine ala rfl (fun b => ?_) | (show SH _ _ _ _ _ (⟨_, .box _ _, _, _, _, _⟩ :: _) _ _ _; refine bxx rfl evL rfl (fun b => ?_))) | refine s_nil ?_ | refine kh_normal ?_))
  rename_i b1
  revert b
  intro b2
  refine r_heldT [bx b1 43 _] (tr [(0, true), (1, true), (2, true), (3, true), (4, true), (5, true)] (.fork 6 (tr [(7, true), (8, false), (9, false)] .nil) 8 (tr [(6, false), (7, false), (9, false)] .nil))) hmix (by kernel_rfl) enL ?_
  (repeat' (first | (show SH _ _ _ _ _ (_ :: _) _ _ _; first | (show SH _ _ _ _ _ (⟨_, .load _ _, _, _, _, _⟩ :: _) _ _ _; refine lbx rfl spL (by rfl) ?_) | (show SH _ _ _ _ _ (⟨_, .call ⟨.value (.func 62), _, _⟩, _, _, _, _⟩ :: _) _ _ _; refine cp (callee := .func 62) rfl (fun w hw => hC _ hw.ext) rfl rfl ?_) | refine fad rfl ?_ | refine ala rfl (fun b => ?_)) | refine s_fork ?_ ?_))
  all_goals
    rintro _ _ ⟨A1, a1, rfl, rfl⟩
    (repeat' (first | (show VH _ _ _ _ _ _ _; first | refine v_seq ?_ | refine r_seq ?_ | refine v_block ?_) | (show SH _ _ _ _ _ (_ :: _) _ _ _; first | (show SH _ _ _ _ _ (⟨_, .assign _, _, _, _, _⟩ :: _) _ _ _; refine asg evL ?_) | refine bld rfl rfl ?_ | refine ala rfl (fun b => ?_) | (show SH _ _ _ _ _ (⟨_, .store _ _ _, _, _, _, _⟩ :: _) _ _ _; refine sta rfl rfl rfl spL (by rfl) (by rfl) (by rfl) kpL ?_)) | refine s_nil ?_ | refine kh_normal ?_))
    revert b
    intro b3
    refine v_norm [(1,_),(2,_),(3,_),(4,_)] heL (fun g => ?_)
    refine VH.ent (G := [orow 61 none 0 ([] : List Inv), bx b3 46 [.int .i64 xi, .int .i64 xl, .slice A1 xm.length a1, .slice none 0 0], orow 3 A1 a1 xm, bx b1 43 [.int .i64 xi, .int .i64 xl, .slice xA xm.length xca, .slice xB xv.length xcb], bx b2 46 [.int .i64 0, .int .i64 0, .slice none 0 0, .slice none 0 0]]) ?_ (ent_nilrow enL)
    refine v_loop [(4,4),(13,37)] (fun y : Nat × Option Addr × Nat => [(4, .int .i64 y.1)]) (fun y => [orow 61 y.2.1 y.2.2 (xv.take y.1), bx b3 46 [.int .i64 xi, .int .i64 xl, .slice A1 xm.length a1, .slice y.2.1 (xv.take y.1).length y.2.2], orow 3 A1 a1 xm, bx b1 43 [.int .i64 xi, .int .i64 xl, .slice xA xm.length xca, .slice xB xv.length xcb], bx b2 46 [.int .i64 0, .int .i64 0, .slice none 0 0, .slice none 0 0]]) (fun y => y.1 ≤ xv.length) (fun y => xv.length - y.1) (0, none, 0) hsL enL (Nat.zero_le _) ?_
    rintro ⟨k, B, d⟩ g hk
    simp only [sets]
    simp only at hk
    by_cases hkl : k < xv.length
    · have htk := take_snoc (d := (Flat.dflt : Inv)) hkl
      obtain ⟨v, hv⟩ : ∃ v, xv.getD k Flat.dflt = v := ⟨_, rfl⟩
      have hvE := inv_enc hv
      rw [hv] at htk
      have hfl : (xv.take k).length ≤ 1000 := by rw [List.length_take]; omega
      clear hv hC
      obtain ⟨vw, vt⟩ := v
      simp only at hvE
      generalize xv.take k = F at htk hfl ⊢
      (repeat' (first | (show VH _ _ _ _ _ _ _; first | refine v_seq ?_ | refine r_seq ?_ | refine v_block ?_ | refine v_skip ?_ | refine v_cond_t rfl tbL ?_) | (show SH _ _ _ _ _ (_ :: _) _ _ _; first | (show SH _ _ _ _ _ (⟨_, .move _, _, _, _, _⟩ :: _) _ _ _; refine mov evL ?_) | (show SH _ _ _ _ _ (⟨_, .binOp .lss _ _ _ _, _, _, _, _⟩ :: _) _ _ _; refine lssT rfl rfl omD ?_) | (show SH _ _ _ _ _ (⟨_, .load _ _, _, _, _, _⟩ :: _) _ _ _; refine lbx rfl spL (by rfl) ?_) | refine slen rfl ?_ | refine fad rfl ?_) | refine s_nil ?_ | refine kh_normal ?_))
      refine r_heldT [bx b1 43 _] (tr [(0, true), (2, true), (3, true), (4, true), (5, true), (6, true), (7, true), (8, true), (9, true), (10, true), (11, true), (12, true), (13, true), (14, true)] (.fork 1 (tr [(15, false), (16, false), (17, false), (18, false)] .nil) 15 (tr [(1, false), (16, false), (17, false), (18, false)] .nil))) hmix (by kernel_rfl) enL ?_
      (repeat' (first | (show SH _ _ _ _ _ (_ :: _) _ _ _; first | (show SH _ _ _ _ _ (⟨_, .move _, _, _, _, _⟩ :: _) _ _ _; refine mov evL ?_) | (show SH _ _ _ _ _ (⟨_, .load _ _, _, _, _, _⟩ :: _) _ _ _; first | refine lbx rfl spL (by rfl) ?_ | refine lrg rfl (fun _ _ => rdP) (by rfl) omL (by assumption) (by rfl) ?_) | (show SH _ _ _ _ _ (⟨_, .indexAddr _ _ _, _, _, _, _⟩ :: _) _ _ _; refine ix rfl rfl (by with_reducible rfl) (fun _ _ => rdP) (by rfl) omL omL ?_) | refine fad rfl ?_ | refine bld rfl rfl ?_) | refine s_fork ?_ ?_))
      all_goals
        refine bsl (l := [(⟨vw, vt⟩ : Inv)]) rfl rfl (Vals.cons rfl Vals.nil) rfl rfl (by decide) (fun b9 => ?_)
        (repeat' ((show SH _ _ _ _ _ (_ :: _) _ _ _; (show SH _ _ _ _ _ (⟨_, .load _ _, _, _, _, _⟩ :: _) _ _ _; refine lbx rfl spL (by rfl) ?_))))
        refine app (l := F) (l2 := [(⟨vw, vt⟩ : Inv)]) rfl rfl rfl spL (fun w hw => hw.rd spL) rfl rfl rfl (by simp only [List.length_singleton]; omega) (by simp only [List.length_singleton]; omega) (fun A4 c4 => ⟨enL, ?_⟩)
        (repeat' (first | refine r_seq ?_ | (show SH _ _ _ _ _ (_ :: _) _ _ _; first | (show SH _ _ _ _ _ (⟨_, .move _, _, _, _, _⟩ :: _) _ _ _; refine mov evL ?_) | (show SH _ _ _ _ _ (⟨_, .assign _, _, _, _, _⟩ :: _) _ _ _; refine asg evL ?_) | (show SH _ _ _ _ _ (⟨_, .binOp .add _ _ _ _, _, _, _, _⟩ :: _) _ _ _; refine add rfl rfl inL ?_) | refine fad rfl ?_ | (show SH _ _ _ _ _ (⟨_, .store _ _ _, _, _, _, _⟩ :: _) _ _ _; refine stb rfl rfl evL spL rfl rfl (by first | decide | exact Nat.zero_lt_succ _ | exact of_decide_eq_true rfl) kpL ?_)) | refine s_nil ?_ | refine kh_normal ?_ | refine bh_normal ?_))
        exact ⟨agL, (k + 1, A4, c4), hsL, by rw [htk]; exact enL, hkl, by show xv.length - (k + 1) < xv.length - k; omega⟩
    · obtain rfl : k = xv.length := by omega
      rw [List.take_length]
      clear hC
      (repeat' (first | (show VH _ _ _ _ _ _ _; first | refine v_seq ?_ | refine r_seq ?_ | refine v_ret ?_ | refine v_exit ?_ | refine v_cond_f rfl tbL ?_) | (show SH _ _ _ _ _ (_ :: _) _ _ _; first | (show SH _ _ _ _ _ (⟨_, .move _, _, _, _, _⟩ :: _) _ _ _; refine mov evL ?_) | (show SH _ _ _ _ _ (⟨_, .binOp .lss _ _ _ _, _, _, _, _⟩ :: _) _ _ _; refine lssF rfl rfl omD ?_) | (show SH _ _ _ _ _ (⟨_, .load _ _, _, _, _, _⟩ :: _) _ _ _; first | refine lbx rfl spL (by rfl) ?_ | refine lba rfl spL (by rfl) ?_) | refine slen rfl ?_ | refine fad rfl ?_ | (show SH _ _ _ _ _ (⟨_, .store _ _ _, _, _, _, _⟩ :: _) _ _ _; refine sta rfl rfl rfl spL (by rfl) (by rfl) (by rfl) kpL ?_)) | refine s_nil ?_ | refine kh_normal ?_ | refine kh_exit ?_ | refine bh_exit ?_))
      exact rhC rfl rfl rfl (fun w hw => loadVar_bx hw spL (by rfl)) ⟨⟨⟨xi, xl, xm, xv⟩, A1, a1, B, d⟩, rfl, rfl, rfl⟩ enL
set_option maxHeartbeats 4000000 in
set_option maxRecDepth 100000 in
theorem taken_spec (t la : Int) (A : Option Addr) (L : List PtyP) (c : Nat) (w : World) (hz : SzP L) (hr : RdP w A L) :
    Ret Tryz.prog 30 [hv36 t la A L c].toArray w (RP w fun v H' => ∃ A' c' M, ptys M = ptys L ∧ v = hv36 t la A' M c' ∧ H' = [orow 46 A' c' M, allH (M.map rowM), allH (M.map rowI)]) := by
  have hrA := hr.1
  have hll := hz.len
  refine enterH Tryz.func30 rfl rfl Tryz.ntmps30 rfl (Wd.refl _) ?_
  (repeat' (first | (show VH _ _ _ _ _ _ _; first | refine v_seq ?_ | refine r_seq ?_ | refine v_block ?_) | (show SH _ _ _ _ _ (_ :: _) _ _ _; first | (show SH _ _ _ _ _ (⟨_, .assign _, _, _, _, _⟩ :: _) _ _ _; refine asg evL ?_) | (show SH _ _ _ _ _ (⟨_, .load _ _, _, _, _, _⟩ :: _) _ _ _; refine lbx rfl spL (by rfl) ?_) | refine fad rfl ?_ | refine bld rfl rfl ?_ | refine ala rfl (fun b => ?_) | (show SH _ _ _ _ _ (⟨_, .box _ _, _, _, _, _⟩ :: _) _ _ _; refine bxx rfl evL rfl (fun b => ?_)) | (show SH _ _ _ _ _ (⟨_, .store _ _ _, _, _, _, _⟩ :: _) _ _ _; refine sta rfl rfl rfl spL (by rfl) (by rfl) (by rfl) kpL ?_)) | refine s_nil ?_ | refine kh_normal ?_))
  rename_i b1 b2
  revert b
  intro b3
  refine v_norm [(1,_),(2,_),(3,_),(4,_)] heL (fun g => ?_)
  refine VH.ent (G := [allH (([] : List PtyP).map rowM), allH (([] : List PtyP).map rowI), orow 46 none 0 ([] : List PtyP), bx b3 24 [.int .i64 t, .int .i64 la, .slice none 0 0], bx b1 30 [.int .i64 t, .int .i64 la, .slice A L.length c], bx b2 24 [.int .i64 0, .int .i64 0, .slice none 0 0]]) ?_ (ent_all_nil (ent_all_nil (ent_nilrow enL)))
  refine v_loop [(4,4),(10,27)] (fun y : Nat × Option Addr × Nat × List PtyP => [(4, .int .i64 y.1)]) (fun y => [allH (y.2.2.2.map rowM), allH (y.2.2.2.map rowI), orow 46 y.2.1 y.2.2.1 y.2.2.2, bx b3 24 [.int .i64 t, .int .i64 la, .slice y.2.1 y.2.2.2.length y.2.2.1], bx b1 30 [.int .i64 t, .int .i64 la, .slice A L.length c], bx b2 24 [.int .i64 0, .int .i64 0, .slice none 0 0]]) (fun y => y.1 ≤ L.length ∧ ptys y.2.2.2 = (ptys L).take y.1) (fun y => L.length - y.1) (0, none, 0, []) hsL enL ⟨Nat.zero_le _, by simp [ptys]⟩ ?_
  rintro ⟨k, B, d, M⟩ g ⟨hk, hM⟩
  simp only [sets]
  simp only at hk hM
  have hMl : M.length = k := by
    have := congrArg List.length hM
    rw [ptys_len, List.length_take, ptys_len] at this; omega
  by_cases hkl : k < L.length
  · have hM1 : ∀ y : PtyP, y.p = (L.getD k Flat.dflt).p → ptys (M ++ [y]) = (ptys L).take (k + 1) := fun y hy => by
      rw [ptys_snoc, hM, take_snoc (d := pty0) (by rw [ptys_len]; exact hkl), ptys_at hkl, hy]
    have hO := fun w h1 h2 => takenParty_spec (L.getD k Flat.dflt) w (hz.atm hkl) (hz.ati hkl) h1 h2
    have hm := hr.mem hkl
    have hi := hr.inv hkl
    clear hz hr hM
    (repeat' (first | (show VH _ _ _ _ _ _ _; first | refine v_seq ?_ | refine r_seq ?_ | refine v_block ?_ | refine v_skip ?_ | refine v_cond_t rfl tbL ?_) | (show SH _ _ _ _ _ (_ :: _) _ _ _; first | (show SH _ _ _ _ _ (⟨_, .move _, _, _, _, _⟩ :: _) _ _ _; refine mov evL ?_) | (show SH _ _ _ _ _ (⟨_, .binOp .lss _ _ _ _, _, _, _, _⟩ :: _) _ _ _; refine lssT rfl rfl omD ?_) | (show SH _ _ _ _ _ (⟨_, .load _ _, _, _, _, _⟩ :: _) _ _ _; refine lbx rfl spL (by rfl) ?_) | refine slen rfl ?_ | refine fad rfl ?_) | refine s_nil ?_ | refine kh_normal ?_))
    refine r_heldT [bx b1 30 _] (tr [(0, true), (2, true), (3, true), (4, true), (5, true), (6, true)] (.fork 1 (tr [(7, false), (8, false), (9, false), (10, false), (11, false)] .nil) 7 (tr [] (.fork 1 (tr [(8, false), (9, false), (10, false), (11, false)] .nil) 8 (tr [(1, false), (9, false), (10, false), (11, false)] .nil))))) hmix (by kernel_rfl) enL ?_
    (repeat' (first | (show SH _ _ _ _ _ (_ :: _) _ _ _; first | (show SH _ _ _ _ _ (⟨_, .move _, _, _, _, _⟩ :: _) _ _ _; refine mov evL ?_) | (show SH _ _ _ _ _ (⟨_, .load _ _, _, _, _, _⟩ :: _) _ _ _; first | refine lbx rfl spL (by rfl) ?_ | refine lra rfl (fun _ _ => rdP) (by rfl) omL ?_ | refine lra rfl (fun _ _ => rdP) (by rfl) (by simp only [List.length_cons, List.length_nil]; omega) ?_) | (show SH _ _ _ _ _ (⟨_, .indexAddr _ _ _, _, _, _, _⟩ :: _) _ _ _; refine ix rfl rfl (by with_reducible rfl) (fun _ _ => rdP) (by rfl) omL omL ?_) | (show SH _ _ _ _ _ (⟨_, .call ⟨.value (.func 36), _, _⟩, _, _, _, _⟩ :: _) _ _ _; refine cp (callee := .func 36) rfl (fun w hw => hO w (hm.ext hw.ext) (hi.ext hw.ext)) rfl rfl ?_) | refine fad rfl ?_) | refine s_fork ?_ ?_))
    all_goals
      rintro _ _ ⟨y, hyp, rfl, rfl⟩
      (repeat' (first | (show SH _ _ _ _ _ (_ :: _) _ _ _; (show SH _ _ _ _ _ (⟨_, .load _ _, _, _, _, _⟩ :: _) _ _ _; refine lbx rfl spL (by rfl) ?_)) | refine s_fork ?_ ?_))
    all_goals
      refine bsl (l := [y]) rfl rfl (Vals.cons rfl Vals.nil) rfl rfl (by decide) (fun b9 => ?_)
      (repeat' ((show SH _ _ _ _ _ (_ :: _) _ _ _; (show SH _ _ _ _ _ (⟨_, .load _ _, _, _, _, _⟩ :: _) _ _ _; refine lbx rfl spL (by rfl) ?_))))
    all_goals
      refine app (l := M) (l2 := [y]) rfl rfl rfl spL (fun w hw => hw.rd spL) rfl rfl rfl (by simp only [List.length_singleton]; omega) (by simp only [List.length_singleton]; omega) (fun A4 c4 => ⟨enL, ?_⟩)
      (repeat' (first | refine r_seq ?_ | (show SH _ _ _ _ _ (_ :: _) _ _ _; first | (show SH _ _ _ _ _ (⟨_, .move _, _, _, _, _⟩ :: _) _ _ _; refine mov evL ?_) | (show SH _ _ _ _ _ (⟨_, .assign _, _, _, _, _⟩ :: _) _ _ _; refine asg evL ?_) | (show SH _ _ _ _ _ (⟨_, .binOp .add _ _ _ _, _, _, _, _⟩ :: _) _ _ _; refine add rfl rfl inL ?_) | refine fad rfl ?_ | (show SH _ _ _ _ _ (⟨_, .store _ _ _, _, _, _, _⟩ :: _) _ _ _; refine stb rfl rfl evL spL rfl rfl (by first | decide | exact Nat.zero_lt_succ _ | exact of_decide_eq_true rfl) kpL ?_)) | refine s_nil ?_ | refine kh_normal ?_ | refine bh_normal ?_))
      refine ⟨agL, (k + 1, A4, c4, M ++ [y]), hsL, ?_, ⟨hkl, hM1 y hyp⟩, by show L.length - (k + 1) < L.length - k; omega⟩
      exact Ent.trans (B := [rowM y, allH (M.map rowM), rowI y, allH (M.map rowI), orow 46 A4 c4 (M ++ [y]), bx b3 24 [.int .i64 t, .int .i64 la, .slice A4 (M ++ [y]).length c4], bx b1 30 [.int .i64 t, .int .i64 la, .slice A L.length c], bx b2 24 [.int .i64 0, .int .i64 0, .slice none 0 0]]) enL (ent_all_snoc.trans (ent_cons Split.head ent_all_snoc))
  · obtain rfl : k = L.length := by omega
    have hMp : ptys M = ptys L := by rw [hM, ← ptys_len, List.take_length]
    (repeat' (first | (show VH _ _ _ _ _ _ _; first | refine v_seq ?_ | refine r_seq ?_ | refine v_ret ?_ | refine v_exit ?_ | refine v_cond_f rfl tbL ?_) | (show SH _ _ _ _ _ (_ :: _) _ _ _; first | (show SH _ _ _ _ _ (⟨_, .move _, _, _, _, _⟩ :: _) _ _ _; refine mov evL ?_) | (show SH _ _ _ _ _ (⟨_, .binOp .lss _ _ _ _, _, _, _, _⟩ :: _) _ _ _; refine lssF rfl rfl omD ?_) | (show SH _ _ _ _ _ (⟨_, .load _ _, _, _, _, _⟩ :: _) _ _ _; first | refine lbx rfl spL (by rfl) ?_ | refine lba rfl spL (by rfl) ?_) | refine slen rfl ?_ | refine fad rfl ?_ | (show SH _ _ _ _ _ (⟨_, .store _ _ _, _, _, _, _⟩ :: _) _ _ _; refine sta rfl rfl rfl spL (by rfl) (by rfl) (by rfl) kpL ?_)) | refine s_nil ?_ | refine kh_normal ?_ | refine kh_exit ?_ | refine bh_exit ?_))
    exact rhC rfl rfl rfl (fun w hw => loadVar_bx hw spL (by rfl)) ⟨B, d, M, hMp, rfl, rfl⟩ enL
end Go.Proofs.YtlfbcoohfnoacaaGreat

/- Layer 36 (party): a valid hall is sound, as the law looks at it. Plain Lean. -/
namespace Go.Proofs.YtlfbcoohfnoacaaGreat
open Go.Fw Go.RowKit
theorem led_next {l : List Int} {k : Nat} (hk : k < l.length) (x : Int) : (l.take (k + 1)).count x = (l.take k).count x + (if l.getD k 0 = x then 1 else 0) := by
  rw [take_snoc36 0 hk, List.count_append]
  congr 1
  by_cases h : l.getD k 0 = x
  · rw [if_pos h, h, List.count_singleton_self]
  · rw [if_neg h, List.count_eq_zero]
    exact fun hm => h (List.mem_singleton.mp hm).symm
end Go.Proofs.YtlfbcoohfnoacaaGreat

/- The reference of layer 36: id, times, find, asked. -/
namespace Go.Proofs.YtlfbcoohfnoacaaGreat
open Go.Fw Go.RowKit
theorem refId_spec (n : Int) (w : World) : Ret Tryz.prog 28 [.int .i64 n].toArray w (Out w (.bool (isIdB n))) := by
  refine enterH Tryz.func28 rfl rfl Tryz.ntmps28 rfl (Wd.refl _) ?_
  (repeat' (first | (show VH _ _ _ _ _ _ _; first | refine v_seq ?_ | refine r_seq ?_ | refine v_ret ?_) | (show SH _ _ _ _ _ (_ :: _) _ _ _; first | (show SH _ _ _ _ _ (⟨_, _, _, _, _, some _⟩ :: _) _ _ _; (refine gif rfl rfl ?_; first | refine giTT tbL ?_ | refine giTF tbL ?_ | refine giTd (fun h => ?_) (fun h => ?_))) | (show SH _ _ _ _ _ (⟨_, .move _, _, _, _, _⟩ :: _) _ _ _; refine mov evL ?_) | (show SH _ _ _ _ _ (⟨_, .assign _, _, _, _, _⟩ :: _) _ _ _; refine asg evL ?_) | refine leq rfl rfl ?_ | refine gtr rfl rfl ?_ | (show SH _ _ _ _ _ (⟨_, .pick _ _ _, _, _, _, _⟩ :: _) _ _ _; first | refine pkt rfl tbL evL ?_ | refine pkf rfl tbL evL ?_)) | refine s_nil ?_ | refine kh_normal ?_))
  all_goals exact rh1 rfl rfl ⟨congrArg Value.bool (by unfold isIdB; first | (rw [decide_eq_true (show 1 ≤ n by omega)]; simp) | (rw [decide_eq_false (show ¬ 1 ≤ n by omega)]; rfl)), rfl⟩ (ent_nil _)
theorem timesR_next {ps : List Pty} {i : Nat} (hi : i < ps.length) (who : Int) : timesR (ps.take (i + 1)) who = timesR (ps.take i) who + (ps.getD i pty0).mem.count who := by
  unfold timesR
  rw [take_snoc (d := pty0) hi, allM_append, List.count_append]
  simp [allM]
theorem timesR_le {L : List PtyP} (hz : SzP L) (who : Int) (i : Nat) : timesR ((ptys L).take i) who ≤ 1000000 := by
  unfold timesR
  have h1 : (allM ((ptys L).take i)).count who ≤ (allM ((ptys L).take i)).length := List.count_le_length
  have h2 := allM_tk (ptys L) i
  have h3 := allM_le hz
  have h4 := hz.len
  omega
set_option maxHeartbeats 1000000 in
set_option maxRecDepth 100000 in
theorem times_spec (t la : Int) (A : Option Addr) (L : List PtyP) (c : Nat) (who : Int) (w : World) (hz : SzP L) (hr : RdP w A L) :
    Ret Tryz.prog 29 [hv36 t la A L c, .int .i64 who].toArray w (Out w (.int .i64 (timesR (ptys L) who))) := by
  have hrA := hr.1
  have hll := hz.len
  refine enterH Tryz.func29 rfl rfl Tryz.ntmps29 rfl (Wd.refl _) ?_
  (repeat' (first | (show VH _ _ _ _ _ _ _; first | refine v_seq ?_ | refine r_seq ?_ | refine v_block ?_) | (show SH _ _ _ _ _ (_ :: _) _ _ _; first | (show SH _ _ _ _ _ (⟨_, .assign _, _, _, _, _⟩ :: _) _ _ _; refine asg evL ?_) | (show SH _ _ _ _ _ (⟨_, .box _ _, _, _, _, _⟩ :: _) _ _ _; refine bxx rfl evL rfl (fun b => ?_))) | refine s_nil ?_ | refine kh_normal ?_))
  revert b
  intro b2
  refine v_norm [(1,_),(2,_),(5,_),(6,_)] heL (fun g => ?_)
  refine v_loop0 [(5,38)] (fun i : Nat => [(6, .int .i64 i), (5, .int .i64 (timesR ((ptys L).take i) who : Nat))]) (fun i => i ≤ L.length) (fun i => L.length - i) 0 hsL (Nat.zero_le _) ?_
  rintro i g hi
  simp only [sets]
  by_cases hil : i < L.length
  · have htn := timesR_next (ps := ptys L) (i := i) (by rw [ptys_len]; exact hil) who
    rw [ptys_at hil] at htn
    have hb := timesR_le hz who i
    have hm := hr.mem hil
    have hml := hz.atm hil
    obtain ⟨x, hx⟩ : ∃ x, L.getD i Flat.dflt = x := ⟨_, rfl⟩
    have hxE := pty_enc hx
    rw [hx] at htn hm hml
    generalize timesR ((ptys L).take i) who = n at htn hb ⊢
    clear hx
    obtain ⟨⟨xi, xl, xm, xv⟩, xA, xca, xB, xcb⟩ := x
    simp only at htn hm hml hxE
    (repeat' (first | (show VH _ _ _ _ _ _ _; first | refine v_seq ?_ | refine r_seq ?_ | refine v_block ?_ | refine v_skip ?_ | refine v_cond_t rfl tbL ?_) | (show SH _ _ _ _ _ (_ :: _) _ _ _; first | (show SH _ _ _ _ _ (⟨_, .move _, _, _, _, _⟩ :: _) _ _ _; refine mov evL ?_) | (show SH _ _ _ _ _ (⟨_, .assign _, _, _, _, _⟩ :: _) _ _ _; refine asg evL ?_) | (show SH _ _ _ _ _ (⟨_, .binOp .lss _ _ _ _, _, _, _, _⟩ :: _) _ _ _; refine lssT rfl rfl omD ?_) | (show SH _ _ _ _ _ (⟨_, .load _ _, _, _, _, _⟩ :: _) _ _ _; refine lbx rfl spL (by rfl) ?_) | refine slen rfl ?_ | refine fad rfl ?_) | refine s_nil ?_ | refine kh_normal ?_))
    refine v_normS [(5,38)] _ agL [(5,_),(6,_),(7,_)] heL (fun g => ?_)
    refine v_loop0 [(5,5),(7,7),(15,38)] (fun j : Nat => [(7, .int .i64 j), (5, .int .i64 (n + (xm.take j).count who : Nat))]) (fun j => j ≤ xm.length) (fun j => xm.length - j) 0 hsL (Nat.zero_le _) ?_
    rintro j g2 hj
    simp only [sets]
    by_cases hjl : j < xm.length
    · have hcn := led_next hjl who
      have hcl : (xm.take j).count who ≤ 1000 := by
        have h1 : (xm.take j).count who ≤ (xm.take j).length := List.count_le_length
        rw [List.length_take] at h1; omega
      obtain ⟨u, hu⟩ : ∃ u, xm.getD j 0 = u := ⟨_, rfl⟩
      rw [hu] at hcn
      generalize (xm.take j).count who = m at hcn hcl ⊢
      by_cases huw : u = who
      · rw [if_pos huw] at hcn
        clear htn
        (repeat' (first | (show VH _ _ _ _ _ _ _; first | refine v_seq ?_ | refine r_seq ?_ | refine v_block ?_ | refine v_skip ?_ | refine v_cond_t rfl tbL ?_) | (show SH _ _ _ _ _ (_ :: _) _ _ _; first | (show SH _ _ _ _ _ (⟨_, .move _, _, _, _, _⟩ :: _) _ _ _; refine mov evL ?_) | (show SH _ _ _ _ _ (⟨_, .assign _, _, _, _, _⟩ :: _) _ _ _; refine asg evL ?_) | (show SH _ _ _ _ _ (⟨_, .binOp .lss _ _ _ _, _, _, _, _⟩ :: _) _ _ _; refine lssT rfl rfl omD ?_) | (show SH _ _ _ _ _ (⟨_, .binOp .eql _ _ _ _, _, _, _, _⟩ :: _) _ _ _; refine eqlT rfl rfl omD ?_) | (show SH _ _ _ _ _ (⟨_, .binOp .add _ _ _ _, _, _, _, _⟩ :: _) _ _ _; refine add rfl rfl inL ?_) | (show SH _ _ _ _ _ (⟨_, .load _ _, _, _, _, _⟩ :: _) _ _ _; first | refine lbx rfl spL (by rfl) ?_ | refine lgi rfl (fun _ _ => rdK) omL (by assumption) ?_ | refine lrg rfl (fun _ _ => rdK) (by rfl) omL (by assumption) (by rfl) ?_) | (show SH _ _ _ _ _ (⟨_, .indexAddr _ _ _, _, _, _, _⟩ :: _) _ _ _; refine ix rfl rfl (by with_reducible rfl) (fun _ _ => rdK) (by rfl) omL omL ?_) | refine slen rfl ?_ | refine fad rfl ?_) | refine s_nil ?_ | refine kh_normal ?_ | refine bh_normal ?_))
        exact ⟨agL, j + 1, by rw [hcn, show n + (m + 1) = n + m + 1 from rfl]; (repeat (first | exact trivial | refine And.intro rfl ?_)), enL, hjl, by omega⟩
      · rw [if_neg huw, Nat.add_zero] at hcn
        clear htn
        (repeat' (first | (show VH _ _ _ _ _ _ _; first | refine v_seq ?_ | refine r_seq ?_ | refine v_block ?_ | refine v_skip ?_ | refine v_cond_t rfl tbL ?_ | refine v_cond_f rfl tbL ?_) | (show SH _ _ _ _ _ (_ :: _) _ _ _; first | (show SH _ _ _ _ _ (⟨_, .move _, _, _, _, _⟩ :: _) _ _ _; refine mov evL ?_) | (show SH _ _ _ _ _ (⟨_, .assign _, _, _, _, _⟩ :: _) _ _ _; refine asg evL ?_) | (show SH _ _ _ _ _ (⟨_, .binOp .lss _ _ _ _, _, _, _, _⟩ :: _) _ _ _; refine lssT rfl rfl omD ?_) | (show SH _ _ _ _ _ (⟨_, .binOp .eql _ _ _ _, _, _, _, _⟩ :: _) _ _ _; refine eqlF rfl rfl omD ?_) | (show SH _ _ _ _ _ (⟨_, .binOp .add _ _ _ _, _, _, _, _⟩ :: _) _ _ _; refine add rfl rfl inL ?_) | (show SH _ _ _ _ _ (⟨_, .load _ _, _, _, _, _⟩ :: _) _ _ _; first | refine lbx rfl spL (by rfl) ?_ | refine lgi rfl (fun _ _ => rdK) omL (by assumption) ?_ | refine lrg rfl (fun _ _ => rdK) (by rfl) omL (by assumption) (by rfl) ?_) | (show SH _ _ _ _ _ (⟨_, .indexAddr _ _ _, _, _, _, _⟩ :: _) _ _ _; refine ix rfl rfl (by with_reducible rfl) (fun _ _ => rdK) (by rfl) omL omL ?_) | refine slen rfl ?_ | refine fad rfl ?_) | refine s_nil ?_ | refine kh_normal ?_ | refine bh_normal ?_))
        exact ⟨agL, j + 1, by rw [hcn]; (repeat (first | exact trivial | refine And.intro rfl ?_)), enL, hjl, by omega⟩
    · obtain rfl : j = xm.length := by omega
      rw [List.take_length]
      (repeat' (first | (show VH _ _ _ _ _ _ _; first | refine v_seq ?_ | refine r_seq ?_ | refine v_exit ?_ | refine v_cond_f rfl tbL ?_) | (show SH _ _ _ _ _ (_ :: _) _ _ _; first | (show SH _ _ _ _ _ (⟨_, .move _, _, _, _, _⟩ :: _) _ _ _; refine mov evL ?_) | (show SH _ _ _ _ _ (⟨_, .assign _, _, _, _, _⟩ :: _) _ _ _; refine asg evL ?_) | (show SH _ _ _ _ _ (⟨_, .binOp .lss _ _ _ _, _, _, _, _⟩ :: _) _ _ _; refine lssF rfl rfl omD ?_) | (show SH _ _ _ _ _ (⟨_, .binOp .add _ _ _ _, _, _, _, _⟩ :: _) _ _ _; refine add rfl rfl inL ?_) | (show SH _ _ _ _ _ (⟨_, .load _ _, _, _, _, _⟩ :: _) _ _ _; first | refine lbx rfl spL (by rfl) ?_ | refine lrg rfl (fun _ _ => rdK) (by rfl) omL (by assumption) (by rfl) ?_) | (show SH _ _ _ _ _ (⟨_, .indexAddr _ _ _, _, _, _, _⟩ :: _) _ _ _; refine ix rfl rfl (by with_reducible rfl) (fun _ _ => rdK) (by rfl) omL omL ?_) | refine slen rfl ?_ | refine fad rfl ?_) | refine s_nil ?_ | refine kh_normal ?_ | refine kh_exit ?_ | refine bh_normal ?_ | refine bh_exit ?_))
      exact ⟨agL, i + 1, by rw [htn]; (repeat (first | exact trivial | refine And.intro rfl ?_)), enL, hil, by omega⟩
  · obtain rfl : i = L.length := by omega
    rw [show (ptys L).take L.length = ptys L by rw [← ptys_len L, List.take_length]]
    (repeat' (first | (show VH _ _ _ _ _ _ _; first | refine v_seq ?_ | refine r_seq ?_ | refine v_ret ?_ | refine v_exit ?_ | refine v_cond_f rfl tbL ?_) | (show SH _ _ _ _ _ (_ :: _) _ _ _; first | (show SH _ _ _ _ _ (⟨_, .move _, _, _, _, _⟩ :: _) _ _ _; refine mov evL ?_) | (show SH _ _ _ _ _ (⟨_, .assign _, _, _, _, _⟩ :: _) _ _ _; refine asg evL ?_) | (show SH _ _ _ _ _ (⟨_, .binOp .lss _ _ _ _, _, _, _, _⟩ :: _) _ _ _; refine lssF rfl rfl omD ?_) | (show SH _ _ _ _ _ (⟨_, .load _ _, _, _, _, _⟩ :: _) _ _ _; refine lbx rfl spL (by rfl) ?_) | refine slen rfl ?_ | refine fad rfl ?_) | refine s_nil ?_ | refine kh_normal ?_ | refine kh_exit ?_ | refine bh_exit ?_))
    exact rh1 rfl rfl ⟨rfl, rfl⟩ (ent_nil _)
/-- The place of a player's party, or -1. -/
def findI36 (who : Int) (ps : List Pty) : Int := match findM who ps with | none => -1 | some k => k
theorem findM_drop (who : Int) : ∀ (ps : List Pty) (k : Nat), k ≤ ps.length → (∀ j, j < k → who ∉ (ps.getD j pty0).mem) → findM who ps = (findM who (ps.drop k)).map (· + k)
  | ps, 0, _, _ => by rw [List.drop_zero]; cases findM who ps <;> rfl
  | [], k + 1, h, _ => by simp at h
  | p :: ps, k + 1, h, hn => by
    have h0 : who ∉ p.mem := hn 0 (by omega)
    rw [findM, if_neg h0, findM_drop who ps k (by simpa using h) (fun j hj => by simpa using hn (j + 1) (by omega)), List.drop_succ_cons]
    cases findM who (ps.drop k) with
    | none => rfl
    | some j => rfl
set_option maxHeartbeats 1000000 in
set_option maxRecDepth 100000 in
theorem refFind_spec (t la : Int) (A : Option Addr) (L : List PtyP) (c : Nat) (who : Int) (w : World) (hz : SzP L) (hr : RdP w A L) :
    Ret Tryz.prog 75 [hv36 t la A L c, .int .i64 who].toArray w (Out w (.int .i64 (findI36 who (ptys L)))) := by
  have hrA := hr.1
  have hll := hz.len
  unfold findI36
  refine enterH Tryz.func75 rfl rfl Tryz.ntmps75 rfl (Wd.refl _) ?_
  (repeat' (first | (show VH _ _ _ _ _ _ _; first | refine v_seq ?_ | refine r_seq ?_ | refine v_block ?_) | (show SH _ _ _ _ _ (_ :: _) _ _ _; first | (show SH _ _ _ _ _ (⟨_, .assign _, _, _, _, _⟩ :: _) _ _ _; refine asg evL ?_) | (show SH _ _ _ _ _ (⟨_, .box _ _, _, _, _, _⟩ :: _) _ _ _; refine bxx rfl evL rfl (fun b => ?_))) | refine s_nil ?_ | refine kh_normal ?_))
  revert b
  intro b2
  refine v_norm [(1,_),(2,_),(5,_)] heL (fun g => ?_)
  refine v_loop0 [(4,36)] (fun i : Nat => [(5, .int .i64 i)]) (fun i => i ≤ L.length ∧ ∀ j, j < i → who ∉ ((ptys L).getD j pty0).mem) (fun i => L.length - i) 0 hsL ⟨Nat.zero_le _, fun j h => absurd h (Nat.not_lt_zero j)⟩ ?_
  rintro i g ⟨hi, hok⟩
  simp only [sets]
  have hdr := findM_drop who (ptys L) i (by rw [ptys_len]; exact hi) hok
  by_cases hil : i < L.length
  · rw [drop_cons (d := pty0) (by rw [ptys_len]; exact hil), findM] at hdr
    have hpi := ptys_at hil
    have hm := hr.mem hil
    have hml := hz.atm hil
    rw [hpi] at hdr
    have hok' : who ∉ (L.getD i Flat.dflt).p.mem → ∀ j, j < i + 1 → who ∉ ((ptys L).getD j pty0).mem := fun h j hj => by
      by_cases e : j = i
      · rw [e, hpi]; exact h
      · exact hok j (by omega)
    obtain ⟨x, hx⟩ : ∃ x, L.getD i Flat.dflt = x := ⟨_, rfl⟩
    have hxE := pty_enc hx
    rw [hx] at hdr hm hml hok'
    clear hx hok hpi
    obtain ⟨⟨xi, xl, xm, xv⟩, xA, xca, xB, xcb⟩ := x
    simp only at hdr hm hml hok' hxE
    (repeat' (first | (show VH _ _ _ _ _ _ _; first | refine v_seq ?_ | refine r_seq ?_ | refine v_block ?_ | refine v_skip ?_ | refine v_cond_t rfl tbL ?_) | (show SH _ _ _ _ _ (_ :: _) _ _ _; first | (show SH _ _ _ _ _ (⟨_, .move _, _, _, _, _⟩ :: _) _ _ _; refine mov evL ?_) | (show SH _ _ _ _ _ (⟨_, .assign _, _, _, _, _⟩ :: _) _ _ _; refine asg evL ?_) | (show SH _ _ _ _ _ (⟨_, .binOp .lss _ _ _ _, _, _, _, _⟩ :: _) _ _ _; refine lssT rfl rfl omD ?_) | (show SH _ _ _ _ _ (⟨_, .load _ _, _, _, _, _⟩ :: _) _ _ _; refine lbx rfl spL (by rfl) ?_) | refine slen rfl ?_ | refine fad rfl ?_) | refine s_nil ?_ | refine kh_normal ?_))
    refine v_normS [(4,36)] _ agL [(5,_),(6,_)] heL (fun g => ?_)
    refine v_loop0 [(4,4),(6,6),(14,36)] (fun j : Nat => [(6, .int .i64 j)]) (fun j => j ≤ xm.length ∧ who ∉ xm.take j) (fun j => xm.length - j) 0 hsL ⟨Nat.zero_le _, by simp⟩ ?_
    rintro j g2 ⟨hj, hnt⟩
    simp only [sets]
    by_cases hjl : j < xm.length
    · obtain ⟨u, hu⟩ : ∃ u, xm.getD j 0 = u := ⟨_, rfl⟩
      by_cases huw : u = who
      · have hin : who ∈ xm := by rw [← huw, ← hu]; exact getD_mem hjl
        rw [if_pos hin] at hdr
        rw [hdr]
        clear hdr hok' hnt
        (repeat' (first | (show VH _ _ _ _ _ _ _; first | refine v_seq ?_ | refine r_seq ?_ | refine v_block ?_ | refine v_ret ?_ | refine v_skip ?_ | refine v_cond_t rfl tbL ?_) | (show SH _ _ _ _ _ (_ :: _) _ _ _; first | (show SH _ _ _ _ _ (⟨_, .move _, _, _, _, _⟩ :: _) _ _ _; refine mov evL ?_) | (show SH _ _ _ _ _ (⟨_, .assign _, _, _, _, _⟩ :: _) _ _ _; refine asg evL ?_) | (show SH _ _ _ _ _ (⟨_, .binOp .lss _ _ _ _, _, _, _, _⟩ :: _) _ _ _; refine lssT rfl rfl omD ?_) | (show SH _ _ _ _ _ (⟨_, .binOp .eql _ _ _ _, _, _, _, _⟩ :: _) _ _ _; refine eqlT rfl rfl omD ?_) | (show SH _ _ _ _ _ (⟨_, .load _ _, _, _, _, _⟩ :: _) _ _ _; first | refine lbx rfl spL (by rfl) ?_ | refine lgi rfl (fun _ _ => rdK) omL (by assumption) ?_ | refine lrg rfl (fun _ _ => rdK) (by rfl) omL (by assumption) (by rfl) ?_) | (show SH _ _ _ _ _ (⟨_, .indexAddr _ _ _, _, _, _, _⟩ :: _) _ _ _; refine ix rfl rfl (by with_reducible rfl) (fun _ _ => rdK) (by rfl) omL omL ?_) | refine slen rfl ?_ | refine fad rfl ?_) | refine s_nil ?_ | refine kh_normal ?_ | refine kh_ret ?_ | refine bh_ret ?_))
        exact rh1 rfl rfl ⟨congrArg (Value.int .i64) (by show _ = ((0 + i : Nat) : Int); rw [Nat.zero_add]), rfl⟩ (ent_nil _)
      · have hnt' : who ∉ xm.take (j + 1) := by
          rw [takeI hjl, hu]
          exact fun h => (List.mem_append.1 h).elim hnt (fun h => huw (List.mem_singleton.1 h).symm)
        clear hdr hok' hnt
        (repeat' (first | (show VH _ _ _ _ _ _ _; first | refine v_seq ?_ | refine r_seq ?_ | refine v_block ?_ | refine v_skip ?_ | refine v_cond_t rfl tbL ?_ | refine v_cond_f rfl tbL ?_) | (show SH _ _ _ _ _ (_ :: _) _ _ _; first | (show SH _ _ _ _ _ (⟨_, .move _, _, _, _, _⟩ :: _) _ _ _; refine mov evL ?_) | (show SH _ _ _ _ _ (⟨_, .assign _, _, _, _, _⟩ :: _) _ _ _; refine asg evL ?_) | (show SH _ _ _ _ _ (⟨_, .binOp .lss _ _ _ _, _, _, _, _⟩ :: _) _ _ _; refine lssT rfl rfl omD ?_) | (show SH _ _ _ _ _ (⟨_, .binOp .eql _ _ _ _, _, _, _, _⟩ :: _) _ _ _; refine eqlF rfl rfl omD ?_) | (show SH _ _ _ _ _ (⟨_, .binOp .add _ _ _ _, _, _, _, _⟩ :: _) _ _ _; refine add rfl rfl inL ?_) | (show SH _ _ _ _ _ (⟨_, .load _ _, _, _, _, _⟩ :: _) _ _ _; first | refine lbx rfl spL (by rfl) ?_ | refine lgi rfl (fun _ _ => rdK) omL (by assumption) ?_ | refine lrg rfl (fun _ _ => rdK) (by rfl) omL (by assumption) (by rfl) ?_) | (show SH _ _ _ _ _ (⟨_, .indexAddr _ _ _, _, _, _, _⟩ :: _) _ _ _; refine ix rfl rfl (by with_reducible rfl) (fun _ _ => rdK) (by rfl) omL omL ?_) | refine slen rfl ?_ | refine fad rfl ?_) | refine s_nil ?_ | refine kh_normal ?_ | refine bh_normal ?_))
        exact ⟨agL, j + 1, hsL, enL, ⟨hjl, hnt'⟩, by omega⟩
    · obtain rfl : j = xm.length := by omega
      rw [List.take_length] at hnt
      have hok2 := hok' hnt
      clear hdr hok'
      (repeat' (first | (show VH _ _ _ _ _ _ _; first | refine v_seq ?_ | refine r_seq ?_ | refine v_exit ?_ | refine v_cond_f rfl tbL ?_) | (show SH _ _ _ _ _ (_ :: _) _ _ _; first | (show SH _ _ _ _ _ (⟨_, .move _, _, _, _, _⟩ :: _) _ _ _; refine mov evL ?_) | (show SH _ _ _ _ _ (⟨_, .assign _, _, _, _, _⟩ :: _) _ _ _; refine asg evL ?_) | (show SH _ _ _ _ _ (⟨_, .binOp .lss _ _ _ _, _, _, _, _⟩ :: _) _ _ _; refine lssF rfl rfl omD ?_) | (show SH _ _ _ _ _ (⟨_, .binOp .add _ _ _ _, _, _, _, _⟩ :: _) _ _ _; refine add rfl rfl inL ?_) | (show SH _ _ _ _ _ (⟨_, .load _ _, _, _, _, _⟩ :: _) _ _ _; first | refine lbx rfl spL (by rfl) ?_ | refine lrg rfl (fun _ _ => rdK) (by rfl) omL (by assumption) (by rfl) ?_) | (show SH _ _ _ _ _ (⟨_, .indexAddr _ _ _, _, _, _, _⟩ :: _) _ _ _; refine ix rfl rfl (by with_reducible rfl) (fun _ _ => rdK) (by rfl) omL omL ?_) | refine slen rfl ?_ | refine fad rfl ?_) | refine s_nil ?_ | refine kh_normal ?_ | refine kh_exit ?_ | refine bh_normal ?_ | refine bh_exit ?_))
      exact ⟨agL, i + 1, hsL, enL, ⟨hil, hok2⟩, by omega⟩
  · obtain rfl : i = L.length := by omega
    rw [List.drop_of_length_le (by rw [ptys_len]; omega)] at hdr
    rw [hdr]
    clear hok hdr
    (repeat' (first | (show VH _ _ _ _ _ _ _; first | refine v_seq ?_ | refine r_seq ?_ | refine v_ret ?_ | refine v_exit ?_ | refine v_cond_f rfl tbL ?_) | (show SH _ _ _ _ _ (_ :: _) _ _ _; first | (show SH _ _ _ _ _ (⟨_, .move _, _, _, _, _⟩ :: _) _ _ _; refine mov evL ?_) | (show SH _ _ _ _ _ (⟨_, .assign _, _, _, _, _⟩ :: _) _ _ _; refine asg evL ?_) | (show SH _ _ _ _ _ (⟨_, .binOp .lss _ _ _ _, _, _, _, _⟩ :: _) _ _ _; refine lssF rfl rfl omD ?_) | (show SH _ _ _ _ _ (⟨_, .load _ _, _, _, _, _⟩ :: _) _ _ _; refine lbx rfl spL (by rfl) ?_) | refine slen rfl ?_ | refine fad rfl ?_) | refine s_nil ?_ | refine kh_normal ?_ | refine kh_exit ?_ | refine bh_exit ?_))
    exact rh1 rfl rfl ⟨rfl, rfl⟩ (ent_nil _)
end Go.Proofs.YtlfbcoohfnoacaaGreat

/- The reference of layer 36: Valid. -/
namespace Go.Proofs.YtlfbcoohfnoacaaGreat
open Go.Fw Go.RowKit
/-- What is right about a party ahead of its lists. -/
def headC (la : Int) (ps : List Pty) (i : Nat) : Prop :=
  1 ≤ (ps.getD i pty0).id ∧ (ps.getD i pty0).id ≤ la ∧ (i = 0 ∨ (ps.getD (i - 1) pty0).id < (ps.getD i pty0).id) ∧ 1 ≤ (ps.getD i pty0).mem.length ∧ (ps.getD i pty0).mem.length + (ps.getD i pty0).inv.length ≤ 5
def ptyC (t la : Int) (ps : List Pty) (i : Nat) : Prop :=
  headC la ps i ∧ (∀ k, k < (ps.getD i pty0).mem.length → memR ps ((ps.getD i pty0).mem.getD k 0) = true) ∧ (∀ k, k < (ps.getD i pty0).inv.length → invR t ps (ps.getD i pty0).inv k = true) ∧ (ps.getD i pty0).leader ∈ (ps.getD i pty0).mem
theorem ptyR_iff {h : Hal} {i : Nat} : ptyR h i = true ↔ ptyC h.tick h.last h.ps i := by
  unfold ptyR ptyC headC
  simp only [Bool.and_eq_true, Bool.or_eq_true, decide_eq_true_eq, List.all_eq_true, List.mem_range]
  constructor
  · rintro ⟨⟨⟨⟨⟨⟨⟨h1, h2⟩, h3⟩, h4⟩, h5⟩, h6⟩, h7⟩, h8⟩
    exact ⟨⟨h1, h2, h3, h4, h5⟩, fun k hk => h6 _ (getD_mem hk), h7, h8⟩
  · rintro ⟨⟨h1, h2, h3, h4, h5⟩, h6, h7, h8⟩
    refine ⟨⟨⟨⟨⟨⟨⟨h1, h2⟩, h3⟩, h4⟩, h5⟩, fun x hx => ?_⟩, h7⟩, h8⟩
    obtain ⟨k, hk, e⟩ := List.mem_iff_getElem.1 hx
    have := h6 k hk
    rwa [List.getD_eq_getElem?_getD, List.getElem?_eq_getElem hk, Option.getD_some, e] at this
theorem validR_no {h : Hal} {i : Nat} (hi : i < h.ps.length) (hn : ¬ ptyC h.tick h.last h.ps i) : validR h = false := by
  cases hv : validR h with
  | false => rfl
  | true =>
    unfold validR at hv
    simp only [Bool.and_eq_true, List.all_eq_true, List.mem_range] at hv
    exact absurd (ptyR_iff.1 (hv.2 i hi)) hn
theorem validR_yes {h : Hal} (hc : 0 ≤ h.tick ∧ h.tick ≤ 1073741824 ∧ 0 ≤ h.last ∧ h.last ≤ 1048576 ∧ h.ps.length ≤ 32) (ha : ∀ i, i < h.ps.length → ptyC h.tick h.last h.ps i) : validR h = true := by
  unfold validR
  simp only [Bool.and_eq_true, decide_eq_true_eq, List.all_eq_true, List.mem_range]
  exact ⟨⟨⟨⟨⟨hc.1, hc.2.1⟩, hc.2.2.1⟩, hc.2.2.2.1⟩, hc.2.2.2.2⟩, fun i hi => ptyR_iff.2 (ha i hi)⟩
theorem validR_cut {h : Hal} (hc : ¬ (0 ≤ h.tick ∧ h.tick ≤ 1073741824 ∧ 0 ≤ h.last ∧ h.last ≤ 1048576 ∧ h.ps.length ≤ 32)) : validR h = false := by
  cases hv : validR h with
  | false => rfl
  | true =>
    unfold validR at hv
    simp only [Bool.and_eq_true, decide_eq_true_eq] at hv
    exact absurd ⟨hv.1.1.1.1.1, hv.1.1.1.1.2, hv.1.1.1.2, hv.1.1.2, hv.1.2⟩ hc
theorem memR_iff {ps : List Pty} {n : Int} : memR ps n = true ↔ isIdB n = true ∧ timesR ps n = 1 := by unfold memR; rw [Bool.and_eq_true, decide_eq_true_eq]
def invC (t : Int) (ps : List Pty) (l : List Inv) (k : Nat) : Prop := isIdB (l.getD k ⟨0, 0⟩).who = true ∧ timesR ps (l.getD k ⟨0, 0⟩).who = 0 ∧ t < (l.getD k ⟨0, 0⟩).till ∧ (l.getD k ⟨0, 0⟩).till ≤ t + 600 ∧ (k = 0 ∨ (l.getD (k - 1) ⟨0, 0⟩).who < (l.getD k ⟨0, 0⟩).who)
theorem inv1_iff {t : Int} {ps : List Pty} {l : List Inv} {k : Nat} : invR t ps l k = true ↔ invC t ps l k := by
  unfold invR invC
  simp only [Bool.and_eq_true, Bool.or_eq_true, decide_eq_true_eq]
  exact ⟨fun ⟨⟨⟨⟨a, b⟩, c⟩, d⟩, e⟩ => ⟨a, b, c, d, e⟩, fun ⟨a, b, c, d, e⟩ => ⟨⟨⟨⟨a, b⟩, c⟩, d⟩, e⟩⟩
set_option maxHeartbeats 4000000 in
set_option maxRecDepth 100000 in
theorem refValid_spec (t la : Int) (A : Option Addr) (L : List PtyP) (c : Nat) (w : World) (hz : SzP L) (hr : RdP w A L) :
    Ret Tryz.prog 9 [hv36 t la A L c].toArray w (Out w (.bool (validHal ⟨t, la, ptys L⟩))) := by
  rw [← validR_eq]
  have hll := hz.len
  have hrA := hr.1
  have hpn := ptys_len L
  have hti := fun who w hr => times_spec t la A L c who w hz hr
  by_cases hc : 0 ≤ t ∧ t ≤ 1073741824 ∧ 0 ≤ la ∧ la ≤ 1048576 ∧ L.length ≤ 32
  case neg =>
    have hcc : Hid _ := hc
    rw [validR_cut (h := ⟨t, la, ptys L⟩) (by show ¬ (0 ≤ t ∧ t ≤ 1073741824 ∧ 0 ≤ la ∧ la ≤ 1048576 ∧ (ptys L).length ≤ 32); rw [hpn]; exact hc)]
    clear hc
    refine enterH Tryz.func9 rfl rfl Tryz.ntmps9 rfl (Wd.refl _) ?_
    (repeat' (first | (show VH _ _ _ _ _ _ _; first | refine v_seq ?_ | refine r_seq ?_ | refine v_block ?_ | refine v_ret ?_ | refine v_skip ?_ | refine v_cond_t rfl tbL ?_ | refine v_cond_dec rfl (fun h => ?_) (fun h => ?_)) | (show SH _ _ _ _ _ (_ :: _) _ _ _; first | (show SH _ _ _ _ _ (⟨_, _, _, _, _, some _⟩ :: _) _ _ _; (refine gif rfl rfl ?_; first | refine giFF tbL ?_ | refine giFT tbL ?_ | refine giFd (fun h => ?_) (fun h => ?_))) | (show SH _ _ _ _ _ (⟨_, .move _, _, _, _, _⟩ :: _) _ _ _; refine mov evL ?_) | (show SH _ _ _ _ _ (⟨_, .assign _, _, _, _, _⟩ :: _) _ _ _; refine asg evL ?_) | refine lss rfl rfl ?_ | refine gtr rfl rfl ?_ | (show SH _ _ _ _ _ (⟨_, .load _ _, _, _, _, _⟩ :: _) _ _ _; refine lbx rfl spL (by rfl) ?_) | refine slen rfl ?_ | (show SH _ _ _ _ _ (⟨_, .pick _ _ _, _, _, _, _⟩ :: _) _ _ _; first | refine pkt rfl tbL evL ?_ | refine pkf rfl tbL evL ?_) | refine fad rfl ?_ | (show SH _ _ _ _ _ (⟨_, .box _ _, _, _, _, _⟩ :: _) _ _ _; refine bxx rfl evL rfl (fun b => ?_))) | refine s_nil ?_ | refine kh_normal ?_ | refine kh_ret ?_))
    all_goals first
      | exact rh1 rfl rfl ⟨rfl, rfl⟩ (ent_nil _)
      | exact absurd ⟨by omega, by omega, by omega, by omega, by omega⟩ hcc
  have hF := fun i (hi : i < L.length) (hn : ¬ ptyC t la (ptys L) i) => validR_no (h := ⟨t, la, ptys L⟩) (i := i) (by show i < (ptys L).length; rw [hpn]; exact hi) hn
  have hT := fun (ha : ∀ i, i < L.length → ptyC t la (ptys L) i) => validR_yes (h := ⟨t, la, ptys L⟩) (by show 0 ≤ t ∧ t ≤ 1073741824 ∧ 0 ≤ la ∧ la ≤ 1048576 ∧ (ptys L).length ≤ 32; rw [hpn]; exact hc) (by show ∀ i, i < (ptys L).length → _; rw [hpn]; exact ha)
  generalize validR ⟨t, la, ptys L⟩ = z at hF hT ⊢
  obtain ⟨c1_, c2_, c3_, c4_, c5_⟩ := hc
  refine enterH Tryz.func9 rfl rfl Tryz.ntmps9 rfl (Wd.refl _) ?_
  (repeat' (first | (show VH _ _ _ _ _ _ _; first | refine v_seq ?_ | refine r_seq ?_ | refine v_block ?_ | refine v_skip ?_ | refine v_cond_f rfl tbL ?_) | (show SH _ _ _ _ _ (_ :: _) _ _ _; first | (show SH _ _ _ _ _ (⟨_, _, _, _, _, some _⟩ :: _) _ _ _; (refine gif rfl rfl ?_; refine giFF tbL ?_)) | (show SH _ _ _ _ _ (⟨_, .move _, _, _, _, _⟩ :: _) _ _ _; refine mov evL ?_) | (show SH _ _ _ _ _ (⟨_, .assign _, _, _, _, _⟩ :: _) _ _ _; refine asg evL ?_) | (show SH _ _ _ _ _ (⟨_, .binOp .lss _ _ _ _, _, _, _, _⟩ :: _) _ _ _; refine lssF rfl rfl omD ?_) | (show SH _ _ _ _ _ (⟨_, .binOp .gtr _ _ _ _, _, _, _, _⟩ :: _) _ _ _; refine gtrF rfl rfl omD ?_) | (show SH _ _ _ _ _ (⟨_, .load _ _, _, _, _, _⟩ :: _) _ _ _; refine lbx rfl spL (by rfl) ?_) | refine slen rfl ?_ | (show SH _ _ _ _ _ (⟨_, .pick _ _ _, _, _, _, _⟩ :: _) _ _ _; refine pkf rfl tbL evL ?_) | refine fad rfl ?_ | (show SH _ _ _ _ _ (⟨_, .box _ _, _, _, _, _⟩ :: _) _ _ _; refine bxx rfl evL rfl (fun b => ?_))) | refine s_nil ?_ | refine kh_normal ?_))
  revert b
  intro b1
  refine v_norm [(1,_),(3,_)] heL (fun g => ?_)
  refine v_loop0 [(2,8),(33,174)] (fun i : Nat => [(3, .int .i64 i)]) (fun i => i ≤ L.length ∧ ∀ j, j < i → ptyC t la (ptys L) j) (fun i => L.length - i) 0 hsL ⟨Nat.zero_le _, fun j h => absurd h (Nat.not_lt_zero j)⟩ ?_
  rintro i g ⟨hi, hok⟩
  simp only [sets]
  by_cases hil : i < L.length
  · have hFi := hF i hil
    have hpi := ptys_at hil
    have hm := hr.mem hil
    have hv := hr.inv hil
    have hml := hz.atm hil
    have hvl := hz.ati hil
    obtain ⟨y, hy⟩ : ∃ y, L.getD (((i : Nat) : Int) - 1).toNat Flat.dflt = y := ⟨_, rfl⟩
    have hyE := pty_enc hy
    have hyp : 0 < i → (ptys L).getD (i - 1) pty0 = y.p := fun h => by rw [ptys_at (by omega), ← hy]; congr 2; omega
    obtain ⟨x, hx⟩ : ∃ x, L.getD i Flat.dflt = x := ⟨_, rfl⟩
    have hxE := pty_enc hx
    rw [hx] at hpi hm hv hml hvl
    clear hx hy hF hT
    obtain ⟨⟨xi, xl, xm, xv⟩, xA, xca, xB, xcb⟩ := x
    obtain ⟨⟨yi, yl, ym, yv⟩, yA, yca, yB, ycb⟩ := y
    simp only at hpi hm hv hml hvl hxE hyE hyp
    unfold ptyC headC at hFi
    have hok1 : ptyC t la (ptys L) i → ∀ j, j < i + 1 → ptyC t la (ptys L) j := fun h j hj => by
      by_cases e : j = i
      · rw [e]; exact h
      · exact hok j (by omega)
    unfold ptyC headC at hok1
    rw [hpi] at hFi hok1
    simp only at hFi hok1
    clear hok
    by_cases hB : 1 ≤ xi ∧ xi ≤ la ∧ (i = 0 ∨ yi < xi) ∧ 1 ≤ xm.length ∧ xm.length + xv.length ≤ 5
    · have hB' : 1 ≤ xi ∧ xi ≤ la ∧ (i = 0 ∨ ((ptys L).getD (i - 1) pty0).id < xi) ∧ 1 ≤ xm.length ∧ xm.length + xv.length ≤ 5 := ⟨hB.1, hB.2.1, by
        rcases hB.2.2.1 with h | h
        · exact .inl h
        · by_cases h0 : i = 0
          · exact .inl h0
          · exact .inr (by rw [hyp (by omega)]; exact h), hB.2.2.2.1, hB.2.2.2.2⟩
      have hFi2 := fun (h : ¬ ((∀ k, k < xm.length → memR (ptys L) (xm.getD k 0) = true) ∧ (∀ k, k < xv.length → invR t (ptys L) xv k = true) ∧ xl ∈ xm)) => hFi fun hh => h hh.2
      have hok2 := fun h1 h2 h3 => hok1 ⟨hB', h1, h2, h3⟩
      obtain ⟨d1_, d2_, d3_, d4_, d5_⟩ := hB
      clear hFi hok1 hB' hyp hpi
      have hid := refId_spec
      have hit : ∀ who w', RdP w' A L → Ret Tryz.prog 29 [hv36 t la A L c, .int .i64 who].toArray w' (Out w' (.int .i64 (timesR (ptys L) who))) := hti
      clear hti
      generalize hpsE : ptys L = ps at hit hFi2 hok2 ⊢
      (repeat' ((fail_if_success (show VH _ _ (.seq (.seq (.region 7 _ _) _) _) _ _ _ _)); first | (show VH _ _ _ _ _ _ _; first | refine v_seq ?_ | refine r_seq ?_ | refine v_block ?_ | refine v_skip ?_ | refine v_cond_t rfl tbL ?_) | (show SH _ _ _ _ _ (_ :: _) _ _ _; first | (show SH _ _ _ _ _ (⟨_, .move _, _, _, _, _⟩ :: _) _ _ _; refine mov evL ?_) | (show SH _ _ _ _ _ (⟨_, .binOp .lss _ _ _ _, _, _, _, _⟩ :: _) _ _ _; refine lssT rfl rfl omD ?_) | (show SH _ _ _ _ _ (⟨_, .load _ _, _, _, _, _⟩ :: _) _ _ _; first | refine lbx rfl spL (by rfl) ?_ | refine lag rfl (fun _ _ => rdP) (by rfl) omL (by assumption) ?_) | (show SH _ _ _ _ _ (⟨_, .indexAddr _ _ _, _, _, _, _⟩ :: _) _ _ _; refine ix rfl rfl (by with_reducible rfl) (fun _ _ => rdP) (by rfl) omL omL ?_) | refine slen rfl ?_ | refine fad rfl ?_ | refine ala rfl (fun b => ?_) | (show SH _ _ _ _ _ (⟨_, .store _ _ _, _, _, _, _⟩ :: _) _ _ _; refine sta rfl rfl rfl spL (by rfl) (by rfl) (by rfl) kpL ?_)) | refine s_nil ?_ | refine kh_normal ?_))
      refine v_seq ?_
      refine v_cut0 [(45, 86)] (fun _ : Unit => []) (fun _ => True) ?_ ?_ ent_vh
      · clear hFi2 hok2 hid hit
        (repeat' (first | (show VH _ _ _ _ _ _ _; first | refine v_seq ?_ | refine r_quiet hmix (by kernel_rfl) ?_ | refine v_skip ?_ | refine v_cond_f rfl tbL ?_) | (show SH _ _ _ _ _ (_ :: _) _ _ _; first | (show SH _ _ _ _ _ (⟨_, _, _, _, _, some _⟩ :: _) _ _ _; (refine gif rfl rfl ?_; first | refine giTT tbL ?_ | refine giTF tbL ?_ | refine giFF tbL ?_ | refine giTd (fun h => ?_) (fun h => ?_))) | (show SH _ _ _ _ _ (⟨_, .move _, _, _, _, _⟩ :: _) _ _ _; refine mov evL ?_) | (show SH _ _ _ _ _ (⟨_, .binOp .lss _ _ _ _, _, _, _, _⟩ :: _) _ _ _; refine lssF rfl rfl omD ?_) | (show SH _ _ _ _ _ (⟨_, .binOp .leq _ _ _ _, _, _, _, _⟩ :: _) _ _ _; refine leqF rfl rfl omD ?_) | (show SH _ _ _ _ _ (⟨_, .binOp .gtr _ _ _ _, _, _, _, _⟩ :: _) _ _ _; first | refine gtrF rfl rfl omD ?_ | refine gtr rfl rfl ?_) | (show SH _ _ _ _ _ (⟨_, .binOp .eql _ _ _ _, _, _, _, _⟩ :: _) _ _ _; refine eqlF rfl rfl omD ?_) | (show SH _ _ _ _ _ (⟨_, .binOp .add _ _ _ _, _, _, _, _⟩ :: _) _ _ _; refine add rfl rfl inL ?_) | (show SH _ _ _ _ _ (⟨_, .binOp .sub _ _ _ _, _, _, _, _⟩ :: _) _ _ _; refine sub rfl rfl inL ?_) | (show SH _ _ _ _ _ (⟨_, .load _ _, _, _, _, _⟩ :: _) _ _ _; first | refine lbx rfl spL (by rfl) ?_ | refine lrg rfl (fun _ _ => rdP) (by rfl) omL (by assumption) (by rfl) ?_) | (show SH _ _ _ _ _ (⟨_, .indexAddr _ _ _, _, _, _, _⟩ :: _) _ _ _; first | refine ixi rfl rfl (fun _ _ => rdP) (by rfl) omL omL omL ?_ | refine ixi rfl rfl (fun _ _ => rdP) (by rfl) omL (by first | omega | (simp only [List.length_cons, List.length_nil]; omega)) (by simp only [List.length_cons, List.length_nil]; omega) ?_) | refine slen rfl ?_ | (show SH _ _ _ _ _ (⟨_, .pick _ _ _, _, _, _, _⟩ :: _) _ _ _; first | refine pkt rfl tbL evL ?_ | refine pkf rfl tbL evL ?_) | refine fad rfl ?_) | refine s_nil ?_ | refine kh_normal ?_))
        all_goals exact ⟨agL, (), hsL, ent_refl _, trivial⟩
      rintro _ g _
      simp only [sets]
      clear hyE
      revert b
      intro b4
      (repeat' (first | (show VH _ _ _ _ _ _ _; first | refine v_seq ?_ | refine r_seq ?_ | refine v_block ?_) | (show SH _ _ _ _ _ (_ :: _) _ _ _; (show SH _ _ _ _ _ (⟨_, .assign _, _, _, _, _⟩ :: _) _ _ _; refine asg evL ?_)) | refine s_nil ?_ | refine kh_normal ?_))
      refine v_normS [(2,8),(33,174)] _ agL [(3,_),(4,_),(5,_),(6,_)] heL (fun g => ?_)
      refine v_loop0 [(2,2),(5,6),(87,118)] (fun j : Nat => [(6, .int .i64 j), (5, .bool (decide (xl ∈ xm.take j)))]) (fun j => j ≤ xm.length ∧ ∀ k, k < j → memR ps (xm.getD k 0) = true) (fun j => xm.length - j) 0 hsL ⟨Nat.zero_le _, fun j h => absurd h (Nat.not_lt_zero j)⟩ ?_
      rintro j g2 ⟨hj, hmk⟩
      simp only [sets]
      by_cases hjl : j < xm.length
      · have hFm := fun (h : ¬ memR ps (xm.getD j 0) = true) => hFi2 fun hh => h (hh.1 j hjl)
        have hmk1 : memR ps (xm.getD j 0) = true → ∀ k, k < j + 1 → memR ps (xm.getD k 0) = true := fun h k hk => by
          by_cases e : k = j
          · rw [e]; exact h
          · exact hmk k (by omega)
        have htk : (xl ∈ xm.take (j + 1)) ↔ (xl ∈ xm.take j ∨ xl = xm.getD j 0) := by rw [takeI hjl, List.mem_append, List.mem_singleton]
        clear hFi2 hok2 hmk
        obtain ⟨u, hu⟩ : ∃ u, xm.getD j 0 = u := ⟨_, rfl⟩
        rw [hu] at hFm hmk1 htk
        have hidu := fun w => hid u w
        have hitu := fun w h => hit u w h
        clear hid hit
        by_cases hmu : memR ps u = true
        · have hnx := hmk1 hmu
          obtain ⟨m1_, m2_⟩ := memR_iff.1 hmu
          simp only [m1_] at hidu
          simp only [m2_] at hitu
          clear hFm hmk1 hmu
          by_cases hux : xl = u
          · have hd : decide (xl ∈ xm.take (j + 1)) = true := decide_eq_true (htk.2 (.inr hux))
            clear htk
            (repeat' (first | (show VH _ _ _ _ _ _ _; first | refine v_seq ?_ | refine r_seq ?_ | refine r_quiet hmix (by kernel_rfl) ?_ | refine v_block ?_ | refine v_skip ?_ | refine v_cond_t rfl tbL ?_ | refine v_cond_f rfl tbL ?_) | (show SH _ _ _ _ _ (_ :: _) _ _ _; first | (show SH _ _ _ _ _ (⟨_, _, _, _, _, some _⟩ :: _) _ _ _; (refine gif rfl rfl ?_; refine giFF tbL ?_)) | (show SH _ _ _ _ _ (⟨_, .move _, _, _, _, _⟩ :: _) _ _ _; refine mov evL ?_) | (show SH _ _ _ _ _ (⟨_, .assign _, _, _, _, _⟩ :: _) _ _ _; refine asg evL ?_) | (show SH _ _ _ _ _ (⟨_, .binOp .lss _ _ _ _, _, _, _, _⟩ :: _) _ _ _; refine lssT rfl rfl omD ?_) | (show SH _ _ _ _ _ (⟨_, .binOp .eql _ _ _ _, _, _, _, _⟩ :: _) _ _ _; refine eqlT rfl rfl omD ?_) | (show SH _ _ _ _ _ (⟨_, .binOp .neq _ _ _ _, _, _, _, _⟩ :: _) _ _ _; refine neqF rfl rfl omD ?_) | (show SH _ _ _ _ _ (⟨_, .binOp .add _ _ _ _, _, _, _, _⟩ :: _) _ _ _; refine add rfl rfl inL ?_) | (show SH _ _ _ _ _ (⟨_, .load _ _, _, _, _, _⟩ :: _) _ _ _; first | refine lbx rfl spL (by rfl) ?_ | refine lba rfl spL (by rfl) ?_ | refine lgi rfl (fun _ _ => rdP) omL (by assumption) ?_) | (show SH _ _ _ _ _ (⟨_, .indexAddr _ _ _, _, _, _, _⟩ :: _) _ _ _; refine ix rfl rfl (by with_reducible rfl) (fun _ _ => rdP) (by rfl) omL omL ?_) | refine slen rfl ?_ | (show SH _ _ _ _ _ (⟨_, .call ⟨.value (.func 28), _, _⟩, _, _, _, _⟩ :: _) _ _ _; refine cl (callee := .func 28) rfl (fun w hw => hidu w) rfl rfl ?_) | (show SH _ _ _ _ _ (⟨_, .call ⟨.value (.func 29), _, _⟩, _, _, _, _⟩ :: _) _ _ _; refine cl (callee := .func 29) rfl (fun w hw => hitu w (hr.ext hw.ext)) rfl rfl ?_) | refine bnoT rfl ?_ | (show SH _ _ _ _ _ (⟨_, .pick _ _ _, _, _, _, _⟩ :: _) _ _ _; refine pkf rfl tbL evL ?_) | refine fad rfl ?_) | refine s_nil ?_ | refine kh_normal ?_ | refine bh_normal ?_))
            exact ⟨agL, j + 1, by rw [hd]; (repeat (first | exact trivial | refine And.intro rfl ?_)), enL, ⟨hjl, hnx⟩, by omega⟩
          · have hd : decide (xl ∈ xm.take (j + 1)) = decide (xl ∈ xm.take j) := decide_eq_decide.2 ⟨fun h => (htk.1 h).resolve_right hux, fun h => htk.2 (.inl h)⟩
            clear htk
            generalize decide (xl ∈ xm.take j) = dj at hd ⊢
            (repeat' (first | (show VH _ _ _ _ _ _ _; first | refine v_seq ?_ | refine r_seq ?_ | refine r_quiet hmix (by kernel_rfl) ?_ | refine v_block ?_ | refine v_skip ?_ | refine v_cond_t rfl tbL ?_ | refine v_cond_f rfl tbL ?_) | (show SH _ _ _ _ _ (_ :: _) _ _ _; first | (show SH _ _ _ _ _ (⟨_, _, _, _, _, some _⟩ :: _) _ _ _; (refine gif rfl rfl ?_; refine giFF tbL ?_)) | (show SH _ _ _ _ _ (⟨_, .move _, _, _, _, _⟩ :: _) _ _ _; refine mov evL ?_) | (show SH _ _ _ _ _ (⟨_, .assign _, _, _, _, _⟩ :: _) _ _ _; refine asg evL ?_) | (show SH _ _ _ _ _ (⟨_, .binOp .lss _ _ _ _, _, _, _, _⟩ :: _) _ _ _; refine lssT rfl rfl omD ?_) | (show SH _ _ _ _ _ (⟨_, .binOp .eql _ _ _ _, _, _, _, _⟩ :: _) _ _ _; refine eqlF rfl rfl omD ?_) | (show SH _ _ _ _ _ (⟨_, .binOp .neq _ _ _ _, _, _, _, _⟩ :: _) _ _ _; refine neqF rfl rfl omD ?_) | (show SH _ _ _ _ _ (⟨_, .binOp .add _ _ _ _, _, _, _, _⟩ :: _) _ _ _; refine add rfl rfl inL ?_) | (show SH _ _ _ _ _ (⟨_, .load _ _, _, _, _, _⟩ :: _) _ _ _; first | refine lbx rfl spL (by rfl) ?_ | refine lba rfl spL (by rfl) ?_ | refine lgi rfl (fun _ _ => rdP) omL (by assumption) ?_) | (show SH _ _ _ _ _ (⟨_, .indexAddr _ _ _, _, _, _, _⟩ :: _) _ _ _; refine ix rfl rfl (by with_reducible rfl) (fun _ _ => rdP) (by rfl) omL omL ?_) | refine slen rfl ?_ | (show SH _ _ _ _ _ (⟨_, .call ⟨.value (.func 28), _, _⟩, _, _, _, _⟩ :: _) _ _ _; refine cl (callee := .func 28) rfl (fun w hw => hidu w) rfl rfl ?_) | (show SH _ _ _ _ _ (⟨_, .call ⟨.value (.func 29), _, _⟩, _, _, _, _⟩ :: _) _ _ _; refine cl (callee := .func 29) rfl (fun w hw => hitu w (hr.ext hw.ext)) rfl rfl ?_) | refine bnoT rfl ?_ | (show SH _ _ _ _ _ (⟨_, .pick _ _ _, _, _, _, _⟩ :: _) _ _ _; refine pkf rfl tbL evL ?_) | refine fad rfl ?_) | refine s_nil ?_ | refine kh_normal ?_ | refine bh_normal ?_))
            exact ⟨agL, j + 1, by rw [hd]; (repeat (first | exact trivial | refine And.intro rfl ?_)), enL, ⟨hjl, hnx⟩, by omega⟩
        · have hzf := hFm hmu
          have hcc : Hid _ := fun h => hmu (memR_iff.2 h)
          clear hFm hmk1 hmu htk
          generalize decide (xl ∈ xm.take j) = dj
          obtain ⟨n, hn⟩ : ∃ n, timesR ps u = n := ⟨_, rfl⟩
          simp only [hn] at hitu
          obtain ⟨iu, hiu⟩ : ∃ iu, isIdB u = iu := ⟨_, rfl⟩
          simp only [hiu] at hidu
          rw [hn, hiu] at hcc
          cases iu with
          | false =>
            (repeat' (first | (show VH _ _ _ _ _ _ _; first | refine v_seq ?_ | refine r_seq ?_ | refine r_quiet hmix (by kernel_rfl) ?_ | refine v_block ?_ | refine v_ret ?_ | refine v_skip ?_ | refine v_cond_t rfl tbL ?_) | (show SH _ _ _ _ _ (_ :: _) _ _ _; first | (show SH _ _ _ _ _ (⟨_, _, _, _, _, some _⟩ :: _) _ _ _; (refine gif rfl rfl ?_; refine giFT tbL ?_)) | (show SH _ _ _ _ _ (⟨_, .move _, _, _, _, _⟩ :: _) _ _ _; refine mov evL ?_) | (show SH _ _ _ _ _ (⟨_, .assign _, _, _, _, _⟩ :: _) _ _ _; refine asg evL ?_) | (show SH _ _ _ _ _ (⟨_, .binOp .lss _ _ _ _, _, _, _, _⟩ :: _) _ _ _; refine lssT rfl rfl omD ?_) | (show SH _ _ _ _ _ (⟨_, .load _ _, _, _, _, _⟩ :: _) _ _ _; first | refine lbx rfl spL (by rfl) ?_ | refine lgi rfl (fun _ _ => rdP) omL (by assumption) ?_) | (show SH _ _ _ _ _ (⟨_, .indexAddr _ _ _, _, _, _, _⟩ :: _) _ _ _; refine ix rfl rfl (by with_reducible rfl) (fun _ _ => rdP) (by rfl) omL omL ?_) | refine slen rfl ?_ | (show SH _ _ _ _ _ (⟨_, .call ⟨.value (.func 28), _, _⟩, _, _, _, _⟩ :: _) _ _ _; refine cl (callee := .func 28) rfl (fun w hw => hidu w) rfl rfl ?_) | refine bnoF rfl ?_ | (show SH _ _ _ _ _ (⟨_, .pick _ _ _, _, _, _, _⟩ :: _) _ _ _; refine pkt rfl tbL evL ?_) | refine fad rfl ?_) | refine s_nil ?_ | refine kh_normal ?_ | refine kh_ret ?_ | refine bh_ret ?_))
            exact rh1 rfl rfl ⟨congrArg Value.bool hzf.symm, rfl⟩ (ent_nil _)
          | true =>
            have hn1 : n ≠ 1 := fun h => hcc ⟨rfl, h⟩
            clear hcc
            (repeat' (first | (show VH _ _ _ _ _ _ _; first | refine v_seq ?_ | refine r_seq ?_ | refine r_quiet hmix (by kernel_rfl) ?_ | refine v_block ?_ | refine v_ret ?_ | refine v_skip ?_ | refine v_cond_t rfl tbL ?_) | (show SH _ _ _ _ _ (_ :: _) _ _ _; first | (show SH _ _ _ _ _ (⟨_, _, _, _, _, some _⟩ :: _) _ _ _; (refine gif rfl rfl ?_; refine giFF tbL ?_)) | (show SH _ _ _ _ _ (⟨_, .move _, _, _, _, _⟩ :: _) _ _ _; refine mov evL ?_) | (show SH _ _ _ _ _ (⟨_, .assign _, _, _, _, _⟩ :: _) _ _ _; refine asg evL ?_) | (show SH _ _ _ _ _ (⟨_, .binOp .lss _ _ _ _, _, _, _, _⟩ :: _) _ _ _; refine lssT rfl rfl omD ?_) | (show SH _ _ _ _ _ (⟨_, .binOp .neq _ _ _ _, _, _, _, _⟩ :: _) _ _ _; refine neqT rfl rfl omD ?_) | (show SH _ _ _ _ _ (⟨_, .load _ _, _, _, _, _⟩ :: _) _ _ _; first | refine lbx rfl spL (by rfl) ?_ | refine lba rfl spL (by rfl) ?_ | refine lgi rfl (fun _ _ => rdP) omL (by assumption) ?_) | (show SH _ _ _ _ _ (⟨_, .indexAddr _ _ _, _, _, _, _⟩ :: _) _ _ _; refine ix rfl rfl (by with_reducible rfl) (fun _ _ => rdP) (by rfl) omL omL ?_) | refine slen rfl ?_ | (show SH _ _ _ _ _ (⟨_, .call ⟨.value (.func 28), _, _⟩, _, _, _, _⟩ :: _) _ _ _; refine cl (callee := .func 28) rfl (fun w hw => hidu w) rfl rfl ?_) | (show SH _ _ _ _ _ (⟨_, .call ⟨.value (.func 29), _, _⟩, _, _, _, _⟩ :: _) _ _ _; refine cl (callee := .func 29) rfl (fun w hw => hitu w (hr.ext hw.ext)) rfl rfl ?_) | refine bnoT rfl ?_ | (show SH _ _ _ _ _ (⟨_, .pick _ _ _, _, _, _, _⟩ :: _) _ _ _; refine pkf rfl tbL evL ?_) | refine fad rfl ?_) | refine s_nil ?_ | refine kh_normal ?_ | refine kh_ret ?_ | refine bh_ret ?_))
            exact rh1 rfl rfl ⟨congrArg Value.bool hzf.symm, rfl⟩ (ent_nil _)
      · obtain rfl : j = xm.length := by omega
        rw [List.take_length]
        have hFi3 := fun (h : ¬ ((∀ k, k < xv.length → invR t ps xv k = true) ∧ xl ∈ xm)) => hFi2 fun hh => h hh.2
        have hok3 := hok2 hmk
        clear hFi2 hok2 hmk
        have hldE : ∃ ld, decide (xl ∈ xm) = ld := ⟨_, rfl⟩
        obtain ⟨ld, hld⟩ := hldE
        rw [hld]
        have hld1 : ld = true → xl ∈ xm := fun h => of_decide_eq_true (hld.trans h)
        have hld0 : ld = false → ¬ xl ∈ xm := fun h => of_decide_eq_false (hld.trans h)
        clear hld
        (repeat' (first | (show VH _ _ _ _ _ _ _; first | refine v_seq ?_ | refine r_seq ?_ | refine v_block ?_ | refine v_exit ?_ | refine v_cond_f rfl tbL ?_) | (show SH _ _ _ _ _ (_ :: _) _ _ _; first | (show SH _ _ _ _ _ (⟨_, .move _, _, _, _, _⟩ :: _) _ _ _; refine mov evL ?_) | (show SH _ _ _ _ _ (⟨_, .assign _, _, _, _, _⟩ :: _) _ _ _; refine asg evL ?_) | (show SH _ _ _ _ _ (⟨_, .binOp .lss _ _ _ _, _, _, _, _⟩ :: _) _ _ _; refine lssF rfl rfl omD ?_) | (show SH _ _ _ _ _ (⟨_, .load _ _, _, _, _, _⟩ :: _) _ _ _; refine lbx rfl spL (by rfl) ?_) | refine slen rfl ?_ | refine fad rfl ?_) | refine s_nil ?_ | refine kh_normal ?_ | refine kh_exit ?_ | refine bh_exit ?_))
        refine v_normS [(2,8),(33,174)] _ agL [(3,_),(4,_),(5,_),(7,_)] heL (fun g => ?_)
        refine v_loop0 [(2,2),(7,8),(119,172)] (fun k : Nat => [(7, .int .i64 k)]) (fun k => k ≤ xv.length ∧ ∀ j, j < k → invR t ps xv j = true) (fun k => xv.length - k) 0 hsL ⟨Nat.zero_le _, fun j h => absurd h (Nat.not_lt_zero j)⟩ ?_
        rintro k g3 ⟨hk, hvk⟩
        simp only [sets]
        by_cases hkl : k < xv.length
        · have hFv := fun (h : ¬ invC t ps xv k) => hFi3 fun hh => h (inv1_iff.1 (hh.1 k hkl))
          have hvk1 : invC t ps xv k → ∀ j, j < k + 1 → invR t ps xv j = true := fun h j hj => by
            by_cases e : j = k
            · rw [e]; exact inv1_iff.2 h
            · exact hvk j (by omega)
          clear hFi3 hok3 hvk hld0 hld1
          unfold invC at hFv hvk1
          obtain ⟨y, hy⟩ : ∃ y, xv.getD k Flat.dflt = y := ⟨_, rfl⟩
          obtain ⟨y2, hy2⟩ : ∃ y, xv.getD (((k : Nat) : Int) - 1).toNat Flat.dflt = y := ⟨_, rfl⟩
          have hyE := inv_enc hy
          have hy2E := inv_enc hy2
          have e1 : xv.getD k ⟨0, 0⟩ = y := hy
          have e2 : 0 < k → xv.getD (k - 1) ⟨0, 0⟩ = y2 := fun h => by rw [← hy2]; show _ = xv.getD _ ⟨0, 0⟩; congr 1; omega
          rw [e1] at hFv hvk1
          clear hy hy2 e1
          obtain ⟨yw, yt⟩ := y
          obtain ⟨zw, zt⟩ := y2
          simp only at hyE hy2E hFv hvk1
          have hidu := fun w => hid yw w
          have hitu := fun w h => hit yw w h
          clear hid hit
          by_cases hq : isIdB yw = true ∧ timesR ps yw = 0 ∧ t < yt ∧ yt ≤ t + 600 ∧ (k = 0 ∨ zw < yw)
          · have hnx := hvk1 ⟨hq.1, hq.2.1, hq.2.2.1, hq.2.2.2.1, by
              by_cases h0 : k = 0
              · exact .inl h0
              · rw [e2 (by omega)]; exact hq.2.2.2.2⟩
            clear hFv hvk1 e2
            obtain ⟨q1_, q2_, q3_, q4_, q5_⟩ := hq
            simp only [q1_] at hidu
            simp only [q2_] at hitu
            clear q1_ q2_
            (repeat' (first | (show VH _ _ _ _ _ _ _; first | refine v_seq ?_ | refine r_seq ?_ | refine r_quiet hmix (by kernel_rfl) ?_ | refine v_block ?_ | refine v_skip ?_ | refine v_cond_t rfl tbL ?_ | refine v_cond_f rfl tbL ?_) | (show SH _ _ _ _ _ (_ :: _) _ _ _; first | (show SH _ _ _ _ _ (⟨_, _, _, _, _, some _⟩ :: _) _ _ _; (refine gif rfl rfl ?_; first | refine giTT tbL ?_ | refine giTF tbL ?_ | refine giFF tbL ?_ | refine giTd (fun h => ?_) (fun h => ?_))) | (show SH _ _ _ _ _ (⟨_, .move _, _, _, _, _⟩ :: _) _ _ _; refine mov evL ?_) | (show SH _ _ _ _ _ (⟨_, .assign _, _, _, _, _⟩ :: _) _ _ _; refine asg evL ?_) | (show SH _ _ _ _ _ (⟨_, .binOp .lss _ _ _ _, _, _, _, _⟩ :: _) _ _ _; refine lssT rfl rfl omD ?_) | (show SH _ _ _ _ _ (⟨_, .binOp .leq _ _ _ _, _, _, _, _⟩ :: _) _ _ _; refine leqF rfl rfl omD ?_) | (show SH _ _ _ _ _ (⟨_, .binOp .gtr _ _ _ _, _, _, _, _⟩ :: _) _ _ _; first | refine gtrF rfl rfl omD ?_ | refine gtr rfl rfl ?_) | (show SH _ _ _ _ _ (⟨_, .binOp .add _ _ _ _, _, _, _, _⟩ :: _) _ _ _; refine add rfl rfl inL ?_) | (show SH _ _ _ _ _ (⟨_, .binOp .sub _ _ _ _, _, _, _, _⟩ :: _) _ _ _; refine sub rfl rfl inL ?_) | (show SH _ _ _ _ _ (⟨_, .load _ _, _, _, _, _⟩ :: _) _ _ _; first | refine lbx rfl spL (by rfl) ?_ | refine lba rfl spL (by rfl) ?_ | refine lag rfl (fun _ _ => rdP) (by rfl) omL (by assumption) ?_ | refine lrg rfl (fun _ _ => rdP) (by rfl) omL (by assumption) (by rfl) ?_) | (show SH _ _ _ _ _ (⟨_, .indexAddr _ _ _, _, _, _, _⟩ :: _) _ _ _; first | refine ix rfl rfl (by with_reducible rfl) (fun _ _ => rdP) (by rfl) omL omL ?_ | refine ixi rfl rfl (fun _ _ => rdP) (by rfl) omL omL omL ?_ | refine ixi rfl rfl (fun _ _ => rdP) (by rfl) omL (by first | omega | (simp only [List.length_cons, List.length_nil]; omega)) (by simp only [List.length_cons, List.length_nil]; omega) ?_) | refine slen rfl ?_ | (show SH _ _ _ _ _ (⟨_, .call ⟨.value (.func 28), _, _⟩, _, _, _, _⟩ :: _) _ _ _; refine cl (callee := .func 28) rfl (fun w hw => hidu w) rfl rfl ?_) | (show SH _ _ _ _ _ (⟨_, .call ⟨.value (.func 29), _, _⟩, _, _, _, _⟩ :: _) _ _ _; refine cl (callee := .func 29) rfl (fun w hw => hitu w (hr.ext hw.ext)) rfl rfl ?_) | refine bnoT rfl ?_ | (show SH _ _ _ _ _ (⟨_, .pick _ _ _, _, _, _, _⟩ :: _) _ _ _; first | refine pkt rfl tbL evL ?_ | refine pkf rfl tbL evL ?_) | refine fad rfl ?_ | refine ala rfl (fun b => ?_) | (show SH _ _ _ _ _ (⟨_, .store _ _ _, _, _, _, _⟩ :: _) _ _ _; refine sta rfl rfl rfl spL (by rfl) (by rfl) (by rfl) kpL ?_)) | refine s_nil ?_ | refine kh_normal ?_ | refine bh_normal ?_))
            all_goals exact ⟨agL, k + 1, hsL, enL, ⟨hkl, hnx⟩, by omega⟩
          · have hzf := hFv fun h => hq ⟨h.1, h.2.1, h.2.2.1, h.2.2.2.1, by
              by_cases h0 : k = 0
              · exact .inl h0
              · have := h.2.2.2.2
                rwa [e2 (by omega)] at this⟩
            have hcc : Hid _ := hq
            clear hFv hvk1 e2 hq
            obtain ⟨n, hn⟩ : ∃ n, timesR ps yw = n := ⟨_, rfl⟩
            simp only [hn] at hitu
            obtain ⟨iu, hiu⟩ : ∃ iu, isIdB yw = iu := ⟨_, rfl⟩
            simp only [hiu] at hidu
            rw [hn, hiu] at hcc
            clear hn hiu
            cases iu with
            | false =>
              (repeat' (first | (show VH _ _ _ _ _ _ _; first | refine v_seq ?_ | refine r_seq ?_ | refine r_quiet hmix (by kernel_rfl) ?_ | refine v_block ?_ | refine v_ret ?_ | refine v_skip ?_ | refine v_cond_t rfl tbL ?_) | (show SH _ _ _ _ _ (_ :: _) _ _ _; first | (show SH _ _ _ _ _ (⟨_, _, _, _, _, some _⟩ :: _) _ _ _; first | (refine gif rfl rfl ?_; refine giFT tbL ?_) | refine gu rfl rfl ?_) | (show SH _ _ _ _ _ (⟨_, .move _, _, _, _, _⟩ :: _) _ _ _; refine mov evL ?_) | (show SH _ _ _ _ _ (⟨_, .assign _, _, _, _, _⟩ :: _) _ _ _; refine asg evL ?_) | (show SH _ _ _ _ _ (⟨_, .binOp .lss _ _ _ _, _, _, _, _⟩ :: _) _ _ _; refine lssT rfl rfl omD ?_) | (show SH _ _ _ _ _ (⟨_, .load _ _, _, _, _, _⟩ :: _) _ _ _; first | refine lbx rfl spL (by rfl) ?_ | refine lag rfl (fun _ _ => rdP) (by rfl) omL (by assumption) ?_) | (show SH _ _ _ _ _ (⟨_, .indexAddr _ _ _, _, _, _, _⟩ :: _) _ _ _; refine ix rfl rfl (by with_reducible rfl) (fun _ _ => rdP) (by rfl) omL omL ?_) | refine slen rfl ?_ | (show SH _ _ _ _ _ (⟨_, .call ⟨.value (.func 28), _, _⟩, _, _, _, _⟩ :: _) _ _ _; refine cl (callee := .func 28) rfl (fun w hw => hidu w) rfl rfl ?_) | refine bnoF rfl ?_ | (show SH _ _ _ _ _ (⟨_, .pick _ _ _, _, _, _, _⟩ :: _) _ _ _; refine pkt rfl tbL evL ?_) | refine fad rfl ?_ | refine ala rfl (fun b => ?_) | (show SH _ _ _ _ _ (⟨_, .store _ _ _, _, _, _, _⟩ :: _) _ _ _; refine sta rfl rfl rfl spL (by rfl) (by rfl) (by rfl) kpL ?_)) | refine s_nil ?_ | refine kh_normal ?_ | refine kh_ret ?_ | refine bh_ret ?_))
              exact rh1 rfl rfl ⟨congrArg Value.bool hzf.symm, rfl⟩ (ent_nil _)
            | true =>
              (repeat' (first | (show VH _ _ _ _ _ _ _; first | refine v_seq ?_ | refine r_seq ?_ | refine r_quiet hmix (by kernel_rfl) ?_ | refine v_block ?_ | refine v_ret ?_ | refine v_skip ?_ | refine v_cond_t rfl tbL ?_ | refine v_cond_f rfl tbL ?_ | refine v_cond_dec rfl (fun h => ?_) (fun h => ?_)) | (show SH _ _ _ _ _ (_ :: _) _ _ _; first | (show SH _ _ _ _ _ (⟨_, _, _, _, _, some _⟩ :: _) _ _ _; first | (refine gif rfl rfl ?_; first | refine giTT tbL ?_ | refine giTF tbL ?_ | refine giFF tbL ?_ | refine giFT tbL ?_ | refine giTd (fun h => ?_) (fun h => ?_) | refine giFd (fun h => ?_) (fun h => ?_)) | refine gu rfl rfl ?_) | (show SH _ _ _ _ _ (⟨_, .move _, _, _, _, _⟩ :: _) _ _ _; refine mov evL ?_) | (show SH _ _ _ _ _ (⟨_, .assign _, _, _, _, _⟩ :: _) _ _ _; refine asg evL ?_) | (show SH _ _ _ _ _ (⟨_, .binOp .lss _ _ _ _, _, _, _, _⟩ :: _) _ _ _; refine lssT rfl rfl omD ?_) | refine leq rfl rfl ?_ | refine gtr rfl rfl ?_ | (show SH _ _ _ _ _ (⟨_, .binOp .add _ _ _ _, _, _, _, _⟩ :: _) _ _ _; refine add rfl rfl inL ?_) | (show SH _ _ _ _ _ (⟨_, .binOp .sub _ _ _ _, _, _, _, _⟩ :: _) _ _ _; refine sub rfl rfl inL ?_) | (show SH _ _ _ _ _ (⟨_, .load _ _, _, _, _, _⟩ :: _) _ _ _; first | refine lbx rfl spL (by rfl) ?_ | refine lba rfl spL (by rfl) ?_ | refine lag rfl (fun _ _ => rdP) (by rfl) omL (by assumption) ?_ | refine lrg rfl (fun _ _ => rdP) (by rfl) omL (by assumption) (by rfl) ?_) | (show SH _ _ _ _ _ (⟨_, .indexAddr _ _ _, _, _, _, _⟩ :: _) _ _ _; first | refine ix rfl rfl (by with_reducible rfl) (fun _ _ => rdP) (by rfl) omL omL ?_ | refine ixi rfl rfl (fun _ _ => rdP) (by rfl) omL omL omL ?_ | refine ixi rfl rfl (fun _ _ => rdP) (by rfl) omL (by first | omega | (simp only [List.length_cons, List.length_nil]; omega)) (by simp only [List.length_cons, List.length_nil]; omega) ?_) | refine slen rfl ?_ | (show SH _ _ _ _ _ (⟨_, .call ⟨.value (.func 28), _, _⟩, _, _, _, _⟩ :: _) _ _ _; refine cl (callee := .func 28) rfl (fun w hw => hidu w) rfl rfl ?_) | (show SH _ _ _ _ _ (⟨_, .call ⟨.value (.func 29), _, _⟩, _, _, _, _⟩ :: _) _ _ _; refine cl (callee := .func 29) rfl (fun w hw => hitu w (hr.ext hw.ext)) rfl rfl ?_) | refine bnoT rfl ?_ | (show SH _ _ _ _ _ (⟨_, .pick _ _ _, _, _, _, _⟩ :: _) _ _ _; first | refine pkt rfl tbL evL ?_ | refine pkf rfl tbL evL ?_) | refine fad rfl ?_ | refine ala rfl (fun b => ?_) | (show SH _ _ _ _ _ (⟨_, .store _ _ _, _, _, _, _⟩ :: _) _ _ _; refine sta rfl rfl rfl spL (by rfl) (by rfl) (by rfl) kpL ?_)) | refine s_nil ?_ | refine kh_normal ?_ | refine kh_ret ?_ | refine bh_normal ?_ | refine bh_ret ?_))
              all_goals first
                | exact rh1 rfl rfl ⟨congrArg Value.bool hzf.symm, rfl⟩ (ent_nil _)
                | exact absurd ⟨rfl, by omega, by omega, by omega, by omega⟩ hcc
        · obtain rfl : k = xv.length := by omega
          cases ld with
          | false =>
            have hzf := hFi3 fun hh => hld0 rfl hh.2
            clear hFi3 hok3 hvk hld0 hld1 hid hit
            (repeat' (first | (show VH _ _ _ _ _ _ _; first | refine v_seq ?_ | refine r_seq ?_ | refine v_ret ?_ | refine v_exit ?_ | refine v_cond_t rfl tbL ?_ | refine v_cond_f rfl tbL ?_) | (show SH _ _ _ _ _ (_ :: _) _ _ _; first | (show SH _ _ _ _ _ (⟨_, .move _, _, _, _, _⟩ :: _) _ _ _; refine mov evL ?_) | (show SH _ _ _ _ _ (⟨_, .assign _, _, _, _, _⟩ :: _) _ _ _; refine asg evL ?_) | (show SH _ _ _ _ _ (⟨_, .binOp .lss _ _ _ _, _, _, _, _⟩ :: _) _ _ _; refine lssF rfl rfl omD ?_) | (show SH _ _ _ _ _ (⟨_, .load _ _, _, _, _, _⟩ :: _) _ _ _; refine lbx rfl spL (by rfl) ?_) | refine slen rfl ?_ | refine bnoF rfl ?_ | refine fad rfl ?_) | refine s_nil ?_ | refine kh_normal ?_ | refine kh_ret ?_ | refine kh_exit ?_ | refine bh_ret ?_ | refine bh_exit ?_))
            exact rh1 rfl rfl ⟨congrArg Value.bool hzf.symm, rfl⟩ (ent_nil _)
          | true =>
            have hnx := hok3 hvk (hld1 rfl)
            clear hFi3 hok3 hvk hld0 hld1 hid hit
            (repeat' (first | (show VH _ _ _ _ _ _ _; first | refine v_seq ?_ | refine r_seq ?_ | refine v_skip ?_ | refine v_exit ?_ | refine v_cond_f rfl tbL ?_) | (show SH _ _ _ _ _ (_ :: _) _ _ _; first | (show SH _ _ _ _ _ (⟨_, .move _, _, _, _, _⟩ :: _) _ _ _; refine mov evL ?_) | (show SH _ _ _ _ _ (⟨_, .assign _, _, _, _, _⟩ :: _) _ _ _; refine asg evL ?_) | (show SH _ _ _ _ _ (⟨_, .binOp .lss _ _ _ _, _, _, _, _⟩ :: _) _ _ _; refine lssF rfl rfl omD ?_) | (show SH _ _ _ _ _ (⟨_, .binOp .add _ _ _ _, _, _, _, _⟩ :: _) _ _ _; refine add rfl rfl inL ?_) | (show SH _ _ _ _ _ (⟨_, .load _ _, _, _, _, _⟩ :: _) _ _ _; refine lbx rfl spL (by rfl) ?_) | refine slen rfl ?_ | refine bnoT rfl ?_ | refine fad rfl ?_) | refine s_nil ?_ | refine kh_normal ?_ | refine kh_exit ?_ | refine bh_normal ?_ | refine bh_exit ?_))
            refine ⟨agL, i + 1, hsL, enL, ⟨hil, fun j hj => ?_⟩, by omega⟩
            exact hnx j hj
    · have hB' : z = false := hFi fun hh => hB ⟨hh.1.1, hh.1.2.1, by
        rcases hh.1.2.2.1 with h | h
        · exact .inl h
        · by_cases h0 : i = 0
          · exact .inl h0
          · exact .inr (by rw [hyp (by omega)] at h; exact h), hh.1.2.2.2.1, hh.1.2.2.2.2⟩
      have hcc : Hid _ := hB
      clear hB hFi hok1 hyp
      (repeat' (first | (show VH _ _ _ _ _ _ _; first | refine v_seq ?_ | refine r_seq ?_ | refine r_quiet hmix (by kernel_rfl) ?_ | refine v_block ?_ | refine v_ret ?_ | refine v_skip ?_ | refine v_cond_t rfl tbL ?_ | refine v_cond_dec rfl (fun h => ?_) (fun h => ?_)) | (show SH _ _ _ _ _ (_ :: _) _ _ _; first | (show SH _ _ _ _ _ (⟨_, _, _, _, _, some _⟩ :: _) _ _ _; first | (refine gif rfl rfl ?_; first | refine giTT tbL ?_ | refine giTF tbL ?_ | refine giFF tbL ?_ | refine giFT tbL ?_ | refine giTd (fun h => ?_) (fun h => ?_) | refine giFd (fun h => ?_) (fun h => ?_)) | refine gu rfl rfl ?_) | (show SH _ _ _ _ _ (⟨_, .move _, _, _, _, _⟩ :: _) _ _ _; refine mov evL ?_) | (show SH _ _ _ _ _ (⟨_, .assign _, _, _, _, _⟩ :: _) _ _ _; refine asg evL ?_) | (show SH _ _ _ _ _ (⟨_, .binOp .lss _ _ _ _, _, _, _, _⟩ :: _) _ _ _; first | refine lssT rfl rfl omD ?_ | refine lss rfl rfl ?_) | refine leq rfl rfl ?_ | refine gtr rfl rfl ?_ | refine eql rfl rfl ?_ | (show SH _ _ _ _ _ (⟨_, .binOp .add _ _ _ _, _, _, _, _⟩ :: _) _ _ _; refine add rfl rfl inL ?_) | (show SH _ _ _ _ _ (⟨_, .binOp .sub _ _ _ _, _, _, _, _⟩ :: _) _ _ _; refine sub rfl rfl inL ?_) | (show SH _ _ _ _ _ (⟨_, .load _ _, _, _, _, _⟩ :: _) _ _ _; first | refine lbx rfl spL (by rfl) ?_ | refine lag rfl (fun _ _ => rdP) (by rfl) omL (by assumption) ?_ | refine lrg rfl (fun _ _ => rdP) (by rfl) omL (by assumption) (by rfl) ?_) | (show SH _ _ _ _ _ (⟨_, .indexAddr _ _ _, _, _, _, _⟩ :: _) _ _ _; first | refine ix rfl rfl (by with_reducible rfl) (fun _ _ => rdP) (by rfl) omL omL ?_ | refine ixi rfl rfl (fun _ _ => rdP) (by rfl) omL omL omL ?_ | refine ixi rfl rfl (fun _ _ => rdP) (by rfl) omL (by first | omega | (simp only [List.length_cons, List.length_nil]; omega)) (by simp only [List.length_cons, List.length_nil]; omega) ?_) | refine slen rfl ?_ | (show SH _ _ _ _ _ (⟨_, .pick _ _ _, _, _, _, _⟩ :: _) _ _ _; first | refine pkt rfl tbL evL ?_ | refine pkf rfl tbL evL ?_) | refine fad rfl ?_ | refine ala rfl (fun b => ?_) | (show SH _ _ _ _ _ (⟨_, .store _ _ _, _, _, _, _⟩ :: _) _ _ _; refine sta rfl rfl rfl spL (by rfl) (by rfl) (by rfl) kpL ?_)) | refine s_nil ?_ | refine kh_normal ?_ | refine kh_ret ?_ | refine bh_ret ?_))
      all_goals first
        | exact rh1 rfl rfl ⟨congrArg Value.bool hB'.symm, rfl⟩ (ent_nil _)
        | exact absurd ⟨by omega, by omega, by omega, by omega, by omega⟩ hcc
  · obtain rfl : i = L.length := by omega
    have := hT hok
    subst this
    clear hF hT hok
    (repeat' (first | (show VH _ _ _ _ _ _ _; first | refine v_seq ?_ | refine r_seq ?_ | refine v_ret ?_ | refine v_exit ?_ | refine v_cond_f rfl tbL ?_) | (show SH _ _ _ _ _ (_ :: _) _ _ _; first | (show SH _ _ _ _ _ (⟨_, .move _, _, _, _, _⟩ :: _) _ _ _; refine mov evL ?_) | (show SH _ _ _ _ _ (⟨_, .assign _, _, _, _, _⟩ :: _) _ _ _; refine asg evL ?_) | (show SH _ _ _ _ _ (⟨_, .binOp .lss _ _ _ _, _, _, _, _⟩ :: _) _ _ _; refine lssF rfl rfl omD ?_) | (show SH _ _ _ _ _ (⟨_, .load _ _, _, _, _, _⟩ :: _) _ _ _; refine lbx rfl spL (by rfl) ?_) | refine slen rfl ?_ | refine fad rfl ?_) | refine s_nil ?_ | refine kh_normal ?_ | refine kh_exit ?_ | refine bh_exit ?_))
    exact rh1 rfl rfl ⟨rfl, rfl⟩ (ent_nil _)
end Go.Proofs.YtlfbcoohfnoacaaGreat

/- The reference of layer 36: with, drop, asked. -/
namespace Go.Proofs.YtlfbcoohfnoacaaGreat
open Go.Fw Go.RowKit
set_option maxHeartbeats 1000000 in
set_option maxRecDepth 100000 in
theorem refWith_spec (t la : Int) (A : Option Addr) (L : List PtyP) (c : Nat) (k : Nat) (x : PtyP) (w : World) (hk : k < L.length) (hll : L.length ≤ 1000) (hr : Rd w A L) :
    Ret Tryz.prog 101 [hv36 t la A L c, .int .i64 (k : Nat), .agg (Flat.enc x).toArray].toArray w (RP w fun v H' => ∃ A' c', v = hv36 t la A' (L.set k x) c' ∧ H' = [orow 43 A' c' (L.set k x)]) := by
  obtain ⟨⟨xi, xl, xm, xv⟩, xA, xca, xB, xcb⟩ := x
  rw [show Flat.enc (⟨⟨xi, xl, xm, xv⟩, xA, xca, xB, xcb⟩ : PtyP) = [.int .i64 xi, .int .i64 xl, .slice xA xm.length xca, .slice xB xv.length xcb] from rfl]
  refine enterH Tryz.func101 rfl rfl Tryz.ntmps101 rfl (Wd.refl _) ?_
  (repeat' (first | (show VH _ _ _ _ _ _ _; first | refine v_seq ?_ | refine r_seq ?_) | (show SH _ _ _ _ _ (_ :: _) _ _ _; first | refine ala rfl (fun b => ?_) | (show SH _ _ _ _ _ (⟨_, .box _ _, _, _, _, _⟩ :: _) _ _ _; refine bxx rfl evL rfl (fun b => ?_))) | refine s_nil ?_ | refine kh_normal ?_))
  rename_i b1 b2
  refine bsl (l := ([] : List PtyP)) rfl rfl Vals.nil rfl rfl (by decide) (fun b7 => ?_)
  (repeat' ((show SH _ _ _ _ _ (_ :: _) _ _ _; first | (show SH _ _ _ _ _ (⟨_, .load _ _, _, _, _, _⟩ :: _) _ _ _; refine lbx rfl spL (by rfl) ?_) | refine fad rfl ?_)))
  refine app (l := ([] : List PtyP)) (l2 := L) rfl rfl rfl spL (fun w hw => hr.ext hw.ext) rfl rfl rfl (by simp only [List.length_nil]; omega) (by simp only [List.length_nil]; omega) (fun A2 c2 => ⟨enL, ?_⟩)
  rw [List.nil_append]
  (repeat' (first | (show VH _ _ _ _ _ _ _; first | refine v_seq ?_ | refine r_seq ?_) | (show SH _ _ _ _ _ (_ :: _) _ _ _; first | (show SH _ _ _ _ _ (⟨_, .move _, _, _, _, _⟩ :: _) _ _ _; refine mov evL ?_) | (show SH _ _ _ _ _ (⟨_, .load _ _, _, _, _, _⟩ :: _) _ _ _; first | refine lbx rfl spL (by rfl) ?_ | refine lba rfl spL (by rfl) ?_) | (show SH _ _ _ _ _ (⟨_, .indexAddr _ _ _, _, _, _, _⟩ :: _) _ _ _; refine ix rfl rfl (by with_reducible rfl) (fun _ _ => rdP) (by rfl) omL omL ?_) | refine fad rfl ?_ | (show SH _ _ _ _ _ (⟨_, .store _ _ _, _, _, _, _⟩ :: _) _ _ _; refine stb rfl rfl evL spL rfl rfl (by first | decide | exact Nat.zero_lt_succ _ | exact of_decide_eq_true rfl) kpL ?_)) | refine s_nil ?_ | refine kh_normal ?_))
  refine stv (⟨⟨xi, xl, xm, xv⟩, xA, xca, xB, xcb⟩ : PtyP) rfl rfl rfl spL rfl hk rfl trivial ?_
  (repeat' (first | (show VH _ _ _ _ _ _ _; first | refine v_seq ?_ | refine r_seq ?_ | refine v_ret ?_) | (show SH _ _ _ _ _ (_ :: _) _ _ _; first | (show SH _ _ _ _ _ (⟨_, .load _ _, _, _, _, _⟩ :: _) _ _ _; refine lba rfl spL (by rfl) ?_) | (show SH _ _ _ _ _ (⟨_, .store _ _ _, _, _, _, _⟩ :: _) _ _ _; refine sta rfl rfl rfl spL (by rfl) (by rfl) (by rfl) kpL ?_)) | refine s_nil ?_ | refine kh_normal ?_))
  exact rhC rfl rfl rfl (fun w hw => loadVar_bx hw spL (by rfl)) ⟨A2, c2, by unfold hv36; rw [List.length_set]; rfl, rfl⟩ enL
set_option maxHeartbeats 1000000 in
set_option maxRecDepth 100000 in
theorem refDrop_spec (t la : Int) (A : Option Addr) (L : List PtyP) (c : Nat) (k : Nat) (w : World) (hk : k < L.length) (hll : L.length ≤ 1000) (hc : L.length ≤ c) (hr : Rd w A L) :
    Ret Tryz.prog 104 [hv36 t la A L c, .int .i64 (k : Nat)].toArray w (RP w fun v H' => ∃ A' c', v = hv36 t la A' (L.eraseIdx k) c' ∧ H' = [orow 43 A' c' (L.eraseIdx k)]) := by
  rw [List.eraseIdx_eq_take_drop_succ]
  have hr1 : Rd w A (L.take k) := rd_pre hr (List.take_prefix _ _)
  have hr2 := fun w (hr : Rd w A L) => hr.from (k + 1) hc
  have hl1 : (L.take k).length = k := by rw [List.length_take]; omega
  have hl2 : (L.drop (k + 1)).length = L.length - (k + 1) := List.length_drop
  generalize L.take k = L1 at hr1 hl1 ⊢
  generalize L.drop (k + 1) = L2 at hr2 hl2 ⊢
  refine enterH Tryz.func104 rfl rfl Tryz.ntmps104 rfl (Wd.refl _) ?_
  (repeat' (first | (show VH _ _ _ _ _ _ _; first | refine v_seq ?_ | refine r_seq ?_) | (show SH _ _ _ _ _ (_ :: _) _ _ _; first | refine ala rfl (fun b => ?_) | (show SH _ _ _ _ _ (⟨_, .box _ _, _, _, _, _⟩ :: _) _ _ _; refine bxx rfl evL rfl (fun b => ?_))) | refine s_nil ?_ | refine kh_normal ?_))
  rename_i b2
  refine r_heldT [] (tr [(1, true), (3, true), (6, true), (8, true), (9, true)] (.fork3 0 (tr [] (.fork 2 (tr [(4, true)] (.fork 5 (tr [(7, false), (10, false), (11, false), (12, false), (13, false)] .nil) 7 (tr [(10, true), (5, false), (11, false), (12, false), (13, false)] .nil))) 7 (tr [(10, true), (2, false), (4, false), (5, false), (11, false), (12, false), (13, false)] .nil))) 2 (tr [(4, true)] (.fork 0 (tr [] (.fork 5 (tr [(7, false), (10, false), (11, false), (12, false), (13, false)] .nil) 7 (tr [(10, true), (5, false), (11, false), (12, false), (13, false)] .nil))) 7 (tr [(10, true), (0, false), (5, false), (11, false), (12, false), (13, false)] .nil))) 7 (tr [(10, true)] (.fork 0 (tr [(2, false), (4, false), (5, false), (11, false), (12, false), (13, false)] .nil) 2 (tr [(4, true), (0, false), (5, false), (11, false), (12, false), (13, false)] .nil))))) hmix (by kernel_rfl) enL ?_
  (repeat' (first | (show SH _ _ _ _ _ (_ :: _) _ _ _; first | (show SH _ _ _ _ _ (⟨_, .move _, _, _, _, _⟩ :: _) _ _ _; refine mov evL ?_) | (show SH _ _ _ _ _ (⟨_, .binOp .add _ _ _ _, _, _, _, _⟩ :: _) _ _ _; refine add rfl rfl inL ?_) | (show SH _ _ _ _ _ (⟨_, .load _ _, _, _, _, _⟩ :: _) _ _ _; refine lbx rfl spL (by rfl) ?_) | refine fad rfl ?_ | (show SH _ _ _ _ _ (⟨_, .slice _ _ _ _ _, _, _, _, _⟩ :: _) _ _ _; first | refine slh rfl rfl omL omL ?_ | refine sll rfl rfl omL omL ?_)) | refine s_fork ?_ ?_ | refine s_fork3 ?_ ?_ ?_))
  repeat' (first
    | (refine s_fork3 ?_ ?_ ?_ <;> (repeat' (first | (show VH _ _ _ _ _ _ _; first | refine v_seq ?_ | refine r_seq ?_ | refine r_quiet hmix (by kernel_rfl) ?_ | refine v_block ?_ | refine v_ret ?_ | refine v_skip ?_ | refine v_exit ?_ | refine v_label ?_ | refine v_cond_t rfl tbL ?_ | refine v_cond_f rfl tbL ?_ | refine v_cond_dec rfl (fun h => ?_) (fun h => ?_) | refine v_cond_ndec rfl (fun h => ?_) (fun h => ?_) | refine v_cond rfl (fun h => ?_) (fun h => ?_)) | (show SH _ _ _ _ _ (_ :: _) _ _ _; first | (show SH _ _ _ _ _ (⟨_, .move _, _, _, _, _⟩ :: _) _ _ _; refine mov evL ?_) | (show SH _ _ _ _ _ (⟨_, .binOp .add _ _ _ _, _, _, _, _⟩ :: _) _ _ _; refine add rfl rfl inL ?_) | (show SH _ _ _ _ _ (⟨_, .load _ _, _, _, _, _⟩ :: _) _ _ _; first | refine lbx rfl spL (by rfl) ?_ | refine lba rfl spL (by rfl) ?_ | refine lbs rfl spL (by rfl) (by rfl) ?_ | refine lgi rfl (fun _ _ => rdP) omL (by assumption) ?_ | refine lag rfl (fun _ _ => rdP) (by rfl) omL (by assumption) ?_ | refine lrg rfl (fun _ _ => rdP) (by rfl) omL (by assumption) (by rfl) ?_ | refine lin rfl (fun _ _ => rdP) omL ?_ | refine lbi rfl spL omL ?_ | refine lr1 rfl (fun _ _ => rdP) (by rfl) omL (by rfl) ?_ | refine lra rfl (fun _ _ => rdP) (by rfl) omL ?_ | refine lrf rfl (fun _ _ => rdP) (by rfl) omL (by rfl) ?_ | refine lcell rfl (fun w hw => hw.ext.cell (by assumption)) ?_ | refine lrs rfl (fun _ _ => rdP) (by rfl) omL (by rfl) (by rfl) ?_ | refine lca rfl (fun _ _ => rdP) (by rfl) ?_ | refine lcs rfl (fun _ _ => rdP) (by rfl) ?_ | refine lcf rfl (fun _ _ => rdP) (by rfl) ?_ | refine lrf rfl (fun _ _ => rdP) (by rfl) (by simp only [List.length_cons, List.length_nil]; omega) (by rfl) ?_ | refine lra rfl (fun _ _ => rdP) (by rfl) (by simp only [List.length_cons, List.length_nil]; omega) ?_) | refine fad rfl ?_ | (show SH _ _ _ _ _ (⟨_, .slice _ _ _ _ _, _, _, _, _⟩ :: _) _ _ _; first | refine sla rfl rfl omL omL ?_ | refine slh rfl rfl omL omL ?_ | refine sll rfl rfl omL omL ?_) | (show SH _ _ _ _ _ (⟨_, .alloc _, _, _, _, _⟩ :: _) _ _ _; first | refine al1 rfl (fun b => ?_) | refine ala rfl (fun b => ?_)) | (show SH _ _ _ _ _ (⟨_, .box _ _, _, _, _, _⟩ :: _) _ _ _; refine bxx rfl evL rfl (fun b => ?_)) | (show SH _ _ _ _ _ (⟨_, .store _ _ _, _, _, _, _⟩ :: _) _ _ _; first | refine stb rfl rfl evL spL rfl rfl (by first | decide | exact Nat.zero_lt_succ _ | exact of_decide_eq_true rfl) kpL ?_ | refine sta rfl rfl rfl spL (by rfl) (by rfl) (by rfl) kpL ?_ | refine sti rfl rfl rfl spL omL kpL ?_ | refine sbi rfl rfl rfl spL omL kpL ?_ | refine sbs rfl rfl evL spL (by rfl) (by rfl) (of_decide_eq_true rfl) kpL ?_) | (show SH _ _ _ _ _ (⟨_, .buildSlice _ _ _, _, _, _, _⟩ :: _) _ _ _; refine bsl (α := Int) rfl rfl (by repeat (first | exact Vals.nil | (apply Vals.cons; rfl))) rfl (by rfl) (by decide) (fun b => ?_))) | refine s_nil ?_ | refine s_fork ?_ ?_ | refine s_fork3 ?_ ?_ ?_ | refine s_fork4 ?_ ?_ ?_ ?_ | refine kh_normal ?_ | refine kh_ret ?_ | refine kh_exit ?_ | refine bh_normal ?_ | refine bh_ret ?_ | refine bh_exit ?_ | refine bh_exit_ne rfl ?_)))
    | (refine s_fork ?_ ?_ <;> (repeat' (first | (show VH _ _ _ _ _ _ _; first | refine v_seq ?_ | refine r_seq ?_ | refine r_quiet hmix (by kernel_rfl) ?_ | refine v_block ?_ | refine v_ret ?_ | refine v_skip ?_ | refine v_exit ?_ | refine v_label ?_ | refine v_cond_t rfl tbL ?_ | refine v_cond_f rfl tbL ?_ | refine v_cond_dec rfl (fun h => ?_) (fun h => ?_) | refine v_cond_ndec rfl (fun h => ?_) (fun h => ?_) | refine v_cond rfl (fun h => ?_) (fun h => ?_)) | (show SH _ _ _ _ _ (_ :: _) _ _ _; first | (show SH _ _ _ _ _ (⟨_, .move _, _, _, _, _⟩ :: _) _ _ _; refine mov evL ?_) | (show SH _ _ _ _ _ (⟨_, .binOp .add _ _ _ _, _, _, _, _⟩ :: _) _ _ _; refine add rfl rfl inL ?_) | (show SH _ _ _ _ _ (⟨_, .load _ _, _, _, _, _⟩ :: _) _ _ _; first | refine lbx rfl spL (by rfl) ?_ | refine lba rfl spL (by rfl) ?_ | refine lbs rfl spL (by rfl) (by rfl) ?_ | refine lgi rfl (fun _ _ => rdP) omL (by assumption) ?_ | refine lag rfl (fun _ _ => rdP) (by rfl) omL (by assumption) ?_ | refine lrg rfl (fun _ _ => rdP) (by rfl) omL (by assumption) (by rfl) ?_ | refine lin rfl (fun _ _ => rdP) omL ?_ | refine lbi rfl spL omL ?_ | refine lr1 rfl (fun _ _ => rdP) (by rfl) omL (by rfl) ?_ | refine lra rfl (fun _ _ => rdP) (by rfl) omL ?_ | refine lrf rfl (fun _ _ => rdP) (by rfl) omL (by rfl) ?_ | refine lcell rfl (fun w hw => hw.ext.cell (by assumption)) ?_ | refine lrs rfl (fun _ _ => rdP) (by rfl) omL (by rfl) (by rfl) ?_ | refine lca rfl (fun _ _ => rdP) (by rfl) ?_ | refine lcs rfl (fun _ _ => rdP) (by rfl) ?_ | refine lcf rfl (fun _ _ => rdP) (by rfl) ?_ | refine lrf rfl (fun _ _ => rdP) (by rfl) (by simp only [List.length_cons, List.length_nil]; omega) (by rfl) ?_ | refine lra rfl (fun _ _ => rdP) (by rfl) (by simp only [List.length_cons, List.length_nil]; omega) ?_) | refine fad rfl ?_ | (show SH _ _ _ _ _ (⟨_, .slice _ _ _ _ _, _, _, _, _⟩ :: _) _ _ _; first | refine sla rfl rfl omL omL ?_ | refine slh rfl rfl omL omL ?_ | refine sll rfl rfl omL omL ?_) | (show SH _ _ _ _ _ (⟨_, .alloc _, _, _, _, _⟩ :: _) _ _ _; first | refine al1 rfl (fun b => ?_) | refine ala rfl (fun b => ?_)) | (show SH _ _ _ _ _ (⟨_, .box _ _, _, _, _, _⟩ :: _) _ _ _; refine bxx rfl evL rfl (fun b => ?_)) | (show SH _ _ _ _ _ (⟨_, .store _ _ _, _, _, _, _⟩ :: _) _ _ _; first | refine stb rfl rfl evL spL rfl rfl (by first | decide | exact Nat.zero_lt_succ _ | exact of_decide_eq_true rfl) kpL ?_ | refine sta rfl rfl rfl spL (by rfl) (by rfl) (by rfl) kpL ?_ | refine sti rfl rfl rfl spL omL kpL ?_ | refine sbi rfl rfl rfl spL omL kpL ?_ | refine sbs rfl rfl evL spL (by rfl) (by rfl) (of_decide_eq_true rfl) kpL ?_) | (show SH _ _ _ _ _ (⟨_, .buildSlice _ _ _, _, _, _, _⟩ :: _) _ _ _; refine bsl (α := Int) rfl rfl (by repeat (first | exact Vals.nil | (apply Vals.cons; rfl))) rfl (by rfl) (by decide) (fun b => ?_))) | refine s_nil ?_ | refine s_fork ?_ ?_ | refine s_fork3 ?_ ?_ ?_ | refine s_fork4 ?_ ?_ ?_ ?_ | refine kh_normal ?_ | refine kh_ret ?_ | refine kh_exit ?_ | refine bh_normal ?_ | refine bh_ret ?_ | refine bh_exit ?_ | refine bh_exit_ne rfl ?_)))
    | (refine bsl (l := ([] : List PtyP)) rfl rfl Vals.nil rfl rfl (by decide) (fun b7 => ?_); (repeat' (first | (show SH _ _ _ _ _ (_ :: _) _ _ _; first | (show SH _ _ _ _ _ (⟨_, .load _ _, _, _, _, _⟩ :: _) _ _ _; refine lbx rfl spL (by rfl) ?_) | (show SH _ _ _ _ _ (⟨_, .slice _ _ _ _ _, _, _, _, _⟩ :: _) _ _ _; first | refine slh rfl rfl omL omL ?_ | refine sll rfl rfl omL omL ?_)) | refine s_fork ?_ ?_)))
    | (refine app (l := ([] : List PtyP)) (l2 := L1) rfl rfl rfl spL (fun w hw => hr1.ext hw.ext) rfl rfl (by omega) (by simp only [List.length_nil]; omega) (by simp only [List.length_nil]; omega) (fun A2 c2 => ⟨enL, ?_⟩); (repeat' ((show SH _ _ _ _ _ (_ :: _) _ _ _; first | (show SH _ _ _ _ _ (⟨_, .load _ _, _, _, _, _⟩ :: _) _ _ _; refine lbx rfl spL (by rfl) ?_) | (show SH _ _ _ _ _ (⟨_, .slice _ _ _ _ _, _, _, _, _⟩ :: _) _ _ _; refine sll rfl rfl omL omL ?_)))))
    | (refine app (l := [] ++ L1) (l2 := L2) rfl rfl rfl spL (fun w hw => hr2 w (hr.ext hw.ext)) rfl rfl (by omega) (by simp only [List.length_nil, List.nil_append]; omega) (by simp only [List.length_nil, List.nil_append]; omega) (fun A3 c3 => ⟨enL, ?_⟩); (repeat' (first | (show VH _ _ _ _ _ _ _; first | refine v_seq ?_ | refine r_seq ?_ | refine v_ret ?_) | (show SH _ _ _ _ _ (_ :: _) _ _ _; first | (show SH _ _ _ _ _ (⟨_, .load _ _, _, _, _, _⟩ :: _) _ _ _; refine lba rfl spL (by rfl) ?_) | refine fad rfl ?_ | (show SH _ _ _ _ _ (⟨_, .store _ _ _, _, _, _, _⟩ :: _) _ _ _; first | refine stb rfl rfl evL spL rfl rfl (by first | decide | exact Nat.zero_lt_succ _ | exact of_decide_eq_true rfl) kpL ?_ | refine sta rfl rfl rfl spL (by rfl) (by rfl) (by rfl) kpL ?_)) | refine s_nil ?_ | refine kh_normal ?_))))
  all_goals exact rhC rfl rfl rfl (fun w hw => loadVar_bx hw spL (by rfl)) ⟨A3, c3, rfl, rfl⟩ enL
def askI (who id : Int) (ps : List Pty) : Int := match askedM who id ps with | none => -1 | some k => k
theorem asked_drop (who id : Int) : ∀ (ps : List Pty) (k : Nat), k ≤ ps.length → (∀ j, j < k → ¬ ((ps.getD j pty0).id = id ∧ who ∈ (ps.getD j pty0).inv.map Inv.who)) → askedM who id ps = (askedM who id (ps.drop k)).map (· + k)
  | ps, 0, _, _ => by rw [List.drop_zero]; cases askedM who id ps <;> rfl
  | [], k + 1, h, _ => by simp at h
  | p :: ps, k + 1, h, hn => by
    have h0 : ¬ (p.id = id ∧ who ∈ p.inv.map Inv.who) := hn 0 (by omega)
    rw [askedM, if_neg h0, asked_drop who id ps k (by simpa using h) (fun j hj => by simpa using hn (j + 1) (by omega)), List.drop_succ_cons]
    cases askedM who id (ps.drop k) with
    | none => rfl
    | some j => rfl
set_option maxHeartbeats 1000000 in
set_option maxRecDepth 100000 in
theorem refAsked_spec (t la : Int) (A : Option Addr) (L : List PtyP) (c : Nat) (who id : Int) (w : World) (hz : SzP L) (hr : RdP w A L) :
    Ret Tryz.prog 102 [hv36 t la A L c, .int .i64 who, .int .i64 id].toArray w (Out w (.int .i64 (askI who id (ptys L)))) := by
  have hrA := hr.1
  have hll := hz.len
  unfold askI
  refine enterH Tryz.func102 rfl rfl Tryz.ntmps102 rfl (Wd.refl _) ?_
  (repeat' (first | (show VH _ _ _ _ _ _ _; first | refine v_seq ?_ | refine r_seq ?_ | refine v_block ?_) | (show SH _ _ _ _ _ (_ :: _) _ _ _; first | (show SH _ _ _ _ _ (⟨_, .assign _, _, _, _, _⟩ :: _) _ _ _; refine asg evL ?_) | (show SH _ _ _ _ _ (⟨_, .box _ _, _, _, _, _⟩ :: _) _ _ _; refine bxx rfl evL rfl (fun b => ?_))) | refine s_nil ?_ | refine kh_normal ?_))
  revert b
  intro b2
  refine v_norm [(1,_),(2,_),(3,_),(7,_)] heL (fun g => ?_)
  refine v_loop0 [(6,49)] (fun i : Nat => [(7, .int .i64 i)]) (fun i => i ≤ L.length ∧ ∀ j, j < i → ¬ (((ptys L).getD j pty0).id = id ∧ who ∈ ((ptys L).getD j pty0).inv.map Inv.who)) (fun i => L.length - i) 0 hsL ⟨Nat.zero_le _, fun j h => absurd h (Nat.not_lt_zero j)⟩ ?_
  rintro i g ⟨hi, hok⟩
  simp only [sets]
  have hdr := asked_drop who id (ptys L) i (by rw [ptys_len]; exact hi) hok
  by_cases hil : i < L.length
  · rw [drop_cons (d := pty0) (by rw [ptys_len]; exact hil), askedM] at hdr
    have hpi := ptys_at hil
    have hm := hr.inv hil
    have hml := hz.ati hil
    rw [hpi] at hdr
    have hok' : ¬ ((L.getD i Flat.dflt).p.id = id ∧ who ∈ (L.getD i Flat.dflt).p.inv.map Inv.who) → ∀ j, j < i + 1 → ¬ (((ptys L).getD j pty0).id = id ∧ who ∈ ((ptys L).getD j pty0).inv.map Inv.who) := fun h j hj => by
      by_cases e : j = i
      · rw [e, hpi]; exact h
      · exact hok j (by omega)
    obtain ⟨x, hx⟩ : ∃ x, L.getD i Flat.dflt = x := ⟨_, rfl⟩
    have hxE := pty_enc hx
    rw [hx] at hdr hm hml hok'
    clear hx hok hpi
    obtain ⟨⟨xi, xl, xm, xv⟩, xA, xca, xB, xcb⟩ := x
    simp only at hdr hm hml hok' hxE
    (repeat' (first | (show VH _ _ _ _ _ _ _; first | refine v_seq ?_ | refine r_seq ?_ | refine v_block ?_ | refine v_skip ?_ | refine v_cond_t rfl tbL ?_) | (show SH _ _ _ _ _ (_ :: _) _ _ _; first | (show SH _ _ _ _ _ (⟨_, .move _, _, _, _, _⟩ :: _) _ _ _; refine mov evL ?_) | (show SH _ _ _ _ _ (⟨_, .assign _, _, _, _, _⟩ :: _) _ _ _; refine asg evL ?_) | (show SH _ _ _ _ _ (⟨_, .binOp .lss _ _ _ _, _, _, _, _⟩ :: _) _ _ _; refine lssT rfl rfl omD ?_) | (show SH _ _ _ _ _ (⟨_, .load _ _, _, _, _, _⟩ :: _) _ _ _; refine lbx rfl spL (by rfl) ?_) | refine slen rfl ?_ | refine fad rfl ?_) | refine s_nil ?_ | refine kh_normal ?_))
    refine v_normS [(6,49)] _ agL [(7,_),(8,_)] heL (fun g => ?_)
    refine v_loop0 [(6,6),(8,8),(16,49)] (fun j : Nat => [(8, .int .i64 j)]) (fun j => j ≤ xv.length ∧ ¬ (xi = id ∧ who ∈ (xv.take j).map Inv.who)) (fun j => xv.length - j) 0 hsL ⟨Nat.zero_le _, by simp⟩ ?_
    rintro j g2 ⟨hj, hnt⟩
    simp only [sets]
    by_cases hjl : j < xv.length
    · obtain ⟨u, hu⟩ : ∃ u, xv.getD j Flat.dflt = u := ⟨_, rfl⟩
      have huE := inv_enc hu
      have htk := take_snoc (d := (Flat.dflt : Inv)) hjl
      rw [hu] at htk
      by_cases huw : xi = id ∧ u.who = who
      · have hin : xi = id ∧ who ∈ xv.map Inv.who := ⟨huw.1, List.mem_map.2 ⟨u, by rw [← hu]; exact getD_mem hjl, huw.2⟩⟩
        rw [if_pos hin] at hdr
        rw [hdr]
        clear hdr hok' hnt htk hin hu
        obtain ⟨uw, ut⟩ := u
        simp only at huw huE
        obtain ⟨u1, u2⟩ := huw
        (repeat' (first | (show VH _ _ _ _ _ _ _; first | refine v_seq ?_ | refine r_seq ?_ | refine v_block ?_ | refine v_ret ?_ | refine v_skip ?_ | refine v_cond_t rfl tbL ?_) | (show SH _ _ _ _ _ (_ :: _) _ _ _; first | (show SH _ _ _ _ _ (⟨_, _, _, _, _, some _⟩ :: _) _ _ _; (refine gif rfl rfl ?_; refine giTT tbL ?_)) | (show SH _ _ _ _ _ (⟨_, .move _, _, _, _, _⟩ :: _) _ _ _; refine mov evL ?_) | (show SH _ _ _ _ _ (⟨_, .assign _, _, _, _, _⟩ :: _) _ _ _; refine asg evL ?_) | (show SH _ _ _ _ _ (⟨_, .binOp .lss _ _ _ _, _, _, _, _⟩ :: _) _ _ _; refine lssT rfl rfl omD ?_) | (show SH _ _ _ _ _ (⟨_, .binOp .eql _ _ _ _, _, _, _, _⟩ :: _) _ _ _; refine eqlT rfl rfl omD ?_) | (show SH _ _ _ _ _ (⟨_, .load _ _, _, _, _, _⟩ :: _) _ _ _; first | refine lbx rfl spL (by rfl) ?_ | refine lrg rfl (fun _ _ => rdP) (by rfl) omL (by assumption) (by rfl) ?_) | (show SH _ _ _ _ _ (⟨_, .indexAddr _ _ _, _, _, _, _⟩ :: _) _ _ _; refine ix rfl rfl (by with_reducible rfl) (fun _ _ => rdP) (by rfl) omL omL ?_) | refine slen rfl ?_ | (show SH _ _ _ _ _ (⟨_, .pick _ _ _, _, _, _, _⟩ :: _) _ _ _; refine pkt rfl tbL evL ?_) | refine fad rfl ?_) | refine s_nil ?_ | refine kh_normal ?_ | refine kh_ret ?_ | refine bh_ret ?_))
        all_goals first
          | exact rh1 rfl rfl ⟨congrArg (Value.int .i64) (by show _ = ((0 + i : Nat) : Int); rw [Nat.zero_add]), rfl⟩ (ent_nil _)
          | omega
      · have hnt' : ¬ (xi = id ∧ who ∈ (xv.take (j + 1)).map Inv.who) := by
          rintro ⟨h1, h2⟩
          rw [htk, List.map_append, List.mem_append] at h2
          rcases h2 with h2 | h2
          · exact hnt ⟨h1, h2⟩
          · exact huw ⟨h1, (List.mem_singleton.1 h2).symm⟩
        clear hdr hok' hnt htk hu
        obtain ⟨uw, ut⟩ := u
        simp only at huw huE
        have hcc : Hid _ := huw
        clear huw
        (repeat' (first | (show VH _ _ _ _ _ _ _; first | refine v_seq ?_ | refine r_seq ?_ | refine v_block ?_ | refine v_ret ?_ | refine v_skip ?_ | refine v_cond_t rfl tbL ?_ | refine v_cond_f rfl tbL ?_ | refine v_cond_dec rfl (fun h => ?_) (fun h => ?_)) | (show SH _ _ _ _ _ (_ :: _) _ _ _; first | (show SH _ _ _ _ _ (⟨_, _, _, _, _, some _⟩ :: _) _ _ _; (refine gif rfl rfl ?_; first | refine giTT tbL ?_ | refine giTF tbL ?_ | refine giTd (fun h => ?_) (fun h => ?_))) | (show SH _ _ _ _ _ (⟨_, .move _, _, _, _, _⟩ :: _) _ _ _; refine mov evL ?_) | (show SH _ _ _ _ _ (⟨_, .assign _, _, _, _, _⟩ :: _) _ _ _; refine asg evL ?_) | (show SH _ _ _ _ _ (⟨_, .binOp .lss _ _ _ _, _, _, _, _⟩ :: _) _ _ _; refine lssT rfl rfl omD ?_) | refine eql rfl rfl ?_ | (show SH _ _ _ _ _ (⟨_, .binOp .add _ _ _ _, _, _, _, _⟩ :: _) _ _ _; refine add rfl rfl inL ?_) | (show SH _ _ _ _ _ (⟨_, .load _ _, _, _, _, _⟩ :: _) _ _ _; first | refine lbx rfl spL (by rfl) ?_ | refine lrg rfl (fun _ _ => rdP) (by rfl) omL (by assumption) (by rfl) ?_) | (show SH _ _ _ _ _ (⟨_, .indexAddr _ _ _, _, _, _, _⟩ :: _) _ _ _; refine ix rfl rfl (by with_reducible rfl) (fun _ _ => rdP) (by rfl) omL omL ?_) | refine slen rfl ?_ | (show SH _ _ _ _ _ (⟨_, .pick _ _ _, _, _, _, _⟩ :: _) _ _ _; first | refine pkt rfl tbL evL ?_ | refine pkf rfl tbL evL ?_) | refine fad rfl ?_) | refine s_nil ?_ | refine kh_normal ?_ | refine kh_ret ?_ | refine bh_normal ?_ | refine bh_ret ?_))
        all_goals first
          | exact ⟨agL, j + 1, hsL, enL, ⟨hjl, hnt'⟩, by omega⟩
          | exact absurd ⟨by omega, by omega⟩ hcc
    · obtain rfl : j = xv.length := by omega
      rw [List.take_length] at hnt
      have hn := hok' hnt
      clear hdr hok' hnt
      (repeat' (first | (show VH _ _ _ _ _ _ _; first | refine v_seq ?_ | refine r_seq ?_ | refine v_exit ?_ | refine v_cond_f rfl tbL ?_) | (show SH _ _ _ _ _ (_ :: _) _ _ _; first | (show SH _ _ _ _ _ (⟨_, .move _, _, _, _, _⟩ :: _) _ _ _; refine mov evL ?_) | (show SH _ _ _ _ _ (⟨_, .assign _, _, _, _, _⟩ :: _) _ _ _; refine asg evL ?_) | (show SH _ _ _ _ _ (⟨_, .binOp .lss _ _ _ _, _, _, _, _⟩ :: _) _ _ _; refine lssF rfl rfl omD ?_) | (show SH _ _ _ _ _ (⟨_, .binOp .add _ _ _ _, _, _, _, _⟩ :: _) _ _ _; refine add rfl rfl inL ?_) | (show SH _ _ _ _ _ (⟨_, .load _ _, _, _, _, _⟩ :: _) _ _ _; first | refine lbx rfl spL (by rfl) ?_ | refine lrg rfl (fun _ _ => rdP) (by rfl) omL (by assumption) (by rfl) ?_) | (show SH _ _ _ _ _ (⟨_, .indexAddr _ _ _, _, _, _, _⟩ :: _) _ _ _; refine ix rfl rfl (by with_reducible rfl) (fun _ _ => rdP) (by rfl) omL omL ?_) | refine slen rfl ?_ | refine fad rfl ?_) | refine s_nil ?_ | refine kh_normal ?_ | refine kh_exit ?_ | refine bh_normal ?_ | refine bh_exit ?_))
      exact ⟨agL, i + 1, hsL, enL, ⟨hil, hn⟩, by omega⟩
  · obtain rfl : i = L.length := by omega
    rw [List.drop_of_length_le (by rw [ptys_len]; omega), askedM, Option.map_none] at hdr
    rw [hdr]
    clear hdr hok
    (repeat' (first | (show VH _ _ _ _ _ _ _; first | refine v_seq ?_ | refine r_seq ?_ | refine v_ret ?_ | refine v_exit ?_ | refine v_cond_f rfl tbL ?_) | (show SH _ _ _ _ _ (_ :: _) _ _ _; first | (show SH _ _ _ _ _ (⟨_, .move _, _, _, _, _⟩ :: _) _ _ _; refine mov evL ?_) | (show SH _ _ _ _ _ (⟨_, .assign _, _, _, _, _⟩ :: _) _ _ _; refine asg evL ?_) | (show SH _ _ _ _ _ (⟨_, .binOp .lss _ _ _ _, _, _, _, _⟩ :: _) _ _ _; refine lssF rfl rfl omD ?_) | (show SH _ _ _ _ _ (⟨_, .load _ _, _, _, _, _⟩ :: _) _ _ _; refine lbx rfl spL (by rfl) ?_) | refine slen rfl ?_ | refine fad rfl ?_) | refine s_nil ?_ | refine kh_normal ?_ | refine kh_exit ?_ | refine bh_exit ?_))
    exact rh1 rfl rfl ⟨rfl, rfl⟩ (ent_nil _)
end Go.Proofs.YtlfbcoohfnoacaaGreat

/- The reference of layer 36: kept. -/
namespace Go.Proofs.YtlfbcoohfnoacaaGreat
open Go.Fw Go.RowKit
/-- The parties after k rounds: the first k are changed. -/
def kAt (K : Pty → Pty) (ps : List Pty) (k : Nat) : List Pty := (ps.take k).map K ++ ps.drop k
theorem kAt_len (K : Pty → Pty) (ps : List Pty) (k : Nat) : (kAt K ps k).length = ps.length := by
  unfold kAt; rw [List.length_append, List.length_map, ← List.length_append, List.take_append_drop]
theorem kAt_zero (K : Pty → Pty) (ps : List Pty) : kAt K ps 0 = ps := rfl
theorem kAt_all (K : Pty → Pty) (ps : List Pty) : kAt K ps ps.length = ps.map K := by
  unfold kAt
  rw [List.take_length, List.drop_length, List.append_nil]
theorem kAt_at {K : Pty → Pty} {ps : List Pty} {k : Nat} (hk : k < ps.length) : (kAt K ps k).getD k pty0 = ps.getD k pty0 := by
  have hl : ((ps.take k).map K).length = k := by rw [List.length_map, List.length_take]; omega
  unfold kAt
  rw [List.getD_eq_getElem?_getD, List.getElem?_append_right (by omega), hl, Nat.sub_self, drop_cons (d := pty0) hk]
  rfl
theorem kAt_next {K : Pty → Pty} {ps : List Pty} {k : Nat} (hk : k < ps.length) : (kAt K ps k).set k (K (ps.getD k pty0)) = kAt K ps (k + 1) := by
  have hl : ((ps.take k).map K).length = k := by rw [List.length_map, List.length_take]; omega
  unfold kAt
  rw [drop_cons (d := pty0) hk, List.set_append_right _ _ (by omega), hl, Nat.sub_self, List.set_cons_zero, take_snoc (d := pty0) hk, List.map_append, List.append_assoc]
  rfl
/-- What stays of the invitations. -/
def stayB (tick who only id : Int) (i : Inv) : Bool := decide (tick < i.till) && !(decide (i.who = who) && (decide (only = 0) || decide (only = id)))
def stayP (tick who only : Int) (p : Pty) : Pty := { p with inv := p.inv.filter (stayB tick who only p.id) }
theorem keptR_map (tick who only : Int) (ps : List Pty) : keptR tick who only ps = ps.map (stayP tick who only) := by
  unfold keptR uninvM stayP stayB
  simp only [Bool.not_not]
theorem stay_key (tick who only id : Int) (i : Inv) : (stayB tick who only id i = true ∧ tick < i.till ∧ (i.who ≠ who ∨ i.who = who ∧ only ≠ 0 ∧ only ≠ id)) ∨ (stayB tick who only id i = false ∧ (i.till ≤ tick ∨ tick < i.till ∧ i.who = who ∧ (only = 0 ∨ only ≠ 0 ∧ only = id))) := by
  unfold stayB
  by_cases h1 : tick < i.till
  · by_cases h2 : i.who = who
    · by_cases h3 : only = 0
      · exact .inr ⟨by simp [h2, h3], .inr ⟨h1, h2, .inl h3⟩⟩
      · by_cases h4 : only = id
        · exact .inr ⟨by simp [h2, h4], .inr ⟨h1, h2, .inr ⟨h3, h4⟩⟩⟩
        · exact .inl ⟨by simp [h1, h3, h4], h1, .inr ⟨h2, h3, h4⟩⟩
    · exact .inl ⟨by simp [h1, h2], h1, .inl h2⟩
  · exact .inr ⟨by simp [h1], .inl (by omega)⟩
set_option maxHeartbeats 4000000 in
set_option maxRecDepth 100000 in
theorem refKept_spec (t la : Int) (A : Option Addr) (L : List PtyP) (c : Nat) (tick who only : Int) (Φ : World → Prop) (w0 : World) (H : List HP) (w : World) (hz : SzP L) (hc : L.length ≤ c) (hΦ : ∀ w, Φ w → RdP w A L) (hw : Wd w0 (kno Φ :: H) w) :
    Ret Tryz.prog 99 [hv36 t la A L c, .int .i64 tick, .int .i64 who, .int .i64 only].toArray w (RP w0 (RefH Φ H t la (keptR tick who only (ptys L)))) := by
  have hll := hz.len
  have hWs := fun A L c k x w hk hll hr => ret_cap (refWith_spec t la A L c k x w hk hll hr)
  rw [keptR_map]
  refine enterH Tryz.func99 rfl rfl Tryz.ntmps99 rfl (by assumption) ?_
  (repeat' (first | (show VH _ _ _ _ _ _ _; first | refine v_seq ?_ | refine r_seq ?_ | refine v_block ?_) | (show SH _ _ _ _ _ (_ :: _) _ _ _; first | (show SH _ _ _ _ _ (⟨_, .assign _, _, _, _, _⟩ :: _) _ _ _; refine asg evL ?_) | refine ala rfl (fun b => ?_) | (show SH _ _ _ _ _ (⟨_, .box _ _, _, _, _, _⟩ :: _) _ _ _; refine bxx rfl evL rfl (fun b => ?_))) | refine s_nil ?_ | refine kh_normal ?_))
  rename_i b1
  revert b
  intro b2
  refine v_norm [(1,_),(2,_),(3,_),(4,_),(8,_),(9,_)] heL (fun g => ?_)
  refine v_loop [(9,76)] (fun y : Nat × Option Addr × Nat × List PtyP × (World → Prop) => [(9, .int .i64 y.1)]) (fun y => kno y.2.2.2.2 :: bx b1 30 [.int .i64 t, .int .i64 la, .slice y.2.1 y.2.2.2.1.length y.2.2.1] :: bx b2 30 [.int .i64 0, .int .i64 0, .slice none 0 0] :: H) (fun y => y.1 ≤ L.length ∧ ptys y.2.2.2.1 = kAt (stayP tick who only) (ptys L) y.1 ∧ L.length ≤ y.2.2.1 ∧ ∀ w, y.2.2.2.2 w → Φ w ∧ RdP w y.2.1 y.2.2.2.1) (fun y => L.length - y.1) (0, A, c, L, Φ) hsL enL ⟨Nat.zero_le _, (kAt_zero _ _).symm, hc, fun w h => ⟨h, hΦ w h⟩⟩ ?_
  rintro ⟨i, A1, c1, M, Ψ⟩ g ⟨hi, hM, hc1, hΨ⟩
  simp only [sets]
  simp only at hi hM hc1 hΨ
  have hMl : M.length = L.length := by rw [← ptys_len, hM, kAt_len, ptys_len]
  by_cases hil : i < L.length
  · have hpl : i < (ptys L).length := by rw [ptys_len]; exact hil
    have hxp : (M.getD i Flat.dflt).p = (ptys L).getD i pty0 := by rw [← ptys_at (by omega), hM, kAt_at hpl]
    have hml : (M.getD i Flat.dflt).p.mem.length ≤ 1000 := by rw [hxp, ptys_at hil]; exact hz.atm hil
    have hvl : (M.getD i Flat.dflt).p.inv.length ≤ 1000 := by rw [hxp, ptys_at hil]; exact hz.ati hil
    have hA : ∀ w, Ψ w → Rd w A1 M := fun w h => (hΨ w h).2.1
    have hB : ∀ w, Ψ w → Rd w (M.getD i Flat.dflt).B (M.getD i Flat.dflt).p.inv := fun w h => (hΨ w h).2.inv (by omega)
    have hnx : ∀ y : PtyP, y.p = stayP tick who only (M.getD i Flat.dflt).p → ptys (M.set i y) = kAt (stayP tick who only) (ptys L) (i + 1) := fun y hy => by
      rw [ptys_set, hM, hy, hxp, kAt_next hpl]
    have hin : ∀ y : PtyP, y.p.mem = (M.getD i Flat.dflt).p.mem → y.A = (M.getD i Flat.dflt).A → ∀ w, Ψ w → Rd w y.B y.p.inv → ∀ z ∈ M.set i y, Rd w z.A z.p.mem ∧ Rd w z.B z.p.inv := fun y h1 h2 w hw hr z hz => by
      rcases List.mem_or_eq_of_mem_set hz with h | h
      · exact (hΨ w hw).2.2 z h
      · rw [h, h1, h2]
        exact ⟨(hΨ w hw).2.mem (by omega), hr⟩
    have hφ : ∀ w, Ψ w → Φ w := fun w h => (hΨ w h).1
    obtain ⟨x, hx⟩ : ∃ x, M.getD i Flat.dflt = x := ⟨_, rfl⟩
    have hxE := pty_enc hx
    rw [hx] at hml hvl hB hnx hin
    clear hx hxp hM hΨ hΦ hz hpl
    obtain ⟨⟨xi, xl, xm, xv⟩, xA, xca, xB, xcb⟩ := x
    unfold stayP at hnx
    simp only at hml hvl hB hnx hin hxE
    have hW := fun y w h => hWs A1 M c1 i y w (by omega) (by omega) h
    unfold hv36 at hW
    clear hWs
    (repeat' (first | (show VH _ _ _ _ _ _ _; first | refine v_seq ?_ | refine r_seq ?_ | refine v_block ?_ | refine v_skip ?_ | refine v_cond_t rfl tbL ?_) | (show SH _ _ _ _ _ (_ :: _) _ _ _; first | (show SH _ _ _ _ _ (⟨_, .move _, _, _, _, _⟩ :: _) _ _ _; refine mov evL ?_) | (show SH _ _ _ _ _ (⟨_, .assign _, _, _, _, _⟩ :: _) _ _ _; refine asg evL ?_) | (show SH _ _ _ _ _ (⟨_, .binOp .lss _ _ _ _, _, _, _, _⟩ :: _) _ _ _; refine lssT rfl rfl omD ?_) | (show SH _ _ _ _ _ (⟨_, .load _ _, _, _, _, _⟩ :: _) _ _ _; first | refine lbx rfl spL (by rfl) ?_ | refine lag rfl (fun _ _ => rdK) (by rfl) omL (by assumption) ?_) | (show SH _ _ _ _ _ (⟨_, .indexAddr _ _ _, _, _, _, _⟩ :: _) _ _ _; refine ix rfl rfl (by with_reducible rfl) (fun _ _ => rdK) (by rfl) omL omL ?_) | refine slen rfl ?_ | refine fad rfl ?_ | refine ala rfl (fun b => ?_) | (show SH _ _ _ _ _ (⟨_, .store _ _ _, _, _, _, _⟩ :: _) _ _ _; refine sta rfl rfl rfl spL (by rfl) (by rfl) (by rfl) kpL ?_)) | refine s_nil ?_ | refine kh_normal ?_))
    revert b
    intro b3
    refine v_normS [(9,76)] _ agL [(9,_),(10,_),(11,_),(12,_)] heL (fun g => ?_)
    refine VH.ent (G := orow 40 none 0 ([] : List Inv) :: kno Ψ :: bx b3 43 [.int .i64 xi, .int .i64 xl, .slice xA xm.length xca, .slice xB xv.length xcb] :: bx b1 30 [.int .i64 t, .int .i64 la, .slice A1 M.length c1] :: bx b2 30 [.int .i64 0, .int .i64 0, .slice none 0 0] :: H) ?_ (ent_nilrow enL)
    refine v_loop [(11,13),(26,70)] (fun y : Nat × Option Addr × Nat => [(12, .int .i64 y.1), (11, .slice y.2.1 ((xv.take y.1).filter (stayB tick who only xi)).length y.2.2)]) (fun y => orow 40 y.2.1 y.2.2 ((xv.take y.1).filter (stayB tick who only xi)) :: kno Ψ :: bx b3 43 [.int .i64 xi, .int .i64 xl, .slice xA xm.length xca, .slice xB xv.length xcb] :: bx b1 30 [.int .i64 t, .int .i64 la, .slice A1 M.length c1] :: bx b2 30 [.int .i64 0, .int .i64 0, .slice none 0 0] :: H) (fun y => y.1 ≤ xv.length) (fun y => xv.length - y.1) (0, none, 0) hsL enL (Nat.zero_le _) ?_
    rintro ⟨k, B, d⟩ g2 hk
    simp only [sets]
    simp only at hk
    by_cases hkl : k < xv.length
    · have htk := take_snoc (d := (Flat.dflt : Inv)) hkl
      obtain ⟨v, hv⟩ : ∃ v, xv.getD k Flat.dflt = v := ⟨_, rfl⟩
      have hvE := inv_enc hv
      have hky := stay_key tick who only xi v
      have hF : (xv.take (k + 1)).filter (stayB tick who only xi) = (xv.take k).filter (stayB tick who only xi) ++ (if stayB tick who only xi v = true then [v] else []) := by
        rw [htk, List.filter_append, hv]
        congr 1
        rw [List.filter_cons, List.filter_nil]
      have hfl : ((xv.take k).filter (stayB tick who only xi)).length ≤ 1000 := by
        have h1 := List.length_filter_le (stayB tick who only xi) (xv.take k)
        rw [List.length_take] at h1; omega
      clear htk hv hnx hin hφ hW
      generalize (xv.take k).filter (stayB tick who only xi) = F at hF hfl ⊢
      obtain ⟨vw, vt⟩ := v
      simp only at hky hvE
      rcases hky with ⟨hg, h1, hor⟩ | ⟨hg, hor⟩
      · rw [hg, if_pos rfl] at hF
        rcases hor with h2 | ⟨h2, h3, h4⟩
        all_goals
          (repeat' (first | (show VH _ _ _ _ _ _ _; first | refine v_seq ?_ | refine r_seq ?_ | refine v_block ?_ | refine v_skip ?_ | refine v_cond_t rfl tbL ?_) | (show SH _ _ _ _ _ (_ :: _) _ _ _; first | (show SH _ _ _ _ _ (⟨_, _, _, _, _, some _⟩ :: _) _ _ _; first | (refine gif rfl rfl ?_; first | refine giTT tbL ?_ | refine giTF tbL ?_ | refine giFF tbL ?_) | refine gu rfl rfl ?_) | (show SH _ _ _ _ _ (⟨_, .move _, _, _, _, _⟩ :: _) _ _ _; refine mov evL ?_) | (show SH _ _ _ _ _ (⟨_, .assign _, _, _, _, _⟩ :: _) _ _ _; refine asg evL ?_) | (show SH _ _ _ _ _ (⟨_, .binOp .lss _ _ _ _, _, _, _, _⟩ :: _) _ _ _; refine lssT rfl rfl omD ?_) | (show SH _ _ _ _ _ (⟨_, .binOp .gtr _ _ _ _, _, _, _, _⟩ :: _) _ _ _; refine gtrT rfl rfl omD ?_) | (show SH _ _ _ _ _ (⟨_, .binOp .eql _ _ _ _, _, _, _, _⟩ :: _) _ _ _; first | refine eqlT rfl rfl omD ?_ | refine eqlF rfl rfl omD ?_) | (show SH _ _ _ _ _ (⟨_, .load _ _, _, _, _, _⟩ :: _) _ _ _; first | refine lbx rfl spL (by rfl) ?_ | refine lag rfl (fun _ _ => rdK) (by rfl) omL (by assumption) ?_ | refine lrg rfl (fun _ _ => rdK) (by rfl) omL (by assumption) (by rfl) ?_) | (show SH _ _ _ _ _ (⟨_, .indexAddr _ _ _, _, _, _, _⟩ :: _) _ _ _; refine ix rfl rfl (by with_reducible rfl) (fun _ _ => rdK) (by rfl) omL omL ?_) | refine slen rfl ?_ | refine bnoF rfl ?_ | (show SH _ _ _ _ _ (⟨_, .pick _ _ _, _, _, _, _⟩ :: _) _ _ _; first | refine pkt rfl tbL evL ?_ | refine pkf rfl tbL evL ?_) | refine fad rfl ?_) | refine s_nil ?_ | refine kh_normal ?_))
          refine bsl (l := [(⟨vw, vt⟩ : Inv)]) rfl rfl (Vals.cons rfl Vals.nil) rfl rfl (by decide) (fun b9 => ?_)
          (repeat' (first | (show VH _ _ _ _ _ _ _; first | refine v_seq ?_ | refine r_seq ?_ | refine r_quiet hmix (by kernel_rfl) ?_ | refine v_block ?_ | refine v_ret ?_ | refine v_skip ?_ | refine v_exit ?_ | refine v_label ?_ | refine v_cond_t rfl tbL ?_ | refine v_cond_f rfl tbL ?_ | refine v_cond_dec rfl (fun h => ?_) (fun h => ?_) | refine v_cond_ndec rfl (fun h => ?_) (fun h => ?_) | refine v_cond rfl (fun h => ?_) (fun h => ?_)) | (show SH _ _ _ _ _ (_ :: _) _ _ _; first | (show SH _ _ _ _ _ (⟨_, _, _, _, _, some _⟩ :: _) _ _ _; first | (refine gif rfl rfl ?_; first | refine giTT tbL ?_ | refine giTF tbL ?_ | refine giFF tbL ?_ | refine giFT tbL ?_ | refine giTd (fun h => ?_) (fun h => ?_) | refine giFd (fun h => ?_) (fun h => ?_) | refine giT (fun h => ?_) (fun h => ?_) | refine giF (fun h => ?_) (fun h => ?_)) | refine gu rfl rfl ?_ | refine grT rfl rfl tbL ?_ | refine grF rfl rfl tbL ?_) | (show SH _ _ _ _ _ (⟨_, .move _, _, _, _, _⟩ :: _) _ _ _; refine mov evL ?_) | (show SH _ _ _ _ _ (⟨_, .assign _, _, _, _, _⟩ :: _) _ _ _; refine asg evL ?_) | (show SH _ _ _ _ _ (⟨_, .binOp .lss _ _ _ _, _, _, _, _⟩ :: _) _ _ _; first | refine lssT rfl rfl omD ?_ | refine lssF rfl rfl omD ?_ | refine lss rfl rfl ?_) | (show SH _ _ _ _ _ (⟨_, .binOp .gtr _ _ _ _, _, _, _, _⟩ :: _) _ _ _; first | refine gtrT rfl rfl omD ?_ | refine gtrF rfl rfl omD ?_ | refine gtr rfl rfl ?_) | (show SH _ _ _ _ _ (⟨_, .binOp .eql _ _ _ _, _, _, _, _⟩ :: _) _ _ _; first | refine eqlT rfl rfl omD ?_ | refine eqlF rfl rfl omD ?_ | refine eql rfl rfl ?_ | refine eqn rfl rfl ?_ | refine eqb rfl rfl ?_) | (show SH _ _ _ _ _ (⟨_, .binOp .add _ _ _ _, _, _, _, _⟩ :: _) _ _ _; refine add rfl rfl inL ?_) | (show SH _ _ _ _ _ (⟨_, .load _ _, _, _, _, _⟩ :: _) _ _ _; first | refine lbx rfl spL (by rfl) ?_ | refine lba rfl spL (by rfl) ?_ | refine lbs rfl spL (by rfl) (by rfl) ?_ | refine lgi rfl (fun _ _ => rdK) omL (by assumption) ?_ | refine lag rfl (fun _ _ => rdK) (by rfl) omL (by assumption) ?_ | refine lrg rfl (fun _ _ => rdK) (by rfl) omL (by assumption) (by rfl) ?_ | refine lin rfl (fun _ _ => rdK) omL ?_ | refine lbi rfl spL omL ?_ | refine lr1 rfl (fun _ _ => rdK) (by rfl) omL (by rfl) ?_ | refine lra rfl (fun _ _ => rdK) (by rfl) omL ?_ | refine lrf rfl (fun _ _ => rdK) (by rfl) omL (by rfl) ?_ | refine lcell rfl (fun w hw => hw.ext.cell (by assumption)) ?_ | refine lrs rfl (fun _ _ => rdK) (by rfl) omL (by rfl) (by rfl) ?_ | refine lca rfl (fun _ _ => rdK) (by rfl) ?_ | refine lcs rfl (fun _ _ => rdK) (by rfl) ?_ | refine lcf rfl (fun _ _ => rdK) (by rfl) ?_ | refine lrf rfl (fun _ _ => rdK) (by rfl) (by simp only [List.length_cons, List.length_nil]; omega) (by rfl) ?_ | refine lra rfl (fun _ _ => rdK) (by rfl) (by simp only [List.length_cons, List.length_nil]; omega) ?_) | (show SH _ _ _ _ _ (⟨_, .indexAddr _ _ _, _, _, _, _⟩ :: _) _ _ _; first | refine ix rfl rfl (by with_reducible rfl) (fun _ _ => rdK) (by rfl) omL omL ?_ | refine ixi rfl rfl (fun _ _ => rdK) (by rfl) omL omL omL ?_ | refine ixb rfl rfl omL ?_ | refine ixq rfl rfl (by assumption) omL omL ?_ | refine ixA _ rfl rfl rfl omL ?_ | refine ixi rfl rfl (fun _ _ => rdK) (by rfl) omL (by first | omega | (simp only [List.length_cons, List.length_nil]; omega)) (by simp only [List.length_cons, List.length_nil]; omega) ?_) | (show SH _ _ _ _ _ (⟨_, .call ⟨.builtin _, _, _⟩, _, _, _, _⟩ :: _) _ _ _; first | refine slen rfl ?_ | refine lnm rfl spL ?_) | (show SH _ _ _ _ _ (⟨_, .unOp .not _ _, _, _, _, _⟩ :: _) _ _ _; first | refine bnoT rfl ?_ | refine bnoF rfl ?_ | refine bnot rfl ?_) | (show SH _ _ _ _ _ (⟨_, .pick _ _ _, _, _, _, _⟩ :: _) _ _ _; first | refine pkt rfl tbL evL ?_ | refine pkf rfl tbL evL ?_) | refine fad rfl ?_ | (show SH _ _ _ _ _ (⟨_, .alloc _, _, _, _, _⟩ :: _) _ _ _; first | refine al1 rfl (fun b => ?_) | refine ala rfl (fun b => ?_)) | (show SH _ _ _ _ _ (⟨_, .box _ _, _, _, _, _⟩ :: _) _ _ _; refine bxx rfl evL rfl (fun b => ?_)) | (show SH _ _ _ _ _ (⟨_, .store _ _ _, _, _, _, _⟩ :: _) _ _ _; first | refine stb rfl rfl evL spL rfl rfl (by first | decide | exact Nat.zero_lt_succ _ | exact of_decide_eq_true rfl) kpL ?_ | refine sta rfl rfl rfl spL (by rfl) (by rfl) (by rfl) kpL ?_ | refine sti rfl rfl rfl spL omL kpL ?_ | refine sbi rfl rfl rfl spL omL kpL ?_ | refine sbs rfl rfl evL spL (by rfl) (by rfl) (of_decide_eq_true rfl) kpL ?_) | (show SH _ _ _ _ _ (⟨_, .buildSlice _ _ _, _, _, _, _⟩ :: _) _ _ _; refine bsl (α := Int) rfl rfl (by repeat (first | exact Vals.nil | (apply Vals.cons; rfl))) rfl (by rfl) (by decide) (fun b => ?_))) | refine s_nil ?_ | refine s_fork ?_ ?_ | refine s_fork3 ?_ ?_ ?_ | refine s_fork4 ?_ ?_ ?_ ?_ | refine kh_normal ?_ | refine kh_ret ?_ | refine kh_exit ?_ | refine bh_normal ?_ | refine bh_ret ?_ | refine bh_exit ?_ | refine bh_exit_ne rfl ?_))
          refine app (l := F) (l2 := [(⟨vw, vt⟩ : Inv)]) rfl rfl rfl spL (fun w hw => hw.rd spL) rfl rfl rfl (by simp only [List.length_singleton]; omega) (by simp only [List.length_singleton]; omega) (fun A4 c4 => ⟨enL, ?_⟩)
          (repeat' (first | refine r_seq ?_ | (show SH _ _ _ _ _ (_ :: _) _ _ _; first | (show SH _ _ _ _ _ (⟨_, .move _, _, _, _, _⟩ :: _) _ _ _; refine mov evL ?_) | (show SH _ _ _ _ _ (⟨_, .assign _, _, _, _, _⟩ :: _) _ _ _; refine asg evL ?_) | (show SH _ _ _ _ _ (⟨_, .binOp .add _ _ _ _, _, _, _, _⟩ :: _) _ _ _; refine add rfl rfl inL ?_)) | refine s_nil ?_ | refine kh_normal ?_ | refine bh_normal ?_))
          exact ⟨agL, (k + 1, A4, c4), by rw [hF]; (repeat (first | exact trivial | refine And.intro rfl ?_)), by rw [hF]; exact enL, hkl, by show xv.length - (k + 1) < xv.length - k; omega⟩
      · rw [hg, if_neg (by decide), List.append_nil] at hF
        rcases hor with h1 | ⟨h1, h2, h3 | ⟨h3, h4⟩⟩
        all_goals
          (repeat' (first | (show VH _ _ _ _ _ _ _; first | refine v_seq ?_ | refine r_seq ?_ | refine v_block ?_ | refine v_skip ?_ | refine v_cond_t rfl tbL ?_ | refine v_cond_f rfl tbL ?_) | (show SH _ _ _ _ _ (_ :: _) _ _ _; first | (show SH _ _ _ _ _ (⟨_, _, _, _, _, some _⟩ :: _) _ _ _; first | (refine gif rfl rfl ?_; first | refine giTT tbL ?_ | refine giTF tbL ?_ | refine giFF tbL ?_ | refine giFT tbL ?_ | refine giTd (fun h => ?_) (fun h => ?_) | refine giFd (fun h => ?_) (fun h => ?_)) | refine gu rfl rfl ?_) | (show SH _ _ _ _ _ (⟨_, .move _, _, _, _, _⟩ :: _) _ _ _; refine mov evL ?_) | (show SH _ _ _ _ _ (⟨_, .assign _, _, _, _, _⟩ :: _) _ _ _; refine asg evL ?_) | (show SH _ _ _ _ _ (⟨_, .binOp .lss _ _ _ _, _, _, _, _⟩ :: _) _ _ _; refine lssT rfl rfl omD ?_) | (show SH _ _ _ _ _ (⟨_, .binOp .gtr _ _ _ _, _, _, _, _⟩ :: _) _ _ _; first | refine gtrT rfl rfl omD ?_ | refine gtrF rfl rfl omD ?_) | (show SH _ _ _ _ _ (⟨_, .binOp .eql _ _ _ _, _, _, _, _⟩ :: _) _ _ _; first | refine eqlT rfl rfl omD ?_ | refine eqlF rfl rfl omD ?_ | refine eql rfl rfl ?_) | (show SH _ _ _ _ _ (⟨_, .binOp .add _ _ _ _, _, _, _, _⟩ :: _) _ _ _; refine add rfl rfl inL ?_) | (show SH _ _ _ _ _ (⟨_, .load _ _, _, _, _, _⟩ :: _) _ _ _; first | refine lbx rfl spL (by rfl) ?_ | refine lrg rfl (fun _ _ => rdK) (by rfl) omL (by assumption) (by rfl) ?_) | (show SH _ _ _ _ _ (⟨_, .indexAddr _ _ _, _, _, _, _⟩ :: _) _ _ _; refine ix rfl rfl (by with_reducible rfl) (fun _ _ => rdK) (by rfl) omL omL ?_) | refine slen rfl ?_ | refine bnoT rfl ?_ | (show SH _ _ _ _ _ (⟨_, .pick _ _ _, _, _, _, _⟩ :: _) _ _ _; first | refine pkt rfl tbL evL ?_ | refine pkf rfl tbL evL ?_) | refine fad rfl ?_) | refine s_nil ?_ | refine kh_normal ?_ | refine bh_normal ?_))
        all_goals exact ⟨agL, (k + 1, B, d), by rw [hF]; (repeat (first | exact trivial | refine And.intro rfl ?_)), by rw [hF]; exact enL, hkl, by show xv.length - (k + 1) < xv.length - k; omega⟩
    · obtain rfl : k = xv.length := by omega
      rw [List.take_length]
      generalize hFE : xv.filter (stayB tick who only xi) = F at hnx hin ⊢
      (repeat' (first | (show VH _ _ _ _ _ _ _; first | refine v_seq ?_ | refine r_seq ?_ | refine v_exit ?_ | refine v_cond_f rfl tbL ?_) | (show SH _ _ _ _ _ (_ :: _) _ _ _; first | (show SH _ _ _ _ _ (⟨_, .move _, _, _, _, _⟩ :: _) _ _ _; refine mov evL ?_) | (show SH _ _ _ _ _ (⟨_, .binOp .lss _ _ _ _, _, _, _, _⟩ :: _) _ _ _; refine lssF rfl rfl omD ?_) | (show SH _ _ _ _ _ (⟨_, .load _ _, _, _, _, _⟩ :: _) _ _ _; first | refine lbx rfl spL (by rfl) ?_ | refine lba rfl spL (by rfl) ?_) | refine slen rfl ?_ | (show SH _ _ _ _ _ (⟨_, .call ⟨.value (.func 101), _, _⟩, _, _, _, _⟩ :: _) _ _ _; refine cp (callee := .func 101) rfl (fun w hw => hW ⟨⟨xi, xl, xm, F⟩, xA, xca, B, d⟩ w (rd_thk hA hw spL)) rfl rfl ?_) | refine fad rfl ?_ | (show SH _ _ _ _ _ (⟨_, .store _ _ _, _, _, _, _⟩ :: _) _ _ _; refine stb rfl rfl evL spL rfl rfl (by first | decide | exact Nat.zero_lt_succ _ | exact of_decide_eq_true rfl) kpL ?_)) | refine s_nil ?_ | refine kh_normal ?_ | refine kh_exit ?_ | refine bh_exit ?_))
      rintro _ _ ⟨A2, c2, hcap, rfl, rfl⟩
      (repeat' (first | refine r_seq ?_ | (show SH _ _ _ _ _ (_ :: _) _ _ _; first | (show SH _ _ _ _ _ (⟨_, .move _, _, _, _, _⟩ :: _) _ _ _; refine mov evL ?_) | (show SH _ _ _ _ _ (⟨_, .assign _, _, _, _, _⟩ :: _) _ _ _; refine asg evL ?_) | (show SH _ _ _ _ _ (⟨_, .binOp .add _ _ _ _, _, _, _, _⟩ :: _) _ _ _; refine add rfl rfl inL ?_) | (show SH _ _ _ _ _ (⟨_, .store _ _ _, _, _, _, _⟩ :: _) _ _ _; refine sta rfl rfl rfl spL (by rfl) (by rfl) (by rfl) kpL ?_)) | refine s_nil ?_ | refine kh_normal ?_ | refine bh_normal ?_))
      refine ⟨agL, (i + 1, A2, c2, M.set i ⟨⟨xi, xl, xm, F⟩, xA, xca, B, d⟩, fun w => Ψ w ∧ RdP w A2 (M.set i ⟨⟨xi, xl, xm, F⟩, xA, xca, B, d⟩)), hsL, ?_, ⟨hil, hnx _ (by rw [← hFE]), ?_, fun w h => ⟨hφ w h.1, h.2⟩⟩, by show L.length - (i + 1) < L.length - i; omega⟩
      · exact Ent.trans (B := orow 43 A2 c2 (M.set i ⟨⟨xi, xl, xm, F⟩, xA, xca, B, d⟩) :: orow 40 B d F :: kno Ψ :: bx b1 30 [.int .i64 t, .int .i64 la, .slice A2 (M.set i ⟨⟨xi, xl, xm, F⟩, xA, xca, B, d⟩).length c2] :: bx b2 30 [.int .i64 0, .int .i64 0, .slice none 0 0] :: H) enL (ent_ref_inv fun w h1 h2 => hin ⟨⟨xi, xl, xm, F⟩, xA, xca, B, d⟩ rfl rfl w h1 h2)
      · show L.length ≤ c2
        rw [List.length_set] at hcap; omega
  · obtain rfl : i = L.length := by omega
    have hMK : ptys M = (ptys L).map (stayP tick who only) := by rw [hM, ← ptys_len, kAt_all]
    clear hWs
    (repeat' (first | (show VH _ _ _ _ _ _ _; first | refine v_seq ?_ | refine r_seq ?_ | refine v_ret ?_ | refine v_exit ?_ | refine v_cond_f rfl tbL ?_) | (show SH _ _ _ _ _ (_ :: _) _ _ _; first | (show SH _ _ _ _ _ (⟨_, .move _, _, _, _, _⟩ :: _) _ _ _; refine mov evL ?_) | (show SH _ _ _ _ _ (⟨_, .binOp .lss _ _ _ _, _, _, _, _⟩ :: _) _ _ _; refine lssF rfl rfl omD ?_) | (show SH _ _ _ _ _ (⟨_, .load _ _, _, _, _, _⟩ :: _) _ _ _; first | refine lbx rfl spL (by rfl) ?_ | refine lba rfl spL (by rfl) ?_) | refine slen rfl ?_ | refine fad rfl ?_ | (show SH _ _ _ _ _ (⟨_, .store _ _ _, _, _, _, _⟩ :: _) _ _ _; refine sta rfl rfl rfl spL (by rfl) (by rfl) (by rfl) kpL ?_)) | refine s_nil ?_ | refine kh_normal ?_ | refine kh_exit ?_ | refine bh_exit ?_))
    exact rhC rfl rfl rfl (fun w hw => loadVar_bx hw spL (by rfl)) ⟨A1, c1, M, hMK, by omega, rfl, rfl⟩ (Ent.trans (B := kno Ψ :: H) enL (ent_ref_fwd hΨ))
end Go.Proofs.YtlfbcoohfnoacaaGreat

