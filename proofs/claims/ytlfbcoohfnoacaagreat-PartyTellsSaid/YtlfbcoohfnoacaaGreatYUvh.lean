/- Package party: Create. -/
import Derived.Test.YtlfbcoohfnoacaaGreatYTwp
import Derived.Test.YtlfbcoohfnoacaaGreatYMp
import Derived.Test.YtlfbcoohfnoacaaGreatYWz
import Derived.Test.YtlfbcoohfnoacaaGreatYUvg
set_option linter.unusedSimpArgs false
set_option linter.unusedVariables false
namespace Go.Proofs.YtlfbcoohfnoacaaGreat
open Go.Fw Go.RowKit
/-- A hall's own rows can be read. -/
theorem rows_rd {w0 w : World} {G : List HP} {A : Option Addr} {c : Nat} {L : List PtyP} (hs : Ent G [orow 46 A c L, allH (L.map rowM), allH (L.map rowI)]) (hw : Wd w0 G w) : RdP w A L :=
  Wd.kp (Ent.wd (hs.trans ent_knp) hw) Split.head
set_option maxRecDepth 100000 in
theorem cre11_spec (x : PtyP) (i : Inv) (who : Int) (a : Addr) (w : World) (h1 : w.cell? a = some (.int .i64 who)) : Ret Tryz.prog 56 [.agg (Flat.enc x).toArray, .agg (Flat.enc i).toArray, .pointer (some a)].toArray w (Out w (.bool (decide (i.who = who)))) := by
  obtain ⟨iw, it⟩ := i
  rw [show Flat.enc (⟨iw, it⟩ : Inv) = [.int .i64 iw, .int .i64 it] from rfl]
  refine enterH Tryz.func56 rfl rfl Tryz.ntmps56 rfl (Wd.refl _) ?_
  (repeat' (first | (show VH _ _ _ _ _ _ _; first | refine v_seq ?_ | refine r_seq ?_ | refine v_ret ?_) | (show SH _ _ _ _ _ (_ :: _) _ _ _; first | (show SH _ _ _ _ _ (⟨_, .assign _, _, _, _, _⟩ :: _) _ _ _; refine asg evL ?_) | refine eql rfl rfl ?_ | (show SH _ _ _ _ _ (⟨_, .load _ _, _, _, _, _⟩ :: _) _ _ _; first | refine lbx rfl spL (by rfl) ?_ | refine lcell rfl (fun w hw => hw.ext.cell (by assumption)) ?_) | refine fad rfl ?_ | (show SH _ _ _ _ _ (⟨_, .box _ _, _, _, _, _⟩ :: _) _ _ _; refine bxx rfl evL rfl (fun b => ?_))) | refine s_nil ?_ | refine kh_normal ?_))
  exact rh1 rfl rfl ⟨rfl, rfl⟩ (ent_nil _)
def creR (t la : Int) (ps : List Pty) (who : Int) : ResP :=
  if isIdB who = true then
    if who ∈ allM ps then (hal0, 361)
    else if ps.length < 32 ∧ la < 1048576 then (⟨t, la + 1, uninvM (fun _ i => decide (i.who = who)) ps ++ [⟨la + 1, who, [who], []⟩]⟩, 0)
    else (hal0, 4)
  else (hal0, 2)
theorem creR0 (t la : Int) (ps : List Pty) (who : Int) : (creR t la ps who).2 ≠ 0 → (creR t la ps who).1 = hal0 := by
  unfold creR
  split
  · split
    · intro _; rfl
    · split
      · intro h; exact absurd rfl h
      · intro _; rfl
  · intro _; rfl
theorem pos_iff (ps : List Pty) (who : Int) : 0 < mget (placesM ps) who ↔ who ∈ allM ps := by simpa using places_pos ps who
set_option maxHeartbeats 1000000 in
set_option maxRecDepth 100000 in
theorem cre1_spec (t la : Int) (L0 : List PtyP) (who : Int) (a : Addr) (w : World) (h0 : 0 ≤ la) (h1 : w.cell? a = some (.int .i64 who)) : Acts w t la L0 54 #[] #[.pointer (some a)] (creR t la (ptys L0) who) := by
  refine acts_of (cap := [.pointer (some a)]) fun w' bh A c L H hz hp hw => ?_
  have hid := fun w => isID_spec who w
  rw [← hp]
  unfold creR
  have hpos := pos_iff (ptys L) who
  by_cases hi : isIdB who = true
  · rw [if_pos hi]
    simp only [hi] at hid
    by_cases hm : who ∈ allM (ptys L)
    · rw [if_pos hm]
      have hpo := hpos.2 hm
      clear hpos
      refine enterH Tryz.func54 rfl rfl Tryz.ntmps54 rfl (by assumption) ?_
      (repeat' (first | (show VH _ _ _ _ _ _ _; first | refine v_seq ?_ | refine r_seq ?_ | refine v_block ?_ | refine v_cond_f rfl tbL ?_) | (show SH _ _ _ _ _ (_ :: _) _ _ _; first | (show SH _ _ _ _ _ (⟨_, .assign _, _, _, _, _⟩ :: _) _ _ _; refine asg evL ?_) | (show SH _ _ _ _ _ (⟨_, .load _ _, _, _, _, _⟩ :: _) _ _ _; refine lcell rfl (fun w hw => hw.ext.cell (by assumption)) ?_) | (show SH _ _ _ _ _ (⟨_, .call ⟨.value (.func 25), _, _⟩, _, _, _, _⟩ :: _) _ _ _; refine cl (callee := .func 25) rfl (fun w hw => hid w) rfl rfl ?_) | refine bnoT rfl ?_) | refine s_nil ?_ | refine kh_normal ?_))
      refine r_heldT [hb36 bh t la A L c] (tr [(0, true), (1, true), (2, true), (4, true), (3, false), (5, false), (6, false), (7, false)] .nil) hmix (by kernel_rfl) enL ?_
      (repeat' ((show SH _ _ _ _ _ (_ :: _) _ _ _; first | (show SH _ _ _ _ _ (⟨_, .move _, _, _, _, _⟩ :: _) _ _ _; refine mov evL ?_) | (show SH _ _ _ _ _ (⟨_, .load _ _, _, _, _, _⟩ :: _) _ _ _; first | refine lba rfl spL (by rfl) ?_ | refine lcell rfl (fun w hw => hw.ext.cell (by assumption)) ?_) | (show SH _ _ _ _ _ (⟨_, .call ⟨.value (.func 23), _, _⟩, _, _, _, _⟩ :: _) _ _ _; refine cp (callee := .func 23) rfl (fun w hw => places_spec t la A L c w hz (rows_rd (c := c) enL hw)) rfl rfl ?_) | refine nlc rfl ?_)))
      rintro _ _ ⟨r, rfl, rfl⟩
      (repeat' (first | (show VH _ _ _ _ _ _ _; first | refine v_seq ?_ | refine r_seq ?_ | refine v_ret ?_ | refine v_cond_t rfl tbL ?_) | (show SH _ _ _ _ _ (_ :: _) _ _ _; first | (show SH _ _ _ _ _ (⟨_, .assign _, _, _, _, _⟩ :: _) _ _ _; refine asg evL ?_) | (show SH _ _ _ _ _ (⟨_, .binOp .gtr _ _ _ _, _, _, _, _⟩ :: _) _ _ _; refine gtrT rfl rfl omD ?_) | (show SH _ _ _ _ _ (⟨_, .lookup _ _ _ false, _, _, _, _⟩ :: _) _ _ _; refine lkm rfl rfl spL ?_)) | refine s_nil ?_ | refine kh_normal ?_ | refine kh_ret ?_ | refine bh_ret ?_))
      exact rh1 rfl rfl ⟨rfl, rfl⟩ enL
    · rw [if_neg hm]
      have hpo : ¬ 0 < mget (placesM (ptys L)) who := fun h => hm (hpos.1 h)
      clear hpos
      rw [ptys_len]
      by_cases hc : L.length < 32 ∧ la < 1048576
      · rw [if_pos hc]
        obtain ⟨c1_, c2_⟩ := hc
        refine enterH Tryz.func54 rfl rfl Tryz.ntmps54 rfl (by assumption) ?_
        (repeat' (first | (show VH _ _ _ _ _ _ _; first | refine v_seq ?_ | refine r_seq ?_ | refine v_block ?_ | refine v_cond_f rfl tbL ?_) | (show SH _ _ _ _ _ (_ :: _) _ _ _; first | (show SH _ _ _ _ _ (⟨_, .assign _, _, _, _, _⟩ :: _) _ _ _; refine asg evL ?_) | (show SH _ _ _ _ _ (⟨_, .load _ _, _, _, _, _⟩ :: _) _ _ _; refine lcell rfl (fun w hw => hw.ext.cell (by assumption)) ?_) | (show SH _ _ _ _ _ (⟨_, .call ⟨.value (.func 25), _, _⟩, _, _, _, _⟩ :: _) _ _ _; refine cl (callee := .func 25) rfl (fun w hw => hid w) rfl rfl ?_) | refine bnoT rfl ?_) | refine s_nil ?_ | refine kh_normal ?_))
        refine r_heldT [hb36 bh t la A L c] (tr [(0, true), (1, true), (2, true), (4, true), (3, false), (5, false), (6, false), (7, false)] .nil) hmix (by kernel_rfl) enL ?_
        (repeat' ((show SH _ _ _ _ _ (_ :: _) _ _ _; first | (show SH _ _ _ _ _ (⟨_, .move _, _, _, _, _⟩ :: _) _ _ _; refine mov evL ?_) | (show SH _ _ _ _ _ (⟨_, .load _ _, _, _, _, _⟩ :: _) _ _ _; first | refine lba rfl spL (by rfl) ?_ | refine lcell rfl (fun w hw => hw.ext.cell (by assumption)) ?_) | (show SH _ _ _ _ _ (⟨_, .call ⟨.value (.func 23), _, _⟩, _, _, _, _⟩ :: _) _ _ _; refine cp (callee := .func 23) rfl (fun w hw => places_spec t la A L c w hz (rows_rd (c := c) enL hw)) rfl rfl ?_) | refine nlc rfl ?_)))
        rintro _ _ ⟨r, rfl, rfl⟩
        (repeat' (first | (show VH _ _ _ _ _ _ _; first | refine v_seq ?_ | refine r_seq ?_ | refine v_skip ?_ | refine v_cond_f rfl tbL ?_) | (show SH _ _ _ _ _ (_ :: _) _ _ _; first | (show SH _ _ _ _ _ (⟨_, _, _, _, _, some _⟩ :: _) _ _ _; (refine gif rfl rfl ?_; refine giFF tbL ?_)) | (show SH _ _ _ _ _ (⟨_, .move _, _, _, _, _⟩ :: _) _ _ _; refine mov evL ?_) | (show SH _ _ _ _ _ (⟨_, .assign _, _, _, _, _⟩ :: _) _ _ _; refine asg evL ?_) | (show SH _ _ _ _ _ (⟨_, .binOp .gtr _ _ _ _, _, _, _, _⟩ :: _) _ _ _; refine gtrF rfl rfl omD ?_) | (show SH _ _ _ _ _ (⟨_, .binOp .geq _ _ _ _, _, _, _, _⟩ :: _) _ _ _; refine geqF rfl rfl omD ?_) | (show SH _ _ _ _ _ (⟨_, .load _ _, _, _, _, _⟩ :: _) _ _ _; refine lbx rfl spL (by rfl) ?_) | refine slen rfl ?_ | (show SH _ _ _ _ _ (⟨_, .lookup _ _ _ false, _, _, _, _⟩ :: _) _ _ _; refine lkm rfl rfl spL ?_) | (show SH _ _ _ _ _ (⟨_, .pick _ _ _, _, _, _, _⟩ :: _) _ _ _; refine pkf rfl tbL evL ?_) | refine nlc rfl ?_ | refine fad rfl ?_ | (show SH _ _ _ _ _ (⟨_, .makeFunc _ _ _, _, _, _, _⟩ :: _) _ _ _; refine mf1 evL ?_)) | refine s_nil ?_ | refine kh_normal ?_ | refine bh_normal ?_))
        refine cm rfl (fun w2 hw2 => uninv_spec t la A L c bh _ (fun _ i => decide (i.who = who)) w H w2 hz ⟨56, #[], #[.pointer (some a)], rfl, fun w3 hw3 x i => cre11_spec x i who a w3 (hw3.ext.cell h1)⟩ (Ent.wd enL hw2)) rfl rfl ?_
        rintro _ _ rfl
        refine ⟨trivial, ?_⟩
        have hul : (L.map (unP fun _ i => decide (i.who = who))).length = L.length := List.length_map ..
        have hup := ptys_un (fun _ i => decide (i.who = who)) L
        generalize L.map (unP fun _ i => decide (i.who = who)) = M at hul hup ⊢
        (repeat' (first | (show VH _ _ _ _ _ _ _; first | refine v_seq ?_ | refine r_seq ?_) | (show SH _ _ _ _ _ (_ :: _) _ _ _; first | (show SH _ _ _ _ _ (⟨_, .move _, _, _, _, _⟩ :: _) _ _ _; refine mov evL ?_) | (show SH _ _ _ _ _ (⟨_, .binOp .add _ _ _ _, _, _, _, _⟩ :: _) _ _ _; refine add rfl rfl inL ?_) | (show SH _ _ _ _ _ (⟨_, .load _ _, _, _, _, _⟩ :: _) _ _ _; refine lbx rfl spL (by rfl) ?_) | refine nlc rfl ?_ | refine fad rfl ?_ | (show SH _ _ _ _ _ (⟨_, .store _ _ _, _, _, _, _⟩ :: _) _ _ _; refine stb rfl rfl evL spL rfl rfl (by first | decide | exact Nat.zero_lt_succ _ | exact of_decide_eq_true rfl) kpL ?_)) | refine s_nil ?_ | refine kh_normal ?_))
        refine r_heldT [] (tr [(0, true), (1, true), (2, true), (3, true), (5, true), (6, true), (7, true), (9, true), (10, true)] (.fork3 4 (tr [] (.fork 8 (tr [(11, false), (12, false), (13, false), (14, false), (15, false), (16, false), (17, false)] .nil) 11 (tr [(8, false), (12, false), (13, false), (14, false), (15, false), (16, false), (17, false)] .nil))) 8 (tr [] (.fork 4 (tr [(11, false), (12, false), (13, false), (14, false), (15, false), (16, false), (17, false)] .nil) 11 (tr [(12, true)] (.fork 4 (tr [(13, false), (14, false), (15, false), (16, false), (17, false)] .nil) 13 (tr [(4, false), (14, false), (15, false), (16, false), (17, false)] .nil))))) 11 (tr [] (.fork 4 (tr [(8, false), (12, false), (13, false), (14, false), (15, false), (16, false), (17, false)] .nil) 8 (tr [(12, true)] (.fork 4 (tr [(13, false), (14, false), (15, false), (16, false), (17, false)] .nil) 13 (tr [(4, false), (14, false), (15, false), (16, false), (17, false)] .nil))))))) hmix (by kernel_rfl) (ent_nil _) ?_
        (repeat' (first | (show SH _ _ _ _ _ (_ :: _) _ _ _; first | (show SH _ _ _ _ _ (⟨_, .move _, _, _, _, _⟩ :: _) _ _ _; refine mov evL ?_) | (show SH _ _ _ _ _ (⟨_, .load _ _, _, _, _, _⟩ :: _) _ _ _; first | refine lbx rfl spL (by rfl) ?_ | refine lcell rfl (fun w hw => hw.ext.cell (by assumption)) ?_) | refine nlc rfl ?_ | refine fad rfl ?_ | refine bld rfl rfl ?_ | (show SH _ _ _ _ _ (⟨_, .buildSlice _ _ _, _, _, _, _⟩ :: _) _ _ _; refine bsl (α := Int) rfl rfl (by repeat (first | exact Vals.nil | (apply Vals.cons; rfl))) rfl (by rfl) (by decide) (fun b => ?_))) | refine s_fork ?_ ?_ | refine s_fork3 ?_ ?_ ?_))
        all_goals
          revert b
          intro bm
          refine bsl (l := [(⟨⟨la + 1, who, [who], []⟩, some ⟨bm, 0, none⟩, 1, none, 0⟩ : PtyP)]) rfl rfl (Vals.cons rfl Vals.nil) rfl rfl (by decide) (fun b9 => ?_)
          (repeat' ((show SH _ _ _ _ _ (_ :: _) _ _ _; (show SH _ _ _ _ _ (⟨_, .load _ _, _, _, _, _⟩ :: _) _ _ _; refine lbx rfl spL (by rfl) ?_))))
          refine app (l := M) (l2 := [(⟨⟨la + 1, who, [who], []⟩, some ⟨bm, 0, none⟩, 1, none, 0⟩ : PtyP)]) rfl rfl rfl spL (fun w hw => hw.rd spL) rfl rfl rfl (by simp only [List.length_singleton]; omega) (by simp only [List.length_singleton]; omega) (fun A4 c4 => ⟨enL, ?_⟩)
          (repeat' (first | (show VH _ _ _ _ _ _ _; first | refine v_seq ?_ | refine r_seq ?_ | refine v_ret ?_) | (show SH _ _ _ _ _ (_ :: _) _ _ _; first | (show SH _ _ _ _ _ (⟨_, .assign _, _, _, _, _⟩ :: _) _ _ _; refine asg evL ?_) | refine nlc rfl ?_ | refine fad rfl ?_ | (show SH _ _ _ _ _ (⟨_, .store _ _ _, _, _, _, _⟩ :: _) _ _ _; refine stb rfl rfl evL spL rfl rfl (by first | decide | exact Nat.zero_lt_succ _ | exact of_decide_eq_true rfl) kpL ?_)) | refine s_nil ?_ | refine kh_normal ?_))
          refine rh1 rfl rfl ⟨rfl, A4, c4, M ++ [(⟨⟨la + 1, who, [who], []⟩, some ⟨bm, 0, none⟩, 1, none, 0⟩ : PtyP)], by rw [ptys_snoc, hup], rfl⟩ ?_
          refine Ent.trans (B := rowM (⟨⟨la + 1, who, [who], []⟩, some ⟨bm, 0, none⟩, 1, none, 0⟩ : PtyP) :: allH (M.map rowM) :: rowI (⟨⟨la + 1, who, [who], []⟩, some ⟨bm, 0, none⟩, 1, none, 0⟩ : PtyP) :: allH (M.map rowI) :: hb36 bh t (la + 1) A4 (M ++ [(⟨⟨la + 1, who, [who], []⟩, some ⟨bm, 0, none⟩, 1, none, 0⟩ : PtyP)]) c4 :: orow 46 A4 c4 (M ++ [(⟨⟨la + 1, who, [who], []⟩, some ⟨bm, 0, none⟩, 1, none, 0⟩ : PtyP)]) :: H) enL ?_
          exact Ent.trans (ent_all_snoc (f := rowM)) (Ent.trans (ent_cons Split.head (ent_all_snoc (f := rowI))) enL)
      · rw [if_neg hc]
        have hcc : Hid _ := hc
        clear hc
        refine enterH Tryz.func54 rfl rfl Tryz.ntmps54 rfl (by assumption) ?_
        (repeat' (first | (show VH _ _ _ _ _ _ _; first | refine v_seq ?_ | refine r_seq ?_ | refine v_block ?_ | refine v_cond_f rfl tbL ?_) | (show SH _ _ _ _ _ (_ :: _) _ _ _; first | (show SH _ _ _ _ _ (⟨_, .assign _, _, _, _, _⟩ :: _) _ _ _; refine asg evL ?_) | (show SH _ _ _ _ _ (⟨_, .load _ _, _, _, _, _⟩ :: _) _ _ _; refine lcell rfl (fun w hw => hw.ext.cell (by assumption)) ?_) | (show SH _ _ _ _ _ (⟨_, .call ⟨.value (.func 25), _, _⟩, _, _, _, _⟩ :: _) _ _ _; refine cl (callee := .func 25) rfl (fun w hw => hid w) rfl rfl ?_) | refine bnoT rfl ?_) | refine s_nil ?_ | refine kh_normal ?_))
        refine r_heldT [hb36 bh t la A L c] (tr [(0, true), (1, true), (2, true), (4, true), (3, false), (5, false), (6, false), (7, false)] .nil) hmix (by kernel_rfl) enL ?_
        (repeat' ((show SH _ _ _ _ _ (_ :: _) _ _ _; first | (show SH _ _ _ _ _ (⟨_, .move _, _, _, _, _⟩ :: _) _ _ _; refine mov evL ?_) | (show SH _ _ _ _ _ (⟨_, .load _ _, _, _, _, _⟩ :: _) _ _ _; first | refine lba rfl spL (by rfl) ?_ | refine lcell rfl (fun w hw => hw.ext.cell (by assumption)) ?_) | (show SH _ _ _ _ _ (⟨_, .call ⟨.value (.func 23), _, _⟩, _, _, _, _⟩ :: _) _ _ _; refine cp (callee := .func 23) rfl (fun w hw => places_spec t la A L c w hz (rows_rd (c := c) enL hw)) rfl rfl ?_) | refine nlc rfl ?_)))
        rintro _ _ ⟨r, rfl, rfl⟩
        (repeat' (first | (show VH _ _ _ _ _ _ _; first | refine v_seq ?_ | refine r_seq ?_ | refine v_ret ?_ | refine v_skip ?_ | refine v_cond_t rfl tbL ?_ | refine v_cond_f rfl tbL ?_ | refine v_cond_dec rfl (fun h => ?_) (fun h => ?_)) | (show SH _ _ _ _ _ (_ :: _) _ _ _; first | (show SH _ _ _ _ _ (⟨_, _, _, _, _, some _⟩ :: _) _ _ _; (refine gif rfl rfl ?_; first | refine giFF tbL ?_ | refine giFT tbL ?_ | refine giFd (fun h => ?_) (fun h => ?_))) | (show SH _ _ _ _ _ (⟨_, .move _, _, _, _, _⟩ :: _) _ _ _; refine mov evL ?_) | (show SH _ _ _ _ _ (⟨_, .assign _, _, _, _, _⟩ :: _) _ _ _; refine asg evL ?_) | (show SH _ _ _ _ _ (⟨_, .binOp .gtr _ _ _ _, _, _, _, _⟩ :: _) _ _ _; refine gtrF rfl rfl omD ?_) | refine geq rfl rfl ?_ | (show SH _ _ _ _ _ (⟨_, .load _ _, _, _, _, _⟩ :: _) _ _ _; refine lbx rfl spL (by rfl) ?_) | refine slen rfl ?_ | (show SH _ _ _ _ _ (⟨_, .lookup _ _ _ false, _, _, _, _⟩ :: _) _ _ _; refine lkm rfl rfl spL ?_) | (show SH _ _ _ _ _ (⟨_, .pick _ _ _, _, _, _, _⟩ :: _) _ _ _; first | refine pkt rfl tbL evL ?_ | refine pkf rfl tbL evL ?_) | refine nlc rfl ?_ | refine fad rfl ?_ | (show SH _ _ _ _ _ (⟨_, .makeFunc _ _ _, _, _, _, _⟩ :: _) _ _ _; refine mf1 evL ?_)) | refine s_nil ?_ | refine kh_normal ?_ | refine kh_ret ?_ | refine bh_normal ?_ | refine bh_ret ?_))
        all_goals first
          | exact rh1 rfl rfl ⟨rfl, rfl⟩ enL
          | exact absurd ⟨by omega, by omega⟩ hcc
  · rw [if_neg hi]
    simp only [Bool.eq_false_iff.2 hi] at hid
    clear hpos
    refine enterH Tryz.func54 rfl rfl Tryz.ntmps54 rfl (by assumption) ?_
    (repeat' (first | (show VH _ _ _ _ _ _ _; first | refine v_seq ?_ | refine r_seq ?_ | refine v_block ?_ | refine v_ret ?_ | refine v_cond_t rfl tbL ?_) | (show SH _ _ _ _ _ (_ :: _) _ _ _; first | (show SH _ _ _ _ _ (⟨_, .assign _, _, _, _, _⟩ :: _) _ _ _; refine asg evL ?_) | (show SH _ _ _ _ _ (⟨_, .load _ _, _, _, _, _⟩ :: _) _ _ _; refine lcell rfl (fun w hw => hw.ext.cell (by assumption)) ?_) | (show SH _ _ _ _ _ (⟨_, .call ⟨.value (.func 25), _, _⟩, _, _, _, _⟩ :: _) _ _ _; refine cl (callee := .func 25) rfl (fun w hw => hid w) rfl rfl ?_) | refine bnoF rfl ?_) | refine s_nil ?_ | refine kh_normal ?_ | refine kh_ret ?_ | refine bh_ret ?_))
    exact rh1 rfl rfl ⟨rfl, rfl⟩ enL
end Go.Proofs.YtlfbcoohfnoacaaGreat
