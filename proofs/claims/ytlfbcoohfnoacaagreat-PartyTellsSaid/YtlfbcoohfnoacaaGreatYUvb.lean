/- Package party: places. -/
import Derived.Test.YtlfbcoohfnoacaaGreatYTwp
import Derived.Test.YtlfbcoohfnoacaaGreatYMp
import Derived.Test.YtlfbcoohfnoacaaGreatYWz
import Derived.Test.YtlfbcoohfnoacaaGreatYUva
set_option linter.unusedSimpArgs false
set_option linter.unusedVariables false
namespace Go.Proofs.YtlfbcoohfnoacaaGreat
open Go.Fw Go.RowKit
set_option maxHeartbeats 1000000 in
set_option maxRecDepth 100000 in
theorem places_spec (t la : Int) (A : Option Addr) (L : List PtyP) (c : Nat) (w : World) (hz : SzP L) (hr : RdP w A L) :
    Ret Tryz.prog 23 [hv36 t la A L c].toArray w (RP w fun v H' => ∃ r, v = .map (some r) ∧ H' = [mpp r (placesM (ptys L))]) := by
  have hms := fun w => members_spec t la A L c w
  have hfs := fun l bh J w0 G0 w hr => members1_spec l t la A L c bh J w0 G0 w hz hr
  have hll := hz.len
  refine enterH Tryz.func23 rfl rfl Tryz.ntmps23 rfl (Wd.refl _) ?_
  (repeat' (first | (show VH _ _ _ _ _ _ _; first | refine v_seq ?_ | refine r_seq ?_) | (show SH _ _ _ _ _ (_ :: _) _ _ _; first | (show SH _ _ _ _ _ (⟨_, .assign _, _, _, _, _⟩ :: _) _ _ _; refine asg evL ?_) | (show SH _ _ _ _ _ (⟨_, .load _ _, _, _, _, _⟩ :: _) _ _ _; refine lba rfl spL (by rfl) ?_) | (show SH _ _ _ _ _ (⟨_, .call ⟨.value (.func 63), _, _⟩, _, _, _, _⟩ :: _) _ _ _; refine cp (callee := .func 63) rfl (fun w hw => hms w) rfl rfl ?_) | refine al1 rfl (fun b => ?_) | (show SH _ _ _ _ _ (⟨_, .box _ _, _, _, _, _⟩ :: _) _ _ _; refine bxx rfl evL rfl (fun b => ?_)) | (show SH _ _ _ _ _ (⟨_, .store _ _ _, _, _, _, _⟩ :: _) _ _ _; refine stb rfl rfl evL spL rfl rfl (by first | decide | exact Nat.zero_lt_succ _ | exact of_decide_eq_true rfl) kpL ?_) | refine mkm rfl (fun b => ?_)) | refine s_nil ?_ | refine kh_normal ?_))
  rintro _ _ ⟨bh, rfl, rfl⟩
  (repeat' (first | refine v_block ?_ | refine s_nil ?_ | refine kh_normal ?_))
  rename_i b1 r
  revert b
  intro b2
  refine v_norm [(1,_),(3,_),(8,_)] heL (fun g => ?_)
  refine VH.ent (G := [hb36 bh t la A L c, bx b2 58 [.map (some r)], mpp r [], hb36 b1 t la A L c]) ?_ enL
  refine v_range (lb := [.pointer (some ⟨bh, 0, none⟩)]) rfl rfl ?_
  intro fn l D mk hmk w1 hw1
  have key := hfs l bh (fun k j G => G = [lp l mk .ready none, dfr D, bx b2 58 [.map (some r)], mpp r (plcAt (ptys L) k j), hb36 b1 t la A L c]) w _ w1 hr ?hY ?hE rfl (by rw [plcAt_zero]; exact Ent.wd enL hw1)
  case hY =>
    rintro k j _ hk hj rfl X w2 hw2
    simp only [List.cons_append, List.nil_append] at hw2 ⊢
    have hpk := ptys_at hk
    have hn := plcAt_next (ps := ptys L) (k := k) (j := j) (by rw [hpk]; exact hj)
    rw [hpk] at hn
    generalize (L.getD k Flat.dflt).p.mem.getD j 0 = who at hn ⊢
    refine yld_of (ps := [9, 10]) hmk rfl spL ?_ hw2
    (repeat' (first | (show VH _ _ _ _ _ _ _; first | refine v_seq ?_ | refine r_seq ?_) | (show SH _ _ _ _ _ (_ :: _) _ _ _; (show SH _ _ _ _ _ (⟨_, .assign _, _, _, _, _⟩ :: _) _ _ _; refine asg evL ?_)) | refine s_nil ?_ | refine kh_normal ?_))
    refine ⟨_, spL, ?_⟩
    (repeat' (first | (show VH _ _ _ _ _ _ _; first | refine r_seq ?_ | refine v_block ?_) | (show SH _ _ _ _ _ (_ :: _) _ _ _; first | (show SH _ _ _ _ _ (⟨_, .move _, _, _, _, _⟩ :: _) _ _ _; refine mov evL ?_) | (show SH _ _ _ _ _ (⟨_, .binOp .add _ _ _ _, _, _, _, _⟩ :: _) _ _ _; refine add rfl rfl inL ?_) | (show SH _ _ _ _ _ (⟨_, .load _ _, _, _, _, _⟩ :: _) _ _ _; refine lbx rfl spL (by rfl) ?_) | (show SH _ _ _ _ _ (⟨_, .mapUpdate _ _ _ _, _, _, _, _⟩ :: _) _ _ _; refine mup rfl rfl rfl rfl spL kpL ?_)) | refine s_nil ?_ | refine bh_normal ?_))
    rw [← hn]
    exact ro_normal spL ⟨rfl, _, rfl, rfl⟩ enL
  case hE =>
    rintro k _ hk rfl
    have hpk := ptys_at hk
    have := plcAt_end (ps := ptys L) (k := k) (by rw [ptys_len]; exact hk)
    rw [hpk] at this
    rw [this]
  refine key.mono fun v w3 ⟨H3, ⟨G, hG, hH⟩, hw3⟩ => ⟨_, ⟨.ready, none, hb36 bh t la A L c :: G.tail, ?_, by simp, ?_⟩, hw3⟩
  · rw [hH, hG]; exact spL
  rw [hG]
  have hpl : plcAt (ptys L) L.length 0 = placesM (ptys L) := by rw [← ptys_len]; exact plcAt_all _
  rw [hpl]
  simp only [List.tail_cons]
  (repeat' (first | (show VH _ _ _ _ _ _ _; first | refine v_seq ?_ | refine r_seq ?_ | refine v_ret ?_) | (show SH _ _ _ _ _ (_ :: _) _ _ _; first | (show SH _ _ _ _ _ (⟨_, .assign _, _, _, _, _⟩ :: _) _ _ _; refine asg evL ?_) | (show SH _ _ _ _ _ (⟨_, .load _ _, _, _, _, _⟩ :: _) _ _ _; refine lbx rfl spL (by rfl) ?_)) | refine s_nil ?_ | refine kh_normal ?_ | refine bh_normal ?_))
  refine rh_mark rfl spL ?_
  exact rh1 rfl rfl ⟨r, rfl, rfl⟩ enL
end Go.Proofs.YtlfbcoohfnoacaaGreat
