/- Package auction: Cancel. -/
import Derived.Test.YtehjdbgijibmcaaZCk
set_option linter.unusedSimpArgs false
set_option linter.unusedVariables false
namespace Go.Proofs.Ytehjdbgijibmcaa
open Go.Fw Go.RowKit
set_option maxHeartbeats 1000000 in
set_option maxRecDepth 100000 in
theorem cancel_spec (A : Option Addr) (c0 : Nat) (h : House) (id who : Int) (w : World) (hl : h.lots.length ≤ 1000000) (hr : Rd w A h.lots) :
    Ret Try.prog 30 [hv A c0 h, .int .i64 id, .int .i64 who].toArray w (RP w (OutR (cancelH h id who))) := by
  have hls := fun w hr => lot_spec A c0 h id w hl hr
  have hos := fun w hr => own_spec A c0 h w hl hr
  unfold lotF at hls
  unfold cancelH
  obtain ⟨tick, last, lots⟩ := h
  simp only at hl hr
  cases hval : validH ⟨tick, last, lots⟩ with
  | false =>
    rw [hval] at hls
    unfold hv at hls ⊢
    simp only at hls ⊢
    refine enterH Try.func30 rfl rfl Try.ntmps30 rfl (Wd.refl _) ?_
    (repeat' (first | (show VH _ _ _ _ _ _ _; first | refine v_seq ?_ | refine r_seq ?_ | refine v_block ?_ | refine v_ret ?_ | refine v_cond_t rfl tbL ?_) | (show SH _ _ _ _ _ (_ :: _) _ _ _; first | refine mov evL ?_ | refine asg evL ?_ | refine neq rfl rfl ?_ | refine lba rfl spL (by rfl) ?_ | (show SH _ _ _ _ _ (⟨_, .call ⟨.value (.func 35), _, _⟩, _, _, _, _⟩ :: _) _ _ _; refine cl (callee := .func 35) rfl (fun w hw => hls _ (hr.ext hw.ext)) rfl rfl ?_) | refine extr rfl rfl ?_ | refine bld rfl rfl ?_ | refine ala rfl (fun b => ?_) | refine bxx rfl evL rfl (fun b => ?_) | refine sta rfl rfl rfl spL (by rfl) (by rfl) (by rfl) kpL ?_) | refine s_nil ?_ | refine kh_normal ?_ | refine kh_ret ?_ | refine bh_ret ?_))
    exact rhC3 rfl rfl rfl rfl rfl (fun w hw => loadVar_bx hw spL (by rfl)) ⟨none, 0, none, 0, rfl, rfl⟩ ent_res0
  | true =>
    rw [hval] at hls
    cases hidx : idxL (fun l => decide (l.id = id)) lots with
    | none =>
      simp only [hidx] at hls ⊢
      unfold hv at hls ⊢
      simp only at hls ⊢
      refine enterH Try.func30 rfl rfl Try.ntmps30 rfl (Wd.refl _) ?_
      (repeat' (first | (show VH _ _ _ _ _ _ _; first | refine v_seq ?_ | refine r_seq ?_ | refine v_block ?_ | refine v_ret ?_ | refine v_cond_t rfl tbL ?_) | (show SH _ _ _ _ _ (_ :: _) _ _ _; first | refine mov evL ?_ | refine asg evL ?_ | refine neq rfl rfl ?_ | refine lba rfl spL (by rfl) ?_ | (show SH _ _ _ _ _ (⟨_, .call ⟨.value (.func 35), _, _⟩, _, _, _, _⟩ :: _) _ _ _; refine cl (callee := .func 35) rfl (fun w hw => hls _ (hr.ext hw.ext)) rfl rfl ?_) | refine extr rfl rfl ?_ | refine bld rfl rfl ?_ | refine ala rfl (fun b => ?_) | refine bxx rfl evL rfl (fun b => ?_) | refine sta rfl rfl rfl spL (by rfl) (by rfl) (by rfl) kpL ?_) | refine s_nil ?_ | refine kh_normal ?_ | refine kh_ret ?_ | refine bh_ret ?_))
      exact rhC3 rfl rfl rfl rfl rfl (fun w hw => loadVar_bx hw spL (by rfl)) ⟨none, 0, none, 0, rfl, rfl⟩ ent_res0
    | some i =>
      have hi := (idxL_some hidx).1
      by_cases hsel : (lots.getD i Flat.dflt).seller = who
      · by_cases hld : (lots.getD i Flat.dflt).leader = 0
        · simp only [hidx, if_pos hsel, if_pos hld, if_true] at hls ⊢
          unfold hv at hls hos ⊢
          simp only at hls hos ⊢
          refine enterH Try.func30 rfl rfl Try.ntmps30 rfl (Wd.refl _) ?_
          (repeat' (first | (show VH _ _ _ _ _ _ _; first | refine v_seq ?_ | refine r_seq ?_ | refine v_block ?_ | refine v_skip ?_ | refine v_cond_f rfl tbL ?_) | (show SH _ _ _ _ _ (_ :: _) _ _ _; first | refine mov evL ?_ | refine asg evL ?_ | refine neq rfl rfl ?_ | (show SH _ _ _ _ _ (⟨_, .load _ _, _, _, _, _⟩ :: _) _ _ _; first | refine lbx rfl spL (by rfl) ?_ | refine lba rfl spL (by rfl) ?_ | refine lrf rfl (fun _ _ => rdL) (by rfl) omL (by rfl) ?_) | refine ix rfl rfl (by with_reducible rfl) (fun _ _ => rdL) (by rfl) omL omL ?_ | (show SH _ _ _ _ _ (⟨_, .call ⟨.value (.func 35), _, _⟩, _, _, _, _⟩ :: _) _ _ _; refine cl (callee := .func 35) rfl (fun w hw => hls _ (hr.ext hw.ext)) rfl rfl ?_) | (show SH _ _ _ _ _ (⟨_, .call ⟨.value (.func 33), _, _⟩, _, _, _, _⟩ :: _) _ _ _; refine cp (callee := .func 33) rfl (fun w hw => hos _ (hr.ext hw.ext)) rfl rfl ?_) | refine extr rfl rfl ?_ | refine fad rfl ?_ | refine ala rfl (fun b => ?_) | refine bxx rfl evL rfl (fun b => ?_)) | refine s_nil ?_ | refine kh_normal ?_ | refine bh_normal ?_))
          rintro _ _ ⟨A1, c1, rfl, rfl⟩
          (repeat' (first | (show VH _ _ _ _ _ _ _; first | refine v_seq ?_ | refine r_seq ?_) | (show SH _ _ _ _ _ (_ :: _) _ _ _; first | refine mov evL ?_ | refine add rfl rfl inL ?_ | (show SH _ _ _ _ _ (⟨_, .load _ _, _, _, _, _⟩ :: _) _ _ _; first | refine lbx rfl spL (by rfl) ?_ | refine lra rfl (fun _ _ => rdL) (by rfl) omL ?_) | refine ix rfl rfl (by with_reducible rfl) (fun _ _ => rdL) (by rfl) omL omL ?_ | refine fad rfl ?_ | refine ala rfl (fun b => ?_) | refine sta rfl rfl rfl spL (by rfl) (by rfl) (by rfl) kpL ?_) | refine s_nil ?_ | refine kh_normal ?_))
          rename_i bh br
          refine cm rfl (fun w hw => deleteLt_spec A1 lots c1 i _ [bx _ 38 _, bx bh 26 _, bx br 26 _] w hi hl (Ent.wd enL hw)) rfl rfl ?_
          rintro _ _ ⟨rfl, rfl⟩
          refine ⟨trivial, ?_⟩
          (repeat' (first | refine v_seq ?_ | (show SH _ _ _ _ _ (_ :: _) _ _ _; first | refine fad rfl ?_ | refine stb rfl rfl evL spL rfl rfl (by first | decide | exact Nat.zero_lt_succ _ | exact of_decide_eq_true rfl) kpL ?_) | refine s_nil ?_ | refine kh_normal ?_))
          refine r_held [bx _ 38 _, bx bh 26 _] [(0, true), (1, true), (2, true), (3, true), (4, true), (5, false), (6, false), (7, false), (8, false), (9, false), (10, false), (11, false), (12, false)] hmix (by kernel_rfl) enL ?_
          (repeat' ((show SH _ _ _ _ _ (_ :: _) _ _ _; first | (show SH _ _ _ _ _ (⟨_, .load _ _, _, _, _, _⟩ :: _) _ _ _; first | refine lbx rfl spL (by rfl) ?_ | refine lba rfl spL (by rfl) ?_) | refine fad rfl ?_ | refine bld rfl rfl ?_)))
          refine bsl (l := [(⟨0, (lots.getD i Flat.dflt).seller, (lots.getD i Flat.dflt).item, (lots.getD i Flat.dflt).count⟩ : Mv)]) rfl rfl (Vals.cons rfl Vals.nil) rfl rfl (by decide) (fun b3 => ?_)
          refine cm rfl (fun w hw => moves_spec (some ⟨b3, 0, none⟩) [(⟨0, (lots.getD i Flat.dflt).seller, (lots.getD i Flat.dflt).item, (lots.getD i Flat.dflt).count⟩ : Mv)] 1 _ _ w (by simp) hw) rfl rfl ?_
          rintro _ _ ⟨rfl, rfl⟩
          refine ⟨enL, ?_⟩
          (repeat' (first | refine v_ret ?_ | (show SH _ _ _ _ _ (_ :: _) _ _ _; first | refine asg evL ?_ | refine sta rfl rfl rfl spL (by rfl) (by rfl) (by rfl) kpL ?_) | refine s_nil ?_ | refine kh_normal ?_))
          exact rhC3 rfl rfl rfl rfl rfl (fun w hw => loadVar_bx hw spL (by rfl)) ⟨A1, c1, some ⟨b3, 0, none⟩, 1, rfl, rfl⟩ enL
        · simp only [hidx, if_pos hsel, if_neg hld, if_true] at hls ⊢
          unfold hv at hls ⊢
          simp only at hls ⊢
          refine enterH Try.func30 rfl rfl Try.ntmps30 rfl (Wd.refl _) ?_
          (repeat' (first | (show VH _ _ _ _ _ _ _; first | refine v_seq ?_ | refine r_seq ?_ | refine v_block ?_ | refine v_ret ?_ | refine v_cond_t rfl tbL ?_ | refine v_cond_f rfl tbL ?_) | (show SH _ _ _ _ _ (_ :: _) _ _ _; first | refine mov evL ?_ | refine asg evL ?_ | refine neq rfl rfl ?_ | (show SH _ _ _ _ _ (⟨_, .load _ _, _, _, _, _⟩ :: _) _ _ _; first | refine lbx rfl spL (by rfl) ?_ | refine lba rfl spL (by rfl) ?_ | refine lrf rfl (fun _ _ => rdL) (by rfl) omL (by rfl) ?_) | refine ix rfl rfl (by with_reducible rfl) (fun _ _ => rdL) (by rfl) omL omL ?_ | (show SH _ _ _ _ _ (⟨_, .call ⟨.value (.func 35), _, _⟩, _, _, _, _⟩ :: _) _ _ _; refine cl (callee := .func 35) rfl (fun w hw => hls _ (hr.ext hw.ext)) rfl rfl ?_) | refine extr rfl rfl ?_ | refine fad rfl ?_ | refine bld rfl rfl ?_ | refine ala rfl (fun b => ?_) | refine bxx rfl evL rfl (fun b => ?_) | refine sta rfl rfl rfl spL (by rfl) (by rfl) (by rfl) kpL ?_) | refine s_nil ?_ | refine kh_normal ?_ | refine kh_ret ?_ | refine bh_ret ?_))
          exact rhC3 rfl rfl rfl rfl rfl (fun w hw => loadVar_bx hw spL (by rfl)) ⟨none, 0, none, 0, rfl, rfl⟩ ent_res0
      · simp only [hidx, if_neg hsel, if_true] at hls ⊢
        unfold hv at hls ⊢
        simp only at hls ⊢
        refine enterH Try.func30 rfl rfl Try.ntmps30 rfl (Wd.refl _) ?_
        (repeat' (first | (show VH _ _ _ _ _ _ _; first | refine v_seq ?_ | refine r_seq ?_ | refine v_block ?_ | refine v_ret ?_ | refine v_cond_t rfl tbL ?_ | refine v_cond_f rfl tbL ?_) | (show SH _ _ _ _ _ (_ :: _) _ _ _; first | refine mov evL ?_ | refine asg evL ?_ | refine neq rfl rfl ?_ | (show SH _ _ _ _ _ (⟨_, .load _ _, _, _, _, _⟩ :: _) _ _ _; first | refine lbx rfl spL (by rfl) ?_ | refine lba rfl spL (by rfl) ?_ | refine lrf rfl (fun _ _ => rdL) (by rfl) omL (by rfl) ?_) | refine ix rfl rfl (by with_reducible rfl) (fun _ _ => rdL) (by rfl) omL omL ?_ | (show SH _ _ _ _ _ (⟨_, .call ⟨.value (.func 35), _, _⟩, _, _, _, _⟩ :: _) _ _ _; refine cl (callee := .func 35) rfl (fun w hw => hls _ (hr.ext hw.ext)) rfl rfl ?_) | refine extr rfl rfl ?_ | refine fad rfl ?_ | refine bld rfl rfl ?_ | refine ala rfl (fun b => ?_) | refine bxx rfl evL rfl (fun b => ?_) | refine sta rfl rfl rfl spL (by rfl) (by rfl) (by rfl) kpL ?_) | refine s_nil ?_ | refine kh_normal ?_ | refine kh_ret ?_ | refine bh_ret ?_))
        exact rhC3 rfl rfl rfl rfl rfl (fun w hw => loadVar_bx hw spL (by rfl)) ⟨none, 0, none, 0, rfl, rfl⟩ ent_res0
end Go.Proofs.Ytehjdbgijibmcaa
