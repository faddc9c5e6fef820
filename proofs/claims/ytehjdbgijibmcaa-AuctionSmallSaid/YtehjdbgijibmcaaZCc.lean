/- Package auction: Open. -/
import Derived.Test.YtehjdbgijibmcaaZCb
set_option linter.unusedSimpArgs false
set_option linter.unusedVariables false
namespace Go.Proofs.Ytehjdbgijibmcaa
open Go.Fw Go.RowKit
/-- What comes of a thing that is done: a house and moves in memory of their own, and an error. -/
def OutR (r : Res) (v : Value) (H : List HP) : Prop := ∃ A c B d, v = .tuple #[hv A c r.1, .slice B r.2.1.length d, .int .i64 r.2.2] ∧ H = [orow 38 A c r.1.lots, orow 36 B d r.2.1]
theorem ent_res0 {H : List HP} : Ent H [orow 38 none 0 house0.lots, orow 36 none 0 ([] : List Mv)] := ent_nilrow (ent_nilrow (ent_nil _))
set_option maxHeartbeats 1000000 in
set_option maxRecDepth 100000 in
theorem open_spec (A : Option Addr) (c0 : Nat) (h : House) (seller item count reserve ticks : Int) (w : World) (hl : h.lots.length ≤ 1000000) (hr : Rd w A h.lots) :
    Ret Try.prog 13 [hv A c0 h, .int .i64 seller, .int .i64 item, .int .i64 count, .int .i64 reserve, .int .i64 ticks].toArray w (RP w (OutR (openH h seller item count reserve ticks))) := by
  have hvs := fun w hr => valid_spec A c0 h w hl hr
  have hos := fun w hr => own_spec A c0 h w hl hr
  have hrs := fun w h0 => right_spec (newLot h seller item count reserve ticks) h.tick w h0
  have hns : newLot h seller item count reserve ticks = ⟨h.last + 1, seller, item, count, reserve, h.tick + ticks, 0, 0, 0⟩ := rfl
  unfold openH
  obtain ⟨tick, last, lots⟩ := h
  simp only at hl hr hns
  cases hval : validH ⟨tick, last, lots⟩ with
  | false =>
    rw [hval] at hvs
    unfold hv at hvs ⊢
    simp only at hvs ⊢
    refine enterH Try.func13 rfl rfl Try.ntmps13 rfl (Wd.refl _) ?_
    (repeat' (first | (show VH _ _ _ _ _ _ _; first | refine v_seq ?_ | refine r_seq ?_ | refine v_ret ?_ | refine v_cond_t rfl tbL ?_) | (show SH _ _ _ _ _ (_ :: _) _ _ _; first | (refine gif rfl rfl ?_; refine giFT tbL ?_) | refine mov evL ?_ | refine asg evL ?_ | refine lba rfl spL (by rfl) ?_ | (show SH _ _ _ _ _ (⟨_, .call ⟨.value (.func 18), _, _⟩, _, _, _, _⟩ :: _) _ _ _; refine cl (callee := .func 18) rfl (fun w hw => hvs _ (hr.ext hw.ext)) rfl rfl ?_) | refine pkt rfl tbL evL ?_ | refine bnot rfl ?_ | refine bld rfl rfl ?_ | refine ala rfl (fun b => ?_) | refine bxx rfl evL rfl (fun b => ?_) | refine sta rfl rfl rfl spL (by rfl) (by rfl) (by rfl) kpL ?_) | refine s_nil ?_ | refine kh_normal ?_ | refine kh_ret ?_))
    exact rhC3 rfl rfl rfl rfl rfl (fun w hw => loadVar_bx hw spL (by rfl)) ⟨none, 0, none, 0, rfl, rfl⟩ ent_res0
  | true =>
    rw [hval] at hvs
    cases ht : inB ticks 1 10000 with
    | false =>
      have hi := ht ▸ in_spec ticks 1 10000
      unfold hv at hvs ⊢
      simp only at hvs ⊢
      refine enterH Try.func13 rfl rfl Try.ntmps13 rfl (Wd.refl _) ?_
      (repeat' (first | (show VH _ _ _ _ _ _ _; first | refine v_seq ?_ | refine r_seq ?_ | refine v_ret ?_ | refine v_cond_t rfl tbL ?_) | (show SH _ _ _ _ _ (_ :: _) _ _ _; first | (refine gif rfl rfl ?_; refine giFF tbL ?_) | refine mov evL ?_ | refine asg evL ?_ | refine lba rfl spL (by rfl) ?_ | (show SH _ _ _ _ _ (⟨_, .call ⟨.value (.func 18), _, _⟩, _, _, _, _⟩ :: _) _ _ _; refine cl (callee := .func 18) rfl (fun w hw => hvs _ (hr.ext hw.ext)) rfl rfl ?_) | (show SH _ _ _ _ _ (⟨_, .call ⟨.value (.func 31), _, _⟩, _, _, _, _⟩ :: _) _ _ _; refine cl (callee := .func 31) rfl (fun w hw => hi w) rfl rfl ?_) | refine pkf rfl tbL evL ?_ | refine bnot rfl ?_ | refine bld rfl rfl ?_ | refine ala rfl (fun b => ?_) | refine bxx rfl evL rfl (fun b => ?_) | refine sta rfl rfl rfl spL (by rfl) (by rfl) (by rfl) kpL ?_) | refine s_nil ?_ | refine kh_normal ?_ | refine kh_ret ?_))
      exact rhC3 rfl rfl rfl rfl rfl (fun w hw => loadVar_bx hw spL (by rfl)) ⟨none, 0, none, 0, rfl, rfl⟩ ent_res0
    | true =>
      have hi := ht ▸ in_spec ticks 1 10000
      have hV := valid_iff.1 hval
      obtain ⟨ht1, ht2⟩ := inB_iff.1 ht
      obtain ⟨hk1, hk2⟩ := hV.tick
      obtain ⟨hs1, hs2⟩ := hV.last
      simp only at hk1 hk2 hs1 hs2
      simp only [Bool.and_self, if_true]
      rw [hns] at hrs ⊢
      cases hR : rightL (newLot ⟨tick, last, lots⟩ seller item count reserve ticks) tick with
      | false =>
        rw [hns] at hR
        simp only [hR] at hrs ⊢
        unfold hv at hvs ⊢
        simp only at hvs ⊢
        refine enterH Try.func13 rfl rfl Try.ntmps13 rfl (Wd.refl _) ?_
        (repeat' (first | (show VH _ _ _ _ _ _ _; first | refine v_seq ?_ | refine r_seq ?_ | refine v_block ?_ | refine v_ret ?_ | refine v_skip ?_ | refine v_cond_t rfl tbL ?_ | refine v_cond_f rfl tbL ?_) | (show SH _ _ _ _ _ (_ :: _) _ _ _; first | (refine gif rfl rfl ?_; refine giFF tbL ?_) | refine mov evL ?_ | refine asg evL ?_ | refine add rfl rfl inL ?_ | (show SH _ _ _ _ _ (⟨_, .load _ _, _, _, _, _⟩ :: _) _ _ _; first | refine lbx rfl spL (by rfl) ?_ | refine lba rfl spL (by rfl) ?_) | (show SH _ _ _ _ _ (⟨_, .call ⟨.value (.func 18), _, _⟩, _, _, _, _⟩ :: _) _ _ _; refine cl (callee := .func 18) rfl (fun w hw => hvs _ (hr.ext hw.ext)) rfl rfl ?_) | (show SH _ _ _ _ _ (⟨_, .call ⟨.value (.func 31), _, _⟩, _, _, _, _⟩ :: _) _ _ _; refine cl (callee := .func 31) rfl (fun w hw => hi w) rfl rfl ?_) | (show SH _ _ _ _ _ (⟨_, .call ⟨.value (.func 32), _, _⟩, _, _, _, _⟩ :: _) _ _ _; refine cl (callee := .func 32) rfl (fun w hw => hrs w (by omega)) rfl rfl ?_) | refine pkf rfl tbL evL ?_ | refine bnot rfl ?_ | refine fad rfl ?_ | refine bld rfl rfl ?_ | refine ala rfl (fun b => ?_) | refine bxx rfl evL rfl (fun b => ?_) | refine sta rfl rfl rfl spL (by rfl) (by rfl) (by rfl) kpL ?_) | refine s_nil ?_ | refine kh_normal ?_ | refine kh_ret ?_ | refine bh_ret ?_))
        exact rhC3 rfl rfl rfl rfl rfl (fun w hw => loadVar_bx hw spL (by rfl)) ⟨none, 0, none, 0, rfl, rfl⟩ ent_res0
      | true =>
        rw [hns] at hR
        simp only [hR, if_true] at hrs ⊢
        by_cases hful : lots.length < 32 ∧ last < 1048576
        · simp only [if_pos hful]
          obtain ⟨hf1, hf2⟩ := hful
          unfold hv at hvs hos ⊢
          simp only at hvs hos ⊢
          refine enterH Try.func13 rfl rfl Try.ntmps13 rfl (Wd.refl _) ?_
          (repeat' (first | (show VH _ _ _ _ _ _ _; first | refine v_seq ?_ | refine r_seq ?_ | refine v_block ?_ | refine v_skip ?_ | refine v_cond_f rfl tbL ?_) | (show SH _ _ _ _ _ (_ :: _) _ _ _; first | (refine gif rfl rfl ?_; refine giFF tbL ?_) | refine mov evL ?_ | refine asg evL ?_ | (show SH _ _ _ _ _ (⟨_, .binOp _ _ _ _ _, _, _, _, _⟩ :: _) _ _ _; first | refine add rfl rfl inL ?_ | refine geq rfl rfl ?_) | (show SH _ _ _ _ _ (⟨_, .load _ _, _, _, _, _⟩ :: _) _ _ _; first | refine lbx rfl spL (by rfl) ?_ | refine lba rfl spL (by rfl) ?_) | refine slen rfl ?_ | (show SH _ _ _ _ _ (⟨_, .call ⟨.value (.func 18), _, _⟩, _, _, _, _⟩ :: _) _ _ _; refine cl (callee := .func 18) rfl (fun w hw => hvs _ (hr.ext hw.ext)) rfl rfl ?_) | (show SH _ _ _ _ _ (⟨_, .call ⟨.value (.func 31), _, _⟩, _, _, _, _⟩ :: _) _ _ _; refine cl (callee := .func 31) rfl (fun w hw => hi w) rfl rfl ?_) | (show SH _ _ _ _ _ (⟨_, .call ⟨.value (.func 32), _, _⟩, _, _, _, _⟩ :: _) _ _ _; refine cl (callee := .func 32) rfl (fun w hw => hrs w (by omega)) rfl rfl ?_) | (show SH _ _ _ _ _ (⟨_, .call ⟨.value (.func 33), _, _⟩, _, _, _, _⟩ :: _) _ _ _; refine cp (callee := .func 33) rfl (fun w hw => hos w (hr.ext hw.ext)) rfl rfl ?_) | refine pkf rfl tbL evL ?_ | refine bnot rfl ?_ | refine fad rfl ?_ | refine bld rfl rfl ?_ | refine ala rfl (fun b => ?_) | refine bxx rfl evL rfl (fun b => ?_) | refine sta rfl rfl rfl spL (by rfl) (by rfl) (by rfl) kpL ?_) | refine s_nil ?_ | refine kh_normal ?_ | refine bh_normal ?_))
          rintro _ _ ⟨A1, c1, rfl, rfl⟩
          (repeat' (first | (show VH _ _ _ _ _ _ _; first | refine v_seq ?_ | refine r_seq ?_) | (show SH _ _ _ _ _ (_ :: _) _ _ _; first | refine add rfl rfl inL ?_ | (show SH _ _ _ _ _ (⟨_, .load _ _, _, _, _, _⟩ :: _) _ _ _; first | refine lbx rfl spL (by rfl) ?_ | refine lba rfl spL (by rfl) ?_) | refine fad rfl ?_ | refine stb rfl rfl evL spL rfl rfl (by first | decide | exact Nat.zero_lt_succ _ | exact of_decide_eq_true rfl) kpL ?_ | refine sta rfl rfl rfl spL (by rfl) (by rfl) (by rfl) kpL ?_) | refine s_nil ?_ | refine kh_normal ?_))
          refine bsl (l := [(⟨last + 1, seller, item, count, reserve, tick + ticks, 0, 0, 0⟩ : Lot)]) rfl rfl (Vals.cons rfl Vals.nil) rfl rfl (by decide) (fun b2 => ?_)
          refine app rfl rfl rfl spL (fun w hw => hw.rd spL) rfl rfl rfl (by simp only [List.length_cons, List.length_nil]; omega) (by simp only [List.length_cons, List.length_nil]; omega) (fun A2 c2 => ⟨trivial, ?_⟩)
          (repeat' (first | refine v_seq ?_ | (show SH _ _ _ _ _ (_ :: _) _ _ _; first | refine fad rfl ?_ | refine stb rfl rfl evL spL rfl rfl (by first | decide | exact Nat.zero_lt_succ _ | exact of_decide_eq_true rfl) kpL ?_) | refine s_nil ?_ | refine kh_normal ?_))
          refine r_held [bx _ 26 _] [(0, true), (1, true), (2, true), (3, false), (4, false), (5, false), (6, false), (7, false), (8, false), (9, false)] hmix (by kernel_rfl) enL ?_
          (repeat' ((show SH _ _ _ _ _ (_ :: _) _ _ _; first | refine mov evL ?_ | refine lba rfl spL (by rfl) ?_ | refine bld rfl rfl ?_)))
          refine bsl (l := [(⟨seller, 0, item, count⟩ : Mv)]) rfl rfl (Vals.cons rfl Vals.nil) rfl rfl (by decide) (fun b3 => ?_)
          refine cm rfl (fun w hw => moves_spec (some ⟨b3, 0, none⟩) [(⟨seller, 0, item, count⟩ : Mv)] 1 _ _ w (by simp) (Ent.wd enL hw)) rfl rfl ?_
          rintro _ _ ⟨rfl, rfl⟩
          refine ⟨enL, ?_⟩
          (repeat' (first | refine v_ret ?_ | (show SH _ _ _ _ _ (_ :: _) _ _ _; first | refine asg evL ?_ | refine sta rfl rfl rfl spL (by rfl) (by rfl) (by rfl) kpL ?_) | refine s_nil ?_ | refine kh_normal ?_))
          exact rhC3 rfl rfl rfl rfl rfl (fun w hw => loadVar_bx hw spL (by rfl)) ⟨A2, c2, some ⟨b3, 0, none⟩, 1, rfl, rfl⟩ enL
        · simp only [if_neg hful]
          unfold hv at hvs ⊢
          simp only at hvs ⊢
          refine enterH Try.func13 rfl rfl Try.ntmps13 rfl (Wd.refl _) ?_
          (repeat' (first | (show VH _ _ _ _ _ _ _; first | refine v_seq ?_ | refine r_seq ?_ | refine v_block ?_ | refine v_ret ?_ | refine v_skip ?_ | refine v_cond_t rfl tbL ?_ | refine v_cond_f rfl tbL ?_) | (show SH _ _ _ _ _ (_ :: _) _ _ _; first | (refine gif rfl rfl ?_; first | refine giFF tbL ?_ | refine giFT tbL ?_ | refine giFd (fun h => ?_) (fun h => ?_)) | refine mov evL ?_ | refine asg evL ?_ | (show SH _ _ _ _ _ (⟨_, .binOp _ _ _ _ _, _, _, _, _⟩ :: _) _ _ _; first | refine add rfl rfl inL ?_ | refine geq rfl rfl ?_) | (show SH _ _ _ _ _ (⟨_, .load _ _, _, _, _, _⟩ :: _) _ _ _; first | refine lbx rfl spL (by rfl) ?_ | refine lba rfl spL (by rfl) ?_) | refine slen rfl ?_ | (show SH _ _ _ _ _ (⟨_, .call ⟨.value (.func 18), _, _⟩, _, _, _, _⟩ :: _) _ _ _; refine cl (callee := .func 18) rfl (fun w hw => hvs _ (hr.ext hw.ext)) rfl rfl ?_) | (show SH _ _ _ _ _ (⟨_, .call ⟨.value (.func 31), _, _⟩, _, _, _, _⟩ :: _) _ _ _; refine cl (callee := .func 31) rfl (fun w hw => hi w) rfl rfl ?_) | (show SH _ _ _ _ _ (⟨_, .call ⟨.value (.func 32), _, _⟩, _, _, _, _⟩ :: _) _ _ _; refine cl (callee := .func 32) rfl (fun w hw => hrs w (by omega)) rfl rfl ?_) | refine pkt rfl tbL evL ?_ | refine pkf rfl tbL evL ?_ | refine bnot rfl ?_ | refine fad rfl ?_ | refine bld rfl rfl ?_ | refine ala rfl (fun b => ?_) | refine bxx rfl evL rfl (fun b => ?_) | refine sta rfl rfl rfl spL (by rfl) (by rfl) (by rfl) kpL ?_) | refine s_nil ?_ | refine kh_normal ?_ | refine kh_ret ?_ | refine bh_ret ?_))
          all_goals first
            | exact rhC3 rfl rfl rfl rfl rfl (fun w hw => loadVar_bx hw spL (by rfl)) ⟨none, 0, none, 0, rfl, rfl⟩ ent_res0
            | (exfalso; omega)
end Go.Proofs.Ytehjdbgijibmcaa
