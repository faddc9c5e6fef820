/- Package auction: Bid, in full. -/
import Derived.Test.YtehjdbgijibmcaaZCh
set_option linter.unusedSimpArgs false
set_option linter.unusedVariables false
namespace Go.Proofs.Ytehjdbgijibmcaa
open Go.Fw Go.RowKit
set_option maxHeartbeats 1000000 in
set_option maxRecDepth 100000 in
theorem bid_spec (A : Option Addr) (c0 : Nat) (h : House) (id who most : Int) (w : World) (hl : h.lots.length ≤ 1000000) (hr : Rd w A h.lots) :
    Ret Try.prog 15 [hv A c0 h, .int .i64 id, .int .i64 who, .int .i64 most].toArray w (RP w (OutR (bidH h id who most))) := by
  have hls := fun w hr => lot_spec A c0 h id w hl hr
  unfold lotF at hls
  unfold bidH
  obtain ⟨tick, last, lots⟩ := h
  simp only at hl hr
  cases hval : validH ⟨tick, last, lots⟩ with
  | false =>
    rw [hval] at hls
    unfold hv at hls ⊢
    simp only at hls ⊢
    refine enterH Try.func15 rfl rfl Try.ntmps15 rfl (Wd.refl _) ?_
    (repeat' (first | (show VH _ _ _ _ _ _ _; first | refine v_seq ?_ | refine r_seq ?_ | refine v_block ?_ | refine v_ret ?_ | refine v_cond_t rfl tbL ?_) | (show SH _ _ _ _ _ (_ :: _) _ _ _; first | refine mov evL ?_ | refine asg evL ?_ | refine neq rfl rfl ?_ | refine lba rfl spL (by rfl) ?_ | (show SH _ _ _ _ _ (⟨_, .call ⟨.value (.func 35), _, _⟩, _, _, _, _⟩ :: _) _ _ _; refine cl (callee := .func 35) rfl (fun w hw => hls _ (hr.ext hw.ext)) rfl rfl ?_) | refine extr rfl rfl ?_ | refine bld rfl rfl ?_ | refine ala rfl (fun b => ?_) | refine bxx rfl evL rfl (fun b => ?_) | refine sta rfl rfl rfl spL (by rfl) (by rfl) (by rfl) kpL ?_) | refine s_nil ?_ | refine kh_normal ?_ | refine kh_ret ?_ | refine bh_ret ?_))
    exact rhC3 rfl rfl rfl rfl rfl (fun w hw => loadVar_bx hw spL (by rfl)) ⟨none, 0, none, 0, rfl, rfl⟩ ent_res0
  | true =>
    rw [hval] at hls
    cases hidx : idxL (fun l => decide (l.id = id)) lots with
    | none =>
      simp only [hidx] at hls ⊢
      unfold hv at hls ⊢
      simp only at hls ⊢
      refine enterH Try.func15 rfl rfl Try.ntmps15 rfl (Wd.refl _) ?_
      (repeat' (first | (show VH _ _ _ _ _ _ _; first | refine v_seq ?_ | refine r_seq ?_ | refine v_block ?_ | refine v_ret ?_ | refine v_cond_t rfl tbL ?_) | (show SH _ _ _ _ _ (_ :: _) _ _ _; first | refine mov evL ?_ | refine asg evL ?_ | refine neq rfl rfl ?_ | refine lba rfl spL (by rfl) ?_ | (show SH _ _ _ _ _ (⟨_, .call ⟨.value (.func 35), _, _⟩, _, _, _, _⟩ :: _) _ _ _; refine cl (callee := .func 35) rfl (fun w hw => hls _ (hr.ext hw.ext)) rfl rfl ?_) | refine extr rfl rfl ?_ | refine bld rfl rfl ?_ | refine ala rfl (fun b => ?_) | refine bxx rfl evL rfl (fun b => ?_) | refine sta rfl rfl rfl spL (by rfl) (by rfl) (by rfl) kpL ?_) | refine s_nil ?_ | refine kh_normal ?_ | refine kh_ret ?_ | refine bh_ret ?_))
      exact rhC3 rfl rfl rfl rfl rfl (fun w hw => loadVar_bx hw spL (by rfl)) ⟨none, 0, none, 0, rfl, rfl⟩ ent_res0
    | some i =>
      have hi := (idxL_some hidx).1
      cases h1 : inB who 1 65536 with
      | false =>
        have in1 := h1 ▸ in_spec who 1 65536
        simp only [hidx] at hls ⊢
        unfold hv at hls ⊢
        simp only at hls ⊢
        refine enterH Try.func15 rfl rfl Try.ntmps15 rfl (Wd.refl _) ?_
        (repeat' (first | (show VH _ _ _ _ _ _ _; first | refine v_seq ?_ | refine r_seq ?_ | refine v_block ?_ | refine v_ret ?_ | refine v_cond_t rfl tbL ?_ | refine v_cond_f rfl tbL ?_) | (show SH _ _ _ _ _ (_ :: _) _ _ _; first | (refine gif rfl rfl ?_; refine giFT tbL ?_) | refine mov evL ?_ | refine asg evL ?_ | refine neq rfl rfl ?_ | refine lba rfl spL (by rfl) ?_ | (show SH _ _ _ _ _ (⟨_, .call ⟨.value (.func 35), _, _⟩, _, _, _, _⟩ :: _) _ _ _; refine cl (callee := .func 35) rfl (fun w hw => hls _ (hr.ext hw.ext)) rfl rfl ?_) | (show SH _ _ _ _ _ (⟨_, .call ⟨.value (.func 31), _, _⟩, _, _, _, _⟩ :: _) _ _ _; refine cl (callee := .func 31) rfl (fun w hw => in1 w) rfl rfl ?_) | refine pkt rfl tbL evL ?_ | refine bnot rfl ?_ | refine extr rfl rfl ?_ | refine bld rfl rfl ?_ | refine ala rfl (fun b => ?_) | refine bxx rfl evL rfl (fun b => ?_) | refine sta rfl rfl rfl spL (by rfl) (by rfl) (by rfl) kpL ?_) | refine s_nil ?_ | refine kh_normal ?_ | refine kh_ret ?_ | refine bh_ret ?_))
        exact rhC3 rfl rfl rfl rfl rfl (fun w hw => loadVar_bx hw spL (by rfl)) ⟨none, 0, none, 0, rfl, rfl⟩ ent_res0
      | true =>
        have in1 := h1 ▸ in_spec who 1 65536
        cases h2 : inB most 1 2147483647 with
        | false =>
          have in2 := h2 ▸ in_spec most 1 2147483647
          simp only [hidx] at hls ⊢
          unfold hv at hls ⊢
          simp only at hls ⊢
          refine enterH Try.func15 rfl rfl Try.ntmps15 rfl (Wd.refl _) ?_
          (repeat' (first | (show VH _ _ _ _ _ _ _; first | refine v_seq ?_ | refine r_seq ?_ | refine v_block ?_ | refine v_ret ?_ | refine v_cond_t rfl tbL ?_ | refine v_cond_f rfl tbL ?_) | (show SH _ _ _ _ _ (_ :: _) _ _ _; first | (refine gif rfl rfl ?_; refine giFF tbL ?_) | refine mov evL ?_ | refine asg evL ?_ | refine neq rfl rfl ?_ | refine lba rfl spL (by rfl) ?_ | (show SH _ _ _ _ _ (⟨_, .call ⟨.value (.func 35), _, _⟩, _, _, _, _⟩ :: _) _ _ _; refine cl (callee := .func 35) rfl (fun w hw => hls _ (hr.ext hw.ext)) rfl rfl ?_) | (show SH _ _ _ _ _ (⟨_, .call ⟨.value (.func 31), _, _⟩, _, _, _, _⟩ :: _) _ _ _; refine cl (callee := .func 31) rfl (fun w hw => in1 w) rfl rfl ?_) | (show SH _ _ _ _ _ (⟨_, .call ⟨.value (.func 31), _, _⟩, _, _, _, _⟩ :: _) _ _ _; refine cl (callee := .func 31) rfl (fun w hw => in2 w) rfl rfl ?_) | refine pkf rfl tbL evL ?_ | refine bnot rfl ?_ | refine extr rfl rfl ?_ | refine bld rfl rfl ?_ | refine ala rfl (fun b => ?_) | refine bxx rfl evL rfl (fun b => ?_) | refine sta rfl rfl rfl spL (by rfl) (by rfl) (by rfl) kpL ?_) | refine s_nil ?_ | refine kh_normal ?_ | refine kh_ret ?_ | refine bh_ret ?_))
          exact rhC3 rfl rfl rfl rfl rfl (fun w hw => loadVar_bx hw spL (by rfl)) ⟨none, 0, none, 0, rfl, rfl⟩ ent_res0
        | true =>
          have in2 := h2 ▸ in_spec most 1 2147483647
          by_cases hsel : (lots.getD i Flat.dflt).seller = who
          · simp only [hidx, if_pos hsel, Bool.and_self, if_true] at hls ⊢
            unfold hv at hls ⊢
            simp only at hls ⊢
            refine enterH Try.func15 rfl rfl Try.ntmps15 rfl (Wd.refl _) ?_
            (repeat' (first | (show VH _ _ _ _ _ _ _; first | refine v_seq ?_ | refine r_seq ?_ | refine v_block ?_ | refine v_ret ?_ | refine v_cond_t rfl tbL ?_ | refine v_cond_f rfl tbL ?_) | (show SH _ _ _ _ _ (_ :: _) _ _ _; first | (refine gif rfl rfl ?_; refine giFF tbL ?_) | refine mov evL ?_ | refine asg evL ?_ | (show SH _ _ _ _ _ (⟨_, .binOp _ _ _ _ _, _, _, _, _⟩ :: _) _ _ _; first | refine eql rfl rfl ?_ | refine neq rfl rfl ?_) | (show SH _ _ _ _ _ (⟨_, .load _ _, _, _, _, _⟩ :: _) _ _ _; first | refine lbx rfl spL (by rfl) ?_ | refine lba rfl spL (by rfl) ?_ | refine lrf rfl (fun _ _ => rdL) (by rfl) omL (by rfl) ?_) | refine ix rfl rfl (by with_reducible rfl) (fun _ _ => rdL) (by rfl) omL omL ?_ | (show SH _ _ _ _ _ (⟨_, .call ⟨.value (.func 35), _, _⟩, _, _, _, _⟩ :: _) _ _ _; refine cl (callee := .func 35) rfl (fun w hw => hls _ (hr.ext hw.ext)) rfl rfl ?_) | (show SH _ _ _ _ _ (⟨_, .call ⟨.value (.func 31), _, _⟩, _, _, _, _⟩ :: _) _ _ _; refine cl (callee := .func 31) rfl (fun w hw => in1 w) rfl rfl ?_) | (show SH _ _ _ _ _ (⟨_, .call ⟨.value (.func 31), _, _⟩, _, _, _, _⟩ :: _) _ _ _; refine cl (callee := .func 31) rfl (fun w hw => in2 w) rfl rfl ?_) | refine pkf rfl tbL evL ?_ | refine bnot rfl ?_ | refine extr rfl rfl ?_ | refine fad rfl ?_ | refine bld rfl rfl ?_ | refine ala rfl (fun b => ?_) | refine bxx rfl evL rfl (fun b => ?_) | refine sta rfl rfl rfl spL (by rfl) (by rfl) (by rfl) kpL ?_) | refine s_nil ?_ | refine kh_normal ?_ | refine kh_ret ?_ | refine bh_ret ?_))
            exact rhC3 rfl rfl rfl rfl rfl (fun w hw => loadVar_bx hw spL (by rfl)) ⟨none, 0, none, 0, rfl, rfl⟩ ent_res0
          · have hb : Ret Try.prog 15 [hv A c0 ⟨tick, last, lots⟩, .int .i64 id, .int .i64 who, .int .i64 most].toArray w (RP w (OutR (bidR tick last lots i who most))) := by
              by_cases k0 : (lots.getD i Flat.dflt).leader = 0
              · exact bidW0_spec A c0 tick last lots id who most i w hl hr hval hidx h1 h2 hsel k0
              · by_cases k1 : (lots.getD i Flat.dflt).leader = who
                · exact bidW1_spec A c0 tick last lots id who most i w hl hr hval hidx h1 h2 hsel k0 k1
                · by_cases k2 : (lots.getD i Flat.dflt).most < most
                  · exact bidW2_spec A c0 tick last lots id who most i w hl hr hval hidx h1 h2 hsel k0 k1 k2
                  · exact bidW3_spec A c0 tick last lots id who most i w hl hr hval hidx h1 h2 hsel k0 k1 k2
            simp only [hidx, if_neg hsel, Bool.and_self, if_true]
            exact hb
end Go.Proofs.Ytehjdbgijibmcaa
