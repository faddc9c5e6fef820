/- The reference of layer 34: Cancel. -/
import Derived.Test.YtehjdbgijibmcaaZHb
import Derived.Test.YtehjdbgijibmcaaZVa
set_option linter.unusedSimpArgs false
set_option linter.unusedVariables false
namespace Go.Proofs.Ytehjdbgijibmcaa
open Go.Fw Go.RowKit
set_option maxHeartbeats 4000000 in
set_option maxRecDepth 100000 in
theorem rCancel_spec (A : Option Addr) (c0 : Nat) (h : House) (id who : Int) (w : World) (hl : h.lots.length ≤ 100000) (hc : h.lots.length ≤ c0) (hr : Rd w A h.lots) :
    Ret Try.prog 64 [hv A c0 h, .int .i64 id, .int .i64 who].toArray w (RP w (OutRR (cancelH h id who))) := by
  have hvs := fun w hr => rValid_spec A c0 h w (by omega) hr
  have hfs := fun w hr => rFind_spec A c0 h id w (by omega) hr
  have hws := fun i hi w hr => rWithout_spec A c0 h i w hi hl hc hr
  unfold idxI at hfs
  unfold cancelH
  obtain ⟨tick, last, lots⟩ := h
  simp only at hl hc hr
  cases hval : validH ⟨tick, last, lots⟩ with
  | false =>
    rw [hval] at hvs
    unfold hv at hvs ⊢
    simp only at hvs ⊢
    refine enterH Try.func64 rfl rfl Try.ntmps64 rfl (Wd.refl _) ?_
    (repeat' (first | (show VH _ _ _ _ _ _ _; first | refine v_seq ?_ | refine r_seq ?_ | refine v_ret ?_ | refine v_cond_t rfl tbL ?_) | (show SH _ _ _ _ _ (_ :: _) _ _ _; first | refine asg evL ?_ | refine lba rfl spL (by rfl) ?_ | (show SH _ _ _ _ _ (⟨_, .call ⟨.value (.func 23), _, _⟩, _, _, _, _⟩ :: _) _ _ _; refine cl (callee := .func 23) rfl (fun w hw => hvs _ (hr.ext hw.ext)) rfl rfl ?_) | refine bnoF rfl ?_ | refine bld rfl rfl ?_ | refine ala rfl (fun b => ?_) | refine bxx rfl evL rfl (fun b => ?_) | refine sta rfl rfl rfl spL (by rfl) (by rfl) (by rfl) kpL ?_) | refine s_nil ?_ | refine kh_normal ?_ | refine kh_ret ?_))
    exact rhC3 rfl rfl rfl rfl rfl (fun w hw => loadVar_bx hw spL (by rfl)) ⟨none, 0, none, 0, rfl, rfl⟩ ent_res0R
  | true =>
    have hV := valid_iff.1 hval
    rw [hval] at hvs
    cases hidx : idxL (fun l => decide (l.id = id)) lots with
    | none =>
      simp only [hidx] at hfs ⊢
      unfold hv at hvs hfs ⊢
      simp only at hvs hfs ⊢
      refine enterH Try.func64 rfl rfl Try.ntmps64 rfl (Wd.refl _) ?_
      (repeat' (first | (show VH _ _ _ _ _ _ _; first | refine v_seq ?_ | refine r_seq ?_ | refine v_ret ?_ | refine v_skip ?_ | refine v_cond_t rfl tbL ?_ | refine v_cond_f rfl tbL ?_) | (show SH _ _ _ _ _ (_ :: _) _ _ _; first | refine mov evL ?_ | refine asg evL ?_ | refine lssT rfl rfl omD ?_ | refine lba rfl spL (by rfl) ?_ | (show SH _ _ _ _ _ (⟨_, .call ⟨.value (.func 23), _, _⟩, _, _, _, _⟩ :: _) _ _ _; refine cl (callee := .func 23) rfl (fun w hw => hvs _ (hr.ext hw.ext)) rfl rfl ?_) | (show SH _ _ _ _ _ (⟨_, .call ⟨.value (.func 69), _, _⟩, _, _, _, _⟩ :: _) _ _ _; refine cl (callee := .func 69) rfl (fun w hw => hfs _ (hr.ext hw.ext)) rfl rfl ?_) | refine bnoT rfl ?_ | refine bld rfl rfl ?_ | refine ala rfl (fun b => ?_) | refine bxx rfl evL rfl (fun b => ?_) | refine sta rfl rfl rfl spL (by rfl) (by rfl) (by rfl) kpL ?_) | refine s_nil ?_ | refine kh_normal ?_ | refine kh_ret ?_))
      exact rhC3 rfl rfl rfl rfl rfl (fun w hw => loadVar_bx hw spL (by rfl)) ⟨none, 0, none, 0, rfl, rfl⟩ ent_res0R
    | some i =>
      have hi := (idxL_some hidx).1
      have hR : Right (lots.getD i Flat.dflt) tick := (hV.lot _ (lot_mem hi)).2.2
      by_cases hsel : (lots.getD i Flat.dflt).seller = who
      · by_cases hld : (lots.getD i Flat.dflt).leader = 0
        · have hmv : movesN [⟨0, (lots.getD i Flat.dflt).seller, (lots.getD i Flat.dflt).item, (lots.getD i Flat.dflt).count⟩] = [⟨0, (lots.getD i Flat.dflt).seller, (lots.getD i Flat.dflt).item, (lots.getD i Flat.dflt).count⟩] := by
            have : (lots.getD i Flat.dflt).count ≠ 0 := by have := hR.count; omega
            simp only [movesN, List.filter_cons, List.filter_nil, this, decide_false, Bool.not_false, if_true]
          simp only [hidx, if_pos hsel, if_pos hld, if_true] at hfs ⊢
          rw [hmv]
          have hws' := hws i hi
          clear hws hV hR hmv
          unfold hv at hvs hfs hws' ⊢
          simp only at hvs hfs hws' ⊢
          refine enterH Try.func64 rfl rfl Try.ntmps64 rfl (Wd.refl _) ?_
          (repeat' ((fail_if_success (show VH _ _ (.seq (.region 11 _ _) _) _ _ _ _)); first | (show VH _ _ _ _ _ _ _; first | refine v_seq ?_ | refine r_seq ?_ | refine v_skip ?_ | refine v_cond_f rfl tbL ?_) | (show SH _ _ _ _ _ (_ :: _) _ _ _; first | refine mov evL ?_ | refine asg evL ?_ | (show SH _ _ _ _ _ (⟨_, .binOp _ _ _ _ _, _, _, _, _⟩ :: _) _ _ _; first | refine lssF rfl rfl omD ?_ | refine neqF rfl rfl omD ?_) | (show SH _ _ _ _ _ (⟨_, .load _ _, _, _, _, _⟩ :: _) _ _ _; first | refine lbx rfl spL (by rfl) ?_ | refine lba rfl spL (by rfl) ?_ | refine lra rfl (fun _ _ => rdL) (by rfl) omL ?_) | refine ix rfl rfl (by with_reducible rfl) (fun _ _ => rdL) (by rfl) omL omL ?_ | (show SH _ _ _ _ _ (⟨_, .call ⟨.value (.func 23), _, _⟩, _, _, _, _⟩ :: _) _ _ _; refine cl (callee := .func 23) rfl (fun w hw => hvs _ (hr.ext hw.ext)) rfl rfl ?_) | (show SH _ _ _ _ _ (⟨_, .call ⟨.value (.func 69), _, _⟩, _, _, _, _⟩ :: _) _ _ _; refine cl (callee := .func 69) rfl (fun w hw => hfs _ (hr.ext hw.ext)) rfl rfl ?_) | refine bnoT rfl ?_ | refine fad rfl ?_ | refine ala rfl (fun b => ?_) | refine bxx rfl evL rfl (fun b => ?_) | refine sta rfl rfl rfl spL (by rfl) (by rfl) (by rfl) kpL ?_) | refine s_nil ?_ | refine kh_normal ?_))
          rename_i b3 b6
          refine v_seq ?_
          refine r_heldT [bx b 61 _, bx b3 53 _] (tr [(0, true), (1, true), (3, true), (4, true), (5, true), (6, true), (7, true), (8, true), (9, true)] (.fork 2 (tr [] (.fork 10 (tr [(11, false), (12, false), (13, false)] .nil) 11 (tr [(10, false), (12, false), (13, false)] .nil))) 10 (tr [(2, false), (11, false), (12, false), (13, false)] .nil))) hmix (by kernel_rfl) enL ?_
          (repeat' ((show SH _ _ _ _ _ (_ :: _) _ _ _; first | refine mov evL ?_ | (show SH _ _ _ _ _ (⟨_, .load _ _, _, _, _, _⟩ :: _) _ _ _; first | refine lbx rfl spL (by rfl) ?_ | refine lba rfl spL (by rfl) ?_) | refine fad rfl ?_ | refine bld rfl rfl ?_)))
          repeat' (first
            | (refine s_fork3 ?_ ?_ ?_ <;> (repeat' (first | (show VH _ _ _ _ _ _ _; first | refine v_seq ?_ | refine r_seq ?_ | refine r_quiet hmix (by kernel_rfl) ?_ | refine v_block ?_ | refine v_ret ?_ | refine v_skip ?_ | refine v_exit ?_ | refine v_label ?_ | refine v_cond_t rfl tbL ?_ | refine v_cond_f rfl tbL ?_ | refine v_cond_dec rfl (fun h => ?_) (fun h => ?_) | refine v_cond_ndec rfl (fun h => ?_) (fun h => ?_) | refine v_cond rfl (fun h => ?_) (fun h => ?_)) | (show SH _ _ _ _ _ (_ :: _) _ _ _; first | refine mov evL ?_ | refine asg evL ?_ | (show SH _ _ _ _ _ (⟨_, .binOp _ _ _ _ _, _, _, _, _⟩ :: _) _ _ _; first | refine lssT rfl rfl omD ?_ | refine lssF rfl rfl omD ?_ | refine neqT rfl rfl omD ?_ | refine neqF rfl rfl omD ?_ | refine lss rfl rfl ?_ | refine neq rfl rfl ?_ | refine nen rfl rfl ?_ | refine neb rfl rfl ?_) | (show SH _ _ _ _ _ (⟨_, .load _ _, _, _, _, _⟩ :: _) _ _ _; first | refine lsl rfl (fun _ _ => rdL) omL (by assumption) ?_ | refine lin rfl (fun _ _ => rdL) omL ?_ | refine lbx rfl spL (by rfl) ?_ | refine lba rfl spL (by rfl) ?_ | refine lbi rfl spL omL ?_ | refine lr1 rfl (fun _ _ => rdL) (by rfl) omL (by rfl) ?_ | refine lra rfl (fun _ _ => rdL) (by rfl) omL ?_ | refine lrf rfl (fun _ _ => rdL) (by rfl) omL (by rfl) ?_ | refine lcell rfl (fun w hw => hw.ext.cell (by assumption)) ?_) | (show SH _ _ _ _ _ (⟨_, .indexAddr _ _ _, _, _, _, _⟩ :: _) _ _ _; first | refine ix rfl rfl (by with_reducible rfl) (fun _ _ => rdL) (by rfl) omL omL ?_ | refine ixi rfl rfl (fun _ _ => rdL) (by rfl) omL omL omL ?_ | refine ixb rfl rfl omL ?_ | refine ixq rfl rfl (by assumption) omL omL ?_) | refine bnoT rfl ?_ | refine bnoF rfl ?_ | refine bnot rfl ?_ | refine fad rfl ?_ | refine bld rfl rfl ?_ | refine al1 rfl (fun b => ?_) | refine ala rfl (fun b => ?_) | refine bxx rfl evL rfl (fun b => ?_) | refine stb rfl rfl evL spL rfl rfl (by first | decide | exact Nat.zero_lt_succ _ | exact of_decide_eq_true rfl) kpL ?_ | refine sta rfl rfl rfl spL (by rfl) (by rfl) (by rfl) kpL ?_ | refine sti rfl rfl rfl spL omL kpL ?_ | refine sbi rfl rfl rfl spL omL kpL ?_ | refine bsl (α := Int) rfl rfl (by repeat (first | exact Vals.nil | (apply Vals.cons; rfl))) rfl (by rfl) (by decide) (fun b => ?_)) | refine s_nil ?_ | refine kh_normal ?_ | refine kh_ret ?_ | refine kh_exit ?_ | refine bh_normal ?_ | refine bh_ret ?_ | refine bh_exit ?_ | refine bh_exit_ne rfl ?_)))
            | (refine s_fork ?_ ?_ <;> (repeat' (refine sta rfl rfl rfl spL (by rfl) (by rfl) (by rfl) kpL ?_)))
            | (refine cp (callee := .func 71) rfl (fun w hw => hws' _ (hr.ext hw.ext)) rfl rfl ?_; rintro _ _ ⟨A2, c2, rfl, rfl⟩; (repeat' (first | refine v_ret ?_ | (show SH _ _ _ _ _ (_ :: _) _ _ _; first | refine asg evL ?_ | refine sta rfl rfl rfl spL (by rfl) (by rfl) (by rfl) kpL ?_) | refine s_nil ?_ | refine kh_normal ?_)))
            | (refine bsl (l := [(⟨0, (lots.getD i Flat.dflt).seller, (lots.getD i Flat.dflt).item, (lots.getD i Flat.dflt).count⟩ : Mv)]) rfl rfl (Vals.cons rfl Vals.nil) rfl rfl (by decide) (fun b9 => ?_); (repeat' (first | refine v_ret ?_ | (show SH _ _ _ _ _ (_ :: _) _ _ _; first | refine asg evL ?_ | refine sta rfl rfl rfl spL (by rfl) (by rfl) (by rfl) kpL ?_) | refine s_nil ?_ | refine kh_normal ?_))))
          all_goals exact rhC3 rfl rfl rfl rfl rfl (fun w hw => loadVar_bx hw spL (by rfl)) ⟨A2, c2, some ⟨b9, 0, none⟩, 1, rfl, rfl⟩ enL
        · simp only [hidx, if_pos hsel, if_neg hld, if_true] at hfs ⊢
          unfold hv at hvs hfs ⊢
          simp only at hvs hfs ⊢
          refine enterH Try.func64 rfl rfl Try.ntmps64 rfl (Wd.refl _) ?_
          (repeat' (first | (show VH _ _ _ _ _ _ _; first | refine v_seq ?_ | refine r_seq ?_ | refine v_ret ?_ | refine v_skip ?_ | refine v_cond_t rfl tbL ?_ | refine v_cond_f rfl tbL ?_) | (show SH _ _ _ _ _ (_ :: _) _ _ _; first | refine mov evL ?_ | refine asg evL ?_ | (show SH _ _ _ _ _ (⟨_, .binOp _ _ _ _ _, _, _, _, _⟩ :: _) _ _ _; first | refine lssF rfl rfl omD ?_ | refine neqT rfl rfl omD ?_ | refine neqF rfl rfl omD ?_) | (show SH _ _ _ _ _ (⟨_, .load _ _, _, _, _, _⟩ :: _) _ _ _; first | refine lbx rfl spL (by rfl) ?_ | refine lba rfl spL (by rfl) ?_ | refine lra rfl (fun _ _ => rdL) (by rfl) omL ?_) | refine ix rfl rfl (by with_reducible rfl) (fun _ _ => rdL) (by rfl) omL omL ?_ | (show SH _ _ _ _ _ (⟨_, .call ⟨.value (.func 23), _, _⟩, _, _, _, _⟩ :: _) _ _ _; refine cl (callee := .func 23) rfl (fun w hw => hvs _ (hr.ext hw.ext)) rfl rfl ?_) | (show SH _ _ _ _ _ (⟨_, .call ⟨.value (.func 69), _, _⟩, _, _, _, _⟩ :: _) _ _ _; refine cl (callee := .func 69) rfl (fun w hw => hfs _ (hr.ext hw.ext)) rfl rfl ?_) | refine bnoT rfl ?_ | refine fad rfl ?_ | refine bld rfl rfl ?_ | refine ala rfl (fun b => ?_) | refine bxx rfl evL rfl (fun b => ?_) | refine sta rfl rfl rfl spL (by rfl) (by rfl) (by rfl) kpL ?_) | refine s_nil ?_ | refine kh_normal ?_ | refine kh_ret ?_))
          exact rhC3 rfl rfl rfl rfl rfl (fun w hw => loadVar_bx hw spL (by rfl)) ⟨none, 0, none, 0, rfl, rfl⟩ ent_res0R
      · simp only [hidx, if_neg hsel, if_true] at hfs ⊢
        unfold hv at hvs hfs ⊢
        simp only at hvs hfs ⊢
        refine enterH Try.func64 rfl rfl Try.ntmps64 rfl (Wd.refl _) ?_
        (repeat' (first | (show VH _ _ _ _ _ _ _; first | refine v_seq ?_ | refine r_seq ?_ | refine v_ret ?_ | refine v_skip ?_ | refine v_cond_t rfl tbL ?_ | refine v_cond_f rfl tbL ?_) | (show SH _ _ _ _ _ (_ :: _) _ _ _; first | refine mov evL ?_ | refine asg evL ?_ | (show SH _ _ _ _ _ (⟨_, .binOp _ _ _ _ _, _, _, _, _⟩ :: _) _ _ _; first | refine lssF rfl rfl omD ?_ | refine neqT rfl rfl omD ?_) | (show SH _ _ _ _ _ (⟨_, .load _ _, _, _, _, _⟩ :: _) _ _ _; first | refine lbx rfl spL (by rfl) ?_ | refine lba rfl spL (by rfl) ?_ | refine lra rfl (fun _ _ => rdL) (by rfl) omL ?_) | refine ix rfl rfl (by with_reducible rfl) (fun _ _ => rdL) (by rfl) omL omL ?_ | (show SH _ _ _ _ _ (⟨_, .call ⟨.value (.func 23), _, _⟩, _, _, _, _⟩ :: _) _ _ _; refine cl (callee := .func 23) rfl (fun w hw => hvs _ (hr.ext hw.ext)) rfl rfl ?_) | (show SH _ _ _ _ _ (⟨_, .call ⟨.value (.func 69), _, _⟩, _, _, _, _⟩ :: _) _ _ _; refine cl (callee := .func 69) rfl (fun w hw => hfs _ (hr.ext hw.ext)) rfl rfl ?_) | refine bnoT rfl ?_ | refine fad rfl ?_ | refine bld rfl rfl ?_ | refine ala rfl (fun b => ?_) | refine bxx rfl evL rfl (fun b => ?_) | refine sta rfl rfl rfl spL (by rfl) (by rfl) (by rfl) kpL ?_) | refine s_nil ?_ | refine kh_normal ?_ | refine kh_ret ?_))
        exact rhC3 rfl rfl rfl rfl rfl (fun w hw => loadVar_bx hw spL (by rfl)) ⟨none, 0, none, 0, rfl, rfl⟩ ent_res0R
end Go.Proofs.Ytehjdbgijibmcaa
