/- StoreChanges (printed by gen_lc15.py). -/
import Derived.Test.YtfodpcpclmnbkaaDoorZTw
import Derived.Test.YtfodpcpclmnbkaaDoorZJe
import Derived.Test.YtfodpcpclmnbkaaDoorZWq
import Derived.Test.YtfodpcpclmnbkaaDoorZQc
import Derived.Test.YtfodpcpclmnbkaaDoorZRm
import Derived.Test.YtfodpcpclmnbkaaDoorZRn
import Derived.Test.YtfodpcpclmnbkaaDoorZRo
import Derived.Test.YtfodpcpclmnbkaaDoorZWz
set_option linter.unusedSimpArgs false
set_option linter.unusedVariables false
namespace Go.Proofs.YtfodpcpclmnbkaaDoor
open Go.Fw Go.RowKit
set_option maxHeartbeats 4000000 in
set_option maxRecDepth 100000 in
theorem changesLaw (t : Int) (A : Option Addr) (l : List EntP) (c : Nat) (e : EntP) (cc : Comp) (id kd : Int) (W : World) (hG : Glob W) (hr : RdW W A l) (hre : Rd W e.A e.e.comps) :
    Ret Tryd.prog 7 [wv t A l c, .agg (Flat.enc e).toArray, .agg (Flat.enc cc).toArray, .int .i64 id, .int .u8 kd].toArray W (Out W (.bool true)) := by
  have hFw := fun w' (he : Ext W w') => few15_spec t A l c w' (hr.1.ext he)
  have hA := fun w (h : Ext W w) => awake15_spec w (hG.ext h)
  obtain ⟨⟨ei, es⟩, Ae, ce⟩ := e
  simp only at hre
  rw [show Flat.enc (⟨⟨ei, es⟩, Ae, ce⟩ : EntP) = [.int .i64 ei, .slice Ae es.length ce] from rfl]
  unfold wv at hFw ⊢
  cases hf : fewW l with
  | false =>
    rw [hf] at hFw
    refine enterH Tryd.func7 rfl rfl Tryd.ntmps7 rfl (Wd.refl _) ?_
    (repeat' (first | (show VH _ _ _ _ _ _ _; first | refine v_seq ?_ | refine r_seq ?_ | refine v_ret ?_ | refine v_cond_t rfl tbL ?_) | (show SH _ _ _ _ _ (_ :: _) _ _ _; first | (show SH _ _ _ _ _ (⟨_, _, _, _, _, some _⟩ :: _) _ _ _; (refine gif rfl rfl ?_; refine giFT tbL ?_)) | (show SH _ _ _ _ _ (⟨_, .move _, _, _, _, _⟩ :: _) _ _ _; refine mov evL ?_) | (show SH _ _ _ _ _ (⟨_, .assign _, _, _, _, _⟩ :: _) _ _ _; refine asg evL ?_) | (show SH _ _ _ _ _ (⟨_, .load _ _, _, _, _, _⟩ :: _) _ _ _; refine lba rfl spL (by rfl) ?_) | (show SH _ _ _ _ _ (⟨_, .call ⟨.value (.func 24), _, _⟩, _, _, _, _⟩ :: _) _ _ _; refine cl (callee := .func 24) rfl (fun w hw => hFw w hw.ext) rfl rfl ?_) | (show SH _ _ _ _ _ (⟨_, .call ⟨.value (.func 14), _, _⟩, _, _, _, _⟩ :: _) _ _ _; refine cl (callee := .func 14) rfl (fun w hw => hA w hw.ext) rfl rfl ?_) | refine bnoF rfl ?_ | (show SH _ _ _ _ _ (⟨_, .pick _ _ _, _, _, _, _⟩ :: _) _ _ _; refine pkt rfl tbL evL ?_) | (show SH _ _ _ _ _ (⟨_, .box _ _, _, _, _, _⟩ :: _) _ _ _; refine bxx rfl evL rfl (fun b => ?_))) | refine s_nil ?_ | refine kh_normal ?_ | refine kh_ret ?_))
    exact rh1 rfl rfl ⟨rfl, rfl⟩ (ent_nil _)
  | true =>
  rw [hf] at hFw
  by_cases h14 : 14 < es.length
  · clear hf
    refine enterH Tryd.func7 rfl rfl Tryd.ntmps7 rfl (Wd.refl _) ?_
    (repeat' (first | (show VH _ _ _ _ _ _ _; first | refine v_seq ?_ | refine r_seq ?_ | refine v_ret ?_ | refine v_cond_t rfl tbL ?_) | (show SH _ _ _ _ _ (_ :: _) _ _ _; first | (show SH _ _ _ _ _ (⟨_, _, _, _, _, some _⟩ :: _) _ _ _; (refine gif rfl rfl ?_; refine giFF tbL ?_)) | (show SH _ _ _ _ _ (⟨_, .move _, _, _, _, _⟩ :: _) _ _ _; refine mov evL ?_) | (show SH _ _ _ _ _ (⟨_, .assign _, _, _, _, _⟩ :: _) _ _ _; refine asg evL ?_) | (show SH _ _ _ _ _ (⟨_, .binOp .gtr _ _ _ _, _, _, _, _⟩ :: _) _ _ _; refine gtrT rfl rfl omD ?_) | (show SH _ _ _ _ _ (⟨_, .load _ _, _, _, _, _⟩ :: _) _ _ _; first | refine lbx rfl spL (by rfl) ?_ | refine lba rfl spL (by rfl) ?_) | refine slen rfl ?_ | (show SH _ _ _ _ _ (⟨_, .call ⟨.value (.func 24), _, _⟩, _, _, _, _⟩ :: _) _ _ _; refine cl (callee := .func 24) rfl (fun w hw => hFw w hw.ext) rfl rfl ?_) | (show SH _ _ _ _ _ (⟨_, .call ⟨.value (.func 14), _, _⟩, _, _, _, _⟩ :: _) _ _ _; refine cl (callee := .func 14) rfl (fun w hw => hA w hw.ext) rfl rfl ?_) | refine bnoT rfl ?_ | (show SH _ _ _ _ _ (⟨_, .pick _ _ _, _, _, _, _⟩ :: _) _ _ _; refine pkf rfl tbL evL ?_) | refine fad rfl ?_ | (show SH _ _ _ _ _ (⟨_, .box _ _, _, _, _, _⟩ :: _) _ _ _; refine bxx rfl evL rfl (fun b => ?_))) | refine s_nil ?_ | refine kh_normal ?_ | refine kh_ret ?_))
    exact rh1 rfl rfl ⟨rfl, rfl⟩ (ent_nil _)
  obtain ⟨h70, hc14⟩ := few15_sz hf
  have hs : Sz l := ⟨by omega, fun x hx => by have := hc14 x hx; omega⟩
  have hse : ∀ x ∈ l, x.e.comps.length ≤ 100000 := fun x hx => by have := hc14 x hx; omega
  clear hf
  have hC := fun w (h : Ext W w) => copy15_spec t A l c w (by omega) (fun x hx => by have := hc14 x hx; omega) (hr.ext h)
  have hSt := fun w (h : Ext W w) => set_spec t id cc A l c w (hG.ext h) hs (by omega) hse (hr.ext h)
  have hUt := fun w (h : Ext W w) => unset_spec t id kd A l c w (hG.ext h) hs (by omega) hse (hr.ext h)
  have hAt := fun w (h : Ext W w) => add_spec t ⟨⟨ei, es⟩, Ae, ce⟩ A l c w (hG.ext h) hs (by omega) hse (hr.ext h) (by show es.length ≤ _; omega) (hre.ext h)
  have hRt := fun w (h : Ext W w) => remove_spec t id A l c w (hG.ext h) hs (by omega) hse (hr.ext h)
  unfold WorldR at hC
  unfold wv at hC
  refine enterH Tryd.func7 rfl rfl Tryd.ntmps7 rfl (Wd.refl _) ?_
  (repeat' ((fail_if_success (show VH _ _ (.seq (.region 3 _ _) _) _ _ _ _)); first | (show VH _ _ _ _ _ _ _; first | refine v_seq ?_ | refine r_seq ?_ | refine v_skip ?_ | refine v_cond_f rfl tbL ?_) | (show SH _ _ _ _ _ (_ :: _) _ _ _; first | (show SH _ _ _ _ _ (⟨_, _, _, _, _, some _⟩ :: _) _ _ _; (refine gif rfl rfl ?_; refine giFF tbL ?_)) | (show SH _ _ _ _ _ (⟨_, .move _, _, _, _, _⟩ :: _) _ _ _; refine mov evL ?_) | (show SH _ _ _ _ _ (⟨_, .assign _, _, _, _, _⟩ :: _) _ _ _; refine asg evL ?_) | (show SH _ _ _ _ _ (⟨_, .binOp .gtr _ _ _ _, _, _, _, _⟩ :: _) _ _ _; refine gtrF rfl rfl omD ?_) | (show SH _ _ _ _ _ (⟨_, .load _ _, _, _, _, _⟩ :: _) _ _ _; first | refine lbx rfl spL (by rfl) ?_ | refine lba rfl spL (by rfl) ?_) | refine slen rfl ?_ | (show SH _ _ _ _ _ (⟨_, .call ⟨.value (.func 24), _, _⟩, _, _, _, _⟩ :: _) _ _ _; refine cl (callee := .func 24) rfl (fun w hw => hFw w hw.ext) rfl rfl ?_) | refine bnoT rfl ?_ | (show SH _ _ _ _ _ (⟨_, .pick _ _ _, _, _, _, _⟩ :: _) _ _ _; refine pkf rfl tbL evL ?_) | refine fad rfl ?_ | (show SH _ _ _ _ _ (⟨_, .box _ _, _, _, _, _⟩ :: _) _ _ _; refine bxx rfl evL rfl (fun b => ?_))) | refine s_nil ?_ | refine kh_normal ?_))
  rename_i b5 b6
  revert b
  intro b7
  refine v_seq ?_
  refine v_cut [(11, 13), (41, 47)] (fun s : Nat × (Option Addr × Nat × List EntP) × (Option Addr × Nat) => [(11, .pointer (some ⟨s.1, 0, none⟩)), (12, .slice s.2.2.1 es.length s.2.2.2)]) (fun s => [bx s.1 25 [.int .i64 t, .slice s.2.1.1 s.2.1.2.2.length s.2.1.2.1], orow 32 s.2.1.1 s.2.1.2.1 s.2.1.2.2, allH (s.2.1.2.2.map rowOf), orow 42 s.2.2.1 s.2.2.2 es, bx b7 42 (Flat.enc cc), bx b6 32 [.int .i64 ei, .slice Ae es.length ce], bx b5 25 [.int .i64 t, .slice A l.length c]]) (fun s => s.2.1.2.2.map EntP.e = ents l) ?_ ?_ ent_vh
  · refine r_heldT [bx b7 42 (Flat.enc cc), bx b6 32 [.int .i64 ei, .slice Ae es.length ce], bx b5 25 [.int .i64 t, .slice A l.length c]] (tr [(0, true), (3, true), (4, true)] (.fork3 1 (tr [] (.fork 2 (tr [] (.fork 5 (tr [(6, false), (7, false), (8, false)] .nil) 6 (tr [(5, false), (7, false), (8, false)] .nil))) 6 (tr [(2, false), (5, false), (7, false), (8, false)] .nil))) 2 (tr [] (.fork 1 (tr [] (.fork 5 (tr [(6, false), (7, false), (8, false)] .nil) 6 (tr [(5, false), (7, false), (8, false)] .nil))) 6 (tr [(1, false), (5, false), (7, false), (8, false)] .nil))) 6 (tr [] (.fork 1 (tr [(2, false), (5, false), (7, false), (8, false)] .nil) 2 (tr [(1, false), (5, false), (7, false), (8, false)] .nil))))) hmix (by kernel_rfl) enL ?_
    (repeat' (first | (show SH _ _ _ _ _ (_ :: _) _ _ _; first | (show SH _ _ _ _ _ (⟨_, .load _ _, _, _, _, _⟩ :: _) _ _ _; first | refine lbx rfl spL (by rfl) ?_ | refine lba rfl spL (by rfl) ?_) | (show SH _ _ _ _ _ (⟨_, .call ⟨.value (.func 36), _, _⟩, _, _, _, _⟩ :: _) _ _ _; refine cp (callee := .func 36) rfl (fun w hw => hC w hw.ext) rfl rfl ?_) | refine fad rfl ?_ | refine ala rfl (fun b => ?_)) | refine s_fork ?_ ?_ | refine s_fork3 ?_ ?_ ?_))
    repeat' (first
      | (refine s_fork3 ?_ ?_ ?_ <;> (repeat' (first | (show VH _ _ _ _ _ _ _; first | refine v_seq ?_ | refine r_seq ?_ | refine r_quiet hmix (by kernel_rfl) ?_ | refine v_block ?_ | refine v_ret ?_ | refine v_skip ?_ | refine v_exit ?_ | refine v_label ?_ | refine v_cond_t rfl tbL ?_ | refine v_cond_f rfl tbL ?_ | refine v_cond_dec rfl (fun h => ?_) (fun h => ?_) | refine v_cond_ndec rfl (fun h => ?_) (fun h => ?_) | refine v_cond rfl (fun h => ?_) (fun h => ?_)) | (show SH _ _ _ _ _ (_ :: _) _ _ _; first | (show SH _ _ _ _ _ (⟨_, _, _, _, _, some _⟩ :: _) _ _ _; first | (refine gif rfl rfl ?_; first | refine giTT tbL ?_ | refine giTF tbL ?_ | refine giFF tbL ?_ | refine giFT tbL ?_ | refine giTd (fun h => ?_) (fun h => ?_) | refine giFd (fun h => ?_) (fun h => ?_) | refine giT (fun h => ?_) (fun h => ?_) | refine giF (fun h => ?_) (fun h => ?_)) | refine gu rfl rfl ?_ | refine grT rfl rfl tbL ?_ | refine grF rfl rfl tbL ?_) | (show SH _ _ _ _ _ (⟨_, .move _, _, _, _, _⟩ :: _) _ _ _; refine mov evL ?_) | (show SH _ _ _ _ _ (⟨_, .assign _, _, _, _, _⟩ :: _) _ _ _; refine asg evL ?_) | (show SH _ _ _ _ _ (⟨_, .binOp .lss _ _ _ _, _, _, _, _⟩ :: _) _ _ _; first | refine lssT rfl rfl omD ?_ | refine lssF rfl rfl omD ?_ | refine lss rfl rfl ?_) | (show SH _ _ _ _ _ (⟨_, .binOp .gtr _ _ _ _, _, _, _, _⟩ :: _) _ _ _; first | refine gtrT rfl rfl omD ?_ | refine gtrF rfl rfl omD ?_ | refine gtr rfl rfl ?_) | (show SH _ _ _ _ _ (⟨_, .binOp .neq _ _ _ _, _, _, _, _⟩ :: _) _ _ _; first | refine neqT rfl rfl omD ?_ | refine neqF rfl rfl omD ?_ | refine neq rfl rfl ?_ | refine nen rfl rfl ?_ | refine neb rfl rfl ?_) | (show SH _ _ _ _ _ (⟨_, .binOp .add _ _ _ _, _, _, _, _⟩ :: _) _ _ _; refine add rfl rfl inL ?_) | (show SH _ _ _ _ _ (⟨_, .load _ _, _, _, _, _⟩ :: _) _ _ _; first | refine lgi rfl (fun _ _ => rdY) omL (by assumption) ?_ | refine lag rfl (fun _ _ => rdY) (by rfl) omL (by assumption) ?_ | refine lrg rfl (fun _ _ => rdY) (by rfl) omL (by assumption) (by rfl) ?_ | refine lin rfl (fun _ _ => rdY) omL ?_ | refine lbx rfl spL (by rfl) ?_ | refine lba rfl spL (by rfl) ?_ | refine lbi rfl spL omL ?_ | refine lr1 rfl (fun _ _ => rdY) (by rfl) omL (by rfl) ?_ | refine lra rfl (fun _ _ => rdY) (by rfl) omL ?_ | refine lrf rfl (fun _ _ => rdY) (by rfl) omL (by rfl) ?_ | refine lcell rfl (fun w hw => hw.ext.cell (by assumption)) ?_ | refine lrs rfl (fun _ _ => rdY) (by rfl) omL (by rfl) (by rfl) ?_ | refine lbs rfl spL (by rfl) (by rfl) ?_ | refine lca rfl (fun _ _ => rdY) (by rfl) ?_ | refine lcs rfl (fun _ _ => rdY) (by rfl) ?_ | refine lcf rfl (fun _ _ => rdY) (by rfl) ?_ | refine lrf rfl (fun _ _ => rdY) (by rfl) (by simp only [List.length_cons, List.length_nil]; omega) (by rfl) ?_ | refine lra rfl (fun _ _ => rdY) (by rfl) (by simp only [List.length_cons, List.length_nil]; omega) ?_) | (show SH _ _ _ _ _ (⟨_, .indexAddr _ _ _, _, _, _, _⟩ :: _) _ _ _; first | refine ix rfl rfl (by with_reducible rfl) (fun _ _ => rdY) (by rfl) omL omL ?_ | refine ixi rfl rfl (fun _ _ => rdY) (by rfl) omL omL omL ?_ | refine ixb rfl rfl omL ?_ | refine ixq rfl rfl (by assumption) omL omL ?_ | refine ixA _ rfl rfl rfl omL ?_ | refine ixi rfl rfl (fun _ _ => rdY) (by rfl) omL (by first | omega | (simp only [List.length_cons, List.length_nil]; omega)) (by simp only [List.length_cons, List.length_nil]; omega) ?_) | refine slen rfl ?_ | (show SH _ _ _ _ _ (⟨_, .call ⟨.value (.func 36), _, _⟩, _, _, _, _⟩ :: _) _ _ _; refine cp (callee := .func 36) rfl (fun w hw => hC w hw.ext) rfl rfl ?_) | (show SH _ _ _ _ _ (⟨_, .unOp .not _ _, _, _, _, _⟩ :: _) _ _ _; first | refine bnoT rfl ?_ | refine bnoF rfl ?_ | refine bnot rfl ?_) | (show SH _ _ _ _ _ (⟨_, .pick _ _ _, _, _, _, _⟩ :: _) _ _ _; first | refine pkt rfl tbL evL ?_ | refine pkf rfl tbL evL ?_) | refine extr rfl rfl ?_ | refine fad rfl ?_ | (show SH _ _ _ _ _ (⟨_, .build _ _, _, _, _, _⟩ :: _) _ _ _; first | refine bld rfl rfl ?_ | refine bldZ ?_ | refine bldZN ?_) | (show SH _ _ _ _ _ (⟨_, .alloc _, _, _, _, _⟩ :: _) _ _ _; first | refine al1 rfl (fun b => ?_) | refine ala rfl (fun b => ?_)) | (show SH _ _ _ _ _ (⟨_, .box _ _, _, _, _, _⟩ :: _) _ _ _; refine bxx rfl evL rfl (fun b => ?_)) | (show SH _ _ _ _ _ (⟨_, .store _ _ _, _, _, _, _⟩ :: _) _ _ _; first | refine stb rfl rfl evL spL rfl rfl (by first | decide | exact Nat.zero_lt_succ _ | exact of_decide_eq_true rfl) kpL ?_ | refine sta rfl rfl rfl spL (by rfl) (by rfl) (by rfl) kpL ?_ | refine sti rfl rfl rfl spL omL kpL ?_ | refine sbi rfl rfl rfl spL omL kpL ?_ | refine sbs rfl rfl evL spL (by rfl) (by rfl) (of_decide_eq_true rfl) kpL ?_) | (show SH _ _ _ _ _ (⟨_, .buildSlice _ _ _, _, _, _, _⟩ :: _) _ _ _; refine bsl (α := Int) rfl rfl (by repeat (first | exact Vals.nil | (apply Vals.cons; rfl))) rfl (by rfl) (by decide) (fun b => ?_))) | refine s_nil ?_ | refine s_fork ?_ ?_ | refine s_fork3 ?_ ?_ ?_ | refine s_fork4 ?_ ?_ ?_ ?_ | refine kh_normal ?_ | refine kh_ret ?_ | refine kh_exit ?_ | refine bh_normal ?_ | refine bh_ret ?_ | refine bh_exit ?_ | refine bh_exit_ne rfl ?_)))
      | (refine s_fork ?_ ?_ <;> (repeat' (first | (show VH _ _ _ _ _ _ _; first | refine v_seq ?_ | refine r_seq ?_ | refine r_quiet hmix (by kernel_rfl) ?_ | refine v_block ?_ | refine v_ret ?_ | refine v_skip ?_ | refine v_exit ?_ | refine v_label ?_ | refine v_cond_t rfl tbL ?_ | refine v_cond_f rfl tbL ?_ | refine v_cond_dec rfl (fun h => ?_) (fun h => ?_) | refine v_cond_ndec rfl (fun h => ?_) (fun h => ?_) | refine v_cond rfl (fun h => ?_) (fun h => ?_)) | (show SH _ _ _ _ _ (_ :: _) _ _ _; first | (show SH _ _ _ _ _ (⟨_, _, _, _, _, some _⟩ :: _) _ _ _; first | (refine gif rfl rfl ?_; first | refine giTT tbL ?_ | refine giTF tbL ?_ | refine giFF tbL ?_ | refine giFT tbL ?_ | refine giTd (fun h => ?_) (fun h => ?_) | refine giFd (fun h => ?_) (fun h => ?_) | refine giT (fun h => ?_) (fun h => ?_) | refine giF (fun h => ?_) (fun h => ?_)) | refine gu rfl rfl ?_ | refine grT rfl rfl tbL ?_ | refine grF rfl rfl tbL ?_) | (show SH _ _ _ _ _ (⟨_, .move _, _, _, _, _⟩ :: _) _ _ _; refine mov evL ?_) | (show SH _ _ _ _ _ (⟨_, .assign _, _, _, _, _⟩ :: _) _ _ _; refine asg evL ?_) | (show SH _ _ _ _ _ (⟨_, .binOp .lss _ _ _ _, _, _, _, _⟩ :: _) _ _ _; first | refine lssT rfl rfl omD ?_ | refine lssF rfl rfl omD ?_ | refine lss rfl rfl ?_) | (show SH _ _ _ _ _ (⟨_, .binOp .gtr _ _ _ _, _, _, _, _⟩ :: _) _ _ _; first | refine gtrT rfl rfl omD ?_ | refine gtrF rfl rfl omD ?_ | refine gtr rfl rfl ?_) | (show SH _ _ _ _ _ (⟨_, .binOp .neq _ _ _ _, _, _, _, _⟩ :: _) _ _ _; first | refine neqT rfl rfl omD ?_ | refine neqF rfl rfl omD ?_ | refine neq rfl rfl ?_ | refine nen rfl rfl ?_ | refine neb rfl rfl ?_) | (show SH _ _ _ _ _ (⟨_, .binOp .add _ _ _ _, _, _, _, _⟩ :: _) _ _ _; refine add rfl rfl inL ?_) | (show SH _ _ _ _ _ (⟨_, .load _ _, _, _, _, _⟩ :: _) _ _ _; first | refine lgi rfl (fun _ _ => rdY) omL (by assumption) ?_ | refine lag rfl (fun _ _ => rdY) (by rfl) omL (by assumption) ?_ | refine lrg rfl (fun _ _ => rdY) (by rfl) omL (by assumption) (by rfl) ?_ | refine lin rfl (fun _ _ => rdY) omL ?_ | refine lbx rfl spL (by rfl) ?_ | refine lba rfl spL (by rfl) ?_ | refine lbi rfl spL omL ?_ | refine lr1 rfl (fun _ _ => rdY) (by rfl) omL (by rfl) ?_ | refine lra rfl (fun _ _ => rdY) (by rfl) omL ?_ | refine lrf rfl (fun _ _ => rdY) (by rfl) omL (by rfl) ?_ | refine lcell rfl (fun w hw => hw.ext.cell (by assumption)) ?_ | refine lrs rfl (fun _ _ => rdY) (by rfl) omL (by rfl) (by rfl) ?_ | refine lbs rfl spL (by rfl) (by rfl) ?_ | refine lca rfl (fun _ _ => rdY) (by rfl) ?_ | refine lcs rfl (fun _ _ => rdY) (by rfl) ?_ | refine lcf rfl (fun _ _ => rdY) (by rfl) ?_ | refine lrf rfl (fun _ _ => rdY) (by rfl) (by simp only [List.length_cons, List.length_nil]; omega) (by rfl) ?_ | refine lra rfl (fun _ _ => rdY) (by rfl) (by simp only [List.length_cons, List.length_nil]; omega) ?_) | (show SH _ _ _ _ _ (⟨_, .indexAddr _ _ _, _, _, _, _⟩ :: _) _ _ _; first | refine ix rfl rfl (by with_reducible rfl) (fun _ _ => rdY) (by rfl) omL omL ?_ | refine ixi rfl rfl (fun _ _ => rdY) (by rfl) omL omL omL ?_ | refine ixb rfl rfl omL ?_ | refine ixq rfl rfl (by assumption) omL omL ?_ | refine ixA _ rfl rfl rfl omL ?_ | refine ixi rfl rfl (fun _ _ => rdY) (by rfl) omL (by first | omega | (simp only [List.length_cons, List.length_nil]; omega)) (by simp only [List.length_cons, List.length_nil]; omega) ?_) | refine slen rfl ?_ | (show SH _ _ _ _ _ (⟨_, .call ⟨.value (.func 36), _, _⟩, _, _, _, _⟩ :: _) _ _ _; refine cp (callee := .func 36) rfl (fun w hw => hC w hw.ext) rfl rfl ?_) | (show SH _ _ _ _ _ (⟨_, .unOp .not _ _, _, _, _, _⟩ :: _) _ _ _; first | refine bnoT rfl ?_ | refine bnoF rfl ?_ | refine bnot rfl ?_) | (show SH _ _ _ _ _ (⟨_, .pick _ _ _, _, _, _, _⟩ :: _) _ _ _; first | refine pkt rfl tbL evL ?_ | refine pkf rfl tbL evL ?_) | refine extr rfl rfl ?_ | refine fad rfl ?_ | (show SH _ _ _ _ _ (⟨_, .build _ _, _, _, _, _⟩ :: _) _ _ _; first | refine bld rfl rfl ?_ | refine bldZ ?_ | refine bldZN ?_) | (show SH _ _ _ _ _ (⟨_, .alloc _, _, _, _, _⟩ :: _) _ _ _; first | refine al1 rfl (fun b => ?_) | refine ala rfl (fun b => ?_)) | (show SH _ _ _ _ _ (⟨_, .box _ _, _, _, _, _⟩ :: _) _ _ _; refine bxx rfl evL rfl (fun b => ?_)) | (show SH _ _ _ _ _ (⟨_, .store _ _ _, _, _, _, _⟩ :: _) _ _ _; first | refine stb rfl rfl evL spL rfl rfl (by first | decide | exact Nat.zero_lt_succ _ | exact of_decide_eq_true rfl) kpL ?_ | refine sta rfl rfl rfl spL (by rfl) (by rfl) (by rfl) kpL ?_ | refine sti rfl rfl rfl spL omL kpL ?_ | refine sbi rfl rfl rfl spL omL kpL ?_ | refine sbs rfl rfl evL spL (by rfl) (by rfl) (of_decide_eq_true rfl) kpL ?_) | (show SH _ _ _ _ _ (⟨_, .buildSlice _ _ _, _, _, _, _⟩ :: _) _ _ _; refine bsl (α := Int) rfl rfl (by repeat (first | exact Vals.nil | (apply Vals.cons; rfl))) rfl (by rfl) (by decide) (fun b => ?_))) | refine s_nil ?_ | refine s_fork ?_ ?_ | refine s_fork3 ?_ ?_ ?_ | refine s_fork4 ?_ ?_ ?_ ?_ | refine kh_normal ?_ | refine kh_ret ?_ | refine kh_exit ?_ | refine bh_normal ?_ | refine bh_ret ?_ | refine bh_exit ?_ | refine bh_exit_ne rfl ?_)))
      | (rintro _ _ ⟨_, _, _, rfl, hL, rfl⟩; (repeat' (first | refine ala rfl (fun b => ?_) | refine s_fork ?_ ?_)))
      | (refine bsl (l := ([] : List Comp)) rfl rfl Vals.nil rfl rfl (by decide) (fun b29 => ?_); (repeat' (first | (show SH _ _ _ _ _ (_ :: _) _ _ _; first | (show SH _ _ _ _ _ (⟨_, .call ⟨.value (.func 36), _, _⟩, _, _, _, _⟩ :: _) _ _ _; refine cp (callee := .func 36) rfl (fun w hw => hC w hw.ext) rfl rfl ?_) | refine ala rfl (fun b => ?_)) | refine s_fork ?_ ?_)))
      | (refine app (l := ([] : List Comp)) (l2 := es) rfl rfl rfl spL (fun w hw => hre.ext hw.ext) rfl rfl (by omega) (by simp only [List.length_nil]; omega) (by simp only [List.length_nil]; omega) (fun A8 c8 => ⟨enL, ?_⟩); simp only [List.nil_append]; (repeat' (first | (show SH _ _ _ _ _ (_ :: _) _ _ _; first | (show SH _ _ _ _ _ (⟨_, .assign _, _, _, _, _⟩ :: _) _ _ _; refine asg evL ?_) | refine ala rfl (fun b => ?_) | (show SH _ _ _ _ _ (⟨_, .store _ _ _, _, _, _, _⟩ :: _) _ _ _; refine sta rfl rfl rfl spL (by rfl) (by rfl) (by rfl) kpL ?_)) | refine s_nil ?_ | refine kh_normal ?_))))
    all_goals
      refine ⟨agL, (_, (_, _, _), (_, _)), hsL, enL, ?_⟩
    all_goals assumption
  rintro ⟨b11, ⟨A1, c1, L1⟩, A2, c2⟩ g1 hL1 _ rfl
  simp only at hL1
  simp only [sets]
  clear hC hFw
  have hL1e : ents L1 = ents l := hL1
  refine VH.ent (G := [bx b11 25 [.int .i64 t, .slice A1 L1.length c1], knw A1 L1, orow 42 A2 c2 es, bx b7 42 (Flat.enc cc), bx b6 32 [.int .i64 ei, .slice Ae es.length ce], bx b5 25 [.int .i64 t, .slice A l.length c]]) ?_ (Ent.trans (B := [orow 32 A1 c1 L1, allH (L1.map rowOf), bx b11 25 [.int .i64 t, .slice A1 L1.length c1], orow 42 A2 c2 es, bx b7 42 (Flat.enc cc), bx b6 32 [.int .i64 ei, .slice Ae es.length ce], bx b5 25 [.int .i64 t, .slice A l.length c]]) enL (ent_knw.trans enL))
  unfold ChgR at hSt hUt hAt hRt
  rw [show Flat.enc (⟨⟨ei, es⟩, Ae, ce⟩ : EntP) = [.int .i64 ei, .slice Ae es.length ce] from rfl] at hAt
  simp only at hAt
  unfold wv at hSt hUt hAt hRt
  (repeat' (first | (show VH _ _ _ _ _ _ _; first | refine v_seq ?_ | refine r_seq ?_) | (show SH _ _ _ _ _ (_ :: _) _ _ _; first | (show SH _ _ _ _ _ (⟨_, .move _, _, _, _, _⟩ :: _) _ _ _; refine mov evL ?_) | (show SH _ _ _ _ _ (⟨_, .load _ _, _, _, _, _⟩ :: _) _ _ _; refine lba rfl spL (by rfl) ?_) | (show SH _ _ _ _ _ (⟨_, .call ⟨.value (.func 16), _, _⟩, _, _, _, _⟩ :: _) _ _ _; refine cp (callee := .func 16) rfl (fun w hw => hSt w hw.ext) rfl rfl ?_))))
  rintro _ _ ⟨As, cs, Ls, rfl, hLs, rfl⟩
  (repeat' (first | (show VH _ _ _ _ _ _ _; first | refine v_seq ?_ | refine r_seq ?_) | (show SH _ _ _ _ _ (_ :: _) _ _ _; first | (show SH _ _ _ _ _ (⟨_, .move _, _, _, _, _⟩ :: _) _ _ _; refine mov evL ?_) | (show SH _ _ _ _ _ (⟨_, .assign _, _, _, _, _⟩ :: _) _ _ _; refine asg evL ?_) | (show SH _ _ _ _ _ (⟨_, .load _ _, _, _, _, _⟩ :: _) _ _ _; refine lba rfl spL (by rfl) ?_) | (show SH _ _ _ _ _ (⟨_, .call ⟨.value (.func 37), _, _⟩, _, _, _, _⟩ :: _) _ _ _; refine cp (callee := .func 37) rfl (fun w hw => hUt w hw.ext) rfl rfl ?_) | refine extr rfl rfl ?_ | refine ala rfl (fun b => ?_) | (show SH _ _ _ _ _ (⟨_, .store _ _ _, _, _, _, _⟩ :: _) _ _ _; refine sta rfl rfl rfl spL (by rfl) (by rfl) (by rfl) kpL ?_)) | refine s_nil ?_ | refine kh_normal ?_))
  rintro _ _ ⟨Au, cu, Lu, rfl, hLu, rfl⟩
  (repeat' (first | (show VH _ _ _ _ _ _ _; first | refine v_seq ?_ | refine r_seq ?_) | (show SH _ _ _ _ _ (_ :: _) _ _ _; first | (show SH _ _ _ _ _ (⟨_, .move _, _, _, _, _⟩ :: _) _ _ _; refine mov evL ?_) | (show SH _ _ _ _ _ (⟨_, .assign _, _, _, _, _⟩ :: _) _ _ _; refine asg evL ?_) | (show SH _ _ _ _ _ (⟨_, .load _ _, _, _, _, _⟩ :: _) _ _ _; refine lba rfl spL (by rfl) ?_) | (show SH _ _ _ _ _ (⟨_, .call ⟨.value (.func 13), _, _⟩, _, _, _, _⟩ :: _) _ _ _; refine cp (callee := .func 13) rfl (fun w hw => hAt w hw.ext) rfl rfl ?_) | refine extr rfl rfl ?_ | refine ala rfl (fun b => ?_) | (show SH _ _ _ _ _ (⟨_, .store _ _ _, _, _, _, _⟩ :: _) _ _ _; refine sta rfl rfl rfl spL (by rfl) (by rfl) (by rfl) kpL ?_)) | refine s_nil ?_ | refine kh_normal ?_))
  rintro _ _ ⟨Aa, ca, La, rfl, hLa, rfl⟩
  (repeat' (first | (show VH _ _ _ _ _ _ _; first | refine v_seq ?_ | refine r_seq ?_) | (show SH _ _ _ _ _ (_ :: _) _ _ _; first | (show SH _ _ _ _ _ (⟨_, .move _, _, _, _, _⟩ :: _) _ _ _; refine mov evL ?_) | (show SH _ _ _ _ _ (⟨_, .assign _, _, _, _, _⟩ :: _) _ _ _; refine asg evL ?_) | (show SH _ _ _ _ _ (⟨_, .load _ _, _, _, _, _⟩ :: _) _ _ _; refine lba rfl spL (by rfl) ?_) | (show SH _ _ _ _ _ (⟨_, .call ⟨.value (.func 38), _, _⟩, _, _, _, _⟩ :: _) _ _ _; refine cp (callee := .func 38) rfl (fun w hw => hRt w hw.ext) rfl rfl ?_) | refine extr rfl rfl ?_ | refine ala rfl (fun b => ?_) | (show SH _ _ _ _ _ (⟨_, .store _ _ _, _, _, _, _⟩ :: _) _ _ _; refine sta rfl rfl rfl spL (by rfl) (by rfl) (by rfl) kpL ?_)) | refine s_nil ?_ | refine kh_normal ?_))
  rintro _ _ ⟨Ar, cr, Lr, rfl, hLr, rfl⟩
  (repeat' ((fail_if_success (show VH _ _ (.seq (.region 8 _ _) _) _ _ _ _)); first | (show SH _ _ _ _ _ (_ :: _) _ _ _; first | (show SH _ _ _ _ _ (⟨_, .move _, _, _, _, _⟩ :: _) _ _ _; refine mov evL ?_) | (show SH _ _ _ _ _ (⟨_, .assign _, _, _, _, _⟩ :: _) _ _ _; refine asg evL ?_) | refine extr rfl rfl ?_ | refine ala rfl (fun b => ?_) | (show SH _ _ _ _ _ (⟨_, .store _ _ _, _, _, _, _⟩ :: _) _ _ _; refine sta rfl rfl rfl spL (by rfl) (by rfl) (by rfl) kpL ?_)) | refine s_nil ?_ | refine kh_normal ?_))
  rename_i b13 b15 b17
  revert b
  intro b19
  have hL1n : L1.length = l.length := by have := congrArg List.length hL1; rw [List.length_map, ents_len] at this; exact this
  have hL1m : ∀ x ∈ L1, x.e.comps.length ≤ 14 := fun x hx => by
    have h1 : x.e ∈ ents l := by rw [← hL1]; exact List.mem_map_of_mem hx
    obtain ⟨y, hy, he⟩ := List.mem_map.1 h1
    rw [← he]; exact hc14 y hy
  have hs1 : Sz L1 := ⟨by omega, fun x hx => by have := hL1m x hx; omega⟩
  have hSr := fun w hr' => refSet_spec t id cc A1 L1 c1 w hs1 (by omega) hr'
  have hUr := fun w hr' => refUnset_spec t id kd A1 L1 c1 w hs1 (by omega) (fun x hx => by have := hL1m x hx; omega) hr'
  have hAr := fun w hr' (h : Ext W w) => refAdd_spec t ⟨⟨ei, es⟩, Ae, ce⟩ A1 L1 c1 w hs1 (by omega) hr' (by show es.length ≤ _; omega) (hre.ext h)
  have hRr := fun w hr' => refRemove_spec t id A1 L1 c1 w hs1 (by omega) hr'
  rw [hL1e] at hSr hUr hAr hRr
  unfold RefR at hSr hUr hRr
  unfold RefA at hAr
  rw [show Flat.enc (⟨⟨ei, es⟩, Ae, ce⟩ : EntP) = [.int .i64 ei, .slice Ae es.length ce] from rfl] at hAr
  simp only at hAr
  unfold wv at hSr hUr hAr hRr
  have he70 : (ents l).length ≤ 70 := by rw [ents_len]; exact h70
  have he14 : ∀ e ∈ ents l, e.comps.length ≤ 14 := fun e he => by
    obtain ⟨y, hy, rfl⟩ := List.mem_map.1 he
    exact hc14 y hy
  have hzs := small_sz hLs (small_set he70 he14 id cc)
  have hzu := small_sz hLu (small_uns he70 he14 id kd)
  have hza := small_sz hLa (small_add he70 he14 (e := ⟨ei, es⟩) (by show es.length ≤ 14; omega))
  have hzr := small_sz hLr (small_rem he70 he14 id)
  clear hSt hUt hAt hRt he70 he14
  generalize setL id cc (ents l) = sl1 at hLs hSr
  generalize setErr t id cc (ents l) = se1 at hLs hSr ⊢
  generalize unsL id kd (ents l) = sl2 at hLu hUr
  generalize unsErr t id kd (ents l) = se2 at hLu hUr ⊢
  generalize addL ⟨ei, es⟩ (ents l) = sl3 at hLa hAr
  generalize addErr t ⟨ei, es⟩ (ents l) = se3 at hLa hAr ⊢
  generalize remL id (ents l) = sl4 at hLr hRr
  generalize remErr t id (ents l) = se4 at hLr hRr ⊢
  (repeat' (first | (show VH _ _ _ _ _ _ _; first | refine v_seq ?_ | refine r_seq ?_) | (show SH _ _ _ _ _ (_ :: _) _ _ _; first | (show SH _ _ _ _ _ (⟨_, .move _, _, _, _, _⟩ :: _) _ _ _; refine mov evL ?_) | (show SH _ _ _ _ _ (⟨_, .load _ _, _, _, _, _⟩ :: _) _ _ _; refine lba rfl spL (by rfl) ?_) | (show SH _ _ _ _ _ (⟨_, .call ⟨.value (.func 39), _, _⟩, _, _, _, _⟩ :: _) _ _ _; refine cp (callee := .func 39) rfl (fun w hw => hSr w (hw.kw (A := A1) (l := L1) spL)) rfl rfl ?_))))
  rintro _ _ ⟨As2, cs2, Ls2, xs2, rfl, hLs2, hms2, rfl⟩
  (repeat' (first | (show VH _ _ _ _ _ _ _; first | refine v_seq ?_ | refine r_seq ?_) | (show SH _ _ _ _ _ (_ :: _) _ _ _; first | (show SH _ _ _ _ _ (⟨_, .move _, _, _, _, _⟩ :: _) _ _ _; refine mov evL ?_) | (show SH _ _ _ _ _ (⟨_, .assign _, _, _, _, _⟩ :: _) _ _ _; refine asg evL ?_) | (show SH _ _ _ _ _ (⟨_, .load _ _, _, _, _, _⟩ :: _) _ _ _; refine lba rfl spL (by rfl) ?_) | (show SH _ _ _ _ _ (⟨_, .call ⟨.value (.func 40), _, _⟩, _, _, _, _⟩ :: _) _ _ _; refine cp (callee := .func 40) rfl (fun w hw => hUr w (hw.kw (A := A1) (l := L1) spL)) rfl rfl ?_) | refine extr rfl rfl ?_ | refine ala rfl (fun b => ?_) | (show SH _ _ _ _ _ (⟨_, .store _ _ _, _, _, _, _⟩ :: _) _ _ _; refine sta rfl rfl rfl spL (by rfl) (by rfl) (by rfl) kpL ?_)) | refine s_nil ?_ | refine kh_normal ?_))
  rintro _ _ ⟨Au2, cu2, Lu2, xu2, rfl, hLu2, hmu2, rfl⟩
  (repeat' (first | (show VH _ _ _ _ _ _ _; first | refine v_seq ?_ | refine r_seq ?_) | (show SH _ _ _ _ _ (_ :: _) _ _ _; first | (show SH _ _ _ _ _ (⟨_, .move _, _, _, _, _⟩ :: _) _ _ _; refine mov evL ?_) | (show SH _ _ _ _ _ (⟨_, .assign _, _, _, _, _⟩ :: _) _ _ _; refine asg evL ?_) | (show SH _ _ _ _ _ (⟨_, .load _ _, _, _, _, _⟩ :: _) _ _ _; refine lba rfl spL (by rfl) ?_) | (show SH _ _ _ _ _ (⟨_, .call ⟨.value (.func 41), _, _⟩, _, _, _, _⟩ :: _) _ _ _; refine cp (callee := .func 41) rfl (fun w hw => hAr w (hw.kw (A := A1) (l := L1) spL) hw.ext) rfl rfl ?_) | refine extr rfl rfl ?_ | refine ala rfl (fun b => ?_) | (show SH _ _ _ _ _ (⟨_, .store _ _ _, _, _, _, _⟩ :: _) _ _ _; refine sta rfl rfl rfl spL (by rfl) (by rfl) (by rfl) kpL ?_)) | refine s_nil ?_ | refine kh_normal ?_))
  rintro _ _ ⟨Aa2, ca2, La2, rfl, hLa2, hma2, rfl⟩
  (repeat' (first | (show VH _ _ _ _ _ _ _; first | refine v_seq ?_ | refine r_seq ?_) | (show SH _ _ _ _ _ (_ :: _) _ _ _; first | (show SH _ _ _ _ _ (⟨_, .move _, _, _, _, _⟩ :: _) _ _ _; refine mov evL ?_) | (show SH _ _ _ _ _ (⟨_, .assign _, _, _, _, _⟩ :: _) _ _ _; refine asg evL ?_) | (show SH _ _ _ _ _ (⟨_, .load _ _, _, _, _, _⟩ :: _) _ _ _; refine lba rfl spL (by rfl) ?_) | (show SH _ _ _ _ _ (⟨_, .call ⟨.value (.func 42), _, _⟩, _, _, _, _⟩ :: _) _ _ _; refine cp (callee := .func 42) rfl (fun w hw => hRr w (hw.kw (A := A1) (l := L1) spL)) rfl rfl ?_) | refine extr rfl rfl ?_ | refine ala rfl (fun b => ?_) | (show SH _ _ _ _ _ (⟨_, .store _ _ _, _, _, _, _⟩ :: _) _ _ _; refine sta rfl rfl rfl spL (by rfl) (by rfl) (by rfl) kpL ?_)) | refine s_nil ?_ | refine kh_normal ?_))
  rintro _ _ ⟨Ar2, cr2, Lr2, xr2, rfl, hLr2, hmr2, rfl⟩
  (repeat' ((fail_if_success (show VH _ _ (.seq (.region 12 _ _) _) _ _ _ _)); first | refine v_seq ?_ | (show SH _ _ _ _ _ (_ :: _) _ _ _; first | (show SH _ _ _ _ _ (⟨_, .move _, _, _, _, _⟩ :: _) _ _ _; refine mov evL ?_) | (show SH _ _ _ _ _ (⟨_, .assign _, _, _, _, _⟩ :: _) _ _ _; refine asg evL ?_) | refine extr rfl rfl ?_ | refine ala rfl (fun b => ?_) | (show SH _ _ _ _ _ (⟨_, .store _ _ _, _, _, _, _⟩ :: _) _ _ _; refine sta rfl rfl rfl spL (by rfl) (by rfl) (by rfl) kpL ?_)) | refine s_nil ?_ | refine kh_normal ?_))
  have hSs := fun w h1 h2 => same_spec (if se1 = 0 then t else 0) (if se1 = 0 then t else 0) As As2 Ls Ls2 cs cs2 w h1 h2 hzs.1
  rw [decide_eq_true ⟨rfl, hLs.trans hLs2.symm⟩] at hSs
  unfold wv at hSs
  have hSu := fun w h1 h2 => same_spec (if se2 = 0 then t else 0) (if se2 = 0 then t else 0) Au Au2 Lu Lu2 cu cu2 w h1 h2 hzu.1
  rw [decide_eq_true ⟨rfl, hLu.trans hLu2.symm⟩] at hSu
  unfold wv at hSu
  have hSa := fun w h1 h2 => same_spec (if se3 = 0 then t else 0) (if se3 = 0 then t else 0) Aa Aa2 La La2 ca ca2 w h1 h2 hza.1
  rw [decide_eq_true ⟨rfl, hLa.trans hLa2.symm⟩] at hSa
  unfold wv at hSa
  have hSr := fun w h1 h2 => same_spec (if se4 = 0 then t else 0) (if se4 = 0 then t else 0) Ar Ar2 Lr Lr2 cr cr2 w h1 h2 hzr.1
  rw [decide_eq_true ⟨rfl, hLr.trans hLr2.symm⟩] at hSr
  unfold wv at hSr
  simp only [List.cons_append, List.nil_append]
  (repeat' (first | (show VH _ _ _ _ _ _ _; first | refine v_seq ?_ | refine r_seq ?_ | refine v_skip ?_ | refine v_cond_f rfl tbL ?_) | (show SH _ _ _ _ _ (_ :: _) _ _ _; first | (show SH _ _ _ _ _ (⟨_, _, _, _, _, some _⟩ :: _) _ _ _; (refine gif rfl rfl ?_; refine giFF tbL ?_)) | (show SH _ _ _ _ _ (⟨_, .move _, _, _, _, _⟩ :: _) _ _ _; refine mov evL ?_) | (show SH _ _ _ _ _ (⟨_, .binOp .neq _ _ _ _, _, _, _, _⟩ :: _) _ _ _; refine neqF rfl rfl omD ?_) | (show SH _ _ _ _ _ (⟨_, .load _ _, _, _, _, _⟩ :: _) _ _ _; refine lba rfl spL (by rfl) ?_) | (show SH _ _ _ _ _ (⟨_, .call ⟨.value (.func 18), _, _⟩, _, _, _, _⟩ :: _) _ _ _; refine cl (callee := .func 18) rfl (fun w hw => hSs w (ownW_rd (A := As) (c := cs) (L := Ls) (R := []) (ent_cons spM (ent_cons spM (ent_nil _))) hw) (mix_rd hms2 hw (A1 := A1) (L1 := L1) spM (hw.rd spM) (hw.rd spM))) rfl rfl ?_) | (show SH _ _ _ _ _ (⟨_, .call ⟨.value (.func 18), _, _⟩, _, _, _, _⟩ :: _) _ _ _; refine cl (callee := .func 18) rfl (fun w hw => hSu w (ownW_rd (A := Au) (c := cu) (L := Lu) (R := []) (ent_cons spM (ent_cons spM (ent_nil _))) hw) (mix_rd hmu2 hw (A1 := A1) (L1 := L1) spM (hw.rd spM) (hw.rd spM))) rfl rfl ?_) | (show SH _ _ _ _ _ (⟨_, .call ⟨.value (.func 18), _, _⟩, _, _, _, _⟩ :: _) _ _ _; refine cl (callee := .func 18) rfl (fun w hw => hSa w (ownW_rd (A := Aa) (c := ca) (L := La) (R := []) (ent_cons spM (ent_cons spM (ent_nil _))) hw) (mix_rd hma2 hw (A1 := A1) (L1 := L1) spM (hw.rd spM) (hre.ext hw.ext))) rfl rfl ?_) | (show SH _ _ _ _ _ (⟨_, .call ⟨.value (.func 18), _, _⟩, _, _, _, _⟩ :: _) _ _ _; refine cl (callee := .func 18) rfl (fun w hw => hSr w (ownW_rd (A := Ar) (c := cr) (L := Lr) (R := []) (ent_cons spM (ent_cons spM (ent_nil _))) hw) (mix_rd hmr2 hw (A1 := A1) (L1 := L1) spM (hw.rd spM) (hw.rd spM))) rfl rfl ?_) | refine bnoT rfl ?_ | (show SH _ _ _ _ _ (⟨_, .pick _ _ _, _, _, _, _⟩ :: _) _ _ _; refine pkf rfl tbL evL ?_)) | refine s_nil ?_ | refine kh_normal ?_))
  clear hSs hSu hSa hSr hms2 hmu2 hma2 hmr2 hLs2 hLu2 hLa2 hLr2 hLs hLu hLa hLr
  generalize (if se1 = 0 then t else 0) = ts
  generalize (if se2 = 0 then t else 0) = tu
  generalize (if se3 = 0 then t else 0) = ta
  generalize (if se4 = 0 then t else 0) = tr
  obtain ⟨WS, hWS⟩ : ∃ WS : List WorldP, WS = [⟨ts, As, cs, Ls⟩, ⟨tu, Au, cu, Lu⟩, ⟨ta, Aa, ca, La⟩, ⟨tr, Ar, cr, Lr⟩] := ⟨_, rfl⟩
  have hWn : WS.length = 4 := by rw [hWS]; rfl
  have hWs : ∀ x ∈ WS, x.L.length ≤ 1000000 ∧ ∀ y ∈ x.L, y.e.comps.length ≤ 1000000 := fun x hx => by
    rw [hWS] at hx
    simp only [List.mem_cons, List.not_mem_nil, or_false] at hx
    rcases hx with rfl | rfl | rfl | rfl
    · exact ⟨by have := hzs.2.1; show Ls.length ≤ _; omega, fun y hy => by have := hzs.2.2 y hy; omega⟩
    · exact ⟨by have := hzu.2.1; show Lu.length ≤ _; omega, fun y hy => by have := hzu.2.2 y hy; omega⟩
    · exact ⟨by have := hza.2.1; show La.length ≤ _; omega, fun y hy => by have := hza.2.2 y hy; omega⟩
    · exact ⟨by have := hzr.2.1; show Lr.length ≤ _; omega, fun y hy => by have := hzr.2.2 y hy; omega⟩
  clear hzs hzu hza hzr
  refine bsl (l := [(⟨ts, As, cs, Ls⟩ : WorldP), ⟨tu, Au, cu, Lu⟩, ⟨ta, Aa, ca, La⟩, ⟨tr, Ar, cr, Lr⟩]) rfl rfl (Vals.cons rfl (Vals.cons rfl (Vals.cons rfl (Vals.cons rfl Vals.nil)))) rfl rfl (by decide) (fun bw => ?_)
  (repeat' (first | refine v_block ?_ | (show SH _ _ _ _ _ (_ :: _) _ _ _; first | (show SH _ _ _ _ _ (⟨_, .move _, _, _, _, _⟩ :: _) _ _ _; refine mov evL ?_) | refine slen rfl ?_) | refine s_nil ?_ | refine kh_normal ?_))
  refine VH.ent (G := [orow 25 (some ⟨bw, 0, none⟩) 4 WS, allH (WS.map ownP), knw A1 L1, orow 42 A2 c2 es, bx b11 25 [.int .i64 t, .slice A1 L1.length c1], bx b7 42 (Flat.enc cc), bx b6 32 [.int .i64 ei, .slice Ae es.length ce], bx b5 25 [.int .i64 t, .slice A l.length c]]) ?_ (by
    rw [hWS]
    refine Ent.trans (B := [orow 32 As cs Ls, allH (Ls.map rowOf), orow 32 Au cu Lu, allH (Lu.map rowOf), orow 32 Aa ca La, allH (La.map rowOf), orow 32 Ar cr Lr, allH (Lr.map rowOf), orow 25 (some ⟨bw, 0, none⟩) 4 [(⟨ts, As, cs, Ls⟩ : WorldP), ⟨tu, Au, cu, Lu⟩, ⟨ta, Aa, ca, La⟩, ⟨tr, Ar, cr, Lr⟩], knw A1 L1, orow 42 A2 c2 es, bx b11 25 [.int .i64 t, .slice A1 L1.length c1], bx b7 42 (Flat.enc cc), bx b6 32 [.int .i64 ei, .slice Ae es.length ce], bx b5 25 [.int .i64 t, .slice A l.length c]]) enM ?_
    exact (own_four (a := ⟨ts, As, cs, Ls⟩) (b := ⟨tu, Au, cu, Lu⟩) (c := ⟨ta, Aa, ca, La⟩) (d := ⟨tr, Ar, cr, Lr⟩)).trans enL)
  clear hWS
  refine v_norm [(5,_),(6,_),(11,_),(12,_),(145,_),(146,_),(147,_)] heL (fun g => ?_)
  refine v_loop [(30,30),(147,153)] (fun k : Nat => [(147, .int .i64 k)]) (fun k => [orow 25 (some ⟨bw, 0, none⟩) 4 WS, allH ((WS.drop k).map ownP), knw A1 L1, orow 42 A2 c2 es, bx b11 25 [.int .i64 t, .slice A1 L1.length c1], bx b7 42 (Flat.enc cc), bx b6 32 [.int .i64 ei, .slice Ae es.length ce], bx b5 25 [.int .i64 t, .slice A l.length c]]) (fun k => k ≤ 4) (fun k => 4 - k) 0 hsL enL (by omega) ?_
  rintro k g3 hk
  simp only [sets]
  by_cases hkl : k < 4
  · obtain ⟨x, hx⟩ : ∃ x, WS.getD k Flat.dflt = x := ⟨_, rfl⟩
    have hxm := hWs _ (getD_mem (d := Flat.dflt) (show k < WS.length by omega))
    have hdr : WS.drop k = WS.getD k Flat.dflt :: WS.drop (k + 1) := by
      rw [List.drop_eq_getElem_cons (show k < WS.length by omega), List.getD_eq_getElem?_getD, List.getElem?_eq_getElem (show k < WS.length by omega)]; rfl
    have hxE : Flat.enc (WS.getD k Flat.dflt) = Flat.enc x := by rw [hx]
    rw [hx] at hxm hdr
    obtain ⟨xt, xA, xc, xL⟩ := x
    simp only at hxm
    rw [show Flat.enc (⟨xt, xA, xc, xL⟩ : WorldP) = [.int .i64 xt, .slice xA xL.length xc] from rfl] at hxE
    clear hx hWs
    have hsp := fun w0 H w h => spoil_spec xt xA xL xc w0 H w hxm.1 hxm.2 h
    unfold wv at hsp
    refine VH.ent (G := [orow 32 xA xc xL, allH (xL.map rowOf), allH ((WS.drop (k + 1)).map ownP), orow 25 (some ⟨bw, 0, none⟩) 4 WS, knw A1 L1, orow 42 A2 c2 es, bx b11 25 [.int .i64 t, .slice A1 L1.length c1], bx b7 42 (Flat.enc cc), bx b6 32 [.int .i64 ei, .slice Ae es.length ce], bx b5 25 [.int .i64 t, .slice A l.length c]]) ?_ (by
      rw [hdr]
      refine Ent.trans (B := [allH (((⟨xt, xA, xc, xL⟩ : WorldP) :: WS.drop (k + 1)).map ownP), orow 25 (some ⟨bw, 0, none⟩) 4 WS, knw A1 L1, orow 42 A2 c2 es, bx b11 25 [.int .i64 t, .slice A1 L1.length c1], bx b7 42 (Flat.enc cc), bx b6 32 [.int .i64 ei, .slice Ae es.length ce], bx b5 25 [.int .i64 t, .slice A l.length c]]) enL own_next)
    clear hdr hxm
    (repeat' (first | (show VH _ _ _ _ _ _ _; first | refine v_seq ?_ | refine r_seq ?_ | refine v_block ?_ | refine v_skip ?_ | refine v_cond_t rfl tbL ?_) | (show SH _ _ _ _ _ (_ :: _) _ _ _; first | (show SH _ _ _ _ _ (⟨_, .binOp .lss _ _ _ _, _, _, _, _⟩ :: _) _ _ _; refine lssT rfl rfl omD ?_) | (show SH _ _ _ _ _ (⟨_, .load _ _, _, _, _, _⟩ :: _) _ _ _; first | refine lag rfl (fun _ _ => rdY) (by rfl) omL (by assumption) ?_ | refine lba rfl spL (by rfl) ?_) | (show SH _ _ _ _ _ (⟨_, .indexAddr _ _ _, _, _, _, _⟩ :: _) _ _ _; refine ix rfl rfl (by with_reducible rfl) (fun _ _ => rdY) (by rfl) omL omL ?_) | refine ala rfl (fun b => ?_) | (show SH _ _ _ _ _ (⟨_, .store _ _ _, _, _, _, _⟩ :: _) _ _ _; refine sta rfl rfl rfl spL (by rfl) (by rfl) (by rfl) kpL ?_)) | refine s_nil ?_ | refine kh_normal ?_))
    refine cm rfl (fun w hw => hsp _ _ w (Ent.wd enL hw)) rfl rfl ?_
    rintro _ _ rfl
    refine ⟨trivial, ?_⟩
    (repeat' (first | refine r_seq ?_ | (show SH _ _ _ _ _ (_ :: _) _ _ _; first | (show SH _ _ _ _ _ (⟨_, .move _, _, _, _, _⟩ :: _) _ _ _; refine mov evL ?_) | (show SH _ _ _ _ _ (⟨_, .binOp .add _ _ _ _, _, _, _, _⟩ :: _) _ _ _; refine add rfl rfl inL ?_)) | refine s_nil ?_ | refine kh_normal ?_ | refine bh_normal ?_))
    exact ⟨agL, k + 1, hsL, enL, by show k + 1 ≤ 4; omega, by show 4 - (k + 1) < 4 - k; omega⟩
  · have hk4 : k = 4 := by omega
    subst hk4
    clear hWs
    have hS := fun w h1 h2 => same_spec t t A A1 l L1 c c1 w h1 h2 hs
    rw [decide_eq_true ⟨rfl, hL1e.symm⟩] at hS
    have hE := fun w h1 h2 => sameE_spec ⟨⟨ei, es⟩, Ae, ce⟩ ⟨⟨ei, es⟩, A2, c2⟩ w h1 h2 (by show es.length ≤ _; omega)
    rw [decide_eq_true rfl] at hE
    rw [show Flat.enc (⟨⟨ei, es⟩, Ae, ce⟩ : EntP) = [.int .i64 ei, .slice Ae es.length ce] from rfl, show Flat.enc (⟨⟨ei, es⟩, A2, c2⟩ : EntP) = [.int .i64 ei, .slice A2 es.length c2] from rfl] at hE
    unfold wv at hS
    (repeat' (first | (show VH _ _ _ _ _ _ _; first | refine v_seq ?_ | refine r_seq ?_ | refine v_ret ?_ | refine v_exit ?_ | refine v_cond_f rfl tbL ?_) | (show SH _ _ _ _ _ (_ :: _) _ _ _; first | (show SH _ _ _ _ _ (⟨_, _, _, _, _, some _⟩ :: _) _ _ _; (refine gif rfl rfl ?_; refine giTT tbL ?_)) | (show SH _ _ _ _ _ (⟨_, .move _, _, _, _, _⟩ :: _) _ _ _; refine mov evL ?_) | (show SH _ _ _ _ _ (⟨_, .assign _, _, _, _, _⟩ :: _) _ _ _; refine asg evL ?_) | (show SH _ _ _ _ _ (⟨_, .binOp .lss _ _ _ _, _, _, _, _⟩ :: _) _ _ _; refine lssF rfl rfl omD ?_) | (show SH _ _ _ _ _ (⟨_, .load _ _, _, _, _, _⟩ :: _) _ _ _; first | refine lbx rfl spL (by rfl) ?_ | refine lba rfl spL (by rfl) ?_) | (show SH _ _ _ _ _ (⟨_, .call ⟨.value (.func 18), _, _⟩, _, _, _, _⟩ :: _) _ _ _; refine cl (callee := .func 18) rfl (fun w hw => hS w (hr.ext hw.ext) (hw.kw (A := A1) (l := L1) spL)) rfl rfl ?_) | (show SH _ _ _ _ _ (⟨_, .call ⟨.value (.func 23), _, _⟩, _, _, _, _⟩ :: _) _ _ _; refine cl (callee := .func 23) rfl (fun w hw => hE w (hre.ext hw.ext) (hw.rd spL)) rfl rfl ?_) | (show SH _ _ _ _ _ (⟨_, .call ⟨.value (.func 14), _, _⟩, _, _, _, _⟩ :: _) _ _ _; refine cl (callee := .func 14) rfl (fun w hw => hA w hw.ext) rfl rfl ?_) | (show SH _ _ _ _ _ (⟨_, .pick _ _ _, _, _, _, _⟩ :: _) _ _ _; refine pkt rfl tbL evL ?_) | refine fad rfl ?_ | refine bld rfl rfl ?_) | refine s_nil ?_ | refine kh_normal ?_ | refine kh_exit ?_ | refine bh_exit ?_))
    exact rh1 rfl rfl ⟨rfl, rfl⟩ (ent_nil _)
end Go.Proofs.YtfodpcpclmnbkaaDoor
