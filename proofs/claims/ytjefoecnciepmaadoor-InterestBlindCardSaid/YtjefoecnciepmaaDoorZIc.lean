/- Package interest: open, sees. -/
import Derived.Test.YtjefoecnciepmaaDoorZTw
import Derived.Test.YtjefoecnciepmaaDoorZIb
set_option linter.unusedSimpArgs false
set_option linter.unusedVariables false
namespace Go.Proofs.YtjefoecnciepmaaDoor
open Go.Fw Go.RowKit
/-- What a client sees with. -/
structure EyeV where
  ct : Int
  A : Option Addr
  m : Nat
  c : Nat
instance : Flat EyeV := ⟨2, fun x => [.int .i64 x.ct, .slice x.A x.m x.c], ⟨0, none, 0, 0⟩, fun _ => rfl, fun x v hv => by simp at hv; rcases hv with rfl | rfl <;> rfl, by omega⟩
set_option maxHeartbeats 1000000 in
set_option maxRecDepth 100000 in
theorem eyePts (w : World) (b : Nat) (ct : Int) (l : List EntP) (hs : Sz l) (hr : ∀ x ∈ l, Rd w x.A x.e.comps) (hk : Rd w (some ⟨b, 0, none⟩) [(⟨ct, none, 0, 0⟩ : EyeV)]) :
    Fun1 Tryd.prog w (.func (.func 40) #[] #[.pointer (some ⟨b, 0, none⟩)]) (fun x : EntP => .agg (Flat.enc x).toArray) (fun x => .tuple #[.agg (Flat.enc (ptD (pointE x.e))).toArray, .bool ((pointE x.e).isSome && ownsE ct x.e)]) (· ∈ l) := fun1_cap fun w' he x hx => by
  have hp := fun w'' (he' : Ext w' w'') => point_spec x w'' (hs.el x hx) (((hr x hx).ext he).ext he')
  have ho := fun w'' (he' : Ext w' w'') => owns_spec ct none 0 0 x w'' (hs.el x hx) (((hr x hx).ext he).ext he')
  have hk' := hk.ext he
  generalize pointE x.e = pt at hp ⊢
  generalize ownsE ct x.e = ow at ho ⊢
  obtain ⟨⟨id, cs⟩, A, c1⟩ := x
  try simp only at hp ho ⊢
  rw [show Flat.enc (⟨⟨id, cs⟩, A, c1⟩ : EntP) = [.int .i64 id, .slice A cs.length c1] from rfl] at *
  generalize cs.length = m at hp ho ⊢
  generalize pt.isSome = sm at hp ⊢
  generalize ptD pt = P at hp ⊢
  obtain ⟨px, py⟩ := P
  rw [show Flat.enc (⟨px, py⟩ : Pt) = [.int .i64 px, .int .i64 py] from rfl] at *
  cases sm
  all_goals
    refine enterH Tryd.func40 rfl rfl Tryd.ntmps40 rfl (Wd.refl _) ?_
    (repeat' (first | (show VH _ _ _ _ _ _ _; first | refine v_seq ?_ | refine r_seq ?_) | (show SH _ _ _ _ _ (_ :: _) _ _ _; first | (show SH _ _ _ _ _ (⟨_, .move _, _, _, _, _⟩ :: _) _ _ _; refine mov evL ?_) | (show SH _ _ _ _ _ (⟨_, .assign _, _, _, _, _⟩ :: _) _ _ _; refine asg evL ?_) | (show SH _ _ _ _ _ (⟨_, .load _ _, _, _, _, _⟩ :: _) _ _ _; refine lba rfl spL (by rfl) ?_) | (show SH _ _ _ _ _ (⟨_, .call ⟨.value (.func 41), _, _⟩, _, _, _, _⟩ :: _) _ _ _; refine cl (callee := .func 41) rfl (fun w hw => hp _ hw.ext) rfl rfl ?_) | refine extr rfl rfl ?_ | refine ala rfl (fun b => ?_) | (show SH _ _ _ _ _ (⟨_, .box _ _, _, _, _, _⟩ :: _) _ _ _; refine bxx rfl evL rfl (fun b => ?_)) | (show SH _ _ _ _ _ (⟨_, .store _ _ _, _, _, _, _⟩ :: _) _ _ _; refine sta rfl rfl rfl spL (by rfl) (by rfl) (by rfl) kpL ?_)) | refine s_nil ?_ | refine kh_normal ?_))
    rename_i b2 b3
    refine r_heldT [bx b 87 _, bx b2 37 _] (tr [(0, true), (1, false), (2, false), (3, true), (4, false), (5, false), (6, true), (7, false), (8, false)] .nil) hmix (by kernel_rfl) enL ?_
    (repeat' (first | refine v_ret ?_ | (show SH _ _ _ _ _ (_ :: _) _ _ _; first | (show SH _ _ _ _ _ (⟨_, _, _, _, _, some _⟩ :: _) _ _ _; (refine gif rfl rfl ?_; first | refine giTT tbL ?_ | refine giTF tbL ?_)) | (show SH _ _ _ _ _ (⟨_, .move _, _, _, _, _⟩ :: _) _ _ _; refine mov evL ?_) | (show SH _ _ _ _ _ (⟨_, .assign _, _, _, _, _⟩ :: _) _ _ _; refine asg evL ?_) | (show SH _ _ _ _ _ (⟨_, .load _ _, _, _, _, _⟩ :: _) _ _ _; first | refine lba rfl spL (by rfl) ?_ | refine lca rfl (fun _ _ => rdX) (by rfl) ?_) | (show SH _ _ _ _ _ (⟨_, .call ⟨.value (.func 32), _, _⟩, _, _, _, _⟩ :: _) _ _ _; refine cl (callee := .func 32) rfl (fun w hw => ho _ hw.ext) rfl rfl ?_) | (show SH _ _ _ _ _ (⟨_, .pick _ _ _, _, _, _, _⟩ :: _) _ _ _; first | refine pkt rfl tbL evL ?_ | refine pkf rfl tbL evL ?_) | (show SH _ _ _ _ _ (⟨_, .store _ _ _, _, _, _, _⟩ :: _) _ _ _; refine sta rfl rfl rfl spL (by rfl) (by rfl) (by rfl) kpL ?_)) | refine s_nil ?_ | refine kh_normal ?_))
    exact rhC2 rfl rfl rfl rfl (fun w hw => loadVar_bx hw spL (by rfl)) ⟨rfl, rfl⟩ (ent_nil _)
/-- What open gives. -/
def OpenR (ct t : Int) (l : List EntP) (v : Value) (H : List HP) : Prop :=
  if (1 ≤ ct ∧ ct ≤ 8) ∧ ValidW t (ents l) then ∃ A c, v = .tuple #[.agg #[.int .i64 ct, .slice A (ptsE ct (ents l)).length c], .int .i64 0] ∧ H = [orow 87 A c (ptsE ct (ents l))]
  else v = .tuple #[.agg #[.int .i64 0, .slice none 0 0], .int .i64 2] ∧ H = []
theorem ptsE_ents (ct : Int) (l : List EntP) : (l.filter fun x => (pointE x.e).isSome && ownsE ct x.e).map (fun x => ptD (pointE x.e)) = ptsE ct (ents l) := by
  unfold ptsE ents
  rw [List.filter_map, List.map_map]; rfl
set_option maxHeartbeats 1000000 in
set_option maxRecDepth 100000 in
theorem open_spec (ct t : Int) (A : Option Addr) (l : List EntP) (c1 : Nat) (w : World) (hG : Glob w) (hs : Sz l) (hr : RdW w A l) : Ret Tryd.prog 27 [wv t A l c1, .int .i64 ct].toArray w (RP w (OpenR ct t l)) := by
  have hV := fun w' (he : Ext w w') => valid_spec t A l c1 w' (hG.ext he) hs (hr.ext he)
  unfold OpenR
  unfold wv at hV ⊢
  by_cases h1 : 1 ≤ ct ∧ ct ≤ 8
  case neg =>
    have hn : ¬ ((1 ≤ ct ∧ ct ≤ 8) ∧ ValidW t (ents l)) := fun h => h1 h.1
    simp only [if_neg hn]
    clear hn
    by_cases h2 : ct < 1
    all_goals
      refine enterH Tryd.func27 rfl rfl Tryd.ntmps27 rfl (Wd.refl _) ?_
      (repeat' (first | (show VH _ _ _ _ _ _ _; first | refine v_seq ?_ | refine r_seq ?_ | refine v_ret ?_ | refine v_cond_t rfl tbL ?_) | (show SH _ _ _ _ _ (_ :: _) _ _ _; first | (show SH _ _ _ _ _ (⟨_, _, _, _, _, some _⟩ :: _) _ _ _; (refine gif rfl rfl ?_; first | refine giFF tbL ?_ | refine giFT tbL ?_)) | (show SH _ _ _ _ _ (⟨_, .move _, _, _, _, _⟩ :: _) _ _ _; refine mov evL ?_) | (show SH _ _ _ _ _ (⟨_, .assign _, _, _, _, _⟩ :: _) _ _ _; refine asg evL ?_) | (show SH _ _ _ _ _ (⟨_, .binOp .lss _ _ _ _, _, _, _, _⟩ :: _) _ _ _; first | refine lssT rfl rfl omD ?_ | refine lssF rfl rfl omD ?_) | (show SH _ _ _ _ _ (⟨_, .binOp .gtr _ _ _ _, _, _, _, _⟩ :: _) _ _ _; refine gtrT rfl rfl omD ?_) | (show SH _ _ _ _ _ (⟨_, .pick _ _ _, _, _, _, _⟩ :: _) _ _ _; first | refine pkt rfl tbL evL ?_ | refine pkf rfl tbL evL ?_) | refine bld rfl rfl ?_ | refine ala rfl (fun b => ?_) | (show SH _ _ _ _ _ (⟨_, .box _ _, _, _, _, _⟩ :: _) _ _ _; refine bxx rfl evL rfl (fun b => ?_)) | (show SH _ _ _ _ _ (⟨_, .store _ _ _, _, _, _, _⟩ :: _) _ _ _; refine sta rfl rfl rfl spL (by rfl) (by rfl) (by rfl) kpL ?_)) | refine s_nil ?_ | refine kh_normal ?_ | refine kh_ret ?_))
      exact rhC2 rfl rfl rfl rfl (fun w hw => loadVar_bx hw spL (by rfl)) ⟨rfl, rfl⟩ (ent_nil _)
  by_cases hv : ValidW t (ents l)
  case neg =>
    have hn : ¬ ((1 ≤ ct ∧ ct ≤ 8) ∧ ValidW t (ents l)) := fun h => hv h.2
    simp only [if_neg hn]
    clear hn
    rw [decide_eq_false hv] at hV
    refine enterH Tryd.func27 rfl rfl Tryd.ntmps27 rfl (Wd.refl _) ?_
    (repeat' (first | (show VH _ _ _ _ _ _ _; first | refine v_seq ?_ | refine r_seq ?_ | refine v_ret ?_ | refine v_cond_t rfl tbL ?_) | (show SH _ _ _ _ _ (_ :: _) _ _ _; first | (show SH _ _ _ _ _ (⟨_, _, _, _, _, some _⟩ :: _) _ _ _; (refine gif rfl rfl ?_; refine giFF tbL ?_)) | (show SH _ _ _ _ _ (⟨_, .move _, _, _, _, _⟩ :: _) _ _ _; refine mov evL ?_) | (show SH _ _ _ _ _ (⟨_, .assign _, _, _, _, _⟩ :: _) _ _ _; refine asg evL ?_) | (show SH _ _ _ _ _ (⟨_, .binOp .lss _ _ _ _, _, _, _, _⟩ :: _) _ _ _; refine lssF rfl rfl omD ?_) | (show SH _ _ _ _ _ (⟨_, .binOp .gtr _ _ _ _, _, _, _, _⟩ :: _) _ _ _; refine gtrF rfl rfl omD ?_) | (show SH _ _ _ _ _ (⟨_, .load _ _, _, _, _, _⟩ :: _) _ _ _; refine lba rfl spL (by rfl) ?_) | (show SH _ _ _ _ _ (⟨_, .call ⟨.value (.func 38), _, _⟩, _, _, _, _⟩ :: _) _ _ _; refine cl (callee := .func 38) rfl (fun w hw => hV _ hw.ext) rfl rfl ?_) | refine bnoF rfl ?_ | (show SH _ _ _ _ _ (⟨_, .pick _ _ _, _, _, _, _⟩ :: _) _ _ _; refine pkf rfl tbL evL ?_) | refine bld rfl rfl ?_ | refine ala rfl (fun b => ?_) | (show SH _ _ _ _ _ (⟨_, .box _ _, _, _, _, _⟩ :: _) _ _ _; refine bxx rfl evL rfl (fun b => ?_)) | (show SH _ _ _ _ _ (⟨_, .store _ _ _, _, _, _, _⟩ :: _) _ _ _; refine sta rfl rfl rfl spL (by rfl) (by rfl) (by rfl) kpL ?_)) | refine s_nil ?_ | refine kh_normal ?_ | refine kh_ret ?_))
    exact rhC2 rfl rfl rfl rfl (fun w hw => loadVar_bx hw spL (by rfl)) ⟨rfl, rfl⟩ (ent_nil _)
  have hn : (1 ≤ ct ∧ ct ≤ 8) ∧ ValidW t (ents l) := ⟨h1, hv⟩
  simp only [if_pos hn]
  clear hn
  rw [decide_eq_true hv] at hV
  have hl64 : l.length ≤ 64 := by have := hv.len; simpa [ents] using this
  have hF := fun w' (he : Ext w w') b hk => filterV_spec A l c1 _ _ _ w' (by omega) (hr.1.ext he) (eyePts w' b ct l hs (fun x hx => (hr.2 x hx).ext he) hk)
  rw [ptsE_ents] at hF
  clear hv
  generalize ptsE ct (ents l) = L at hF ⊢
  refine enterH Tryd.func27 rfl rfl Tryd.ntmps27 rfl (Wd.refl _) ?_
  (repeat' (first | (show VH _ _ _ _ _ _ _; first | refine v_seq ?_ | refine r_seq ?_ | refine v_skip ?_ | refine v_cond_f rfl tbL ?_) | (show SH _ _ _ _ _ (_ :: _) _ _ _; first | (show SH _ _ _ _ _ (⟨_, _, _, _, _, some _⟩ :: _) _ _ _; (refine gif rfl rfl ?_; refine giFF tbL ?_)) | (show SH _ _ _ _ _ (⟨_, .move _, _, _, _, _⟩ :: _) _ _ _; refine mov evL ?_) | (show SH _ _ _ _ _ (⟨_, .assign _, _, _, _, _⟩ :: _) _ _ _; refine asg evL ?_) | (show SH _ _ _ _ _ (⟨_, .binOp .lss _ _ _ _, _, _, _, _⟩ :: _) _ _ _; refine lssF rfl rfl omD ?_) | (show SH _ _ _ _ _ (⟨_, .binOp .gtr _ _ _ _, _, _, _, _⟩ :: _) _ _ _; refine gtrF rfl rfl omD ?_) | (show SH _ _ _ _ _ (⟨_, .load _ _, _, _, _, _⟩ :: _) _ _ _; first | refine lbx rfl spL (by rfl) ?_ | refine lba rfl spL (by rfl) ?_) | (show SH _ _ _ _ _ (⟨_, .call ⟨.value (.func 38), _, _⟩, _, _, _, _⟩ :: _) _ _ _; refine cl (callee := .func 38) rfl (fun w hw => hV _ hw.ext) rfl rfl ?_) | (show SH _ _ _ _ _ (⟨_, .call ⟨.value (.func 39), _, _⟩, _, _, _, _⟩ :: _) _ _ _; refine cp (callee := .func 39) rfl (fun w hw => hF _ hw.ext _ (rd_box hw spL rfl)) rfl rfl ?_) | refine bnoT rfl ?_ | (show SH _ _ _ _ _ (⟨_, .pick _ _ _, _, _, _, _⟩ :: _) _ _ _; refine pkf rfl tbL evL ?_) | refine fad rfl ?_ | (show SH _ _ _ _ _ (⟨_, .makeFunc _ _ _, _, _, _, _⟩ :: _) _ _ _; refine mf1 evL ?_) | refine bld rfl rfl ?_ | refine ala rfl (fun b => ?_) | (show SH _ _ _ _ _ (⟨_, .box _ _, _, _, _, _⟩ :: _) _ _ _; refine bxx rfl evL rfl (fun b => ?_)) | (show SH _ _ _ _ _ (⟨_, .store _ _ _, _, _, _, _⟩ :: _) _ _ _; refine sta rfl rfl rfl spL (by rfl) (by rfl) (by rfl) kpL ?_)) | refine s_nil ?_ | refine kh_normal ?_))
  rintro _ _ ⟨A1, c2, rfl, rfl⟩
  (repeat' (first | (show VH _ _ _ _ _ _ _; first | refine v_seq ?_ | refine r_seq ?_ | refine v_ret ?_) | (show SH _ _ _ _ _ (_ :: _) _ _ _; first | (show SH _ _ _ _ _ (⟨_, .assign _, _, _, _, _⟩ :: _) _ _ _; refine asg evL ?_) | (show SH _ _ _ _ _ (⟨_, .load _ _, _, _, _, _⟩ :: _) _ _ _; refine lba rfl spL (by rfl) ?_) | refine fad rfl ?_ | (show SH _ _ _ _ _ (⟨_, .store _ _ _, _, _, _, _⟩ :: _) _ _ _; first | refine stb rfl rfl evL spL rfl rfl (by first | decide | exact Nat.zero_lt_succ _ | exact of_decide_eq_true rfl) kpL ?_ | refine sta rfl rfl rfl spL (by rfl) (by rfl) (by rfl) kpL ?_)) | refine s_nil ?_ | refine kh_normal ?_))
  exact rhC2 rfl rfl rfl rfl (fun w hw => loadVar_bx hw spL (by rfl)) ⟨A1, c2, rfl, rfl⟩ enL
end Go.Proofs.YtjefoecnciepmaaDoor
