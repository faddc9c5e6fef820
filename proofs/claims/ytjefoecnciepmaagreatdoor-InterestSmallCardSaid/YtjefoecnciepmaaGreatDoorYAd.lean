/- Many pieces as one. -/
import Derived.Test.YtjefoecnciepmaaGreatDoorYAa
import Derived.Test.YtjefoecnciepmaaGreatDoorYAb
import Derived.Test.YtjefoecnciepmaaGreatDoorYAc
set_option linter.unusedSimpArgs false
set_option linter.unusedVariables false
/- Package interest: components, points, the eye of a client. -/
namespace Go.Proofs.YtjefoecnciepmaaGreatDoor
open Go.Fw Go.RowKit
set_option maxHeartbeats 1000000 in
set_option maxRecDepth 100000 in
theorem isKind (w : World) (b : Nat) (k : Int) (l : List Comp) (hk : Rd w (some ⟨b, 0, none⟩) [(⟨k⟩ : NumK .u8)]) : AsksL w (.func (.func 101) #[] #[.pointer (some ⟨b, 0, none⟩)]) l (fun c => decide (c.kind = k)) := fun1_cap fun w' he x _ => by
  have hk' := hk.ext he
  refine enterH Tryz.func101 rfl rfl Tryz.ntmps101 rfl (Wd.refl _) ?_
  (repeat' (first | (show VH _ _ _ _ _ _ _; first | refine v_seq ?_ | refine r_seq ?_ | refine v_ret ?_) | (show SH _ _ _ _ _ (_ :: _) _ _ _; first | (show SH _ _ _ _ _ (⟨_, .assign _, _, _, _, _⟩ :: _) _ _ _; refine asg evL ?_) | refine eql rfl rfl ?_ | (show SH _ _ _ _ _ (⟨_, .load _ _, _, _, _, _⟩ :: _) _ _ _; first | refine lbx rfl spL (by rfl) ?_ | refine lcs rfl (fun _ _ => rdX) (by rfl) ?_) | refine fad rfl ?_ | (show SH _ _ _ _ _ (⟨_, .box _ _, _, _, _, _⟩ :: _) _ _ _; refine bxx rfl evL rfl (fun b => ?_))) | refine s_nil ?_ | refine kh_normal ?_))
  exact rh1 rfl rfl ⟨rfl, rfl⟩ (ent_nil _)
set_option maxHeartbeats 1000000 in
set_option maxRecDepth 100000 in
theorem comp_spec (x : EntP) (k : Int) (w : World) (hl : x.e.comps.length ≤ 140737488355328) (hr : Rd w x.A x.e.comps) : Ret Tryz.prog 57 [.agg (Flat.enc x).toArray, .int .u8 k].toArray w
    (Out w (.tuple #[.agg (ints (compV (compK k x.e.comps))).toArray, .bool (compK k x.e.comps).isSome])) := by
  have h1 := fun w' (he : Ext w w') b hk => indexFuncC_spec x.A x.e.comps x.cp _ _ w' hl (hr.ext he) (isKind w' b k x.e.comps hk)
  have h2 := idx_find Flat.dflt (fun c : Comp => decide (c.kind = k)) x.e.comps 0
  obtain ⟨⟨id, cs⟩, A, cp⟩ := x
  simp only at h1 h2 hr hl ⊢
  rw [show Flat.enc (⟨⟨id, cs⟩, A, cp⟩ : EntP) = [.int .i64 id, .slice A cs.length cp] from rfl]
  unfold compK
  rcases h2 with ⟨e1, e2⟩ | ⟨i, hi, e1, e2⟩
  · rw [e2]
    have e1' : idxOf (fun c : Comp => decide (c.kind = k)) cs = -1 := e1
    rw [e1'] at h1
    refine enterH Tryz.func57 rfl rfl Tryz.ntmps57 rfl (Wd.refl _) ?_
    (repeat' (first | (show VH _ _ _ _ _ _ _; first | refine v_seq ?_ | refine r_seq ?_ | refine v_ret ?_ | refine v_cond_t rfl tbL ?_) | (show SH _ _ _ _ _ (_ :: _) _ _ _; first | (show SH _ _ _ _ _ (⟨_, .move _, _, _, _, _⟩ :: _) _ _ _; refine mov evL ?_) | (show SH _ _ _ _ _ (⟨_, .assign _, _, _, _, _⟩ :: _) _ _ _; refine asg evL ?_) | (show SH _ _ _ _ _ (⟨_, .binOp .lss _ _ _ _, _, _, _, _⟩ :: _) _ _ _; refine lssT rfl rfl omD ?_) | (show SH _ _ _ _ _ (⟨_, .load _ _, _, _, _, _⟩ :: _) _ _ _; refine lbx rfl spL (by rfl) ?_) | (show SH _ _ _ _ _ (⟨_, .call ⟨.value (.func 100), _, _⟩, _, _, _, _⟩ :: _) _ _ _; refine cl (callee := .func 100) rfl (fun w hw => h1 _ hw.ext _ (rd_box hw spL rfl)) rfl rfl ?_) | refine fad rfl ?_ | (show SH _ _ _ _ _ (⟨_, .makeFunc _ _ _, _, _, _, _⟩ :: _) _ _ _; refine mf1 evL ?_) | refine bldZ ?_ | refine ala rfl (fun b => ?_) | (show SH _ _ _ _ _ (⟨_, .box _ _, _, _, _, _⟩ :: _) _ _ _; refine bxx rfl evL rfl (fun b => ?_)) | (show SH _ _ _ _ _ (⟨_, .store _ _ _, _, _, _, _⟩ :: _) _ _ _; refine sta rfl rfl rfl spL (by rfl) (by rfl) (by rfl) kpL ?_)) | refine s_nil ?_ | refine kh_normal ?_ | refine kh_ret ?_))
    exact rhC2 rfl rfl rfl rfl (fun w hw => loadVar_bx hw spL (by rfl)) ⟨rfl, rfl⟩ (ent_nil _)
  · rw [e2]
    have e1' : idxOf (fun c : Comp => decide (c.kind = k)) cs = (i : Int) := by
      have : idxOf (fun c : Comp => decide (c.kind = k)) cs = 0 + (i : Int) := e1
      omega
    rw [e1'] at h1
    refine enterH Tryz.func57 rfl rfl Tryz.ntmps57 rfl (Wd.refl _) ?_
    (repeat' (first | (show VH _ _ _ _ _ _ _; first | refine v_seq ?_ | refine r_seq ?_ | refine v_ret ?_ | refine v_skip ?_ | refine v_cond_f rfl tbL ?_) | (show SH _ _ _ _ _ (_ :: _) _ _ _; first | (show SH _ _ _ _ _ (⟨_, .move _, _, _, _, _⟩ :: _) _ _ _; refine mov evL ?_) | (show SH _ _ _ _ _ (⟨_, .assign _, _, _, _, _⟩ :: _) _ _ _; refine asg evL ?_) | (show SH _ _ _ _ _ (⟨_, .binOp .lss _ _ _ _, _, _, _, _⟩ :: _) _ _ _; refine lssF rfl rfl omD ?_) | (show SH _ _ _ _ _ (⟨_, .load _ _, _, _, _, _⟩ :: _) _ _ _; first | refine lbx rfl spL (by rfl) ?_ | refine lrs rfl (fun _ _ => rdX) (by rfl) omL (by rfl) (by rfl) ?_) | (show SH _ _ _ _ _ (⟨_, .indexAddr _ _ _, _, _, _, _⟩ :: _) _ _ _; refine ix rfl rfl (by with_reducible rfl) (fun _ _ => rdX) (by rfl) omL omL ?_) | (show SH _ _ _ _ _ (⟨_, .call ⟨.value (.func 100), _, _⟩, _, _, _, _⟩ :: _) _ _ _; refine cl (callee := .func 100) rfl (fun w hw => h1 _ hw.ext _ (rd_box hw spL rfl)) rfl rfl ?_) | refine fad rfl ?_ | (show SH _ _ _ _ _ (⟨_, .makeFunc _ _ _, _, _, _, _⟩ :: _) _ _ _; refine mf1 evL ?_) | refine ala rfl (fun b => ?_) | (show SH _ _ _ _ _ (⟨_, .box _ _, _, _, _, _⟩ :: _) _ _ _; refine bxx rfl evL rfl (fun b => ?_)) | (show SH _ _ _ _ _ (⟨_, .store _ _ _, _, _, _, _⟩ :: _) _ _ _; refine sta rfl rfl rfl spL (by rfl) (by rfl) (by rfl) kpL ?_)) | refine s_nil ?_ | refine kh_normal ?_))
    exact rhC2 rfl rfl rfl rfl (fun w hw => loadVar_bx hw spL (by rfl)) ⟨rfl, rfl⟩ (ent_nil _)
set_option maxHeartbeats 1000000 in
set_option maxRecDepth 100000 in
theorem point_spec (x : EntP) (w : World) (hl : x.e.comps.length ≤ 140737488355328) (hr : Rd w x.A x.e.comps) : Ret Tryz.prog 54 [.agg (Flat.enc x).toArray].toArray w
    (Out w (.tuple #[.agg (Flat.enc (ptD (pointE x.e))).toArray, .bool (pointE x.e).isSome])) := by
  have h1 := fun w' (he : Ext w w') => comp_spec x 1 w' hl (hr.ext he)
  unfold pointE
  obtain ⟨⟨id, cs⟩, A, cp⟩ := x
  simp only at h1 hr hl ⊢
  rw [show Flat.enc (⟨⟨id, cs⟩, A, cp⟩ : EntP) = [.int .i64 id, .slice A cs.length cp] from rfl] at *
  cases hc : compK 1 cs with
  | none =>
    rw [hc] at h1
    refine enterH Tryz.func54 rfl rfl Tryz.ntmps54 rfl (Wd.refl _) ?_
    (repeat' (first | (show VH _ _ _ _ _ _ _; first | refine v_seq ?_ | refine r_seq ?_ | refine v_ret ?_) | (show SH _ _ _ _ _ (_ :: _) _ _ _; first | (show SH _ _ _ _ _ (⟨_, .move _, _, _, _, _⟩ :: _) _ _ _; refine mov evL ?_) | (show SH _ _ _ _ _ (⟨_, .assign _, _, _, _, _⟩ :: _) _ _ _; refine asg evL ?_) | (show SH _ _ _ _ _ (⟨_, .load _ _, _, _, _, _⟩ :: _) _ _ _; first | refine lbx rfl spL (by rfl) ?_ | refine lba rfl spL (by rfl) ?_) | (show SH _ _ _ _ _ (⟨_, .indexAddr _ _ _, _, _, _, _⟩ :: _) _ _ _; refine ixb rfl rfl omL ?_) | (show SH _ _ _ _ _ (⟨_, .call ⟨.value (.tmp _), _, _⟩, _, _, _, _⟩ :: _) _ _ _; refine cl (callee := .tmp _) rfl (fun w hw => h1 _ hw.ext) rfl rfl ?_) | refine extr rfl rfl ?_ | (show SH _ _ _ _ _ (⟨_, .makeFunc _ _ _, _, _, _, _⟩ :: _) _ _ _; refine mfb evL ?_) | refine bld rfl rfl ?_ | refine ala rfl (fun b => ?_) | (show SH _ _ _ _ _ (⟨_, .box _ _, _, _, _, _⟩ :: _) _ _ _; refine bxx rfl evL rfl (fun b => ?_)) | (show SH _ _ _ _ _ (⟨_, .store _ _ _, _, _, _, _⟩ :: _) _ _ _; refine sta rfl rfl rfl spL (by rfl) (by rfl) (by rfl) kpL ?_)) | refine s_nil ?_ | refine kh_normal ?_))
    exact rhC2 rfl rfl rfl rfl (fun w hw => loadVar_bx hw spL (by rfl)) ⟨rfl, rfl⟩ (ent_nil _)
  | some c =>
    rw [hc] at h1
    obtain ⟨ck, ca, cb, cc, cd⟩ := c
    refine enterH Tryz.func54 rfl rfl Tryz.ntmps54 rfl (Wd.refl _) ?_
    (repeat' (first | (show VH _ _ _ _ _ _ _; first | refine v_seq ?_ | refine r_seq ?_ | refine v_ret ?_) | (show SH _ _ _ _ _ (_ :: _) _ _ _; first | (show SH _ _ _ _ _ (⟨_, .move _, _, _, _, _⟩ :: _) _ _ _; refine mov evL ?_) | (show SH _ _ _ _ _ (⟨_, .assign _, _, _, _, _⟩ :: _) _ _ _; refine asg evL ?_) | (show SH _ _ _ _ _ (⟨_, .load _ _, _, _, _, _⟩ :: _) _ _ _; first | refine lbx rfl spL (by rfl) ?_ | refine lba rfl spL (by rfl) ?_) | (show SH _ _ _ _ _ (⟨_, .indexAddr _ _ _, _, _, _, _⟩ :: _) _ _ _; refine ixb rfl rfl omL ?_) | (show SH _ _ _ _ _ (⟨_, .call ⟨.value (.tmp _), _, _⟩, _, _, _, _⟩ :: _) _ _ _; refine cl (callee := .tmp _) rfl (fun w hw => h1 _ hw.ext) rfl rfl ?_) | refine extr rfl rfl ?_ | (show SH _ _ _ _ _ (⟨_, .makeFunc _ _ _, _, _, _, _⟩ :: _) _ _ _; refine mfb evL ?_) | refine bld rfl rfl ?_ | refine ala rfl (fun b => ?_) | (show SH _ _ _ _ _ (⟨_, .box _ _, _, _, _, _⟩ :: _) _ _ _; refine bxx rfl evL rfl (fun b => ?_)) | (show SH _ _ _ _ _ (⟨_, .store _ _ _, _, _, _, _⟩ :: _) _ _ _; refine sta rfl rfl rfl spL (by rfl) (by rfl) (by rfl) kpL ?_)) | refine s_nil ?_ | refine kh_normal ?_))
    exact rhC2 rfl rfl rfl rfl (fun w hw => loadVar_bx hw spL (by rfl)) ⟨rfl, rfl⟩ (ent_nil _)
set_option maxHeartbeats 1000000 in
set_option maxRecDepth 100000 in
theorem owns_spec (ct : Int) (A0 : Option Addr) (m0 c0 : Nat) (x : EntP) (w : World) (hl : x.e.comps.length ≤ 140737488355328) (hr : Rd w x.A x.e.comps) : Ret Tryz.prog 33 [.agg #[.int .i64 ct, .slice A0 m0 c0], .agg (Flat.enc x).toArray].toArray w (Out w (.bool (ownsE ct x.e))) := by
  have h1 := fun w' (he : Ext w w') => comp_spec x 4 w' hl (hr.ext he)
  unfold ownsE
  obtain ⟨⟨id, cs⟩, A, cp⟩ := x
  simp only at h1 hr hl ⊢
  rw [show Flat.enc (⟨⟨id, cs⟩, A, cp⟩ : EntP) = [.int .i64 id, .slice A cs.length cp] from rfl] at *
  cases hc : compK 4 cs with
  | none =>
    rw [hc] at h1
    refine enterH Tryz.func33 rfl rfl Tryz.ntmps33 rfl (Wd.refl _) ?_
    (repeat' (first | (show VH _ _ _ _ _ _ _; first | refine v_seq ?_ | refine r_seq ?_ | refine v_ret ?_) | (show SH _ _ _ _ _ (_ :: _) _ _ _; first | (show SH _ _ _ _ _ (⟨_, _, _, _, _, some _⟩ :: _) _ _ _; (refine gif rfl rfl ?_; refine giTF tbL ?_)) | (show SH _ _ _ _ _ (⟨_, .move _, _, _, _, _⟩ :: _) _ _ _; refine mov evL ?_) | (show SH _ _ _ _ _ (⟨_, .assign _, _, _, _, _⟩ :: _) _ _ _; refine asg evL ?_) | (show SH _ _ _ _ _ (⟨_, .load _ _, _, _, _, _⟩ :: _) _ _ _; refine lba rfl spL (by rfl) ?_) | (show SH _ _ _ _ _ (⟨_, .call ⟨.value (.func 57), _, _⟩, _, _, _, _⟩ :: _) _ _ _; refine cl (callee := .func 57) rfl (fun w hw => h1 _ hw.ext) rfl rfl ?_) | (show SH _ _ _ _ _ (⟨_, .pick _ _ _, _, _, _, _⟩ :: _) _ _ _; refine pkf rfl tbL evL ?_) | refine extr rfl rfl ?_ | refine ala rfl (fun b => ?_) | (show SH _ _ _ _ _ (⟨_, .box _ _, _, _, _, _⟩ :: _) _ _ _; refine bxx rfl evL rfl (fun b => ?_)) | (show SH _ _ _ _ _ (⟨_, .store _ _ _, _, _, _, _⟩ :: _) _ _ _; refine sta rfl rfl rfl spL (by rfl) (by rfl) (by rfl) kpL ?_)) | refine s_nil ?_ | refine kh_normal ?_))
    exact rh1 rfl rfl ⟨rfl, rfl⟩ (ent_nil _)
  | some c =>
    rw [hc] at h1
    obtain ⟨ck, ca, cb, cc, cd⟩ := c
    refine enterH Tryz.func33 rfl rfl Tryz.ntmps33 rfl (Wd.refl _) ?_
    (repeat' (first | (show VH _ _ _ _ _ _ _; first | refine v_seq ?_ | refine r_seq ?_ | refine v_ret ?_) | (show SH _ _ _ _ _ (_ :: _) _ _ _; first | (show SH _ _ _ _ _ (⟨_, _, _, _, _, some _⟩ :: _) _ _ _; (refine gif rfl rfl ?_; refine giTT tbL ?_)) | (show SH _ _ _ _ _ (⟨_, .move _, _, _, _, _⟩ :: _) _ _ _; refine mov evL ?_) | (show SH _ _ _ _ _ (⟨_, .assign _, _, _, _, _⟩ :: _) _ _ _; refine asg evL ?_) | refine eql rfl rfl ?_ | (show SH _ _ _ _ _ (⟨_, .load _ _, _, _, _, _⟩ :: _) _ _ _; first | refine lbx rfl spL (by rfl) ?_ | refine lba rfl spL (by rfl) ?_) | (show SH _ _ _ _ _ (⟨_, .indexAddr _ _ _, _, _, _, _⟩ :: _) _ _ _; refine ixb rfl rfl omL ?_) | (show SH _ _ _ _ _ (⟨_, .call ⟨.value (.func 57), _, _⟩, _, _, _, _⟩ :: _) _ _ _; refine cl (callee := .func 57) rfl (fun w hw => h1 _ hw.ext) rfl rfl ?_) | (show SH _ _ _ _ _ (⟨_, .pick _ _ _, _, _, _, _⟩ :: _) _ _ _; refine pkt rfl tbL evL ?_) | refine extr rfl rfl ?_ | refine fad rfl ?_ | refine ala rfl (fun b => ?_) | (show SH _ _ _ _ _ (⟨_, .box _ _, _, _, _, _⟩ :: _) _ _ _; refine bxx rfl evL rfl (fun b => ?_)) | (show SH _ _ _ _ _ (⟨_, .store _ _ _, _, _, _, _⟩ :: _) _ _ _; refine sta rfl rfl rfl spL (by rfl) (by rfl) (by rfl) kpL ?_)) | refine s_nil ?_ | refine kh_normal ?_))
    exact rh1 rfl rfl ⟨rfl, rfl⟩ (ent_nil _)
end Go.Proofs.YtjefoecnciepmaaGreatDoor

/- Package interest: filter, the eye, what it sees (printed by gen_ib.py). -/
namespace Go.Proofs.YtjefoecnciepmaaGreatDoor
open Go.Fw Go.RowKit
theorem filt_next {α β : Type} {l : List α} {k : Nat} (d : α) (b : α → Bool) (y : α → β) (hk : k < l.length) : ((l.take (k + 1)).filter b).map y = ((l.take k).filter b).map y ++ (if b (l.getD k d) then [y (l.getD k d)] else []) := by
  rw [take_snoc (d := d) hk, List.filter_append, List.map_append]
  congr 1
  by_cases h : b (l.getD k d) = true
  · rw [if_pos h, List.filter_cons_of_pos h]; rfl
  · rw [if_neg h, List.filter_cons_of_neg h]; rfl
set_option maxHeartbeats 1000000 in
set_option maxRecDepth 100000 in
theorem filterV_spec (A : Option Addr) (l : List EntP) (c1 : Nat) (fv : Value) (y : EntP → Pt) (b : EntP → Bool) (w : World) (hl : l.length ≤ 1000000) (hr : Rd w A l) (hp : Fun1 Tryz.prog w fv (fun x : EntP => .agg (Flat.enc x).toArray) (fun x => .tuple #[.agg (Flat.enc (y x)).toArray, .bool (b x)]) (· ∈ l)) :
    Ret Tryz.prog 52 [.slice A l.length c1, fv].toArray w (RP w (Fresh 101 ((l.filter b).map y))) := by
  obtain ⟨g0, fst, cap, rfl, hp⟩ := hp
  refine enterH Tryz.func52 rfl rfl Tryz.ntmps52 rfl (Wd.refl _) ?_
  (repeat' (first | (show VH _ _ _ _ _ _ _; first | refine v_seq ?_ | refine r_seq ?_ | refine v_block ?_) | (show SH _ _ _ _ _ (_ :: _) _ _ _; first | (show SH _ _ _ _ _ (⟨_, .move _, _, _, _, _⟩ :: _) _ _ _; refine mov evL ?_) | (show SH _ _ _ _ _ (⟨_, .assign _, _, _, _, _⟩ :: _) _ _ _; refine asg evL ?_) | refine slen rfl ?_) | refine s_nil ?_ | refine kh_normal ?_))
  refine v_loop [(5,5),(7,9),(12,27)] (fun s : Nat × (Option Addr × Nat) => [(12, .int .i64 s.1), (5, .slice s.2.1 (((l.take s.1).filter b).map y).length s.2.2)]) (fun s => [orow 101 s.2.1 s.2.2 (((l.take s.1).filter b).map y)]) (fun s => s.1 ≤ l.length) (fun s => l.length - s.1) (0, none, 0) hsL (ent_nilrow (ent_nil _)) (Nat.zero_le _) ?_
  rintro ⟨k, A1, c2⟩ g hk
  simp only [sets]
  simp only at hk
  have hlen : (((l.take k).filter b).map y).length ≤ k := by
    rw [List.length_map]
    have := List.length_filter_le b (l.take k)
    rw [List.length_take] at this; omega
  by_cases hkl : k < l.length
  · have hp' := fun w he => hp w he (l.getD k Flat.dflt) (getD_mem hkl)
    have hn := filt_next Flat.dflt b y hkl
    cases hb : b (l.getD k Flat.dflt) with
    | true =>
      rw [if_pos hb] at hn
      simp only [hb] at hp'
      generalize ((l.take k).filter b).map y = L at hn hlen ⊢
      (repeat' (first | (show VH _ _ _ _ _ _ _; first | refine v_seq ?_ | refine r_seq ?_ | refine v_block ?_ | refine v_skip ?_ | refine v_cond_t rfl tbL ?_) | (show SH _ _ _ _ _ (_ :: _) _ _ _; first | (show SH _ _ _ _ _ (⟨_, .move _, _, _, _, _⟩ :: _) _ _ _; refine mov evL ?_) | (show SH _ _ _ _ _ (⟨_, .assign _, _, _, _, _⟩ :: _) _ _ _; refine asg evL ?_) | (show SH _ _ _ _ _ (⟨_, .binOp .lss _ _ _ _, _, _, _, _⟩ :: _) _ _ _; refine lssT rfl rfl omD ?_) | (show SH _ _ _ _ _ (⟨_, .load _ _, _, _, _, _⟩ :: _) _ _ _; first | refine lba rfl spL (by rfl) ?_ | refine lra rfl (fun _ _ => rdX) (by rfl) omL ?_ | refine lra rfl (fun _ _ => rdX) (by rfl) (by simp only [List.length_cons, List.length_nil]; omega) ?_) | (show SH _ _ _ _ _ (⟨_, .indexAddr _ _ _, _, _, _, _⟩ :: _) _ _ _; refine ix rfl rfl (by with_reducible rfl) (fun _ _ => rdX) (by rfl) omL omL ?_) | (show SH _ _ _ _ _ (⟨_, .call ⟨.value (.tmp _), _, _⟩, _, _, _, _⟩ :: _) _ _ _; refine cl (callee := .tmp _) rfl (fun w hw => hp' _ hw.ext) rfl rfl ?_) | refine extr rfl rfl ?_ | refine ala rfl (fun b => ?_) | (show SH _ _ _ _ _ (⟨_, .store _ _ _, _, _, _, _⟩ :: _) _ _ _; refine sta rfl rfl rfl spL (by rfl) (by rfl) (by rfl) kpL ?_)) | refine s_nil ?_ | refine kh_normal ?_))
      refine bsl (l := [y (l.getD k Flat.dflt)]) rfl rfl (Vals.cons rfl Vals.nil) rfl rfl (by decide) (fun b9 => ?_)
      (repeat' (first | (show VH _ _ _ _ _ _ _; first | refine v_seq ?_ | refine r_seq ?_ | refine r_quiet hmix (by kernel_rfl) ?_ | refine v_block ?_ | refine v_ret ?_ | refine v_skip ?_ | refine v_exit ?_ | refine v_label ?_ | refine v_cond_t rfl tbL ?_ | refine v_cond_f rfl tbL ?_ | refine v_cond_dec rfl (fun h => ?_) (fun h => ?_) | refine v_cond_ndec rfl (fun h => ?_) (fun h => ?_) | refine v_cond rfl (fun h => ?_) (fun h => ?_)) | (show SH _ _ _ _ _ (_ :: _) _ _ _; first | (show SH _ _ _ _ _ (⟨_, .move _, _, _, _, _⟩ :: _) _ _ _; refine mov evL ?_) | (show SH _ _ _ _ _ (⟨_, .assign _, _, _, _, _⟩ :: _) _ _ _; refine asg evL ?_) | (show SH _ _ _ _ _ (⟨_, .binOp .lss _ _ _ _, _, _, _, _⟩ :: _) _ _ _; first | refine lssT rfl rfl omD ?_ | refine lssF rfl rfl omD ?_ | refine lss rfl rfl ?_) | (show SH _ _ _ _ _ (⟨_, .binOp .add _ _ _ _, _, _, _, _⟩ :: _) _ _ _; refine add rfl rfl inL ?_) | (show SH _ _ _ _ _ (⟨_, .load _ _, _, _, _, _⟩ :: _) _ _ _; first | refine lin rfl (fun _ _ => rdX) omL ?_ | refine lbx rfl spL (by rfl) ?_ | refine lba rfl spL (by rfl) ?_ | refine lbi rfl spL omL ?_ | refine lr1 rfl (fun _ _ => rdX) (by rfl) omL (by rfl) ?_ | refine lra rfl (fun _ _ => rdX) (by rfl) omL ?_ | refine lrf rfl (fun _ _ => rdX) (by rfl) omL (by rfl) ?_ | refine lcell rfl (fun w hw => hw.ext.cell (by assumption)) ?_ | refine lrs rfl (fun _ _ => rdX) (by rfl) omL (by rfl) (by rfl) ?_ | refine lbs rfl spL (by rfl) (by rfl) ?_ | refine lca rfl (fun _ _ => rdX) (by rfl) ?_ | refine lcs rfl (fun _ _ => rdX) (by rfl) ?_ | refine lcf rfl (fun _ _ => rdX) (by rfl) ?_ | refine lrf rfl (fun _ _ => rdX) (by rfl) (by simp only [List.length_cons, List.length_nil]; omega) (by rfl) ?_ | refine lra rfl (fun _ _ => rdX) (by rfl) (by simp only [List.length_cons, List.length_nil]; omega) ?_) | (show SH _ _ _ _ _ (⟨_, .indexAddr _ _ _, _, _, _, _⟩ :: _) _ _ _; first | refine ix rfl rfl (by with_reducible rfl) (fun _ _ => rdX) (by rfl) omL omL ?_ | refine ixi rfl rfl (fun _ _ => rdX) (by rfl) omL omL omL ?_ | refine ixb rfl rfl omL ?_ | refine ixq rfl rfl (by assumption) omL omL ?_ | refine ixA _ rfl rfl rfl omL ?_ | refine ixi rfl rfl (fun _ _ => rdX) (by rfl) omL (by first | omega | (simp only [List.length_cons, List.length_nil]; omega)) (by simp only [List.length_cons, List.length_nil]; omega) ?_) | refine slen rfl ?_ | refine extr rfl rfl ?_ | (show SH _ _ _ _ _ (⟨_, .alloc _, _, _, _, _⟩ :: _) _ _ _; first | refine al1 rfl (fun b => ?_) | refine ala rfl (fun b => ?_)) | (show SH _ _ _ _ _ (⟨_, .store _ _ _, _, _, _, _⟩ :: _) _ _ _; first | refine stb rfl rfl evL spL rfl rfl (by first | decide | exact Nat.zero_lt_succ _ | exact of_decide_eq_true rfl) kpL ?_ | refine sta rfl rfl rfl spL (by rfl) (by rfl) (by rfl) kpL ?_ | refine sti rfl rfl rfl spL omL kpL ?_ | refine sbi rfl rfl rfl spL omL kpL ?_ | refine sbs rfl rfl evL spL (by rfl) (by rfl) (of_decide_eq_true rfl) kpL ?_) | (show SH _ _ _ _ _ (⟨_, .buildSlice _ _ _, _, _, _, _⟩ :: _) _ _ _; refine bsl (α := Int) rfl rfl (by repeat (first | exact Vals.nil | (apply Vals.cons; rfl))) rfl (by rfl) (by decide) (fun b => ?_))) | refine s_nil ?_ | refine s_fork ?_ ?_ | refine s_fork3 ?_ ?_ ?_ | refine s_fork4 ?_ ?_ ?_ ?_ | refine kh_normal ?_ | refine kh_ret ?_ | refine kh_exit ?_ | refine bh_normal ?_ | refine bh_ret ?_ | refine bh_exit ?_ | refine bh_exit_ne rfl ?_))
      refine app (l := L) (l2 := [y (l.getD k Flat.dflt)]) rfl rfl rfl spL (fun w hw => hw.rd spL) rfl rfl rfl (by simp only [List.length_cons, List.length_nil]; omega) (by simp only [List.length_cons, List.length_nil]; omega) (fun A4 c4 => ⟨enL, ?_⟩)
      rw [← hn]
      (repeat' (first | refine r_seq ?_ | (show SH _ _ _ _ _ (_ :: _) _ _ _; first | (show SH _ _ _ _ _ (⟨_, .move _, _, _, _, _⟩ :: _) _ _ _; refine mov evL ?_) | (show SH _ _ _ _ _ (⟨_, .assign _, _, _, _, _⟩ :: _) _ _ _; refine asg evL ?_) | (show SH _ _ _ _ _ (⟨_, .binOp .add _ _ _ _, _, _, _, _⟩ :: _) _ _ _; refine add rfl rfl inL ?_)) | refine s_nil ?_ | refine kh_normal ?_ | refine bh_normal ?_))
      exact ⟨agL, (k + 1, A4, c4), hsL, enL, hkl, by show _ - (k + 1) < _ - k; omega⟩
    | false =>
      rw [if_neg (by rw [hb]; simp), List.append_nil] at hn
      simp only [hb] at hp'
      (repeat' (first | (show VH _ _ _ _ _ _ _; first | refine v_seq ?_ | refine r_seq ?_ | refine v_block ?_ | refine v_skip ?_ | refine v_cond_t rfl tbL ?_ | refine v_cond_f rfl tbL ?_) | (show SH _ _ _ _ _ (_ :: _) _ _ _; first | (show SH _ _ _ _ _ (⟨_, .move _, _, _, _, _⟩ :: _) _ _ _; refine mov evL ?_) | (show SH _ _ _ _ _ (⟨_, .assign _, _, _, _, _⟩ :: _) _ _ _; refine asg evL ?_) | (show SH _ _ _ _ _ (⟨_, .binOp .lss _ _ _ _, _, _, _, _⟩ :: _) _ _ _; refine lssT rfl rfl omD ?_) | (show SH _ _ _ _ _ (⟨_, .binOp .add _ _ _ _, _, _, _, _⟩ :: _) _ _ _; refine add rfl rfl inL ?_) | (show SH _ _ _ _ _ (⟨_, .load _ _, _, _, _, _⟩ :: _) _ _ _; first | refine lba rfl spL (by rfl) ?_ | refine lra rfl (fun _ _ => rdX) (by rfl) omL ?_ | refine lra rfl (fun _ _ => rdX) (by rfl) (by simp only [List.length_cons, List.length_nil]; omega) ?_) | (show SH _ _ _ _ _ (⟨_, .indexAddr _ _ _, _, _, _, _⟩ :: _) _ _ _; refine ix rfl rfl (by with_reducible rfl) (fun _ _ => rdX) (by rfl) omL omL ?_) | (show SH _ _ _ _ _ (⟨_, .call ⟨.value (.tmp _), _, _⟩, _, _, _, _⟩ :: _) _ _ _; refine cl (callee := .tmp _) rfl (fun w hw => hp' _ hw.ext) rfl rfl ?_) | refine extr rfl rfl ?_ | refine ala rfl (fun b => ?_) | (show SH _ _ _ _ _ (⟨_, .store _ _ _, _, _, _, _⟩ :: _) _ _ _; refine sta rfl rfl rfl spL (by rfl) (by rfl) (by rfl) kpL ?_)) | refine s_nil ?_ | refine kh_normal ?_ | refine bh_normal ?_))
      exact ⟨agL, (k + 1, A1, c2), by rw [hn]; (repeat (first | exact trivial | refine And.intro rfl ?_)), by rw [hn]; exact enL, hkl, by show _ - (k + 1) < _ - k; omega⟩
  · have hke : k = l.length := by omega
    subst hke
    rw [List.take_length] at hlen ⊢
    (repeat' (first | (show VH _ _ _ _ _ _ _; first | refine v_seq ?_ | refine r_seq ?_ | refine v_ret ?_ | refine v_exit ?_ | refine v_cond_f rfl tbL ?_) | (show SH _ _ _ _ _ (_ :: _) _ _ _; first | (show SH _ _ _ _ _ (⟨_, .move _, _, _, _, _⟩ :: _) _ _ _; refine mov evL ?_) | (show SH _ _ _ _ _ (⟨_, .assign _, _, _, _, _⟩ :: _) _ _ _; refine asg evL ?_) | (show SH _ _ _ _ _ (⟨_, .binOp .lss _ _ _ _, _, _, _, _⟩ :: _) _ _ _; refine lssF rfl rfl omD ?_)) | refine s_nil ?_ | refine kh_normal ?_ | refine kh_exit ?_ | refine bh_exit ?_))
    exact rh1 rfl rfl ⟨A1, c2, rfl, rfl⟩ enL
set_option maxHeartbeats 1000000 in
set_option maxRecDepth 100000 in
theorem filterI_spec (A : Option Addr) (l : List EntP) (c1 : Nat) (fv : Value) (y : EntP → Int) (b : EntP → Bool) (w : World) (hl : l.length ≤ 1000000) (hr : Rd w A l) (hp : Fun1 Tryz.prog w fv (fun x : EntP => .agg (Flat.enc x).toArray) (fun x => .tuple #[.int .i64 (y x), .bool (b x)]) (· ∈ l)) :
    Ret Tryz.prog 55 [.slice A l.length c1, fv].toArray w (RP w (Fresh 3 ((l.filter b).map y))) := by
  obtain ⟨g0, fst, cap, rfl, hp⟩ := hp
  refine enterH Tryz.func55 rfl rfl Tryz.ntmps55 rfl (Wd.refl _) ?_
  (repeat' (first | (show VH _ _ _ _ _ _ _; first | refine v_seq ?_ | refine r_seq ?_ | refine v_block ?_) | (show SH _ _ _ _ _ (_ :: _) _ _ _; first | (show SH _ _ _ _ _ (⟨_, .move _, _, _, _, _⟩ :: _) _ _ _; refine mov evL ?_) | (show SH _ _ _ _ _ (⟨_, .assign _, _, _, _, _⟩ :: _) _ _ _; refine asg evL ?_) | refine slen rfl ?_) | refine s_nil ?_ | refine kh_normal ?_))
  refine v_loop [(5,5),(7,9),(12,27)] (fun s : Nat × (Option Addr × Nat) => [(12, .int .i64 s.1), (5, .slice s.2.1 (((l.take s.1).filter b).map y).length s.2.2)]) (fun s => [orow 3 s.2.1 s.2.2 (((l.take s.1).filter b).map y)]) (fun s => s.1 ≤ l.length) (fun s => l.length - s.1) (0, none, 0) hsL (ent_nilrow (ent_nil _)) (Nat.zero_le _) ?_
  rintro ⟨k, A1, c2⟩ g hk
  simp only [sets]
  simp only at hk
  have hlen : (((l.take k).filter b).map y).length ≤ k := by
    rw [List.length_map]
    have := List.length_filter_le b (l.take k)
    rw [List.length_take] at this; omega
  by_cases hkl : k < l.length
  · have hp' := fun w he => hp w he (l.getD k Flat.dflt) (getD_mem hkl)
    have hn := filt_next Flat.dflt b y hkl
    cases hb : b (l.getD k Flat.dflt) with
    | true =>
      rw [if_pos hb] at hn
      simp only [hb] at hp'
      generalize ((l.take k).filter b).map y = L at hn hlen ⊢
      (repeat' (first | (show VH _ _ _ _ _ _ _; first | refine v_seq ?_ | refine r_seq ?_ | refine v_block ?_ | refine v_skip ?_ | refine v_cond_t rfl tbL ?_) | (show SH _ _ _ _ _ (_ :: _) _ _ _; first | (show SH _ _ _ _ _ (⟨_, .move _, _, _, _, _⟩ :: _) _ _ _; refine mov evL ?_) | (show SH _ _ _ _ _ (⟨_, .assign _, _, _, _, _⟩ :: _) _ _ _; refine asg evL ?_) | (show SH _ _ _ _ _ (⟨_, .binOp .lss _ _ _ _, _, _, _, _⟩ :: _) _ _ _; refine lssT rfl rfl omD ?_) | (show SH _ _ _ _ _ (⟨_, .load _ _, _, _, _, _⟩ :: _) _ _ _; first | refine lba rfl spL (by rfl) ?_ | refine lra rfl (fun _ _ => rdX) (by rfl) omL ?_ | refine lra rfl (fun _ _ => rdX) (by rfl) (by simp only [List.length_cons, List.length_nil]; omega) ?_) | (show SH _ _ _ _ _ (⟨_, .indexAddr _ _ _, _, _, _, _⟩ :: _) _ _ _; refine ix rfl rfl (by with_reducible rfl) (fun _ _ => rdX) (by rfl) omL omL ?_) | (show SH _ _ _ _ _ (⟨_, .call ⟨.value (.tmp _), _, _⟩, _, _, _, _⟩ :: _) _ _ _; refine cl (callee := .tmp _) rfl (fun w hw => hp' _ hw.ext) rfl rfl ?_) | refine extr rfl rfl ?_ | refine ala rfl (fun b => ?_) | (show SH _ _ _ _ _ (⟨_, .store _ _ _, _, _, _, _⟩ :: _) _ _ _; refine sta rfl rfl rfl spL (by rfl) (by rfl) (by rfl) kpL ?_) | (show SH _ _ _ _ _ (⟨_, .buildSlice _ _ _, _, _, _, _⟩ :: _) _ _ _; refine bsl (α := Int) rfl rfl (by repeat (first | exact Vals.nil | (apply Vals.cons; rfl))) rfl (by rfl) (by decide) (fun b => ?_))) | refine s_nil ?_ | refine kh_normal ?_))
      refine app (l := L) (l2 := [y (l.getD k Flat.dflt)]) rfl rfl rfl spL (fun w hw => hw.rd spL) rfl rfl rfl (by simp only [List.length_cons, List.length_nil]; omega) (by simp only [List.length_cons, List.length_nil]; omega) (fun A4 c4 => ⟨enL, ?_⟩)
      rw [← hn]
      (repeat' (first | refine r_seq ?_ | (show SH _ _ _ _ _ (_ :: _) _ _ _; first | (show SH _ _ _ _ _ (⟨_, .move _, _, _, _, _⟩ :: _) _ _ _; refine mov evL ?_) | (show SH _ _ _ _ _ (⟨_, .assign _, _, _, _, _⟩ :: _) _ _ _; refine asg evL ?_) | (show SH _ _ _ _ _ (⟨_, .binOp .add _ _ _ _, _, _, _, _⟩ :: _) _ _ _; refine add rfl rfl inL ?_)) | refine s_nil ?_ | refine kh_normal ?_ | refine bh_normal ?_))
      exact ⟨agL, (k + 1, A4, c4), hsL, enL, hkl, by show _ - (k + 1) < _ - k; omega⟩
    | false =>
      rw [if_neg (by rw [hb]; simp), List.append_nil] at hn
      simp only [hb] at hp'
      (repeat' (first | (show VH _ _ _ _ _ _ _; first | refine v_seq ?_ | refine r_seq ?_ | refine v_block ?_ | refine v_skip ?_ | refine v_cond_t rfl tbL ?_ | refine v_cond_f rfl tbL ?_) | (show SH _ _ _ _ _ (_ :: _) _ _ _; first | (show SH _ _ _ _ _ (⟨_, .move _, _, _, _, _⟩ :: _) _ _ _; refine mov evL ?_) | (show SH _ _ _ _ _ (⟨_, .assign _, _, _, _, _⟩ :: _) _ _ _; refine asg evL ?_) | (show SH _ _ _ _ _ (⟨_, .binOp .lss _ _ _ _, _, _, _, _⟩ :: _) _ _ _; refine lssT rfl rfl omD ?_) | (show SH _ _ _ _ _ (⟨_, .binOp .add _ _ _ _, _, _, _, _⟩ :: _) _ _ _; refine add rfl rfl inL ?_) | (show SH _ _ _ _ _ (⟨_, .load _ _, _, _, _, _⟩ :: _) _ _ _; first | refine lba rfl spL (by rfl) ?_ | refine lra rfl (fun _ _ => rdX) (by rfl) omL ?_ | refine lra rfl (fun _ _ => rdX) (by rfl) (by simp only [List.length_cons, List.length_nil]; omega) ?_) | (show SH _ _ _ _ _ (⟨_, .indexAddr _ _ _, _, _, _, _⟩ :: _) _ _ _; refine ix rfl rfl (by with_reducible rfl) (fun _ _ => rdX) (by rfl) omL omL ?_) | (show SH _ _ _ _ _ (⟨_, .call ⟨.value (.tmp _), _, _⟩, _, _, _, _⟩ :: _) _ _ _; refine cl (callee := .tmp _) rfl (fun w hw => hp' _ hw.ext) rfl rfl ?_) | refine extr rfl rfl ?_ | refine ala rfl (fun b => ?_) | (show SH _ _ _ _ _ (⟨_, .store _ _ _, _, _, _, _⟩ :: _) _ _ _; refine sta rfl rfl rfl spL (by rfl) (by rfl) (by rfl) kpL ?_)) | refine s_nil ?_ | refine kh_normal ?_ | refine bh_normal ?_))
      exact ⟨agL, (k + 1, A1, c2), by rw [hn]; (repeat (first | exact trivial | refine And.intro rfl ?_)), by rw [hn]; exact enL, hkl, by show _ - (k + 1) < _ - k; omega⟩
  · have hke : k = l.length := by omega
    subst hke
    rw [List.take_length] at hlen ⊢
    (repeat' (first | (show VH _ _ _ _ _ _ _; first | refine v_seq ?_ | refine r_seq ?_ | refine v_ret ?_ | refine v_exit ?_ | refine v_cond_f rfl tbL ?_) | (show SH _ _ _ _ _ (_ :: _) _ _ _; first | (show SH _ _ _ _ _ (⟨_, .move _, _, _, _, _⟩ :: _) _ _ _; refine mov evL ?_) | (show SH _ _ _ _ _ (⟨_, .assign _, _, _, _, _⟩ :: _) _ _ _; refine asg evL ?_) | (show SH _ _ _ _ _ (⟨_, .binOp .lss _ _ _ _, _, _, _, _⟩ :: _) _ _ _; refine lssF rfl rfl omD ?_)) | refine s_nil ?_ | refine kh_normal ?_ | refine kh_exit ?_ | refine bh_exit ?_))
    exact rh1 rfl rfl ⟨A1, c2, rfl, rfl⟩ enL
end Go.Proofs.YtjefoecnciepmaaGreatDoor

/- Package interest: open, sees. -/
namespace Go.Proofs.YtjefoecnciepmaaGreatDoor
open Go.Fw Go.RowKit
/-- What a client sees with. -/
structure EyeV where
  ct : Int
  A : Option Addr
  m : Nat
  c : Nat
instance : Flat EyeV := ⟨2, fun x => [.int .i64 x.ct, .slice x.A x.m x.c], ⟨0, none, 0, 0⟩, fun _ => rfl, fun x v hv => by simp at hv; rcases hv with rfl | rfl <;> rfl, by omega⟩
set_option maxHeartbeats 1000000 in
set_option maxRecDepth 100000 in
theorem eyePts (w : World) (b : Nat) (ct : Int) (l : List EntP) (hs : Sz l) (hr : ∀ x ∈ l, Rd w x.A x.e.comps) (hk : Rd w (some ⟨b, 0, none⟩) [(⟨ct, none, 0, 0⟩ : EyeV)]) :
    Fun1 Tryz.prog w (.func (.func 53) #[] #[.pointer (some ⟨b, 0, none⟩)]) (fun x : EntP => .agg (Flat.enc x).toArray) (fun x => .tuple #[.agg (Flat.enc (ptD (pointE x.e))).toArray, .bool ((pointE x.e).isSome && ownsE ct x.e)]) (· ∈ l) := fun1_cap fun w' he x hx => by
  have hp := fun w'' (he' : Ext w' w'') => point_spec x w'' (hs.el x hx) (((hr x hx).ext he).ext he')
  have ho := fun w'' (he' : Ext w' w'') => owns_spec ct none 0 0 x w'' (hs.el x hx) (((hr x hx).ext he).ext he')
  have hk' := hk.ext he
  generalize pointE x.e = pt at hp ⊢
  generalize ownsE ct x.e = ow at ho ⊢
  obtain ⟨⟨id, cs⟩, A, c1⟩ := x
  try simp only at hp ho ⊢
  rw [show Flat.enc (⟨⟨id, cs⟩, A, c1⟩ : EntP) = [.int .i64 id, .slice A cs.length c1] from rfl] at *
  generalize cs.length = m at hp ho ⊢
  generalize pt.isSome = sm at hp ⊢
  generalize ptD pt = P at hp ⊢
  obtain ⟨px, py⟩ := P
  rw [show Flat.enc (⟨px, py⟩ : Pt) = [.int .i64 px, .int .i64 py] from rfl] at *
  cases sm
  all_goals
    refine enterH Tryz.func53 rfl rfl Tryz.ntmps53 rfl (Wd.refl _) ?_
    (repeat' (first | (show VH _ _ _ _ _ _ _; first | refine v_seq ?_ | refine r_seq ?_) | (show SH _ _ _ _ _ (_ :: _) _ _ _; first | (show SH _ _ _ _ _ (⟨_, .move _, _, _, _, _⟩ :: _) _ _ _; refine mov evL ?_) | (show SH _ _ _ _ _ (⟨_, .assign _, _, _, _, _⟩ :: _) _ _ _; refine asg evL ?_) | (show SH _ _ _ _ _ (⟨_, .load _ _, _, _, _, _⟩ :: _) _ _ _; refine lba rfl spL (by rfl) ?_) | (show SH _ _ _ _ _ (⟨_, .call ⟨.value (.func 54), _, _⟩, _, _, _, _⟩ :: _) _ _ _; refine cl (callee := .func 54) rfl (fun w hw => hp _ hw.ext) rfl rfl ?_) | refine extr rfl rfl ?_ | refine ala rfl (fun b => ?_) | (show SH _ _ _ _ _ (⟨_, .box _ _, _, _, _, _⟩ :: _) _ _ _; refine bxx rfl evL rfl (fun b => ?_)) | (show SH _ _ _ _ _ (⟨_, .store _ _ _, _, _, _, _⟩ :: _) _ _ _; refine sta rfl rfl rfl spL (by rfl) (by rfl) (by rfl) kpL ?_)) | refine s_nil ?_ | refine kh_normal ?_))
    rename_i b2 b3
    refine r_heldT [bx b 101 _, bx b2 31 _] (tr [(0, true), (1, false), (2, false), (3, true), (4, false), (5, false), (6, true), (7, false), (8, false)] .nil) hmix (by kernel_rfl) enL ?_
    (repeat' (first | refine v_ret ?_ | (show SH _ _ _ _ _ (_ :: _) _ _ _; first | (show SH _ _ _ _ _ (⟨_, _, _, _, _, some _⟩ :: _) _ _ _; (refine gif rfl rfl ?_; first | refine giTT tbL ?_ | refine giTF tbL ?_)) | (show SH _ _ _ _ _ (⟨_, .move _, _, _, _, _⟩ :: _) _ _ _; refine mov evL ?_) | (show SH _ _ _ _ _ (⟨_, .assign _, _, _, _, _⟩ :: _) _ _ _; refine asg evL ?_) | (show SH _ _ _ _ _ (⟨_, .load _ _, _, _, _, _⟩ :: _) _ _ _; first | refine lba rfl spL (by rfl) ?_ | refine lca rfl (fun _ _ => rdX) (by rfl) ?_) | (show SH _ _ _ _ _ (⟨_, .call ⟨.value (.func 33), _, _⟩, _, _, _, _⟩ :: _) _ _ _; refine cl (callee := .func 33) rfl (fun w hw => ho _ hw.ext) rfl rfl ?_) | (show SH _ _ _ _ _ (⟨_, .pick _ _ _, _, _, _, _⟩ :: _) _ _ _; first | refine pkt rfl tbL evL ?_ | refine pkf rfl tbL evL ?_) | (show SH _ _ _ _ _ (⟨_, .store _ _ _, _, _, _, _⟩ :: _) _ _ _; refine sta rfl rfl rfl spL (by rfl) (by rfl) (by rfl) kpL ?_)) | refine s_nil ?_ | refine kh_normal ?_))
    exact rhC2 rfl rfl rfl rfl (fun w hw => loadVar_bx hw spL (by rfl)) ⟨rfl, rfl⟩ (ent_nil _)
/-- What open gives. -/
def OpenR (ct t : Int) (l : List EntP) (v : Value) (H : List HP) : Prop :=
  if (1 ≤ ct ∧ ct ≤ 8) ∧ ValidW t (ents l) then ∃ A c, v = .tuple #[.agg #[.int .i64 ct, .slice A (ptsE ct (ents l)).length c], .int .i64 0] ∧ H = [orow 101 A c (ptsE ct (ents l))]
  else v = .tuple #[.agg #[.int .i64 0, .slice none 0 0], .int .i64 2] ∧ H = []
theorem ptsE_ents (ct : Int) (l : List EntP) : (l.filter fun x => (pointE x.e).isSome && ownsE ct x.e).map (fun x => ptD (pointE x.e)) = ptsE ct (ents l) := by
  unfold ptsE ents
  rw [List.filter_map, List.map_map]; rfl
set_option maxHeartbeats 1000000 in
set_option maxRecDepth 100000 in
theorem open_spec (ct t : Int) (A : Option Addr) (l : List EntP) (c1 : Nat) (w : World) (hG : Glob w) (hs : Sz l) (hr : RdW w A l) : Ret Tryz.prog 31 [wv t A l c1, .int .i64 ct].toArray w (RP w (OpenR ct t l)) := by
  have hV := fun w' (he : Ext w w') => valid_spec t A l c1 w' (hG.ext he) hs (hr.ext he)
  unfold OpenR
  unfold wv at hV ⊢
  by_cases h1 : 1 ≤ ct ∧ ct ≤ 8
  case neg =>
    have hn : ¬ ((1 ≤ ct ∧ ct ≤ 8) ∧ ValidW t (ents l)) := fun h => h1 h.1
    simp only [if_neg hn]
    clear hn
    by_cases h2 : ct < 1
    all_goals
      refine enterH Tryz.func31 rfl rfl Tryz.ntmps31 rfl (Wd.refl _) ?_
      (repeat' (first | (show VH _ _ _ _ _ _ _; first | refine v_seq ?_ | refine r_seq ?_ | refine v_ret ?_ | refine v_cond_t rfl tbL ?_) | (show SH _ _ _ _ _ (_ :: _) _ _ _; first | (show SH _ _ _ _ _ (⟨_, _, _, _, _, some _⟩ :: _) _ _ _; (refine gif rfl rfl ?_; first | refine giFF tbL ?_ | refine giFT tbL ?_)) | (show SH _ _ _ _ _ (⟨_, .move _, _, _, _, _⟩ :: _) _ _ _; refine mov evL ?_) | (show SH _ _ _ _ _ (⟨_, .assign _, _, _, _, _⟩ :: _) _ _ _; refine asg evL ?_) | (show SH _ _ _ _ _ (⟨_, .binOp .lss _ _ _ _, _, _, _, _⟩ :: _) _ _ _; first | refine lssT rfl rfl omD ?_ | refine lssF rfl rfl omD ?_) | (show SH _ _ _ _ _ (⟨_, .binOp .gtr _ _ _ _, _, _, _, _⟩ :: _) _ _ _; refine gtrT rfl rfl omD ?_) | (show SH _ _ _ _ _ (⟨_, .pick _ _ _, _, _, _, _⟩ :: _) _ _ _; first | refine pkt rfl tbL evL ?_ | refine pkf rfl tbL evL ?_) | refine bld rfl rfl ?_ | refine ala rfl (fun b => ?_) | (show SH _ _ _ _ _ (⟨_, .box _ _, _, _, _, _⟩ :: _) _ _ _; refine bxx rfl evL rfl (fun b => ?_)) | (show SH _ _ _ _ _ (⟨_, .store _ _ _, _, _, _, _⟩ :: _) _ _ _; refine sta rfl rfl rfl spL (by rfl) (by rfl) (by rfl) kpL ?_)) | refine s_nil ?_ | refine kh_normal ?_ | refine kh_ret ?_))
      exact rhC2 rfl rfl rfl rfl (fun w hw => loadVar_bx hw spL (by rfl)) ⟨rfl, rfl⟩ (ent_nil _)
  by_cases hv : ValidW t (ents l)
  case neg =>
    have hn : ¬ ((1 ≤ ct ∧ ct ≤ 8) ∧ ValidW t (ents l)) := fun h => hv h.2
    simp only [if_neg hn]
    clear hn
    rw [decide_eq_false hv] at hV
    refine enterH Tryz.func31 rfl rfl Tryz.ntmps31 rfl (Wd.refl _) ?_
    (repeat' (first | (show VH _ _ _ _ _ _ _; first | refine v_seq ?_ | refine r_seq ?_ | refine v_ret ?_ | refine v_cond_t rfl tbL ?_) | (show SH _ _ _ _ _ (_ :: _) _ _ _; first | (show SH _ _ _ _ _ (⟨_, _, _, _, _, some _⟩ :: _) _ _ _; (refine gif rfl rfl ?_; refine giFF tbL ?_)) | (show SH _ _ _ _ _ (⟨_, .move _, _, _, _, _⟩ :: _) _ _ _; refine mov evL ?_) | (show SH _ _ _ _ _ (⟨_, .assign _, _, _, _, _⟩ :: _) _ _ _; refine asg evL ?_) | (show SH _ _ _ _ _ (⟨_, .binOp .lss _ _ _ _, _, _, _, _⟩ :: _) _ _ _; refine lssF rfl rfl omD ?_) | (show SH _ _ _ _ _ (⟨_, .binOp .gtr _ _ _ _, _, _, _, _⟩ :: _) _ _ _; refine gtrF rfl rfl omD ?_) | (show SH _ _ _ _ _ (⟨_, .load _ _, _, _, _, _⟩ :: _) _ _ _; refine lba rfl spL (by rfl) ?_) | (show SH _ _ _ _ _ (⟨_, .call ⟨.value (.func 51), _, _⟩, _, _, _, _⟩ :: _) _ _ _; refine cl (callee := .func 51) rfl (fun w hw => hV _ hw.ext) rfl rfl ?_) | refine bnoF rfl ?_ | (show SH _ _ _ _ _ (⟨_, .pick _ _ _, _, _, _, _⟩ :: _) _ _ _; refine pkf rfl tbL evL ?_) | refine bld rfl rfl ?_ | refine ala rfl (fun b => ?_) | (show SH _ _ _ _ _ (⟨_, .box _ _, _, _, _, _⟩ :: _) _ _ _; refine bxx rfl evL rfl (fun b => ?_)) | (show SH _ _ _ _ _ (⟨_, .store _ _ _, _, _, _, _⟩ :: _) _ _ _; refine sta rfl rfl rfl spL (by rfl) (by rfl) (by rfl) kpL ?_)) | refine s_nil ?_ | refine kh_normal ?_ | refine kh_ret ?_))
    exact rhC2 rfl rfl rfl rfl (fun w hw => loadVar_bx hw spL (by rfl)) ⟨rfl, rfl⟩ (ent_nil _)
  have hn : (1 ≤ ct ∧ ct ≤ 8) ∧ ValidW t (ents l) := ⟨h1, hv⟩
  simp only [if_pos hn]
  clear hn
  rw [decide_eq_true hv] at hV
  have hl64 : l.length ≤ 64 := by have := hv.len; simpa [ents] using this
  have hF := fun w' (he : Ext w w') b hk => filterV_spec A l c1 _ _ _ w' (by omega) (hr.1.ext he) (eyePts w' b ct l hs (fun x hx => (hr.2 x hx).ext he) hk)
  rw [ptsE_ents] at hF
  clear hv
  generalize ptsE ct (ents l) = L at hF ⊢
  refine enterH Tryz.func31 rfl rfl Tryz.ntmps31 rfl (Wd.refl _) ?_
  (repeat' (first | (show VH _ _ _ _ _ _ _; first | refine v_seq ?_ | refine r_seq ?_ | refine v_skip ?_ | refine v_cond_f rfl tbL ?_) | (show SH _ _ _ _ _ (_ :: _) _ _ _; first | (show SH _ _ _ _ _ (⟨_, _, _, _, _, some _⟩ :: _) _ _ _; (refine gif rfl rfl ?_; refine giFF tbL ?_)) | (show SH _ _ _ _ _ (⟨_, .move _, _, _, _, _⟩ :: _) _ _ _; refine mov evL ?_) | (show SH _ _ _ _ _ (⟨_, .assign _, _, _, _, _⟩ :: _) _ _ _; refine asg evL ?_) | (show SH _ _ _ _ _ (⟨_, .binOp .lss _ _ _ _, _, _, _, _⟩ :: _) _ _ _; refine lssF rfl rfl omD ?_) | (show SH _ _ _ _ _ (⟨_, .binOp .gtr _ _ _ _, _, _, _, _⟩ :: _) _ _ _; refine gtrF rfl rfl omD ?_) | (show SH _ _ _ _ _ (⟨_, .load _ _, _, _, _, _⟩ :: _) _ _ _; first | refine lbx rfl spL (by rfl) ?_ | refine lba rfl spL (by rfl) ?_) | (show SH _ _ _ _ _ (⟨_, .call ⟨.value (.func 51), _, _⟩, _, _, _, _⟩ :: _) _ _ _; refine cl (callee := .func 51) rfl (fun w hw => hV _ hw.ext) rfl rfl ?_) | (show SH _ _ _ _ _ (⟨_, .call ⟨.value (.func 52), _, _⟩, _, _, _, _⟩ :: _) _ _ _; refine cp (callee := .func 52) rfl (fun w hw => hF _ hw.ext _ (rd_box hw spL rfl)) rfl rfl ?_) | refine bnoT rfl ?_ | (show SH _ _ _ _ _ (⟨_, .pick _ _ _, _, _, _, _⟩ :: _) _ _ _; refine pkf rfl tbL evL ?_) | refine fad rfl ?_ | (show SH _ _ _ _ _ (⟨_, .makeFunc _ _ _, _, _, _, _⟩ :: _) _ _ _; refine mf1 evL ?_) | refine bld rfl rfl ?_ | refine ala rfl (fun b => ?_) | (show SH _ _ _ _ _ (⟨_, .box _ _, _, _, _, _⟩ :: _) _ _ _; refine bxx rfl evL rfl (fun b => ?_)) | (show SH _ _ _ _ _ (⟨_, .store _ _ _, _, _, _, _⟩ :: _) _ _ _; refine sta rfl rfl rfl spL (by rfl) (by rfl) (by rfl) kpL ?_)) | refine s_nil ?_ | refine kh_normal ?_))
  rintro _ _ ⟨A1, c2, rfl, rfl⟩
  (repeat' (first | (show VH _ _ _ _ _ _ _; first | refine v_seq ?_ | refine r_seq ?_ | refine v_ret ?_) | (show SH _ _ _ _ _ (_ :: _) _ _ _; first | (show SH _ _ _ _ _ (⟨_, .assign _, _, _, _, _⟩ :: _) _ _ _; refine asg evL ?_) | (show SH _ _ _ _ _ (⟨_, .load _ _, _, _, _, _⟩ :: _) _ _ _; refine lba rfl spL (by rfl) ?_) | refine fad rfl ?_ | (show SH _ _ _ _ _ (⟨_, .store _ _ _, _, _, _, _⟩ :: _) _ _ _; first | refine stb rfl rfl evL spL rfl rfl (by first | decide | exact Nat.zero_lt_succ _ | exact of_decide_eq_true rfl) kpL ?_ | refine sta rfl rfl rfl spL (by rfl) (by rfl) (by rfl) kpL ?_)) | refine s_nil ?_ | refine kh_normal ?_))
  exact rhC2 rfl rfl rfl rfl (fun w hw => loadVar_bx hw spL (by rfl)) ⟨A1, c2, rfl, rfl⟩ enL
end Go.Proofs.YtjefoecnciepmaaGreatDoor

/- Package interest: what is visible. -/
namespace Go.Proofs.YtjefoecnciepmaaGreatDoor
open Go.Fw Go.RowKit
theorem shl_bit : ∀ c < 9, IntKind.i64.wrap (1 * 2 ^ (min ((c : Nat) : Int).toNat IntKind.i64.bits)) = 2 ^ c := by decide +kernel
set_option maxHeartbeats 1000000 in
set_option maxRecDepth 100000 in
theorem nearFun (w : World) (b : Nat) (p : Pt) (hp : InC p) (ps : List Pt) (hps : ∀ q ∈ ps, InC q) (hk : Rd w (some ⟨b, 0, none⟩) [p]) : AsksL w (.func (.func 61) #[] #[.pointer (some ⟨b, 0, none⟩)]) ps (fun q => decide (gapP p q ≤ 16384)) := fun1_cap fun w' he q hq => by
  have hk' := hk.ext he
  have hd := fun w => dist_spec p q w hp (hps q hq)
  refine enterH Tryz.func61 rfl rfl Tryz.ntmps61 rfl (Wd.refl _) ?_
  (repeat' (first | (show VH _ _ _ _ _ _ _; first | refine v_seq ?_ | refine r_seq ?_ | refine v_ret ?_) | (show SH _ _ _ _ _ (_ :: _) _ _ _; first | (show SH _ _ _ _ _ (⟨_, .assign _, _, _, _, _⟩ :: _) _ _ _; refine asg evL ?_) | refine leq rfl rfl ?_ | (show SH _ _ _ _ _ (⟨_, .load _ _, _, _, _, _⟩ :: _) _ _ _; first | refine lba rfl spL (by rfl) ?_ | refine lca rfl (fun _ _ => rdX) (by rfl) ?_) | (show SH _ _ _ _ _ (⟨_, .call ⟨.value (.func 62), _, _⟩, _, _, _, _⟩ :: _) _ _ _; refine cl (callee := .func 62) rfl (fun w hw => hd w) rfl rfl ?_) | (show SH _ _ _ _ _ (⟨_, .box _ _, _, _, _, _⟩ :: _) _ _ _; refine bxx rfl evL rfl (fun b => ?_))) | refine s_nil ?_ | refine kh_normal ?_))
  exact rh1 rfl rfl ⟨rfl, rfl⟩ (ent_nil _)
set_option maxHeartbeats 2000000 in
set_option maxRecDepth 100000 in
theorem sees_spec (ct : Nat) (h8 : 1 ≤ ct ∧ ct ≤ 8) (A0 : Option Addr) (ps : List Pt) (c0 : Nat) (x : EntP) (w : World) (hl : x.e.comps.length ≤ 140737488355328) (hr : Rd w x.A x.e.comps) (hE : RightE x.e) (hps : Rd w A0 ps) (hin : ∀ q ∈ ps, InC q) (hpl : ps.length ≤ 140737488355328) :
    Ret Tryz.prog 36 [.agg #[.int .i64 ct, .slice A0 ps.length c0], .agg (Flat.enc x).toArray].toArray w (Out w (.bool (seesE ct ps x.e))) := by
  have ho := fun w' (he : Ext w w') => owns_spec ct A0 ps.length c0 x w' hl (hr.ext he)
  have h5 := fun w' (he : Ext w w') => comp_spec x 5 w' hl (hr.ext he)
  have hp := fun w' (he : Ext w w') => point_spec x w' hl (hr.ext he)
  have hpin : ∀ p, pointE x.e = some p → InC p := fun p h => point_in hE h
  have hhide : ∀ c, compK 5 x.e.comps = some c → 0 ≤ c.a ∧ c.a ≤ 510 := fun c h => by
    obtain ⟨h1, h2⟩ := compK_mem h
    exact fits_hide (hE.fits c h1) h2
  unfold seesE hidE nearE
  clear hE
  generalize ownsE ct x.e = ow at ho ⊢
  generalize pointE x.e = pt at hp hpin ⊢
  generalize compK 5 x.e.comps = hc at h5 hhide ⊢
  obtain ⟨⟨id, cs⟩, A, c1⟩ := x
  simp only at hr
  rw [show Flat.enc (⟨⟨id, cs⟩, A, c1⟩ : EntP) = [.int .i64 id, .slice A cs.length c1] from rfl] at *
  generalize cs.length = m at *
  cases ow with
  | true =>
    rw [Bool.true_or]
    refine enterH Tryz.func36 rfl rfl Tryz.ntmps36 rfl (Wd.refl _) ?_
    (repeat' (first | (show VH _ _ _ _ _ _ _; first | refine v_seq ?_ | refine r_seq ?_ | refine v_ret ?_ | refine v_cond_t rfl tbL ?_) | (show SH _ _ _ _ _ (_ :: _) _ _ _; first | (show SH _ _ _ _ _ (⟨_, .assign _, _, _, _, _⟩ :: _) _ _ _; refine asg evL ?_) | (show SH _ _ _ _ _ (⟨_, .load _ _, _, _, _, _⟩ :: _) _ _ _; refine lba rfl spL (by rfl) ?_) | (show SH _ _ _ _ _ (⟨_, .call ⟨.value (.func 33), _, _⟩, _, _, _, _⟩ :: _) _ _ _; refine cl (callee := .func 33) rfl (fun w hw => ho _ hw.ext) rfl rfl ?_) | (show SH _ _ _ _ _ (⟨_, .box _ _, _, _, _, _⟩ :: _) _ _ _; refine bxx rfl evL rfl (fun b => ?_))) | refine s_nil ?_ | refine kh_normal ?_ | refine kh_ret ?_))
    exact rh1 rfl rfl ⟨rfl, rfl⟩ (ent_nil _)
  | false =>
    rw [Bool.false_or]
    have hC : ∀ p, pt = some p → ∀ w' (he : Ext w w') b (hk : Rd w' (some ⟨b, 0, none⟩) [p]), Ret Tryz.prog 60 [.slice A0 ps.length c0, .func (.func 61) #[] #[.pointer (some ⟨b, 0, none⟩)]].toArray w' (Out w' (.bool (ps.any fun q => decide (gapP p q ≤ 16384)))) :=
      fun p hpt w' he b hk => containsFuncV_spec A0 ps c0 _ _ w' hpl (hps.ext he) (nearFun w' b p (hpin p hpt) ps hin hk)
    clear hps hin hpl hpin
    generalize ps.length = pm at *
    cases hc with
    | none =>
      clear hhide
      cases pt with
      | none =>
        clear hC
        refine enterH Tryz.func36 rfl rfl Tryz.ntmps36 rfl (Wd.refl _) ?_
        (repeat' (first | (show VH _ _ _ _ _ _ _; first | refine v_seq ?_ | refine r_seq ?_ | refine r_quiet hmix (by kernel_rfl) ?_ | refine v_ret ?_ | refine v_skip ?_ | refine v_cond_f rfl tbL ?_) | (show SH _ _ _ _ _ (_ :: _) _ _ _; first | (show SH _ _ _ _ _ (⟨_, _, _, _, _, some _⟩ :: _) _ _ _; (refine gif rfl rfl ?_; refine giTF tbL ?_)) | (show SH _ _ _ _ _ (⟨_, .move _, _, _, _, _⟩ :: _) _ _ _; refine mov evL ?_) | (show SH _ _ _ _ _ (⟨_, .assign _, _, _, _, _⟩ :: _) _ _ _; refine asg evL ?_) | (show SH _ _ _ _ _ (⟨_, .load _ _, _, _, _, _⟩ :: _) _ _ _; refine lba rfl spL (by rfl) ?_) | (show SH _ _ _ _ _ (⟨_, .call ⟨.value (.func 33), _, _⟩, _, _, _, _⟩ :: _) _ _ _; refine cl (callee := .func 33) rfl (fun w hw => ho _ hw.ext) rfl rfl ?_) | (show SH _ _ _ _ _ (⟨_, .call ⟨.value (.tmp _), _, _⟩, _, _, _, _⟩ :: _) _ _ _; refine cl (callee := .tmp _) rfl (fun w hw => h5 _ hw.ext) rfl rfl ?_) | (show SH _ _ _ _ _ (⟨_, .call ⟨.value (.func 54), _, _⟩, _, _, _, _⟩ :: _) _ _ _; refine cl (callee := .func 54) rfl (fun w hw => hp _ hw.ext) rfl rfl ?_) | (show SH _ _ _ _ _ (⟨_, .pick _ _ _, _, _, _, _⟩ :: _) _ _ _; refine pkf rfl tbL evL ?_) | refine extr rfl rfl ?_ | (show SH _ _ _ _ _ (⟨_, .makeFunc _ _ _, _, _, _, _⟩ :: _) _ _ _; refine mfb evL ?_) | refine ala rfl (fun b => ?_) | (show SH _ _ _ _ _ (⟨_, .box _ _, _, _, _, _⟩ :: _) _ _ _; refine bxx rfl evL rfl (fun b => ?_)) | (show SH _ _ _ _ _ (⟨_, .store _ _ _, _, _, _, _⟩ :: _) _ _ _; refine sta rfl rfl rfl spL (by rfl) (by rfl) (by rfl) kpL ?_)) | refine s_nil ?_ | refine kh_normal ?_))
        exact rh1 rfl rfl ⟨rfl, rfl⟩ (ent_nil _)
      | some p =>
        have hC' := hC p rfl
        clear hC
        obtain ⟨px, py⟩ := p
        simp only
        generalize (ps.any fun q => decide (gapP ⟨px, py⟩ q ≤ 16384)) = nr at hC' ⊢
        refine enterH Tryz.func36 rfl rfl Tryz.ntmps36 rfl (Wd.refl _) ?_
        (repeat' (first | (show VH _ _ _ _ _ _ _; first | refine v_seq ?_ | refine r_seq ?_ | refine r_quiet hmix (by kernel_rfl) ?_ | refine v_ret ?_ | refine v_skip ?_ | refine v_cond_f rfl tbL ?_) | (show SH _ _ _ _ _ (_ :: _) _ _ _; first | (show SH _ _ _ _ _ (⟨_, _, _, _, _, some _⟩ :: _) _ _ _; (refine gif rfl rfl ?_; first | refine giTT tbL ?_ | refine giTF tbL ?_)) | (show SH _ _ _ _ _ (⟨_, .move _, _, _, _, _⟩ :: _) _ _ _; refine mov evL ?_) | (show SH _ _ _ _ _ (⟨_, .assign _, _, _, _, _⟩ :: _) _ _ _; refine asg evL ?_) | (show SH _ _ _ _ _ (⟨_, .load _ _, _, _, _, _⟩ :: _) _ _ _; first | refine lbx rfl spL (by rfl) ?_ | refine lba rfl spL (by rfl) ?_) | (show SH _ _ _ _ _ (⟨_, .call ⟨.value (.func 33), _, _⟩, _, _, _, _⟩ :: _) _ _ _; refine cl (callee := .func 33) rfl (fun w hw => ho _ hw.ext) rfl rfl ?_) | (show SH _ _ _ _ _ (⟨_, .call ⟨.value (.tmp _), _, _⟩, _, _, _, _⟩ :: _) _ _ _; refine cl (callee := .tmp _) rfl (fun w hw => h5 _ hw.ext) rfl rfl ?_) | (show SH _ _ _ _ _ (⟨_, .call ⟨.value (.func 54), _, _⟩, _, _, _, _⟩ :: _) _ _ _; refine cl (callee := .func 54) rfl (fun w hw => hp _ hw.ext) rfl rfl ?_) | (show SH _ _ _ _ _ (⟨_, .call ⟨.value (.func 60), _, _⟩, _, _, _, _⟩ :: _) _ _ _; refine cl (callee := .func 60) rfl (fun w hw => hC' _ hw.ext _ (rd_box hw spL rfl)) rfl rfl ?_) | (show SH _ _ _ _ _ (⟨_, .pick _ _ _, _, _, _, _⟩ :: _) _ _ _; first | refine pkt rfl tbL evL ?_ | refine pkf rfl tbL evL ?_) | refine extr rfl rfl ?_ | refine fad rfl ?_ | (show SH _ _ _ _ _ (⟨_, .makeFunc _ _ _, _, _, _, _⟩ :: _) _ _ _; first | refine mf1 evL ?_ | refine mfb evL ?_) | refine ala rfl (fun b => ?_) | (show SH _ _ _ _ _ (⟨_, .box _ _, _, _, _, _⟩ :: _) _ _ _; refine bxx rfl evL rfl (fun b => ?_)) | (show SH _ _ _ _ _ (⟨_, .store _ _ _, _, _, _, _⟩ :: _) _ _ _; refine sta rfl rfl rfl spL (by rfl) (by rfl) (by rfl) kpL ?_)) | refine s_nil ?_ | refine kh_normal ?_))
        exact rh1 rfl rfl ⟨rfl, rfl⟩ (ent_nil _)
    | some c =>
      have hr5 := hhide c rfl
      clear hhide
      obtain ⟨ck, ca, cb, cc, cd⟩ := c
      simp only at hr5
      obtain ⟨a, rfl⟩ : ∃ a : Nat, ca = (a : Int) := ⟨ca.toNat, by omega⟩
      have hbit := hide_bit a (by omega) ct (by omega)
      have hsh := shl_bit ct (by omega)
      simp only [Int.toNat_natCast a]
      generalize Nat.testBit a ct = hb at hbit ⊢
      obtain ⟨B, hB⟩ : ∃ B, bandK .i64 ((a : Nat) : Int) (2 ^ ct) = B := ⟨_, rfl⟩
      rw [hB] at hbit
      cases hb with
      | true =>
        have hB0 := of_decide_eq_true hbit
        clear hC hp
        refine enterH Tryz.func36 rfl rfl Tryz.ntmps36 rfl (Wd.refl _) ?_
        (repeat' (first | (show VH _ _ _ _ _ _ _; first | refine v_seq ?_ | refine r_seq ?_ | refine r_quiet hmix (by kernel_rfl) ?_ | refine v_skip ?_ | refine v_cond_f rfl tbL ?_) | (show SH _ _ _ _ _ (_ :: _) _ _ _; first | (show SH _ _ _ _ _ (⟨_, _, _, _, _, some _⟩ :: _) _ _ _; (refine gif rfl rfl ?_; refine giTT tbL ?_)) | (show SH _ _ _ _ _ (⟨_, .move _, _, _, _, _⟩ :: _) _ _ _; refine mov evL ?_) | (show SH _ _ _ _ _ (⟨_, .assign _, _, _, _, _⟩ :: _) _ _ _; refine asg evL ?_) | (show SH _ _ _ _ _ (⟨_, .load _ _, _, _, _, _⟩ :: _) _ _ _; first | refine lbx rfl spL (by rfl) ?_ | refine lba rfl spL (by rfl) ?_) | (show SH _ _ _ _ _ (⟨_, .indexAddr _ _ _, _, _, _, _⟩ :: _) _ _ _; refine ixb rfl rfl omL ?_) | (show SH _ _ _ _ _ (⟨_, .call ⟨.value (.func 33), _, _⟩, _, _, _, _⟩ :: _) _ _ _; refine cl (callee := .func 33) rfl (fun w hw => ho _ hw.ext) rfl rfl ?_) | (show SH _ _ _ _ _ (⟨_, .call ⟨.value (.tmp _), _, _⟩, _, _, _, _⟩ :: _) _ _ _; refine cl (callee := .tmp _) rfl (fun w hw => h5 _ hw.ext) rfl rfl ?_) | refine extr rfl rfl ?_ | refine fad rfl ?_ | (show SH _ _ _ _ _ (⟨_, .makeFunc _ _ _, _, _, _, _⟩ :: _) _ _ _; refine mfb evL ?_) | refine ala rfl (fun b => ?_) | (show SH _ _ _ _ _ (⟨_, .box _ _, _, _, _, _⟩ :: _) _ _ _; refine bxx rfl evL rfl (fun b => ?_)) | (show SH _ _ _ _ _ (⟨_, .store _ _ _, _, _, _, _⟩ :: _) _ _ _; refine sta rfl rfl rfl spL (by rfl) (by rfl) (by rfl) kpL ?_)) | refine s_nil ?_ | refine kh_normal ?_))
        refine shlw rfl rfl (by omega) _ hsh ?_
        (repeat' ((show SH _ _ _ _ _ (_ :: _) _ _ _; (show SH _ _ _ _ _ (⟨_, _, _, _, _, some _⟩ :: _) _ _ _; (refine gif rfl rfl ?_; refine giTT tbL ?_)))))
        refine andw rfl rfl _ hB ?_
        (repeat' (first | (show VH _ _ _ _ _ _ _; first | refine v_seq ?_ | refine r_seq ?_ | refine v_ret ?_ | refine v_cond_t rfl tbL ?_) | (show SH _ _ _ _ _ (_ :: _) _ _ _; first | (show SH _ _ _ _ _ (⟨_, _, _, _, _, some _⟩ :: _) _ _ _; (refine gif rfl rfl ?_; refine giTT tbL ?_)) | (show SH _ _ _ _ _ (⟨_, .assign _, _, _, _, _⟩ :: _) _ _ _; refine asg evL ?_) | (show SH _ _ _ _ _ (⟨_, .binOp .neq _ _ _ _, _, _, _, _⟩ :: _) _ _ _; refine neqT rfl rfl omD ?_) | (show SH _ _ _ _ _ (⟨_, .pick _ _ _, _, _, _, _⟩ :: _) _ _ _; refine pkt rfl tbL evL ?_)) | refine s_nil ?_ | refine kh_normal ?_ | refine kh_ret ?_))
        exact rh1 rfl rfl ⟨rfl, rfl⟩ (ent_nil _)
      | false =>
        have hB0 : B = 0 := Decidable.not_not.1 (of_decide_eq_false hbit)
        cases pt with
        | none =>
          clear hC
          refine enterH Tryz.func36 rfl rfl Tryz.ntmps36 rfl (Wd.refl _) ?_
          (repeat' (first | (show VH _ _ _ _ _ _ _; first | refine v_seq ?_ | refine r_seq ?_ | refine r_quiet hmix (by kernel_rfl) ?_ | refine v_skip ?_ | refine v_cond_f rfl tbL ?_) | (show SH _ _ _ _ _ (_ :: _) _ _ _; first | (show SH _ _ _ _ _ (⟨_, _, _, _, _, some _⟩ :: _) _ _ _; (refine gif rfl rfl ?_; refine giTT tbL ?_)) | (show SH _ _ _ _ _ (⟨_, .move _, _, _, _, _⟩ :: _) _ _ _; refine mov evL ?_) | (show SH _ _ _ _ _ (⟨_, .assign _, _, _, _, _⟩ :: _) _ _ _; refine asg evL ?_) | (show SH _ _ _ _ _ (⟨_, .load _ _, _, _, _, _⟩ :: _) _ _ _; first | refine lbx rfl spL (by rfl) ?_ | refine lba rfl spL (by rfl) ?_) | (show SH _ _ _ _ _ (⟨_, .indexAddr _ _ _, _, _, _, _⟩ :: _) _ _ _; refine ixb rfl rfl omL ?_) | (show SH _ _ _ _ _ (⟨_, .call ⟨.value (.func 33), _, _⟩, _, _, _, _⟩ :: _) _ _ _; refine cl (callee := .func 33) rfl (fun w hw => ho _ hw.ext) rfl rfl ?_) | (show SH _ _ _ _ _ (⟨_, .call ⟨.value (.tmp _), _, _⟩, _, _, _, _⟩ :: _) _ _ _; refine cl (callee := .tmp _) rfl (fun w hw => h5 _ hw.ext) rfl rfl ?_) | refine extr rfl rfl ?_ | refine fad rfl ?_ | (show SH _ _ _ _ _ (⟨_, .makeFunc _ _ _, _, _, _, _⟩ :: _) _ _ _; refine mfb evL ?_) | refine ala rfl (fun b => ?_) | (show SH _ _ _ _ _ (⟨_, .box _ _, _, _, _, _⟩ :: _) _ _ _; refine bxx rfl evL rfl (fun b => ?_)) | (show SH _ _ _ _ _ (⟨_, .store _ _ _, _, _, _, _⟩ :: _) _ _ _; refine sta rfl rfl rfl spL (by rfl) (by rfl) (by rfl) kpL ?_)) | refine s_nil ?_ | refine kh_normal ?_))
          refine shlw rfl rfl (by omega) _ hsh ?_
          (repeat' ((show SH _ _ _ _ _ (_ :: _) _ _ _; (show SH _ _ _ _ _ (⟨_, _, _, _, _, some _⟩ :: _) _ _ _; (refine gif rfl rfl ?_; refine giTT tbL ?_)))))
          refine andw rfl rfl _ hB ?_
          (repeat' (first | (show VH _ _ _ _ _ _ _; first | refine v_seq ?_ | refine r_seq ?_ | refine v_ret ?_ | refine v_skip ?_ | refine v_cond_f rfl tbL ?_) | (show SH _ _ _ _ _ (_ :: _) _ _ _; first | (show SH _ _ _ _ _ (⟨_, _, _, _, _, some _⟩ :: _) _ _ _; (refine gif rfl rfl ?_; first | refine giTT tbL ?_ | refine giTF tbL ?_)) | (show SH _ _ _ _ _ (⟨_, .move _, _, _, _, _⟩ :: _) _ _ _; refine mov evL ?_) | (show SH _ _ _ _ _ (⟨_, .assign _, _, _, _, _⟩ :: _) _ _ _; refine asg evL ?_) | (show SH _ _ _ _ _ (⟨_, .binOp .neq _ _ _ _, _, _, _, _⟩ :: _) _ _ _; refine neqF rfl rfl omD ?_) | (show SH _ _ _ _ _ (⟨_, .load _ _, _, _, _, _⟩ :: _) _ _ _; refine lba rfl spL (by rfl) ?_) | (show SH _ _ _ _ _ (⟨_, .call ⟨.value (.func 54), _, _⟩, _, _, _, _⟩ :: _) _ _ _; refine cl (callee := .func 54) rfl (fun w hw => hp _ hw.ext) rfl rfl ?_) | (show SH _ _ _ _ _ (⟨_, .pick _ _ _, _, _, _, _⟩ :: _) _ _ _; first | refine pkt rfl tbL evL ?_ | refine pkf rfl tbL evL ?_) | refine extr rfl rfl ?_ | refine ala rfl (fun b => ?_) | (show SH _ _ _ _ _ (⟨_, .store _ _ _, _, _, _, _⟩ :: _) _ _ _; refine sta rfl rfl rfl spL (by rfl) (by rfl) (by rfl) kpL ?_)) | refine s_nil ?_ | refine kh_normal ?_))
          exact rh1 rfl rfl ⟨rfl, rfl⟩ (ent_nil _)
        | some p =>
          have hC' := hC p rfl
          clear hC
          obtain ⟨px, py⟩ := p
          simp only
          generalize (ps.any fun q => decide (gapP ⟨px, py⟩ q ≤ 16384)) = nr at hC' ⊢
          refine enterH Tryz.func36 rfl rfl Tryz.ntmps36 rfl (Wd.refl _) ?_
          (repeat' (first | (show VH _ _ _ _ _ _ _; first | refine v_seq ?_ | refine r_seq ?_ | refine r_quiet hmix (by kernel_rfl) ?_ | refine v_skip ?_ | refine v_cond_f rfl tbL ?_) | (show SH _ _ _ _ _ (_ :: _) _ _ _; first | (show SH _ _ _ _ _ (⟨_, _, _, _, _, some _⟩ :: _) _ _ _; (refine gif rfl rfl ?_; refine giTT tbL ?_)) | (show SH _ _ _ _ _ (⟨_, .move _, _, _, _, _⟩ :: _) _ _ _; refine mov evL ?_) | (show SH _ _ _ _ _ (⟨_, .assign _, _, _, _, _⟩ :: _) _ _ _; refine asg evL ?_) | (show SH _ _ _ _ _ (⟨_, .load _ _, _, _, _, _⟩ :: _) _ _ _; first | refine lbx rfl spL (by rfl) ?_ | refine lba rfl spL (by rfl) ?_) | (show SH _ _ _ _ _ (⟨_, .indexAddr _ _ _, _, _, _, _⟩ :: _) _ _ _; refine ixb rfl rfl omL ?_) | (show SH _ _ _ _ _ (⟨_, .call ⟨.value (.func 33), _, _⟩, _, _, _, _⟩ :: _) _ _ _; refine cl (callee := .func 33) rfl (fun w hw => ho _ hw.ext) rfl rfl ?_) | (show SH _ _ _ _ _ (⟨_, .call ⟨.value (.tmp _), _, _⟩, _, _, _, _⟩ :: _) _ _ _; refine cl (callee := .tmp _) rfl (fun w hw => h5 _ hw.ext) rfl rfl ?_) | refine extr rfl rfl ?_ | refine fad rfl ?_ | (show SH _ _ _ _ _ (⟨_, .makeFunc _ _ _, _, _, _, _⟩ :: _) _ _ _; refine mfb evL ?_) | refine ala rfl (fun b => ?_) | (show SH _ _ _ _ _ (⟨_, .box _ _, _, _, _, _⟩ :: _) _ _ _; refine bxx rfl evL rfl (fun b => ?_)) | (show SH _ _ _ _ _ (⟨_, .store _ _ _, _, _, _, _⟩ :: _) _ _ _; refine sta rfl rfl rfl spL (by rfl) (by rfl) (by rfl) kpL ?_)) | refine s_nil ?_ | refine kh_normal ?_))
          refine shlw rfl rfl (by omega) _ hsh ?_
          (repeat' ((show SH _ _ _ _ _ (_ :: _) _ _ _; (show SH _ _ _ _ _ (⟨_, _, _, _, _, some _⟩ :: _) _ _ _; (refine gif rfl rfl ?_; refine giTT tbL ?_)))))
          refine andw rfl rfl _ hB ?_
          (repeat' (first | (show VH _ _ _ _ _ _ _; first | refine v_seq ?_ | refine r_seq ?_ | refine v_ret ?_ | refine v_skip ?_ | refine v_cond_f rfl tbL ?_) | (show SH _ _ _ _ _ (_ :: _) _ _ _; first | (show SH _ _ _ _ _ (⟨_, _, _, _, _, some _⟩ :: _) _ _ _; (refine gif rfl rfl ?_; refine giTT tbL ?_)) | (show SH _ _ _ _ _ (⟨_, .move _, _, _, _, _⟩ :: _) _ _ _; refine mov evL ?_) | (show SH _ _ _ _ _ (⟨_, .assign _, _, _, _, _⟩ :: _) _ _ _; refine asg evL ?_) | (show SH _ _ _ _ _ (⟨_, .binOp .neq _ _ _ _, _, _, _, _⟩ :: _) _ _ _; refine neqF rfl rfl omD ?_) | (show SH _ _ _ _ _ (⟨_, .load _ _, _, _, _, _⟩ :: _) _ _ _; first | refine lbx rfl spL (by rfl) ?_ | refine lba rfl spL (by rfl) ?_) | (show SH _ _ _ _ _ (⟨_, .call ⟨.value (.func 54), _, _⟩, _, _, _, _⟩ :: _) _ _ _; refine cl (callee := .func 54) rfl (fun w hw => hp _ hw.ext) rfl rfl ?_) | (show SH _ _ _ _ _ (⟨_, .call ⟨.value (.func 60), _, _⟩, _, _, _, _⟩ :: _) _ _ _; refine cl (callee := .func 60) rfl (fun w hw => hC' _ hw.ext _ (rd_box hw spL rfl)) rfl rfl ?_) | (show SH _ _ _ _ _ (⟨_, .pick _ _ _, _, _, _, _⟩ :: _) _ _ _; refine pkt rfl tbL evL ?_) | refine extr rfl rfl ?_ | refine fad rfl ?_ | (show SH _ _ _ _ _ (⟨_, .makeFunc _ _ _, _, _, _, _⟩ :: _) _ _ _; refine mf1 evL ?_) | refine ala rfl (fun b => ?_) | (show SH _ _ _ _ _ (⟨_, .store _ _ _, _, _, _, _⟩ :: _) _ _ _; refine sta rfl rfl rfl spL (by rfl) (by rfl) (by rfl) kpL ?_)) | refine s_nil ?_ | refine kh_normal ?_))
          exact rh1 rfl rfl ⟨rfl, rfl⟩ (ent_nil _)
end Go.Proofs.YtjefoecnciepmaaGreatDoor

/- Package store: binary search (printed by gen_sb.py). -/
namespace Go.Proofs.YtjefoecnciepmaaGreatDoor
open Go.Fw Go.RowKit
def cmpI (a b : Int) : Int := if a < b then -1 else if b < a then 1 else 0
/-- How many elements lie ahead of the key k. -/
def lbK {α : Type} (key : α → Int) (k : Int) (l : List α) : Nat := (l.takeWhile fun x => decide (key x < k)).length
def hasK {α : Type} [Flat α] (key : α → Int) (k : Int) (l : List α) : Bool := decide (lbK key k l < l.length) && decide (key (l.getD (lbK key k l) Flat.dflt) = k)
theorem lbK_eq {α : Type} (d : α) (key : α → Int) (k : Int) : ∀ (l : List α) (i : Nat), i ≤ l.length → (∀ q, q < i → key (l.getD q d) < k) → (i < l.length → ¬ key (l.getD i d) < k) → lbK key k l = i
  | [], i, hi, _, _ => by simp at hi; subst hi; rfl
  | x :: l, 0, _, _, h2 => by
    have := h2 (by simp)
    unfold lbK
    rw [List.takeWhile_cons_of_neg (by simpa using this)]; rfl
  | x :: l, i + 1, hi, h1, h2 => by
    have h0 := h1 0 (by omega)
    have ih := lbK_eq d key k l i (by simpa using hi) (fun q hq => by simpa using h1 (q + 1) (by omega)) (fun h => by simpa using h2 (by simpa using h))
    unfold lbK at ih ⊢
    rw [List.takeWhile_cons_of_pos (by simpa using h0), List.length_cons, ih]
theorem isNaNE_spec (a : Int) (w : World) : Ret Tryz.prog 152 [.int .i64 a].toArray w (Out w (.bool false)) := by
  refine enterH Tryz.func152 rfl rfl Tryz.ntmps152 rfl (Wd.refl _) ?_
  (repeat' (first | (show VH _ _ _ _ _ _ _; first | refine v_seq ?_ | refine r_seq ?_ | refine v_ret ?_) | (show SH _ _ _ _ _ (_ :: _) _ _ _; first | (show SH _ _ _ _ _ (⟨_, .move _, _, _, _, _⟩ :: _) _ _ _; refine mov evL ?_) | (show SH _ _ _ _ _ (⟨_, .assign _, _, _, _, _⟩ :: _) _ _ _; refine asg evL ?_) | (show SH _ _ _ _ _ (⟨_, .binOp .neq _ _ _ _, _, _, _, _⟩ :: _) _ _ _; refine neqF rfl rfl omD ?_)) | refine s_nil ?_ | refine kh_normal ?_))
  exact rh1 rfl rfl ⟨congrArg Value.bool (by simp), rfl⟩ (ent_nil _)
set_option maxRecDepth 100000 in
theorem compareE_spec (a b : Int) (w : World) : Ret Tryz.prog 144 [.int .i64 a, .int .i64 b].toArray w (Out w (.int .i64 (cmpI a b))) := by
  refine enterH Tryz.func144 rfl rfl Tryz.ntmps144 rfl (Wd.refl _) ?_
  unfold cmpI
  by_cases h1 : a < b
  · rw [if_pos h1]
    (repeat' (first | (show VH _ _ _ _ _ _ _; first | refine v_seq ?_ | refine r_seq ?_ | refine v_ret ?_ | refine v_skip ?_ | refine v_cond_t rfl tbL ?_ | refine v_cond_f rfl tbL ?_) | (show SH _ _ _ _ _ (_ :: _) _ _ _; first | (show SH _ _ _ _ _ (⟨_, .move _, _, _, _, _⟩ :: _) _ _ _; refine mov evL ?_) | (show SH _ _ _ _ _ (⟨_, .assign _, _, _, _, _⟩ :: _) _ _ _; refine asg evL ?_) | (show SH _ _ _ _ _ (⟨_, .binOp .lss _ _ _ _, _, _, _, _⟩ :: _) _ _ _; refine lssT rfl rfl omD ?_) | (show SH _ _ _ _ _ (⟨_, .call ⟨.value (.func 152), _, _⟩, _, _, _, _⟩ :: _) _ _ _; refine cl (callee := .func 152) rfl (fun w hw => isNaNE_spec _ w) rfl rfl ?_)) | refine s_nil ?_ | refine kh_normal ?_ | refine kh_ret ?_))
    exact rh1 rfl rfl ⟨rfl, rfl⟩ (ent_nil _)
  · rw [if_neg h1]
    by_cases h2 : b < a
    · rw [if_pos h2]
      (repeat' (first | (show VH _ _ _ _ _ _ _; first | refine v_seq ?_ | refine r_seq ?_ | refine v_ret ?_ | refine v_skip ?_ | refine v_cond_t rfl tbL ?_ | refine v_cond_f rfl tbL ?_) | (show SH _ _ _ _ _ (_ :: _) _ _ _; first | (show SH _ _ _ _ _ (⟨_, .move _, _, _, _, _⟩ :: _) _ _ _; refine mov evL ?_) | (show SH _ _ _ _ _ (⟨_, .assign _, _, _, _, _⟩ :: _) _ _ _; refine asg evL ?_) | (show SH _ _ _ _ _ (⟨_, .binOp .lss _ _ _ _, _, _, _, _⟩ :: _) _ _ _; refine lssF rfl rfl omD ?_) | (show SH _ _ _ _ _ (⟨_, .binOp .gtr _ _ _ _, _, _, _, _⟩ :: _) _ _ _; refine gtrT rfl rfl omD ?_) | (show SH _ _ _ _ _ (⟨_, .call ⟨.value (.func 152), _, _⟩, _, _, _, _⟩ :: _) _ _ _; refine cl (callee := .func 152) rfl (fun w hw => isNaNE_spec _ w) rfl rfl ?_)) | refine s_nil ?_ | refine kh_normal ?_ | refine kh_ret ?_))
      exact rh1 rfl rfl ⟨rfl, rfl⟩ (ent_nil _)
    · rw [if_neg h2]
      (repeat' (first | (show VH _ _ _ _ _ _ _; first | refine v_seq ?_ | refine r_seq ?_ | refine v_ret ?_ | refine v_skip ?_ | refine v_cond_f rfl tbL ?_) | (show SH _ _ _ _ _ (_ :: _) _ _ _; first | (show SH _ _ _ _ _ (⟨_, .move _, _, _, _, _⟩ :: _) _ _ _; refine mov evL ?_) | (show SH _ _ _ _ _ (⟨_, .assign _, _, _, _, _⟩ :: _) _ _ _; refine asg evL ?_) | (show SH _ _ _ _ _ (⟨_, .binOp .lss _ _ _ _, _, _, _, _⟩ :: _) _ _ _; refine lssF rfl rfl omD ?_) | (show SH _ _ _ _ _ (⟨_, .binOp .gtr _ _ _ _, _, _, _, _⟩ :: _) _ _ _; refine gtrF rfl rfl omD ?_) | (show SH _ _ _ _ _ (⟨_, .call ⟨.value (.func 152), _, _⟩, _, _, _, _⟩ :: _) _ _ _; refine cl (callee := .func 152) rfl (fun w hw => isNaNE_spec _ w) rfl rfl ?_)) | refine s_nil ?_ | refine kh_normal ?_))
      exact rh1 rfl rfl ⟨rfl, rfl⟩ (ent_nil _)
set_option maxHeartbeats 2000000 in
set_option maxRecDepth 100000 in
theorem binSearchE_spec (A : Option Addr) (l : List EntP) (c1 : Nat) (k : Int) (g0 : FuncId) (fst cap : Array Value) (key : EntP → Int) (w : World) (hl : l.length ≤ 140737488355328) (hr : Rd w A l) (hR : Rising key l)
    (hp : ∀ w', Ext w w' → ∀ x ∈ l, Ret Tryz.prog g0 (fst.toList ++ [Value.agg (Flat.enc x).toArray, Value.int .i64 k] ++ cap.toList).toArray w' (Out w' (.int .i64 (cmpI (key x) k)))) :
    Ret Tryz.prog 142 [.slice A l.length c1, .int .i64 k, .func (.func g0) fst cap].toArray w (Out w (.tuple #[.int .i64 (lbK key k l), .bool (hasK key k l)])) := by
  refine enterH Tryz.func142 rfl rfl Tryz.ntmps142 rfl (Wd.refl _) ?_
  (repeat' (first | (show VH _ _ _ _ _ _ _; first | refine v_seq ?_ | refine r_seq ?_ | refine v_block ?_) | (show SH _ _ _ _ _ (_ :: _) _ _ _; first | (show SH _ _ _ _ _ (⟨_, .move _, _, _, _, _⟩ :: _) _ _ _; refine mov evL ?_) | (show SH _ _ _ _ _ (⟨_, .assign _, _, _, _, _⟩ :: _) _ _ _; refine asg evL ?_) | refine slen rfl ?_) | refine s_nil ?_ | refine kh_normal ?_))
  refine v_loop0 [(9,11),(15,34)] (fun s : Nat × Nat => [(9, .int .i64 s.1), (10, .int .i64 s.2)]) (fun s => s.1 ≤ s.2 ∧ s.2 ≤ l.length ∧ (∀ q, q < s.1 → key (l.getD q Flat.dflt) < k) ∧ (∀ q, s.2 ≤ q → q < l.length → ¬ key (l.getD q Flat.dflt) < k)) (fun s => s.2 - s.1) (0, l.length) hsL ⟨Nat.zero_le _, Nat.le_refl _, fun q h => absurd h (Nat.not_lt_zero q), fun q h1 h2 => by have : l.length ≤ q := h1; omega⟩ ?_
  rintro ⟨i, j⟩ g ⟨hij, hj, h1, h2⟩
  simp only [sets]
  simp only at hij hj h1 h2
  by_cases hlt : i < j
  · obtain ⟨m, hm⟩ : ∃ m : Nat, ((i : Int) + (j : Int)) / 2 = (m : Int) := ⟨(i + j) / 2, by omega⟩
    have hmi : i ≤ m ∧ m < j := by omega
    have hp' := fun w he => hp w he (l.getD m Flat.dflt) (getD_mem (by omega))
    have hcm : cmpI (key (l.getD m Flat.dflt)) k < 0 ↔ key (l.getD m Flat.dflt) < k := by unfold cmpI; split <;> (try split) <;> omega
    by_cases hk : key (l.getD m Flat.dflt) < k
    · have hneg := hcm.2 hk
      have h1' : ∀ q, q < m + 1 → key (l.getD q Flat.dflt) < k := fun q hq => by
        by_cases e : q = m
        · rw [e]; exact hk
        · have := rising_at Flat.dflt hR (show q < m by omega) (by omega); omega
      clear h1 hcm hR hk
      (repeat' ((fail_if_success (show VH _ _ (.seq (.region 5 _ _) _) _ _ _ _)); first | (show VH _ _ _ _ _ _ _; first | refine v_seq ?_ | refine r_seq ?_ | refine v_block ?_ | refine v_skip ?_ | refine v_cond_t rfl tbL ?_) | (show SH _ _ _ _ _ (_ :: _) _ _ _; first | (show SH _ _ _ _ _ (⟨_, .move _, _, _, _, _⟩ :: _) _ _ _; refine mov evL ?_) | (show SH _ _ _ _ _ (⟨_, .assign _, _, _, _, _⟩ :: _) _ _ _; refine asg evL ?_) | (show SH _ _ _ _ _ (⟨_, .binOp .lss _ _ _ _, _, _, _, _⟩ :: _) _ _ _; refine lssT rfl rfl omD ?_) | (show SH _ _ _ _ _ (⟨_, .binOp .add _ _ _ _, _, _, _, _⟩ :: _) _ _ _; refine add rfl rfl inL ?_) | refine sh1 rfl rfl ?_ | (show SH _ _ _ _ _ (⟨_, .convert _ _ _, _, _, _, _⟩ :: _) _ _ _; first | refine c64 rfl inL ?_ | refine cu64 rfl omL omL ?_)) | refine s_nil ?_ | refine kh_normal ?_))
      rw [hm]
      (repeat' (first | (show VH _ _ _ _ _ _ _; first | refine v_seq ?_ | refine r_seq ?_ | refine v_cond_t rfl tbL ?_) | (show SH _ _ _ _ _ (_ :: _) _ _ _; first | (show SH _ _ _ _ _ (⟨_, .move _, _, _, _, _⟩ :: _) _ _ _; refine mov evL ?_) | (show SH _ _ _ _ _ (⟨_, .assign _, _, _, _, _⟩ :: _) _ _ _; refine asg evL ?_) | (show SH _ _ _ _ _ (⟨_, .binOp .lss _ _ _ _, _, _, _, _⟩ :: _) _ _ _; refine lssT rfl rfl omD ?_) | (show SH _ _ _ _ _ (⟨_, .binOp .add _ _ _ _, _, _, _, _⟩ :: _) _ _ _; refine add rfl rfl inL ?_) | (show SH _ _ _ _ _ (⟨_, .load _ _, _, _, _, _⟩ :: _) _ _ _; first | refine lra rfl (fun _ _ => rdX) (by rfl) omL ?_ | refine lra rfl (fun _ _ => rdX) (by rfl) (by simp only [List.length_cons, List.length_nil]; omega) ?_) | (show SH _ _ _ _ _ (⟨_, .indexAddr _ _ _, _, _, _, _⟩ :: _) _ _ _; refine ix rfl rfl (by with_reducible rfl) (fun _ _ => rdX) (by rfl) omL omL ?_) | (show SH _ _ _ _ _ (⟨_, .call ⟨.value (.tmp _), _, _⟩, _, _, _, _⟩ :: _) _ _ _; refine cl (callee := .tmp _) rfl (fun w hw => hp' _ hw.ext) rfl rfl ?_)) | refine s_nil ?_ | refine kh_normal ?_ | refine bh_normal ?_))
      exact ⟨agL, (m + 1, j), hsL, enL, ⟨by show m + 1 ≤ j; omega, hj, h1', h2⟩, by show j - (m + 1) < j - i; omega⟩
    · have hneg : ¬ cmpI (key (l.getD m Flat.dflt)) k < 0 := fun h => hk (hcm.1 h)
      have h2' : ∀ q, m ≤ q → q < l.length → ¬ key (l.getD q Flat.dflt) < k := fun q hq hql => by
        by_cases e : q = m
        · rw [e]; exact hk
        · have := rising_at Flat.dflt hR (show m < q by omega) hql; omega
      clear h2 hcm hR hk
      (repeat' ((fail_if_success (show VH _ _ (.seq (.region 5 _ _) _) _ _ _ _)); first | (show VH _ _ _ _ _ _ _; first | refine v_seq ?_ | refine r_seq ?_ | refine v_block ?_ | refine v_skip ?_ | refine v_cond_t rfl tbL ?_) | (show SH _ _ _ _ _ (_ :: _) _ _ _; first | (show SH _ _ _ _ _ (⟨_, .move _, _, _, _, _⟩ :: _) _ _ _; refine mov evL ?_) | (show SH _ _ _ _ _ (⟨_, .assign _, _, _, _, _⟩ :: _) _ _ _; refine asg evL ?_) | (show SH _ _ _ _ _ (⟨_, .binOp .lss _ _ _ _, _, _, _, _⟩ :: _) _ _ _; refine lssT rfl rfl omD ?_) | (show SH _ _ _ _ _ (⟨_, .binOp .add _ _ _ _, _, _, _, _⟩ :: _) _ _ _; refine add rfl rfl inL ?_) | refine sh1 rfl rfl ?_ | (show SH _ _ _ _ _ (⟨_, .convert _ _ _, _, _, _, _⟩ :: _) _ _ _; first | refine c64 rfl inL ?_ | refine cu64 rfl omL omL ?_)) | refine s_nil ?_ | refine kh_normal ?_))
      rw [hm]
      (repeat' (first | (show VH _ _ _ _ _ _ _; first | refine v_seq ?_ | refine r_seq ?_ | refine v_cond_f rfl tbL ?_) | (show SH _ _ _ _ _ (_ :: _) _ _ _; first | (show SH _ _ _ _ _ (⟨_, .move _, _, _, _, _⟩ :: _) _ _ _; refine mov evL ?_) | (show SH _ _ _ _ _ (⟨_, .assign _, _, _, _, _⟩ :: _) _ _ _; refine asg evL ?_) | (show SH _ _ _ _ _ (⟨_, .binOp .lss _ _ _ _, _, _, _, _⟩ :: _) _ _ _; refine lssF rfl rfl omD ?_) | (show SH _ _ _ _ _ (⟨_, .load _ _, _, _, _, _⟩ :: _) _ _ _; first | refine lra rfl (fun _ _ => rdX) (by rfl) omL ?_ | refine lra rfl (fun _ _ => rdX) (by rfl) (by simp only [List.length_cons, List.length_nil]; omega) ?_) | (show SH _ _ _ _ _ (⟨_, .indexAddr _ _ _, _, _, _, _⟩ :: _) _ _ _; refine ix rfl rfl (by with_reducible rfl) (fun _ _ => rdX) (by rfl) omL omL ?_) | (show SH _ _ _ _ _ (⟨_, .call ⟨.value (.tmp _), _, _⟩, _, _, _, _⟩ :: _) _ _ _; refine cl (callee := .tmp _) rfl (fun w hw => hp' _ hw.ext) rfl rfl ?_)) | refine s_nil ?_ | refine kh_normal ?_ | refine bh_normal ?_))
      exact ⟨agL, (i, m), hsL, enL, ⟨by show i ≤ m; omega, by show m ≤ _; omega, h1, h2'⟩, by show m - i < j - i; omega⟩
  · have hji : i = j := by omega
    subst hji
    have hlb : lbK key k l = i := lbK_eq Flat.dflt key k l i hj h1 (fun h => h2 i (Nat.le_refl _) h)
    unfold hasK
    rw [hlb]
    clear hlb h1 h2 hR
    by_cases hil : i < l.length
    · have hp' := fun w he => hp w he (l.getD i Flat.dflt) (getD_mem hil)
      have hcm : cmpI (key (l.getD i Flat.dflt)) k = 0 ↔ key (l.getD i Flat.dflt) = k := by unfold cmpI; split <;> (try split) <;> omega
      rw [decide_eq_true hil, Bool.true_and]
      by_cases hk : key (l.getD i Flat.dflt) = k
      · have h0 := hcm.2 hk
        rw [decide_eq_true hk]
        clear hcm hk
        (repeat' (first | (show VH _ _ _ _ _ _ _; first | refine v_seq ?_ | refine r_seq ?_ | refine v_ret ?_ | refine v_exit ?_ | refine v_cond_f rfl tbL ?_) | (show SH _ _ _ _ _ (_ :: _) _ _ _; first | (show SH _ _ _ _ _ (⟨_, _, _, _, _, some _⟩ :: _) _ _ _; (refine gif rfl rfl ?_; refine giTT tbL ?_)) | (show SH _ _ _ _ _ (⟨_, .move _, _, _, _, _⟩ :: _) _ _ _; refine mov evL ?_) | (show SH _ _ _ _ _ (⟨_, .assign _, _, _, _, _⟩ :: _) _ _ _; refine asg evL ?_) | (show SH _ _ _ _ _ (⟨_, .binOp .lss _ _ _ _, _, _, _, _⟩ :: _) _ _ _; first | refine lssT rfl rfl omD ?_ | refine lssF rfl rfl omD ?_) | (show SH _ _ _ _ _ (⟨_, .binOp .eql _ _ _ _, _, _, _, _⟩ :: _) _ _ _; refine eqlT rfl rfl omD ?_) | (show SH _ _ _ _ _ (⟨_, .load _ _, _, _, _, _⟩ :: _) _ _ _; first | refine lra rfl (fun _ _ => rdX) (by rfl) omL ?_ | refine lra rfl (fun _ _ => rdX) (by rfl) (by simp only [List.length_cons, List.length_nil]; omega) ?_) | (show SH _ _ _ _ _ (⟨_, .indexAddr _ _ _, _, _, _, _⟩ :: _) _ _ _; refine ix rfl rfl (by with_reducible rfl) (fun _ _ => rdX) (by rfl) omL omL ?_) | (show SH _ _ _ _ _ (⟨_, .call ⟨.value (.tmp _), _, _⟩, _, _, _, _⟩ :: _) _ _ _; refine cl (callee := .tmp _) rfl (fun w hw => hp' _ hw.ext) rfl rfl ?_) | (show SH _ _ _ _ _ (⟨_, .pick _ _ _, _, _, _, _⟩ :: _) _ _ _; refine pkt rfl tbL evL ?_)) | refine s_nil ?_ | refine kh_normal ?_ | refine kh_exit ?_ | refine bh_exit ?_))
        exact rh2 rfl rfl rfl ⟨rfl, rfl⟩ (ent_nil _)
      · have h0 : ¬ cmpI (key (l.getD i Flat.dflt)) k = 0 := fun h => hk (hcm.1 h)
        rw [decide_eq_false hk]
        clear hcm hk
        (repeat' (first | (show VH _ _ _ _ _ _ _; first | refine v_seq ?_ | refine r_seq ?_ | refine v_ret ?_ | refine v_exit ?_ | refine v_cond_f rfl tbL ?_) | (show SH _ _ _ _ _ (_ :: _) _ _ _; first | (show SH _ _ _ _ _ (⟨_, _, _, _, _, some _⟩ :: _) _ _ _; (refine gif rfl rfl ?_; refine giTT tbL ?_)) | (show SH _ _ _ _ _ (⟨_, .move _, _, _, _, _⟩ :: _) _ _ _; refine mov evL ?_) | (show SH _ _ _ _ _ (⟨_, .assign _, _, _, _, _⟩ :: _) _ _ _; refine asg evL ?_) | (show SH _ _ _ _ _ (⟨_, .binOp .lss _ _ _ _, _, _, _, _⟩ :: _) _ _ _; first | refine lssT rfl rfl omD ?_ | refine lssF rfl rfl omD ?_) | (show SH _ _ _ _ _ (⟨_, .binOp .eql _ _ _ _, _, _, _, _⟩ :: _) _ _ _; refine eqlF rfl rfl omD ?_) | (show SH _ _ _ _ _ (⟨_, .load _ _, _, _, _, _⟩ :: _) _ _ _; first | refine lra rfl (fun _ _ => rdX) (by rfl) omL ?_ | refine lra rfl (fun _ _ => rdX) (by rfl) (by simp only [List.length_cons, List.length_nil]; omega) ?_) | (show SH _ _ _ _ _ (⟨_, .indexAddr _ _ _, _, _, _, _⟩ :: _) _ _ _; refine ix rfl rfl (by with_reducible rfl) (fun _ _ => rdX) (by rfl) omL omL ?_) | (show SH _ _ _ _ _ (⟨_, .call ⟨.value (.tmp _), _, _⟩, _, _, _, _⟩ :: _) _ _ _; refine cl (callee := .tmp _) rfl (fun w hw => hp' _ hw.ext) rfl rfl ?_) | (show SH _ _ _ _ _ (⟨_, .pick _ _ _, _, _, _, _⟩ :: _) _ _ _; refine pkt rfl tbL evL ?_)) | refine s_nil ?_ | refine kh_normal ?_ | refine kh_exit ?_ | refine bh_exit ?_))
        exact rh2 rfl rfl rfl ⟨rfl, rfl⟩ (ent_nil _)
    · rw [decide_eq_false hil, Bool.false_and]
      (repeat' (first | (show VH _ _ _ _ _ _ _; first | refine v_seq ?_ | refine r_seq ?_ | refine v_ret ?_ | refine v_exit ?_ | refine v_cond_f rfl tbL ?_) | (show SH _ _ _ _ _ (_ :: _) _ _ _; first | (show SH _ _ _ _ _ (⟨_, _, _, _, _, some _⟩ :: _) _ _ _; (refine gif rfl rfl ?_; refine giTF tbL ?_)) | (show SH _ _ _ _ _ (⟨_, .move _, _, _, _, _⟩ :: _) _ _ _; refine mov evL ?_) | (show SH _ _ _ _ _ (⟨_, .assign _, _, _, _, _⟩ :: _) _ _ _; refine asg evL ?_) | (show SH _ _ _ _ _ (⟨_, .binOp .lss _ _ _ _, _, _, _, _⟩ :: _) _ _ _; refine lssF rfl rfl omD ?_) | (show SH _ _ _ _ _ (⟨_, .pick _ _ _, _, _, _, _⟩ :: _) _ _ _; refine pkf rfl tbL evL ?_)) | refine s_nil ?_ | refine kh_normal ?_ | refine kh_exit ?_ | refine bh_exit ?_))
      exact rh2 rfl rfl rfl ⟨rfl, rfl⟩ (ent_nil _)
end Go.Proofs.YtjefoecnciepmaaGreatDoor

/- Package store: an entity is found, and copied. -/
namespace Go.Proofs.YtjefoecnciepmaaGreatDoor
open Go.Fw Go.RowKit
/-- A function value in memory. -/
structure FnV where
  g : FuncId
  fst : Array Value
  cap : Array Value
instance : Flat FnV := ⟨1, fun x => [.func (.func x.g) x.fst x.cap], ⟨0, #[], #[]⟩, fun _ => rfl, fun x v hv => by simp at hv; subst hv; rfl, by omega⟩
instance : TOne Tryz.prog 140 .nilFunc := ⟨fun w => by kernel_rfl, fun w => by kernel_rfl, fun w => by kernel_rfl, rfl⟩
instance : TOne Tryz.prog 62 .nilFunc := ⟨fun w => by kernel_rfl, fun w => by kernel_rfl, fun w => by kernel_rfl, rfl⟩
set_option maxHeartbeats 1000000 in
set_option maxRecDepth 100000 in
theorem placeE1_spec (x : EntP) (k : Int) (b : Nat) (g0 : FuncId) (fst cap : Array Value) (i : Int) (w : World) (hk : Rd w (some ⟨b, 0, none⟩) [(⟨g0, fst, cap⟩ : FnV)])
    (hp : ∀ w', Ext w w' → Ret Tryz.prog g0 (fst.toList ++ [Value.agg (Flat.enc x).toArray] ++ cap.toList).toArray w' (Out w' (.int .i64 i))) :
    Ret Tryz.prog 143 [.agg (Flat.enc x).toArray, .int .i64 k, .pointer (some ⟨b, 0, none⟩)].toArray w (Out w (.int .i64 (cmpI i k))) := by
  refine enterH Tryz.func143 rfl rfl Tryz.ntmps143 rfl (Wd.refl _) ?_
  (repeat' (first | (show VH _ _ _ _ _ _ _; first | refine v_seq ?_ | refine r_seq ?_ | refine v_ret ?_) | (show SH _ _ _ _ _ (_ :: _) _ _ _; first | (show SH _ _ _ _ _ (⟨_, .move _, _, _, _, _⟩ :: _) _ _ _; refine mov evL ?_) | (show SH _ _ _ _ _ (⟨_, .assign _, _, _, _, _⟩ :: _) _ _ _; refine asg evL ?_) | (show SH _ _ _ _ _ (⟨_, .load _ _, _, _, _, _⟩ :: _) _ _ _; first | refine lba rfl spL (by rfl) ?_ | refine lcs rfl (fun _ _ => rdX) (by rfl) ?_) | (show SH _ _ _ _ _ (⟨_, .call ⟨.value (.tmp _), _, _⟩, _, _, _, _⟩ :: _) _ _ _; refine cl (callee := .tmp _) rfl (fun w hw => hp _ hw.ext) rfl rfl ?_) | (show SH _ _ _ _ _ (⟨_, .call ⟨.value (.func 144), _, _⟩, _, _, _, _⟩ :: _) _ _ _; refine cl (callee := .func 144) rfl (fun w hw => compareE_spec i k w) rfl rfl ?_) | (show SH _ _ _ _ _ (⟨_, .box _ _, _, _, _, _⟩ :: _) _ _ _; refine bxx rfl evL rfl (fun b => ?_))) | refine s_nil ?_ | refine kh_normal ?_))
  exact rh1 rfl rfl ⟨rfl, rfl⟩ (ent_nil _)
set_option maxHeartbeats 1000000 in
set_option maxRecDepth 100000 in
theorem placeE_spec (A : Option Addr) (l : List EntP) (c1 : Nat) (k : Int) (fv : Value) (key : EntP → Int) (w : World) (hl : l.length ≤ 140737488355328) (hr : Rd w A l) (hR : Rising key l) (hp : KeyL w fv l .i64 key) :
    Ret Tryz.prog 106 [.slice A l.length c1, .int .i64 k, fv].toArray w (Out w (.tuple #[.int .i64 (lbK key k l), .bool (hasK key k l)])) := by
  obtain ⟨g0, fst, cap, rfl, hp⟩ := hp
  have hB := fun w' (he : Ext w w') b (hk : Rd w' (some ⟨b, 0, none⟩) [(⟨g0, fst, cap⟩ : FnV)]) => binSearchE_spec A l c1 k 143 #[] #[.pointer (some ⟨b, 0, none⟩)] key w' hl (hr.ext he) hR (fun w'' he' x hx => by
    have := placeE1_spec x k b g0 fst cap (key x) w'' (hk.ext he') (fun w3 he3 => hp w3 ((he.trans he').trans he3) x hx)
    simpa using this)
  clear hp
  refine enterH Tryz.func106 rfl rfl Tryz.ntmps106 rfl (Wd.refl _) ?_
  (repeat' (first | (show VH _ _ _ _ _ _ _; first | refine v_seq ?_ | refine r_seq ?_ | refine v_ret ?_) | (show SH _ _ _ _ _ (_ :: _) _ _ _; first | (show SH _ _ _ _ _ (⟨_, .move _, _, _, _, _⟩ :: _) _ _ _; refine mov evL ?_) | (show SH _ _ _ _ _ (⟨_, .assign _, _, _, _, _⟩ :: _) _ _ _; refine asg evL ?_) | (show SH _ _ _ _ _ (⟨_, .call ⟨.value (.func 142), _, _⟩, _, _, _, _⟩ :: _) _ _ _; refine cl (callee := .func 142) rfl (fun w hw => hB _ hw.ext _ (rd_box hw spL rfl)) rfl rfl ?_) | refine extr rfl rfl ?_ | (show SH _ _ _ _ _ (⟨_, .makeFunc _ _ _, _, _, _, _⟩ :: _) _ _ _; refine mf1 evL ?_) | (show SH _ _ _ _ _ (⟨_, .box _ _, _, _, _, _⟩ :: _) _ _ _; refine bxx rfl evL rfl (fun b => ?_))) | refine s_nil ?_ | refine kh_normal ?_))
  exact rh2 rfl rfl rfl ⟨rfl, rfl⟩ (ent_nil _)
abbrev idE : EntP → Int := fun x => x.e.id
/-- Where an entity is, or would be; whether it is there. -/
def findI (t id : Int) (l : List EntP) : Int := if ValidW t (ents l) then lbK idE id l else 0
def findB (t id : Int) (l : List EntP) : Bool := decide (ValidW t (ents l)) && hasK idE id l
set_option maxHeartbeats 1000000 in
set_option maxRecDepth 100000 in
theorem find_spec (t id : Int) (A : Option Addr) (l : List EntP) (c1 : Nat) (w : World) (hG : Glob w) (hs : Sz l) (hr : RdW w A l) :
    Ret Tryz.prog 65 [wv t A l c1, .int .i64 id].toArray w (Out w (.tuple #[.int .i64 (findI t id l), .bool (findB t id l)])) := by
  have hV := fun w' (he : Ext w w') => valid_spec t A l c1 w' (hG.ext he) hs (hr.ext he)
  unfold findI findB
  unfold wv at hV ⊢
  by_cases hv : ValidW t (ents l)
  · have hP := fun w' (he : Ext w w') => placeE_spec A l c1 id _ idE w' hs.len (hr.1.ext he) ((rising_ents l).1 hv.up) (idOf_key w' l)
    rw [if_pos hv]
    rw [decide_eq_true hv] at hV ⊢
    rw [Bool.true_and]
    clear hv
    generalize lbK idE id l = i at hP ⊢
    generalize hasK idE id l = q at hP ⊢
    refine enterH Tryz.func65 rfl rfl Tryz.ntmps65 rfl (Wd.refl _) ?_
    (repeat' (first | (show VH _ _ _ _ _ _ _; first | refine v_seq ?_ | refine r_seq ?_ | refine v_ret ?_ | refine v_skip ?_ | refine v_cond_f rfl tbL ?_) | (show SH _ _ _ _ _ (_ :: _) _ _ _; first | (show SH _ _ _ _ _ (⟨_, .move _, _, _, _, _⟩ :: _) _ _ _; refine mov evL ?_) | (show SH _ _ _ _ _ (⟨_, .assign _, _, _, _, _⟩ :: _) _ _ _; refine asg evL ?_) | (show SH _ _ _ _ _ (⟨_, .load _ _, _, _, _, _⟩ :: _) _ _ _; first | refine lbx rfl spL (by rfl) ?_ | refine lba rfl spL (by rfl) ?_) | (show SH _ _ _ _ _ (⟨_, .call ⟨.value (.func 51), _, _⟩, _, _, _, _⟩ :: _) _ _ _; refine cl (callee := .func 51) rfl (fun w hw => hV _ hw.ext) rfl rfl ?_) | (show SH _ _ _ _ _ (⟨_, .call ⟨.value (.func 106), _, _⟩, _, _, _, _⟩ :: _) _ _ _; refine cl (callee := .func 106) rfl (fun w hw => hP _ hw.ext) rfl rfl ?_) | refine bnoT rfl ?_ | refine extr rfl rfl ?_ | refine fad rfl ?_ | (show SH _ _ _ _ _ (⟨_, .box _ _, _, _, _, _⟩ :: _) _ _ _; refine bxx rfl evL rfl (fun b => ?_))) | refine s_nil ?_ | refine kh_normal ?_))
    exact rh2 rfl rfl rfl ⟨rfl, rfl⟩ (ent_nil _)
  · rw [if_neg hv]
    rw [decide_eq_false hv] at hV ⊢
    rw [Bool.false_and]
    clear hv
    refine enterH Tryz.func65 rfl rfl Tryz.ntmps65 rfl (Wd.refl _) ?_
    (repeat' (first | (show VH _ _ _ _ _ _ _; first | refine v_seq ?_ | refine r_seq ?_ | refine v_ret ?_ | refine v_cond_t rfl tbL ?_) | (show SH _ _ _ _ _ (_ :: _) _ _ _; first | (show SH _ _ _ _ _ (⟨_, .assign _, _, _, _, _⟩ :: _) _ _ _; refine asg evL ?_) | (show SH _ _ _ _ _ (⟨_, .load _ _, _, _, _, _⟩ :: _) _ _ _; refine lba rfl spL (by rfl) ?_) | (show SH _ _ _ _ _ (⟨_, .call ⟨.value (.func 51), _, _⟩, _, _, _, _⟩ :: _) _ _ _; refine cl (callee := .func 51) rfl (fun w hw => hV _ hw.ext) rfl rfl ?_) | refine bnoF rfl ?_ | (show SH _ _ _ _ _ (⟨_, .box _ _, _, _, _, _⟩ :: _) _ _ _; refine bxx rfl evL rfl (fun b => ?_))) | refine s_nil ?_ | refine kh_normal ?_ | refine kh_ret ?_))
    exact rh2 rfl rfl rfl ⟨rfl, rfl⟩ (ent_nil _)
set_option maxHeartbeats 1000000 in
set_option maxRecDepth 100000 in
theorem cloneC_spec (A : Option Addr) (l : List Comp) (c1 : Nat) (w : World) (hl : l.length ≤ 1000000) (hr : Rd w A l) :
    Ret Tryz.prog 107 [.slice A l.length c1].toArray w (RP w (Fresh 37 l)) := by
  cases A with
  | none =>
    have := hr.none
    subst this
    refine enterH Tryz.func107 rfl rfl Tryz.ntmps107 rfl (Wd.refl _) ?_
    (repeat' (first | (show VH _ _ _ _ _ _ _; first | refine v_seq ?_ | refine r_seq ?_ | refine v_ret ?_ | refine v_cond_t rfl tbL ?_) | (show SH _ _ _ _ _ (_ :: _) _ _ _; first | (show SH _ _ _ _ _ (⟨_, .move _, _, _, _, _⟩ :: _) _ _ _; refine mov evL ?_) | (show SH _ _ _ _ _ (⟨_, .assign _, _, _, _, _⟩ :: _) _ _ _; refine asg evL ?_) | refine eqn rfl rfl ?_) | refine s_nil ?_ | refine kh_normal ?_ | refine kh_ret ?_))
    exact rh1 rfl rfl ⟨none, 0, rfl, rfl⟩ (ent_nilrow (ent_nil _))
  | some a =>
    refine enterH Tryz.func107 rfl rfl Tryz.ntmps107 rfl (Wd.refl _) ?_
    (repeat' (first | (show VH _ _ _ _ _ _ _; first | refine v_seq ?_ | refine r_seq ?_ | refine v_skip ?_ | refine v_cond_f rfl tbL ?_) | (show SH _ _ _ _ _ (_ :: _) _ _ _; first | (show SH _ _ _ _ _ (⟨_, .move _, _, _, _, _⟩ :: _) _ _ _; refine mov evL ?_) | (show SH _ _ _ _ _ (⟨_, .assign _, _, _, _, _⟩ :: _) _ _ _; refine asg evL ?_) | refine eqn rfl rfl ?_) | refine s_nil ?_ | refine kh_normal ?_))
    refine bsl (l := ([] : List Comp)) rfl rfl Vals.nil rfl rfl (by decide) (fun b => ?_)
    (repeat' ((show SH _ _ _ _ _ (_ :: _) _ _ _; (show SH _ _ _ _ _ (⟨_, .move _, _, _, _, _⟩ :: _) _ _ _; refine mov evL ?_))))
    refine app rfl rfl rfl spL (fun _ _ => rdX) rfl rfl rfl (by simp only [List.length_nil]; omega) (by simp only [List.length_nil]; omega) (fun A' cp' => ⟨trivial, ?_⟩)
    (repeat' (first | refine v_ret ?_ | (show SH _ _ _ _ _ (_ :: _) _ _ _; (show SH _ _ _ _ _ (⟨_, .assign _, _, _, _, _⟩ :: _) _ _ _; refine asg evL ?_)) | refine s_nil ?_ | refine kh_normal ?_))
    exact rh1 rfl rfl ⟨A', cp', rfl, rfl⟩ enL
/-- A copy of an entity in memory of its own. -/
def OwnR (e : Ent1) (v : Value) (H : List HP) : Prop := ∃ A c, v = .agg #[.int .i64 e.id, .slice A e.comps.length c] ∧ H = [orow 37 A c e.comps]
set_option maxHeartbeats 1000000 in
set_option maxRecDepth 100000 in
theorem own_spec (x : EntP) (w : World) (hl : x.e.comps.length ≤ 1000000) (hr : Rd w x.A x.e.comps) : Ret Tryz.prog 66 [.agg (Flat.enc x).toArray].toArray w (RP w (OwnR x.e)) := by
  have hC := fun w' (he : Ext w w') => cloneC_spec x.A x.e.comps x.cp w' hl (hr.ext he)
  obtain ⟨⟨id, cs⟩, A, c1⟩ := x
  unfold OwnR
  try simp only at hC hr hl ⊢
  rw [show Flat.enc (⟨⟨id, cs⟩, A, c1⟩ : EntP) = [.int .i64 id, .slice A cs.length c1] from rfl] at *
  refine enterH Tryz.func66 rfl rfl Tryz.ntmps66 rfl (Wd.refl _) ?_
  (repeat' (first | (show VH _ _ _ _ _ _ _; first | refine v_seq ?_ | refine r_seq ?_) | (show SH _ _ _ _ _ (_ :: _) _ _ _; first | refine ala rfl (fun b => ?_) | (show SH _ _ _ _ _ (⟨_, .box _ _, _, _, _, _⟩ :: _) _ _ _; refine bxx rfl evL rfl (fun b => ?_))) | refine s_nil ?_ | refine kh_normal ?_))
  rename_i b2
  refine r_heldT [bx b2 31 _] (tr [(0, true), (1, true), (2, false), (3, false), (4, false), (5, false), (6, false)] .nil) hmix (by kernel_rfl) enL ?_
  (repeat' ((show SH _ _ _ _ _ (_ :: _) _ _ _; first | (show SH _ _ _ _ _ (⟨_, .load _ _, _, _, _, _⟩ :: _) _ _ _; refine lbx rfl spL (by rfl) ?_) | (show SH _ _ _ _ _ (⟨_, .call ⟨.value (.func 107), _, _⟩, _, _, _, _⟩ :: _) _ _ _; refine cp (callee := .func 107) rfl (fun w hw => hC _ hw.ext) rfl rfl ?_) | refine fad rfl ?_)))
  rintro _ _ ⟨A1, c2, rfl, rfl⟩
  (repeat' (first | refine v_ret ?_ | (show SH _ _ _ _ _ (_ :: _) _ _ _; first | refine bld rfl rfl ?_ | (show SH _ _ _ _ _ (⟨_, .store _ _ _, _, _, _, _⟩ :: _) _ _ _; refine sta rfl rfl rfl spL (by rfl) (by rfl) (by rfl) kpL ?_)) | refine s_nil ?_ | refine kh_normal ?_))
  exact rhC rfl rfl rfl (fun w hw => loadVar_bx hw spL (by rfl)) ⟨A1, c2, rfl, rfl⟩ enL
/-- What Entity gives. -/
def EntityR (t id : Int) (l : List EntP) (v : Value) (H : List HP) : Prop :=
  if findB t id l = true then ∃ A c, v = .tuple #[.agg #[.int .i64 id, .slice A (l.getD (lbK idE id l) Flat.dflt).e.comps.length c], .bool true] ∧ H = [orow 37 A c (l.getD (lbK idE id l) Flat.dflt).e.comps]
  else v = .tuple #[.agg #[.int .i64 0, .slice none 0 0], .bool false] ∧ H = []
set_option maxHeartbeats 1000000 in
set_option maxRecDepth 100000 in
theorem entity_spec (t id : Int) (A : Option Addr) (l : List EntP) (c1 : Nat) (w : World) (hG : Glob w) (hs : Sz l) (hse : ∀ x ∈ l, x.e.comps.length ≤ 1000000) (hr : RdW w A l) :
    Ret Tryz.prog 38 [wv t A l c1, .int .i64 id].toArray w (RP w (EntityR t id l)) := by
  have hF := fun w' (he : Ext w w') => find_spec t id A l c1 w' (hG.ext he) hs (hr.ext he)
  unfold EntityR
  unfold wv at hF ⊢
  cases hb : findB t id l with
  | false =>
    rw [hb] at hF
    simp only [Bool.false_eq_true, if_false]
    generalize findI t id l = i at hF
    refine enterH Tryz.func38 rfl rfl Tryz.ntmps38 rfl (Wd.refl _) ?_
    (repeat' (first | (show VH _ _ _ _ _ _ _; first | refine v_seq ?_ | refine r_seq ?_ | refine v_ret ?_ | refine v_cond_t rfl tbL ?_) | (show SH _ _ _ _ _ (_ :: _) _ _ _; first | (show SH _ _ _ _ _ (⟨_, .move _, _, _, _, _⟩ :: _) _ _ _; refine mov evL ?_) | (show SH _ _ _ _ _ (⟨_, .assign _, _, _, _, _⟩ :: _) _ _ _; refine asg evL ?_) | (show SH _ _ _ _ _ (⟨_, .load _ _, _, _, _, _⟩ :: _) _ _ _; refine lba rfl spL (by rfl) ?_) | (show SH _ _ _ _ _ (⟨_, .call ⟨.value (.func 65), _, _⟩, _, _, _, _⟩ :: _) _ _ _; refine cl (callee := .func 65) rfl (fun w hw => hF _ hw.ext) rfl rfl ?_) | refine bnoF rfl ?_ | refine extr rfl rfl ?_ | refine bld rfl rfl ?_ | refine ala rfl (fun b => ?_) | (show SH _ _ _ _ _ (⟨_, .box _ _, _, _, _, _⟩ :: _) _ _ _; refine bxx rfl evL rfl (fun b => ?_)) | (show SH _ _ _ _ _ (⟨_, .store _ _ _, _, _, _, _⟩ :: _) _ _ _; refine sta rfl rfl rfl spL (by rfl) (by rfl) (by rfl) kpL ?_)) | refine s_nil ?_ | refine kh_normal ?_ | refine kh_ret ?_))
    exact rhC2 rfl rfl rfl rfl (fun w hw => loadVar_bx hw spL (by rfl)) ⟨rfl, rfl⟩ (ent_nil _)
  | true =>
    rw [hb] at hF
    simp only [if_true]
    unfold findB hasK at hb
    simp only [Bool.and_eq_true, decide_eq_true_eq] at hb
    obtain ⟨hv, hlt, hid⟩ := hb
    unfold findI at hF
    rw [if_pos hv] at hF
    have hx := getD_mem (d := Flat.dflt) hlt
    have hO := fun w' (he : Ext w w') => own_spec (l.getD (lbK idE id l) Flat.dflt) w' (hse _ hx) ((hr.2 _ hx).ext he)
    unfold OwnR at hO
    have hid' : (l.getD (lbK idE id l) Flat.dflt).e.id = id := hid
    rw [hid'] at hO
    have hr1 := hr.1
    generalize lbK idE id l = i at hF hlt hO hx ⊢
    clear hid hid' hv hx
    refine enterH Tryz.func38 rfl rfl Tryz.ntmps38 rfl (Wd.refl _) ?_
    (repeat' (first | (show VH _ _ _ _ _ _ _; first | refine v_seq ?_ | refine r_seq ?_ | refine v_skip ?_ | refine v_cond_f rfl tbL ?_) | (show SH _ _ _ _ _ (_ :: _) _ _ _; first | (show SH _ _ _ _ _ (⟨_, .move _, _, _, _, _⟩ :: _) _ _ _; refine mov evL ?_) | (show SH _ _ _ _ _ (⟨_, .assign _, _, _, _, _⟩ :: _) _ _ _; refine asg evL ?_) | (show SH _ _ _ _ _ (⟨_, .load _ _, _, _, _, _⟩ :: _) _ _ _; first | refine lbx rfl spL (by rfl) ?_ | refine lba rfl spL (by rfl) ?_ | refine lra rfl (fun _ _ => rdX) (by rfl) omL ?_ | refine lra rfl (fun _ _ => rdX) (by rfl) (by simp only [List.length_cons, List.length_nil]; omega) ?_) | (show SH _ _ _ _ _ (⟨_, .indexAddr _ _ _, _, _, _, _⟩ :: _) _ _ _; refine ix rfl rfl (by with_reducible rfl) (fun _ _ => rdX) (by rfl) omL omL ?_) | (show SH _ _ _ _ _ (⟨_, .call ⟨.value (.func 65), _, _⟩, _, _, _, _⟩ :: _) _ _ _; refine cl (callee := .func 65) rfl (fun w hw => hF _ hw.ext) rfl rfl ?_) | (show SH _ _ _ _ _ (⟨_, .call ⟨.value (.func 66), _, _⟩, _, _, _, _⟩ :: _) _ _ _; refine cp (callee := .func 66) rfl (fun w hw => hO _ hw.ext) rfl rfl ?_) | refine bnoT rfl ?_ | refine extr rfl rfl ?_ | refine fad rfl ?_ | refine ala rfl (fun b => ?_) | (show SH _ _ _ _ _ (⟨_, .box _ _, _, _, _, _⟩ :: _) _ _ _; refine bxx rfl evL rfl (fun b => ?_))) | refine s_nil ?_ | refine kh_normal ?_))
    rintro _ _ ⟨A1, c2, rfl, rfl⟩
    (repeat' (first | refine v_ret ?_ | (show SH _ _ _ _ _ (_ :: _) _ _ _; first | (show SH _ _ _ _ _ (⟨_, .assign _, _, _, _, _⟩ :: _) _ _ _; refine asg evL ?_) | (show SH _ _ _ _ _ (⟨_, .store _ _ _, _, _, _, _⟩ :: _) _ _ _; refine sta rfl rfl rfl spL (by rfl) (by rfl) (by rfl) kpL ?_)) | refine s_nil ?_ | refine kh_normal ?_))
    exact rhC2 rfl rfl rfl rfl (fun w hw => loadVar_bx hw spL (by rfl)) ⟨A1, c2, rfl, rfl⟩ enL
end Go.Proofs.YtjefoecnciepmaaGreatDoor

/- Package interest: Own, Visible, Sees, Watchers. -/
namespace Go.Proofs.YtjefoecnciepmaaGreatDoor
open Go.Fw Go.RowKit
set_option maxHeartbeats 1000000 in
set_option maxRecDepth 100000 in
theorem idsFun (w : World) (b : Nat) (g0 : FuncId) (fst cap : Array Value) (bb : EntP → Bool) (l : List EntP) (hk : Rd w (some ⟨b, 0, none⟩) [(⟨g0, fst, cap⟩ : FnV)])
    (hp : ∀ w', Ext w w' → ∀ x ∈ l, Ret Tryz.prog g0 (fst.toList ++ [Value.agg (Flat.enc x).toArray] ++ cap.toList).toArray w' (Out w' (.bool (bb x)))) :
    Fun1 Tryz.prog w (.func (.func 56) #[] #[.pointer (some ⟨b, 0, none⟩)]) (fun x : EntP => .agg (Flat.enc x).toArray) (fun x => .tuple #[.int .i64 (idE x), .bool (bb x)]) (· ∈ l) := fun1_cap fun w' he x hx => by
  have hp' := fun w'' (he' : Ext w' w'') => hp w'' (he.trans he') x hx
  have hk' := hk.ext he
  generalize bb x = q at hp' ⊢
  refine enterH Tryz.func56 rfl rfl Tryz.ntmps56 rfl (Wd.refl _) ?_
  (repeat' (first | (show VH _ _ _ _ _ _ _; first | refine v_seq ?_ | refine r_seq ?_ | refine r_quiet hmix (by kernel_rfl) ?_ | refine v_ret ?_) | (show SH _ _ _ _ _ (_ :: _) _ _ _; first | (show SH _ _ _ _ _ (⟨_, .assign _, _, _, _, _⟩ :: _) _ _ _; refine asg evL ?_) | (show SH _ _ _ _ _ (⟨_, .load _ _, _, _, _, _⟩ :: _) _ _ _; first | refine lbx rfl spL (by rfl) ?_ | refine lba rfl spL (by rfl) ?_ | refine lcs rfl (fun _ _ => rdX) (by rfl) ?_) | (show SH _ _ _ _ _ (⟨_, .call ⟨.value (.tmp _), _, _⟩, _, _, _, _⟩ :: _) _ _ _; refine cl (callee := .tmp _) rfl (fun w hw => hp' _ hw.ext) rfl rfl ?_) | refine fad rfl ?_ | (show SH _ _ _ _ _ (⟨_, .box _ _, _, _, _, _⟩ :: _) _ _ _; refine bxx rfl evL rfl (fun b => ?_))) | refine s_nil ?_ | refine kh_normal ?_))
  exact rh2 rfl rfl rfl ⟨rfl, rfl⟩ (ent_nil _)
set_option maxHeartbeats 1000000 in
set_option maxRecDepth 100000 in
theorem ids_spec (t : Int) (A : Option Addr) (l : List EntP) (c1 : Nat) (fv : Value) (bb : EntP → Bool) (w : World) (hl : l.length ≤ 1000000) (hr : Rd w A l) (hp : AsksL w fv l bb) :
    Ret Tryz.prog 32 [wv t A l c1, fv].toArray w (RP w (Fresh 3 ((l.filter bb).map idE))) := by
  obtain ⟨g0, fst, cap, rfl, hp⟩ := hp
  have hF := fun w' (he : Ext w w') b hk => filterI_spec A l c1 _ idE bb w' hl (hr.ext he) (idsFun w' b g0 fst cap bb l hk (fun w'' he' x hx => hp w'' (he.trans he') x hx))
  unfold wv
  clear hp
  generalize (l.filter bb).map idE = L at hF ⊢
  refine enterH Tryz.func32 rfl rfl Tryz.ntmps32 rfl (Wd.refl _) ?_
  (repeat' (first | (show VH _ _ _ _ _ _ _; first | refine v_seq ?_ | refine r_seq ?_) | (show SH _ _ _ _ _ (_ :: _) _ _ _; first | (show SH _ _ _ _ _ (⟨_, .assign _, _, _, _, _⟩ :: _) _ _ _; refine asg evL ?_) | (show SH _ _ _ _ _ (⟨_, .load _ _, _, _, _, _⟩ :: _) _ _ _; refine lbx rfl spL (by rfl) ?_) | (show SH _ _ _ _ _ (⟨_, .call ⟨.value (.func 55), _, _⟩, _, _, _, _⟩ :: _) _ _ _; refine cp (callee := .func 55) rfl (fun w hw => hF _ hw.ext _ (rd_box hw spL rfl)) rfl rfl ?_) | refine fad rfl ?_ | (show SH _ _ _ _ _ (⟨_, .makeFunc _ _ _, _, _, _, _⟩ :: _) _ _ _; refine mf1 evL ?_) | (show SH _ _ _ _ _ (⟨_, .box _ _, _, _, _, _⟩ :: _) _ _ _; refine bxx rfl evL rfl (fun b => ?_))) | refine s_nil ?_ | refine kh_normal ?_))
  rintro _ _ ⟨A1, c2, rfl, rfl⟩
  (repeat' (first | refine v_ret ?_ | (show SH _ _ _ _ _ (_ :: _) _ _ _; (show SH _ _ _ _ _ (⟨_, .assign _, _, _, _, _⟩ :: _) _ _ _; refine asg evL ?_)) | refine s_nil ?_ | refine kh_normal ?_))
  exact rh1 rfl rfl ⟨A1, c2, rfl, rfl⟩ enL
/-- May a client look at a world? -/
abbrev OkI (ct t : Int) (es : List Ent1) : Prop := (1 ≤ ct ∧ ct ≤ 8) ∧ ValidW t es
def errI (ct t : Int) (es : List Ent1) : Int := if OkI ct t es then 0 else 2
def ownL (ct t : Int) (es : List Ent1) : List Int := if OkI ct t es then (es.filter (ownsE ct)).map Ent1.id else []
def visL (ct t : Int) (es : List Ent1) : List Int := if OkI ct t es then (es.filter (seesE ct.toNat (ptsE ct es))).map Ent1.id else []
theorem ids_ents (b : Ent1 → Bool) (l : List EntP) : (l.filter fun x => b x.e).map idE = ((ents l).filter b).map Ent1.id := by
  unfold ents
  rw [List.filter_map, List.map_map]; rfl
theorem pts_len (ct : Int) (es : List Ent1) : (ptsE ct es).length ≤ es.length := by
  unfold ptsE
  rw [List.length_map]
  exact List.length_filter_le _ _
theorem ents_len (l : List EntP) : (ents l).length = l.length := by simp [ents]
set_option maxHeartbeats 1000000 in
set_option maxRecDepth 100000 in
theorem ownI_spec (ct t : Int) (A : Option Addr) (l : List EntP) (c1 : Nat) (w : World) (hG : Glob w) (hs : Sz l) (hr : RdW w A l) :
    Ret Tryz.prog 13 [wv t A l c1, .int .i64 ct].toArray w (RP w (FreshE 3 (ownL ct t (ents l)) (errI ct t (ents l)))) := by
  have hO := fun w' (he : Ext w w') => open_spec ct t A l c1 w' (hG.ext he) hs (hr.ext he)
  unfold OpenR at hO
  unfold ownL errI
  by_cases hv : OkI ct t (ents l)
  · simp only [if_pos hv] at hO ⊢
    have hl : l.length ≤ 64 := by have := hv.2.len; rwa [ents_len] at this
    have hI := fun w' (he : Ext w w') A1 m1 c2 => ids_spec t A l c1 (.func (.func 33) #[.agg #[.int .i64 ct, .slice A1 m1 c2]] #[]) (fun x => ownsE ct x.e) w' (by omega) (hr.1.ext he)
      (fun1_fst fun w'' he' x hx => owns_spec ct A1 m1 c2 x w'' (hs.el x hx) ((hr.2 x hx).ext (he.trans he')))
    rw [ids_ents (ownsE ct) l] at hI
    generalize ((ents l).filter (ownsE ct)).map Ent1.id = L at hI ⊢
    generalize ptsE ct (ents l) = ps at hO
    clear hv
    unfold wv at *
    refine enterH Tryz.func13 rfl rfl Tryz.ntmps13 rfl (Wd.refl _) ?_
    (repeat' (first | (show VH _ _ _ _ _ _ _; first | refine v_seq ?_ | refine r_seq ?_) | (show SH _ _ _ _ _ (_ :: _) _ _ _; first | (show SH _ _ _ _ _ (⟨_, .move _, _, _, _, _⟩ :: _) _ _ _; refine mov evL ?_) | (show SH _ _ _ _ _ (⟨_, .assign _, _, _, _, _⟩ :: _) _ _ _; refine asg evL ?_) | (show SH _ _ _ _ _ (⟨_, .load _ _, _, _, _, _⟩ :: _) _ _ _; refine lba rfl spL (by rfl) ?_) | (show SH _ _ _ _ _ (⟨_, .call ⟨.value (.func 31), _, _⟩, _, _, _, _⟩ :: _) _ _ _; refine cp (callee := .func 31) rfl (fun w hw => hO _ hw.ext) rfl rfl ?_) | (show SH _ _ _ _ _ (⟨_, .box _ _, _, _, _, _⟩ :: _) _ _ _; refine bxx rfl evL rfl (fun b => ?_))) | refine s_nil ?_ | refine kh_normal ?_))
    rintro _ _ ⟨A1, c2, rfl, rfl⟩
    (repeat' (first | (show VH _ _ _ _ _ _ _; first | refine v_seq ?_ | refine r_seq ?_ | refine v_skip ?_ | refine v_cond_f rfl tbL ?_) | (show SH _ _ _ _ _ (_ :: _) _ _ _; first | (show SH _ _ _ _ _ (⟨_, .move _, _, _, _, _⟩ :: _) _ _ _; refine mov evL ?_) | (show SH _ _ _ _ _ (⟨_, .assign _, _, _, _, _⟩ :: _) _ _ _; refine asg evL ?_) | (show SH _ _ _ _ _ (⟨_, .binOp .neq _ _ _ _, _, _, _, _⟩ :: _) _ _ _; refine neqF rfl rfl omD ?_) | (show SH _ _ _ _ _ (⟨_, .load _ _, _, _, _, _⟩ :: _) _ _ _; refine lba rfl spL (by rfl) ?_) | (show SH _ _ _ _ _ (⟨_, .call ⟨.value (.func 32), _, _⟩, _, _, _, _⟩ :: _) _ _ _; refine cp (callee := .func 32) rfl (fun w hw => hI _ hw.ext A1 _ c2) rfl rfl ?_) | refine extr rfl rfl ?_ | (show SH _ _ _ _ _ (⟨_, .makeFunc _ _ _, _, _, _, _⟩ :: _) _ _ _; refine mfb evL ?_) | refine ala rfl (fun b => ?_) | (show SH _ _ _ _ _ (⟨_, .store _ _ _, _, _, _, _⟩ :: _) _ _ _; refine sta rfl rfl rfl spL (by rfl) (by rfl) (by rfl) kpL ?_)) | refine s_nil ?_ | refine kh_normal ?_))
    rintro _ _ ⟨A2, c3, rfl, rfl⟩
    (repeat' (first | refine v_ret ?_ | (show SH _ _ _ _ _ (_ :: _) _ _ _; (show SH _ _ _ _ _ (⟨_, .assign _, _, _, _, _⟩ :: _) _ _ _; refine asg evL ?_)) | refine s_nil ?_ | refine kh_normal ?_))
    exact rh2 rfl rfl rfl ⟨A2, c3, rfl, rfl⟩ enL
  · simp only [if_neg hv] at hO ⊢
    clear hv
    unfold wv at *
    refine enterH Tryz.func13 rfl rfl Tryz.ntmps13 rfl (Wd.refl _) ?_
    (repeat' (first | (show VH _ _ _ _ _ _ _; first | refine v_seq ?_ | refine r_seq ?_) | (show SH _ _ _ _ _ (_ :: _) _ _ _; first | (show SH _ _ _ _ _ (⟨_, .move _, _, _, _, _⟩ :: _) _ _ _; refine mov evL ?_) | (show SH _ _ _ _ _ (⟨_, .assign _, _, _, _, _⟩ :: _) _ _ _; refine asg evL ?_) | (show SH _ _ _ _ _ (⟨_, .load _ _, _, _, _, _⟩ :: _) _ _ _; refine lba rfl spL (by rfl) ?_) | (show SH _ _ _ _ _ (⟨_, .call ⟨.value (.func 31), _, _⟩, _, _, _, _⟩ :: _) _ _ _; refine cp (callee := .func 31) rfl (fun w hw => hO _ hw.ext) rfl rfl ?_) | (show SH _ _ _ _ _ (⟨_, .box _ _, _, _, _, _⟩ :: _) _ _ _; refine bxx rfl evL rfl (fun b => ?_))) | refine s_nil ?_ | refine kh_normal ?_))
    rintro _ _ ⟨rfl, rfl⟩
    (repeat' (first | (show VH _ _ _ _ _ _ _; first | refine v_seq ?_ | refine r_seq ?_ | refine v_ret ?_ | refine v_cond_t rfl tbL ?_) | (show SH _ _ _ _ _ (_ :: _) _ _ _; first | (show SH _ _ _ _ _ (⟨_, .move _, _, _, _, _⟩ :: _) _ _ _; refine mov evL ?_) | (show SH _ _ _ _ _ (⟨_, .assign _, _, _, _, _⟩ :: _) _ _ _; refine asg evL ?_) | (show SH _ _ _ _ _ (⟨_, .binOp .neq _ _ _ _, _, _, _, _⟩ :: _) _ _ _; refine neqT rfl rfl omD ?_) | refine extr rfl rfl ?_ | refine ala rfl (fun b => ?_) | (show SH _ _ _ _ _ (⟨_, .store _ _ _, _, _, _, _⟩ :: _) _ _ _; refine sta rfl rfl rfl spL (by rfl) (by rfl) (by rfl) kpL ?_)) | refine s_nil ?_ | refine kh_normal ?_ | refine kh_ret ?_))
    exact rh2 rfl rfl rfl ⟨none, 0, rfl, rfl⟩ (ent_nilrow (ent_nil _))
set_option maxHeartbeats 1000000 in
set_option maxRecDepth 100000 in
theorem visI_spec (ct t : Int) (A : Option Addr) (l : List EntP) (c1 : Nat) (w : World) (hG : Glob w) (hs : Sz l) (hr : RdW w A l) :
    Ret Tryz.prog 15 [wv t A l c1, .int .i64 ct].toArray w (RP w (FreshE 3 (visL ct t (ents l)) (errI ct t (ents l)))) := by
  have hO := fun w' (he : Ext w w') => open_spec ct t A l c1 w' (hG.ext he) hs (hr.ext he)
  unfold OpenR at hO
  unfold visL errI
  by_cases hv : OkI ct t (ents l)
  · simp only [if_pos hv] at hO ⊢
    obtain ⟨⟨hc1, hc8⟩, hV⟩ := hv
    obtain ⟨cn, rfl⟩ : ∃ cn : Nat, ct = (cn : Int) := ⟨ct.toNat, by omega⟩
    rw [Int.toNat_natCast]
    have hl : l.length ≤ 64 := by have := hV.len; rwa [ents_len] at this
    have hin := pts_in (cl := (cn : Int)) hV.right
    have hpl := pts_len (cn : Int) (ents l)
    rw [ents_len] at hpl
    have hRE : ∀ x ∈ l, RightE x.e := fun x hx => hV.right _ (List.mem_map_of_mem hx)
    clear hV
    generalize ptsE (cn : Int) (ents l) = ps at hO hin hpl ⊢
    have hI := fun w' (he : Ext w w') A1 c2 (hps : Rd w' A1 ps) => ids_spec t A l c1 (.func (.func 36) #[.agg #[.int .i64 (cn : Int), .slice A1 ps.length c2]] #[]) (fun x => seesE cn ps x.e) w' (by omega) (hr.1.ext he)
      (fun1_fst fun w'' he' x hx => sees_spec cn (by omega) A1 ps c2 x w'' (hs.el x hx) ((hr.2 x hx).ext (he.trans he')) (hRE x hx) (hps.ext he') hin (by omega))
    rw [ids_ents (seesE cn ps) l] at hI
    generalize ((ents l).filter (seesE cn ps)).map Ent1.id = L at hI ⊢
    clear hin hRE
    unfold wv at *
    refine enterH Tryz.func15 rfl rfl Tryz.ntmps15 rfl (Wd.refl _) ?_
    (repeat' (first | (show VH _ _ _ _ _ _ _; first | refine v_seq ?_ | refine r_seq ?_) | (show SH _ _ _ _ _ (_ :: _) _ _ _; first | (show SH _ _ _ _ _ (⟨_, .move _, _, _, _, _⟩ :: _) _ _ _; refine mov evL ?_) | (show SH _ _ _ _ _ (⟨_, .assign _, _, _, _, _⟩ :: _) _ _ _; refine asg evL ?_) | (show SH _ _ _ _ _ (⟨_, .load _ _, _, _, _, _⟩ :: _) _ _ _; refine lba rfl spL (by rfl) ?_) | (show SH _ _ _ _ _ (⟨_, .call ⟨.value (.func 31), _, _⟩, _, _, _, _⟩ :: _) _ _ _; refine cp (callee := .func 31) rfl (fun w hw => hO _ hw.ext) rfl rfl ?_) | (show SH _ _ _ _ _ (⟨_, .box _ _, _, _, _, _⟩ :: _) _ _ _; refine bxx rfl evL rfl (fun b => ?_))) | refine s_nil ?_ | refine kh_normal ?_))
    rintro _ _ ⟨A1, c2, rfl, rfl⟩
    (repeat' (first | (show VH _ _ _ _ _ _ _; first | refine v_seq ?_ | refine r_seq ?_ | refine v_skip ?_ | refine v_cond_f rfl tbL ?_) | (show SH _ _ _ _ _ (_ :: _) _ _ _; first | (show SH _ _ _ _ _ (⟨_, .move _, _, _, _, _⟩ :: _) _ _ _; refine mov evL ?_) | (show SH _ _ _ _ _ (⟨_, .assign _, _, _, _, _⟩ :: _) _ _ _; refine asg evL ?_) | (show SH _ _ _ _ _ (⟨_, .binOp .neq _ _ _ _, _, _, _, _⟩ :: _) _ _ _; refine neqF rfl rfl omD ?_) | (show SH _ _ _ _ _ (⟨_, .load _ _, _, _, _, _⟩ :: _) _ _ _; refine lba rfl spL (by rfl) ?_) | (show SH _ _ _ _ _ (⟨_, .call ⟨.value (.func 32), _, _⟩, _, _, _, _⟩ :: _) _ _ _; refine cp (callee := .func 32) rfl (fun w hw => hI _ hw.ext A1 c2 (hw.rd spL)) rfl rfl ?_) | refine extr rfl rfl ?_ | (show SH _ _ _ _ _ (⟨_, .makeFunc _ _ _, _, _, _, _⟩ :: _) _ _ _; refine mfb evL ?_) | refine ala rfl (fun b => ?_) | (show SH _ _ _ _ _ (⟨_, .store _ _ _, _, _, _, _⟩ :: _) _ _ _; refine sta rfl rfl rfl spL (by rfl) (by rfl) (by rfl) kpL ?_)) | refine s_nil ?_ | refine kh_normal ?_))
    rintro _ _ ⟨A2, c3, rfl, rfl⟩
    (repeat' (first | refine v_ret ?_ | (show SH _ _ _ _ _ (_ :: _) _ _ _; (show SH _ _ _ _ _ (⟨_, .assign _, _, _, _, _⟩ :: _) _ _ _; refine asg evL ?_)) | refine s_nil ?_ | refine kh_normal ?_))
    exact rh2 rfl rfl rfl ⟨A2, c3, rfl, rfl⟩ enL
  · simp only [if_neg hv] at hO ⊢
    clear hv
    unfold wv at *
    refine enterH Tryz.func15 rfl rfl Tryz.ntmps15 rfl (Wd.refl _) ?_
    (repeat' (first | (show VH _ _ _ _ _ _ _; first | refine v_seq ?_ | refine r_seq ?_) | (show SH _ _ _ _ _ (_ :: _) _ _ _; first | (show SH _ _ _ _ _ (⟨_, .move _, _, _, _, _⟩ :: _) _ _ _; refine mov evL ?_) | (show SH _ _ _ _ _ (⟨_, .assign _, _, _, _, _⟩ :: _) _ _ _; refine asg evL ?_) | (show SH _ _ _ _ _ (⟨_, .load _ _, _, _, _, _⟩ :: _) _ _ _; refine lba rfl spL (by rfl) ?_) | (show SH _ _ _ _ _ (⟨_, .call ⟨.value (.func 31), _, _⟩, _, _, _, _⟩ :: _) _ _ _; refine cp (callee := .func 31) rfl (fun w hw => hO _ hw.ext) rfl rfl ?_) | (show SH _ _ _ _ _ (⟨_, .box _ _, _, _, _, _⟩ :: _) _ _ _; refine bxx rfl evL rfl (fun b => ?_))) | refine s_nil ?_ | refine kh_normal ?_))
    rintro _ _ ⟨rfl, rfl⟩
    (repeat' (first | (show VH _ _ _ _ _ _ _; first | refine v_seq ?_ | refine r_seq ?_ | refine v_ret ?_ | refine v_cond_t rfl tbL ?_) | (show SH _ _ _ _ _ (_ :: _) _ _ _; first | (show SH _ _ _ _ _ (⟨_, .move _, _, _, _, _⟩ :: _) _ _ _; refine mov evL ?_) | (show SH _ _ _ _ _ (⟨_, .assign _, _, _, _, _⟩ :: _) _ _ _; refine asg evL ?_) | (show SH _ _ _ _ _ (⟨_, .binOp .neq _ _ _ _, _, _, _, _⟩ :: _) _ _ _; refine neqT rfl rfl omD ?_) | refine extr rfl rfl ?_ | refine ala rfl (fun b => ?_) | (show SH _ _ _ _ _ (⟨_, .store _ _ _, _, _, _, _⟩ :: _) _ _ _; refine sta rfl rfl rfl spL (by rfl) (by rfl) (by rfl) kpL ?_)) | refine s_nil ?_ | refine kh_normal ?_ | refine kh_ret ?_))
    exact rh2 rfl rfl rfl ⟨none, 0, rfl, rfl⟩ (ent_nilrow (ent_nil _))
end Go.Proofs.YtjefoecnciepmaaGreatDoor

/- Package interest: Sees, Watchers. -/
namespace Go.Proofs.YtjefoecnciepmaaGreatDoor
open Go.Fw Go.RowKit
theorem lbK_spec {α : Type} (d : α) (key : α → Int) (k : Int) : ∀ (l : List α), lbK key k l ≤ l.length ∧ (∀ q, q < lbK key k l → key (l.getD q d) < k) ∧ (lbK key k l < l.length → ¬ key (l.getD (lbK key k l) d) < k)
  | [] => ⟨Nat.le_refl _, fun q h => absurd h (Nat.not_lt_zero q), fun h => absurd h (Nat.not_lt_zero _)⟩
  | x :: l => by
    obtain ⟨h1, h2, h3⟩ := lbK_spec d key k l
    unfold lbK at *
    by_cases hx : key x < k
    · rw [List.takeWhile_cons_of_pos (by simpa using hx), List.length_cons, List.length_cons]
      refine ⟨by omega, fun q hq => ?_, fun h => by simpa using h3 (by omega)⟩
      cases q with
      | zero => exact hx
      | succ q => simpa using h2 q (by omega)
    · rw [List.takeWhile_cons_of_neg (by simpa using hx)]
      exact ⟨Nat.zero_le _, fun q h => absurd h (Nat.not_lt_zero q), fun _ => hx⟩
theorem getD_of_mem {α : Type} (d : α) {l : List α} {x : α} (h : x ∈ l) : ∃ i, i < l.length ∧ l.getD i d = x := by
  obtain ⟨i, hi, rfl⟩ := List.getElem_of_mem h
  exact ⟨i, hi, by simp [List.getD_eq_getElem?_getD, hi]⟩
theorem rising_inj {α : Type} {key : α → Int} {l : List α} (hR : Rising key l) {x y : α} (hx : x ∈ l) (hy : y ∈ l) (h : key x = key y) : x = y := by
  obtain ⟨i, hi, hxi⟩ := getD_of_mem x hx
  obtain ⟨j, hj, hyj⟩ := getD_of_mem x hy
  rcases Nat.lt_trichotomy i j with e | e | e
  · have := rising_at x hR e hj; rw [hxi, hyj] at this; omega
  · rw [e, hyj] at hxi; exact hxi.symm
  · have := rising_at x hR e hi; rw [hxi, hyj] at this; omega
theorem has_mem {α : Type} [Flat α] {key : α → Int} {k : Int} {l : List α} (hR : Rising key l) : hasK key k l = true ↔ ∃ x ∈ l, key x = k := by
  obtain ⟨h1, h2, h3⟩ := lbK_spec Flat.dflt key k l
  unfold hasK
  simp only [Bool.and_eq_true, decide_eq_true_eq]
  constructor
  · rintro ⟨hlt, hk⟩
    exact ⟨_, getD_mem hlt, hk⟩
  · rintro ⟨x, hx, hk⟩
    obtain ⟨i, hi, rfl⟩ := getD_of_mem Flat.dflt hx
    have hle : lbK key k l ≤ i := by
      apply Nat.le_of_not_lt
      intro h
      have := h2 i h; omega
    have hlt : lbK key k l < l.length := by omega
    refine ⟨hlt, ?_⟩
    have := h3 hlt
    rcases Nat.lt_or_eq_of_le hle with e | e
    · have := rising_at Flat.dflt hR e hi; omega
    · rw [e]; exact hk
/-- The entity with a number. -/
def entOf (id : Int) (es : List Ent1) : Option Ent1 := es.find? fun e => decide (e.id = id)
theorem entOf_has {id : Int} {l : List EntP} (hR : Rising idE l) (h : hasK idE id l = true) : entOf id (ents l) = some (l.getD (lbK idE id l) Flat.dflt).e := by
  unfold hasK at h
  simp only [Bool.and_eq_true, decide_eq_true_eq] at h
  obtain ⟨hlt, hk⟩ := h
  have hm := getD_mem (d := Flat.dflt) hlt
  unfold entOf
  cases hf : (ents l).find? fun e => decide (e.id = id) with
  | none =>
    rw [List.find?_eq_none] at hf
    have := hf _ (List.mem_map_of_mem hm)
    simp only [decide_eq_true_eq] at this
    exact absurd hk this
  | some e =>
    have h1 := List.mem_of_find?_eq_some hf
    have h2 := List.find?_some hf
    simp only [decide_eq_true_eq] at h2
    obtain ⟨y, hy, rfl⟩ := List.mem_map.1 h1
    have hk' : (l.getD (lbK idE id l) Flat.dflt).e.id = id := hk
    exact congrArg (fun z => some z.e) (rising_inj hR hy hm (show y.e.id = _ by rw [h2]; exact hk'.symm))
theorem entOf_not {id : Int} {l : List EntP} (hR : Rising idE l) (h : hasK idE id l = false) : entOf id (ents l) = none := by
  unfold entOf
  rw [List.find?_eq_none]
  intro e he
  obtain ⟨y, hy, rfl⟩ := List.mem_map.1 he
  simp only [decide_eq_true_eq]
  intro hk
  have := (has_mem (k := id) hR).2 ⟨y, hy, hk⟩
  rw [h] at this; cases this
def seeB (ct id t : Int) (es : List Ent1) : Bool := decide (OkI ct t es) && match entOf id es with | some e => seesE ct.toNat (ptsE ct es) e | none => false
def seeErr (ct id t : Int) (es : List Ent1) : Int := if OkI ct t es then (match entOf id es with | some _ => 0 | none => 6) else 2
set_option maxHeartbeats 2000000 in
set_option maxRecDepth 100000 in
theorem seesI_spec (ct id t : Int) (A : Option Addr) (l : List EntP) (c1 : Nat) (w : World) (hG : Glob w) (hs : Sz l) (hse : ∀ x ∈ l, x.e.comps.length ≤ 1000000) (hr : RdW w A l) :
    Ret Tryz.prog 17 [wv t A l c1, .int .i64 ct, .int .i64 id].toArray w (Out w (.tuple #[.bool (seeB ct id t (ents l)), .int .i64 (seeErr ct id t (ents l))])) := by
  have hO := fun w' (he : Ext w w') => open_spec ct t A l c1 w' (hG.ext he) hs (hr.ext he)
  have hE := fun w' (he : Ext w w') => entity_spec t id A l c1 w' (hG.ext he) hs hse (hr.ext he)
  unfold OpenR at hO
  unfold EntityR findB at hE
  unfold seeB seeErr
  by_cases hv : OkI ct t (ents l)
  case neg =>
    simp only [if_neg hv] at hO ⊢
    rw [decide_eq_false hv, Bool.false_and]
    clear hv hE
    unfold wv at *
    refine enterH Tryz.func17 rfl rfl Tryz.ntmps17 rfl (Wd.refl _) ?_
    (repeat' (first | (show VH _ _ _ _ _ _ _; first | refine v_seq ?_ | refine r_seq ?_) | (show SH _ _ _ _ _ (_ :: _) _ _ _; first | (show SH _ _ _ _ _ (⟨_, .move _, _, _, _, _⟩ :: _) _ _ _; refine mov evL ?_) | (show SH _ _ _ _ _ (⟨_, .assign _, _, _, _, _⟩ :: _) _ _ _; refine asg evL ?_) | (show SH _ _ _ _ _ (⟨_, .load _ _, _, _, _, _⟩ :: _) _ _ _; refine lba rfl spL (by rfl) ?_) | (show SH _ _ _ _ _ (⟨_, .call ⟨.value (.func 31), _, _⟩, _, _, _, _⟩ :: _) _ _ _; refine cp (callee := .func 31) rfl (fun w hw => hO _ hw.ext) rfl rfl ?_) | (show SH _ _ _ _ _ (⟨_, .box _ _, _, _, _, _⟩ :: _) _ _ _; refine bxx rfl evL rfl (fun b => ?_))) | refine s_nil ?_ | refine kh_normal ?_))
    rintro _ _ ⟨rfl, rfl⟩
    (repeat' (first | (show VH _ _ _ _ _ _ _; first | refine v_seq ?_ | refine r_seq ?_ | refine v_ret ?_ | refine v_cond_t rfl tbL ?_) | (show SH _ _ _ _ _ (_ :: _) _ _ _; first | (show SH _ _ _ _ _ (⟨_, .move _, _, _, _, _⟩ :: _) _ _ _; refine mov evL ?_) | (show SH _ _ _ _ _ (⟨_, .assign _, _, _, _, _⟩ :: _) _ _ _; refine asg evL ?_) | (show SH _ _ _ _ _ (⟨_, .binOp .neq _ _ _ _, _, _, _, _⟩ :: _) _ _ _; refine neqT rfl rfl omD ?_) | refine extr rfl rfl ?_ | refine ala rfl (fun b => ?_) | (show SH _ _ _ _ _ (⟨_, .store _ _ _, _, _, _, _⟩ :: _) _ _ _; refine sta rfl rfl rfl spL (by rfl) (by rfl) (by rfl) kpL ?_)) | refine s_nil ?_ | refine kh_normal ?_ | refine kh_ret ?_))
    exact rh2 rfl rfl rfl ⟨rfl, rfl⟩ (ent_nil _)
  simp only [if_pos hv] at hO ⊢
  rw [decide_eq_true hv, Bool.true_and]
  obtain ⟨⟨hc1, hc8⟩, hV⟩ := hv
  have hR := (rising_ents l).1 hV.up
  rw [decide_eq_true hV, Bool.true_and] at hE
  cases hb : hasK idE id l with
  | false =>
    rw [entOf_not hR hb]
    rw [hb] at hE
    simp only [Bool.false_eq_true, if_false] at hE
    clear hV hR hb
    generalize ptsE ct (ents l) = ps at hO
    unfold wv at *
    refine enterH Tryz.func17 rfl rfl Tryz.ntmps17 rfl (Wd.refl _) ?_
    (repeat' (first | (show VH _ _ _ _ _ _ _; first | refine v_seq ?_ | refine r_seq ?_) | (show SH _ _ _ _ _ (_ :: _) _ _ _; first | (show SH _ _ _ _ _ (⟨_, .move _, _, _, _, _⟩ :: _) _ _ _; refine mov evL ?_) | (show SH _ _ _ _ _ (⟨_, .assign _, _, _, _, _⟩ :: _) _ _ _; refine asg evL ?_) | (show SH _ _ _ _ _ (⟨_, .load _ _, _, _, _, _⟩ :: _) _ _ _; refine lba rfl spL (by rfl) ?_) | (show SH _ _ _ _ _ (⟨_, .call ⟨.value (.func 31), _, _⟩, _, _, _, _⟩ :: _) _ _ _; refine cp (callee := .func 31) rfl (fun w hw => hO _ hw.ext) rfl rfl ?_) | (show SH _ _ _ _ _ (⟨_, .box _ _, _, _, _, _⟩ :: _) _ _ _; refine bxx rfl evL rfl (fun b => ?_))) | refine s_nil ?_ | refine kh_normal ?_))
    rintro _ _ ⟨A1, c2, rfl, rfl⟩
    (repeat' (first | (show VH _ _ _ _ _ _ _; first | refine v_seq ?_ | refine r_seq ?_ | refine v_skip ?_ | refine v_cond_f rfl tbL ?_) | (show SH _ _ _ _ _ (_ :: _) _ _ _; first | (show SH _ _ _ _ _ (⟨_, .move _, _, _, _, _⟩ :: _) _ _ _; refine mov evL ?_) | (show SH _ _ _ _ _ (⟨_, .assign _, _, _, _, _⟩ :: _) _ _ _; refine asg evL ?_) | (show SH _ _ _ _ _ (⟨_, .binOp .neq _ _ _ _, _, _, _, _⟩ :: _) _ _ _; refine neqF rfl rfl omD ?_) | (show SH _ _ _ _ _ (⟨_, .load _ _, _, _, _, _⟩ :: _) _ _ _; refine lba rfl spL (by rfl) ?_) | (show SH _ _ _ _ _ (⟨_, .call ⟨.value (.func 38), _, _⟩, _, _, _, _⟩ :: _) _ _ _; refine cp (callee := .func 38) rfl (fun w hw => hE _ hw.ext) rfl rfl ?_) | refine extr rfl rfl ?_ | refine ala rfl (fun b => ?_) | (show SH _ _ _ _ _ (⟨_, .store _ _ _, _, _, _, _⟩ :: _) _ _ _; refine sta rfl rfl rfl spL (by rfl) (by rfl) (by rfl) kpL ?_)) | refine s_nil ?_ | refine kh_normal ?_))
    rintro _ _ ⟨rfl, rfl⟩
    (repeat' (first | (show VH _ _ _ _ _ _ _; first | refine v_seq ?_ | refine r_seq ?_ | refine v_ret ?_ | refine v_cond_t rfl tbL ?_) | (show SH _ _ _ _ _ (_ :: _) _ _ _; first | (show SH _ _ _ _ _ (⟨_, .move _, _, _, _, _⟩ :: _) _ _ _; refine mov evL ?_) | (show SH _ _ _ _ _ (⟨_, .assign _, _, _, _, _⟩ :: _) _ _ _; refine asg evL ?_) | refine bnoF rfl ?_ | refine extr rfl rfl ?_ | refine ala rfl (fun b => ?_) | (show SH _ _ _ _ _ (⟨_, .store _ _ _, _, _, _, _⟩ :: _) _ _ _; refine sta rfl rfl rfl spL (by rfl) (by rfl) (by rfl) kpL ?_)) | refine s_nil ?_ | refine kh_normal ?_ | refine kh_ret ?_))
    exact rh2 rfl rfl rfl ⟨rfl, rfl⟩ (ent_nil _)
  | true =>
    rw [entOf_has hR hb]
    rw [hb] at hE
    simp only [if_true] at hE
    unfold hasK at hb
    simp only [Bool.and_eq_true, decide_eq_true_eq] at hb
    have hx := getD_mem (d := Flat.dflt) hb.1
    have hid : (l.getD (lbK idE id l) Flat.dflt).e.id = id := hb.2
    obtain ⟨cn, rfl⟩ : ∃ cn : Nat, ct = (cn : Int) := ⟨ct.toNat, by omega⟩
    rw [Int.toNat_natCast]
    have hl : l.length ≤ 64 := by have := hV.len; rwa [ents_len] at this
    have hin := pts_in (cl := (cn : Int)) hV.right
    have hpl := pts_len (cn : Int) (ents l)
    rw [ents_len] at hpl
    have hRE : RightE (l.getD (lbK idE id l) Flat.dflt).e := hV.right _ (List.mem_map_of_mem hx)
    have hse' := hse _ hx
    clear hV hR hb hx hse
    generalize ptsE (cn : Int) (ents l) = ps at hO hin hpl ⊢
    generalize (l.getD (lbK idE id l) Flat.dflt).e = e at hE hid hRE hse' ⊢
    have hS := fun w' (he : Ext w w') A1 c2 A2 c3 (hps : Rd w' A1 ps) (hr2 : Rd w' A2 e.comps) => sees_spec cn (by omega) A1 ps c2 ⟨e, A2, c3⟩ w' (by show e.comps.length ≤ _; omega) hr2 hRE hps hin (by omega)
    generalize seesE cn ps e = q at hS ⊢
    obtain ⟨ei, ec⟩ := e
    simp only at hE hid hS
    subst hid
    clear hin hRE
    unfold wv at *
    refine enterH Tryz.func17 rfl rfl Tryz.ntmps17 rfl (Wd.refl _) ?_
    (repeat' (first | (show VH _ _ _ _ _ _ _; first | refine v_seq ?_ | refine r_seq ?_) | (show SH _ _ _ _ _ (_ :: _) _ _ _; first | (show SH _ _ _ _ _ (⟨_, .move _, _, _, _, _⟩ :: _) _ _ _; refine mov evL ?_) | (show SH _ _ _ _ _ (⟨_, .assign _, _, _, _, _⟩ :: _) _ _ _; refine asg evL ?_) | (show SH _ _ _ _ _ (⟨_, .load _ _, _, _, _, _⟩ :: _) _ _ _; refine lba rfl spL (by rfl) ?_) | (show SH _ _ _ _ _ (⟨_, .call ⟨.value (.func 31), _, _⟩, _, _, _, _⟩ :: _) _ _ _; refine cp (callee := .func 31) rfl (fun w hw => hO _ hw.ext) rfl rfl ?_) | (show SH _ _ _ _ _ (⟨_, .box _ _, _, _, _, _⟩ :: _) _ _ _; refine bxx rfl evL rfl (fun b => ?_))) | refine s_nil ?_ | refine kh_normal ?_))
    rintro _ _ ⟨A1, c2, rfl, rfl⟩
    (repeat' (first | (show VH _ _ _ _ _ _ _; first | refine v_seq ?_ | refine r_seq ?_ | refine v_skip ?_ | refine v_cond_f rfl tbL ?_) | (show SH _ _ _ _ _ (_ :: _) _ _ _; first | (show SH _ _ _ _ _ (⟨_, .move _, _, _, _, _⟩ :: _) _ _ _; refine mov evL ?_) | (show SH _ _ _ _ _ (⟨_, .assign _, _, _, _, _⟩ :: _) _ _ _; refine asg evL ?_) | (show SH _ _ _ _ _ (⟨_, .binOp .neq _ _ _ _, _, _, _, _⟩ :: _) _ _ _; refine neqF rfl rfl omD ?_) | (show SH _ _ _ _ _ (⟨_, .load _ _, _, _, _, _⟩ :: _) _ _ _; refine lba rfl spL (by rfl) ?_) | (show SH _ _ _ _ _ (⟨_, .call ⟨.value (.func 38), _, _⟩, _, _, _, _⟩ :: _) _ _ _; refine cp (callee := .func 38) rfl (fun w hw => hE _ hw.ext) rfl rfl ?_) | refine extr rfl rfl ?_ | refine ala rfl (fun b => ?_) | (show SH _ _ _ _ _ (⟨_, .store _ _ _, _, _, _, _⟩ :: _) _ _ _; refine sta rfl rfl rfl spL (by rfl) (by rfl) (by rfl) kpL ?_)) | refine s_nil ?_ | refine kh_normal ?_))
    rintro _ _ ⟨A2, c3, rfl, rfl⟩
    (repeat' (first | (show VH _ _ _ _ _ _ _; first | refine v_seq ?_ | refine r_seq ?_ | refine v_ret ?_ | refine v_skip ?_ | refine v_cond_f rfl tbL ?_) | (show SH _ _ _ _ _ (_ :: _) _ _ _; first | (show SH _ _ _ _ _ (⟨_, .move _, _, _, _, _⟩ :: _) _ _ _; refine mov evL ?_) | (show SH _ _ _ _ _ (⟨_, .assign _, _, _, _, _⟩ :: _) _ _ _; refine asg evL ?_) | (show SH _ _ _ _ _ (⟨_, .load _ _, _, _, _, _⟩ :: _) _ _ _; refine lba rfl spL (by rfl) ?_) | (show SH _ _ _ _ _ (⟨_, .call ⟨.value (.func 36), _, _⟩, _, _, _, _⟩ :: _) _ _ _; refine cl (callee := .func 36) rfl (fun w hw => hS _ hw.ext A1 c2 A2 c3 (hw.rd spL) (hw.rd spL)) rfl rfl ?_) | refine bnoT rfl ?_ | refine extr rfl rfl ?_ | refine ala rfl (fun b => ?_) | (show SH _ _ _ _ _ (⟨_, .store _ _ _, _, _, _, _⟩ :: _) _ _ _; refine sta rfl rfl rfl spL (by rfl) (by rfl) (by rfl) kpL ?_)) | refine s_nil ?_ | refine kh_normal ?_))
    exact rh2 rfl rfl rfl ⟨rfl, rfl⟩ (ent_nil _)
end Go.Proofs.YtjefoecnciepmaaGreatDoor

/- Package interest: Watchers; package store: parts of entities. -/
namespace Go.Proofs.YtjefoecnciepmaaGreatDoor
open Go.Fw Go.RowKit
/-- The first clients to whom an entity is visible. -/
def watN (id t : Int) (es : List Ent1) (k : Nat) : List Int := ((List.range k).filter fun c : Nat => seeB ((c : Int) + 1) id t es).map fun c : Nat => (c : Int) + 1
def watErr (id t : Int) (es : List Ent1) : Int := if ValidW t es then (match entOf id es with | some _ => 0 | none => 6) else 2
def watL (id t : Int) (es : List Ent1) : List Int := if watErr id t es = 0 then watN id t es 8 else []
theorem watN_next (id t : Int) (es : List Ent1) (k : Nat) : watN id t es (k + 1) = watN id t es k ++ (if seeB ((k : Int) + 1) id t es then [(k : Int) + 1] else []) := by
  unfold watN
  rw [List.range_succ, List.filter_append, List.map_append]
  congr 1
  by_cases h : seeB ((k : Int) + 1) id t es = true
  · rw [if_pos h, List.filter_cons_of_pos (by simpa using h)]; rfl
  · rw [if_neg h, List.filter_cons_of_neg (by simpa using h)]; rfl
theorem seeErr_wat {ct id t : Int} {es : List Ent1} (h : 1 ≤ ct ∧ ct ≤ 8) : seeErr ct id t es = watErr id t es := by
  unfold seeErr watErr OkI
  by_cases hv : ValidW t es
  · rw [if_pos ⟨h, hv⟩, if_pos hv]
    all_goals (cases entOf id es <;> rfl)
  · rw [if_neg (fun x => hv x.2), if_neg hv]
theorem watN_len (id t : Int) (es : List Ent1) (k : Nat) : (watN id t es k).length ≤ k := by
  unfold watN
  rw [List.length_map]
  have := List.length_filter_le (fun c : Nat => seeB ((c : Int) + 1) id t es) (List.range k)
  rwa [List.length_range] at this
set_option maxHeartbeats 2000000 in
set_option maxRecDepth 100000 in
theorem watI_spec (id t : Int) (A : Option Addr) (l : List EntP) (c1 : Nat) (w : World) (hG : Glob w) (hs : Sz l) (hse : ∀ x ∈ l, x.e.comps.length ≤ 1000000) (hr : RdW w A l) :
    Ret Tryz.prog 21 [wv t A l c1, .int .i64 id].toArray w (RP w (FreshE 3 (watL id t (ents l)) (watErr id t (ents l)))) := by
  have hS := fun w' (he : Ext w w') k => seesI_spec ((k : Nat) + 1 : Int) id t A l c1 w' (hG.ext he) hs hse (hr.ext he)
  have hE := fun k (hk : k < 8) => seeErr_wat (ct := ((k : Nat) : Int) + 1) (id := id) (t := t) (es := ents l) (by omega)
  have hN := watN_next id t (ents l)
  have hL := watN_len id t (ents l)
  have h0 : watN id t (ents l) 0 = [] := rfl
  unfold watL
  generalize watN id t (ents l) = W at hN hL h0 ⊢
  generalize watErr id t (ents l) = er at hE ⊢
  obtain ⟨sb, hsb⟩ : ∃ sb : Nat → Bool, ∀ k : Nat, seeB ((k : Int) + 1) id t (ents l) = sb k := ⟨fun k : Nat => seeB ((k : Int) + 1) id t (ents l), fun _ => rfl⟩
  simp only [hsb] at hS hN
  unfold wv at *
  refine enterH Tryz.func21 rfl rfl Tryz.ntmps21 rfl (Wd.refl _) ?_
  (repeat' (first | (show VH _ _ _ _ _ _ _; first | refine v_seq ?_ | refine r_seq ?_ | refine v_block ?_) | (show SH _ _ _ _ _ (_ :: _) _ _ _; first | (show SH _ _ _ _ _ (⟨_, .assign _, _, _, _, _⟩ :: _) _ _ _; refine asg evL ?_) | (show SH _ _ _ _ _ (⟨_, .box _ _, _, _, _, _⟩ :: _) _ _ _; refine bxx rfl evL rfl (fun b => ?_))) | refine s_nil ?_ | refine kh_normal ?_))
  refine v_loop [(4,28)] (fun s : Nat × (Option Addr × Nat) => [(7, .int .i64 ((s.1 : Int) + 1)), (6, .slice s.2.1 (W s.1).length s.2.2)]) (fun s => [orow 3 s.2.1 s.2.2 (W s.1), bx b 24 [.int .i64 t, .slice A l.length c1]]) (fun s => s.1 ≤ 8 ∧ (0 < s.1 → er = 0)) (fun s => 8 - s.1) (0, none, 0) (by rw [h0]; (repeat (first | exact trivial | refine And.intro rfl ?_))) (by rw [h0]; exact ent_nilrow enL) ⟨Nat.zero_le _, fun h => absurd h (Nat.lt_irrefl 0)⟩ ?_
  rintro ⟨k, A1, c2⟩ g ⟨hk, h00⟩
  simp only [sets]
  simp only at hk h00
  by_cases hkl : k < 8
  · have hS' := fun w' he => hS w' he k
    have hn := hN k
    have hlk := hL k
    rw [hE k hkl] at hS'
    clear hS hE hN hL
    by_cases he0 : er = 0
    · rw [he0] at hS'
      cases hb : sb k with
      | true =>
        rw [if_pos hb] at hn
        rw [hb] at hS'
        (repeat' (first | (show VH _ _ _ _ _ _ _; first | refine v_seq ?_ | refine r_seq ?_ | refine v_block ?_ | refine v_skip ?_ | refine v_cond_t rfl tbL ?_ | refine v_cond_f rfl tbL ?_) | (show SH _ _ _ _ _ (_ :: _) _ _ _; first | (show SH _ _ _ _ _ (⟨_, .move _, _, _, _, _⟩ :: _) _ _ _; refine mov evL ?_) | (show SH _ _ _ _ _ (⟨_, .assign _, _, _, _, _⟩ :: _) _ _ _; refine asg evL ?_) | (show SH _ _ _ _ _ (⟨_, .binOp .leq _ _ _ _, _, _, _, _⟩ :: _) _ _ _; refine leqT rfl rfl omD ?_) | (show SH _ _ _ _ _ (⟨_, .binOp .neq _ _ _ _, _, _, _, _⟩ :: _) _ _ _; refine neqF rfl rfl omD ?_) | (show SH _ _ _ _ _ (⟨_, .load _ _, _, _, _, _⟩ :: _) _ _ _; refine lba rfl spL (by rfl) ?_) | (show SH _ _ _ _ _ (⟨_, .call ⟨.value (.func 17), _, _⟩, _, _, _, _⟩ :: _) _ _ _; refine cl (callee := .func 17) rfl (fun w hw => hS' _ hw.ext) rfl rfl ?_) | refine extr rfl rfl ?_ | (show SH _ _ _ _ _ (⟨_, .buildSlice _ _ _, _, _, _, _⟩ :: _) _ _ _; refine bsl (α := Int) rfl rfl (by repeat (first | exact Vals.nil | (apply Vals.cons; rfl))) rfl (by rfl) (by decide) (fun b => ?_))) | refine s_nil ?_ | refine kh_normal ?_))
        refine app (l := W k) (l2 := [(k : Int) + 1]) rfl rfl rfl spL (fun w hw => hw.rd spL) rfl rfl rfl (by simp only [List.length_cons, List.length_nil]; omega) (by simp only [List.length_cons, List.length_nil]; omega) (fun A4 c4 => ⟨enL, ?_⟩)
        rw [← hn]
        (repeat' (first | refine r_seq ?_ | (show SH _ _ _ _ _ (_ :: _) _ _ _; first | (show SH _ _ _ _ _ (⟨_, .move _, _, _, _, _⟩ :: _) _ _ _; refine mov evL ?_) | (show SH _ _ _ _ _ (⟨_, .assign _, _, _, _, _⟩ :: _) _ _ _; refine asg evL ?_) | (show SH _ _ _ _ _ (⟨_, .binOp .add _ _ _ _, _, _, _, _⟩ :: _) _ _ _; refine add rfl rfl inL ?_)) | refine s_nil ?_ | refine kh_normal ?_ | refine bh_normal ?_))
        exact ⟨agL, (k + 1, A4, c4), hsL, enL, ⟨hkl, fun _ => he0⟩, by show _ - (k + 1) < _ - k; omega⟩
      | false =>
        rw [if_neg (by rw [hb]; simp), List.append_nil] at hn
        rw [hb] at hS'
        (repeat' (first | (show VH _ _ _ _ _ _ _; first | refine v_seq ?_ | refine r_seq ?_ | refine v_block ?_ | refine v_skip ?_ | refine v_cond_t rfl tbL ?_ | refine v_cond_f rfl tbL ?_) | (show SH _ _ _ _ _ (_ :: _) _ _ _; first | (show SH _ _ _ _ _ (⟨_, .move _, _, _, _, _⟩ :: _) _ _ _; refine mov evL ?_) | (show SH _ _ _ _ _ (⟨_, .assign _, _, _, _, _⟩ :: _) _ _ _; refine asg evL ?_) | (show SH _ _ _ _ _ (⟨_, .binOp .leq _ _ _ _, _, _, _, _⟩ :: _) _ _ _; refine leqT rfl rfl omD ?_) | (show SH _ _ _ _ _ (⟨_, .binOp .neq _ _ _ _, _, _, _, _⟩ :: _) _ _ _; refine neqF rfl rfl omD ?_) | (show SH _ _ _ _ _ (⟨_, .binOp .add _ _ _ _, _, _, _, _⟩ :: _) _ _ _; refine add rfl rfl inL ?_) | (show SH _ _ _ _ _ (⟨_, .load _ _, _, _, _, _⟩ :: _) _ _ _; refine lba rfl spL (by rfl) ?_) | (show SH _ _ _ _ _ (⟨_, .call ⟨.value (.func 17), _, _⟩, _, _, _, _⟩ :: _) _ _ _; refine cl (callee := .func 17) rfl (fun w hw => hS' _ hw.ext) rfl rfl ?_) | refine extr rfl rfl ?_) | refine s_nil ?_ | refine kh_normal ?_ | refine bh_normal ?_))
        exact ⟨agL, (k + 1, A1, c2), by rw [hn]; (repeat (first | exact trivial | refine And.intro rfl ?_)), by rw [hn]; exact enL, ⟨hkl, fun _ => he0⟩, by show _ - (k + 1) < _ - k; omega⟩
    · simp only [if_neg he0]
      (repeat' (first | (show VH _ _ _ _ _ _ _; first | refine v_seq ?_ | refine r_seq ?_ | refine v_block ?_ | refine v_ret ?_ | refine v_skip ?_ | refine v_cond_t rfl tbL ?_) | (show SH _ _ _ _ _ (_ :: _) _ _ _; first | (show SH _ _ _ _ _ (⟨_, .move _, _, _, _, _⟩ :: _) _ _ _; refine mov evL ?_) | (show SH _ _ _ _ _ (⟨_, .assign _, _, _, _, _⟩ :: _) _ _ _; refine asg evL ?_) | (show SH _ _ _ _ _ (⟨_, .binOp .leq _ _ _ _, _, _, _, _⟩ :: _) _ _ _; refine leqT rfl rfl omD ?_) | (show SH _ _ _ _ _ (⟨_, .binOp .neq _ _ _ _, _, _, _, _⟩ :: _) _ _ _; refine neqT rfl rfl omD ?_) | (show SH _ _ _ _ _ (⟨_, .load _ _, _, _, _, _⟩ :: _) _ _ _; refine lba rfl spL (by rfl) ?_) | (show SH _ _ _ _ _ (⟨_, .call ⟨.value (.func 17), _, _⟩, _, _, _, _⟩ :: _) _ _ _; refine cl (callee := .func 17) rfl (fun w hw => hS' _ hw.ext) rfl rfl ?_) | refine extr rfl rfl ?_) | refine s_nil ?_ | refine kh_normal ?_ | refine kh_ret ?_ | refine bh_ret ?_))
      exact rh2 rfl rfl rfl ⟨none, 0, rfl, rfl⟩ (ent_nilrow (ent_nil _))
  · have hke : k = 8 := by omega
    subst hke
    have he0 := h00 (by omega)
    simp only [if_pos he0]
    rw [he0]
    clear hS hE hN
    (repeat' (first | (show VH _ _ _ _ _ _ _; first | refine v_seq ?_ | refine r_seq ?_ | refine v_ret ?_ | refine v_exit ?_ | refine v_cond_f rfl tbL ?_) | (show SH _ _ _ _ _ (_ :: _) _ _ _; first | (show SH _ _ _ _ _ (⟨_, .move _, _, _, _, _⟩ :: _) _ _ _; refine mov evL ?_) | (show SH _ _ _ _ _ (⟨_, .assign _, _, _, _, _⟩ :: _) _ _ _; refine asg evL ?_) | (show SH _ _ _ _ _ (⟨_, .binOp .leq _ _ _ _, _, _, _, _⟩ :: _) _ _ _; refine leqF rfl rfl omD ?_)) | refine s_nil ?_ | refine kh_normal ?_ | refine kh_exit ?_ | refine bh_exit ?_))
    exact rh2 rfl rfl rfl ⟨A1, c2, rfl, rfl⟩ enL
/-- The bit of a kind; 0 if there is no such kind. -/
def bitK (k : Int) : Int := if 1 ≤ k ∧ k ≤ 10 then 2 ^ k.toNat else 0
def inMask (mask : Int) (c : Comp) : Bool := decide (bandK .u32 (bitK c.kind) mask ≠ 0)
def partC (mask : Int) (cs : List Comp) : List Comp := cs.filter (inMask mask)
theorem shl_bit32 : ∀ c < 11, IntKind.u32.wrap (1 * 2 ^ (min ((c : Nat) : Int).toNat IntKind.u32.bits)) = 2 ^ c := by decide +kernel
set_option maxHeartbeats 1000000 in
set_option maxRecDepth 100000 in
theorem bitOf_spec (k : Int) (w : World) : Ret Tryz.prog 67 [.int .u8 k].toArray w (Out w (.int .u32 (bitK k))) := by
  unfold bitK
  by_cases h : 1 ≤ k ∧ k ≤ 10
  · rw [if_pos h]
    obtain ⟨n, rfl⟩ : ∃ n : Nat, k = (n : Int) := ⟨k.toNat, by omega⟩
    have hs := shl_bit32 n (by omega)
    rw [Int.toNat_natCast]
    refine enterH Tryz.func67 rfl rfl Tryz.ntmps67 rfl (Wd.refl _) ?_
    (repeat' (first | (show VH _ _ _ _ _ _ _; first | refine v_seq ?_ | refine r_seq ?_ | refine v_skip ?_ | refine v_cond_f rfl tbL ?_) | (show SH _ _ _ _ _ (_ :: _) _ _ _; first | (show SH _ _ _ _ _ (⟨_, _, _, _, _, some _⟩ :: _) _ _ _; (refine gif rfl rfl ?_; refine giFF tbL ?_)) | (show SH _ _ _ _ _ (⟨_, .move _, _, _, _, _⟩ :: _) _ _ _; refine mov evL ?_) | (show SH _ _ _ _ _ (⟨_, .assign _, _, _, _, _⟩ :: _) _ _ _; refine asg evL ?_) | (show SH _ _ _ _ _ (⟨_, .binOp .lss _ _ _ _, _, _, _, _⟩ :: _) _ _ _; refine lssF rfl rfl omD ?_) | (show SH _ _ _ _ _ (⟨_, .binOp .gtr _ _ _ _, _, _, _, _⟩ :: _) _ _ _; refine gtrF rfl rfl omD ?_) | (show SH _ _ _ _ _ (⟨_, .pick _ _ _, _, _, _, _⟩ :: _) _ _ _; refine pkf rfl tbL evL ?_)) | refine s_nil ?_ | refine kh_normal ?_))
    refine shlw rfl rfl (by omega) _ hs ?_
    (repeat' (first | refine v_ret ?_ | (show SH _ _ _ _ _ (_ :: _) _ _ _; (show SH _ _ _ _ _ (⟨_, .assign _, _, _, _, _⟩ :: _) _ _ _; refine asg evL ?_)) | refine s_nil ?_ | refine kh_normal ?_))
    exact rh1 rfl rfl ⟨rfl, rfl⟩ (ent_nil _)
  · rw [if_neg h]
    by_cases h1 : k < 1
    all_goals
      refine enterH Tryz.func67 rfl rfl Tryz.ntmps67 rfl (Wd.refl _) ?_
      (repeat' (first | (show VH _ _ _ _ _ _ _; first | refine v_seq ?_ | refine r_seq ?_ | refine v_ret ?_ | refine v_cond_t rfl tbL ?_) | (show SH _ _ _ _ _ (_ :: _) _ _ _; first | (show SH _ _ _ _ _ (⟨_, _, _, _, _, some _⟩ :: _) _ _ _; (refine gif rfl rfl ?_; first | refine giFF tbL ?_ | refine giFT tbL ?_)) | (show SH _ _ _ _ _ (⟨_, .move _, _, _, _, _⟩ :: _) _ _ _; refine mov evL ?_) | (show SH _ _ _ _ _ (⟨_, .assign _, _, _, _, _⟩ :: _) _ _ _; refine asg evL ?_) | (show SH _ _ _ _ _ (⟨_, .binOp .lss _ _ _ _, _, _, _, _⟩ :: _) _ _ _; first | refine lssT rfl rfl omD ?_ | refine lssF rfl rfl omD ?_) | (show SH _ _ _ _ _ (⟨_, .binOp .gtr _ _ _ _, _, _, _, _⟩ :: _) _ _ _; refine gtrT rfl rfl omD ?_) | (show SH _ _ _ _ _ (⟨_, .pick _ _ _, _, _, _, _⟩ :: _) _ _ _; first | refine pkt rfl tbL evL ?_ | refine pkf rfl tbL evL ?_)) | refine s_nil ?_ | refine kh_normal ?_ | refine kh_ret ?_))
      exact rh1 rfl rfl ⟨rfl, rfl⟩ (ent_nil _)
set_option maxHeartbeats 2000000 in
set_option maxRecDepth 100000 in
theorem part_spec (x : EntP) (mask : Int) (w : World) (hl : x.e.comps.length ≤ 1000000) (hr : Rd w x.A x.e.comps) : Ret Tryz.prog 41 [.agg (Flat.enc x).toArray, .int .u32 mask].toArray w (RP w (OwnR ⟨x.e.id, partC mask x.e.comps⟩)) := by
  obtain ⟨⟨ei, cs⟩, A, c1⟩ := x
  try simp only at hl hr ⊢
  rw [show Flat.enc (⟨⟨ei, cs⟩, A, c1⟩ : EntP) = [.int .i64 ei, .slice A cs.length c1] from rfl]
  unfold OwnR partC
  try simp only
  refine enterH Tryz.func41 rfl rfl Tryz.ntmps41 rfl (Wd.refl _) ?_
  (repeat' (first | (show VH _ _ _ _ _ _ _; first | refine v_seq ?_ | refine r_seq ?_ | refine v_block ?_) | (show SH _ _ _ _ _ (_ :: _) _ _ _; first | (show SH _ _ _ _ _ (⟨_, .move _, _, _, _, _⟩ :: _) _ _ _; refine mov evL ?_) | (show SH _ _ _ _ _ (⟨_, .load _ _, _, _, _, _⟩ :: _) _ _ _; refine lbx rfl spL (by rfl) ?_) | refine slen rfl ?_ | refine fad rfl ?_ | refine bld rfl rfl ?_ | refine ala rfl (fun b => ?_) | (show SH _ _ _ _ _ (⟨_, .box _ _, _, _, _, _⟩ :: _) _ _ _; refine bxx rfl evL rfl (fun b => ?_)) | (show SH _ _ _ _ _ (⟨_, .store _ _ _, _, _, _, _⟩ :: _) _ _ _; refine sta rfl rfl rfl spL (by rfl) (by rfl) (by rfl) kpL ?_)) | refine s_nil ?_ | refine kh_normal ?_))
  rename_i b2 b4
  revert b
  intro b5
  refine v_loop [(7,7),(14,30)] (fun s : Nat × (Option Addr × Nat) => [(14, .int .i64 s.1)]) (fun s => [bx b5 31 [.int .i64 ei, .slice s.2.1 ((cs.take s.1).filter (inMask mask)).length s.2.2], orow 37 s.2.1 s.2.2 ((cs.take s.1).filter (inMask mask)), bx b4 31 [.int .i64 0, .slice none 0 0]]) (fun s => s.1 ≤ cs.length) (fun s => cs.length - s.1) (0, none, 0) hsL (ent_cons spL (ent_nilrow (ent_cons spL (ent_nil _)))) (Nat.zero_le _) ?_
  rintro ⟨k, A1, c2⟩ g hk
  simp only [sets]
  simp only at hk
  have hlen : ((cs.take k).filter (inMask mask)).length ≤ k := by
    have := List.length_filter_le (inMask mask) (cs.take k)
    rw [List.length_take] at this; omega
  by_cases hkl : k < cs.length
  · have hn := filt_next Flat.dflt (inMask mask) id hkl
    simp only [List.map_id_fun, id_eq] at hn
    have hB := fun w => bitOf_spec (cs.getD k Flat.dflt).kind w
    cases hb : inMask mask (cs.getD k Flat.dflt) with
    | true =>
      rw [if_pos hb] at hn
      unfold inMask at hb
      have hb' := of_decide_eq_true hb
      generalize bitK (cs.getD k Flat.dflt).kind = bk at hB hb'
      obtain ⟨r, hr0⟩ : ∃ r, bandK .u32 bk mask = r := ⟨_, rfl⟩
      rw [hr0] at hb'
      clear hb
      (repeat' (first | (show VH _ _ _ _ _ _ _; first | refine v_seq ?_ | refine r_seq ?_ | refine v_block ?_ | refine v_skip ?_ | refine v_cond_t rfl tbL ?_) | (show SH _ _ _ _ _ (_ :: _) _ _ _; first | (show SH _ _ _ _ _ (⟨_, .move _, _, _, _, _⟩ :: _) _ _ _; refine mov evL ?_) | (show SH _ _ _ _ _ (⟨_, .binOp .lss _ _ _ _, _, _, _, _⟩ :: _) _ _ _; refine lssT rfl rfl omD ?_) | (show SH _ _ _ _ _ (⟨_, .load _ _, _, _, _, _⟩ :: _) _ _ _; first | refine lbx rfl spL (by rfl) ?_ | refine lra rfl (fun _ _ => rdX) (by rfl) omL ?_ | refine lra rfl (fun _ _ => rdX) (by rfl) (by simp only [List.length_cons, List.length_nil]; omega) ?_) | (show SH _ _ _ _ _ (⟨_, .indexAddr _ _ _, _, _, _, _⟩ :: _) _ _ _; refine ix rfl rfl (by with_reducible rfl) (fun _ _ => rdX) (by rfl) omL omL ?_) | (show SH _ _ _ _ _ (⟨_, .call ⟨.value (.func 67), _, _⟩, _, _, _, _⟩ :: _) _ _ _; refine cl (callee := .func 67) rfl (fun w hw => hB w) rfl rfl ?_) | refine fad rfl ?_ | refine ala rfl (fun b => ?_) | (show SH _ _ _ _ _ (⟨_, .store _ _ _, _, _, _, _⟩ :: _) _ _ _; refine sta rfl rfl rfl spL (by rfl) (by rfl) (by rfl) kpL ?_)) | refine s_nil ?_ | refine kh_normal ?_))
      refine andw rfl rfl _ hr0 ?_
      (repeat' (first | (show VH _ _ _ _ _ _ _; first | refine r_seq ?_ | refine v_cond_t rfl tbL ?_) | (show SH _ _ _ _ _ (_ :: _) _ _ _; first | (show SH _ _ _ _ _ (⟨_, .binOp .neq _ _ _ _, _, _, _, _⟩ :: _) _ _ _; refine neqT rfl rfl omD ?_) | (show SH _ _ _ _ _ (⟨_, .load _ _, _, _, _, _⟩ :: _) _ _ _; first | refine lbx rfl spL (by rfl) ?_ | refine lba rfl spL (by rfl) ?_) | refine fad rfl ?_) | refine s_nil ?_ | refine kh_normal ?_))
      refine bsl (l := [cs.getD k Flat.dflt]) rfl rfl (Vals.cons rfl Vals.nil) rfl rfl (by decide) (fun b9 => ?_)
      (repeat' (first | (show VH _ _ _ _ _ _ _; first | refine v_seq ?_ | refine r_seq ?_ | refine r_quiet hmix (by kernel_rfl) ?_ | refine v_block ?_ | refine v_ret ?_ | refine v_skip ?_ | refine v_exit ?_ | refine v_label ?_ | refine v_cond_t rfl tbL ?_ | refine v_cond_f rfl tbL ?_ | refine v_cond_dec rfl (fun h => ?_) (fun h => ?_) | refine v_cond_ndec rfl (fun h => ?_) (fun h => ?_) | refine v_cond rfl (fun h => ?_) (fun h => ?_)) | (show SH _ _ _ _ _ (_ :: _) _ _ _; first | (show SH _ _ _ _ _ (⟨_, .move _, _, _, _, _⟩ :: _) _ _ _; refine mov evL ?_) | (show SH _ _ _ _ _ (⟨_, .binOp .lss _ _ _ _, _, _, _, _⟩ :: _) _ _ _; first | refine lssT rfl rfl omD ?_ | refine lssF rfl rfl omD ?_ | refine lss rfl rfl ?_) | (show SH _ _ _ _ _ (⟨_, .binOp .neq _ _ _ _, _, _, _, _⟩ :: _) _ _ _; first | refine neqT rfl rfl omD ?_ | refine neqF rfl rfl omD ?_ | refine neq rfl rfl ?_ | refine nen rfl rfl ?_ | refine neb rfl rfl ?_) | (show SH _ _ _ _ _ (⟨_, .binOp .add _ _ _ _, _, _, _, _⟩ :: _) _ _ _; refine add rfl rfl inL ?_) | (show SH _ _ _ _ _ (⟨_, .load _ _, _, _, _, _⟩ :: _) _ _ _; first | refine lin rfl (fun _ _ => rdX) omL ?_ | refine lbx rfl spL (by rfl) ?_ | refine lba rfl spL (by rfl) ?_ | refine lbi rfl spL omL ?_ | refine lr1 rfl (fun _ _ => rdX) (by rfl) omL (by rfl) ?_ | refine lra rfl (fun _ _ => rdX) (by rfl) omL ?_ | refine lrf rfl (fun _ _ => rdX) (by rfl) omL (by rfl) ?_ | refine lcell rfl (fun w hw => hw.ext.cell (by assumption)) ?_ | refine lrs rfl (fun _ _ => rdX) (by rfl) omL (by rfl) (by rfl) ?_ | refine lbs rfl spL (by rfl) (by rfl) ?_ | refine lca rfl (fun _ _ => rdX) (by rfl) ?_ | refine lcs rfl (fun _ _ => rdX) (by rfl) ?_ | refine lcf rfl (fun _ _ => rdX) (by rfl) ?_ | refine lrf rfl (fun _ _ => rdX) (by rfl) (by simp only [List.length_cons, List.length_nil]; omega) (by rfl) ?_ | refine lra rfl (fun _ _ => rdX) (by rfl) (by simp only [List.length_cons, List.length_nil]; omega) ?_) | (show SH _ _ _ _ _ (⟨_, .indexAddr _ _ _, _, _, _, _⟩ :: _) _ _ _; first | refine ix rfl rfl (by with_reducible rfl) (fun _ _ => rdX) (by rfl) omL omL ?_ | refine ixi rfl rfl (fun _ _ => rdX) (by rfl) omL omL omL ?_ | refine ixb rfl rfl omL ?_ | refine ixq rfl rfl (by assumption) omL omL ?_ | refine ixA _ rfl rfl rfl omL ?_ | refine ixi rfl rfl (fun _ _ => rdX) (by rfl) omL (by first | omega | (simp only [List.length_cons, List.length_nil]; omega)) (by simp only [List.length_cons, List.length_nil]; omega) ?_) | refine slen rfl ?_ | refine fad rfl ?_ | (show SH _ _ _ _ _ (⟨_, .build _ _, _, _, _, _⟩ :: _) _ _ _; first | refine bld rfl rfl ?_ | refine bldZ ?_ | refine bldZN ?_) | (show SH _ _ _ _ _ (⟨_, .alloc _, _, _, _, _⟩ :: _) _ _ _; first | refine al1 rfl (fun b => ?_) | refine ala rfl (fun b => ?_)) | (show SH _ _ _ _ _ (⟨_, .box _ _, _, _, _, _⟩ :: _) _ _ _; refine bxx rfl evL rfl (fun b => ?_)) | (show SH _ _ _ _ _ (⟨_, .store _ _ _, _, _, _, _⟩ :: _) _ _ _; first | refine stb rfl rfl evL spL rfl rfl (by first | decide | exact Nat.zero_lt_succ _ | exact of_decide_eq_true rfl) kpL ?_ | refine sta rfl rfl rfl spL (by rfl) (by rfl) (by rfl) kpL ?_ | refine sti rfl rfl rfl spL omL kpL ?_ | refine sbi rfl rfl rfl spL omL kpL ?_ | refine sbs rfl rfl evL spL (by rfl) (by rfl) (of_decide_eq_true rfl) kpL ?_) | (show SH _ _ _ _ _ (⟨_, .buildSlice _ _ _, _, _, _, _⟩ :: _) _ _ _; refine bsl (α := Int) rfl rfl (by repeat (first | exact Vals.nil | (apply Vals.cons; rfl))) rfl (by rfl) (by decide) (fun b => ?_))) | refine s_nil ?_ | refine s_fork ?_ ?_ | refine s_fork3 ?_ ?_ ?_ | refine s_fork4 ?_ ?_ ?_ ?_ | refine kh_normal ?_ | refine kh_ret ?_ | refine kh_exit ?_ | refine bh_normal ?_ | refine bh_ret ?_ | refine bh_exit ?_ | refine bh_exit_ne rfl ?_))
      refine app (l := (cs.take k).filter (inMask mask)) (l2 := [cs.getD k Flat.dflt]) rfl rfl rfl spL (fun w hw => hw.rd spL) rfl rfl rfl (by simp only [List.length_cons, List.length_nil]; omega) (by simp only [List.length_cons, List.length_nil]; omega) (fun A4 c4 => ⟨enL, ?_⟩)
      rw [← hn]
      (repeat' (first | refine r_seq ?_ | (show SH _ _ _ _ _ (_ :: _) _ _ _; first | (show SH _ _ _ _ _ (⟨_, .move _, _, _, _, _⟩ :: _) _ _ _; refine mov evL ?_) | (show SH _ _ _ _ _ (⟨_, .binOp .add _ _ _ _, _, _, _, _⟩ :: _) _ _ _; refine add rfl rfl inL ?_) | refine fad rfl ?_ | (show SH _ _ _ _ _ (⟨_, .store _ _ _, _, _, _, _⟩ :: _) _ _ _; refine stb rfl rfl evL spL rfl rfl (by first | decide | exact Nat.zero_lt_succ _ | exact of_decide_eq_true rfl) kpL ?_)) | refine s_nil ?_ | refine kh_normal ?_ | refine bh_normal ?_))
      exact ⟨agL, (k + 1, A4, c4), hsL, enL, hkl, by show _ - (k + 1) < _ - k; omega⟩
    | false =>
      rw [if_neg (by rw [hb]; simp), List.append_nil] at hn
      unfold inMask at hb
      have hb' : ¬ bandK .u32 (bitK (cs.getD k Flat.dflt).kind) mask ≠ 0 := of_decide_eq_false hb
      generalize bitK (cs.getD k Flat.dflt).kind = bk at hB hb'
      obtain ⟨r, hr0⟩ : ∃ r, bandK .u32 bk mask = r := ⟨_, rfl⟩
      rw [hr0] at hb'
      have hb2 : r = 0 := Decidable.not_not.1 hb'
      clear hb hb'
      (repeat' (first | (show VH _ _ _ _ _ _ _; first | refine v_seq ?_ | refine r_seq ?_ | refine v_block ?_ | refine v_skip ?_ | refine v_cond_t rfl tbL ?_) | (show SH _ _ _ _ _ (_ :: _) _ _ _; first | (show SH _ _ _ _ _ (⟨_, .move _, _, _, _, _⟩ :: _) _ _ _; refine mov evL ?_) | (show SH _ _ _ _ _ (⟨_, .binOp .lss _ _ _ _, _, _, _, _⟩ :: _) _ _ _; refine lssT rfl rfl omD ?_) | (show SH _ _ _ _ _ (⟨_, .load _ _, _, _, _, _⟩ :: _) _ _ _; first | refine lbx rfl spL (by rfl) ?_ | refine lra rfl (fun _ _ => rdX) (by rfl) omL ?_ | refine lra rfl (fun _ _ => rdX) (by rfl) (by simp only [List.length_cons, List.length_nil]; omega) ?_) | (show SH _ _ _ _ _ (⟨_, .indexAddr _ _ _, _, _, _, _⟩ :: _) _ _ _; refine ix rfl rfl (by with_reducible rfl) (fun _ _ => rdX) (by rfl) omL omL ?_) | (show SH _ _ _ _ _ (⟨_, .call ⟨.value (.func 67), _, _⟩, _, _, _, _⟩ :: _) _ _ _; refine cl (callee := .func 67) rfl (fun w hw => hB w) rfl rfl ?_) | refine fad rfl ?_ | refine ala rfl (fun b => ?_) | (show SH _ _ _ _ _ (⟨_, .store _ _ _, _, _, _, _⟩ :: _) _ _ _; refine sta rfl rfl rfl spL (by rfl) (by rfl) (by rfl) kpL ?_)) | refine s_nil ?_ | refine kh_normal ?_))
      refine andw rfl rfl _ hr0 ?_
      (repeat' (first | (show VH _ _ _ _ _ _ _; first | refine r_seq ?_ | refine v_skip ?_ | refine v_cond_f rfl tbL ?_) | (show SH _ _ _ _ _ (_ :: _) _ _ _; first | (show SH _ _ _ _ _ (⟨_, .move _, _, _, _, _⟩ :: _) _ _ _; refine mov evL ?_) | (show SH _ _ _ _ _ (⟨_, .binOp .neq _ _ _ _, _, _, _, _⟩ :: _) _ _ _; refine neqF rfl rfl omD ?_) | (show SH _ _ _ _ _ (⟨_, .binOp .add _ _ _ _, _, _, _, _⟩ :: _) _ _ _; refine add rfl rfl inL ?_)) | refine s_nil ?_ | refine kh_normal ?_ | refine bh_normal ?_))
      exact ⟨agL, (k + 1, A1, c2), hsL, by rw [hn]; exact enL, hkl, by show _ - (k + 1) < _ - k; omega⟩
  · have hke : k = cs.length := by omega
    subst hke
    rw [List.take_length]
    (repeat' (first | (show VH _ _ _ _ _ _ _; first | refine v_seq ?_ | refine r_seq ?_ | refine v_ret ?_ | refine v_exit ?_ | refine v_cond_f rfl tbL ?_) | (show SH _ _ _ _ _ (_ :: _) _ _ _; first | (show SH _ _ _ _ _ (⟨_, .binOp .lss _ _ _ _, _, _, _, _⟩ :: _) _ _ _; refine lssF rfl rfl omD ?_) | (show SH _ _ _ _ _ (⟨_, .load _ _, _, _, _, _⟩ :: _) _ _ _; refine lba rfl spL (by rfl) ?_) | (show SH _ _ _ _ _ (⟨_, .store _ _ _, _, _, _, _⟩ :: _) _ _ _; refine sta rfl rfl rfl spL (by rfl) (by rfl) (by rfl) kpL ?_)) | refine s_nil ?_ | refine kh_normal ?_ | refine kh_exit ?_ | refine bh_exit ?_))
    exact rhC rfl rfl rfl (fun w hw => loadVar_bx hw spL (by rfl)) ⟨A1, c2, rfl, rfl⟩ enL
end Go.Proofs.YtjefoecnciepmaaGreatDoor

/- Many pieces as one. -/
namespace Go.Fw
open Go.RowKit
/-- The pieces X, side by side, as one piece. -/
def allH (X : List HP) : HP := .oth fun p => Sat X p
section
variable {w0 w : World} {H R G X Y : List HP}
theorem ent_all_in : ∀ (X : List HP) {G : List HP}, Ent (X ++ G) (allH X :: G)
  | [], G => ⟨fun p hp => ⟨p, ⟨pnil, p, trivial, hp, fun _ => .inl rfl, by funext k; rfl⟩, fun _ _ h => h⟩⟩
  | a :: X, G => ⟨fun p ⟨p1, p2, ha, hs, hd, hp⟩ => by
    subst hp
    obtain ⟨q, ⟨q1, q2, h1, h2, hd', hq⟩, hk⟩ := (ent_all_in X (G := G)).out p2 hs
    subst hq
    have hdd : Dis p1 (pjoin q1 q2) := fun k => by
      rcases hd k with h | h
      · exact .inl h
      · refine .inr ?_
        cases hv : pjoin q1 q2 k with
        | none => rfl
        | some o => rw [hk k o hv] at h; cases h
    refine ⟨pjoin (pjoin p1 q1) q2, ⟨pjoin p1 q1, q2, ⟨p1, q1, ha, h1, fun k => ?_, rfl⟩, h2, fun k => ?_, rfl⟩, fun k o ho => ?_⟩
    · rcases hdd k with h | h
      · exact .inl h
      · exact .inr (pjoin_none.1 h).1
    · rcases hd' k with h | h
      · rcases hdd k with h' | h'
        · exact .inl (pjoin_none.2 ⟨h', h⟩)
        · exact .inr (pjoin_none.1 h').2
      · exact .inr h
    · unfold pjoin at ho ⊢
      cases h1' : p1 k with
      | some o' => rw [h1'] at ho; exact ho
      | none =>
        rw [h1'] at ho
        exact hk k o (by unfold pjoin; exact ho)⟩
theorem ent_all_out (X : List HP) {G : List HP} : Ent (allH X :: G) (X ++ G) := ⟨fun p ⟨p1, p2, hx, hs, hd, hp⟩ => by
  subst hp
  obtain ⟨r, hr, hk⟩ := sat_append hx hs hd
  refine ⟨r, hr, fun k o ho => ?_⟩
  unfold pjoin
  rcases hk k o ho with h | h
  · rw [h]
  · rcases hd k with h' | h'
    · rw [h']; exact h
    · rw [h'] at h; cases h⟩
theorem ent_all_cons {a : HP} : Ent (a :: allH X :: G) (allH (a :: X) :: G) := (ent_cons Split.head (ent_all_out X)).trans (ent_all_in (a :: X))
theorem ent_all_uncons {a : HP} : Ent (allH (a :: X) :: G) (a :: allH X :: G) := (ent_all_out (a :: X)).trans (ent_cons Split.head (ent_all_in X))
theorem ent_all_nil (h : Ent H G) : Ent H (allH [] :: G) := h.trans (ent_all_in [])
theorem ent_all_imp (h : Ent X Y) : Ent (allH X :: G) (allH Y :: G) := ⟨fun p ⟨p1, p2, hx, hs, hd, hp⟩ => by
  subst hp
  obtain ⟨q, hq, hk⟩ := h.out p1 hx
  refine ⟨pjoin q p2, ⟨q, p2, hq, hs, fun k => ?_, rfl⟩, fun k o ho => ?_⟩
  · cases hqk : q k with
    | none => exact .inl rfl
    | some o =>
      refine .inr ?_
      rcases hd k with h' | h'
      · rw [hk k o hqk] at h'; cases h'
      · exact h'
  · unfold pjoin at ho ⊢
    cases hqk : q k with
    | some o' => rw [hqk] at ho; injection ho with ho; subst ho; rw [hk k o' hqk]
    | none =>
      rw [hqk] at ho
      rcases hd k with h' | h'
      · rw [h']; exact ho
      · rw [h'] at ho; cases ho⟩
theorem ent_snoc {ι : Type} (f : ι → HP) (x : ι) : ∀ L : List ι, Ent (f x :: L.map f) ((L ++ [x]).map f)
  | [] => ent_refl _
  | y :: L => (ent_cons (Split.tail Split.head) (ent_snoc f x L) : Ent (f x :: f y :: L.map f) (f y :: (L ++ [x]).map f))
theorem ent_all_snoc {ι : Type} {f : ι → HP} {x : ι} {L : List ι} : Ent (f x :: allH (L.map f) :: G) (allH ((L ++ [x]).map f) :: G) := ent_all_cons.trans (ent_all_imp (ent_snoc f x L))
/-- A world's memory, read alone. -/
theorem ent_knw {e ec : TypeId} {A : Option Addr} {c : Nat} {l : List EntP} : Ent (orow e A c l :: allH (l.map fun x => orow ec x.A x.cp x.e.comps) :: G) (knw A l :: G) := by
  have h1 : Ent (orow e A c l :: allH (l.map fun x => orow ec x.A x.cp x.e.comps) :: G) (orow e A c l :: kno (fun w => ∀ x ∈ l, Rd w x.A x.e.comps) :: G) :=
    ent_cons Split.head ((ent_all_out _).trans (ent_kno_map (fun x G => ent_kno_row Split.head (ent_refl _)) l))
  exact h1.trans ((ent_kno_row Split.head (ent_refl _)).trans ent_kno_and)
end
end Go.Fw

