/- The reference of layer 15: Unset. -/
import Derived.Test.YtfodpcpclmnbkaaDoorZTw
import Derived.Test.YtfodpcpclmnbkaaDoorZWz
import Derived.Test.YtfodpcpclmnbkaaDoorZRl
import Derived.Test.YtfodpcpclmnbkaaDoorZQs
set_option linter.unusedSimpArgs false
set_option linter.unusedVariables false
namespace Go.Proofs.YtfodpcpclmnbkaaDoor
open Go.Fw Go.RowKit
theorem sub_but : ∀ n < 11, 1 ≤ n → IntKind.u32.wrap (2046 - ((2 ^ n : Nat) : Int)) = ((2046 - 2 ^ n : Nat) : Int) := by decide +kernel
set_option maxHeartbeats 4000000 in
set_option maxRecDepth 100000 in
theorem refUnset_spec (t id kd : Int) (A : Option Addr) (l : List EntP) (c1 : Nat) (w : World) (hs : Sz l) (hl : l.length ≤ 1000000) (hse : ∀ x ∈ l, x.e.comps.length ≤ 1000000) (hr : RdW w A l) :
    Ret Tryd.prog 40 [wv t A l c1, .int .i64 id, .int .u8 kd].toArray w (RP w (RefR l t (unsL id kd (ents l)) (unsErr t id kd (ents l)))) := by
  have hV := fun w' (he : Ext w w') => refValid_spec t A l c1 w' hs (hr.ext he)
  have hF := fun w' (he : Ext w w') => refFind_spec t id A l c1 w' hs (hr.ext he)
  have hG := fun w' (he : Ext w w') => refGet_spec t id kd A l c1 w' hs (hr.ext he)
  have hWi := fun i x w' (he : Ext w w') => refwith_spec t i x A l c1 w' hs hl (hr.ext he)
  have hr1 := hr.1
  unfold foundI at hF
  unfold wv at hV hF hG hWi ⊢
  by_cases hv : ValidW t (ents l)
  case neg =>
    rw [show unsErr t id kd (ents l) = 2 from if_neg hv]
    rw [decide_eq_false hv] at hV
    clear hv hF hG hWi
    refine enterH Tryd.func40 rfl rfl Tryd.ntmps40 rfl (Wd.refl _) ?_
    (repeat' (first | (show VH _ _ _ _ _ _ _; first | refine v_seq ?_ | refine r_seq ?_ | refine v_ret ?_ | refine v_cond_t rfl tbL ?_) | (show SH _ _ _ _ _ (_ :: _) _ _ _; first | (show SH _ _ _ _ _ (⟨_, .assign _, _, _, _, _⟩ :: _) _ _ _; refine asg evL ?_) | (show SH _ _ _ _ _ (⟨_, .load _ _, _, _, _, _⟩ :: _) _ _ _; refine lba rfl spL (by rfl) ?_) | (show SH _ _ _ _ _ (⟨_, .call ⟨.value (.func 28), _, _⟩, _, _, _, _⟩ :: _) _ _ _; refine cl (callee := .func 28) rfl (fun w hw => hV _ hw.ext) rfl rfl ?_) | refine bnoF rfl ?_ | refine bld rfl rfl ?_ | refine ala rfl (fun b => ?_) | (show SH _ _ _ _ _ (⟨_, .box _ _, _, _, _, _⟩ :: _) _ _ _; refine bxx rfl evL rfl (fun b => ?_)) | (show SH _ _ _ _ _ (⟨_, .store _ _ _, _, _, _, _⟩ :: _) _ _ _; refine sta rfl rfl rfl spL (by rfl) (by rfl) (by rfl) kpL ?_)) | refine s_nil ?_ | refine kh_normal ?_ | refine kh_ret ?_))
    exact rhC2 rfl rfl rfl rfl (fun w hw => loadVar_bx hw spL (by rfl)) (refR_none (by decide)) ent_refR0
  rw [decide_eq_true hv] at hV
  cases hg : getM t id kd (ents l) with
  | none =>
    rw [show unsErr t id kd (ents l) = 6 by unfold unsErr; rw [if_pos hv, hg]; rfl]
    rw [hg] at hG
    simp only [Option.isSome_none, compD] at hG
    rw [show Flat.enc (⟨0, 0, 0, 0, 0⟩ : Comp) = [.int .u8 0, .int .i64 0, .int .i64 0, .int .i64 0, .int .i64 0] from rfl] at hG
    clear hv hF hg hWi
    refine enterH Tryd.func40 rfl rfl Tryd.ntmps40 rfl (Wd.refl _) ?_
    (repeat' (first | (show VH _ _ _ _ _ _ _; first | refine v_seq ?_ | refine r_seq ?_ | refine v_ret ?_ | refine v_skip ?_ | refine v_cond_t rfl tbL ?_ | refine v_cond_f rfl tbL ?_) | (show SH _ _ _ _ _ (_ :: _) _ _ _; first | (show SH _ _ _ _ _ (⟨_, .move _, _, _, _, _⟩ :: _) _ _ _; refine mov evL ?_) | (show SH _ _ _ _ _ (⟨_, .assign _, _, _, _, _⟩ :: _) _ _ _; refine asg evL ?_) | (show SH _ _ _ _ _ (⟨_, .load _ _, _, _, _, _⟩ :: _) _ _ _; refine lba rfl spL (by rfl) ?_) | (show SH _ _ _ _ _ (⟨_, .call ⟨.value (.func 28), _, _⟩, _, _, _, _⟩ :: _) _ _ _; refine cl (callee := .func 28) rfl (fun w hw => hV _ hw.ext) rfl rfl ?_) | (show SH _ _ _ _ _ (⟨_, .call ⟨.value (.func 32), _, _⟩, _, _, _, _⟩ :: _) _ _ _; refine cl (callee := .func 32) rfl (fun w hw => hG _ hw.ext) rfl rfl ?_) | (show SH _ _ _ _ _ (⟨_, .unOp .not _ _, _, _, _, _⟩ :: _) _ _ _; first | refine bnoT rfl ?_ | refine bnoF rfl ?_) | refine extr rfl rfl ?_ | refine bld rfl rfl ?_ | refine ala rfl (fun b => ?_) | (show SH _ _ _ _ _ (⟨_, .box _ _, _, _, _, _⟩ :: _) _ _ _; refine bxx rfl evL rfl (fun b => ?_)) | (show SH _ _ _ _ _ (⟨_, .store _ _ _, _, _, _, _⟩ :: _) _ _ _; refine sta rfl rfl rfl spL (by rfl) (by rfl) (by rfl) kpL ?_)) | refine s_nil ?_ | refine kh_normal ?_ | refine kh_ret ?_))
    exact rhC2 rfl rfl rfl rfl (fun w hw => loadVar_bx hw spL (by rfl)) (refR_none (by decide)) ent_refR0
  | some z =>
    rw [show unsErr t id kd (ents l) = 0 by unfold unsErr; rw [if_pos hv, hg]; rfl]
    have hup : Rising idE l := (rising_ents l).1 hv.up
    have hfb : findB t id l = hasK idE id l := by unfold findB; rw [decide_eq_true hv, Bool.true_and]
    have hb : hasK idE id l = true := by
      cases hb : hasK idE id l with
      | true => rfl
      | false => rw [getM_not (hfb.trans hb)] at hg; cases hg
    have hTh : thg id (ents l) = some (l.getD (lbK idE id l) Flat.dflt).e := by rw [thg_find hup, if_pos hb]
    rw [hfb, hb] at hF
    simp only [if_true] at hF
    have hg2 := hg
    rw [getM_found (hfb.trans hb)] at hg2
    have hb2 := hb
    unfold hasK at hb2
    simp only [Bool.and_eq_true, decide_eq_true_eq] at hb2
    have hlt := hb2.1
    have hx := getD_mem (d := Flat.dflt) hb2.1
    have hxR := hv.right _ (List.mem_map_of_mem (f := EntP.e) hx)
    have hxi : (l.getD (lbK idE id l) Flat.dflt).e.id = id := hb2.2
    have hzm := compK_mem hg2
    have hzk := (hxR.fits z hzm.1).kind
    rw [hzm.2] at hzk
    obtain ⟨n, rfl⟩ : ∃ n : Nat, kd = (n : Int) := ⟨kd.toNat, by omega⟩
    have hset := fun y (hy : y.e.id = id) => set_ents (l := l) (L := l) (y := y) rfl hv.up hb hy
    have hS : unsL id n (ents l) = insK Ent1.id ⟨id, (l.getD (lbK idE id l) Flat.dflt).e.comps.filter fun c => decide (kindC c ≠ (n : Int))⟩ (ents l) := by
      unfold unsL
      rw [hTh]
      show insK Ent1.id (unsE _ _) _ = _
      unfold unsE
      rw [hxi]
    rw [hS]
    have hpb := part_but (k := n) (by omega) (by omega) (fun x hx => (hxR.fits x hx).kind)
    have hPt := fun w' (he : Ext w w') => refPart_spec (l.getD (lbK idE id l) Flat.dflt) (2046 - 2 ^ n) w' (Nat.lt_of_le_of_lt (Nat.sub_le _ _) (by decide)) (hse _ hx) ((hr.2 _ hx).ext he)
    unfold OwnR at hPt
    rw [hpb, hxi] at hPt
    simp only at hPt
    have hsh := shl32 n (by omega)
    have hsb := sub_but n (by omega) (by omega)
    rw [hg] at hG
    simp only [Option.isSome_some, compD] at hG
    obtain ⟨z0, z1, z2, z3, z4⟩ := z
    rw [show Flat.enc (⟨z0, z1, z2, z3, z4⟩ : Comp) = [.int .u8 z0, .int .i64 z1, .int .i64 z2, .int .i64 z3, .int .i64 z4] from rfl] at hG
    clear hv hTh hup hfb hb2 hxR hxi hS hpb hx hg hg2 hzm hzk hb
    generalize (l.getD (lbK idE id l) Flat.dflt).e.comps.filter (fun c => decide (kindC c ≠ (n : Int))) = xs at hPt ⊢
    generalize lbK idE id l = lb at hF hset hPt hlt
    generalize 2046 - 2 ^ n = pm at hPt hsb
    generalize 2 ^ n = pw at hsh hsb
    unfold RefR
    simp only [if_true]
    refine enterH Tryd.func40 rfl rfl Tryd.ntmps40 rfl (Wd.refl _) ?_
    (repeat' ((fail_if_success (show VH _ _ (.seq (.region 7 _ _) _) _ _ _ _)); first | (show VH _ _ _ _ _ _ _; first | refine v_seq ?_ | refine r_seq ?_ | refine v_skip ?_ | refine v_cond_f rfl tbL ?_) | (show SH _ _ _ _ _ (_ :: _) _ _ _; first | (show SH _ _ _ _ _ (⟨_, .move _, _, _, _, _⟩ :: _) _ _ _; refine mov evL ?_) | (show SH _ _ _ _ _ (⟨_, .assign _, _, _, _, _⟩ :: _) _ _ _; refine asg evL ?_) | (show SH _ _ _ _ _ (⟨_, .load _ _, _, _, _, _⟩ :: _) _ _ _; refine lba rfl spL (by rfl) ?_) | (show SH _ _ _ _ _ (⟨_, .call ⟨.value (.func 28), _, _⟩, _, _, _, _⟩ :: _) _ _ _; refine cl (callee := .func 28) rfl (fun w hw => hV _ hw.ext) rfl rfl ?_) | (show SH _ _ _ _ _ (⟨_, .call ⟨.value (.func 32), _, _⟩, _, _, _, _⟩ :: _) _ _ _; refine cl (callee := .func 32) rfl (fun w hw => hG _ hw.ext) rfl rfl ?_) | (show SH _ _ _ _ _ (⟨_, .call ⟨.value (.func 61), _, _⟩, _, _, _, _⟩ :: _) _ _ _; refine cl (callee := .func 61) rfl (fun w hw => hF _ hw.ext) rfl rfl ?_) | refine bnoT rfl ?_ | refine extr rfl rfl ?_ | refine ala rfl (fun b => ?_) | (show SH _ _ _ _ _ (⟨_, .box _ _, _, _, _, _⟩ :: _) _ _ _; refine bxx rfl evL rfl (fun b => ?_)) | (show SH _ _ _ _ _ (⟨_, .store _ _ _, _, _, _, _⟩ :: _) _ _ _; refine sta rfl rfl rfl spL (by rfl) (by rfl) (by rfl) kpL ?_)) | refine s_nil ?_ | refine kh_normal ?_))
    rename_i b3 b6
    revert b
    intro b8
    refine v_seq ?_
    refine r_heldT [bx b3 25 [.int .i64 t, .slice A l.length c1]] (tr [(0, true), (1, true), (2, true), (3, true), (4, true), (5, true), (6, true), (7, false), (8, false), (9, false), (10, false), (11, false), (12, false), (13, false)] .nil) hmix (by kernel_rfl) enL ?_
    (repeat' ((show SH _ _ _ _ _ (_ :: _) _ _ _; first | (show SH _ _ _ _ _ (⟨_, .move _, _, _, _, _⟩ :: _) _ _ _; refine mov evL ?_) | (show SH _ _ _ _ _ (⟨_, .load _ _, _, _, _, _⟩ :: _) _ _ _; first | refine lbx rfl spL (by rfl) ?_ | refine lba rfl spL (by rfl) ?_ | refine lra rfl (fun _ _ => rdY) (by rfl) omL ?_ | refine lra rfl (fun _ _ => rdY) (by rfl) (by simp only [List.length_cons, List.length_nil]; omega) ?_) | (show SH _ _ _ _ _ (⟨_, .indexAddr _ _ _, _, _, _, _⟩ :: _) _ _ _; refine ix rfl rfl (by with_reducible rfl) (fun _ _ => rdY) (by rfl) omL omL ?_) | refine fad rfl ?_)))
    refine shlw rfl rfl (by omega) _ hsh ?_
    (repeat' (first | (show VH _ _ _ _ _ _ _; first | refine v_seq ?_ | refine r_seq ?_ | refine r_quiet hmix (by kernel_rfl) ?_ | refine v_block ?_ | refine v_ret ?_ | refine v_skip ?_ | refine v_exit ?_ | refine v_label ?_ | refine v_cond_t rfl tbL ?_ | refine v_cond_f rfl tbL ?_ | refine v_cond_dec rfl (fun h => ?_) (fun h => ?_) | refine v_cond_ndec rfl (fun h => ?_) (fun h => ?_) | refine v_cond rfl (fun h => ?_) (fun h => ?_)) | (show SH _ _ _ _ _ (_ :: _) _ _ _; first | (show SH _ _ _ _ _ (⟨_, .move _, _, _, _, _⟩ :: _) _ _ _; refine mov evL ?_) | (show SH _ _ _ _ _ (⟨_, .assign _, _, _, _, _⟩ :: _) _ _ _; refine asg evL ?_) | (show SH _ _ _ _ _ (⟨_, .binOp .sub _ _ _ _, _, _, _, _⟩ :: _) _ _ _; refine sub rfl rfl inL ?_) | (show SH _ _ _ _ _ (⟨_, .load _ _, _, _, _, _⟩ :: _) _ _ _; first | refine lgi rfl (fun _ _ => rdY) omL (by assumption) ?_ | refine lag rfl (fun _ _ => rdY) (by rfl) omL (by assumption) ?_ | refine lrg rfl (fun _ _ => rdY) (by rfl) omL (by assumption) (by rfl) ?_ | refine lin rfl (fun _ _ => rdY) omL ?_ | refine lbx rfl spL (by rfl) ?_ | refine lba rfl spL (by rfl) ?_ | refine lbi rfl spL omL ?_ | refine lr1 rfl (fun _ _ => rdY) (by rfl) omL (by rfl) ?_ | refine lra rfl (fun _ _ => rdY) (by rfl) omL ?_ | refine lrf rfl (fun _ _ => rdY) (by rfl) omL (by rfl) ?_ | refine lcell rfl (fun w hw => hw.ext.cell (by assumption)) ?_ | refine lrs rfl (fun _ _ => rdY) (by rfl) omL (by rfl) (by rfl) ?_ | refine lbs rfl spL (by rfl) (by rfl) ?_ | refine lca rfl (fun _ _ => rdY) (by rfl) ?_ | refine lcs rfl (fun _ _ => rdY) (by rfl) ?_ | refine lcf rfl (fun _ _ => rdY) (by rfl) ?_ | refine lrf rfl (fun _ _ => rdY) (by rfl) (by simp only [List.length_cons, List.length_nil]; omega) (by rfl) ?_ | refine lra rfl (fun _ _ => rdY) (by rfl) (by simp only [List.length_cons, List.length_nil]; omega) ?_) | (show SH _ _ _ _ _ (⟨_, .indexAddr _ _ _, _, _, _, _⟩ :: _) _ _ _; first | refine ix rfl rfl (by with_reducible rfl) (fun _ _ => rdY) (by rfl) omL omL ?_ | refine ixi rfl rfl (fun _ _ => rdY) (by rfl) omL omL omL ?_ | refine ixb rfl rfl omL ?_ | refine ixq rfl rfl (by assumption) omL omL ?_ | refine ixA _ rfl rfl rfl omL ?_ | refine ixi rfl rfl (fun _ _ => rdY) (by rfl) omL (by first | omega | (simp only [List.length_cons, List.length_nil]; omega)) (by simp only [List.length_cons, List.length_nil]; omega) ?_) | (show SH _ _ _ _ _ (⟨_, .unOp .not _ _, _, _, _, _⟩ :: _) _ _ _; first | refine bnoT rfl ?_ | refine bnoF rfl ?_ | refine bnot rfl ?_) | refine extr rfl rfl ?_ | refine fad rfl ?_ | (show SH _ _ _ _ _ (⟨_, .build _ _, _, _, _, _⟩ :: _) _ _ _; first | refine bld rfl rfl ?_ | refine bldZ ?_ | refine bldZN ?_) | (show SH _ _ _ _ _ (⟨_, .alloc _, _, _, _, _⟩ :: _) _ _ _; first | refine al1 rfl (fun b => ?_) | refine ala rfl (fun b => ?_)) | (show SH _ _ _ _ _ (⟨_, .box _ _, _, _, _, _⟩ :: _) _ _ _; refine bxx rfl evL rfl (fun b => ?_)) | (show SH _ _ _ _ _ (⟨_, .store _ _ _, _, _, _, _⟩ :: _) _ _ _; first | refine stb rfl rfl evL spL rfl rfl (by first | decide | exact Nat.zero_lt_succ _ | exact of_decide_eq_true rfl) kpL ?_ | refine sta rfl rfl rfl spL (by rfl) (by rfl) (by rfl) kpL ?_ | refine sti rfl rfl rfl spL omL kpL ?_ | refine sbi rfl rfl rfl spL omL kpL ?_ | refine sbs rfl rfl evL spL (by rfl) (by rfl) (of_decide_eq_true rfl) kpL ?_)) | refine s_nil ?_ | refine s_fork ?_ ?_ | refine s_fork3 ?_ ?_ ?_ | refine s_fork4 ?_ ?_ ?_ ?_ | refine kh_normal ?_ | refine kh_ret ?_ | refine kh_exit ?_ | refine bh_normal ?_ | refine bh_ret ?_ | refine bh_exit ?_ | refine bh_exit_ne rfl ?_))
    refine subw rfl rfl _ hsb ?_
    (repeat' ((show SH _ _ _ _ _ (⟨_, .call ⟨.value (.func 30), _, _⟩, _, _, _, _⟩ :: _) _ _ _; refine cp (callee := .func 30) rfl (fun w hw => hPt _ hw.ext) rfl rfl ?_)))
    rintro _ _ ⟨A5, c5, rfl, rfl⟩
    have hW2 := hWi lb ⟨⟨id, xs⟩, A5, c5⟩
    rw [show Flat.enc (⟨⟨id, xs⟩, A5, c5⟩ : EntP) = [.int .i64 id, .slice A5 xs.length c5] from rfl] at hW2
    have hs2 := hset ⟨⟨id, xs⟩, A5, c5⟩ rfl
    have hmm := fun y (hy : y ∈ l.set lb ⟨⟨id, xs⟩, A5, c5⟩) => List.mem_or_eq_of_mem_set hy
    clear hWi hset
    (repeat' ((show SH _ _ _ _ _ (⟨_, .call ⟨.value (.func 64), _, _⟩, _, _, _, _⟩ :: _) _ _ _; refine cp (callee := .func 64) rfl (fun w hw => hW2 _ hw.ext) rfl rfl ?_)))
    rintro _ _ ⟨A8, c8, rfl, rfl⟩
    (repeat' (first | refine v_ret ?_ | (show SH _ _ _ _ _ (_ :: _) _ _ _; first | (show SH _ _ _ _ _ (⟨_, .assign _, _, _, _, _⟩ :: _) _ _ _; refine asg evL ?_) | (show SH _ _ _ _ _ (⟨_, .store _ _ _, _, _, _, _⟩ :: _) _ _ _; refine sta rfl rfl rfl spL (by rfl) (by rfl) (by rfl) kpL ?_)) | refine s_nil ?_ | refine kh_normal ?_))
    exact rhC2 rfl rfl rfl rfl (fun w hw => loadVar_bx hw spL (by rfl)) ⟨A8, c8, _, ⟨⟨id, xs⟩, A5, c5⟩, rfl, hs2, hmm, rfl⟩ enL
end Go.Proofs.YtfodpcpclmnbkaaDoor
