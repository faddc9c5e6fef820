/- PartyLeaves: from the law's function. -/
import Derived.Test.YtlfbcoohfnoacaaZTwp
import Derived.Test.YtlfbcoohfnoacaaZMp
import Derived.Test.YtlfbcoohfnoacaaZWz
import Derived.Test.YtlfbcoohfnoacaaZUwd
import Derived.Test.YtlfbcoohfnoacaaZUg
import Derived.Test.YtlfbcoohfnoacaaZUxv
set_option linter.unusedSimpArgs false
set_option linter.unusedVariables false
namespace Go.Proofs.Ytlfbcoohfnoacaa
open Go.Fw Go.RowKit
set_option maxHeartbeats 8000000 in
set_option maxRecDepth 100000 in
theorem leavesLaw (t la : Int) (A : Option Addr) (L : List PtyP) (c : Nat) (who : Int) (W : World) (hl : L.length ≤ maxLen) (hr : RdP W A L) :
    Ret Try.prog 6 [hv36 t la A L c, .int .i64 who].toArray W (Out W (.bool true)) := by
  have haw := fun w => awake36_spec w
  have hrA := hr.1
  have hsm := fun w h => small36_spec t la A L c w hl h
  by_cases hS : SmallP L
  case neg =>
    simp only [decide_eq_false hS] at hsm
    refine enterH Try.func6 rfl rfl Try.ntmps6 rfl (Wd.refl _) ?_
    (repeat' (first | (show VH _ _ _ _ _ _ _; first | refine v_seq ?_ | refine r_seq ?_ | refine v_ret ?_ | refine v_skip ?_ | refine v_cond_t rfl tbL ?_ | refine v_cond_f rfl tbL ?_) | (show SH _ _ _ _ _ (_ :: _) _ _ _; first | (show SH _ _ _ _ _ (⟨_, _, _, _, _, some _⟩ :: _) _ _ _; (refine gif rfl rfl ?_; refine giFT tbL ?_)) | (show SH _ _ _ _ _ (⟨_, .move _, _, _, _, _⟩ :: _) _ _ _; refine mov evL ?_) | (show SH _ _ _ _ _ (⟨_, .assign _, _, _, _, _⟩ :: _) _ _ _; refine asg evL ?_) | (show SH _ _ _ _ _ (⟨_, .load _ _, _, _, _, _⟩ :: _) _ _ _; refine lba rfl spL (by rfl) ?_) | (show SH _ _ _ _ _ (⟨_, .call ⟨.value (.func 10), _, _⟩, _, _, _, _⟩ :: _) _ _ _; refine cl (callee := .func 10) rfl (fun w hw => haw w) rfl rfl ?_) | (show SH _ _ _ _ _ (⟨_, .call ⟨.value (.func 11), _, _⟩, _, _, _, _⟩ :: _) _ _ _; refine cl (callee := .func 11) rfl (fun w hw => hsm w (hrA.ext hw.ext)) rfl rfl ?_) | (show SH _ _ _ _ _ (⟨_, .unOp .not _ _, _, _, _, _⟩ :: _) _ _ _; first | refine bnoT rfl ?_ | refine bnoF rfl ?_) | (show SH _ _ _ _ _ (⟨_, .pick _ _ _, _, _, _, _⟩ :: _) _ _ _; refine pkt rfl tbL evL ?_) | (show SH _ _ _ _ _ (⟨_, .box _ _, _, _, _, _⟩ :: _) _ _ _; refine bxx rfl evL rfl (fun b => ?_))) | refine s_nil ?_ | refine kh_normal ?_ | refine kh_ret ?_))
    exact rh1 rfl rfl ⟨rfl, rfl⟩ (ent_nil _)
  simp only [decide_eq_true hS] at hsm
  have hz := hS.sz
  have hvs := fun w hr => valid_spec t la A L c w hz hr
  cases hval : validHal ⟨t, la, ptys L⟩ with
  | false =>
    rw [hval] at hvs
    refine enterH Try.func6 rfl rfl Try.ntmps6 rfl (Wd.refl _) ?_
    (repeat' (first | (show VH _ _ _ _ _ _ _; first | refine v_seq ?_ | refine r_seq ?_ | refine v_ret ?_ | refine v_skip ?_ | refine v_cond_t rfl tbL ?_ | refine v_cond_f rfl tbL ?_) | (show SH _ _ _ _ _ (_ :: _) _ _ _; first | (show SH _ _ _ _ _ (⟨_, _, _, _, _, some _⟩ :: _) _ _ _; (refine gif rfl rfl ?_; refine giFF tbL ?_)) | (show SH _ _ _ _ _ (⟨_, .move _, _, _, _, _⟩ :: _) _ _ _; refine mov evL ?_) | (show SH _ _ _ _ _ (⟨_, .assign _, _, _, _, _⟩ :: _) _ _ _; refine asg evL ?_) | (show SH _ _ _ _ _ (⟨_, .load _ _, _, _, _, _⟩ :: _) _ _ _; refine lba rfl spL (by rfl) ?_) | (show SH _ _ _ _ _ (⟨_, .call ⟨.value (.func 10), _, _⟩, _, _, _, _⟩ :: _) _ _ _; refine cl (callee := .func 10) rfl (fun w hw => haw w) rfl rfl ?_) | (show SH _ _ _ _ _ (⟨_, .call ⟨.value (.func 11), _, _⟩, _, _, _, _⟩ :: _) _ _ _; refine cl (callee := .func 11) rfl (fun w hw => hsm w (hrA.ext hw.ext)) rfl rfl ?_) | (show SH _ _ _ _ _ (⟨_, .call ⟨.value (.func 12), _, _⟩, _, _, _, _⟩ :: _) _ _ _; refine cl (callee := .func 12) rfl (fun w hw => hvs w (hr.ext hw.ext)) rfl rfl ?_) | (show SH _ _ _ _ _ (⟨_, .unOp .not _ _, _, _, _, _⟩ :: _) _ _ _; first | refine bnoT rfl ?_ | refine bnoF rfl ?_) | (show SH _ _ _ _ _ (⟨_, .pick _ _ _, _, _, _, _⟩ :: _) _ _ _; refine pkf rfl tbL evL ?_) | (show SH _ _ _ _ _ (⟨_, .box _ _, _, _, _, _⟩ :: _) _ _ _; refine bxx rfl evL rfl (fun b => ?_))) | refine s_nil ?_ | refine kh_normal ?_ | refine kh_ret ?_))
    exact rh1 rfl rfl ⟨rfl, rfl⟩ (ent_nil _)
  | true =>
    rw [hval] at hvs
    have hV := valid_iff.1 hval
    have hll := hz.len
    have hof := fun w hr => of_spec t la A L c who w hz hr
    have hlv := fun w hr => leaveO_spec t la A L c who w hz hr
    cases hfd : findM who (ptys L) with
    | none =>
      have e1 : ofM ⟨t, la, ptys L⟩ who = none := by unfold ofM; rw [hval, if_pos rfl]; simp only [hfd, Option.map_none]
      have e2 : leaveM ⟨t, la, ptys L⟩ who = (hal0, 6) := by unfold leaveM; rw [hval, if_pos rfl]; simp only [hfd]
      rw [e1] at hof
      rw [e2] at hlv
      clear hV e1 e2
      refine enterH Try.func6 rfl rfl Try.ntmps6 rfl (Wd.refl _) ?_
      (repeat' (first | (show VH _ _ _ _ _ _ _; first | refine v_seq ?_ | refine r_seq ?_ | refine v_skip ?_ | refine v_cond_f rfl tbL ?_) | (show SH _ _ _ _ _ (_ :: _) _ _ _; first | (show SH _ _ _ _ _ (⟨_, _, _, _, _, some _⟩ :: _) _ _ _; (refine gif rfl rfl ?_; refine giFF tbL ?_)) | (show SH _ _ _ _ _ (⟨_, .move _, _, _, _, _⟩ :: _) _ _ _; refine mov evL ?_) | (show SH _ _ _ _ _ (⟨_, .assign _, _, _, _, _⟩ :: _) _ _ _; refine asg evL ?_) | (show SH _ _ _ _ _ (⟨_, .load _ _, _, _, _, _⟩ :: _) _ _ _; refine lba rfl spL (by rfl) ?_) | (show SH _ _ _ _ _ (⟨_, .call ⟨.value (.func 10), _, _⟩, _, _, _, _⟩ :: _) _ _ _; refine cl (callee := .func 10) rfl (fun w hw => haw w) rfl rfl ?_) | (show SH _ _ _ _ _ (⟨_, .call ⟨.value (.func 11), _, _⟩, _, _, _, _⟩ :: _) _ _ _; refine cl (callee := .func 11) rfl (fun w hw => hsm w (hrA.ext hw.ext)) rfl rfl ?_) | (show SH _ _ _ _ _ (⟨_, .call ⟨.value (.func 12), _, _⟩, _, _, _, _⟩ :: _) _ _ _; refine cl (callee := .func 12) rfl (fun w hw => hvs w (hr.ext hw.ext)) rfl rfl ?_) | (show SH _ _ _ _ _ (⟨_, .call ⟨.value (.func 17), _, _⟩, _, _, _, _⟩ :: _) _ _ _; refine cp (callee := .func 17) rfl (fun w hw => hof w (hr.ext hw.ext)) rfl rfl ?_) | refine bnoT rfl ?_ | (show SH _ _ _ _ _ (⟨_, .pick _ _ _, _, _, _, _⟩ :: _) _ _ _; refine pkf rfl tbL evL ?_) | (show SH _ _ _ _ _ (⟨_, .box _ _, _, _, _, _⟩ :: _) _ _ _; refine bxx rfl evL rfl (fun b => ?_))) | refine s_nil ?_ | refine kh_normal ?_))
      rintro _ _ ⟨rfl, rfl⟩
      (repeat' (first | (show VH _ _ _ _ _ _ _; first | refine v_seq ?_ | refine r_seq ?_) | (show SH _ _ _ _ _ (_ :: _) _ _ _; first | (show SH _ _ _ _ _ (⟨_, .move _, _, _, _, _⟩ :: _) _ _ _; refine mov evL ?_) | (show SH _ _ _ _ _ (⟨_, .assign _, _, _, _, _⟩ :: _) _ _ _; refine asg evL ?_) | (show SH _ _ _ _ _ (⟨_, .load _ _, _, _, _, _⟩ :: _) _ _ _; refine lba rfl spL (by rfl) ?_) | (show SH _ _ _ _ _ (⟨_, .call ⟨.value (.func 22), _, _⟩, _, _, _, _⟩ :: _) _ _ _; refine cp (callee := .func 22) rfl (fun w hw => hlv w (hr.ext hw.ext)) rfl rfl ?_) | refine extr rfl rfl ?_ | refine ala rfl (fun b => ?_) | (show SH _ _ _ _ _ (⟨_, .store _ _ _, _, _, _, _⟩ :: _) _ _ _; refine sta rfl rfl rfl spL (by rfl) (by rfl) (by rfl) kpL ?_)) | refine s_nil ?_ | refine kh_normal ?_))
      rintro _ _ ⟨Ax, cx, Lx, hpx, rfl, rfl⟩
      (repeat' (first | (show VH _ _ _ _ _ _ _; first | refine v_seq ?_ | refine r_seq ?_ | refine v_ret ?_ | refine v_cond_t rfl tbL ?_) | (show SH _ _ _ _ _ (_ :: _) _ _ _; first | (show SH _ _ _ _ _ (⟨_, .move _, _, _, _, _⟩ :: _) _ _ _; refine mov evL ?_) | (show SH _ _ _ _ _ (⟨_, .assign _, _, _, _, _⟩ :: _) _ _ _; refine asg evL ?_) | (show SH _ _ _ _ _ (⟨_, .binOp .eql _ _ _ _, _, _, _, _⟩ :: _) _ _ _; refine eqlT rfl rfl omD ?_) | refine bnoF rfl ?_ | refine extr rfl rfl ?_ | refine ala rfl (fun b => ?_) | (show SH _ _ _ _ _ (⟨_, .store _ _ _, _, _, _, _⟩ :: _) _ _ _; refine sta rfl rfl rfl spL (by rfl) (by rfl) (by rfl) kpL ?_)) | refine s_nil ?_ | refine kh_normal ?_ | refine kh_ret ?_))
      exact rh1 rfl rfl ⟨rfl, rfl⟩ (ent_nil _)
    | some k =>
      have hk := (findM_some _ hfd).1
      rw [ptys_len] at hk
      have hpk := ptys_at hk
      have e1 : ofM ⟨t, la, ptys L⟩ who = some (L.getD k Flat.dflt).p := by unfold ofM; rw [hval, if_pos rfl]; simp only [hfd, Option.map_some, hpk]
      have e2 : leaveM ⟨t, la, ptys L⟩ who = (leaveAt ⟨t, la, ptys L⟩ k who, 0) := by unfold leaveM; rw [hval, if_pos rfl]; simp only [hfd]
      have hgone := leave_gone hV hfd
      have hlast := leave_last hV hfd
      have hrest := leave_rest hV hfd
      have hkick := kick_leave hV hfd
      have hVn : VHal (leaveAt ⟨t, la, ptys L⟩ k who) := leave_val hV hfd
      have hok := hV.ok _ (List.mem_map_of_mem (f := PtyP.p) (getD_mem (d := Flat.dflt) hk))
      have hn1 : 1 ≤ (L.getD k Flat.dflt).p.mem.length := hok.2.1
      have hn5 : (L.getD k Flat.dflt).p.mem.length + (L.getD k Flat.dflt).p.inv.length ≤ 5 := hok.2.2.1
      have hFl := filter_ne_len (mem_nodup hV (findM_some _ hfd).1) (findM_some _ hfd).2
      rw [leaveAt_eq] at e2 hgone hlast hrest hkick hVn
      simp only [hpk] at hlast hrest hkick hFl
      rw [e1] at hof
      rw [e2] at hlv
      clear hok hpk e1 e2
      generalize leaveP (ptys L) k who = ps at hlv hgone hlast hrest hkick hVn
      obtain ⟨x, hx⟩ : ∃ x, (L.getD k Flat.dflt).p = x := ⟨_, rfl⟩
      rw [hx] at hlast hrest hkick hn1 hn5 hof hFl
      obtain ⟨xi, xl, xm, xv⟩ := x
      simp only at hlast hrest hkick hn1 hn5 hgone hFl
      clear hx hV hfd
      refine enterH Try.func6 rfl rfl Try.ntmps6 rfl (Wd.refl _) ?_
      (repeat' (first | (show VH _ _ _ _ _ _ _; first | refine v_seq ?_ | refine r_seq ?_ | refine v_skip ?_ | refine v_cond_f rfl tbL ?_) | (show SH _ _ _ _ _ (_ :: _) _ _ _; first | (show SH _ _ _ _ _ (⟨_, _, _, _, _, some _⟩ :: _) _ _ _; (refine gif rfl rfl ?_; refine giFF tbL ?_)) | (show SH _ _ _ _ _ (⟨_, .move _, _, _, _, _⟩ :: _) _ _ _; refine mov evL ?_) | (show SH _ _ _ _ _ (⟨_, .assign _, _, _, _, _⟩ :: _) _ _ _; refine asg evL ?_) | (show SH _ _ _ _ _ (⟨_, .load _ _, _, _, _, _⟩ :: _) _ _ _; refine lba rfl spL (by rfl) ?_) | (show SH _ _ _ _ _ (⟨_, .call ⟨.value (.func 10), _, _⟩, _, _, _, _⟩ :: _) _ _ _; refine cl (callee := .func 10) rfl (fun w hw => haw w) rfl rfl ?_) | (show SH _ _ _ _ _ (⟨_, .call ⟨.value (.func 11), _, _⟩, _, _, _, _⟩ :: _) _ _ _; refine cl (callee := .func 11) rfl (fun w hw => hsm w (hrA.ext hw.ext)) rfl rfl ?_) | (show SH _ _ _ _ _ (⟨_, .call ⟨.value (.func 12), _, _⟩, _, _, _, _⟩ :: _) _ _ _; refine cl (callee := .func 12) rfl (fun w hw => hvs w (hr.ext hw.ext)) rfl rfl ?_) | (show SH _ _ _ _ _ (⟨_, .call ⟨.value (.func 17), _, _⟩, _, _, _, _⟩ :: _) _ _ _; refine cp (callee := .func 17) rfl (fun w hw => hof w (hr.ext hw.ext)) rfl rfl ?_) | refine bnoT rfl ?_ | (show SH _ _ _ _ _ (⟨_, .pick _ _ _, _, _, _, _⟩ :: _) _ _ _; refine pkf rfl tbL evL ?_) | (show SH _ _ _ _ _ (⟨_, .box _ _, _, _, _, _⟩ :: _) _ _ _; refine bxx rfl evL rfl (fun b => ?_))) | refine s_nil ?_ | refine kh_normal ?_))
      rintro _ _ ⟨⟨yp, yA, yca, yB, ycb⟩, hyp, rfl, rfl⟩
      simp only at hyp
      subst hyp
      rw [show Flat.enc (⟨⟨xi, xl, xm, xv⟩, yA, yca, yB, ycb⟩ : PtyP) = [.int .i64 xi, .int .i64 xl, .slice yA xm.length yca, .slice yB xv.length ycb] from rfl]
      revert b
      intro b2
      have hlvK := fun w hr => outK_of rfl (hlv w hr)
      (repeat' (first | (show VH _ _ _ _ _ _ _; first | refine v_seq ?_ | refine r_seq ?_) | (show SH _ _ _ _ _ (_ :: _) _ _ _; first | (show SH _ _ _ _ _ (⟨_, .move _, _, _, _, _⟩ :: _) _ _ _; refine mov evL ?_) | (show SH _ _ _ _ _ (⟨_, .assign _, _, _, _, _⟩ :: _) _ _ _; refine asg evL ?_) | (show SH _ _ _ _ _ (⟨_, .load _ _, _, _, _, _⟩ :: _) _ _ _; refine lba rfl spL (by rfl) ?_) | (show SH _ _ _ _ _ (⟨_, .call ⟨.value (.func 22), _, _⟩, _, _, _, _⟩ :: _) _ _ _; refine cp (callee := .func 22) rfl (fun w hw => hlvK w (hr.ext hw.ext)) rfl rfl ?_) | refine extr rfl rfl ?_ | refine ala rfl (fun b => ?_) | (show SH _ _ _ _ _ (⟨_, .store _ _ _, _, _, _, _⟩ :: _) _ _ _; refine sta rfl rfl rfl spL (by rfl) (by rfl) (by rfl) kpL ?_)) | refine s_nil ?_ | refine kh_normal ?_))
      rintro _ _ ⟨Ax, cx, Lx, hpx, rfl, rfl⟩
      revert b
      intro b5
      simp only at hpx ⊢
      have hzx := szP_val hVn hpx
      have hon := fun w hr => of_spec t la Ax Lx cx who w hzx hr
      have e3 : ofM ⟨t, la, ptys Lx⟩ who = none := by unfold ofM; simp only [hpx, hgone]; split <;> rfl
      rw [e3] at hon
      have hfi := fun w hr => find36_spec t la Ax Lx cx xi w (by have := hzx.len; omega) hr
      have hki := fun w hr => outK_of hkick (kick_spec t la A L c xl who w hz hr)
      clear hof hlv hlvK e3 haw hsm hvs hkick
      (repeat' (first | (show VH _ _ _ _ _ _ _; first | refine v_seq ?_ | refine r_seq ?_ | refine v_skip ?_ | refine v_cond_f rfl tbL ?_) | (show SH _ _ _ _ _ (_ :: _) _ _ _; first | (show SH _ _ _ _ _ (⟨_, .move _, _, _, _, _⟩ :: _) _ _ _; refine mov evL ?_) | (show SH _ _ _ _ _ (⟨_, .assign _, _, _, _, _⟩ :: _) _ _ _; refine asg evL ?_) | (show SH _ _ _ _ _ (⟨_, .load _ _, _, _, _, _⟩ :: _) _ _ _; refine lba rfl spL (by rfl) ?_) | (show SH _ _ _ _ _ (⟨_, .call ⟨.value (.func 17), _, _⟩, _, _, _, _⟩ :: _) _ _ _; refine cp (callee := .func 17) rfl (fun w hw => hon w (Wd.kp hw spL)) rfl rfl ?_) | refine bnoT rfl ?_ | refine extr rfl rfl ?_ | refine ala rfl (fun b => ?_) | (show SH _ _ _ _ _ (⟨_, .store _ _ _, _, _, _, _⟩ :: _) _ _ _; refine sta rfl rfl rfl spL (by rfl) (by rfl) (by rfl) kpL ?_)) | refine s_nil ?_ | refine kh_normal ?_))
      rintro _ _ ⟨rfl, rfl⟩
      revert b
      intro b7
      unfold findV at hfi
      rw [hpx] at hfi
      by_cases h1 : xm.length = 1
      · obtain ⟨g1, g2⟩ := hlast h1
        rw [g1] at hfi
        have g3 : Lx.length + 1 = L.length := by rw [← ptys_len Lx, hpx, g2, ptys_len]
        simp only at hfi
        clear hrest hlast hki
        (repeat' (first | (show VH _ _ _ _ _ _ _; first | refine v_seq ?_ | refine r_seq ?_ | refine v_ret ?_ | refine v_skip ?_ | refine v_cond_t rfl tbL ?_ | refine v_cond_f rfl tbL ?_) | (show SH _ _ _ _ _ (_ :: _) _ _ _; first | (show SH _ _ _ _ _ (⟨_, _, _, _, _, some _⟩ :: _) _ _ _; (refine gif rfl rfl ?_; first | refine giTT tbL ?_ | refine giFF tbL ?_)) | (show SH _ _ _ _ _ (⟨_, .move _, _, _, _, _⟩ :: _) _ _ _; refine mov evL ?_) | (show SH _ _ _ _ _ (⟨_, .assign _, _, _, _, _⟩ :: _) _ _ _; refine asg evL ?_) | (show SH _ _ _ _ _ (⟨_, .binOp .eql _ _ _ _, _, _, _, _⟩ :: _) _ _ _; refine eqlT rfl rfl omD ?_) | (show SH _ _ _ _ _ (⟨_, .binOp .neq _ _ _ _, _, _, _, _⟩ :: _) _ _ _; refine neqF rfl rfl omD ?_) | (show SH _ _ _ _ _ (⟨_, .binOp .sub _ _ _ _, _, _, _, _⟩ :: _) _ _ _; refine sub rfl rfl inL ?_) | (show SH _ _ _ _ _ (⟨_, .load _ _, _, _, _, _⟩ :: _) _ _ _; first | refine lbx rfl spL (by rfl) ?_ | refine lba rfl spL (by rfl) ?_) | refine slen rfl ?_ | (show SH _ _ _ _ _ (⟨_, .call ⟨.value (.func 18), _, _⟩, _, _, _, _⟩ :: _) _ _ _; refine cl (callee := .func 18) rfl (fun w hw => hfi w (Wd.kp hw spL).1) rfl rfl ?_) | refine bnoF rfl ?_ | (show SH _ _ _ _ _ (⟨_, .pick _ _ _, _, _, _, _⟩ :: _) _ _ _; first | refine pkt rfl tbL evL ?_ | refine pkf rfl tbL evL ?_) | refine extr rfl rfl ?_ | refine fad rfl ?_ | refine ala rfl (fun b => ?_) | (show SH _ _ _ _ _ (⟨_, .store _ _ _, _, _, _, _⟩ :: _) _ _ _; refine sta rfl rfl rfl spL (by rfl) (by rfl) (by rfl) kpL ?_)) | refine s_nil ?_ | refine kh_normal ?_ | refine kh_ret ?_))
        exact rh1 rfl rfl ⟨rfl, rfl⟩ (ent_nil _)
      · obtain ⟨q, q1, q2, q3, q4, q5, q6, q7⟩ := hrest h1
        rw [q2] at hfi
        simp only at hfi
        have q8 : ps = (ptys L).set k q := by injection q1
        have hxl : Lx.length = L.length := by rw [← ptys_len Lx, hpx, q8, List.length_set, ptys_len]
        have hkx : k < Lx.length := by omega
        have hzp : (Lx.getD k Flat.dflt).p = q := by rw [← ptys_at hkx, hpx]; exact q3
        have hzm := fun w (h : RdP w Ax Lx) => h.mem hkx
        obtain ⟨z, hze⟩ : ∃ z, Lx.getD k Flat.dflt = z := ⟨_, rfl⟩
        rw [hze] at hzp hzm hfi
        obtain ⟨zp, zA, zca, zB, zcb⟩ := z
        simp only at hzp hzm
        subst hzp
        obtain ⟨zi, zl, zm, zv⟩ := zp
        simp only at q4 q5 q6 q7 hzm
        rw [show Flat.enc (⟨⟨zi, zl, zm, zv⟩, zA, zca, zB, zcb⟩ : PtyP) = [.int .i64 zi, .int .i64 zl, .slice zA zm.length zca, .slice zB zv.length zcb] from rfl] at hfi
        obtain ⟨gg, hgg⟩ : ∃ gg : Int → Bool, (fun n => !decide (n = who)) = gg := ⟨_, rfl⟩
        rw [hgg] at q5 hFl
        have hvl : zv.length = xv.length := by rw [q6]
        clear hlast hrest q1 q2 q3 q4 q6 hgone hze q8
        (repeat' (first | (show VH _ _ _ _ _ _ _; first | refine v_seq ?_ | refine r_seq ?_ | refine v_block ?_ | refine v_skip ?_ | refine v_cond_f rfl tbL ?_) | (show SH _ _ _ _ _ (_ :: _) _ _ _; first | (show SH _ _ _ _ _ (⟨_, _, _, _, _, some _⟩ :: _) _ _ _; (refine gif rfl rfl ?_; refine giFF tbL ?_)) | (show SH _ _ _ _ _ (⟨_, .move _, _, _, _, _⟩ :: _) _ _ _; refine mov evL ?_) | (show SH _ _ _ _ _ (⟨_, .assign _, _, _, _, _⟩ :: _) _ _ _; refine asg evL ?_) | (show SH _ _ _ _ _ (⟨_, .binOp .eql _ _ _ _, _, _, _, _⟩ :: _) _ _ _; refine eqlF rfl rfl omD ?_) | (show SH _ _ _ _ _ (⟨_, .binOp .neq _ _ _ _, _, _, _, _⟩ :: _) _ _ _; refine neqF rfl rfl omD ?_) | (show SH _ _ _ _ _ (⟨_, .load _ _, _, _, _, _⟩ :: _) _ _ _; first | refine lbx rfl spL (by rfl) ?_ | refine lba rfl spL (by rfl) ?_) | refine slen rfl ?_ | (show SH _ _ _ _ _ (⟨_, .call ⟨.value (.func 18), _, _⟩, _, _, _, _⟩ :: _) _ _ _; refine cl (callee := .func 18) rfl (fun w hw => hfi w (Wd.kp hw spL).1) rfl rfl ?_) | (show SH _ _ _ _ _ (⟨_, .pick _ _ _, _, _, _, _⟩ :: _) _ _ _; refine pkf rfl tbL evL ?_) | refine extr rfl rfl ?_ | refine fad rfl ?_ | refine ala rfl (fun b => ?_) | (show SH _ _ _ _ _ (⟨_, .store _ _ _, _, _, _, _⟩ :: _) _ _ _; refine sta rfl rfl rfl spL (by rfl) (by rfl) (by rfl) kpL ?_)) | refine s_nil ?_ | refine kh_normal ?_))
        revert b
        intro b11
        refine v_norm [(1,_),(2,_),(5,_),(7,_),(11,_),(12,_),(13,_),(14,_)] heL (fun g => ?_)
        refine VH.ent (G := [orow 3 none 0 ([] : List Int), bx b11 37 [.int .i64 zi, .int .i64 zl, .slice zA zm.length zca, .slice zB zv.length zcb], bx b7 24 [.int .i64 t, .int .i64 la, .slice Ax Lx.length cx], knp Ax Lx, bx b5 37 [.int .i64 xi, .int .i64 xl, .slice yA xm.length yca, .slice yB xv.length ycb], orow 3 yA yca xm, bx b2 24 [.int .i64 t, .int .i64 la, .slice A L.length c]]) ?_ (ent_nilrow enL)
        refine v_loop [(13,14),(77,98)] (fun y : Nat × Option Addr × Nat => [(14, .int .i64 y.1), (13, .slice y.2.1 ((xm.take y.1).filter gg).length y.2.2)]) (fun y => [orow 3 y.2.1 y.2.2 ((xm.take y.1).filter gg), bx b11 37 [.int .i64 zi, .int .i64 zl, .slice zA zm.length zca, .slice zB zv.length zcb], bx b7 24 [.int .i64 t, .int .i64 la, .slice Ax Lx.length cx], knp Ax Lx, bx b5 37 [.int .i64 xi, .int .i64 xl, .slice yA xm.length yca, .slice yB xv.length ycb], orow 3 yA yca xm, bx b2 24 [.int .i64 t, .int .i64 la, .slice A L.length c]]) (fun y => y.1 ≤ xm.length) (fun y => xm.length - y.1) (0, none, 0) hsL enL (Nat.zero_le _) ?_
        rintro ⟨i, B, d⟩ g hi
        simp only [sets]
        simp only at hi
        by_cases hil : i < xm.length
        · have hft := filter_take36 (0 : Int) gg hil
          have hfl : ((xm.take i).filter gg).length ≤ xm.length := by have := List.length_filter_le gg (xm.take i); rw [List.length_take] at this; omega
          obtain ⟨u, hu⟩ : ∃ u, xm.getD i 0 = u := ⟨_, rfl⟩
          rw [hu] at hft
          by_cases huw : u = who
          · have hg1 : gg u = false := by rw [← hgg]; simp [huw]
            rw [hg1] at hft
            have hf2 : (xm.take (i + 1)).filter gg = (xm.take i).filter gg := by rw [hft]; simp
            clear hft hg1
            (repeat' (first | (show VH _ _ _ _ _ _ _; first | refine v_seq ?_ | refine r_seq ?_ | refine v_block ?_ | refine v_skip ?_ | refine v_cond_t rfl tbL ?_ | refine v_cond_f rfl tbL ?_) | (show SH _ _ _ _ _ (_ :: _) _ _ _; first | (show SH _ _ _ _ _ (⟨_, .move _, _, _, _, _⟩ :: _) _ _ _; refine mov evL ?_) | (show SH _ _ _ _ _ (⟨_, .assign _, _, _, _, _⟩ :: _) _ _ _; refine asg evL ?_) | (show SH _ _ _ _ _ (⟨_, .binOp .lss _ _ _ _, _, _, _, _⟩ :: _) _ _ _; refine lssT rfl rfl omD ?_) | (show SH _ _ _ _ _ (⟨_, .binOp .neq _ _ _ _, _, _, _, _⟩ :: _) _ _ _; refine neqF rfl rfl omD ?_) | (show SH _ _ _ _ _ (⟨_, .binOp .add _ _ _ _, _, _, _, _⟩ :: _) _ _ _; refine add rfl rfl inL ?_) | (show SH _ _ _ _ _ (⟨_, .load _ _, _, _, _, _⟩ :: _) _ _ _; first | refine lbx rfl spL (by rfl) ?_ | refine lgi rfl (fun _ _ => rdP) omL (by assumption) ?_) | (show SH _ _ _ _ _ (⟨_, .indexAddr _ _ _, _, _, _, _⟩ :: _) _ _ _; refine ix rfl rfl (by with_reducible rfl) (fun _ _ => rdP) (by rfl) omL omL ?_) | refine slen rfl ?_ | refine fad rfl ?_) | refine s_nil ?_ | refine kh_normal ?_ | refine bh_normal ?_))
            exact ⟨agL, (i + 1, B, d), by rw [hf2]; (repeat (first | exact trivial | refine And.intro rfl ?_)), by rw [hf2]; exact enL, hil, by show xm.length - (i + 1) < xm.length - i; omega⟩
          · have hg1 : gg u = true := by rw [← hgg]; simp [huw]
            rw [hg1] at hft
            have hf2 : (xm.take (i + 1)).filter gg = (xm.take i).filter gg ++ [u] := by rw [hft]; simp
            clear hft hg1
            generalize (xm.take i).filter gg = F at hf2 hfl ⊢
            (repeat' (first | (show VH _ _ _ _ _ _ _; first | refine v_seq ?_ | refine r_seq ?_ | refine v_block ?_ | refine v_skip ?_ | refine v_cond_t rfl tbL ?_) | (show SH _ _ _ _ _ (_ :: _) _ _ _; first | (show SH _ _ _ _ _ (⟨_, .move _, _, _, _, _⟩ :: _) _ _ _; refine mov evL ?_) | (show SH _ _ _ _ _ (⟨_, .binOp .lss _ _ _ _, _, _, _, _⟩ :: _) _ _ _; refine lssT rfl rfl omD ?_) | (show SH _ _ _ _ _ (⟨_, .binOp .neq _ _ _ _, _, _, _, _⟩ :: _) _ _ _; refine neqT rfl rfl omD ?_) | (show SH _ _ _ _ _ (⟨_, .load _ _, _, _, _, _⟩ :: _) _ _ _; first | refine lbx rfl spL (by rfl) ?_ | refine lgi rfl (fun _ _ => rdP) omL (by assumption) ?_) | (show SH _ _ _ _ _ (⟨_, .indexAddr _ _ _, _, _, _, _⟩ :: _) _ _ _; refine ix rfl rfl (by with_reducible rfl) (fun _ _ => rdP) (by rfl) omL omL ?_) | refine slen rfl ?_ | refine fad rfl ?_ | (show SH _ _ _ _ _ (⟨_, .buildSlice _ _ _, _, _, _, _⟩ :: _) _ _ _; refine bsl (α := Int) rfl rfl (by repeat (first | exact Vals.nil | (apply Vals.cons; rfl))) rfl (by rfl) (by decide) (fun b => ?_))) | refine s_nil ?_ | refine kh_normal ?_))
            refine app (l := F) (l2 := [u]) rfl rfl rfl spL (fun w hw => hw.rd spL) rfl rfl rfl (by simp only [List.length_singleton]; omega) (by simp only [List.length_singleton]; omega) (fun A4 c4 => ⟨trivial, ?_⟩)
            (repeat' (first | refine r_seq ?_ | (show SH _ _ _ _ _ (_ :: _) _ _ _; first | (show SH _ _ _ _ _ (⟨_, .move _, _, _, _, _⟩ :: _) _ _ _; refine mov evL ?_) | (show SH _ _ _ _ _ (⟨_, .assign _, _, _, _, _⟩ :: _) _ _ _; refine asg evL ?_) | (show SH _ _ _ _ _ (⟨_, .binOp .add _ _ _ _, _, _, _, _⟩ :: _) _ _ _; refine add rfl rfl inL ?_)) | refine s_nil ?_ | refine kh_normal ?_ | refine bh_normal ?_))
            exact ⟨agL, (i + 1, A4, c4), by rw [hf2]; (repeat (first | exact trivial | refine And.intro rfl ?_)), by rw [hf2]; exact enL, hil, by show xm.length - (i + 1) < xm.length - i; omega⟩
        · obtain rfl : i = xm.length := by omega
          rw [List.take_length]
          rw [← q5] at hFl ⊢
          have hsi := fun w h1 h2 => sameInts_spec zA B zm zm zca d w (by omega) (by omega) h1 h2
          simp only [decide_true] at hsi
          have hF1 : 1 ≤ zm.length := by omega
          by_cases hlw : xl = who
          · rw [if_pos hlw] at q7
            have h7 : zm.getD (Int.toNat 0) 0 = zl := q7.symm
            rw [if_pos (hlw.symm)] at hki
            clear q7 hi hil q5
            (repeat' (first | (show VH _ _ _ _ _ _ _; first | refine v_seq ?_ | refine r_seq ?_ | refine r_quiet hmix (by kernel_rfl) ?_ | refine v_skip ?_ | refine v_exit ?_ | refine v_cond_f rfl tbL ?_) | (show SH _ _ _ _ _ (_ :: _) _ _ _; first | (show SH _ _ _ _ _ (⟨_, _, _, _, _, some _⟩ :: _) _ _ _; (refine gif rfl rfl ?_; first | refine giTT tbL ?_ | refine giTF tbL ?_ | refine giFF tbL ?_)) | (show SH _ _ _ _ _ (⟨_, .move _, _, _, _, _⟩ :: _) _ _ _; refine mov evL ?_) | (show SH _ _ _ _ _ (⟨_, .binOp .lss _ _ _ _, _, _, _, _⟩ :: _) _ _ _; refine lssF rfl rfl omD ?_) | (show SH _ _ _ _ _ (⟨_, .binOp .eql _ _ _ _, _, _, _, _⟩ :: _) _ _ _; refine eqlT rfl rfl omD ?_) | (show SH _ _ _ _ _ (⟨_, .binOp .neq _ _ _ _, _, _, _, _⟩ :: _) _ _ _; refine neqF rfl rfl omD ?_) | (show SH _ _ _ _ _ (⟨_, .load _ _, _, _, _, _⟩ :: _) _ _ _; first | refine lbx rfl spL (by rfl) ?_ | refine lba rfl spL (by rfl) ?_ | refine lgi rfl (fun _ _ => rdP) omL (by assumption) ?_) | (show SH _ _ _ _ _ (⟨_, .indexAddr _ _ _, _, _, _, _⟩ :: _) _ _ _; first | refine ixi rfl rfl (fun _ _ => rdP) (by rfl) omL omL omL ?_ | refine ixi rfl rfl (fun _ _ => rdP) (by rfl) omL (by first | omega | (simp only [List.length_cons, List.length_nil]; omega)) (by simp only [List.length_cons, List.length_nil]; omega) ?_) | refine slen rfl ?_ | (show SH _ _ _ _ _ (⟨_, .call ⟨.value (.func 19), _, _⟩, _, _, _, _⟩ :: _) _ _ _; refine cl (callee := .func 19) rfl (fun w hw => hsi w (hzm w (Wd.kp hw spL)) (hw.rd spL)) rfl rfl ?_) | (show SH _ _ _ _ _ (⟨_, .call ⟨.value (.func 23), _, _⟩, _, _, _, _⟩ :: _) _ _ _; refine cp (callee := .func 23) rfl (fun w hw => hki w (hr.ext hw.ext)) rfl rfl ?_) | refine bnoT rfl ?_ | (show SH _ _ _ _ _ (⟨_, .pick _ _ _, _, _, _, _⟩ :: _) _ _ _; first | refine pkt rfl tbL evL ?_ | refine pkf rfl tbL evL ?_) | refine fad rfl ?_) | refine s_nil ?_ | refine kh_normal ?_ | refine kh_exit ?_ | refine bh_exit ?_))
            rintro _ _ ⟨Ay, cy_, Ly, hpy, rfl, rfl⟩
            (repeat' (first | (show VH _ _ _ _ _ _ _; first | refine v_seq ?_ | refine r_seq ?_ | refine v_ret ?_ | refine v_cond_t rfl tbL ?_) | (show SH _ _ _ _ _ (_ :: _) _ _ _; first | (show SH _ _ _ _ _ (⟨_, .move _, _, _, _, _⟩ :: _) _ _ _; refine mov evL ?_) | (show SH _ _ _ _ _ (⟨_, .assign _, _, _, _, _⟩ :: _) _ _ _; refine asg evL ?_) | (show SH _ _ _ _ _ (⟨_, .binOp .eql _ _ _ _, _, _, _, _⟩ :: _) _ _ _; refine eqlT rfl rfl omD ?_) | (show SH _ _ _ _ _ (⟨_, .load _ _, _, _, _, _⟩ :: _) _ _ _; refine lbx rfl spL (by rfl) ?_) | refine extr rfl rfl ?_ | refine fad rfl ?_ | refine ala rfl (fun b => ?_) | (show SH _ _ _ _ _ (⟨_, .store _ _ _, _, _, _, _⟩ :: _) _ _ _; refine sta rfl rfl rfl spL (by rfl) (by rfl) (by rfl) kpL ?_)) | refine s_nil ?_ | refine kh_normal ?_ | refine kh_ret ?_))
            exact rh1 rfl rfl ⟨rfl, rfl⟩ (ent_nil _)
          · rw [if_neg hlw] at q7
            rw [if_neg (fun e => hlw e.symm)] at hki
            clear hi hil q5
            (repeat' (first | (show VH _ _ _ _ _ _ _; first | refine v_seq ?_ | refine r_seq ?_ | refine r_quiet hmix (by kernel_rfl) ?_ | refine v_skip ?_ | refine v_exit ?_ | refine v_cond_f rfl tbL ?_) | (show SH _ _ _ _ _ (_ :: _) _ _ _; first | (show SH _ _ _ _ _ (⟨_, _, _, _, _, some _⟩ :: _) _ _ _; (refine gif rfl rfl ?_; first | refine giTT tbL ?_ | refine giTF tbL ?_ | refine giFF tbL ?_)) | (show SH _ _ _ _ _ (⟨_, .move _, _, _, _, _⟩ :: _) _ _ _; refine mov evL ?_) | (show SH _ _ _ _ _ (⟨_, .binOp .lss _ _ _ _, _, _, _, _⟩ :: _) _ _ _; refine lssF rfl rfl omD ?_) | (show SH _ _ _ _ _ (⟨_, .binOp .eql _ _ _ _, _, _, _, _⟩ :: _) _ _ _; refine eqlF rfl rfl omD ?_) | (show SH _ _ _ _ _ (⟨_, .binOp .neq _ _ _ _, _, _, _, _⟩ :: _) _ _ _; first | refine neqT rfl rfl omD ?_ | refine neqF rfl rfl omD ?_) | (show SH _ _ _ _ _ (⟨_, .load _ _, _, _, _, _⟩ :: _) _ _ _; first | refine lbx rfl spL (by rfl) ?_ | refine lba rfl spL (by rfl) ?_) | refine slen rfl ?_ | (show SH _ _ _ _ _ (⟨_, .call ⟨.value (.func 19), _, _⟩, _, _, _, _⟩ :: _) _ _ _; refine cl (callee := .func 19) rfl (fun w hw => hsi w (hzm w (Wd.kp hw spL)) (hw.rd spL)) rfl rfl ?_) | (show SH _ _ _ _ _ (⟨_, .call ⟨.value (.func 23), _, _⟩, _, _, _, _⟩ :: _) _ _ _; refine cp (callee := .func 23) rfl (fun w hw => hki w (hr.ext hw.ext)) rfl rfl ?_) | refine bnoT rfl ?_ | (show SH _ _ _ _ _ (⟨_, .pick _ _ _, _, _, _, _⟩ :: _) _ _ _; first | refine pkt rfl tbL evL ?_ | refine pkf rfl tbL evL ?_) | refine fad rfl ?_) | refine s_nil ?_ | refine kh_normal ?_ | refine kh_exit ?_ | refine bh_exit ?_))
            rintro _ _ ⟨Ay, cy_, Ly, hpy, rfl, rfl⟩
            simp only at hpy ⊢
            have hsame := fun w h1 h2 => same36_spec t la t la Ay Ax Ly Lx cy_ cx w (szP_val hVn hpy) hzx h1 h2
            rw [show ptys Ly = ptys Lx by rw [hpy, hpx]] at hsame
            simp only [decide_true] at hsame
            (repeat' (first | (show VH _ _ _ _ _ _ _; first | refine v_seq ?_ | refine r_seq ?_ | refine v_ret ?_ | refine v_skip ?_ | refine v_cond_f rfl tbL ?_) | (show SH _ _ _ _ _ (_ :: _) _ _ _; first | (show SH _ _ _ _ _ (⟨_, _, _, _, _, some _⟩ :: _) _ _ _; (refine gif rfl rfl ?_; refine giTT tbL ?_)) | (show SH _ _ _ _ _ (⟨_, .move _, _, _, _, _⟩ :: _) _ _ _; refine mov evL ?_) | (show SH _ _ _ _ _ (⟨_, .assign _, _, _, _, _⟩ :: _) _ _ _; refine asg evL ?_) | (show SH _ _ _ _ _ (⟨_, .binOp .eql _ _ _ _, _, _, _, _⟩ :: _) _ _ _; first | refine eqlT rfl rfl omD ?_ | refine eqlF rfl rfl omD ?_) | (show SH _ _ _ _ _ (⟨_, .load _ _, _, _, _, _⟩ :: _) _ _ _; first | refine lbx rfl spL (by rfl) ?_ | refine lba rfl spL (by rfl) ?_) | (show SH _ _ _ _ _ (⟨_, .call ⟨.value (.func 15), _, _⟩, _, _, _, _⟩ :: _) _ _ _; refine cl (callee := .func 15) rfl (fun w hw => hsame w (Wd.kp hw spL) (Wd.kp hw spL)) rfl rfl ?_) | (show SH _ _ _ _ _ (⟨_, .pick _ _ _, _, _, _, _⟩ :: _) _ _ _; refine pkt rfl tbL evL ?_) | refine extr rfl rfl ?_ | refine fad rfl ?_ | refine ala rfl (fun b => ?_) | (show SH _ _ _ _ _ (⟨_, .store _ _ _, _, _, _, _⟩ :: _) _ _ _; refine sta rfl rfl rfl spL (by rfl) (by rfl) (by rfl) kpL ?_)) | refine s_nil ?_ | refine kh_normal ?_))
            exact rh1 rfl rfl ⟨rfl, rfl⟩ (ent_nil _)
end Go.Proofs.Ytlfbcoohfnoacaa
