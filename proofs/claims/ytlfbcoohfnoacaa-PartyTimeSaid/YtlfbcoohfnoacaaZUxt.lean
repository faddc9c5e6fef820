/- PartyTime: from the law's function. -/
import Derived.Test.YtlfbcoohfnoacaaZTwp
import Derived.Test.YtlfbcoohfnoacaaZMp
import Derived.Test.YtlfbcoohfnoacaaZWz
import Derived.Test.YtlfbcoohfnoacaaZUwd
import Derived.Test.YtlfbcoohfnoacaaZUf
import Derived.Test.YtlfbcoohfnoacaaZUl
import Derived.Test.YtlfbcoohfnoacaaZUxv
set_option linter.unusedSimpArgs false
set_option linter.unusedVariables false
namespace Go.Proofs.Ytlfbcoohfnoacaa
open Go.Fw Go.RowKit
set_option maxHeartbeats 8000000 in
set_option maxRecDepth 100000 in
theorem timeLaw (t la : Int) (A : Option Addr) (L : List PtyP) (c : Nat) (a d : Int) (W : World) (a0 : 0 ≤ a) (a1 : a ≤ 65535) (b0 : 0 ≤ d) (b1 : d ≤ 65535) (hl : L.length ≤ maxLen) (hr : RdP W A L) :
    Ret Try.prog 7 [hv36 t la A L c, .int .u16 a, .int .u16 d].toArray W (Out W (.bool true)) := by
  have haw := fun w => awake36_spec w
  have hrA := hr.1
  have hsm := fun w h => small36_spec t la A L c w hl h
  by_cases hS : SmallP L
  · simp only [decide_eq_true hS] at hsm
    have hz := hS.sz
    have hvs := fun w hr => valid_spec t la A L c w hz hr
    cases hval : validHal ⟨t, la, ptys L⟩ with
    | false =>
      rw [hval] at hvs
      refine enterH Try.func7 rfl rfl Try.ntmps7 rfl (Wd.refl _) ?_
      (repeat' (first | (show VH _ _ _ _ _ _ _; first | refine v_seq ?_ | refine r_seq ?_ | refine v_ret ?_ | refine v_skip ?_ | refine v_cond_t rfl tbL ?_ | refine v_cond_f rfl tbL ?_) | (show SH _ _ _ _ _ (_ :: _) _ _ _; first | (show SH _ _ _ _ _ (⟨_, _, _, _, _, some _⟩ :: _) _ _ _; (refine gif rfl rfl ?_; first | refine giFF tbL ?_ | refine giFT tbL ?_)) | (show SH _ _ _ _ _ (⟨_, .move _, _, _, _, _⟩ :: _) _ _ _; refine mov evL ?_) | (show SH _ _ _ _ _ (⟨_, .assign _, _, _, _, _⟩ :: _) _ _ _; refine asg evL ?_) | (show SH _ _ _ _ _ (⟨_, .load _ _, _, _, _, _⟩ :: _) _ _ _; refine lba rfl spL (by rfl) ?_) | (show SH _ _ _ _ _ (⟨_, .call ⟨.value (.func 10), _, _⟩, _, _, _, _⟩ :: _) _ _ _; refine cl (callee := .func 10) rfl (fun w hw => haw w) rfl rfl ?_) | (show SH _ _ _ _ _ (⟨_, .call ⟨.value (.func 11), _, _⟩, _, _, _, _⟩ :: _) _ _ _; refine cl (callee := .func 11) rfl (fun w hw => hsm w (hrA.ext hw.ext)) rfl rfl ?_) | (show SH _ _ _ _ _ (⟨_, .call ⟨.value (.func 12), _, _⟩, _, _, _, _⟩ :: _) _ _ _; refine cl (callee := .func 12) rfl (fun w hw => hvs w (hr.ext hw.ext)) rfl rfl ?_) | (show SH _ _ _ _ _ (⟨_, .unOp .not _ _, _, _, _, _⟩ :: _) _ _ _; first | refine bnoT rfl ?_ | refine bnoF rfl ?_) | (show SH _ _ _ _ _ (⟨_, .pick _ _ _, _, _, _, _⟩ :: _) _ _ _; first | refine pkt rfl tbL evL ?_ | refine pkf rfl tbL evL ?_) | (show SH _ _ _ _ _ (⟨_, .box _ _, _, _, _, _⟩ :: _) _ _ _; refine bxx rfl evL rfl (fun b => ?_))) | refine s_nil ?_ | refine kh_normal ?_ | refine kh_ret ?_))
      exact rh1 rfl rfl ⟨rfl, rfl⟩ (ent_nil _)
    | true =>
      rw [hval] at hvs
      have hV := valid_iff.1 hval
      have ht0 : 0 ≤ t := hV.t0
      have ht1 : t ≤ 1073741824 := hV.t1
      by_cases htt : 1073610752 < t
      · refine enterH Try.func7 rfl rfl Try.ntmps7 rfl (Wd.refl _) ?_
        (repeat' (first | (show VH _ _ _ _ _ _ _; first | refine v_seq ?_ | refine r_seq ?_ | refine v_ret ?_ | refine v_skip ?_ | refine v_cond_t rfl tbL ?_ | refine v_cond_f rfl tbL ?_) | (show SH _ _ _ _ _ (_ :: _) _ _ _; first | (show SH _ _ _ _ _ (⟨_, _, _, _, _, some _⟩ :: _) _ _ _; (refine gif rfl rfl ?_; refine giFF tbL ?_)) | (show SH _ _ _ _ _ (⟨_, .move _, _, _, _, _⟩ :: _) _ _ _; refine mov evL ?_) | (show SH _ _ _ _ _ (⟨_, .assign _, _, _, _, _⟩ :: _) _ _ _; refine asg evL ?_) | (show SH _ _ _ _ _ (⟨_, .binOp .gtr _ _ _ _, _, _, _, _⟩ :: _) _ _ _; refine gtrT rfl rfl omD ?_) | (show SH _ _ _ _ _ (⟨_, .load _ _, _, _, _, _⟩ :: _) _ _ _; first | refine lbx rfl spL (by rfl) ?_ | refine lba rfl spL (by rfl) ?_) | (show SH _ _ _ _ _ (⟨_, .call ⟨.value (.func 10), _, _⟩, _, _, _, _⟩ :: _) _ _ _; refine cl (callee := .func 10) rfl (fun w hw => haw w) rfl rfl ?_) | (show SH _ _ _ _ _ (⟨_, .call ⟨.value (.func 11), _, _⟩, _, _, _, _⟩ :: _) _ _ _; refine cl (callee := .func 11) rfl (fun w hw => hsm w (hrA.ext hw.ext)) rfl rfl ?_) | (show SH _ _ _ _ _ (⟨_, .call ⟨.value (.func 12), _, _⟩, _, _, _, _⟩ :: _) _ _ _; refine cl (callee := .func 12) rfl (fun w hw => hvs w (hr.ext hw.ext)) rfl rfl ?_) | refine bnoT rfl ?_ | (show SH _ _ _ _ _ (⟨_, .pick _ _ _, _, _, _, _⟩ :: _) _ _ _; refine pkf rfl tbL evL ?_) | refine fad rfl ?_ | (show SH _ _ _ _ _ (⟨_, .box _ _, _, _, _, _⟩ :: _) _ _ _; refine bxx rfl evL rfl (fun b => ?_))) | refine s_nil ?_ | refine kh_normal ?_ | refine kh_ret ?_))
        exact rh1 rfl rfl ⟨rfl, rfl⟩ (ent_nil _)
      · have hll := hz.len
        have ex : advM ⟨t, la, ptys L⟩ (t + a) = (atM ⟨t, la, ptys L⟩ (t + a), 0) := advM_eq hV (by show t ≤ t + a; omega) (by omega)
        have ez : advM ⟨t, la, ptys L⟩ (t + a + d) = (atM ⟨t, la, ptys L⟩ (t + a + d), 0) := advM_eq hV (by show t ≤ t + a + d; omega) (by omega)
        have hVx : VHal (atM ⟨t, la, ptys L⟩ (t + a)) := at_valid hV (by show t ≤ t + a; omega) (by omega)
        have hVz : VHal (atM ⟨t, la, ptys L⟩ (t + a + d)) := at_valid hV (by show t ≤ t + a + d; omega) (by omega)
        have ey : advM (atM ⟨t, la, ptys L⟩ (t + a)) (t + a + d) = (atM ⟨t, la, ptys L⟩ (t + a + d), 0) := by
          rw [advM_eq hVx (by show t + a ≤ t + a + d; omega) (by omega), at_two _ (by omega)]
        have hx := fun w hr => outK_of ex (advance_spec t la A L c (t + a) w hz hr)
        have hzz := fun w hr => outK_of ez (advance_spec t la A L c (t + a + d) w hz hr)
        obtain ⟨bk, hbk⟩ : ∃ r : ResP, advM (atM ⟨t, la, ptys L⟩ (t + a)) (t + a - 1) = r := ⟨_, rfl⟩
        have hb36_ : 0 < t + a → bk.2 = 360 := fun h => by rw [← hbk, advM_back hVx (by show t + a - 1 < t + a; omega) (by omega)]
        refine enterH Try.func7 rfl rfl Try.ntmps7 rfl (Wd.refl _) ?_
        (repeat' (first | (show VH _ _ _ _ _ _ _; first | refine v_seq ?_ | refine r_seq ?_ | refine v_skip ?_ | refine v_cond_f rfl tbL ?_) | (show SH _ _ _ _ _ (_ :: _) _ _ _; first | (show SH _ _ _ _ _ (⟨_, _, _, _, _, some _⟩ :: _) _ _ _; (refine gif rfl rfl ?_; refine giFF tbL ?_)) | (show SH _ _ _ _ _ (⟨_, .move _, _, _, _, _⟩ :: _) _ _ _; refine mov evL ?_) | (show SH _ _ _ _ _ (⟨_, .assign _, _, _, _, _⟩ :: _) _ _ _; refine asg evL ?_) | (show SH _ _ _ _ _ (⟨_, .binOp .gtr _ _ _ _, _, _, _, _⟩ :: _) _ _ _; refine gtrF rfl rfl omD ?_) | (show SH _ _ _ _ _ (⟨_, .binOp .add _ _ _ _, _, _, _, _⟩ :: _) _ _ _; refine add rfl rfl inL ?_) | (show SH _ _ _ _ _ (⟨_, .load _ _, _, _, _, _⟩ :: _) _ _ _; first | refine lbx rfl spL (by rfl) ?_ | refine lba rfl spL (by rfl) ?_) | (show SH _ _ _ _ _ (⟨_, .call ⟨.value (.func 10), _, _⟩, _, _, _, _⟩ :: _) _ _ _; refine cl (callee := .func 10) rfl (fun w hw => haw w) rfl rfl ?_) | (show SH _ _ _ _ _ (⟨_, .call ⟨.value (.func 11), _, _⟩, _, _, _, _⟩ :: _) _ _ _; refine cl (callee := .func 11) rfl (fun w hw => hsm w (hrA.ext hw.ext)) rfl rfl ?_) | (show SH _ _ _ _ _ (⟨_, .call ⟨.value (.func 12), _, _⟩, _, _, _, _⟩ :: _) _ _ _; refine cl (callee := .func 12) rfl (fun w hw => hvs w (hr.ext hw.ext)) rfl rfl ?_) | (show SH _ _ _ _ _ (⟨_, .call ⟨.value (.func 24), _, _⟩, _, _, _, _⟩ :: _) _ _ _; refine cp (callee := .func 24) rfl (fun w hw => hx w (hr.ext hw.ext)) rfl rfl ?_) | refine bnoT rfl ?_ | (show SH _ _ _ _ _ (⟨_, .pick _ _ _, _, _, _, _⟩ :: _) _ _ _; refine pkf rfl tbL evL ?_) | refine fad rfl ?_ | (show SH _ _ _ _ _ (⟨_, .convert _ _ _, _, _, _, _⟩ :: _) _ _ _; refine c64 rfl inL ?_) | (show SH _ _ _ _ _ (⟨_, .box _ _, _, _, _, _⟩ :: _) _ _ _; refine bxx rfl evL rfl (fun b => ?_))) | refine s_nil ?_ | refine kh_normal ?_))
        rintro _ _ ⟨Ax, cx, Lx, hpx, rfl, rfl⟩
        revert b
        intro b3
        have hxe : (⟨t + a, la, ptys Lx⟩ : Hal) = atM ⟨t, la, ptys L⟩ (t + a) := by rw [hpx]; rfl
        have hzx := szP_val hVx hpx
        rw [← hxe] at ey hbk
        have hy := fun w hr => outK_of ey (advance_spec (t + a) la Ax Lx cx (t + a + d) w hzx hr)
        have hbb := fun w hr => outK_of hbk (advance_spec (t + a) la Ax Lx cx (t + a - 1) w hzx hr)
        rw [show (atM ⟨t, la, ptys L⟩ (t + a), (0 : Int)).1.tick = t + a from rfl, show (atM ⟨t, la, ptys L⟩ (t + a), (0 : Int)).1.last = la from rfl]
        (repeat' (first | (show VH _ _ _ _ _ _ _; first | refine v_seq ?_ | refine r_seq ?_) | (show SH _ _ _ _ _ (_ :: _) _ _ _; first | (show SH _ _ _ _ _ (⟨_, .move _, _, _, _, _⟩ :: _) _ _ _; refine mov evL ?_) | (show SH _ _ _ _ _ (⟨_, .assign _, _, _, _, _⟩ :: _) _ _ _; refine asg evL ?_) | (show SH _ _ _ _ _ (⟨_, .binOp .add _ _ _ _, _, _, _, _⟩ :: _) _ _ _; refine add rfl rfl inL ?_) | (show SH _ _ _ _ _ (⟨_, .load _ _, _, _, _, _⟩ :: _) _ _ _; first | refine lbx rfl spL (by rfl) ?_ | refine lba rfl spL (by rfl) ?_) | (show SH _ _ _ _ _ (⟨_, .call ⟨.value (.func 24), _, _⟩, _, _, _, _⟩ :: _) _ _ _; refine cp (callee := .func 24) rfl (fun w hw => hy w (Wd.kp hw spL)) rfl rfl ?_) | refine extr rfl rfl ?_ | refine fad rfl ?_ | (show SH _ _ _ _ _ (⟨_, .convert _ _ _, _, _, _, _⟩ :: _) _ _ _; refine c64 rfl inL ?_) | refine ala rfl (fun b => ?_) | (show SH _ _ _ _ _ (⟨_, .store _ _ _, _, _, _, _⟩ :: _) _ _ _; refine sta rfl rfl rfl spL (by rfl) (by rfl) (by rfl) kpL ?_)) | refine s_nil ?_ | refine kh_normal ?_))
        rintro _ _ ⟨Ay, cy_, Ly, hpy, rfl, rfl⟩
        revert b
        intro bX
        rw [show (atM ⟨t, la, ptys L⟩ (t + a + d), (0 : Int)).1.tick = t + a + d from rfl, show (atM ⟨t, la, ptys L⟩ (t + a + d), (0 : Int)).1.last = la from rfl]
        (repeat' (first | (show VH _ _ _ _ _ _ _; first | refine v_seq ?_ | refine r_seq ?_) | (show SH _ _ _ _ _ (_ :: _) _ _ _; first | (show SH _ _ _ _ _ (⟨_, .move _, _, _, _, _⟩ :: _) _ _ _; refine mov evL ?_) | (show SH _ _ _ _ _ (⟨_, .assign _, _, _, _, _⟩ :: _) _ _ _; refine asg evL ?_) | (show SH _ _ _ _ _ (⟨_, .binOp .add _ _ _ _, _, _, _, _⟩ :: _) _ _ _; refine add rfl rfl inL ?_) | (show SH _ _ _ _ _ (⟨_, .load _ _, _, _, _, _⟩ :: _) _ _ _; first | refine lbx rfl spL (by rfl) ?_ | refine lba rfl spL (by rfl) ?_) | (show SH _ _ _ _ _ (⟨_, .call ⟨.value (.func 24), _, _⟩, _, _, _, _⟩ :: _) _ _ _; refine cp (callee := .func 24) rfl (fun w hw => hzz w (hr.ext hw.ext)) rfl rfl ?_) | refine extr rfl rfl ?_ | refine fad rfl ?_ | (show SH _ _ _ _ _ (⟨_, .convert _ _ _, _, _, _, _⟩ :: _) _ _ _; refine c64 rfl inL ?_) | refine ala rfl (fun b => ?_) | (show SH _ _ _ _ _ (⟨_, .store _ _ _, _, _, _, _⟩ :: _) _ _ _; refine sta rfl rfl rfl spL (by rfl) (by rfl) (by rfl) kpL ?_)) | refine s_nil ?_ | refine kh_normal ?_))
        rintro _ _ ⟨Az, cz, Lz, hpz, rfl, rfl⟩
        rw [show (atM ⟨t, la, ptys L⟩ (t + a + d), (0 : Int)).1.tick = t + a + d from rfl, show (atM ⟨t, la, ptys L⟩ (t + a + d), (0 : Int)).1.last = la from rfl]
        (repeat' (first | (show VH _ _ _ _ _ _ _; first | refine v_seq ?_ | refine r_seq ?_) | (show SH _ _ _ _ _ (_ :: _) _ _ _; first | (show SH _ _ _ _ _ (⟨_, .move _, _, _, _, _⟩ :: _) _ _ _; refine mov evL ?_) | (show SH _ _ _ _ _ (⟨_, .assign _, _, _, _, _⟩ :: _) _ _ _; refine asg evL ?_) | (show SH _ _ _ _ _ (⟨_, .binOp .sub _ _ _ _, _, _, _, _⟩ :: _) _ _ _; refine sub rfl rfl inL ?_) | (show SH _ _ _ _ _ (⟨_, .load _ _, _, _, _, _⟩ :: _) _ _ _; first | refine lbx rfl spL (by rfl) ?_ | refine lba rfl spL (by rfl) ?_) | (show SH _ _ _ _ _ (⟨_, .call ⟨.value (.func 24), _, _⟩, _, _, _, _⟩ :: _) _ _ _; refine cp (callee := .func 24) rfl (fun w hw => hbb w (Wd.kp hw spL)) rfl rfl ?_) | refine extr rfl rfl ?_ | refine fad rfl ?_ | refine ala rfl (fun b => ?_) | (show SH _ _ _ _ _ (⟨_, .store _ _ _, _, _, _, _⟩ :: _) _ _ _; refine sta rfl rfl rfl spL (by rfl) (by rfl) (by rfl) kpL ?_)) | refine s_nil ?_ | refine kh_normal ?_))
        rintro _ _ ⟨Ab, cb_, Lb, hpb, rfl, rfl⟩
        have hsame := fun w h1 h2 => same36_spec (t + a + d) la (t + a + d) la Ay Az Ly Lz cy_ cz w (szP_val hVz hpy) (szP_val hVz hpz) h1 h2
        have hyz : ptys Ly = ptys Lz := by rw [hpy, hpz]
        rw [hyz] at hsame
        simp only [decide_true] at hsame
        have hxl : Lx.length = L.length := by rw [← ptys_len Lx, hpx, ← ptys_len L]; exact uninv_len _ _
        have hxi : ∀ i, i < L.length → (Lx.getD i Flat.dflt).p = { (L.getD i Flat.dflt).p with inv := (L.getD i Flat.dflt).p.inv.filter fun x => !decide (x.till ≤ t + a) } := fun i hi => by
          have h1 := ptys_at (l := Lx) (k := i) (by rw [hxl]; exact hi)
          rw [← h1, hpx, ← ptys_at hi]
          exact uninv_at (by rw [ptys_len]; exact hi)
        clear hbb hzz hy hx ex ez ey hpy hpz hyz hpb hxe hVz hbk hVx hV hvs hsm haw hval hpx
        generalize bk.2 = e at hb36_ ⊢
        (repeat' (first | (show VH _ _ _ _ _ _ _; first | refine v_seq ?_ | refine r_seq ?_ | refine v_block ?_ | refine v_skip ?_ | refine v_cond_f rfl tbL ?_) | (show SH _ _ _ _ _ (_ :: _) _ _ _; first | (show SH _ _ _ _ _ (⟨_, _, _, _, _, some _⟩ :: _) _ _ _; (refine gif rfl rfl ?_; first | refine giTT tbL ?_ | refine giTF tbL ?_ | refine giFF tbL ?_ | refine giTd (fun h => ?_) (fun h => ?_))) | (show SH _ _ _ _ _ (⟨_, .move _, _, _, _, _⟩ :: _) _ _ _; refine mov evL ?_) | (show SH _ _ _ _ _ (⟨_, .assign _, _, _, _, _⟩ :: _) _ _ _; refine asg evL ?_) | refine gtr rfl rfl ?_ | (show SH _ _ _ _ _ (⟨_, .binOp .neq _ _ _ _, _, _, _, _⟩ :: _) _ _ _; refine neqF rfl rfl omD ?_) | (show SH _ _ _ _ _ (⟨_, .load _ _, _, _, _, _⟩ :: _) _ _ _; first | refine lbx rfl spL (by rfl) ?_ | refine lba rfl spL (by rfl) ?_) | refine slen rfl ?_ | (show SH _ _ _ _ _ (⟨_, .call ⟨.value (.func 15), _, _⟩, _, _, _, _⟩ :: _) _ _ _; refine cl (callee := .func 15) rfl (fun w hw => hsame w (Wd.kp hw spL) (Wd.kp hw spL)) rfl rfl ?_) | refine bnoT rfl ?_ | (show SH _ _ _ _ _ (⟨_, .pick _ _ _, _, _, _, _⟩ :: _) _ _ _; first | refine pkt rfl tbL evL ?_ | refine pkf rfl tbL evL ?_) | refine extr rfl rfl ?_ | refine fad rfl ?_ | refine ala rfl (fun b => ?_) | (show SH _ _ _ _ _ (⟨_, .store _ _ _, _, _, _, _⟩ :: _) _ _ _; refine sta rfl rfl rfl spL (by rfl) (by rfl) (by rfl) kpL ?_)) | refine s_nil ?_ | refine kh_normal ?_))
        all_goals
          clear hsame hb36_
          refine v_norm [(3,_),(7,_),(15,_)] heL (fun g => ?_)
          refine VH.ent (G := [bx b3 24 [.int .i64 t, .int .i64 la, .slice A L.length c], bx bX 24 [.int .i64 (t + a), .int .i64 la, .slice Ax Lx.length cx], knp Ax Lx]) ?_ enL
          refine v_loop0 [(6,6),(15,18),(112,205)] (fun i : Nat => [(15, .int .i64 i)]) (fun i => i ≤ L.length) (fun i => L.length - i) 0 hsL (Nat.zero_le _) ?_
          rintro i g hi
          simp only [sets]
          by_cases hil : i < L.length
          · have hil' : i < Lx.length := by omega
            have hq := hxi i hil
            have hm := hr.mem hil
            have hv := hr.inv hil
            have hm1 := hz.atm hil
            have hv1 := hz.ati hil
            have hRx : ∀ w, RdP w Ax Lx → Rd w Ax Lx := fun w h => h.1
            have hmx := fun w (h : RdP w Ax Lx) => h.mem hil'
            have hvx := fun w (h : RdP w Ax Lx) => h.inv hil'
            obtain ⟨x, hx⟩ : ∃ x, L.getD i Flat.dflt = x := ⟨_, rfl⟩
            obtain ⟨y, hy⟩ : ∃ y, Lx.getD i Flat.dflt = y := ⟨_, rfl⟩
            have hxE := pty_enc hx
            have hyE := pty_enc hy
            rw [hx] at hq hm hv hm1 hv1
            rw [hy] at hq hmx hvx
            clear hx hy hxi
            obtain ⟨⟨xi, xl, xm, xv⟩, xA, xca, xB, xcb⟩ := x
            obtain ⟨yp, yA, yca, yB, ycb⟩ := y
            simp only at hq hm hv hm1 hv1 hmx hvx hxE hyE
            subst hq
            simp only at hmx hvx hyE
            obtain ⟨gg, hgg⟩ : ∃ gg : Inv → Bool, (fun x => !decide (x.till ≤ t + a)) = gg := ⟨_, rfl⟩
            rw [hgg] at hvx hyE
            have hft : (xv.filter gg).length ≤ xv.length := List.length_filter_le ..
            (repeat' (first | (show VH _ _ _ _ _ _ _; first | refine v_seq ?_ | refine r_seq ?_ | refine v_block ?_ | refine v_skip ?_ | refine v_cond_t rfl tbL ?_) | (show SH _ _ _ _ _ (_ :: _) _ _ _; first | (show SH _ _ _ _ _ (⟨_, .move _, _, _, _, _⟩ :: _) _ _ _; refine mov evL ?_) | (show SH _ _ _ _ _ (⟨_, .assign _, _, _, _, _⟩ :: _) _ _ _; refine asg evL ?_) | (show SH _ _ _ _ _ (⟨_, .binOp .lss _ _ _ _, _, _, _, _⟩ :: _) _ _ _; refine lssT rfl rfl omD ?_) | (show SH _ _ _ _ _ (⟨_, .load _ _, _, _, _, _⟩ :: _) _ _ _; first | refine lbx rfl spL (by rfl) ?_ | refine lrg rfl (fun _ _ => rdP) (by rfl) omL (by assumption) (by rfl) ?_) | (show SH _ _ _ _ _ (⟨_, .indexAddr _ _ _, _, _, _, _⟩ :: _) _ _ _; refine ix rfl rfl (by with_reducible rfl) (fun _ _ => rdP) (by rfl) omL omL ?_) | refine slen rfl ?_ | refine fad rfl ?_) | refine s_nil ?_ | refine kh_normal ?_))
            refine v_normS [(6,6),(15,18),(112,205)] _ agL [(15,_),(16,_),(17,_),(18,_)] heL (fun g => ?_)
            refine v_loop0 [(6,6),(16,16),(18,18),(125,170)] (fun k : Nat => [(18, .int .i64 k), (16, .int .i64 ((xv.take k).filter gg).length)]) (fun k => k ≤ xv.length) (fun k => xv.length - k) 0 hsL (Nat.zero_le _) ?_
            rintro k g2 hk
            simp only [sets]
            by_cases hkv : k < xv.length
            · have hby := beside_yes (Flat.dflt : Inv) gg hkv
              have hbn := filter_take36 (Flat.dflt : Inv) gg hkv
              obtain ⟨v, hvv⟩ : ∃ v, xv.getD k Flat.dflt = v := ⟨_, rfl⟩
              have hvE := inv_enc hvv
              rw [hvv] at hby hbn
              obtain ⟨m, hmm⟩ : ∃ m, ((xv.take k).filter gg).length = m := ⟨_, rfl⟩
              rw [hmm] at hby ⊢
              obtain ⟨vw, vt⟩ := v
              simp only at hvE
              by_cases hgv : t + a < vt
              · have hg1 : gg ⟨vw, vt⟩ = true := by rw [← hgg]; simp; omega
                obtain ⟨h1, h2, h3⟩ := hby hg1
                have hzE := inv_enc h2
                simp only at hzE
                clear hbn hby hmm h2 hvv
                (repeat' (first | (show VH _ _ _ _ _ _ _; first | refine v_seq ?_ | refine r_seq ?_ | refine r_quiet hmix (by kernel_rfl) ?_ | refine v_block ?_ | refine v_skip ?_ | refine v_cond_t rfl tbL ?_) | (show SH _ _ _ _ _ (_ :: _) _ _ _; first | (show SH _ _ _ _ _ (⟨_, _, _, _, _, some _⟩ :: _) _ _ _; (refine gif rfl rfl ?_; refine giFF tbL ?_)) | (show SH _ _ _ _ _ (⟨_, .move _, _, _, _, _⟩ :: _) _ _ _; refine mov evL ?_) | (show SH _ _ _ _ _ (⟨_, .binOp .lss _ _ _ _, _, _, _, _⟩ :: _) _ _ _; refine lssT rfl rfl omD ?_) | (show SH _ _ _ _ _ (⟨_, .binOp .gtr _ _ _ _, _, _, _, _⟩ :: _) _ _ _; refine gtrT rfl rfl omD ?_) | (show SH _ _ _ _ _ (⟨_, .binOp .geq _ _ _ _, _, _, _, _⟩ :: _) _ _ _; refine geqF rfl rfl omD ?_) | (show SH _ _ _ _ _ (⟨_, .load _ _, _, _, _, _⟩ :: _) _ _ _; first | refine lbx rfl spL (by rfl) ?_ | refine lag rfl (fun _ _ => rdP) (by rfl) omL (by assumption) ?_ | refine lrg rfl (fun _ _ => rdP) (by rfl) omL (by assumption) (by rfl) ?_) | (show SH _ _ _ _ _ (⟨_, .indexAddr _ _ _, _, _, _, _⟩ :: _) _ _ _; refine ix rfl rfl (by with_reducible rfl) (fun _ _ => rdP) (by rfl) omL omL ?_) | refine slen rfl ?_ | refine fad rfl ?_) | refine s_nil ?_ | refine kh_normal ?_))
                refine nea (⟨vw, vt⟩ : Inv) ⟨vw, vt⟩ rfl rfl ?_
                rw [decide_eq_true rfl]
                (repeat' (first | (show VH _ _ _ _ _ _ _; first | refine r_seq ?_ | refine v_skip ?_ | refine v_cond_f rfl tbL ?_) | (show SH _ _ _ _ _ (_ :: _) _ _ _; first | (show SH _ _ _ _ _ (⟨_, .move _, _, _, _, _⟩ :: _) _ _ _; refine mov evL ?_) | (show SH _ _ _ _ _ (⟨_, .assign _, _, _, _, _⟩ :: _) _ _ _; refine asg evL ?_) | (show SH _ _ _ _ _ (⟨_, .binOp .add _ _ _ _, _, _, _, _⟩ :: _) _ _ _; refine add rfl rfl inL ?_) | (show SH _ _ _ _ _ (⟨_, .pick _ _ _, _, _, _, _⟩ :: _) _ _ _; refine pkf rfl tbL evL ?_)) | refine s_nil ?_ | refine kh_normal ?_ | refine bh_normal ?_))
                exact ⟨agL, k + 1, by rw [h3]; (repeat (first | exact trivial | refine And.intro rfl ?_)), enL, hkv, by omega⟩
              · have hg1 : gg ⟨vw, vt⟩ = false := by rw [← hgg]; simp; omega
                rw [hg1] at hbn
                have h3 : ((xv.take (k + 1)).filter gg).length = m := by rw [hbn, ← hmm]; simp
                clear hbn hby hmm hvv
                (repeat' (first | (show VH _ _ _ _ _ _ _; first | refine v_seq ?_ | refine r_seq ?_ | refine r_quiet hmix (by kernel_rfl) ?_ | refine v_block ?_ | refine v_skip ?_ | refine v_cond_t rfl tbL ?_ | refine v_cond_f rfl tbL ?_) | (show SH _ _ _ _ _ (_ :: _) _ _ _; first | (show SH _ _ _ _ _ (⟨_, .move _, _, _, _, _⟩ :: _) _ _ _; refine mov evL ?_) | (show SH _ _ _ _ _ (⟨_, .assign _, _, _, _, _⟩ :: _) _ _ _; refine asg evL ?_) | (show SH _ _ _ _ _ (⟨_, .binOp .lss _ _ _ _, _, _, _, _⟩ :: _) _ _ _; refine lssT rfl rfl omD ?_) | (show SH _ _ _ _ _ (⟨_, .binOp .gtr _ _ _ _, _, _, _, _⟩ :: _) _ _ _; refine gtrF rfl rfl omD ?_) | (show SH _ _ _ _ _ (⟨_, .binOp .add _ _ _ _, _, _, _, _⟩ :: _) _ _ _; refine add rfl rfl inL ?_) | (show SH _ _ _ _ _ (⟨_, .load _ _, _, _, _, _⟩ :: _) _ _ _; first | refine lbx rfl spL (by rfl) ?_ | refine lrg rfl (fun _ _ => rdP) (by rfl) omL (by assumption) (by rfl) ?_) | (show SH _ _ _ _ _ (⟨_, .indexAddr _ _ _, _, _, _, _⟩ :: _) _ _ _; refine ix rfl rfl (by with_reducible rfl) (fun _ _ => rdP) (by rfl) omL omL ?_) | refine slen rfl ?_ | refine fad rfl ?_) | refine s_nil ?_ | refine kh_normal ?_ | refine bh_normal ?_))
                exact ⟨agL, k + 1, by rw [h3]; (repeat (first | exact trivial | refine And.intro rfl ?_)), enL, hkv, by omega⟩
            · obtain rfl : k = xv.length := by omega
              rw [List.take_length]
              have hsi := fun w h1 h2 => sameInts_spec yA xA xm xm yca xca w (by omega) (by omega) h1 h2
              simp only [decide_true] at hsi
              (repeat' (first | (show VH _ _ _ _ _ _ _; first | refine v_seq ?_ | refine r_seq ?_ | refine r_quiet hmix (by kernel_rfl) ?_ | refine v_skip ?_ | refine v_exit ?_ | refine v_cond_f rfl tbL ?_) | (show SH _ _ _ _ _ (_ :: _) _ _ _; first | (show SH _ _ _ _ _ (⟨_, _, _, _, _, some _⟩ :: _) _ _ _; (refine gif rfl rfl ?_; refine giFF tbL ?_)) | (show SH _ _ _ _ _ (⟨_, .move _, _, _, _, _⟩ :: _) _ _ _; refine mov evL ?_) | (show SH _ _ _ _ _ (⟨_, .assign _, _, _, _, _⟩ :: _) _ _ _; refine asg evL ?_) | (show SH _ _ _ _ _ (⟨_, .binOp .lss _ _ _ _, _, _, _, _⟩ :: _) _ _ _; refine lssF rfl rfl omD ?_) | (show SH _ _ _ _ _ (⟨_, .binOp .neq _ _ _ _, _, _, _, _⟩ :: _) _ _ _; refine neqF rfl rfl omD ?_) | (show SH _ _ _ _ _ (⟨_, .binOp .add _ _ _ _, _, _, _, _⟩ :: _) _ _ _; refine add rfl rfl inL ?_) | (show SH _ _ _ _ _ (⟨_, .load _ _, _, _, _, _⟩ :: _) _ _ _; first | refine lbx rfl spL (by rfl) ?_ | refine lrg rfl (fun _ _ => rdP) (by rfl) omL (by assumption) (by rfl) ?_) | (show SH _ _ _ _ _ (⟨_, .indexAddr _ _ _, _, _, _, _⟩ :: _) _ _ _; refine ix rfl rfl (by with_reducible rfl) (fun _ _ => rdP) (by rfl) omL omL ?_) | refine slen rfl ?_ | (show SH _ _ _ _ _ (⟨_, .call ⟨.value (.func 19), _, _⟩, _, _, _, _⟩ :: _) _ _ _; refine cl (callee := .func 19) rfl (fun w hw => hsi w (hmx w (Wd.kp hw spL)) (hm.ext hw.ext)) rfl rfl ?_) | refine bnoT rfl ?_ | (show SH _ _ _ _ _ (⟨_, .pick _ _ _, _, _, _, _⟩ :: _) _ _ _; refine pkf rfl tbL evL ?_) | refine fad rfl ?_) | refine s_nil ?_ | refine kh_normal ?_ | refine kh_exit ?_ | refine bh_normal ?_ | refine bh_exit ?_))
              exact ⟨agL, i + 1, hsL, enL, hil, by omega⟩
          · obtain rfl : i = L.length := by omega
            (repeat' (first | (show VH _ _ _ _ _ _ _; first | refine v_seq ?_ | refine r_seq ?_ | refine v_ret ?_ | refine v_exit ?_ | refine v_cond_f rfl tbL ?_) | (show SH _ _ _ _ _ (_ :: _) _ _ _; first | (show SH _ _ _ _ _ (⟨_, .move _, _, _, _, _⟩ :: _) _ _ _; refine mov evL ?_) | (show SH _ _ _ _ _ (⟨_, .assign _, _, _, _, _⟩ :: _) _ _ _; refine asg evL ?_) | (show SH _ _ _ _ _ (⟨_, .binOp .lss _ _ _ _, _, _, _, _⟩ :: _) _ _ _; refine lssF rfl rfl omD ?_) | (show SH _ _ _ _ _ (⟨_, .load _ _, _, _, _, _⟩ :: _) _ _ _; refine lbx rfl spL (by rfl) ?_) | refine slen rfl ?_ | refine fad rfl ?_) | refine s_nil ?_ | refine kh_normal ?_ | refine kh_exit ?_ | refine bh_exit ?_))
            exact rh1 rfl rfl ⟨rfl, rfl⟩ (ent_nil _)
  · simp only [decide_eq_false hS] at hsm
    refine enterH Try.func7 rfl rfl Try.ntmps7 rfl (Wd.refl _) ?_
    (repeat' (first | (show VH _ _ _ _ _ _ _; first | refine v_seq ?_ | refine r_seq ?_ | refine v_ret ?_ | refine v_skip ?_ | refine v_cond_t rfl tbL ?_ | refine v_cond_f rfl tbL ?_) | (show SH _ _ _ _ _ (_ :: _) _ _ _; first | (show SH _ _ _ _ _ (⟨_, _, _, _, _, some _⟩ :: _) _ _ _; (refine gif rfl rfl ?_; refine giFT tbL ?_)) | (show SH _ _ _ _ _ (⟨_, .move _, _, _, _, _⟩ :: _) _ _ _; refine mov evL ?_) | (show SH _ _ _ _ _ (⟨_, .assign _, _, _, _, _⟩ :: _) _ _ _; refine asg evL ?_) | (show SH _ _ _ _ _ (⟨_, .load _ _, _, _, _, _⟩ :: _) _ _ _; refine lba rfl spL (by rfl) ?_) | (show SH _ _ _ _ _ (⟨_, .call ⟨.value (.func 10), _, _⟩, _, _, _, _⟩ :: _) _ _ _; refine cl (callee := .func 10) rfl (fun w hw => haw w) rfl rfl ?_) | (show SH _ _ _ _ _ (⟨_, .call ⟨.value (.func 11), _, _⟩, _, _, _, _⟩ :: _) _ _ _; refine cl (callee := .func 11) rfl (fun w hw => hsm w (hrA.ext hw.ext)) rfl rfl ?_) | (show SH _ _ _ _ _ (⟨_, .unOp .not _ _, _, _, _, _⟩ :: _) _ _ _; first | refine bnoT rfl ?_ | refine bnoF rfl ?_) | (show SH _ _ _ _ _ (⟨_, .pick _ _ _, _, _, _, _⟩ :: _) _ _ _; refine pkt rfl tbL evL ?_) | (show SH _ _ _ _ _ (⟨_, .box _ _, _, _, _, _⟩ :: _) _ _ _; refine bxx rfl evL rfl (fun b => ?_))) | refine s_nil ?_ | refine kh_normal ?_ | refine kh_ret ?_))
    exact rh1 rfl rfl ⟨rfl, rfl⟩ (ent_nil _)
end Go.Proofs.Ytlfbcoohfnoacaa
