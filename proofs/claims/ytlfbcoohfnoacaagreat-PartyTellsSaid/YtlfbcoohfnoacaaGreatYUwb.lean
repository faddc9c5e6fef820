/- marcheslaw36: Same, one (printed by gen_uwb). -/
import Derived.Test.YtlfbcoohfnoacaaGreatYTwp
import Derived.Test.YtlfbcoohfnoacaaGreatYMp
import Derived.Test.YtlfbcoohfnoacaaGreatYWz
import Derived.Test.YtlfbcoohfnoacaaGreatYUwa
import Derived.Test.YtlfbcoohfnoacaaGreatYUvk
import Derived.Test.YtlfbcoohfnoacaaGreatYUvl
import Derived.Test.YtlfbcoohfnoacaaGreatYUvm
set_option linter.unusedSimpArgs false
set_option linter.unusedVariables false
namespace Go.Proofs.YtlfbcoohfnoacaaGreat
open Go.Fw Go.RowKit
set_option maxHeartbeats 1000000 in
set_option maxRecDepth 100000 in
theorem same36_spec (t la t' la' : Int) (A A' : Option Addr) (L L' : List PtyP) (c c' : Nat) (w : World) (hz : SzP L) (hz' : SzP L') (hr : RdP w A L) (hr' : RdP w A' L') :
    Ret Tryz.prog 34 [hv36 t la A L c, hv36 t' la' A' L' c'].toArray w (Out w (.bool (decide ((⟨t, la, ptys L⟩ : Hal) = ⟨t', la', ptys L'⟩)))) := by
  have hll := hz.len
  have hll' := hz'.len
  have hrA := hr.1
  have hrB := hr'.1
  by_cases hc : t = t' ∧ la = la' ∧ L.length = L'.length
  · obtain ⟨d1_, d2_, d3_⟩ := hc
    have hgo : decide ((⟨t, la, ptys L⟩ : Hal) = ⟨t', la', ptys L'⟩) = decide (ptys L = ptys L') := decide_eq_decide.2 ⟨fun h => by injection h, fun h => by rw [d1_, d2_, h]⟩
    rw [hgo]
    clear hgo
    refine enterH Tryz.func34 rfl rfl Tryz.ntmps34 rfl (Wd.refl _) ?_
    (repeat' (first | (show VH _ _ _ _ _ _ _; first | refine v_seq ?_ | refine r_seq ?_ | refine v_block ?_ | refine v_skip ?_ | refine v_cond_f rfl tbL ?_) | (show SH _ _ _ _ _ (_ :: _) _ _ _; first | (show SH _ _ _ _ _ (⟨_, _, _, _, _, some _⟩ :: _) _ _ _; (refine gif rfl rfl ?_; refine giFF tbL ?_)) | (show SH _ _ _ _ _ (⟨_, .move _, _, _, _, _⟩ :: _) _ _ _; refine mov evL ?_) | (show SH _ _ _ _ _ (⟨_, .assign _, _, _, _, _⟩ :: _) _ _ _; refine asg evL ?_) | (show SH _ _ _ _ _ (⟨_, .binOp .neq _ _ _ _, _, _, _, _⟩ :: _) _ _ _; refine neqF rfl rfl omD ?_) | (show SH _ _ _ _ _ (⟨_, .load _ _, _, _, _, _⟩ :: _) _ _ _; refine lbx rfl spL (by rfl) ?_) | refine slen rfl ?_ | (show SH _ _ _ _ _ (⟨_, .pick _ _ _, _, _, _, _⟩ :: _) _ _ _; refine pkf rfl tbL evL ?_) | refine fad rfl ?_ | (show SH _ _ _ _ _ (⟨_, .box _ _, _, _, _, _⟩ :: _) _ _ _; refine bxx rfl evL rfl (fun b => ?_))) | refine s_nil ?_ | refine kh_normal ?_))
    rename_i b2
    revert b
    intro b3
    refine v_norm [(2,_),(3,_),(5,_)] heL (fun g => ?_)
    refine v_loop0 [(4,5),(27,45)] (fun k : Nat => [(5, .int .i64 k)]) (fun k => k ≤ L.length ∧ (ptys L).take k = (ptys L').take k) (fun k => L.length - k) 0 hsL ⟨Nat.zero_le _, rfl⟩ ?_
    rintro k g ⟨hk, hok⟩
    simp only [sets]
    by_cases hkl : k < L.length
    · have hkl' : k < L'.length := by omega
      have hsp := fun w a b c d => sameParty_spec (L.getD k Flat.dflt) (L'.getD k Flat.dflt) w (by have := hz.atm hkl; omega) (by have := hz.ati hkl; omega) (by have := hz'.atm hkl'; omega) (by have := hz'.ati hkl'; omega) a b c d
      have hm := hr.mem hkl
      have hi := hr.inv hkl
      have hm' := hr'.mem hkl'
      have hi' := hr'.inv hkl'
      have hp := ptys_at hkl
      have hp' := ptys_at hkl'
      by_cases he : (L.getD k Flat.dflt).p = (L'.getD k Flat.dflt).p
      · have hok' : (ptys L).take (k + 1) = (ptys L').take (k + 1) := by rw [take_snoc (d := pty0) (by rw [ptys_len]; exact hkl), take_snoc (d := pty0) (by rw [ptys_len]; exact hkl'), hok, hp, hp', he]
        simp only [decide_eq_true he] at hsp
        clear hok hp hp'
        (repeat' (first | (show VH _ _ _ _ _ _ _; first | refine v_seq ?_ | refine r_seq ?_ | refine r_quiet hmix (by kernel_rfl) ?_ | refine v_block ?_ | refine v_skip ?_ | refine v_cond_t rfl tbL ?_ | refine v_cond_f rfl tbL ?_) | (show SH _ _ _ _ _ (_ :: _) _ _ _; first | (show SH _ _ _ _ _ (⟨_, .move _, _, _, _, _⟩ :: _) _ _ _; refine mov evL ?_) | (show SH _ _ _ _ _ (⟨_, .assign _, _, _, _, _⟩ :: _) _ _ _; refine asg evL ?_) | (show SH _ _ _ _ _ (⟨_, .binOp .lss _ _ _ _, _, _, _, _⟩ :: _) _ _ _; refine lssT rfl rfl omD ?_) | (show SH _ _ _ _ _ (⟨_, .binOp .add _ _ _ _, _, _, _, _⟩ :: _) _ _ _; refine add rfl rfl inL ?_) | (show SH _ _ _ _ _ (⟨_, .load _ _, _, _, _, _⟩ :: _) _ _ _; first | refine lbx rfl spL (by rfl) ?_ | refine lra rfl (fun _ _ => rdP) (by rfl) omL ?_ | refine lra rfl (fun _ _ => rdP) (by rfl) (by simp only [List.length_cons, List.length_nil]; omega) ?_) | (show SH _ _ _ _ _ (⟨_, .indexAddr _ _ _, _, _, _, _⟩ :: _) _ _ _; refine ix rfl rfl (by with_reducible rfl) (fun _ _ => rdP) (by rfl) omL omL ?_) | refine slen rfl ?_ | (show SH _ _ _ _ _ (⟨_, .call ⟨.value (.func 35), _, _⟩, _, _, _, _⟩ :: _) _ _ _; refine cl (callee := .func 35) rfl (fun w hw => hsp w (hm.ext hw.ext) (hi.ext hw.ext) (hm'.ext hw.ext) (hi'.ext hw.ext)) rfl rfl ?_) | refine bnoT rfl ?_ | refine fad rfl ?_) | refine s_nil ?_ | refine kh_normal ?_ | refine bh_normal ?_))
        exact ⟨agL, k + 1, hsL, enL, ⟨hkl, hok'⟩, by omega⟩
      · have hne : ¬ ptys L = ptys L' := fun e => he (by rw [← hp, ← hp', e])
        rw [decide_eq_false hne]
        simp only [decide_eq_false he] at hsp
        clear hok hne hp hp'
        (repeat' (first | (show VH _ _ _ _ _ _ _; first | refine v_seq ?_ | refine r_seq ?_ | refine r_quiet hmix (by kernel_rfl) ?_ | refine v_block ?_ | refine v_ret ?_ | refine v_skip ?_ | refine v_cond_t rfl tbL ?_) | (show SH _ _ _ _ _ (_ :: _) _ _ _; first | (show SH _ _ _ _ _ (⟨_, .move _, _, _, _, _⟩ :: _) _ _ _; refine mov evL ?_) | (show SH _ _ _ _ _ (⟨_, .assign _, _, _, _, _⟩ :: _) _ _ _; refine asg evL ?_) | (show SH _ _ _ _ _ (⟨_, .binOp .lss _ _ _ _, _, _, _, _⟩ :: _) _ _ _; refine lssT rfl rfl omD ?_) | (show SH _ _ _ _ _ (⟨_, .load _ _, _, _, _, _⟩ :: _) _ _ _; first | refine lbx rfl spL (by rfl) ?_ | refine lra rfl (fun _ _ => rdP) (by rfl) omL ?_ | refine lra rfl (fun _ _ => rdP) (by rfl) (by simp only [List.length_cons, List.length_nil]; omega) ?_) | (show SH _ _ _ _ _ (⟨_, .indexAddr _ _ _, _, _, _, _⟩ :: _) _ _ _; refine ix rfl rfl (by with_reducible rfl) (fun _ _ => rdP) (by rfl) omL omL ?_) | refine slen rfl ?_ | (show SH _ _ _ _ _ (⟨_, .call ⟨.value (.func 35), _, _⟩, _, _, _, _⟩ :: _) _ _ _; refine cl (callee := .func 35) rfl (fun w hw => hsp w (hm.ext hw.ext) (hi.ext hw.ext) (hm'.ext hw.ext) (hi'.ext hw.ext)) rfl rfl ?_) | refine bnoF rfl ?_ | refine fad rfl ?_) | refine s_nil ?_ | refine kh_normal ?_ | refine kh_ret ?_ | refine bh_ret ?_))
        exact rh1 rfl rfl ⟨rfl, rfl⟩ (ent_nil _)
    · obtain rfl : k = L.length := by omega
      have h1 : (ptys L).take L.length = ptys L := by rw [← ptys_len L, List.take_length]
      have h2 : (ptys L').take L.length = ptys L' := by rw [d3_, ← ptys_len L', List.take_length]
      rw [h1, h2] at hok
      rw [decide_eq_true hok]
      clear hok h1 h2
      (repeat' (first | (show VH _ _ _ _ _ _ _; first | refine v_seq ?_ | refine r_seq ?_ | refine v_ret ?_ | refine v_exit ?_ | refine v_cond_f rfl tbL ?_) | (show SH _ _ _ _ _ (_ :: _) _ _ _; first | (show SH _ _ _ _ _ (⟨_, .move _, _, _, _, _⟩ :: _) _ _ _; refine mov evL ?_) | (show SH _ _ _ _ _ (⟨_, .assign _, _, _, _, _⟩ :: _) _ _ _; refine asg evL ?_) | (show SH _ _ _ _ _ (⟨_, .binOp .lss _ _ _ _, _, _, _, _⟩ :: _) _ _ _; refine lssF rfl rfl omD ?_) | (show SH _ _ _ _ _ (⟨_, .load _ _, _, _, _, _⟩ :: _) _ _ _; refine lbx rfl spL (by rfl) ?_) | refine slen rfl ?_ | refine fad rfl ?_) | refine s_nil ?_ | refine kh_normal ?_ | refine kh_exit ?_ | refine bh_exit ?_))
      exact rh1 rfl rfl ⟨rfl, rfl⟩ (ent_nil _)
  · have hcc : Hid _ := hc
    have hno : ¬ (⟨t, la, ptys L⟩ : Hal) = ⟨t', la', ptys L'⟩ := fun h => hc (by injection h with a b d; exact ⟨a, b, by have := congrArg List.length d; rwa [ptys_len, ptys_len] at this⟩)
    rw [decide_eq_false hno]
    clear hc hno
    refine enterH Tryz.func34 rfl rfl Tryz.ntmps34 rfl (Wd.refl _) ?_
    (repeat' (first | (show VH _ _ _ _ _ _ _; first | refine v_seq ?_ | refine r_seq ?_ | refine v_block ?_ | refine v_ret ?_ | refine v_skip ?_ | refine v_cond_t rfl tbL ?_ | refine v_cond_dec rfl (fun h => ?_) (fun h => ?_)) | (show SH _ _ _ _ _ (_ :: _) _ _ _; first | (show SH _ _ _ _ _ (⟨_, _, _, _, _, some _⟩ :: _) _ _ _; (refine gif rfl rfl ?_; first | refine giFF tbL ?_ | refine giFT tbL ?_ | refine giFd (fun h => ?_) (fun h => ?_))) | (show SH _ _ _ _ _ (⟨_, .move _, _, _, _, _⟩ :: _) _ _ _; refine mov evL ?_) | (show SH _ _ _ _ _ (⟨_, .assign _, _, _, _, _⟩ :: _) _ _ _; refine asg evL ?_) | refine neq rfl rfl ?_ | (show SH _ _ _ _ _ (⟨_, .load _ _, _, _, _, _⟩ :: _) _ _ _; refine lbx rfl spL (by rfl) ?_) | refine slen rfl ?_ | (show SH _ _ _ _ _ (⟨_, .pick _ _ _, _, _, _, _⟩ :: _) _ _ _; first | refine pkt rfl tbL evL ?_ | refine pkf rfl tbL evL ?_) | refine fad rfl ?_ | (show SH _ _ _ _ _ (⟨_, .box _ _, _, _, _, _⟩ :: _) _ _ _; refine bxx rfl evL rfl (fun b => ?_))) | refine s_nil ?_ | refine kh_normal ?_ | refine kh_ret ?_))
    all_goals first
      | exact rh1 rfl rfl ⟨rfl, rfl⟩ (ent_nil _)
      | exact absurd ⟨by omega, by omega, by omega⟩ hcc
/-- What a thing that is done gives. -/
def doR (h : Hal) (kind a b : Int) : ResP := doM h (kind % 9).toNat a b
set_option maxHeartbeats 4000000 in
set_option maxRecDepth 100000 in
theorem one36_spec (t la : Int) (A : Option Addr) (L : List PtyP) (c : Nat) (kind a b : Int) (w : World) (hz : SzP L) (hr : RdP w A L) :
    Ret Tryz.prog 13 [hv36 t la A L c, .agg #[.int .i64 kind, .int .i64 a, .int .i64 b]].toArray w (RP w (OutH (doR ⟨t, la, ptys L⟩ kind a b))) := by
  have hpk := fun w => pick_spec kind 9 w (by omega) (by omega)
  have hm : kind % 9 = 0 ∨ kind % 9 = 1 ∨ kind % 9 = 2 ∨ kind % 9 = 3 ∨ kind % 9 = 4 ∨ kind % 9 = 5 ∨ kind % 9 = 6 ∨ kind % 9 = 7 ∨ kind % 9 = 8 := by omega
  unfold doR
  rcases hm with hm | hm | hm | hm | hm | hm | hm | hm | hm
  · rw [hm] at hpk ⊢
    have ho := fun w hr => advance_spec t la A L c a w hz hr
    refine enterH Tryz.func13 rfl rfl Tryz.ntmps13 rfl (Wd.refl _) ?_
    (repeat' (first | (show VH _ _ _ _ _ _ _; first | refine v_seq ?_ | refine r_seq ?_ | refine v_block ?_ | refine v_cond_t rfl tbL ?_) | (show SH _ _ _ _ _ (_ :: _) _ _ _; first | (show SH _ _ _ _ _ (⟨_, .assign _, _, _, _, _⟩ :: _) _ _ _; refine asg evL ?_) | (show SH _ _ _ _ _ (⟨_, .binOp .eql _ _ _ _, _, _, _, _⟩ :: _) _ _ _; refine eqlT rfl rfl omD ?_) | (show SH _ _ _ _ _ (⟨_, .load _ _, _, _, _, _⟩ :: _) _ _ _; first | refine lbx rfl spL (by rfl) ?_ | refine lba rfl spL (by rfl) ?_) | (show SH _ _ _ _ _ (⟨_, .call ⟨.value (.func 38), _, _⟩, _, _, _, _⟩ :: _) _ _ _; refine cl (callee := .func 38) rfl (fun w hw => hpk w) rfl rfl ?_) | (show SH _ _ _ _ _ (⟨_, .call ⟨.value (.func 19), _, _⟩, _, _, _, _⟩ :: _) _ _ _; refine cp (callee := .func 19) rfl (fun w hw => ho w (hr.ext hw.ext)) rfl rfl ?_) | refine fad rfl ?_ | refine ala rfl (fun b => ?_) | (show SH _ _ _ _ _ (⟨_, .box _ _, _, _, _, _⟩ :: _) _ _ _; refine bxx rfl evL rfl (fun b => ?_))) | refine s_nil ?_ | refine kh_normal ?_))
    rintro _ _ ⟨A1, c1, L1, hp1, rfl, rfl⟩
    (repeat' (first | refine v_ret ?_ | (show SH _ _ _ _ _ (_ :: _) _ _ _; first | (show SH _ _ _ _ _ (⟨_, .assign _, _, _, _, _⟩ :: _) _ _ _; refine asg evL ?_) | refine extr rfl rfl ?_ | (show SH _ _ _ _ _ (⟨_, .store _ _ _, _, _, _, _⟩ :: _) _ _ _; refine sta rfl rfl rfl spL (by rfl) (by rfl) (by rfl) kpL ?_)) | refine s_nil ?_ | refine kh_normal ?_ | refine kh_ret ?_ | refine bh_ret ?_))
    exact rhC2 rfl rfl rfl rfl (fun w hw => loadVar_bx hw spL (by rfl)) ⟨A1, c1, L1, hp1, rfl, rfl⟩ enL
  · rw [hm] at hpk ⊢
    have ho := fun w hr => create_spec t la A L c a w hz hr
    refine enterH Tryz.func13 rfl rfl Tryz.ntmps13 rfl (Wd.refl _) ?_
    (repeat' (first | (show VH _ _ _ _ _ _ _; first | refine v_seq ?_ | refine r_seq ?_ | refine v_block ?_ | refine v_cond_t rfl tbL ?_ | refine v_cond_f rfl tbL ?_) | (show SH _ _ _ _ _ (_ :: _) _ _ _; first | (show SH _ _ _ _ _ (⟨_, .assign _, _, _, _, _⟩ :: _) _ _ _; refine asg evL ?_) | (show SH _ _ _ _ _ (⟨_, .binOp .eql _ _ _ _, _, _, _, _⟩ :: _) _ _ _; first | refine eqlT rfl rfl omD ?_ | refine eqlF rfl rfl omD ?_) | (show SH _ _ _ _ _ (⟨_, .load _ _, _, _, _, _⟩ :: _) _ _ _; first | refine lbx rfl spL (by rfl) ?_ | refine lba rfl spL (by rfl) ?_) | (show SH _ _ _ _ _ (⟨_, .call ⟨.value (.func 38), _, _⟩, _, _, _, _⟩ :: _) _ _ _; refine cl (callee := .func 38) rfl (fun w hw => hpk w) rfl rfl ?_) | (show SH _ _ _ _ _ (⟨_, .call ⟨.value (.func 18), _, _⟩, _, _, _, _⟩ :: _) _ _ _; refine cp (callee := .func 18) rfl (fun w hw => ho w (hr.ext hw.ext)) rfl rfl ?_) | refine fad rfl ?_ | refine ala rfl (fun b => ?_) | (show SH _ _ _ _ _ (⟨_, .box _ _, _, _, _, _⟩ :: _) _ _ _; refine bxx rfl evL rfl (fun b => ?_))) | refine s_nil ?_ | refine kh_normal ?_))
    rintro _ _ ⟨A1, c1, L1, hp1, rfl, rfl⟩
    (repeat' (first | refine v_ret ?_ | (show SH _ _ _ _ _ (_ :: _) _ _ _; first | (show SH _ _ _ _ _ (⟨_, .assign _, _, _, _, _⟩ :: _) _ _ _; refine asg evL ?_) | refine extr rfl rfl ?_ | (show SH _ _ _ _ _ (⟨_, .store _ _ _, _, _, _, _⟩ :: _) _ _ _; refine sta rfl rfl rfl spL (by rfl) (by rfl) (by rfl) kpL ?_)) | refine s_nil ?_ | refine kh_normal ?_ | refine kh_ret ?_ | refine bh_ret ?_))
    exact rhC2 rfl rfl rfl rfl (fun w hw => loadVar_bx hw spL (by rfl)) ⟨A1, c1, L1, hp1, rfl, rfl⟩ enL
  · rw [hm] at hpk ⊢
    have ho := fun w hr => invited_spec t la A L c a b w hz hr
    refine enterH Tryz.func13 rfl rfl Tryz.ntmps13 rfl (Wd.refl _) ?_
    (repeat' (first | (show VH _ _ _ _ _ _ _; first | refine v_seq ?_ | refine r_seq ?_ | refine v_block ?_ | refine v_cond_t rfl tbL ?_ | refine v_cond_f rfl tbL ?_) | (show SH _ _ _ _ _ (_ :: _) _ _ _; first | (show SH _ _ _ _ _ (⟨_, .assign _, _, _, _, _⟩ :: _) _ _ _; refine asg evL ?_) | (show SH _ _ _ _ _ (⟨_, .binOp .eql _ _ _ _, _, _, _, _⟩ :: _) _ _ _; first | refine eqlT rfl rfl omD ?_ | refine eqlF rfl rfl omD ?_) | (show SH _ _ _ _ _ (⟨_, .load _ _, _, _, _, _⟩ :: _) _ _ _; first | refine lbx rfl spL (by rfl) ?_ | refine lba rfl spL (by rfl) ?_) | (show SH _ _ _ _ _ (⟨_, .call ⟨.value (.func 38), _, _⟩, _, _, _, _⟩ :: _) _ _ _; refine cl (callee := .func 38) rfl (fun w hw => hpk w) rfl rfl ?_) | (show SH _ _ _ _ _ (⟨_, .call ⟨.value (.func 15), _, _⟩, _, _, _, _⟩ :: _) _ _ _; refine cp (callee := .func 15) rfl (fun w hw => ho w (hr.ext hw.ext)) rfl rfl ?_) | refine fad rfl ?_ | refine ala rfl (fun b => ?_) | (show SH _ _ _ _ _ (⟨_, .box _ _, _, _, _, _⟩ :: _) _ _ _; refine bxx rfl evL rfl (fun b => ?_))) | refine s_nil ?_ | refine kh_normal ?_))
    rintro _ _ ⟨A1, c1, L1, hp1, rfl, rfl⟩
    (repeat' (first | refine v_ret ?_ | (show SH _ _ _ _ _ (_ :: _) _ _ _; first | (show SH _ _ _ _ _ (⟨_, .assign _, _, _, _, _⟩ :: _) _ _ _; refine asg evL ?_) | refine extr rfl rfl ?_ | (show SH _ _ _ _ _ (⟨_, .store _ _ _, _, _, _, _⟩ :: _) _ _ _; refine sta rfl rfl rfl spL (by rfl) (by rfl) (by rfl) kpL ?_)) | refine s_nil ?_ | refine kh_normal ?_ | refine kh_ret ?_ | refine bh_ret ?_))
    exact rhC2 rfl rfl rfl rfl (fun w hw => loadVar_bx hw spL (by rfl)) ⟨A1, c1, L1, hp1, rfl, rfl⟩ enL
  · rw [hm] at hpk ⊢
    have ho := fun w hr => accept_spec t la A L c a b w hz hr
    refine enterH Tryz.func13 rfl rfl Tryz.ntmps13 rfl (Wd.refl _) ?_
    (repeat' (first | (show VH _ _ _ _ _ _ _; first | refine v_seq ?_ | refine r_seq ?_ | refine v_block ?_ | refine v_cond_t rfl tbL ?_ | refine v_cond_f rfl tbL ?_) | (show SH _ _ _ _ _ (_ :: _) _ _ _; first | (show SH _ _ _ _ _ (⟨_, .assign _, _, _, _, _⟩ :: _) _ _ _; refine asg evL ?_) | (show SH _ _ _ _ _ (⟨_, .binOp .eql _ _ _ _, _, _, _, _⟩ :: _) _ _ _; first | refine eqlT rfl rfl omD ?_ | refine eqlF rfl rfl omD ?_) | (show SH _ _ _ _ _ (⟨_, .load _ _, _, _, _, _⟩ :: _) _ _ _; first | refine lbx rfl spL (by rfl) ?_ | refine lba rfl spL (by rfl) ?_) | (show SH _ _ _ _ _ (⟨_, .call ⟨.value (.func 38), _, _⟩, _, _, _, _⟩ :: _) _ _ _; refine cl (callee := .func 38) rfl (fun w hw => hpk w) rfl rfl ?_) | (show SH _ _ _ _ _ (⟨_, .call ⟨.value (.func 14), _, _⟩, _, _, _, _⟩ :: _) _ _ _; refine cp (callee := .func 14) rfl (fun w hw => ho w (hr.ext hw.ext)) rfl rfl ?_) | refine fad rfl ?_ | refine ala rfl (fun b => ?_) | (show SH _ _ _ _ _ (⟨_, .box _ _, _, _, _, _⟩ :: _) _ _ _; refine bxx rfl evL rfl (fun b => ?_))) | refine s_nil ?_ | refine kh_normal ?_))
    rintro _ _ ⟨A1, c1, L1, hp1, rfl, rfl⟩
    (repeat' (first | refine v_ret ?_ | (show SH _ _ _ _ _ (_ :: _) _ _ _; first | (show SH _ _ _ _ _ (⟨_, .assign _, _, _, _, _⟩ :: _) _ _ _; refine asg evL ?_) | refine extr rfl rfl ?_ | (show SH _ _ _ _ _ (⟨_, .store _ _ _, _, _, _, _⟩ :: _) _ _ _; refine sta rfl rfl rfl spL (by rfl) (by rfl) (by rfl) kpL ?_)) | refine s_nil ?_ | refine kh_normal ?_ | refine kh_ret ?_ | refine bh_ret ?_))
    exact rhC2 rfl rfl rfl rfl (fun w hw => loadVar_bx hw spL (by rfl)) ⟨A1, c1, L1, hp1, rfl, rfl⟩ enL
  · rw [hm] at hpk ⊢
    have ho := fun w hr => decline_spec t la A L c a b w hz hr
    refine enterH Tryz.func13 rfl rfl Tryz.ntmps13 rfl (Wd.refl _) ?_
    (repeat' (first | (show VH _ _ _ _ _ _ _; first | refine v_seq ?_ | refine r_seq ?_ | refine v_block ?_ | refine v_cond_t rfl tbL ?_ | refine v_cond_f rfl tbL ?_) | (show SH _ _ _ _ _ (_ :: _) _ _ _; first | (show SH _ _ _ _ _ (⟨_, .assign _, _, _, _, _⟩ :: _) _ _ _; refine asg evL ?_) | (show SH _ _ _ _ _ (⟨_, .binOp .eql _ _ _ _, _, _, _, _⟩ :: _) _ _ _; first | refine eqlT rfl rfl omD ?_ | refine eqlF rfl rfl omD ?_) | (show SH _ _ _ _ _ (⟨_, .load _ _, _, _, _, _⟩ :: _) _ _ _; first | refine lbx rfl spL (by rfl) ?_ | refine lba rfl spL (by rfl) ?_) | (show SH _ _ _ _ _ (⟨_, .call ⟨.value (.func 38), _, _⟩, _, _, _, _⟩ :: _) _ _ _; refine cl (callee := .func 38) rfl (fun w hw => hpk w) rfl rfl ?_) | (show SH _ _ _ _ _ (⟨_, .call ⟨.value (.func 39), _, _⟩, _, _, _, _⟩ :: _) _ _ _; refine cp (callee := .func 39) rfl (fun w hw => ho w (hr.ext hw.ext)) rfl rfl ?_) | refine fad rfl ?_ | refine ala rfl (fun b => ?_) | (show SH _ _ _ _ _ (⟨_, .box _ _, _, _, _, _⟩ :: _) _ _ _; refine bxx rfl evL rfl (fun b => ?_))) | refine s_nil ?_ | refine kh_normal ?_))
    rintro _ _ ⟨A1, c1, L1, hp1, rfl, rfl⟩
    (repeat' (first | refine v_ret ?_ | (show SH _ _ _ _ _ (_ :: _) _ _ _; first | (show SH _ _ _ _ _ (⟨_, .assign _, _, _, _, _⟩ :: _) _ _ _; refine asg evL ?_) | refine extr rfl rfl ?_ | (show SH _ _ _ _ _ (⟨_, .store _ _ _, _, _, _, _⟩ :: _) _ _ _; refine sta rfl rfl rfl spL (by rfl) (by rfl) (by rfl) kpL ?_)) | refine s_nil ?_ | refine kh_normal ?_ | refine kh_ret ?_ | refine bh_ret ?_))
    exact rhC2 rfl rfl rfl rfl (fun w hw => loadVar_bx hw spL (by rfl)) ⟨A1, c1, L1, hp1, rfl, rfl⟩ enL
  · rw [hm] at hpk ⊢
    have ho := fun w hr => leaveO_spec t la A L c a w hz hr
    refine enterH Tryz.func13 rfl rfl Tryz.ntmps13 rfl (Wd.refl _) ?_
    (repeat' (first | (show VH _ _ _ _ _ _ _; first | refine v_seq ?_ | refine r_seq ?_ | refine v_block ?_ | refine v_cond_t rfl tbL ?_ | refine v_cond_f rfl tbL ?_) | (show SH _ _ _ _ _ (_ :: _) _ _ _; first | (show SH _ _ _ _ _ (⟨_, .assign _, _, _, _, _⟩ :: _) _ _ _; refine asg evL ?_) | (show SH _ _ _ _ _ (⟨_, .binOp .eql _ _ _ _, _, _, _, _⟩ :: _) _ _ _; first | refine eqlT rfl rfl omD ?_ | refine eqlF rfl rfl omD ?_) | (show SH _ _ _ _ _ (⟨_, .load _ _, _, _, _, _⟩ :: _) _ _ _; first | refine lbx rfl spL (by rfl) ?_ | refine lba rfl spL (by rfl) ?_) | (show SH _ _ _ _ _ (⟨_, .call ⟨.value (.func 38), _, _⟩, _, _, _, _⟩ :: _) _ _ _; refine cl (callee := .func 38) rfl (fun w hw => hpk w) rfl rfl ?_) | (show SH _ _ _ _ _ (⟨_, .call ⟨.value (.func 17), _, _⟩, _, _, _, _⟩ :: _) _ _ _; refine cp (callee := .func 17) rfl (fun w hw => ho w (hr.ext hw.ext)) rfl rfl ?_) | refine fad rfl ?_ | refine ala rfl (fun b => ?_) | (show SH _ _ _ _ _ (⟨_, .box _ _, _, _, _, _⟩ :: _) _ _ _; refine bxx rfl evL rfl (fun b => ?_))) | refine s_nil ?_ | refine kh_normal ?_))
    rintro _ _ ⟨A1, c1, L1, hp1, rfl, rfl⟩
    (repeat' (first | refine v_ret ?_ | (show SH _ _ _ _ _ (_ :: _) _ _ _; first | (show SH _ _ _ _ _ (⟨_, .assign _, _, _, _, _⟩ :: _) _ _ _; refine asg evL ?_) | refine extr rfl rfl ?_ | (show SH _ _ _ _ _ (⟨_, .store _ _ _, _, _, _, _⟩ :: _) _ _ _; refine sta rfl rfl rfl spL (by rfl) (by rfl) (by rfl) kpL ?_)) | refine s_nil ?_ | refine kh_normal ?_ | refine kh_ret ?_ | refine bh_ret ?_))
    exact rhC2 rfl rfl rfl rfl (fun w hw => loadVar_bx hw spL (by rfl)) ⟨A1, c1, L1, hp1, rfl, rfl⟩ enL
  · rw [hm] at hpk ⊢
    have ho := fun w hr => kick_spec t la A L c a b w hz hr
    refine enterH Tryz.func13 rfl rfl Tryz.ntmps13 rfl (Wd.refl _) ?_
    (repeat' (first | (show VH _ _ _ _ _ _ _; first | refine v_seq ?_ | refine r_seq ?_ | refine v_block ?_ | refine v_cond_t rfl tbL ?_ | refine v_cond_f rfl tbL ?_) | (show SH _ _ _ _ _ (_ :: _) _ _ _; first | (show SH _ _ _ _ _ (⟨_, .assign _, _, _, _, _⟩ :: _) _ _ _; refine asg evL ?_) | (show SH _ _ _ _ _ (⟨_, .binOp .eql _ _ _ _, _, _, _, _⟩ :: _) _ _ _; first | refine eqlT rfl rfl omD ?_ | refine eqlF rfl rfl omD ?_) | (show SH _ _ _ _ _ (⟨_, .load _ _, _, _, _, _⟩ :: _) _ _ _; first | refine lbx rfl spL (by rfl) ?_ | refine lba rfl spL (by rfl) ?_) | (show SH _ _ _ _ _ (⟨_, .call ⟨.value (.func 38), _, _⟩, _, _, _, _⟩ :: _) _ _ _; refine cl (callee := .func 38) rfl (fun w hw => hpk w) rfl rfl ?_) | (show SH _ _ _ _ _ (⟨_, .call ⟨.value (.func 40), _, _⟩, _, _, _, _⟩ :: _) _ _ _; refine cp (callee := .func 40) rfl (fun w hw => ho w (hr.ext hw.ext)) rfl rfl ?_) | refine fad rfl ?_ | refine ala rfl (fun b => ?_) | (show SH _ _ _ _ _ (⟨_, .box _ _, _, _, _, _⟩ :: _) _ _ _; refine bxx rfl evL rfl (fun b => ?_))) | refine s_nil ?_ | refine kh_normal ?_))
    rintro _ _ ⟨A1, c1, L1, hp1, rfl, rfl⟩
    (repeat' (first | refine v_ret ?_ | (show SH _ _ _ _ _ (_ :: _) _ _ _; first | (show SH _ _ _ _ _ (⟨_, .assign _, _, _, _, _⟩ :: _) _ _ _; refine asg evL ?_) | refine extr rfl rfl ?_ | (show SH _ _ _ _ _ (⟨_, .store _ _ _, _, _, _, _⟩ :: _) _ _ _; refine sta rfl rfl rfl spL (by rfl) (by rfl) (by rfl) kpL ?_)) | refine s_nil ?_ | refine kh_normal ?_ | refine kh_ret ?_ | refine bh_ret ?_))
    exact rhC2 rfl rfl rfl rfl (fun w hw => loadVar_bx hw spL (by rfl)) ⟨A1, c1, L1, hp1, rfl, rfl⟩ enL
  · rw [hm] at hpk ⊢
    have ho := fun w hr => promote_spec t la A L c a b w hz hr
    refine enterH Tryz.func13 rfl rfl Tryz.ntmps13 rfl (Wd.refl _) ?_
    (repeat' (first | (show VH _ _ _ _ _ _ _; first | refine v_seq ?_ | refine r_seq ?_ | refine v_block ?_ | refine v_cond_t rfl tbL ?_ | refine v_cond_f rfl tbL ?_) | (show SH _ _ _ _ _ (_ :: _) _ _ _; first | (show SH _ _ _ _ _ (⟨_, .assign _, _, _, _, _⟩ :: _) _ _ _; refine asg evL ?_) | (show SH _ _ _ _ _ (⟨_, .binOp .eql _ _ _ _, _, _, _, _⟩ :: _) _ _ _; first | refine eqlT rfl rfl omD ?_ | refine eqlF rfl rfl omD ?_) | (show SH _ _ _ _ _ (⟨_, .load _ _, _, _, _, _⟩ :: _) _ _ _; first | refine lbx rfl spL (by rfl) ?_ | refine lba rfl spL (by rfl) ?_) | (show SH _ _ _ _ _ (⟨_, .call ⟨.value (.func 38), _, _⟩, _, _, _, _⟩ :: _) _ _ _; refine cl (callee := .func 38) rfl (fun w hw => hpk w) rfl rfl ?_) | (show SH _ _ _ _ _ (⟨_, .call ⟨.value (.func 41), _, _⟩, _, _, _, _⟩ :: _) _ _ _; refine cp (callee := .func 41) rfl (fun w hw => ho w (hr.ext hw.ext)) rfl rfl ?_) | refine fad rfl ?_ | refine ala rfl (fun b => ?_) | (show SH _ _ _ _ _ (⟨_, .box _ _, _, _, _, _⟩ :: _) _ _ _; refine bxx rfl evL rfl (fun b => ?_))) | refine s_nil ?_ | refine kh_normal ?_))
    rintro _ _ ⟨A1, c1, L1, hp1, rfl, rfl⟩
    (repeat' (first | refine v_ret ?_ | (show SH _ _ _ _ _ (_ :: _) _ _ _; first | (show SH _ _ _ _ _ (⟨_, .assign _, _, _, _, _⟩ :: _) _ _ _; refine asg evL ?_) | refine extr rfl rfl ?_ | (show SH _ _ _ _ _ (⟨_, .store _ _ _, _, _, _, _⟩ :: _) _ _ _; refine sta rfl rfl rfl spL (by rfl) (by rfl) (by rfl) kpL ?_)) | refine s_nil ?_ | refine kh_normal ?_ | refine kh_ret ?_ | refine bh_ret ?_))
    exact rhC2 rfl rfl rfl rfl (fun w hw => loadVar_bx hw spL (by rfl)) ⟨A1, c1, L1, hp1, rfl, rfl⟩ enL
  · rw [hm] at hpk ⊢
    have ho := fun w hr => disband_spec t la A L c a w hz hr
    refine enterH Tryz.func13 rfl rfl Tryz.ntmps13 rfl (Wd.refl _) ?_
    (repeat' (first | (show VH _ _ _ _ _ _ _; first | refine v_seq ?_ | refine r_seq ?_ | refine v_block ?_ | refine v_skip ?_ | refine v_cond_f rfl tbL ?_) | (show SH _ _ _ _ _ (_ :: _) _ _ _; first | (show SH _ _ _ _ _ (⟨_, .assign _, _, _, _, _⟩ :: _) _ _ _; refine asg evL ?_) | (show SH _ _ _ _ _ (⟨_, .binOp .eql _ _ _ _, _, _, _, _⟩ :: _) _ _ _; refine eqlF rfl rfl omD ?_) | (show SH _ _ _ _ _ (⟨_, .load _ _, _, _, _, _⟩ :: _) _ _ _; first | refine lbx rfl spL (by rfl) ?_ | refine lba rfl spL (by rfl) ?_) | (show SH _ _ _ _ _ (⟨_, .call ⟨.value (.func 38), _, _⟩, _, _, _, _⟩ :: _) _ _ _; refine cl (callee := .func 38) rfl (fun w hw => hpk w) rfl rfl ?_) | (show SH _ _ _ _ _ (⟨_, .call ⟨.value (.func 42), _, _⟩, _, _, _, _⟩ :: _) _ _ _; refine cp (callee := .func 42) rfl (fun w hw => ho w (hr.ext hw.ext)) rfl rfl ?_) | refine fad rfl ?_ | refine ala rfl (fun b => ?_) | (show SH _ _ _ _ _ (⟨_, .box _ _, _, _, _, _⟩ :: _) _ _ _; refine bxx rfl evL rfl (fun b => ?_))) | refine s_nil ?_ | refine kh_normal ?_ | refine bh_normal ?_))
    rintro _ _ ⟨A1, c1, L1, hp1, rfl, rfl⟩
    (repeat' (first | refine v_ret ?_ | (show SH _ _ _ _ _ (_ :: _) _ _ _; first | (show SH _ _ _ _ _ (⟨_, .assign _, _, _, _, _⟩ :: _) _ _ _; refine asg evL ?_) | refine extr rfl rfl ?_ | (show SH _ _ _ _ _ (⟨_, .store _ _ _, _, _, _, _⟩ :: _) _ _ _; refine sta rfl rfl rfl spL (by rfl) (by rfl) (by rfl) kpL ?_)) | refine s_nil ?_ | refine kh_normal ?_))
    exact rhC2 rfl rfl rfl rfl (fun w hw => loadVar_bx hw spL (by rfl)) ⟨A1, c1, L1, hp1, rfl, rfl⟩ enL
end Go.Proofs.YtlfbcoohfnoacaaGreat
