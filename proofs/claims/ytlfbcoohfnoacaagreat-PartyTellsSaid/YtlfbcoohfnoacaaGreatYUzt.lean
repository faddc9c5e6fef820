/- PartyTells: from the law's function. -/
import Derived.Test.YtlfbcoohfnoacaaGreatYTwp
import Derived.Test.YtlfbcoohfnoacaaGreatYMp
import Derived.Test.YtlfbcoohfnoacaaGreatYWz
import Derived.Test.YtlfbcoohfnoacaaGreatYPc
import Derived.Test.YtlfbcoohfnoacaaGreatYUyq
import Derived.Test.YtlfbcoohfnoacaaGreatYUwd
set_option linter.unusedSimpArgs false
set_option linter.unusedVariables false
namespace Go.Proofs.YtlfbcoohfnoacaaGreat
open Go.Fw Go.RowKit
theorem szP_next {t la : Int} {L : List PtyP} (hz : SzP L) {kind a b : Int} {M : List PtyP} (hp : ptys M = (nextH ⟨t, la, ptys L⟩ kind a b).ps) : SzP M := by
  unfold nextH at hp
  split at hp
  · exact szP_do hp
  · exact szP_of hp hz
theorem givenK_spec (t la : Int) (A : Option Addr) (L : List PtyP) (c : Nat) (w : World) (hz : SzP L) (hr : RdP w A L) :
    Ret Tryz.prog 7 [hv36 t la A L c].toArray w (RP w fun v H' => ∃ A' c' M, ptys M = ptys L ∧ M.length ≤ c' ∧ v = hv36 t la A' M c' ∧ H' = [knp A' M]) :=
  (given_spec t la A L c w hz hr).mono fun v w' ⟨H', ⟨A', c', M, h1, h2, h3⟩, hw⟩ => ⟨_, ⟨A', c', M, h1, by subst h3; exact (own_cap (hw.own Split.head)).1, h2, rfl⟩, Ent.wd (h3 ▸ ent_knp) hw⟩
set_option maxHeartbeats 4000000 in
set_option maxRecDepth 100000 in
theorem tellsLaw (t0 la0 : Int) (A0 : Option Addr) (L0 : List PtyP) (c0 : Nat) (A1 : Option Addr) (c1_ : Nat) (l : List Do3) (W : World) (hl : L0.length ≤ maxLen) (hr : RdP W A0 L0) (hl1 : l.length ≤ maxLen) (hr1 : Rd W A1 l) :
    Ret Tryz.prog 3 [hv36 t0 la0 A0 L0 c0, .slice A1 l.length c1_].toArray W (Out W (.bool true)) := by
  have hml : maxLen ≤ 9223372036854775807 := by decide
  have haw := fun w => awake36_spec w
  have hrA := hr.1
  have hsm := fun w h => small36_spec t0 la0 A0 L0 c0 w hl h
  by_cases hS : SmallP L0
  case neg =>
    simp only [decide_eq_false hS] at hsm
    clear hl hl1
    refine enterH Tryz.func3 rfl rfl Tryz.ntmps3 rfl (Wd.refl _) ?_
    (repeat' (first | (show VH _ _ _ _ _ _ _; first | refine v_seq ?_ | refine r_seq ?_ | refine v_ret ?_ | refine v_cond_t rfl tbL ?_) | (show SH _ _ _ _ _ (_ :: _) _ _ _; first | (show SH _ _ _ _ _ (⟨_, _, _, _, _, some _⟩ :: _) _ _ _; (refine gif rfl rfl ?_; refine giFT tbL ?_)) | (show SH _ _ _ _ _ (⟨_, .move _, _, _, _, _⟩ :: _) _ _ _; refine mov evL ?_) | (show SH _ _ _ _ _ (⟨_, .assign _, _, _, _, _⟩ :: _) _ _ _; refine asg evL ?_) | (show SH _ _ _ _ _ (⟨_, .load _ _, _, _, _, _⟩ :: _) _ _ _; refine lba rfl spL (by rfl) ?_) | (show SH _ _ _ _ _ (⟨_, .call ⟨.value (.func 6), _, _⟩, _, _, _, _⟩ :: _) _ _ _; refine cl (callee := .func 6) rfl (fun w hw => haw w) rfl rfl ?_) | (show SH _ _ _ _ _ (⟨_, .call ⟨.value (.func 5), _, _⟩, _, _, _, _⟩ :: _) _ _ _; refine cl (callee := .func 5) rfl (fun w hw => hsm w (hrA.ext hw.ext)) rfl rfl ?_) | refine bnoF rfl ?_ | (show SH _ _ _ _ _ (⟨_, .pick _ _ _, _, _, _, _⟩ :: _) _ _ _; refine pkt rfl tbL evL ?_) | (show SH _ _ _ _ _ (⟨_, .box _ _, _, _, _, _⟩ :: _) _ _ _; refine bxx rfl evL rfl (fun b => ?_))) | refine s_nil ?_ | refine kh_normal ?_ | refine kh_ret ?_))
    exact rh1 rfl rfl ⟨rfl, rfl⟩ (ent_nil _)
  simp only [decide_eq_true hS] at hsm
  generalize maxLen = ml at hl hl1 hml
  by_cases h40 : l.length ≤ 40
  case neg =>
    refine enterH Tryz.func3 rfl rfl Tryz.ntmps3 rfl (Wd.refl _) ?_
    (repeat' (first | (show VH _ _ _ _ _ _ _; first | refine v_seq ?_ | refine r_seq ?_ | refine v_ret ?_ | refine v_cond_t rfl tbL ?_) | (show SH _ _ _ _ _ (_ :: _) _ _ _; first | (show SH _ _ _ _ _ (⟨_, _, _, _, _, some _⟩ :: _) _ _ _; (refine gif rfl rfl ?_; refine giFF tbL ?_)) | (show SH _ _ _ _ _ (⟨_, .move _, _, _, _, _⟩ :: _) _ _ _; refine mov evL ?_) | (show SH _ _ _ _ _ (⟨_, .assign _, _, _, _, _⟩ :: _) _ _ _; refine asg evL ?_) | (show SH _ _ _ _ _ (⟨_, .binOp .gtr _ _ _ _, _, _, _, _⟩ :: _) _ _ _; refine gtrT rfl rfl omD ?_) | (show SH _ _ _ _ _ (⟨_, .load _ _, _, _, _, _⟩ :: _) _ _ _; refine lba rfl spL (by rfl) ?_) | refine slen rfl ?_ | (show SH _ _ _ _ _ (⟨_, .call ⟨.value (.func 6), _, _⟩, _, _, _, _⟩ :: _) _ _ _; refine cl (callee := .func 6) rfl (fun w hw => haw w) rfl rfl ?_) | (show SH _ _ _ _ _ (⟨_, .call ⟨.value (.func 5), _, _⟩, _, _, _, _⟩ :: _) _ _ _; refine cl (callee := .func 5) rfl (fun w hw => hsm w (hrA.ext hw.ext)) rfl rfl ?_) | refine bnoT rfl ?_ | (show SH _ _ _ _ _ (⟨_, .pick _ _ _, _, _, _, _⟩ :: _) _ _ _; refine pkf rfl tbL evL ?_) | (show SH _ _ _ _ _ (⟨_, .box _ _, _, _, _, _⟩ :: _) _ _ _; refine bxx rfl evL rfl (fun b => ?_))) | refine s_nil ?_ | refine kh_normal ?_ | refine kh_ret ?_))
    exact rh1 rfl rfl ⟨rfl, rfl⟩ (ent_nil _)
  have hz := hS.sz
  have hG := fun w h => givenK_spec t0 la0 A0 L0 c0 w hz h
  have hvs := fun w hr => valid_spec t0 la0 A0 L0 c0 w hz hr
  clear hl hl1 hml hS
  refine enterH Tryz.func3 rfl rfl Tryz.ntmps3 rfl (Wd.refl _) ?_
  (repeat' (first | (show VH _ _ _ _ _ _ _; first | refine v_seq ?_ | refine r_seq ?_ | refine v_skip ?_ | refine v_cond_f rfl tbL ?_) | (show SH _ _ _ _ _ (_ :: _) _ _ _; first | (show SH _ _ _ _ _ (⟨_, _, _, _, _, some _⟩ :: _) _ _ _; (refine gif rfl rfl ?_; refine giFF tbL ?_)) | (show SH _ _ _ _ _ (⟨_, .move _, _, _, _, _⟩ :: _) _ _ _; refine mov evL ?_) | (show SH _ _ _ _ _ (⟨_, .assign _, _, _, _, _⟩ :: _) _ _ _; refine asg evL ?_) | (show SH _ _ _ _ _ (⟨_, .binOp .gtr _ _ _ _, _, _, _, _⟩ :: _) _ _ _; refine gtrF rfl rfl omD ?_) | (show SH _ _ _ _ _ (⟨_, .load _ _, _, _, _, _⟩ :: _) _ _ _; refine lba rfl spL (by rfl) ?_) | refine slen rfl ?_ | (show SH _ _ _ _ _ (⟨_, .call ⟨.value (.func 5), _, _⟩, _, _, _, _⟩ :: _) _ _ _; refine cl (callee := .func 5) rfl (fun w hw => hsm w (hrA.ext hw.ext)) rfl rfl ?_) | (show SH _ _ _ _ _ (⟨_, .call ⟨.value (.func 7), _, _⟩, _, _, _, _⟩ :: _) _ _ _; refine cp (callee := .func 7) rfl (fun w hw => hG w (hr.ext hw.ext)) rfl rfl ?_) | refine bnoT rfl ?_ | (show SH _ _ _ _ _ (⟨_, .pick _ _ _, _, _, _, _⟩ :: _) _ _ _; refine pkf rfl tbL evL ?_) | (show SH _ _ _ _ _ (⟨_, .box _ _, _, _, _, _⟩ :: _) _ _ _; refine bxx rfl evL rfl (fun b => ?_))) | refine s_nil ?_ | refine kh_normal ?_))
  rintro _ _ ⟨A', c', M, hp, hcM, rfl, rfl⟩
  unfold knp
  revert b
  intro b2
  have hzM := szP_of hp hz
  have hvr := fun w h => refValid_spec t0 la0 A' M c' w hzM h
  rw [hp] at hvr
  generalize validHal ⟨t0, la0, ptys L0⟩ = vb at hvs hvr
  clear hG hsm hp
  (repeat' (first | (show VH _ _ _ _ _ _ _; first | refine v_seq ?_ | refine r_seq ?_ | refine r_quiet hmix (by kernel_rfl) ?_ | refine v_block ?_ | refine v_ret ?_ | refine v_skip ?_ | refine v_cond_ndec rfl (fun h => ?_) (fun h => ?_)) | (show SH _ _ _ _ _ (_ :: _) _ _ _; first | (show SH _ _ _ _ _ (⟨_, .assign _, _, _, _, _⟩ :: _) _ _ _; refine asg evL ?_) | refine neb rfl rfl ?_ | (show SH _ _ _ _ _ (⟨_, .load _ _, _, _, _, _⟩ :: _) _ _ _; refine lba rfl spL (by rfl) ?_) | (show SH _ _ _ _ _ (⟨_, .call ⟨.value (.func 8), _, _⟩, _, _, _, _⟩ :: _) _ _ _; refine cl (callee := .func 8) rfl (fun w hw => hvs w (hr.ext hw.ext)) rfl rfl ?_) | (show SH _ _ _ _ _ (⟨_, .call ⟨.value (.func 9), _, _⟩, _, _, _, _⟩ :: _) _ _ _; refine cl (callee := .func 9) rfl (fun w hw => hvr w (hw.kn spL)) rfl rfl ?_) | refine ala rfl (fun b => ?_) | (show SH _ _ _ _ _ (⟨_, .store _ _ _, _, _, _, _⟩ :: _) _ _ _; refine sta rfl rfl rfl spL (by rfl) (by rfl) (by rfl) kpL ?_)) | refine s_nil ?_ | refine kh_normal ?_ | refine kh_ret ?_))
  · exact absurd h (by cases vb <;> decide)
  revert b
  intro b5
  refine v_norm [(1,_),(5,_),(6,_)] heL (fun g => ?_)
  clear hvs hvr hz hr hrA
  refine v_loop [(4,4),(6,8),(25,42)] (fun y : Nat × Int × Int × Option Addr × Nat × List PtyP × (World → Prop) => [(6, .int .i64 y.1)]) (fun y => [kno y.2.2.2.2.2.2, bx b5 30 [.int .i64 y.2.1, .int .i64 y.2.2.1, .slice y.2.2.2.1 y.2.2.2.2.2.1.length y.2.2.2.2.1]]) (fun y => y.1 ≤ l.length ∧ y.2.2.2.2.2.1.length ≤ y.2.2.2.2.1 ∧ SzP y.2.2.2.2.2.1 ∧ ∀ w, y.2.2.2.2.2.2 w → RdP w y.2.2.2.1 y.2.2.2.2.2.1) (fun y => l.length - y.1) (0, t0, la0, A', c', M, fun w => RdP w A' M) hsL enL ⟨Nat.zero_le _, hcM, hzM, fun w h => h⟩ ?_
  clear hcM hzM
  rintro ⟨i, t, la, A, c, L, Φ⟩ g ⟨hi, hc, hz, hΦ⟩
  simp only [sets]
  simp only at hi hc hz hΦ
  by_cases hil : i < l.length
  · obtain ⟨x, hx⟩ : ∃ x, l.getD i Flat.dflt = x := ⟨_, rfl⟩
    have hxE := do3_enc hx
    clear hx haw
    obtain ⟨xk, xa, xb⟩ := x
    simp only at hxE
    have hD := fun H w h => does_spec t la A L c xk xa xb Φ W H w hz hc hΦ h
    have hsN := fun M h => szP_next (t := t) (la := la) hz (kind := xk) (a := xa) (b := xb) (M := M) h
    generalize nextH ⟨t, la, ptys L⟩ xk xa xb = nx at hD hsN
    obtain ⟨nt, nl, nps⟩ := nx
    unfold RefD at hD
    simp only at hD hsN
    (repeat' ((fail_if_success (show VH _ _ (.seq (.region 9 _ _) _) _ _ _ _)); first | (show VH _ _ _ _ _ _ _; first | refine v_seq ?_ | refine r_seq ?_ | refine v_block ?_ | refine v_skip ?_ | refine v_cond_t rfl tbL ?_) | (show SH _ _ _ _ _ (_ :: _) _ _ _; first | (show SH _ _ _ _ _ (⟨_, .move _, _, _, _, _⟩ :: _) _ _ _; refine mov evL ?_) | (show SH _ _ _ _ _ (⟨_, .binOp .lss _ _ _ _, _, _, _, _⟩ :: _) _ _ _; refine lssT rfl rfl omD ?_) | refine slen rfl ?_) | refine s_nil ?_ | refine kh_normal ?_))
    refine v_seq ?_
    refine r_heldT [bx b5 30 [.int .i64 t, .int .i64 la, .slice A L.length c]] (tr [(0, true), (1, true), (2, true), (3, true), (4, true)] (.fork 5 (tr [(6, true), (7, true), (8, true), (9, false), (10, false), (11, false)] .nil) 9 (tr [(5, false), (6, false), (7, true), (8, true), (10, false), (11, false)] .nil))) hmix (by kernel_rfl) enL ?_
    (repeat' (first | (show SH _ _ _ _ _ (_ :: _) _ _ _; first | (show SH _ _ _ _ _ (⟨_, .move _, _, _, _, _⟩ :: _) _ _ _; refine mov evL ?_) | (show SH _ _ _ _ _ (⟨_, .load _ _, _, _, _, _⟩ :: _) _ _ _; first | refine lba rfl spL (by rfl) ?_ | refine lag rfl (fun _ _ => rdK) (by rfl) omL (by assumption) ?_) | (show SH _ _ _ _ _ (⟨_, .indexAddr _ _ _, _, _, _, _⟩ :: _) _ _ _; refine ix rfl rfl (by with_reducible rfl) (fun _ _ => rdK) (by rfl) omL omL ?_) | refine ala rfl (fun b => ?_)) | refine s_fork ?_ ?_))
    · refine cm rfl (fun w2 hw2 => hD [bx b5 30 [.int .i64 t, .int .i64 la, .slice A L.length c]] w2 (Ent.wd enL hw2)) rfl rfl ?_
      rintro _ _ ⟨A2, c2, L2, hp2, hc2, rfl, rfl⟩
      refine ⟨enL, ?_⟩
      (repeat' (first | (show VH _ _ _ _ _ _ _; first | refine v_seq ?_ | refine r_seq ?_ | refine v_skip ?_ | refine v_cond_f rfl tbL ?_) | (show SH _ _ _ _ _ (_ :: _) _ _ _; first | (show SH _ _ _ _ _ (⟨_, .move _, _, _, _, _⟩ :: _) _ _ _; refine mov evL ?_) | (show SH _ _ _ _ _ (⟨_, .assign _, _, _, _, _⟩ :: _) _ _ _; refine asg evL ?_) | (show SH _ _ _ _ _ (⟨_, .binOp .add _ _ _ _, _, _, _, _⟩ :: _) _ _ _; refine add rfl rfl inL ?_) | (show SH _ _ _ _ _ (⟨_, .load _ _, _, _, _, _⟩ :: _) _ _ _; refine lba rfl spL (by rfl) ?_) | refine bnoT rfl ?_ | refine extr rfl rfl ?_ | refine ala rfl (fun b => ?_) | (show SH _ _ _ _ _ (⟨_, .store _ _ _, _, _, _, _⟩ :: _) _ _ _; refine sta rfl rfl rfl spL (by rfl) (by rfl) (by rfl) kpL ?_)) | refine s_nil ?_ | refine kh_normal ?_ | refine bh_normal ?_))
      exact ⟨agL, (i + 1, nt, nl, A2, c2, L2, fun w => Φ w ∧ RdP w A2 L2), hsL, enL, ⟨hil, hc2, hsN _ hp2, fun w h => h.2⟩, by show l.length - (i + 1) < l.length - i; omega⟩
    · refine cm rfl (fun w2 hw2 => hD [bx b 30 [.int .i64 0, .int .i64 0, .slice none 0 0], bx b5 30 [.int .i64 t, .int .i64 la, .slice A L.length c]] w2 (Ent.wd enL hw2)) rfl rfl ?_
      rintro _ _ ⟨A2, c2, L2, hp2, hc2, rfl, rfl⟩
      refine ⟨enL, ?_⟩
      (repeat' (first | (show VH _ _ _ _ _ _ _; first | refine v_seq ?_ | refine r_seq ?_ | refine v_skip ?_ | refine v_cond_f rfl tbL ?_) | (show SH _ _ _ _ _ (_ :: _) _ _ _; first | (show SH _ _ _ _ _ (⟨_, .move _, _, _, _, _⟩ :: _) _ _ _; refine mov evL ?_) | (show SH _ _ _ _ _ (⟨_, .assign _, _, _, _, _⟩ :: _) _ _ _; refine asg evL ?_) | (show SH _ _ _ _ _ (⟨_, .binOp .add _ _ _ _, _, _, _, _⟩ :: _) _ _ _; refine add rfl rfl inL ?_) | (show SH _ _ _ _ _ (⟨_, .load _ _, _, _, _, _⟩ :: _) _ _ _; refine lba rfl spL (by rfl) ?_) | refine bnoT rfl ?_ | refine extr rfl rfl ?_ | (show SH _ _ _ _ _ (⟨_, .store _ _ _, _, _, _, _⟩ :: _) _ _ _; refine sta rfl rfl rfl spL (by rfl) (by rfl) (by rfl) kpL ?_)) | refine s_nil ?_ | refine kh_normal ?_ | refine bh_normal ?_))
      exact ⟨agL, (i + 1, nt, nl, A2, c2, L2, fun w => Φ w ∧ RdP w A2 L2), hsL, enL, ⟨hil, hc2, hsN _ hp2, fun w h => h.2⟩, by show l.length - (i + 1) < l.length - i; omega⟩
  · obtain rfl : i = l.length := by omega
    (repeat' (first | (show VH _ _ _ _ _ _ _; first | refine v_seq ?_ | refine r_seq ?_ | refine v_ret ?_ | refine v_exit ?_ | refine v_cond_f rfl tbL ?_) | (show SH _ _ _ _ _ (_ :: _) _ _ _; first | (show SH _ _ _ _ _ (⟨_, .move _, _, _, _, _⟩ :: _) _ _ _; refine mov evL ?_) | (show SH _ _ _ _ _ (⟨_, .assign _, _, _, _, _⟩ :: _) _ _ _; refine asg evL ?_) | (show SH _ _ _ _ _ (⟨_, .binOp .lss _ _ _ _, _, _, _, _⟩ :: _) _ _ _; refine lssF rfl rfl omD ?_) | refine slen rfl ?_ | (show SH _ _ _ _ _ (⟨_, .call ⟨.value (.func 6), _, _⟩, _, _, _, _⟩ :: _) _ _ _; refine cl (callee := .func 6) rfl (fun w hw => haw w) rfl rfl ?_)) | refine s_nil ?_ | refine kh_normal ?_ | refine kh_exit ?_ | refine bh_exit ?_))
    exact rh1 rfl rfl ⟨rfl, rfl⟩ (ent_nil _)
end Go.Proofs.YtlfbcoohfnoacaaGreat
