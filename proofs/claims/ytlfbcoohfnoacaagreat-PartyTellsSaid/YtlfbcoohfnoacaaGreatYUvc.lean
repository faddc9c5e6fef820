/- Package party: Valid. -/
import Derived.Test.YtlfbcoohfnoacaaGreatYTwp
import Derived.Test.YtlfbcoohfnoacaaGreatYMp
import Derived.Test.YtlfbcoohfnoacaaGreatYWz
import Derived.Test.YtlfbcoohfnoacaaGreatYUvb
set_option linter.unusedSimpArgs false
set_option linter.unusedVariables false
namespace Go.Proofs.YtlfbcoohfnoacaaGreat
open Go.Fw Go.RowKit
/-- A fact that omega does not look at. -/
def Hid (p : Prop) : Prop := p
theorem bad_id_spec (n : Int) (w : World) : Ret Tryz.prog 27 [.int .i64 n].toArray w (Out w (.bool (!isIdB n))) := by
  refine enterH Tryz.func27 rfl rfl Tryz.ntmps27 rfl (Wd.refl _) ?_
  (repeat' (first | (show VH _ _ _ _ _ _ _; first | refine v_seq ?_ | refine r_seq ?_ | refine v_ret ?_) | (show SH _ _ _ _ _ (_ :: _) _ _ _; first | (show SH _ _ _ _ _ (⟨_, .move _, _, _, _, _⟩ :: _) _ _ _; refine mov evL ?_) | (show SH _ _ _ _ _ (⟨_, .assign _, _, _, _, _⟩ :: _) _ _ _; refine asg evL ?_) | (show SH _ _ _ _ _ (⟨_, .call ⟨.value (.func 25), _, _⟩, _, _, _, _⟩ :: _) _ _ _; refine cl (callee := .func 25) rfl (fun w hw => isID_spec n w) rfl rfl ?_) | refine bnot rfl ?_) | refine s_nil ?_ | refine kh_normal ?_))
  exact rh1 rfl rfl ⟨rfl, rfl⟩ (ent_nil _)
theorem valid_cut (t la : Int) (ps : List Pty) (h : 0 ≤ t ∧ t ≤ 1073741824 ∧ 0 ≤ la ∧ la ≤ 1048576 ∧ ps.length ≤ 32) : validHal ⟨t, la, ps⟩ = (risingP la t (allM ps) 0 ps && decide (allM ps).Nodup) := by
  unfold validHal
  simp only [decide_eq_true h.1, decide_eq_true h.2.1, decide_eq_true h.2.2.1, decide_eq_true h.2.2.2.1, decide_eq_true h.2.2.2.2, Bool.true_and]
theorem valid_not (t la : Int) (ps : List Pty) (h : ¬ (0 ≤ t ∧ t ≤ 1073741824 ∧ 0 ≤ la ∧ la ≤ 1048576 ∧ ps.length ≤ 32)) : validHal ⟨t, la, ps⟩ = false := by
  cases hv : validHal ⟨t, la, ps⟩ with
  | false => rfl
  | true => have hv := valid_iff.1 hv; exact absurd ⟨hv.t0, hv.t1, hv.l0, hv.l1, hv.len⟩ h
theorem ptyB_cut {last la t : Int} {all : List Int} {p : Pty} (h : last < p.id ∧ p.id ≤ la ∧ 1 ≤ p.mem.length ∧ p.mem.length + p.inv.length ≤ 5 ∧ p.leader ∈ p.mem) : ptyB last la t all p = (invB t all 0 p.inv && p.mem.all isIdB) := by
  unfold ptyB
  simp only [decide_eq_true h.1, decide_eq_true h.2.1, decide_eq_true h.2.2.1, decide_eq_true h.2.2.2.1, decide_eq_true h.2.2.2.2, Bool.true_and]
theorem ptyB_not {last la t : Int} {all : List Int} {p : Pty} (h : ¬ (last < p.id ∧ p.id ≤ la ∧ 1 ≤ p.mem.length ∧ p.mem.length + p.inv.length ≤ 5 ∧ p.leader ∈ p.mem)) : ptyB last la t all p = false := by
  cases hv : ptyB last la t all p with
  | false => rfl
  | true => have hv := ptyB_iff.1 hv; exact absurd ⟨hv.1, hv.2.1, hv.2.2.1, hv.2.2.2.1, hv.2.2.2.2.1⟩ h
theorem invB_cut {w t : Int} {all : List Int} {i : Inv} {r : List Inv} (h : w < i.who ∧ isIdB i.who = true ∧ i.who ∉ all ∧ t < i.till ∧ i.till ≤ t + 600) : invB t all w (i :: r) = invB t all i.who r := by
  rw [invB, decide_eq_true h.1, h.2.1, decide_eq_false h.2.2.1, decide_eq_true h.2.2.2.1, decide_eq_true h.2.2.2.2]; rfl
theorem invB_not {w t : Int} {all : List Int} {i : Inv} {r : List Inv} (h : ¬ (w < i.who ∧ isIdB i.who = true ∧ i.who ∉ all ∧ t < i.till ∧ i.till ≤ t + 600)) : invB t all w (i :: r) = false := by
  cases hv : invB t all w (i :: r) with
  | false => rfl
  | true =>
    rw [invB] at hv
    simp only [Bool.and_eq_true, decide_eq_true_eq, Bool.not_eq_true', decide_eq_false_iff_not] at hv
    exact absurd ⟨hv.1.1.1.1.1, hv.1.1.1.1.2, hv.1.1.1.2, hv.1.1.2, hv.1.2⟩ h
theorem nf36 {b : Bool} (h : (!b) = false) : b = true := by cases b <;> simp_all
theorem any_not_id (l : List Int) : (l.any fun n => !isIdB n) = !l.all isIdB := by
  induction l with
  | nil => rfl
  | cons x l ih => rw [List.any_cons, List.all_cons, ih]; cases isIdB x <;> simp
set_option maxHeartbeats 2000000 in
set_option maxRecDepth 100000 in
theorem valid_spec (t la : Int) (A : Option Addr) (L : List PtyP) (c : Nat) (w : World) (hz : SzP L) (hr : RdP w A L) :
    Ret Tryz.prog 8 [hv36 t la A L c].toArray w (Out w (.bool (validHal ⟨t, la, ptys L⟩))) := by
  have hpl := fun w hr => places_spec t la A L c w hz hr
  have hll := hz.len
  have hrA := hr.1
  have hpn := ptys_len L
  by_cases hc : 0 ≤ t ∧ t ≤ 1073741824 ∧ 0 ≤ la ∧ la ≤ 1048576 ∧ L.length ≤ 32
  · rw [valid_cut t la _ (by rw [hpn]; exact hc)]
    obtain ⟨c1_, c2_, c3_, c4_, c5_⟩ := hc
    refine enterH Tryz.func8 rfl rfl Tryz.ntmps8 rfl (Wd.refl _) ?_
    (repeat' (first | (show VH _ _ _ _ _ _ _; first | refine v_seq ?_ | refine r_seq ?_ | refine v_skip ?_ | refine v_cond_f rfl tbL ?_) | (show SH _ _ _ _ _ (_ :: _) _ _ _; first | (show SH _ _ _ _ _ (⟨_, _, _, _, _, some _⟩ :: _) _ _ _; (refine gif rfl rfl ?_; refine giFF tbL ?_)) | (show SH _ _ _ _ _ (⟨_, .move _, _, _, _, _⟩ :: _) _ _ _; refine mov evL ?_) | (show SH _ _ _ _ _ (⟨_, .assign _, _, _, _, _⟩ :: _) _ _ _; refine asg evL ?_) | (show SH _ _ _ _ _ (⟨_, .binOp .lss _ _ _ _, _, _, _, _⟩ :: _) _ _ _; refine lssF rfl rfl omD ?_) | (show SH _ _ _ _ _ (⟨_, .binOp .gtr _ _ _ _, _, _, _, _⟩ :: _) _ _ _; refine gtrF rfl rfl omD ?_) | (show SH _ _ _ _ _ (⟨_, .load _ _, _, _, _, _⟩ :: _) _ _ _; first | refine lbx rfl spL (by rfl) ?_ | refine lba rfl spL (by rfl) ?_) | refine slen rfl ?_ | (show SH _ _ _ _ _ (⟨_, .call ⟨.value (.func 23), _, _⟩, _, _, _, _⟩ :: _) _ _ _; refine cp (callee := .func 23) rfl (fun w hw => hpl w (hr.ext hw.ext)) rfl rfl ?_) | (show SH _ _ _ _ _ (⟨_, .pick _ _ _, _, _, _, _⟩ :: _) _ _ _; refine pkf rfl tbL evL ?_) | refine fad rfl ?_ | (show SH _ _ _ _ _ (⟨_, .box _ _, _, _, _, _⟩ :: _) _ _ _; refine bxx rfl evL rfl (fun b => ?_))) | refine s_nil ?_ | refine kh_normal ?_))
    rintro _ _ ⟨r, rfl, rfl⟩
    have hpos := places_pos (ptys L)
    have hlen := places_len (ptys L)
    have hmb : (placesM (ptys L)).length ≤ 1000000 := by
      have := (placesFrom_len (ptys L) 0 []).1
      have h2 := allM_le hz
      unfold placesM
      rw [List.length_nil] at this
      omega
    obtain ⟨nd, hnd⟩ : ∃ nd, decide (allM (ptys L)).Nodup = nd := ⟨_, rfl⟩
    rw [hnd] at hlen ⊢
    clear hnd
    generalize placesM (ptys L) = M at hpos hlen hmb ⊢
    have hcn : ∀ k, k < L.length → (allM ((ptys L).take (k + 1))).length = (allM ((ptys L).take k)).length + (L.getD k Flat.dflt).p.mem.length := fun k hk => by
      rw [allM_take (by rw [hpn]; exact hk), ptys_at hk]
    have hcl : (allM ((ptys L).take L.length)).length = (allM (ptys L)).length := by rw [← hpn, List.take_length]
    have hcb := allM_le hz
    have hct := allM_tk (ptys L)
    generalize allM (ptys L) = AL at hpos hlen hcl hcb hct ⊢
    (repeat' (first | (show VH _ _ _ _ _ _ _; first | refine v_seq ?_ | refine r_seq ?_ | refine v_block ?_) | (show SH _ _ _ _ _ (_ :: _) _ _ _; first | (show SH _ _ _ _ _ (⟨_, .move _, _, _, _, _⟩ :: _) _ _ _; refine mov evL ?_) | (show SH _ _ _ _ _ (⟨_, .assign _, _, _, _, _⟩ :: _) _ _ _; refine asg evL ?_) | (show SH _ _ _ _ _ (⟨_, .load _ _, _, _, _, _⟩ :: _) _ _ _; refine lbx rfl spL (by rfl) ?_) | refine slen rfl ?_ | refine fad rfl ?_) | refine s_nil ?_ | refine kh_normal ?_))
    revert b
    intro b1
    refine v_norm [(1,_),(3,_),(4,_),(5,_),(37,_),(38,_),(39,_),(40,_)] heL (fun g => ?_)
    obtain ⟨z, hzz⟩ : ∃ z, (risingP la t AL 0 (ptys L) && nd) = z := ⟨_, rfl⟩
    rw [hzz]
    refine v_loop0 [(2,2),(4,5),(7,8),(10,10),(40,131)] (fun y : Nat × Int => [(40, .int .i64 y.1), (4, .int .i64 (allM ((ptys L).take y.1)).length), (5, .int .i64 y.2)]) (fun y => y.1 ≤ L.length ∧ (risingP la t AL y.2 ((ptys L).drop y.1) && nd) = z) (fun y => L.length - y.1) (0, 0) hsL ⟨Nat.zero_le _, hzz⟩ ?_
    rintro ⟨k, last⟩ g ⟨hk, hv⟩
    simp only [sets]
    simp only at hk hv
    by_cases hkl : k < L.length
    · rw [drop_cons (d := pty0) (by rw [hpn]; exact hkl), risingP, ptys_at hkl] at hv
      have hm := hr.mem hkl
      have hi := hr.inv hkl
      have hml := hz.atm hkl
      have hil := hz.ati hkl
      have hcn' := hcn k hkl
      have hct' := hct (k + 1)
      obtain ⟨x, hx⟩ : ∃ x, L.getD k Flat.dflt = x := ⟨_, rfl⟩
      have hxE := pty_enc hx
      rw [hx] at hv hm hi hml hil hcn'
      clear hx hcn hct hpl hcl hlen
      obtain ⟨⟨xi, xl, xm, xv⟩, xA, xca, xB, xcb⟩ := x
      simp only at hv hm hi hml hil hcn' hxE
      obtain ⟨r1, hr1⟩ : ∃ r1, risingP la t AL xi ((ptys L).drop (k + 1)) = r1 := ⟨_, rfl⟩
      rw [hr1] at hv
      have hco := fun w h => contains_spec xA xm xca xl w (by omega) h
      by_cases hp : last < xi ∧ xi ≤ la ∧ 1 ≤ xm.length ∧ xm.length + xv.length ≤ 5 ∧ xl ∈ xm
      · rw [ptyB_cut hp] at hv
        obtain ⟨p1_, p2_, p3_, p4_, p5_⟩ := hp
        simp only [decide_eq_true p5_] at hco
        (repeat' (first | (show VH _ _ _ _ _ _ _; first | refine v_seq ?_ | refine r_seq ?_ | refine v_block ?_ | refine v_skip ?_ | refine v_cond_t rfl tbL ?_ | refine v_cond_f rfl tbL ?_) | (show SH _ _ _ _ _ (_ :: _) _ _ _; first | (show SH _ _ _ _ _ (⟨_, _, _, _, _, some _⟩ :: _) _ _ _; (refine gif rfl rfl ?_; refine giFF tbL ?_)) | (show SH _ _ _ _ _ (⟨_, .move _, _, _, _, _⟩ :: _) _ _ _; refine mov evL ?_) | (show SH _ _ _ _ _ (⟨_, .assign _, _, _, _, _⟩ :: _) _ _ _; refine asg evL ?_) | (show SH _ _ _ _ _ (⟨_, .binOp .lss _ _ _ _, _, _, _, _⟩ :: _) _ _ _; first | refine lssT rfl rfl omD ?_ | refine lssF rfl rfl omD ?_) | (show SH _ _ _ _ _ (⟨_, .binOp .leq _ _ _ _, _, _, _, _⟩ :: _) _ _ _; refine leqF rfl rfl omD ?_) | (show SH _ _ _ _ _ (⟨_, .binOp .gtr _ _ _ _, _, _, _, _⟩ :: _) _ _ _; refine gtrF rfl rfl omD ?_) | (show SH _ _ _ _ _ (⟨_, .binOp .add _ _ _ _, _, _, _, _⟩ :: _) _ _ _; refine add rfl rfl inL ?_) | (show SH _ _ _ _ _ (⟨_, .load _ _, _, _, _, _⟩ :: _) _ _ _; first | refine lbx rfl spL (by rfl) ?_ | refine lag rfl (fun _ _ => rdP) (by rfl) omL (by assumption) ?_) | (show SH _ _ _ _ _ (⟨_, .indexAddr _ _ _, _, _, _, _⟩ :: _) _ _ _; refine ix rfl rfl (by with_reducible rfl) (fun _ _ => rdP) (by rfl) omL omL ?_) | refine slen rfl ?_ | (show SH _ _ _ _ _ (⟨_, .call ⟨.value (.func 24), _, _⟩, _, _, _, _⟩ :: _) _ _ _; refine cl (callee := .func 24) rfl (fun w hw => hco w (hm.ext hw.ext)) rfl rfl ?_) | refine bnoT rfl ?_ | (show SH _ _ _ _ _ (⟨_, .pick _ _ _, _, _, _, _⟩ :: _) _ _ _; refine pkf rfl tbL evL ?_) | refine fad rfl ?_ | refine ala rfl (fun b => ?_) | (show SH _ _ _ _ _ (⟨_, .store _ _ _, _, _, _, _⟩ :: _) _ _ _; refine sta rfl rfl rfl spL (by rfl) (by rfl) (by rfl) kpL ?_)) | refine s_nil ?_ | refine kh_normal ?_))
        revert b
        intro b2
        clear hco
        simp only at hv
        refine v_normS [(2,2),(4,5),(7,8),(10,10),(40,131)] _ agL [(4,_),(5,_),(7,_),(8,_),(40,_),(80,_),(81,_),(82,_)] heL (fun g => ?_)
        refine v_loop0 [(2,2),(8,8),(10,10),(82,120)] (fun y : Nat × Int => [(82, .int .i64 y.1), (8, .int .i64 y.2)]) (fun y => y.1 ≤ xv.length ∧ (((invB t AL y.2 (xv.drop y.1) && xm.all isIdB) && r1) && nd) = z) (fun y => xv.length - y.1) (0, 0) hsL ⟨Nat.zero_le _, hv⟩ ?_
        rintro ⟨j, who⟩ g2 ⟨hj, hv2⟩
        simp only [sets]
        simp only at hj hv2
        by_cases hjl : j < xv.length
        · rw [drop_cons (d := Flat.dflt) hjl] at hv2
          obtain ⟨y, hy⟩ : ∃ y, xv.getD j Flat.dflt = y := ⟨_, rfl⟩
          have hyE := inv_enc hy
          rw [hy] at hv2
          clear hy
          obtain ⟨yw, yt⟩ := y
          simp only at hyE
          have hpy : 0 < mget M yw ↔ yw ∈ AL := by simpa using hpos yw
          have hid := fun w => isID_spec yw w
          by_cases hq : who < yw ∧ isIdB yw = true ∧ yw ∉ AL ∧ t < yt ∧ yt ≤ t + 600
          · rw [invB_cut hq] at hv2
            obtain ⟨q1_, q2_, q3_, q4_, q5_⟩ := hq
            have q3' : ¬ 0 < mget M yw := fun h => q3_ (hpy.1 h)
            simp only [q2_] at hid
            clear hpy
            (repeat' (first | (show VH _ _ _ _ _ _ _; first | refine v_seq ?_ | refine r_seq ?_ | refine v_block ?_ | refine v_skip ?_ | refine v_cond_t rfl tbL ?_ | refine v_cond_f rfl tbL ?_) | (show SH _ _ _ _ _ (_ :: _) _ _ _; first | (show SH _ _ _ _ _ (⟨_, _, _, _, _, some _⟩ :: _) _ _ _; (refine gif rfl rfl ?_; refine giFF tbL ?_)) | (show SH _ _ _ _ _ (⟨_, .move _, _, _, _, _⟩ :: _) _ _ _; refine mov evL ?_) | (show SH _ _ _ _ _ (⟨_, .assign _, _, _, _, _⟩ :: _) _ _ _; refine asg evL ?_) | (show SH _ _ _ _ _ (⟨_, .binOp .lss _ _ _ _, _, _, _, _⟩ :: _) _ _ _; refine lssT rfl rfl omD ?_) | (show SH _ _ _ _ _ (⟨_, .binOp .leq _ _ _ _, _, _, _, _⟩ :: _) _ _ _; refine leqF rfl rfl omD ?_) | (show SH _ _ _ _ _ (⟨_, .binOp .gtr _ _ _ _, _, _, _, _⟩ :: _) _ _ _; refine gtrF rfl rfl omD ?_) | (show SH _ _ _ _ _ (⟨_, .binOp .add _ _ _ _, _, _, _, _⟩ :: _) _ _ _; refine add rfl rfl inL ?_) | (show SH _ _ _ _ _ (⟨_, .load _ _, _, _, _, _⟩ :: _) _ _ _; first | refine lbx rfl spL (by rfl) ?_ | refine lag rfl (fun _ _ => rdP) (by rfl) omL (by assumption) ?_) | (show SH _ _ _ _ _ (⟨_, .indexAddr _ _ _, _, _, _, _⟩ :: _) _ _ _; refine ix rfl rfl (by with_reducible rfl) (fun _ _ => rdP) (by rfl) omL omL ?_) | (show SH _ _ _ _ _ (⟨_, .lookup _ _ _ false, _, _, _, _⟩ :: _) _ _ _; refine lkm rfl rfl spL ?_) | (show SH _ _ _ _ _ (⟨_, .call ⟨.value (.func 25), _, _⟩, _, _, _, _⟩ :: _) _ _ _; refine cl (callee := .func 25) rfl (fun w hw => hid w) rfl rfl ?_) | refine bnoT rfl ?_ | (show SH _ _ _ _ _ (⟨_, .pick _ _ _, _, _, _, _⟩ :: _) _ _ _; refine pkf rfl tbL evL ?_) | refine fad rfl ?_ | refine ala rfl (fun b => ?_) | (show SH _ _ _ _ _ (⟨_, .store _ _ _, _, _, _, _⟩ :: _) _ _ _; refine sta rfl rfl rfl spL (by rfl) (by rfl) (by rfl) kpL ?_)) | refine s_nil ?_ | refine kh_normal ?_ | refine bh_normal ?_))
            exact ⟨agL, (j + 1, yw), hsL, enL, ⟨hjl, hv2⟩, by show xv.length - (j + 1) < xv.length - j; omega⟩
          · have hcc : Hid _ := hq
            rw [invB_not hq] at hv2
            simp only [Bool.false_and] at hv2
            clear hq hv
            have hpy' : Hid _ := hpy
            clear hpy
            (repeat' (first | (show VH _ _ _ _ _ _ _; first | refine v_seq ?_ | refine r_seq ?_ | refine v_block ?_ | refine v_ret ?_ | refine v_skip ?_ | refine v_cond_t rfl tbL ?_ | refine v_cond_dec rfl (fun h => ?_) (fun h => ?_)) | (show SH _ _ _ _ _ (_ :: _) _ _ _; first | (show SH _ _ _ _ _ (⟨_, _, _, _, _, some _⟩ :: _) _ _ _; (refine gif rfl rfl ?_; first | refine giFF tbL ?_ | refine giFT tbL ?_ | refine giFd (fun h => ?_) (fun h => ?_) | refine giF (fun h => ?_) (fun h => ?_))) | (show SH _ _ _ _ _ (⟨_, .move _, _, _, _, _⟩ :: _) _ _ _; refine mov evL ?_) | (show SH _ _ _ _ _ (⟨_, .assign _, _, _, _, _⟩ :: _) _ _ _; refine asg evL ?_) | (show SH _ _ _ _ _ (⟨_, .binOp .lss _ _ _ _, _, _, _, _⟩ :: _) _ _ _; refine lssT rfl rfl omD ?_) | refine leq rfl rfl ?_ | refine gtr rfl rfl ?_ | (show SH _ _ _ _ _ (⟨_, .binOp .add _ _ _ _, _, _, _, _⟩ :: _) _ _ _; refine add rfl rfl inL ?_) | (show SH _ _ _ _ _ (⟨_, .load _ _, _, _, _, _⟩ :: _) _ _ _; first | refine lbx rfl spL (by rfl) ?_ | refine lag rfl (fun _ _ => rdP) (by rfl) omL (by assumption) ?_) | (show SH _ _ _ _ _ (⟨_, .indexAddr _ _ _, _, _, _, _⟩ :: _) _ _ _; refine ix rfl rfl (by with_reducible rfl) (fun _ _ => rdP) (by rfl) omL omL ?_) | (show SH _ _ _ _ _ (⟨_, .lookup _ _ _ false, _, _, _, _⟩ :: _) _ _ _; refine lkm rfl rfl spL ?_) | (show SH _ _ _ _ _ (⟨_, .call ⟨.value (.func 25), _, _⟩, _, _, _, _⟩ :: _) _ _ _; refine cl (callee := .func 25) rfl (fun w hw => hid w) rfl rfl ?_) | refine bnot rfl ?_ | (show SH _ _ _ _ _ (⟨_, .pick _ _ _, _, _, _, _⟩ :: _) _ _ _; first | refine pkt rfl tbL evL ?_ | refine pkf rfl tbL evL ?_) | refine fad rfl ?_ | refine ala rfl (fun b => ?_) | (show SH _ _ _ _ _ (⟨_, .store _ _ _, _, _, _, _⟩ :: _) _ _ _; refine sta rfl rfl rfl spL (by rfl) (by rfl) (by rfl) kpL ?_)) | refine s_nil ?_ | refine kh_normal ?_ | refine kh_ret ?_ | refine bh_normal ?_ | refine bh_ret ?_))
            all_goals first
              | exact rh1 rfl rfl ⟨congrArg Value.bool hv2, rfl⟩ (ent_nil _)
              | exact absurd ⟨by omega, by first | assumption | exact nf36 (by assumption), fun h => by have := hpy'.2 h; omega, by omega, by omega⟩ hcc
        · have hjE : j = xv.length := by omega
          subst hjE
          rw [List.drop_of_length_le (by omega), invB, Bool.true_and] at hv2
          have hcf := fun w h => containsFunc_spec xA xm xca (.func (.func 27) #[] #[]) (fun n => !isIdB n) w (by omega) h (fun1_of fun w' _ x _ => bad_id_spec x w')
          simp only [any_not_id] at hcf
          cases ha : xm.all isIdB with
          | false =>
            rw [ha] at hv2
            simp only [ha, Bool.false_and, Bool.not_false] at hv2 hcf
            (repeat' (first | (show VH _ _ _ _ _ _ _; first | refine v_seq ?_ | refine r_seq ?_ | refine v_ret ?_ | refine v_exit ?_ | refine v_cond_t rfl tbL ?_ | refine v_cond_f rfl tbL ?_) | (show SH _ _ _ _ _ (_ :: _) _ _ _; first | (show SH _ _ _ _ _ (⟨_, .assign _, _, _, _, _⟩ :: _) _ _ _; refine asg evL ?_) | (show SH _ _ _ _ _ (⟨_, .binOp .lss _ _ _ _, _, _, _, _⟩ :: _) _ _ _; refine lssF rfl rfl omD ?_) | (show SH _ _ _ _ _ (⟨_, .load _ _, _, _, _, _⟩ :: _) _ _ _; refine lbx rfl spL (by rfl) ?_) | (show SH _ _ _ _ _ (⟨_, .call ⟨.value (.func 26), _, _⟩, _, _, _, _⟩ :: _) _ _ _; refine cl (callee := .func 26) rfl (fun w hw => hcf w (hm.ext hw.ext)) rfl rfl ?_) | refine fad rfl ?_) | refine s_nil ?_ | refine kh_normal ?_ | refine kh_ret ?_ | refine kh_exit ?_ | refine bh_ret ?_ | refine bh_exit ?_))
            exact rh1 rfl rfl ⟨congrArg Value.bool hv2, rfl⟩ (ent_nil _)
          | true =>
            rw [ha, Bool.true_and] at hv2
            simp only [ha, Bool.not_true] at hcf
            (repeat' (first | (show VH _ _ _ _ _ _ _; first | refine v_seq ?_ | refine r_seq ?_ | refine v_skip ?_ | refine v_exit ?_ | refine v_cond_f rfl tbL ?_) | (show SH _ _ _ _ _ (_ :: _) _ _ _; first | (show SH _ _ _ _ _ (⟨_, .move _, _, _, _, _⟩ :: _) _ _ _; refine mov evL ?_) | (show SH _ _ _ _ _ (⟨_, .assign _, _, _, _, _⟩ :: _) _ _ _; refine asg evL ?_) | (show SH _ _ _ _ _ (⟨_, .binOp .lss _ _ _ _, _, _, _, _⟩ :: _) _ _ _; refine lssF rfl rfl omD ?_) | (show SH _ _ _ _ _ (⟨_, .binOp .add _ _ _ _, _, _, _, _⟩ :: _) _ _ _; refine add rfl rfl inL ?_) | (show SH _ _ _ _ _ (⟨_, .load _ _, _, _, _, _⟩ :: _) _ _ _; refine lbx rfl spL (by rfl) ?_) | refine slen rfl ?_ | (show SH _ _ _ _ _ (⟨_, .call ⟨.value (.func 26), _, _⟩, _, _, _, _⟩ :: _) _ _ _; refine cl (callee := .func 26) rfl (fun w hw => hcf w (hm.ext hw.ext)) rfl rfl ?_) | refine fad rfl ?_) | refine s_nil ?_ | refine kh_normal ?_ | refine kh_exit ?_ | refine bh_normal ?_ | refine bh_exit ?_))
            rw [← hr1] at hv2
            exact ⟨agL, (k + 1, xi), by simp only [hcn', Int.natCast_add]; (repeat (first | exact trivial | refine And.intro rfl ?_)), enL, ⟨hkl, hv2⟩, by show L.length - (k + 1) < L.length - k; omega⟩
      · have hcc : Hid _ := hp
        rw [ptyB_not hp] at hv
        simp only [Bool.false_and] at hv
        clear hp
        (repeat' (first | (show VH _ _ _ _ _ _ _; first | refine v_seq ?_ | refine r_seq ?_ | refine v_block ?_ | refine v_ret ?_ | refine v_skip ?_ | refine v_cond_t rfl tbL ?_ | refine v_cond_ndec rfl (fun h => ?_) (fun h => ?_)) | (show SH _ _ _ _ _ (_ :: _) _ _ _; first | (show SH _ _ _ _ _ (⟨_, _, _, _, _, some _⟩ :: _) _ _ _; (refine gif rfl rfl ?_; first | refine giFF tbL ?_ | refine giFT tbL ?_ | refine giFd (fun h => ?_) (fun h => ?_))) | (show SH _ _ _ _ _ (⟨_, .move _, _, _, _, _⟩ :: _) _ _ _; refine mov evL ?_) | (show SH _ _ _ _ _ (⟨_, .assign _, _, _, _, _⟩ :: _) _ _ _; refine asg evL ?_) | (show SH _ _ _ _ _ (⟨_, .binOp .lss _ _ _ _, _, _, _, _⟩ :: _) _ _ _; first | refine lssT rfl rfl omD ?_ | refine lss rfl rfl ?_) | refine leq rfl rfl ?_ | refine gtr rfl rfl ?_ | (show SH _ _ _ _ _ (⟨_, .binOp .add _ _ _ _, _, _, _, _⟩ :: _) _ _ _; refine add rfl rfl inL ?_) | (show SH _ _ _ _ _ (⟨_, .load _ _, _, _, _, _⟩ :: _) _ _ _; first | refine lbx rfl spL (by rfl) ?_ | refine lag rfl (fun _ _ => rdP) (by rfl) omL (by assumption) ?_) | (show SH _ _ _ _ _ (⟨_, .indexAddr _ _ _, _, _, _, _⟩ :: _) _ _ _; refine ix rfl rfl (by with_reducible rfl) (fun _ _ => rdP) (by rfl) omL omL ?_) | refine slen rfl ?_ | (show SH _ _ _ _ _ (⟨_, .call ⟨.value (.func 24), _, _⟩, _, _, _, _⟩ :: _) _ _ _; refine cl (callee := .func 24) rfl (fun w hw => hco w (hm.ext hw.ext)) rfl rfl ?_) | refine bnot rfl ?_ | (show SH _ _ _ _ _ (⟨_, .pick _ _ _, _, _, _, _⟩ :: _) _ _ _; first | refine pkt rfl tbL evL ?_ | refine pkf rfl tbL evL ?_) | refine fad rfl ?_ | refine ala rfl (fun b => ?_) | (show SH _ _ _ _ _ (⟨_, .store _ _ _, _, _, _, _⟩ :: _) _ _ _; refine sta rfl rfl rfl spL (by rfl) (by rfl) (by rfl) kpL ?_)) | refine s_nil ?_ | refine kh_normal ?_ | refine kh_ret ?_ | refine bh_ret ?_))
        all_goals first
          | exact rh1 rfl rfl ⟨congrArg Value.bool hv, rfl⟩ (ent_nil _)
          | exact absurd ⟨by omega, by omega, by omega, by omega, by first | assumption | simpa using ‹_›⟩ hcc
    · have hkE : k = L.length := by omega
      subst hkE
      rw [List.drop_of_length_le (by omega), risingP, Bool.true_and] at hv
      subst hv
      rw [hcl]
      (repeat' (first | (show VH _ _ _ _ _ _ _; first | refine v_seq ?_ | refine r_seq ?_ | refine v_ret ?_ | refine v_exit ?_ | refine v_cond_f rfl tbL ?_) | (show SH _ _ _ _ _ (_ :: _) _ _ _; first | (show SH _ _ _ _ _ (⟨_, .move _, _, _, _, _⟩ :: _) _ _ _; refine mov evL ?_) | (show SH _ _ _ _ _ (⟨_, .assign _, _, _, _, _⟩ :: _) _ _ _; refine asg evL ?_) | (show SH _ _ _ _ _ (⟨_, .binOp .lss _ _ _ _, _, _, _, _⟩ :: _) _ _ _; refine lssF rfl rfl omD ?_) | refine eql rfl rfl ?_ | (show SH _ _ _ _ _ (⟨_, .call ⟨.builtin _, _, _⟩, _, _, _, _⟩ :: _) _ _ _; refine lnm rfl spL ?_)) | refine s_nil ?_ | refine kh_normal ?_ | refine kh_exit ?_ | refine bh_exit ?_))
      exact rh1 rfl rfl ⟨congrArg Value.bool (by rw [← hlen]; exact decide_eq_decide.2 (by omega)), rfl⟩ (ent_nil _)
  · have hcc : Hid _ := hc
    rw [valid_not t la _ (by rw [hpn]; exact hc)]
    clear hc
    refine enterH Tryz.func8 rfl rfl Tryz.ntmps8 rfl (Wd.refl _) ?_
    (repeat' (first | (show VH _ _ _ _ _ _ _; first | refine v_seq ?_ | refine r_seq ?_ | refine v_ret ?_ | refine v_skip ?_ | refine v_cond_t rfl tbL ?_ | refine v_cond_dec rfl (fun h => ?_) (fun h => ?_)) | (show SH _ _ _ _ _ (_ :: _) _ _ _; first | (show SH _ _ _ _ _ (⟨_, _, _, _, _, some _⟩ :: _) _ _ _; (refine gif rfl rfl ?_; first | refine giFF tbL ?_ | refine giFT tbL ?_ | refine giFd (fun h => ?_) (fun h => ?_))) | (show SH _ _ _ _ _ (⟨_, .move _, _, _, _, _⟩ :: _) _ _ _; refine mov evL ?_) | (show SH _ _ _ _ _ (⟨_, .assign _, _, _, _, _⟩ :: _) _ _ _; refine asg evL ?_) | refine lss rfl rfl ?_ | refine gtr rfl rfl ?_ | (show SH _ _ _ _ _ (⟨_, .load _ _, _, _, _, _⟩ :: _) _ _ _; first | refine lbx rfl spL (by rfl) ?_ | refine lba rfl spL (by rfl) ?_) | refine slen rfl ?_ | (show SH _ _ _ _ _ (⟨_, .pick _ _ _, _, _, _, _⟩ :: _) _ _ _; first | refine pkt rfl tbL evL ?_ | refine pkf rfl tbL evL ?_) | refine fad rfl ?_ | (show SH _ _ _ _ _ (⟨_, .box _ _, _, _, _, _⟩ :: _) _ _ _; refine bxx rfl evL rfl (fun b => ?_))) | refine s_nil ?_ | refine kh_normal ?_ | refine kh_ret ?_))
    all_goals first
      | exact rh1 rfl rfl ⟨rfl, rfl⟩ (ent_nil _)
      | exact absurd ⟨by omega, by omega, by omega, by omega, by omega⟩ hcc
end Go.Proofs.YtlfbcoohfnoacaaGreat
