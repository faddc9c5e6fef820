/- The reference of layer 15: With. -/
import Derived.Test.YtfodpcpclmnbkaaDoorZTw
import Derived.Test.YtfodpcpclmnbkaaDoorZWz
import Derived.Test.YtfodpcpclmnbkaaDoorZRi
set_option linter.unusedSimpArgs false
set_option linter.unusedVariables false
namespace Go.Proofs.YtfodpcpclmnbkaaDoor
open Go.Fw Go.RowKit
/-- Whether no bit up to one is in the first number alone. -/
def okB (m mk : Nat) : Nat → Bool
  | 0 => true
  | i + 1 => okB m mk i && !(decide (m / 2 ^ i % 2 = 1) && decide (mk / 2 ^ i % 2 = 0))
theorem okB_iff (m mk : Nat) : ∀ n, okB m mk n = true ↔ ∀ i, i < n → ¬(m / 2 ^ i % 2 = 1 ∧ mk / 2 ^ i % 2 = 0)
  | 0 => ⟨fun _ i hi => absurd hi (Nat.not_lt_zero i), fun _ => rfl⟩
  | n + 1 => by
    have ih := okB_iff m mk n
    unfold okB
    rw [Bool.and_eq_true, ih]
    constructor
    · rintro ⟨h1, h2⟩ i hi
      by_cases e : i = n
      · subst e
        rintro ⟨h3, h4⟩
        rw [decide_eq_true h3, decide_eq_true h4] at h2
        cases h2
      · exact h1 i (by omega)
    · intro h
      refine ⟨fun i hi => h i (by omega), ?_⟩
      have := h n (by omega)
      by_cases h3 : m / 2 ^ n % 2 = 1
      · rw [decide_eq_false (fun h4 => this ⟨h3, h4⟩), Bool.and_false]; rfl
      · rw [decide_eq_false h3]; rfl
theorem okB_all {m : Nat} (hm : m < 4294967296) (cs : List Comp) : decide (bandK .u32 (maskC cs) (m : Int) = (m : Int)) = okB m (maskN cs) 32 := by
  have h := mask_all hm cs
  have h2 := okB_iff m (maskN cs) 32
  cases hb : okB m (maskN cs) 32 with
  | true => exact decide_eq_true (h.2 (h2.1 hb))
  | false => exact decide_eq_false (fun e => by rw [h2.2 (h.1 e)] at hb; cases hb)
set_option maxHeartbeats 2000000 in
set_option maxRecDepth 100000 in
theorem refWith_spec (t : Int) (m : Nat) (A : Option Addr) (l : List EntP) (c1 : Nat) (w : World) (hm : m < 4294967296) (hs : Sz l) (hse : ∀ x ∈ l, x.e.comps.length ≤ 1000000) (hr : RdW w A l) :
    Ret Tryd.prog 35 [wv t A l c1, .int .u32 m].toArray w (RP w (Fresh 3 (withM t m (ents l)))) := by
  have hV := fun w' (he : Ext w w') => refValid_spec t A l c1 w' hs (hr.ext he)
  have hr1 := hr.1
  have hlen := hs.len
  unfold wv at hV ⊢
  unfold withM
  by_cases hv : ValidW t (ents l)
  · rw [if_pos hv]
    rw [decide_eq_true hv] at hV
    have hl64 := hv.len
    rw [ents_len] at hl64
    clear hv
    obtain ⟨p, hp⟩ : ∃ p : EntP → Bool, (fun x : EntP => decide (bandK .u32 (maskC x.e.comps) m = m)) = p := ⟨_, rfl⟩
    have hW : ((ents l).filter fun e => decide (bandK .u32 (maskC e.comps) m = m)).map Ent1.id = (l.filter p).map idE := by
      unfold ents
      rw [List.filter_map, List.map_map, ← hp]; rfl
    rw [hW]
    have hpx : ∀ x, p x = okB m (maskN x.e.comps) 32 := fun x => by rw [← hp]; exact okB_all hm _
    clear hW hp
    refine enterH Tryd.func35 rfl rfl Tryd.ntmps35 rfl (Wd.refl _) ?_
    (repeat' (first | (show VH _ _ _ _ _ _ _; first | refine v_seq ?_ | refine r_seq ?_ | refine v_block ?_) | (show SH _ _ _ _ _ (_ :: _) _ _ _; first | (show SH _ _ _ _ _ (⟨_, .assign _, _, _, _, _⟩ :: _) _ _ _; refine asg evL ?_) | (show SH _ _ _ _ _ (⟨_, .box _ _, _, _, _, _⟩ :: _) _ _ _; refine bxx rfl evL rfl (fun b => ?_))) | refine s_nil ?_ | refine kh_normal ?_))
    refine v_loop [(5,50)] (fun s : Nat × (Option Addr × Nat) => [(6, .int .i64 s.1), (5, .slice s.2.1 (((l.take s.1).filter p).map idE).length s.2.2)]) (fun s => [orow 3 s.2.1 s.2.2 (((l.take s.1).filter p).map idE), bx b 25 [.int .i64 t, .slice A l.length c1]]) (fun s => s.1 ≤ l.length) (fun s => l.length - s.1) (0, none, 0) hsL (ent_nilrow enL) (Nat.zero_le _) ?_
    rintro ⟨k, A1, c2⟩ g hk
    simp only [sets]
    simp only at hk
    have hlen2 : (((l.take k).filter p).map idE).length ≤ k := by
      rw [List.length_map]
      have := List.length_filter_le p (l.take k)
      rw [List.length_take] at this; omega
    by_cases hkl : k < l.length
    · have hn := filt_next Flat.dflt p idE hkl
      have hx := getD_mem (d := Flat.dflt) hkl
      have hM := fun w' (he : Ext w w') => refMask_spec (l.getD k Flat.dflt) w' (hse _ hx) ((hr.2 _ hx).ext he)
      have hpk := hpx (l.getD k Flat.dflt)
      obtain ⟨x, hxe⟩ : ∃ x, l.getD k Flat.dflt = x := ⟨_, rfl⟩
      have hxE : Flat.enc (l.getD k Flat.dflt) = Flat.enc x := by rw [hxe]
      rw [hxe] at hn hM hpk
      obtain ⟨⟨ei, cs⟩, Ax, cx⟩ := x
      simp only at hM hpk
      rw [show Flat.enc (⟨⟨ei, cs⟩, Ax, cx⟩ : EntP) = [.int .i64 ei, .slice Ax cs.length cx] from rfl] at hxE hM
      rw [show idE (⟨⟨ei, cs⟩, Ax, cx⟩ : EntP) = ei from rfl] at hn
      rw [maskC_N] at hM
      generalize maskN cs = mk at hM hpk
      clear hpx hx hxe
      (repeat' (first | (show VH _ _ _ _ _ _ _; first | refine v_seq ?_ | refine r_seq ?_ | refine v_block ?_ | refine v_skip ?_ | refine v_cond_t rfl tbL ?_) | (show SH _ _ _ _ _ (_ :: _) _ _ _; first | (show SH _ _ _ _ _ (⟨_, _, _, _, _, some _⟩ :: _) _ _ _; (refine gif rfl rfl ?_; refine giTT tbL ?_)) | (show SH _ _ _ _ _ (⟨_, .move _, _, _, _, _⟩ :: _) _ _ _; refine mov evL ?_) | (show SH _ _ _ _ _ (⟨_, .assign _, _, _, _, _⟩ :: _) _ _ _; refine asg evL ?_) | (show SH _ _ _ _ _ (⟨_, .binOp .lss _ _ _ _, _, _, _, _⟩ :: _) _ _ _; refine lssT rfl rfl omD ?_) | (show SH _ _ _ _ _ (⟨_, .load _ _, _, _, _, _⟩ :: _) _ _ _; first | refine lbx rfl spL (by rfl) ?_ | refine lba rfl spL (by rfl) ?_) | refine slen rfl ?_ | (show SH _ _ _ _ _ (⟨_, .call ⟨.value (.func 28), _, _⟩, _, _, _, _⟩ :: _) _ _ _; refine cl (callee := .func 28) rfl (fun w hw => hV _ hw.ext) rfl rfl ?_) | (show SH _ _ _ _ _ (⟨_, .pick _ _ _, _, _, _, _⟩ :: _) _ _ _; refine pkt rfl tbL evL ?_) | refine fad rfl ?_) | refine s_nil ?_ | refine kh_normal ?_))
      refine v_loop0 [(7,8),(20,40)] (fun i : Nat => [(8, .int .i64 i), (7, .bool (okB m mk i))]) (fun i => i ≤ 32) (fun i => 32 - i) 0 hsL (Nat.zero_le _) ?_
      rintro i g2 hi
      simp only [sets]
      by_cases hil : i < 32
      · have hs1 := shr32 m i (by omega)
        have hs2 := shr32 mk i (by omega)
        have hn1 : okB m mk (i + 1) = (okB m mk i && !(decide (m / 2 ^ i % 2 = 1) && decide (mk / 2 ^ i % 2 = 0))) := rfl
        generalize m / 2 ^ i = q1 at hs1 hn1
        generalize mk / 2 ^ i = q2 at hs2 hn1
        clear hn hpk
        by_cases h1 : q1 % 2 = 1
        · rw [decide_eq_true h1, Bool.true_and] at hn1
          have h1' : (q1 : Int) % 2 = 1 := by omega
          clear h1
          by_cases h2 : q2 % 2 = 0
          · rw [decide_eq_true h2] at hn1
            have h2' : (q2 : Int) % 2 = 0 := by omega
            clear h2
            simp only [Bool.not_true, Bool.and_false] at hn1
            (repeat' (first | (show VH _ _ _ _ _ _ _; first | refine v_seq ?_ | refine r_seq ?_ | refine v_block ?_ | refine v_skip ?_ | refine v_cond_t rfl tbL ?_) | (show SH _ _ _ _ _ (_ :: _) _ _ _; first | (show SH _ _ _ _ _ (⟨_, .move _, _, _, _, _⟩ :: _) _ _ _; refine mov evL ?_) | (show SH _ _ _ _ _ (⟨_, .binOp .lss _ _ _ _, _, _, _, _⟩ :: _) _ _ _; refine lssT rfl rfl omD ?_)) | refine s_nil ?_ | refine kh_normal ?_))
            refine shrw rfl rfl (by omega) _ hs1 ?_
            (repeat' ((show SH _ _ _ _ _ (_ :: _) _ _ _; first | (show SH _ _ _ _ _ (⟨_, _, _, _, _, some _⟩ :: _) _ _ _; (refine gif rfl rfl ?_; refine giTT tbL ?_)) | (show SH _ _ _ _ _ (⟨_, .move _, _, _, _, _⟩ :: _) _ _ _; refine mov evL ?_) | (show SH _ _ _ _ _ (⟨_, .binOp .eql _ _ _ _, _, _, _, _⟩ :: _) _ _ _; refine eqlT rfl rfl omD ?_) | (show SH _ _ _ _ _ (⟨_, .binOp .rem _ _ _ _, _, _, _, _⟩ :: _) _ _ _; refine rem rfl rfl omL omL ?_) | (show SH _ _ _ _ _ (⟨_, .load _ _, _, _, _, _⟩ :: _) _ _ _; first | refine lag rfl (fun _ _ => rdY) (by rfl) omL (by assumption) ?_ | refine lbx rfl spL (by rfl) ?_) | (show SH _ _ _ _ _ (⟨_, .indexAddr _ _ _, _, _, _, _⟩ :: _) _ _ _; refine ix rfl rfl (by with_reducible rfl) (fun _ _ => rdY) (by rfl) omL omL ?_) | (show SH _ _ _ _ _ (⟨_, .call ⟨.value (.func 29), _, _⟩, _, _, _, _⟩ :: _) _ _ _; refine cl (callee := .func 29) rfl (fun w hw => hM _ hw.ext) rfl rfl ?_) | refine fad rfl ?_)))
            refine shrw rfl rfl (by omega) _ hs2 ?_
            (repeat' (first | (show VH _ _ _ _ _ _ _; first | refine r_seq ?_ | refine v_cond_t rfl tbL ?_) | (show SH _ _ _ _ _ (_ :: _) _ _ _; first | (show SH _ _ _ _ _ (⟨_, _, _, _, _, some _⟩ :: _) _ _ _; (refine gif rfl rfl ?_; refine giTT tbL ?_)) | (show SH _ _ _ _ _ (⟨_, .move _, _, _, _, _⟩ :: _) _ _ _; refine mov evL ?_) | (show SH _ _ _ _ _ (⟨_, .assign _, _, _, _, _⟩ :: _) _ _ _; refine asg evL ?_) | (show SH _ _ _ _ _ (⟨_, .binOp .eql _ _ _ _, _, _, _, _⟩ :: _) _ _ _; refine eqlT rfl rfl omD ?_) | (show SH _ _ _ _ _ (⟨_, .binOp .add _ _ _ _, _, _, _, _⟩ :: _) _ _ _; refine add rfl rfl inL ?_) | (show SH _ _ _ _ _ (⟨_, .binOp .rem _ _ _ _, _, _, _, _⟩ :: _) _ _ _; refine rem rfl rfl omL omL ?_) | (show SH _ _ _ _ _ (⟨_, .pick _ _ _, _, _, _, _⟩ :: _) _ _ _; refine pkt rfl tbL evL ?_)) | refine s_nil ?_ | refine kh_normal ?_ | refine bh_normal ?_))
            exact ⟨agL, i + 1, by rw [hn1]; (repeat (first | exact trivial | refine And.intro rfl ?_)), enL, hil, by show _ - (i + 1) < _ - i; omega⟩
          · rw [decide_eq_false h2] at hn1
            have h2' : (q2 : Int) % 2 = 1 := by omega
            clear h2
            simp only [Bool.not_false, Bool.and_true] at hn1
            (repeat' (first | (show VH _ _ _ _ _ _ _; first | refine v_seq ?_ | refine r_seq ?_ | refine v_block ?_ | refine v_skip ?_ | refine v_cond_t rfl tbL ?_) | (show SH _ _ _ _ _ (_ :: _) _ _ _; first | (show SH _ _ _ _ _ (⟨_, .move _, _, _, _, _⟩ :: _) _ _ _; refine mov evL ?_) | (show SH _ _ _ _ _ (⟨_, .binOp .lss _ _ _ _, _, _, _, _⟩ :: _) _ _ _; refine lssT rfl rfl omD ?_)) | refine s_nil ?_ | refine kh_normal ?_))
            refine shrw rfl rfl (by omega) _ hs1 ?_
            (repeat' ((show SH _ _ _ _ _ (_ :: _) _ _ _; first | (show SH _ _ _ _ _ (⟨_, _, _, _, _, some _⟩ :: _) _ _ _; (refine gif rfl rfl ?_; refine giTT tbL ?_)) | (show SH _ _ _ _ _ (⟨_, .move _, _, _, _, _⟩ :: _) _ _ _; refine mov evL ?_) | (show SH _ _ _ _ _ (⟨_, .binOp .eql _ _ _ _, _, _, _, _⟩ :: _) _ _ _; refine eqlT rfl rfl omD ?_) | (show SH _ _ _ _ _ (⟨_, .binOp .rem _ _ _ _, _, _, _, _⟩ :: _) _ _ _; refine rem rfl rfl omL omL ?_) | (show SH _ _ _ _ _ (⟨_, .load _ _, _, _, _, _⟩ :: _) _ _ _; first | refine lag rfl (fun _ _ => rdY) (by rfl) omL (by assumption) ?_ | refine lbx rfl spL (by rfl) ?_) | (show SH _ _ _ _ _ (⟨_, .indexAddr _ _ _, _, _, _, _⟩ :: _) _ _ _; refine ix rfl rfl (by with_reducible rfl) (fun _ _ => rdY) (by rfl) omL omL ?_) | (show SH _ _ _ _ _ (⟨_, .call ⟨.value (.func 29), _, _⟩, _, _, _, _⟩ :: _) _ _ _; refine cl (callee := .func 29) rfl (fun w hw => hM _ hw.ext) rfl rfl ?_) | refine fad rfl ?_)))
            refine shrw rfl rfl (by omega) _ hs2 ?_
            (repeat' (first | (show VH _ _ _ _ _ _ _; first | refine r_seq ?_ | refine v_skip ?_ | refine v_cond_f rfl tbL ?_) | (show SH _ _ _ _ _ (_ :: _) _ _ _; first | (show SH _ _ _ _ _ (⟨_, _, _, _, _, some _⟩ :: _) _ _ _; (refine gif rfl rfl ?_; refine giTT tbL ?_)) | (show SH _ _ _ _ _ (⟨_, .move _, _, _, _, _⟩ :: _) _ _ _; refine mov evL ?_) | (show SH _ _ _ _ _ (⟨_, .assign _, _, _, _, _⟩ :: _) _ _ _; refine asg evL ?_) | (show SH _ _ _ _ _ (⟨_, .binOp .eql _ _ _ _, _, _, _, _⟩ :: _) _ _ _; refine eqlF rfl rfl omD ?_) | (show SH _ _ _ _ _ (⟨_, .binOp .add _ _ _ _, _, _, _, _⟩ :: _) _ _ _; refine add rfl rfl inL ?_) | (show SH _ _ _ _ _ (⟨_, .binOp .rem _ _ _ _, _, _, _, _⟩ :: _) _ _ _; refine rem rfl rfl omL omL ?_) | (show SH _ _ _ _ _ (⟨_, .pick _ _ _, _, _, _, _⟩ :: _) _ _ _; refine pkt rfl tbL evL ?_)) | refine s_nil ?_ | refine kh_normal ?_ | refine bh_normal ?_))
            exact ⟨agL, i + 1, by rw [hn1]; (repeat (first | exact trivial | refine And.intro rfl ?_)), enL, hil, by show _ - (i + 1) < _ - i; omega⟩
        · rw [decide_eq_false h1] at hn1
          simp only [Bool.false_and, Bool.not_false, Bool.and_true] at hn1
          have h1' : (q1 : Int) % 2 = 0 := by omega
          clear h1
          (repeat' (first | (show VH _ _ _ _ _ _ _; first | refine v_seq ?_ | refine r_seq ?_ | refine v_block ?_ | refine v_skip ?_ | refine v_cond_t rfl tbL ?_) | (show SH _ _ _ _ _ (_ :: _) _ _ _; first | (show SH _ _ _ _ _ (⟨_, .move _, _, _, _, _⟩ :: _) _ _ _; refine mov evL ?_) | (show SH _ _ _ _ _ (⟨_, .binOp .lss _ _ _ _, _, _, _, _⟩ :: _) _ _ _; refine lssT rfl rfl omD ?_)) | refine s_nil ?_ | refine kh_normal ?_))
          refine shrw rfl rfl (by omega) _ hs1 ?_
          (repeat' (first | (show VH _ _ _ _ _ _ _; first | refine r_seq ?_ | refine v_skip ?_ | refine v_cond_f rfl tbL ?_) | (show SH _ _ _ _ _ (_ :: _) _ _ _; first | (show SH _ _ _ _ _ (⟨_, _, _, _, _, some _⟩ :: _) _ _ _; (refine gif rfl rfl ?_; refine giTF tbL ?_)) | (show SH _ _ _ _ _ (⟨_, .move _, _, _, _, _⟩ :: _) _ _ _; refine mov evL ?_) | (show SH _ _ _ _ _ (⟨_, .assign _, _, _, _, _⟩ :: _) _ _ _; refine asg evL ?_) | (show SH _ _ _ _ _ (⟨_, .binOp .eql _ _ _ _, _, _, _, _⟩ :: _) _ _ _; refine eqlF rfl rfl omD ?_) | (show SH _ _ _ _ _ (⟨_, .binOp .add _ _ _ _, _, _, _, _⟩ :: _) _ _ _; refine add rfl rfl inL ?_) | (show SH _ _ _ _ _ (⟨_, .binOp .rem _ _ _ _, _, _, _, _⟩ :: _) _ _ _; refine rem rfl rfl omL omL ?_) | (show SH _ _ _ _ _ (⟨_, .pick _ _ _, _, _, _, _⟩ :: _) _ _ _; refine pkf rfl tbL evL ?_)) | refine s_nil ?_ | refine kh_normal ?_ | refine bh_normal ?_))
          exact ⟨agL, i + 1, by rw [hn1]; (repeat (first | exact trivial | refine And.intro rfl ?_)), enL, hil, by show _ - (i + 1) < _ - i; omega⟩
      · obtain rfl : i = 32 := by omega
        cases hb : okB m mk 32 with
        | true =>
          rw [hpk, hb, if_pos rfl] at hn
          clear hpk hb
          (repeat' (first | (show VH _ _ _ _ _ _ _; first | refine v_seq ?_ | refine r_seq ?_ | refine v_exit ?_ | refine v_cond_t rfl tbL ?_ | refine v_cond_f rfl tbL ?_) | (show SH _ _ _ _ _ (_ :: _) _ _ _; first | (show SH _ _ _ _ _ (⟨_, .move _, _, _, _, _⟩ :: _) _ _ _; refine mov evL ?_) | (show SH _ _ _ _ _ (⟨_, .binOp .lss _ _ _ _, _, _, _, _⟩ :: _) _ _ _; refine lssF rfl rfl omD ?_) | (show SH _ _ _ _ _ (⟨_, .load _ _, _, _, _, _⟩ :: _) _ _ _; first | refine lrg rfl (fun _ _ => rdY) (by rfl) omL (by assumption) (by rfl) ?_ | refine lbx rfl spL (by rfl) ?_) | (show SH _ _ _ _ _ (⟨_, .indexAddr _ _ _, _, _, _, _⟩ :: _) _ _ _; refine ix rfl rfl (by with_reducible rfl) (fun _ _ => rdY) (by rfl) omL omL ?_) | refine fad rfl ?_ | (show SH _ _ _ _ _ (⟨_, .buildSlice _ _ _, _, _, _, _⟩ :: _) _ _ _; refine bsl (α := Int) rfl rfl (by repeat (first | exact Vals.nil | (apply Vals.cons; rfl))) rfl (by rfl) (by decide) (fun b => ?_))) | refine s_nil ?_ | refine kh_normal ?_ | refine kh_exit ?_ | refine bh_exit ?_))
          refine app (l := ((l.take k).filter p).map idE) (l2 := [ei]) rfl rfl rfl spL (fun w hw => hw.rd spL) rfl rfl rfl (by simp only [List.length_cons, List.length_nil]; omega) (by simp only [List.length_cons, List.length_nil]; omega) (fun A4 c4 => ⟨enL, ?_⟩)
          rw [← hn]
          (repeat' (first | refine r_seq ?_ | (show SH _ _ _ _ _ (_ :: _) _ _ _; first | (show SH _ _ _ _ _ (⟨_, .move _, _, _, _, _⟩ :: _) _ _ _; refine mov evL ?_) | (show SH _ _ _ _ _ (⟨_, .assign _, _, _, _, _⟩ :: _) _ _ _; refine asg evL ?_) | (show SH _ _ _ _ _ (⟨_, .binOp .add _ _ _ _, _, _, _, _⟩ :: _) _ _ _; refine add rfl rfl inL ?_)) | refine s_nil ?_ | refine kh_normal ?_ | refine bh_normal ?_))
          exact ⟨agL, (k + 1, A4, c4), hsL, enL, hkl, by show _ - (k + 1) < _ - k; omega⟩
        | false =>
          rw [hpk, hb, if_neg (by decide), List.append_nil] at hn
          clear hpk hb
          (repeat' (first | (show VH _ _ _ _ _ _ _; first | refine v_seq ?_ | refine r_seq ?_ | refine v_skip ?_ | refine v_exit ?_ | refine v_cond_f rfl tbL ?_) | (show SH _ _ _ _ _ (_ :: _) _ _ _; first | (show SH _ _ _ _ _ (⟨_, .move _, _, _, _, _⟩ :: _) _ _ _; refine mov evL ?_) | (show SH _ _ _ _ _ (⟨_, .assign _, _, _, _, _⟩ :: _) _ _ _; refine asg evL ?_) | (show SH _ _ _ _ _ (⟨_, .binOp .lss _ _ _ _, _, _, _, _⟩ :: _) _ _ _; refine lssF rfl rfl omD ?_) | (show SH _ _ _ _ _ (⟨_, .binOp .add _ _ _ _, _, _, _, _⟩ :: _) _ _ _; refine add rfl rfl inL ?_)) | refine s_nil ?_ | refine kh_normal ?_ | refine kh_exit ?_ | refine bh_normal ?_ | refine bh_exit ?_))
          exact ⟨agL, (k + 1, A1, c2), by rw [hn]; (repeat (first | exact trivial | refine And.intro rfl ?_)), by rw [hn]; exact enL, hkl, by show _ - (k + 1) < _ - k; omega⟩
    · have hke : k = l.length := by omega
      rw [hke, List.take_length]
      clear hpx
      (repeat' (first | (show VH _ _ _ _ _ _ _; first | refine v_seq ?_ | refine r_seq ?_ | refine v_ret ?_ | refine v_exit ?_ | refine v_cond_f rfl tbL ?_) | (show SH _ _ _ _ _ (_ :: _) _ _ _; first | (show SH _ _ _ _ _ (⟨_, _, _, _, _, some _⟩ :: _) _ _ _; (refine gif rfl rfl ?_; refine giTF tbL ?_)) | (show SH _ _ _ _ _ (⟨_, .move _, _, _, _, _⟩ :: _) _ _ _; refine mov evL ?_) | (show SH _ _ _ _ _ (⟨_, .assign _, _, _, _, _⟩ :: _) _ _ _; refine asg evL ?_) | (show SH _ _ _ _ _ (⟨_, .binOp .lss _ _ _ _, _, _, _, _⟩ :: _) _ _ _; refine lssF rfl rfl omD ?_) | (show SH _ _ _ _ _ (⟨_, .load _ _, _, _, _, _⟩ :: _) _ _ _; refine lbx rfl spL (by rfl) ?_) | refine slen rfl ?_ | (show SH _ _ _ _ _ (⟨_, .pick _ _ _, _, _, _, _⟩ :: _) _ _ _; refine pkf rfl tbL evL ?_) | refine fad rfl ?_) | refine s_nil ?_ | refine kh_normal ?_ | refine kh_exit ?_ | refine bh_exit ?_))
      exact rh1 rfl rfl ⟨A1, c2, rfl, rfl⟩ enL
  · rw [if_neg hv]
    rw [decide_eq_false hv] at hV
    clear hv
    refine enterH Tryd.func35 rfl rfl Tryd.ntmps35 rfl (Wd.refl _) ?_
    (repeat' (first | (show VH _ _ _ _ _ _ _; first | refine v_seq ?_ | refine r_seq ?_ | refine v_block ?_) | (show SH _ _ _ _ _ (_ :: _) _ _ _; first | (show SH _ _ _ _ _ (⟨_, .assign _, _, _, _, _⟩ :: _) _ _ _; refine asg evL ?_) | (show SH _ _ _ _ _ (⟨_, .box _ _, _, _, _, _⟩ :: _) _ _ _; refine bxx rfl evL rfl (fun b => ?_))) | refine s_nil ?_ | refine kh_normal ?_))
    refine v_loop0 [(5,50)] (fun k : Nat => [(6, .int .i64 k), (5, .slice none 0 0)]) (fun k => k = 0) (fun k => l.length - k) 0 hsL rfl ?_
    rintro k g rfl
    simp only [sets]
    by_cases hkl : 0 < l.length
    all_goals
      (repeat' (first | (show VH _ _ _ _ _ _ _; first | refine v_seq ?_ | refine r_seq ?_ | refine v_ret ?_ | refine v_exit ?_ | refine v_cond_f rfl tbL ?_) | (show SH _ _ _ _ _ (_ :: _) _ _ _; first | (show SH _ _ _ _ _ (⟨_, _, _, _, _, some _⟩ :: _) _ _ _; (refine gif rfl rfl ?_; first | refine giTT tbL ?_ | refine giTF tbL ?_)) | (show SH _ _ _ _ _ (⟨_, .move _, _, _, _, _⟩ :: _) _ _ _; refine mov evL ?_) | (show SH _ _ _ _ _ (⟨_, .assign _, _, _, _, _⟩ :: _) _ _ _; refine asg evL ?_) | (show SH _ _ _ _ _ (⟨_, .binOp .lss _ _ _ _, _, _, _, _⟩ :: _) _ _ _; first | refine lssT rfl rfl omD ?_ | refine lssF rfl rfl omD ?_) | (show SH _ _ _ _ _ (⟨_, .load _ _, _, _, _, _⟩ :: _) _ _ _; first | refine lbx rfl spL (by rfl) ?_ | refine lba rfl spL (by rfl) ?_) | refine slen rfl ?_ | (show SH _ _ _ _ _ (⟨_, .call ⟨.value (.func 28), _, _⟩, _, _, _, _⟩ :: _) _ _ _; refine cl (callee := .func 28) rfl (fun w hw => hV _ hw.ext) rfl rfl ?_) | (show SH _ _ _ _ _ (⟨_, .pick _ _ _, _, _, _, _⟩ :: _) _ _ _; first | refine pkt rfl tbL evL ?_ | refine pkf rfl tbL evL ?_) | refine fad rfl ?_) | refine s_nil ?_ | refine kh_normal ?_ | refine kh_exit ?_ | refine bh_exit ?_))
      exact rh1 rfl rfl ⟨none, 0, rfl, rfl⟩ (ent_nilrow (ent_nil _))
end Go.Proofs.YtfodpcpclmnbkaaDoor
