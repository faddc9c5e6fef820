/- The law's function AuctionTime answers true. -/
import Derived.Test.YtehjdbgijibmcaaZGa
set_option linter.unusedSimpArgs false
set_option linter.unusedVariables false
namespace Go.Proofs.Ytehjdbgijibmcaa
open Go.Fw Go.RowKit
theorem filter_at {α : Type} (d : α) (p : α → Bool) {l : List α} {i : Nat} (hi : i < l.length) (hp : p (l.getD i d) = true) :
    ((l.take i).filter p).length < (l.filter p).length ∧ (l.filter p).getD ((l.take i).filter p).length d = l.getD i d ∧ ((l.take (i + 1)).filter p).length = ((l.take i).filter p).length + 1 := by
  have e : l.filter p = (l.take i).filter p ++ l.getD i d :: (l.drop (i + 1)).filter p := by
    conv => lhs; rw [← List.take_append_drop i l, drop_cons (d := d) hi]
    rw [List.filter_append, List.filter_cons_of_pos hp]
  refine ⟨?_, ?_, ?_⟩
  · rw [e, List.length_append, List.length_cons]; omega
  · rw [e, List.getD_eq_getElem?_getD, List.getElem?_append_right (Nat.le_refl _), Nat.sub_self]; rfl
  · rw [take_snoc (d := d) hi, List.filter_append, List.length_append, List.filter_cons_of_pos hp]; rfl
theorem filter_off {α : Type} (d : α) (p : α → Bool) {l : List α} {i : Nat} (hi : i < l.length) (hp : p (l.getD i d) = false) : ((l.take (i + 1)).filter p).length = ((l.take i).filter p).length := by
  rw [take_snoc (d := d) hi, List.filter_append, List.length_append, List.filter_cons_of_neg (by rw [hp]; simp)]; rfl
theorem ends_len (t : Int) (l : List Lot) : ((endedL t l).flatMap endMoves).length ≤ 3 * l.length := by
  have := mvsL_len (endedL t l) (endedL t l).length
  rw [mvsL_all] at this
  have h2 : (endedL t l).length ≤ l.length := Nat.le_trans (tw_len _ _) (Nat.le_of_eq (sortK_len l))
  omega
set_option maxHeartbeats 4000000 in
set_option maxRecDepth 100000 in
theorem timeLaw (A : Option Addr) (c0 : Nat) (h : House) (a bb : Int) (w : World) (la : 0 ≤ a) (ha : a ≤ 65535) (lb : 0 ≤ bb) (hb : bb ≤ 65535) (hr : Rd w A h.lots) : Ret Try.prog 4 [hv A c0 h, .int .u16 a, .int .u16 bb].toArray w (Out w (.bool true)) := by
  by_cases h40 : 40 < h.lots.length
  · obtain ⟨tick, last, lots⟩ := h
    unfold hv
    simp only at h40 hr ⊢
    refine enterH Try.func4 rfl rfl Try.ntmps4 rfl (Wd.refl _) ?_
    (repeat' (first | (show VH _ _ _ _ _ _ _; first | refine v_seq ?_ | refine r_seq ?_ | refine v_ret ?_ | refine v_skip ?_ | refine v_cond_t rfl tbL ?_ | refine v_cond_f rfl tbL ?_) | (show SH _ _ _ _ _ (_ :: _) _ _ _; first | (refine gif rfl rfl ?_; refine giFT tbL ?_) | refine mov evL ?_ | refine asg evL ?_ | refine gtr rfl rfl ?_ | refine lbx rfl spL (by rfl) ?_ | refine slen rfl ?_ | (show SH _ _ _ _ _ (⟨_, .call ⟨.value (.func 12), _, _⟩, _, _, _, _⟩ :: _) _ _ _; refine cl (callee := .func 12) rfl (fun w hw => awake_spec w) rfl rfl ?_) | refine pkt rfl tbL evL ?_ | refine bnot rfl ?_ | refine fad rfl ?_ | refine bxx rfl evL rfl (fun b => ?_)) | refine s_nil ?_ | refine kh_normal ?_ | refine kh_ret ?_))
    exact rh1 rfl rfl ⟨rfl, rfl⟩ (ent_nil _)
  have hvs := fun w hr => valid_spec A c0 h w (by omega) hr
  cases hval : validH h with
  | false =>
    rw [hval] at hvs
    obtain ⟨tick, last, lots⟩ := h
    unfold hv at hvs ⊢
    simp only at h40 hr hvs ⊢
    refine enterH Try.func4 rfl rfl Try.ntmps4 rfl (Wd.refl _) ?_
    (repeat' (first | (show VH _ _ _ _ _ _ _; first | refine v_seq ?_ | refine r_seq ?_ | refine v_ret ?_ | refine v_skip ?_ | refine v_cond_t rfl tbL ?_ | refine v_cond_f rfl tbL ?_) | (show SH _ _ _ _ _ (_ :: _) _ _ _; first | (refine gif rfl rfl ?_; first | refine giFF tbL ?_ | refine giFT tbL ?_) | refine mov evL ?_ | refine asg evL ?_ | refine gtr rfl rfl ?_ | (show SH _ _ _ _ _ (⟨_, .load _ _, _, _, _, _⟩ :: _) _ _ _; first | refine lbx rfl spL (by rfl) ?_ | refine lba rfl spL (by rfl) ?_) | refine slen rfl ?_ | (show SH _ _ _ _ _ (⟨_, .call ⟨.value (.func 12), _, _⟩, _, _, _, _⟩ :: _) _ _ _; refine cl (callee := .func 12) rfl (fun w hw => awake_spec w) rfl rfl ?_) | (show SH _ _ _ _ _ (⟨_, .call ⟨.value (.func 18), _, _⟩, _, _, _, _⟩ :: _) _ _ _; refine cl (callee := .func 18) rfl (fun w hw => hvs _ (hr.ext hw.ext)) rfl rfl ?_) | refine pkt rfl tbL evL ?_ | refine pkf rfl tbL evL ?_ | refine bnot rfl ?_ | refine fad rfl ?_ | refine bxx rfl evL rfl (fun b => ?_)) | refine s_nil ?_ | refine kh_normal ?_ | refine kh_ret ?_))
    exact rh1 rfl rfl ⟨rfl, rfl⟩ (ent_nil _)
  | true =>
    rw [hval] at hvs
    have hV := valid_iff.1 hval
    by_cases htk : 1073610752 < h.tick
    · obtain ⟨tick, last, lots⟩ := h
      unfold hv at hvs ⊢
      simp only at h40 hr hvs htk ⊢
      refine enterH Try.func4 rfl rfl Try.ntmps4 rfl (Wd.refl _) ?_
      (repeat' (first | (show VH _ _ _ _ _ _ _; first | refine v_seq ?_ | refine r_seq ?_ | refine v_ret ?_ | refine v_skip ?_ | refine v_cond_t rfl tbL ?_ | refine v_cond_f rfl tbL ?_) | (show SH _ _ _ _ _ (_ :: _) _ _ _; first | (refine gif rfl rfl ?_; refine giFF tbL ?_) | refine mov evL ?_ | refine asg evL ?_ | refine gtr rfl rfl ?_ | (show SH _ _ _ _ _ (⟨_, .load _ _, _, _, _, _⟩ :: _) _ _ _; first | refine lbx rfl spL (by rfl) ?_ | refine lba rfl spL (by rfl) ?_) | refine slen rfl ?_ | (show SH _ _ _ _ _ (⟨_, .call ⟨.value (.func 12), _, _⟩, _, _, _, _⟩ :: _) _ _ _; refine cl (callee := .func 12) rfl (fun w hw => awake_spec w) rfl rfl ?_) | (show SH _ _ _ _ _ (⟨_, .call ⟨.value (.func 18), _, _⟩, _, _, _, _⟩ :: _) _ _ _; refine cl (callee := .func 18) rfl (fun w hw => hvs _ (hr.ext hw.ext)) rfl rfl ?_) | refine pkf rfl tbL evL ?_ | refine bnot rfl ?_ | refine fad rfl ?_ | refine bxx rfl evL rfl (fun b => ?_)) | refine s_nil ?_ | refine kh_normal ?_ | refine kh_ret ?_))
      exact rh1 rfl rfl ⟨rfl, rfl⟩ (ent_nil _)
    · have h0 := hV.tick
      have hV1 := later_valid hV (tick := h.tick + a) (by omega) (by omega)
      have hA1 := fun w hr => adv_spec A c0 h (h.tick + a) w (by omega) hr
      have hA3 := fun w hr => adv_spec A c0 h (h.tick + a + bb) w (by omega) hr
      have hll : (later (h.tick + a) h.lots).length ≤ h.lots.length := List.length_filter_le _ _
      have hl2 : (later (h.tick + a + bb) h.lots).length ≤ h.lots.length := List.length_filter_le _ _
      have hA2 := fun A1 c1 w hr => adv_spec A1 c1 ⟨h.tick + a, h.last, later (h.tick + a) h.lots⟩ (h.tick + a + bb) w (by show (later _ _).length ≤ _; omega) hr
      have hAb := fun A1 c1 w hr => adv_spec A1 c1 ⟨h.tick + a, h.last, later (h.tick + a) h.lots⟩ (h.tick - 1) w (by show (later _ _).length ≤ _; omega) hr
      have hbk : h.tick = 0 ∨ (advH ⟨h.tick + a, h.last, later (h.tick + a) h.lots⟩ (h.tick - 1)).2.2 = 342 := by
        by_cases h0 : h.tick = 0
        · exact .inl h0
        · refine .inr ?_
          rw [adv_back hV1 (by omega) (by show h.tick - 1 < h.tick + a; omega)]
      generalize advH ⟨h.tick + a, h.last, later (h.tick + a) h.lots⟩ (h.tick - 1) = rb at hbk hAb
      obtain ⟨hb', mb', eb'⟩ := rb
      rw [adv_ok hV (by omega) (by omega)] at hA1
      rw [adv_ok hV (by omega) (by omega)] at hA3
      rw [adv_ok hV1 (by omega) (by show h.tick + a ≤ _; omega)] at hA2
      simp only at hA2 hbk
      rw [later_later (by omega)] at hA2
      have hfm : (endedL (h.tick + a + bb) h.lots).flatMap endMoves = (endedL (h.tick + a) h.lots).flatMap endMoves ++ (endedL (h.tick + a + bb) (later (h.tick + a) h.lots)).flatMap endMoves := by
        rw [← ended_two (show h.tick + a ≤ h.tick + a + bb by omega), List.flatMap_append]
      rw [hfm] at hA3
      have hm1 := ends_len (h.tick + a) h.lots
      have hm2 := ends_len (h.tick + a + bb) (later (h.tick + a) h.lots)
      generalize (endedL (h.tick + a) h.lots).flatMap endMoves = M1 at hA1 hA3 hm1
      generalize (endedL (h.tick + a + bb) (later (h.tick + a) h.lots)).flatMap endMoves = M2 at hA2 hA3 hm2
      have hS := fun A2 A3 c2 c3 w hr2 hr3 => sameH_spec A2 A3 c2 c3 ⟨h.tick + a + bb, h.last, later (h.tick + a + bb) h.lots⟩ ⟨h.tick + a + bb, h.last, later (h.tick + a + bb) h.lots⟩ w hr2 hr3 (by show (later _ _).length ≤ _; omega)
      rw [decide_eq_true rfl] at hS
      have hSM := fun A2 A3 m2 m3 c2 c3 w hr2 hr3 h2 h3 => sameMoves_spec A2 A3 ([] ++ M1 ++ M2) (M1 ++ M2) m2 m3 c2 c3 w hr2 hr3 h2 h3 (by simp only [List.length_append, List.length_nil]; omega)
      rw [decide_eq_true (by rw [List.nil_append])] at hSM
      unfold OutR at hA1 hA2 hA3 hAb
      obtain ⟨tick, last, lots⟩ := h
      unfold hv at hvs hA1 hA2 hA3 hAb hS ⊢
      simp only at h40 hr hvs htk h0 hA1 hA2 hA3 hAb hS hbk hll hl2 hm1 hm2 ⊢
      have hAt := fun i hi hp => filter_at (Flat.dflt : Lot) (fun x => !decide (x.till ≤ tick + a)) (l := lots) (i := i) hi hp
      have hOf := fun i hi hp => filter_off (Flat.dflt : Lot) (fun x => !decide (x.till ≤ tick + a)) (l := lots) (i := i) hi hp
      have hL1 : later (tick + a) lots = lots.filter fun x => !decide (x.till ≤ tick + a) := rfl
      rw [← hL1] at hAt
      have hAll : ((lots.take lots.length).filter fun x => !decide (x.till ≤ tick + a)).length = (later (tick + a) lots).length := by rw [List.take_length]; rfl
      generalize later (tick + a) lots = L1 at hAt hA1 hA2 hAb hll hAll hm1 hm2
      generalize later (tick + a + bb) lots = L2 at hA2 hA3 hS hl2
      refine enterH Try.func4 rfl rfl Try.ntmps4 rfl (Wd.refl _) ?_
      (repeat' (first | (show VH _ _ _ _ _ _ _; first | refine v_seq ?_ | refine r_seq ?_ | refine v_skip ?_ | refine v_cond_f rfl tbL ?_) | (show SH _ _ _ _ _ (_ :: _) _ _ _; first | (refine gif rfl rfl ?_; refine giFF tbL ?_) | refine mov evL ?_ | refine asg evL ?_ | (show SH _ _ _ _ _ (⟨_, .binOp _ _ _ _ _, _, _, _, _⟩ :: _) _ _ _; first | refine add rfl rfl inL ?_ | refine gtr rfl rfl ?_) | (show SH _ _ _ _ _ (⟨_, .load _ _, _, _, _, _⟩ :: _) _ _ _; first | refine lbx rfl spL (by rfl) ?_ | refine lba rfl spL (by rfl) ?_) | refine slen rfl ?_ | (show SH _ _ _ _ _ (⟨_, .call ⟨.value (.func 12), _, _⟩, _, _, _, _⟩ :: _) _ _ _; refine cl (callee := .func 12) rfl (fun w hw => awake_spec w) rfl rfl ?_) | (show SH _ _ _ _ _ (⟨_, .call ⟨.value (.func 18), _, _⟩, _, _, _, _⟩ :: _) _ _ _; refine cl (callee := .func 18) rfl (fun w hw => hvs _ (hr.ext hw.ext)) rfl rfl ?_) | (show SH _ _ _ _ _ (⟨_, .call ⟨.value (.func 16), _, _⟩, _, _, _, _⟩ :: _) _ _ _; refine cp (callee := .func 16) rfl (fun w hw => hA1 _ (hr.ext hw.ext)) rfl rfl ?_) | refine pkf rfl tbL evL ?_ | refine bnot rfl ?_ | refine fad rfl ?_ | refine c64 rfl inL ?_ | refine bxx rfl evL rfl (fun b => ?_)) | refine s_nil ?_ | refine kh_normal ?_))
      rintro _ _ ⟨A1, c1, B1, d1, rfl, rfl⟩
      (repeat' (first | (show VH _ _ _ _ _ _ _; first | refine v_seq ?_ | refine r_seq ?_) | (show SH _ _ _ _ _ (_ :: _) _ _ _; first | refine mov evL ?_ | refine asg evL ?_ | refine add rfl rfl inL ?_ | (show SH _ _ _ _ _ (⟨_, .load _ _, _, _, _, _⟩ :: _) _ _ _; first | refine lbx rfl spL (by rfl) ?_ | refine lba rfl spL (by rfl) ?_) | (show SH _ _ _ _ _ (⟨_, .call ⟨.value (.func 16), _, _⟩, _, _, _, _⟩ :: _) _ _ _; refine cp (callee := .func 16) rfl (fun w hw => hA2 A1 c1 w (hw.rd spL)) rfl rfl ?_) | refine extr rfl rfl ?_ | refine fad rfl ?_ | refine c64 rfl inL ?_ | refine ala rfl (fun b => ?_) | refine sta rfl rfl rfl spL (by rfl) (by rfl) (by rfl) kpL ?_) | refine s_nil ?_ | refine kh_normal ?_))
      rintro _ _ ⟨A2, c2, B2, d2, rfl, rfl⟩
      rename_i b3
      (repeat' (first | (show VH _ _ _ _ _ _ _; first | refine v_seq ?_ | refine r_seq ?_) | (show SH _ _ _ _ _ (_ :: _) _ _ _; first | refine mov evL ?_ | refine asg evL ?_ | refine add rfl rfl inL ?_ | (show SH _ _ _ _ _ (⟨_, .load _ _, _, _, _, _⟩ :: _) _ _ _; first | refine lbx rfl spL (by rfl) ?_ | refine lba rfl spL (by rfl) ?_) | (show SH _ _ _ _ _ (⟨_, .call ⟨.value (.func 16), _, _⟩, _, _, _, _⟩ :: _) _ _ _; refine cp (callee := .func 16) rfl (fun w hw => hA3 _ (hr.ext hw.ext)) rfl rfl ?_) | refine extr rfl rfl ?_ | refine fad rfl ?_ | refine c64 rfl inL ?_ | refine ala rfl (fun b => ?_) | refine sta rfl rfl rfl spL (by rfl) (by rfl) (by rfl) kpL ?_) | refine s_nil ?_ | refine kh_normal ?_))
      rintro _ _ ⟨A3, c3, B3, d3, rfl, rfl⟩
      rename_i b7
      (repeat' (first | (show VH _ _ _ _ _ _ _; first | refine v_seq ?_ | refine r_seq ?_) | (show SH _ _ _ _ _ (_ :: _) _ _ _; first | (refine gif rfl rfl ?_; refine giFF tbL ?_) | refine mov evL ?_ | refine asg evL ?_ | refine neq rfl rfl ?_ | refine lba rfl spL (by rfl) ?_ | (show SH _ _ _ _ _ (⟨_, .call ⟨.value (.func 19), _, _⟩, _, _, _, _⟩ :: _) _ _ _; refine cl (callee := .func 19) rfl (fun w hw => hS A2 A3 c2 c3 w (hw.rd spL) (hw.rd spL)) rfl rfl ?_) | refine pkf rfl tbL evL ?_ | refine bnot rfl ?_ | refine extr rfl rfl ?_ | refine ala rfl (fun b => ?_) | refine sta rfl rfl rfl spL (by rfl) (by rfl) (by rfl) kpL ?_) | refine s_nil ?_ | refine kh_normal ?_))
      refine bsl (l := ([] : List Mv)) rfl rfl Vals.nil rfl rfl (by decide) (fun bm => ?_)
      (repeat' ((show SH _ _ _ _ _ (_ :: _) _ _ _; first | (refine gif rfl rfl ?_; refine giFF tbL ?_) | refine mov evL ?_)))
      refine app (l := ([] : List Mv)) (l2 := M1) rfl rfl rfl spL (fun w hw => hw.rd spL) rfl rfl rfl (by simp only [List.length_nil]; omega) (by simp only [List.length_nil]; omega) (fun A4 c4 => ⟨trivial, ?_⟩)
      (repeat' ((show SH _ _ _ _ _ (_ :: _) _ _ _; first | (refine gif rfl rfl ?_; refine giFF tbL ?_) | refine mov evL ?_)))
      refine app (l := [] ++ M1) (l2 := M2) rfl rfl rfl spL (fun w hw => hw.rd spL) rfl rfl rfl (by simp only [List.length_append, List.length_nil]; omega) (by simp only [List.length_append, List.length_nil]; omega) (fun A5 c5 => ⟨trivial, ?_⟩)
      (repeat' (first | (show VH _ _ _ _ _ _ _; first | refine v_seq ?_ | refine r_seq ?_ | refine v_block ?_ | refine v_skip ?_ | refine v_cond_f rfl tbL ?_) | (show SH _ _ _ _ _ (_ :: _) _ _ _; first | (refine gif rfl rfl ?_; refine giFF tbL ?_) | refine mov evL ?_ | refine asg evL ?_ | (show SH _ _ _ _ _ (⟨_, .call ⟨.value (.func 20), _, _⟩, _, _, _, _⟩ :: _) _ _ _; refine cl (callee := .func 20) rfl (fun w hw => hSM A5 B3 _ _ c5 d3 w (hw.rd spL) (hw.rd spL) rfl rfl) rfl rfl ?_) | refine pkf rfl tbL evL ?_ | refine bnot rfl ?_) | refine s_nil ?_ | refine kh_normal ?_))
      refine v_norm [(3,_),(7,_),(16,_),(17,_)] heL (fun g => ?_)
      refine VH.ent (G := [bx b7 26 _, orow 38 A1 c1 L1, bx b3 26 _]) ?_ enL
      refine v_loop0 [(6,6),(16,17),(102,137)] (fun k : Nat => [(17, .int .i64 k), (16, .int .i64 ((lots.take k).filter fun x => !decide (x.till ≤ tick + a)).length)]) (fun k => k ≤ lots.length) (fun k => lots.length - k) 0 hsL (Nat.zero_le _) ?_
      rintro k g hk
      simp only [sets]
      by_cases hkl : k < lots.length
      · by_cases hp : (lots.getD k Flat.dflt).till ≤ tick + a
        · have ho := hOf k hkl (by simp only [decide_eq_true hp]; rfl)
          generalize ((lots.take k).filter fun x => !decide (x.till ≤ tick + a)).length = q at ho ⊢
          (repeat' (first | (show VH _ _ _ _ _ _ _; first | refine v_seq ?_ | refine r_seq ?_ | refine r_quiet hmix (by kernel_rfl) ?_ | refine v_block ?_ | refine v_skip ?_ | refine v_cond_t rfl tbL ?_ | refine v_cond_f rfl tbL ?_) | (show SH _ _ _ _ _ (_ :: _) _ _ _; first | refine mov evL ?_ | refine asg evL ?_ | (show SH _ _ _ _ _ (⟨_, .binOp _ _ _ _ _, _, _, _, _⟩ :: _) _ _ _; first | refine add rfl rfl inL ?_ | refine lss rfl rfl ?_ | refine gtr rfl rfl ?_) | (show SH _ _ _ _ _ (⟨_, .load _ _, _, _, _, _⟩ :: _) _ _ _; first | refine lbx rfl spL (by rfl) ?_ | refine lrf rfl (fun _ _ => rdL) (by rfl) omL (by rfl) ?_) | refine ix rfl rfl (by with_reducible rfl) (fun _ _ => rdL) (by rfl) omL omL ?_ | refine slen rfl ?_ | refine fad rfl ?_) | refine s_nil ?_ | refine kh_normal ?_ | refine bh_normal ?_))
          exact ⟨agL, k + 1, by rw [ho]; (repeat (first | exact trivial | refine And.intro rfl ?_)), enL, hkl, by show _ - (k + 1) < _ - k; omega⟩
        · obtain ⟨h1, h2, h3⟩ := hAt k hkl (by simp only [decide_eq_false hp]; rfl)
          generalize ((lots.take k).filter fun x => !decide (x.till ≤ tick + a)).length = q at h1 h2 h3 ⊢
          (repeat' ((fail_if_success (show VH _ _ (.seq (.region 15 _ _) _) _ _ _ _)); first | (show VH _ _ _ _ _ _ _; first | refine v_seq ?_ | refine r_seq ?_ | refine r_quiet hmix (by kernel_rfl) ?_ | refine v_block ?_ | refine v_skip ?_ | refine v_cond_t rfl tbL ?_) | (show SH _ _ _ _ _ (_ :: _) _ _ _; first | refine mov evL ?_ | (show SH _ _ _ _ _ (⟨_, .binOp _ _ _ _ _, _, _, _, _⟩ :: _) _ _ _; first | refine lss rfl rfl ?_ | refine gtr rfl rfl ?_) | (show SH _ _ _ _ _ (⟨_, .load _ _, _, _, _, _⟩ :: _) _ _ _; first | refine lbx rfl spL (by rfl) ?_ | refine lrf rfl (fun _ _ => rdL) (by rfl) omL (by rfl) ?_) | refine ix rfl rfl (by with_reducible rfl) (fun _ _ => rdL) (by rfl) omL omL ?_ | refine slen rfl ?_ | refine fad rfl ?_) | refine s_nil ?_ | refine kh_normal ?_))
          (repeat' (refine v_seq ?_))
          refine r_quiet hmix (by kernel_rfl) ?_
          (repeat' ((show SH _ _ _ _ _ (_ :: _) _ _ _; first | (refine gif rfl rfl ?_; refine giFF tbL ?_) | refine mov evL ?_ | refine geq rfl rfl ?_ | (show SH _ _ _ _ _ (⟨_, .load _ _, _, _, _, _⟩ :: _) _ _ _; first | refine lbx rfl spL (by rfl) ?_ | refine lra rfl (fun _ _ => rdL) (by rfl) omL ?_) | refine ix rfl rfl (by with_reducible rfl) (fun _ _ => rdL) (by rfl) omL omL ?_ | refine slen rfl ?_ | refine fad rfl ?_)))
          refine nea (L1.getD q Flat.dflt) (lots.getD k Flat.dflt) rfl rfl ?_
          rw [decide_eq_true h2]
          (repeat' (first | (show VH _ _ _ _ _ _ _; first | refine r_seq ?_ | refine v_skip ?_ | refine v_cond_f rfl tbL ?_) | (show SH _ _ _ _ _ (_ :: _) _ _ _; first | refine mov evL ?_ | refine asg evL ?_ | refine add rfl rfl inL ?_ | refine pkf rfl tbL evL ?_) | refine s_nil ?_ | refine kh_normal ?_ | refine bh_normal ?_))
          exact ⟨agL, k + 1, by rw [h3]; (repeat (first | exact trivial | refine And.intro rfl ?_)), enL, hkl, by show _ - (k + 1) < _ - k; omega⟩
      · have hke : k = lots.length := by omega
        subst hke
        generalize ((lots.take lots.length).filter fun x => !decide (x.till ≤ tick + a)).length = q at hAll ⊢
        rcases hbk with e | e
        all_goals
          (repeat' (first | (show VH _ _ _ _ _ _ _; first | refine v_seq ?_ | refine r_seq ?_ | refine v_exit ?_ | refine v_cond_f rfl tbL ?_) | (show SH _ _ _ _ _ (_ :: _) _ _ _; first | refine mov evL ?_ | (show SH _ _ _ _ _ (⟨_, .binOp _ _ _ _ _, _, _, _, _⟩ :: _) _ _ _; first | refine sub rfl rfl inL ?_ | refine lss rfl rfl ?_) | (show SH _ _ _ _ _ (⟨_, .load _ _, _, _, _, _⟩ :: _) _ _ _; first | refine lbx rfl spL (by rfl) ?_ | refine lba rfl spL (by rfl) ?_) | refine slen rfl ?_ | (show SH _ _ _ _ _ (⟨_, .call ⟨.value (.func 16), _, _⟩, _, _, _, _⟩ :: _) _ _ _; refine cp (callee := .func 16) rfl (fun w hw => hAb A1 c1 w (hw.rd spL)) rfl rfl ?_) | refine fad rfl ?_) | refine s_nil ?_ | refine kh_normal ?_ | refine kh_exit ?_ | refine bh_exit ?_))
          rintro _ _ ⟨A6, c6, B6, d6, rfl, rfl⟩
          (repeat' (first | (show VH _ _ _ _ _ _ _; first | refine v_seq ?_ | refine r_seq ?_ | refine v_ret ?_) | (show SH _ _ _ _ _ (_ :: _) _ _ _; first | (refine gif rfl rfl ?_; first | refine giTT tbL ?_ | refine giFF tbL ?_ | refine giFT tbL ?_ | refine giFd (fun h => ?_) (fun h => ?_)) | refine mov evL ?_ | refine asg evL ?_ | refine eql rfl rfl ?_ | refine lbx rfl spL (by rfl) ?_ | refine slen rfl ?_ | refine pkt rfl tbL evL ?_ | refine pkf rfl tbL evL ?_ | refine extr rfl rfl ?_ | refine fad rfl ?_ | refine ala rfl (fun b => ?_) | refine sta rfl rfl rfl spL (by rfl) (by rfl) (by rfl) kpL ?_) | refine s_nil ?_ | refine kh_normal ?_))
          all_goals exact rh1 rfl rfl ⟨congrArg Value.bool (by first | rfl | exact decide_eq_true (by omega)), rfl⟩ (ent_nil _)
end Go.Proofs.Ytehjdbgijibmcaa
