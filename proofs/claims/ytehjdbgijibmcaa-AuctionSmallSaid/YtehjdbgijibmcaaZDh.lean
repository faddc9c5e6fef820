/- Package auction: Advance. -/
import Derived.Test.YtehjdbgijibmcaaZDg
set_option linter.unusedSimpArgs false
set_option linter.unusedVariables false
namespace Go.Proofs.Ytehjdbgijibmcaa
open Go.Fw Go.RowKit
def mvsL (E : List Lot) (i : Nat) : List Mv := (E.take i).flatMap endMoves
theorem mvsL_zero (E : List Lot) : mvsL E 0 = [] := by simp [mvsL]
theorem mvsL_next {E : List Lot} {i : Nat} (h : i < E.length) : mvsL E (i + 1) = mvsL E i ++ endMoves (E.getD i Flat.dflt) := by
  rw [mvsL, take_snoc (d := Flat.dflt) h, List.flatMap_append]; simp [mvsL]
theorem mvsL_all (E : List Lot) : mvsL E E.length = E.flatMap endMoves := by rw [mvsL, List.take_length]
theorem endMoves_len (x : Lot) : (endMoves x).length ≤ 3 := movesN_len _
theorem mvsL_len (E : List Lot) : ∀ i, (mvsL E i).length ≤ 3 * i
  | 0 => by simp [mvsL]
  | i + 1 => by
    by_cases h : i < E.length
    · rw [mvsL_next h, List.length_append]
      have := mvsL_len E i
      have := endMoves_len (E.getD i Flat.dflt)
      omega
    · have : mvsL E (i + 1) = mvsL E i := by
        rw [mvsL, mvsL, List.take_of_length_le (by omega), List.take_of_length_le (by omega)]
      rw [this]
      have := mvsL_len E i
      omega
set_option maxHeartbeats 2000000 in
set_option maxRecDepth 100000 in
theorem adv_spec (A : Option Addr) (c0 : Nat) (h : House) (tick : Int) (w : World) (hl : h.lots.length ≤ 1000000) (hr : Rd w A h.lots) :
    Ret Try.prog 16 [hv A c0 h, .int .i64 tick].toArray w (RP w (OutR (advH h tick))) := by
  have hvs := fun w hr => valid_spec A c0 h w hl hr
  have hos := fun w hr => own_spec A c0 h w hl hr
  have hes := fun w => ended_spec A c0 h tick w
  have hfs := fun hl' l bh bt J w0 G0 w hr => ended1_spec l bh bt A c0 h tick J w0 G0 w hl' hr
  obtain ⟨tk, last, lots⟩ := h
  unfold advH
  simp only at hl hr
  cases hval : validH ⟨tk, last, lots⟩ with
  | false =>
    rw [hval] at hvs
    unfold hv at hvs ⊢
    simp only at hvs ⊢
    refine enterH Try.func16 rfl rfl Try.ntmps16 rfl (Wd.refl _) ?_
    (repeat' (first | (show VH _ _ _ _ _ _ _; first | refine v_seq ?_ | refine r_seq ?_ | refine v_block ?_ | refine v_ret ?_ | refine v_cond_t rfl tbL ?_) | (show SH _ _ _ _ _ (_ :: _) _ _ _; first | (refine gif rfl rfl ?_; refine giFT tbL ?_) | refine mov evL ?_ | refine asg evL ?_ | refine lba rfl spL (by rfl) ?_ | (show SH _ _ _ _ _ (⟨_, .call ⟨.value (.func 18), _, _⟩, _, _, _, _⟩ :: _) _ _ _; refine cl (callee := .func 18) rfl (fun w hw => hvs _ (hr.ext hw.ext)) rfl rfl ?_) | refine pkt rfl tbL evL ?_ | refine bnot rfl ?_ | refine bld rfl rfl ?_ | refine ala rfl (fun b => ?_) | refine bxx rfl evL rfl (fun b => ?_) | refine sta rfl rfl rfl spL (by rfl) (by rfl) (by rfl) kpL ?_) | refine s_nil ?_ | refine kh_normal ?_ | refine kh_ret ?_ | refine bh_ret ?_))
    exact rhC3 rfl rfl rfl rfl rfl (fun w hw => loadVar_bx hw spL (by rfl)) ⟨none, 0, none, 0, rfl, rfl⟩ ent_res0
  | true =>
    rw [hval] at hvs
    cases ht : inB tick 0 1073741824 with
    | false =>
      have hi := ht ▸ in_spec tick 0 1073741824
      unfold hv at hvs ⊢
      simp only at hvs ⊢
      refine enterH Try.func16 rfl rfl Try.ntmps16 rfl (Wd.refl _) ?_
      (repeat' (first | (show VH _ _ _ _ _ _ _; first | refine v_seq ?_ | refine r_seq ?_ | refine v_block ?_ | refine v_ret ?_ | refine v_cond_t rfl tbL ?_) | (show SH _ _ _ _ _ (_ :: _) _ _ _; first | (refine gif rfl rfl ?_; refine giFF tbL ?_) | refine mov evL ?_ | refine asg evL ?_ | (show SH _ _ _ _ _ (⟨_, .load _ _, _, _, _, _⟩ :: _) _ _ _; first | refine lbx rfl spL (by rfl) ?_ | refine lba rfl spL (by rfl) ?_) | (show SH _ _ _ _ _ (⟨_, .call ⟨.value (.func 18), _, _⟩, _, _, _, _⟩ :: _) _ _ _; refine cl (callee := .func 18) rfl (fun w hw => hvs _ (hr.ext hw.ext)) rfl rfl ?_) | (show SH _ _ _ _ _ (⟨_, .call ⟨.value (.func 31), _, _⟩, _, _, _, _⟩ :: _) _ _ _; refine cl (callee := .func 31) rfl (fun w hw => hi w) rfl rfl ?_) | refine pkf rfl tbL evL ?_ | refine bnot rfl ?_ | refine bld rfl rfl ?_ | refine ala rfl (fun b => ?_) | refine bxx rfl evL rfl (fun b => ?_) | refine sta rfl rfl rfl spL (by rfl) (by rfl) (by rfl) kpL ?_) | refine s_nil ?_ | refine kh_normal ?_ | refine kh_ret ?_ | refine bh_ret ?_))
      exact rhC3 rfl rfl rfl rfl rfl (fun w hw => loadVar_bx hw spL (by rfl)) ⟨none, 0, none, 0, rfl, rfl⟩ ent_res0
    | true =>
      have hi := ht ▸ in_spec tick 0 1073741824
      by_cases hback : tick < tk
      · simp only [Bool.and_self, if_true, if_pos hback]
        unfold hv at hvs ⊢
        simp only at hvs ⊢
        refine enterH Try.func16 rfl rfl Try.ntmps16 rfl (Wd.refl _) ?_
        (repeat' (first | (show VH _ _ _ _ _ _ _; first | refine v_seq ?_ | refine r_seq ?_ | refine v_block ?_ | refine v_ret ?_ | refine v_cond_t rfl tbL ?_ | refine v_cond_f rfl tbL ?_) | (show SH _ _ _ _ _ (_ :: _) _ _ _; first | (refine gif rfl rfl ?_; refine giFF tbL ?_) | refine mov evL ?_ | refine asg evL ?_ | refine lss rfl rfl ?_ | (show SH _ _ _ _ _ (⟨_, .load _ _, _, _, _, _⟩ :: _) _ _ _; first | refine lbx rfl spL (by rfl) ?_ | refine lba rfl spL (by rfl) ?_) | (show SH _ _ _ _ _ (⟨_, .call ⟨.value (.func 18), _, _⟩, _, _, _, _⟩ :: _) _ _ _; refine cl (callee := .func 18) rfl (fun w hw => hvs _ (hr.ext hw.ext)) rfl rfl ?_) | (show SH _ _ _ _ _ (⟨_, .call ⟨.value (.func 31), _, _⟩, _, _, _, _⟩ :: _) _ _ _; refine cl (callee := .func 31) rfl (fun w hw => hi w) rfl rfl ?_) | refine pkf rfl tbL evL ?_ | refine bnot rfl ?_ | refine fad rfl ?_ | refine bld rfl rfl ?_ | refine ala rfl (fun b => ?_) | refine bxx rfl evL rfl (fun b => ?_) | refine sta rfl rfl rfl spL (by rfl) (by rfl) (by rfl) kpL ?_) | refine s_nil ?_ | refine kh_normal ?_ | refine kh_ret ?_ | refine bh_ret ?_))
        exact rhC3 rfl rfl rfl rfl rfl (fun w hw => loadVar_bx hw spL (by rfl)) ⟨none, 0, none, 0, rfl, rfl⟩ ent_res0
      · simp only [Bool.and_self, if_true, if_neg hback]
        have hV := valid_iff.1 hval
        have hlen := hV.len
        have hlot := hV.lot
        simp only at hlen hlot
        have hfs' := hfs (by show lots.length < 40; omega)
        have hE : ∀ i, i < (endedL tick lots).length → Right ((endedL tick lots).getD i Flat.dflt) tk := fun i hi => (hlot _ (ended_mem (getD_mem hi)).1).2.2
        have hEl : (endedL tick lots).length ≤ lots.length := Nat.le_trans (tw_len _ _) (Nat.le_of_eq (sortK_len lots))
        have hfin : ((sortL lots).takeWhile fun l => decide (l.till ≤ tick)).flatMap endMoves = mvsL (endedL tick lots) (endedL tick lots).length := (mvsL_all _).symm
        rw [hfin]
        unfold hv at hvs hos hes ⊢
        unfold hcells at hfs' hes
        simp only at hvs hos hes hfs' ⊢
        generalize endedL tick lots = E at hE hEl hfs' ⊢
        refine enterH Try.func16 rfl rfl Try.ntmps16 rfl (Wd.refl _) ?_
        (repeat' (first | (show VH _ _ _ _ _ _ _; first | refine v_seq ?_ | refine r_seq ?_ | refine v_block ?_ | refine v_skip ?_ | refine v_cond_f rfl tbL ?_) | (show SH _ _ _ _ _ (_ :: _) _ _ _; first | (refine gif rfl rfl ?_; refine giFF tbL ?_) | refine mov evL ?_ | refine asg evL ?_ | refine lss rfl rfl ?_ | (show SH _ _ _ _ _ (⟨_, .load _ _, _, _, _, _⟩ :: _) _ _ _; first | refine lbx rfl spL (by rfl) ?_ | refine lba rfl spL (by rfl) ?_) | (show SH _ _ _ _ _ (⟨_, .call ⟨.value (.func 18), _, _⟩, _, _, _, _⟩ :: _) _ _ _; refine cl (callee := .func 18) rfl (fun w hw => hvs _ (hr.ext hw.ext)) rfl rfl ?_) | (show SH _ _ _ _ _ (⟨_, .call ⟨.value (.func 31), _, _⟩, _, _, _, _⟩ :: _) _ _ _; refine cl (callee := .func 31) rfl (fun w hw => hi w) rfl rfl ?_) | (show SH _ _ _ _ _ (⟨_, .call ⟨.value (.func 39), _, _⟩, _, _, _, _⟩ :: _) _ _ _; refine cp (callee := .func 39) rfl (fun w hw => hes w) rfl rfl ?_) | refine pkf rfl tbL evL ?_ | refine bnot rfl ?_ | refine fad rfl ?_ | refine al1 rfl (fun b => ?_) | refine ala rfl (fun b => ?_) | refine bxx rfl evL rfl (fun b => ?_)) | refine s_nil ?_ | refine kh_normal ?_ | refine bh_normal ?_))
        rintro _ _ ⟨bh, bt, rfl, rfl⟩
        (repeat' (first | refine v_block ?_ | refine s_nil ?_ | refine kh_normal ?_))
        rename_i b2 b3 b4
        refine v_norm [(2,_),(3,_),(4,_),(7,_),(28,_)] heL (fun g => ?_)
        refine VH.ent (G := [bx bh 26 [.int .i64 tk, .int .i64 last, .slice A lots.length c0], bx bt 3 [.int .i64 tick], bx b 27 [.slice none 0 0], bx b4 26 [.int .i64 0, .int .i64 0, .slice none 0 0], bx b3 3 [.int .i64 tick], bx b2 26 [.int .i64 tk, .int .i64 last, .slice A lots.length c0]]) ?_ (ent_refl _)
        refine v_range (lb := [.pointer (some ⟨bh, 0, none⟩), .pointer (some ⟨bt, 0, none⟩)]) rfl rfl ?_
        intro fn l D mk hmk w1 hw1
        have hrw : Rd w A lots := hr
        have key := hfs' l bh bt (fun i G => ∃ B d, G = [lp l mk .ready none, dfr D, bx b 27 [.slice B (mvsL E i).length d], orow 36 B d (mvsL E i), bx b4 26 [.int .i64 0, .int .i64 0, .slice none 0 0], bx b3 3 [.int .i64 tick], bx b2 26 [.int .i64 tk, .int .i64 last, .slice A lots.length c0]]) w
          [lp l mk .ready none, dfr D, bx b 27 [.slice none 0 0], orow 36 none 0 ([] : List Mv), bx b4 26 [.int .i64 0, .int .i64 0, .slice none 0 0], bx b3 3 [.int .i64 tick], bx b2 26 [.int .i64 tk, .int .i64 last, .slice A lots.length c0]]
          w1 hrw ?hY ⟨none, 0, by rw [mvsL_zero]; rfl⟩ (Ent.wd enL hw1)
        case hY =>
          rintro i _ hi ⟨B, d, rfl⟩ X w2 hw2
          simp only [List.cons_append, List.nil_append] at hw2 ⊢
          have hR := hE i hi
          have hml := mvsL_len E i
          have hnext := mvsL_next hi
          generalize E.getD i Flat.dflt = x at hR hnext ⊢
          have hmost : 0 ≤ x.most - x.price ∧ x.most - x.price ≤ 2147483647 := by
            have := hR.led
            have := hR.reserve
            omega
          refine yld_of (ps := [29]) hmk rfl spL ?_ hw2
          (repeat' (first | refine r_seq ?_ | (show SH _ _ _ _ _ (_ :: _) _ _ _; first | refine ala rfl (fun b => ?_) | refine sta rfl rfl rfl spL (by rfl) (by rfl) (by rfl) kpL ?_) | refine s_nil ?_ | refine kh_normal ?_))
          refine ⟨_, spL, ?_⟩
          have hmv : endMoves x = movesN [⟨0, x.seller, 0, x.price⟩, ⟨0, x.leader, 0, x.most - x.price⟩, ⟨0, if x.leader = 0 then x.seller else x.leader, x.item, x.count⟩] := rfl
          obtain ⟨to, hto⟩ : ∃ to, (if x.leader = 0 then x.seller else x.leader) = to := ⟨_, rfl⟩
          rw [hto] at hmv
          have hm3 : (movesN [⟨0, x.seller, 0, x.price⟩, ⟨0, x.leader, 0, x.most - x.price⟩, ⟨0, to, x.item, x.count⟩]).length ≤ 3 := movesN_len _
          (repeat' ((fail_if_success (show VH _ _ (.seq (.seq (.region 9 _ _) _) _) _ _ _ _)); first | (show VH _ _ _ _ _ _ _; first | refine v_seq ?_ | refine r_seq ?_ | refine v_block ?_) | (show SH _ _ _ _ _ (_ :: _) _ _ _; first | refine asg evL ?_ | refine lbx rfl spL (by rfl) ?_ | refine fad rfl ?_) | refine s_nil ?_ | refine kh_normal ?_))
          refine v_seq ?_
          refine v_cut0 [(9, 9), (32, 35)] (fun _ : Unit => [(9, .int .i64 to)]) (fun _ => True) ?_ ?_ ent_vh
          · by_cases hld : x.leader = 0
            · rw [if_pos hld] at hto
              subst hto
              (repeat' (first | (show VH _ _ _ _ _ _ _; first | refine v_seq ?_ | refine r_seq ?_ | refine v_cond_t rfl tbL ?_) | (show SH _ _ _ _ _ (_ :: _) _ _ _; first | refine mov evL ?_ | refine asg evL ?_ | refine eql rfl rfl ?_ | refine lbx rfl spL (by rfl) ?_ | refine fad rfl ?_) | refine s_nil ?_ | refine kh_normal ?_))
              exact ⟨agL, (), hsL, ent_refl _, trivial⟩
            · rw [if_neg hld] at hto
              subst hto
              (repeat' (first | (show VH _ _ _ _ _ _ _; first | refine v_seq ?_ | refine r_seq ?_ | refine v_skip ?_ | refine v_cond_f rfl tbL ?_) | (show SH _ _ _ _ _ (_ :: _) _ _ _; first | refine mov evL ?_ | refine eql rfl rfl ?_) | refine s_nil ?_ | refine kh_normal ?_))
              exact ⟨agL, (), hsL, ent_refl _, trivial⟩
          rintro _ g _
          simp only [sets]
          (repeat' (fail))
          refine r_heldT [bx b 38 (Flat.enc x)] (tr [(1, true), (2, true), (3, true), (4, true), (5, true), (6, true), (7, true), (8, true), (9, true), (10, true), (11, true), (12, true), (13, true), (14, true), (15, true), (16, true), (17, true), (18, true), (19, true)] (.fork 0 (tr [(20, false), (21, false), (22, false), (23, false)] .nil) 20 (tr [] (.fork 0 (tr [(21, false), (22, false), (23, false)] .nil) 21 (tr [(0, false), (22, false), (23, false)] .nil))))) hmix (by kernel_rfl) enL ?_
          (repeat' ((show SH _ _ _ _ _ (_ :: _) _ _ _; first | refine mov evL ?_ | refine sub rfl rfl inL ?_ | refine lbx rfl spL (by rfl) ?_ | refine fad rfl ?_ | refine bld rfl rfl ?_)))
          refine s_fork ?_ ?_
          · (repeat' (refine lbx rfl spL (by rfl) ?_))
            refine bsl (l := [(⟨0, x.seller, 0, x.price⟩ : Mv), ⟨0, x.leader, 0, x.most - x.price⟩, ⟨0, to, x.item, x.count⟩]) rfl rfl (Vals.cons rfl (Vals.cons rfl (Vals.cons rfl Vals.nil))) rfl rfl (by decide) (fun b9 => ?_)
            refine cm rfl (fun w hw => moves_spec (some ⟨b9, 0, none⟩) [(⟨0, x.seller, 0, x.price⟩ : Mv), ⟨0, x.leader, 0, x.most - x.price⟩, ⟨0, to, x.item, x.count⟩] 3 _ _ w (by simp) (Ent.wd enL hw)) rfl rfl ?_
            rintro _ _ ⟨rfl, rfl⟩
            refine ⟨enL, ?_⟩
            rw [← hmv] at hm3 ⊢
            refine app (l := mvsL E i) (l2 := endMoves x) rfl rfl rfl spL (fun w hw => hw.rd spL) rfl rfl rfl (by omega) (by omega) (fun A4 c4 => ⟨enL, ?_⟩)
            rw [← hnext]
            (repeat' (first | refine stb rfl rfl evL spL rfl rfl (by first | decide | exact Nat.zero_lt_succ _ | exact of_decide_eq_true rfl) kpL ?_ | refine s_nil ?_ | refine bh_normal ?_))
            exact ro_normal spL ⟨rfl, _, ⟨A4, c4, rfl⟩, rfl⟩ enL
          · refine bsl (l := [(⟨0, x.seller, 0, x.price⟩ : Mv), ⟨0, x.leader, 0, x.most - x.price⟩, ⟨0, to, x.item, x.count⟩]) rfl rfl (Vals.cons rfl (Vals.cons rfl (Vals.cons rfl Vals.nil))) rfl rfl (by decide) (fun b9 => ?_)
            refine s_fork ?_ ?_
            · (repeat' (refine lbx rfl spL (by rfl) ?_))
              refine cm rfl (fun w hw => moves_spec (some ⟨b9, 0, none⟩) [(⟨0, x.seller, 0, x.price⟩ : Mv), ⟨0, x.leader, 0, x.most - x.price⟩, ⟨0, to, x.item, x.count⟩] 3 _ _ w (by simp) (Ent.wd enL hw)) rfl rfl ?_
              rintro _ _ ⟨rfl, rfl⟩
              refine ⟨enL, ?_⟩
              rw [← hmv] at hm3 ⊢
              refine app (l := mvsL E i) (l2 := endMoves x) rfl rfl rfl spL (fun w hw => hw.rd spL) rfl rfl rfl (by omega) (by omega) (fun A4 c4 => ⟨enL, ?_⟩)
              rw [← hnext]
              (repeat' (first | refine stb rfl rfl evL spL rfl rfl (by first | decide | exact Nat.zero_lt_succ _ | exact of_decide_eq_true rfl) kpL ?_ | refine s_nil ?_ | refine bh_normal ?_))
              exact ro_normal spL ⟨rfl, _, ⟨A4, c4, rfl⟩, rfl⟩ enL
            · refine cm rfl (fun w hw => moves_spec (some ⟨b9, 0, none⟩) [(⟨0, x.seller, 0, x.price⟩ : Mv), ⟨0, x.leader, 0, x.most - x.price⟩, ⟨0, to, x.item, x.count⟩] 3 _ _ w (by simp) (Ent.wd enL hw)) rfl rfl ?_
              rintro _ _ ⟨rfl, rfl⟩
              refine ⟨enL, ?_⟩
              (repeat' (refine lbx rfl spL (by rfl) ?_))
              rw [← hmv] at hm3 ⊢
              refine app (l := mvsL E i) (l2 := endMoves x) rfl rfl rfl spL (fun w hw => hw.rd spL) rfl rfl rfl (by omega) (by omega) (fun A4 c4 => ⟨enL, ?_⟩)
              rw [← hnext]
              (repeat' (first | refine stb rfl rfl evL spL rfl rfl (by first | decide | exact Nat.zero_lt_succ _ | exact of_decide_eq_true rfl) kpL ?_ | refine s_nil ?_ | refine bh_normal ?_))
              exact ro_normal spL ⟨rfl, _, ⟨A4, c4, rfl⟩, rfl⟩ enL
        refine key.mono fun v w3 ⟨H3, ⟨G, ⟨B, d, hG⟩, hH⟩, hw3⟩ => ⟨_, ⟨.ready, none, bx bh 26 [.int .i64 tk, .int .i64 last, .slice A lots.length c0] :: bx bt 3 [.int .i64 tick] :: G.tail, ?_, by simp, ?_⟩, hw3⟩
        · rw [hH, hG]; exact spL
        rw [hG]
        have hml := mvsL_len E E.length
        generalize mvsL E E.length = M at hml ⊢
        simp only [List.tail_cons]
        (repeat' (first | (show VH _ _ _ _ _ _ _; first | refine v_seq ?_ | refine r_seq ?_) | (show SH _ _ _ _ _ (_ :: _) _ _ _; first | refine lba rfl spL (by rfl) ?_ | (show SH _ _ _ _ _ (⟨_, .call ⟨.value (.func 33), _, _⟩, _, _, _, _⟩ :: _) _ _ _; refine cp (callee := .func 33) rfl (fun w hw => hos _ (hr.ext hw.ext)) rfl rfl ?_)) | refine kh_normal ?_ | refine bh_normal ?_))
        rintro _ _ ⟨A1, c1, rfl, rfl⟩
        (repeat' (first | (show VH _ _ _ _ _ _ _; first | refine v_seq ?_ | refine r_seq ?_) | (show SH _ _ _ _ _ (_ :: _) _ _ _; first | refine lbx rfl spL (by rfl) ?_ | refine fad rfl ?_ | refine mf1 evL ?_ | refine stb rfl rfl evL spL rfl rfl (by first | decide | exact Nat.zero_lt_succ _ | exact of_decide_eq_true rfl) kpL ?_ | refine sta rfl rfl rfl spL (by rfl) (by rfl) (by rfl) kpL ?_) | refine s_nil ?_ | refine kh_normal ?_))
        refine cm rfl (fun w hw => deleteFuncLt_spec A1 lots c1 _ (fun x => decide (x.till ≤ tick)) _ [bx b2 26 _, bx b3 3 [.int .i64 tick], bx b 27 _, orow 36 B d M, bx b4 26 _, dfr D] w hl ⟨_, _, _, rfl, fun w' hw' x _ => adv1_spec x tick ⟨b3, 0, none⟩ w' (hw'.cell (cs := [.int .i64 tick]) spL rfl)⟩ (Ent.wd enL hw)) rfl rfl ?_
        rintro _ _ ⟨rfl, rfl⟩
        refine ⟨trivial, ?_⟩
        (repeat' (first | refine v_seq ?_ | (show SH _ _ _ _ _ (_ :: _) _ _ _; first | refine fad rfl ?_ | refine stb rfl rfl evL spL rfl rfl (by first | decide | exact Nat.zero_lt_succ _ | exact of_decide_eq_true rfl) kpL ?_) | refine s_nil ?_ | refine kh_normal ?_))
        refine r_held [bx b2 26 _, bx b 27 _] [(0, true), (1, true), (2, false), (3, false), (4, false)] hmix (by kernel_rfl) enL ?_
        (repeat' (first | refine v_ret ?_ | (show SH _ _ _ _ _ (_ :: _) _ _ _; first | refine asg evL ?_ | (show SH _ _ _ _ _ (⟨_, .load _ _, _, _, _, _⟩ :: _) _ _ _; first | refine lbx rfl spL (by rfl) ?_ | refine lba rfl spL (by rfl) ?_) | refine sta rfl rfl rfl spL (by rfl) (by rfl) (by rfl) kpL ?_) | refine s_nil ?_ | refine kh_normal ?_))
        refine rh_mark rfl spL ?_
        exact rhC3 rfl rfl rfl rfl rfl (fun w hw => loadVar_bx hw spL (by rfl)) ⟨A1, c1, B, d, rfl, rfl⟩ enL
end Go.Proofs.Ytehjdbgijibmcaa
