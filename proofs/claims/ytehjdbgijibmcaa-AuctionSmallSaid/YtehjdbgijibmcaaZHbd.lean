/- The reference of layer 34: Bid. -/
import Derived.Test.YtehjdbgijibmcaaZHb
import Derived.Test.YtehjdbgijibmcaaZVa
set_option linter.unusedSimpArgs false
set_option linter.unusedVariables false
namespace Go.Proofs.Ytehjdbgijibmcaa
open Go.Fw Go.RowKit
theorem moves1 {a b c n : Int} (h : 1 ≤ n) : movesN [⟨a, b, c, n⟩] = [⟨a, b, c, n⟩] := by
  have : n ≠ 0 := by omega
  simp [movesN, this]
theorem moves2 {a b c n a' b' c' n' : Int} (h : 1 ≤ n) (h' : 1 ≤ n') : movesN [⟨a, b, c, n⟩, ⟨a', b', c', n'⟩] = [⟨a, b, c, n⟩, ⟨a', b', c', n'⟩] := by
  have : n ≠ 0 := by omega
  have : n' ≠ 0 := by omega
  simp [movesN, *]
set_option maxHeartbeats 4000000 in
set_option maxRecDepth 100000 in
theorem rBid_low (A : Option Addr) (c0 : Nat) (tick last : Int) (lots : List Lot) (id who most : Int) (i : Nat) (w : World) (hl : lots.length ≤ 100000) (hr : Rd w A lots) (hval : validH ⟨tick, last, lots⟩ = true)
    (hidx : idxL (fun l => decide (l.id = id)) lots = some i) (h1 : inB who 1 65536 = true) (h2 : inB most 1 2147483647 = true) (hsel : (lots.getD i Flat.dflt).seller ≠ who) (hb : bidLot (lots.getD i Flat.dflt) who most = none) :
    Ret Try.prog 63 [hv A c0 ⟨tick, last, lots⟩, .int .i64 id, .int .i64 who, .int .i64 most].toArray w (RP w (OutRR (house0, [], 341))) := by
  have hvs := fun w hr => rValid_spec A c0 ⟨tick, last, lots⟩ w (by show lots.length ≤ _; omega) hr
  have hfs := fun w hr => rFind_spec A c0 ⟨tick, last, lots⟩ id w (by show lots.length ≤ _; omega) hr
  unfold idxI at hfs
  simp only [hidx] at hfs
  have hi := (idxL_some hidx).1
  obtain ⟨hw1, hw2⟩ := inB_iff.1 h1
  obtain ⟨hm1, hm2⟩ := inB_iff.1 h2
  rw [hval] at hvs
  clear hval hidx h1 h2
  unfold bidLot at hb
  unfold hv at hvs hfs ⊢
  simp only at hvs hfs ⊢
  refine enterH Try.func63 rfl rfl Try.ntmps63 rfl (Wd.refl _) ?_
  (repeat' ((fail_if_success (show VH _ _ (.seq (.region 7 _ _) _) _ _ _ _)); first | (show VH _ _ _ _ _ _ _; first | refine v_seq ?_ | refine r_seq ?_ | refine v_skip ?_ | refine v_cond_f rfl tbL ?_) | (show SH _ _ _ _ _ (_ :: _) _ _ _; first | refine mov evL ?_ | refine asg evL ?_ | refine lssF rfl rfl omD ?_ | (show SH _ _ _ _ _ (⟨_, .load _ _, _, _, _, _⟩ :: _) _ _ _; first | refine lbx rfl spL (by rfl) ?_ | refine lba rfl spL (by rfl) ?_ | refine lra rfl (fun _ _ => rdL) (by rfl) omL ?_) | refine ix rfl rfl (by with_reducible rfl) (fun _ _ => rdL) (by rfl) omL omL ?_ | (show SH _ _ _ _ _ (⟨_, .call ⟨.value (.func 23), _, _⟩, _, _, _, _⟩ :: _) _ _ _; refine cl (callee := .func 23) rfl (fun w hw => hvs _ (hr.ext hw.ext)) rfl rfl ?_) | (show SH _ _ _ _ _ (⟨_, .call ⟨.value (.func 69), _, _⟩, _, _, _, _⟩ :: _) _ _ _; refine cl (callee := .func 69) rfl (fun w hw => hfs _ (hr.ext hw.ext)) rfl rfl ?_) | refine bnoT rfl ?_ | refine fad rfl ?_ | refine ala rfl (fun b => ?_) | refine bxx rfl evL rfl (fun b => ?_) | refine sta rfl rfl rfl spL (by rfl) (by rfl) (by rfl) kpL ?_) | refine s_nil ?_ | refine kh_normal ?_))
  clear hvs hfs
  generalize lots.getD i Flat.dflt = x at hsel hb ⊢
  have hnx := fun w => rNext_spec x.price w
  by_cases k0 : x.leader = 0
  · rw [if_pos k0] at hb
    by_cases k1 : most < x.reserve
    · clear hb
      (repeat' (first | (show VH _ _ _ _ _ _ _; first | refine v_seq ?_ | refine r_seq ?_ | refine v_ret ?_ | refine v_skip ?_ | refine v_cond_t rfl tbL ?_ | refine v_cond_f rfl tbL ?_) | (show SH _ _ _ _ _ (_ :: _) _ _ _; first | (refine gif rfl rfl ?_; refine giFF tbL ?_) | refine mov evL ?_ | refine asg evL ?_ | (show SH _ _ _ _ _ (⟨_, .binOp _ _ _ _ _, _, _, _, _⟩ :: _) _ _ _; first | refine lssT rfl rfl omD ?_ | refine lssF rfl rfl omD ?_ | refine gtrF rfl rfl omD ?_ | refine eqlT rfl rfl omD ?_ | refine eqlF rfl rfl omD ?_) | refine lbx rfl spL (by rfl) ?_ | refine pkf rfl tbL evL ?_ | refine fad rfl ?_ | refine bld rfl rfl ?_ | refine sta rfl rfl rfl spL (by rfl) (by rfl) (by rfl) kpL ?_) | refine s_nil ?_ | refine kh_normal ?_ | refine kh_ret ?_))
      exact rhC3 rfl rfl rfl rfl rfl (fun w hw => loadVar_bx hw spL (by rfl)) ⟨none, 0, none, 0, rfl, rfl⟩ ent_res0R
    · rw [if_neg k1] at hb; cases hb
  · rw [if_neg k0] at hb
    by_cases k1 : x.leader = who
    · rw [if_pos k1] at hb
      by_cases k2 : most ≤ x.most
      · clear hb
        (repeat' (first | (show VH _ _ _ _ _ _ _; first | refine v_seq ?_ | refine r_seq ?_ | refine v_ret ?_ | refine v_skip ?_ | refine v_cond_t rfl tbL ?_ | refine v_cond_f rfl tbL ?_) | (show SH _ _ _ _ _ (_ :: _) _ _ _; first | (refine gif rfl rfl ?_; refine giFF tbL ?_) | refine mov evL ?_ | refine asg evL ?_ | (show SH _ _ _ _ _ (⟨_, .binOp _ _ _ _ _, _, _, _, _⟩ :: _) _ _ _; first | refine lssF rfl rfl omD ?_ | refine leqT rfl rfl omD ?_ | refine gtrF rfl rfl omD ?_ | refine eqlT rfl rfl omD ?_ | refine eqlF rfl rfl omD ?_) | refine lbx rfl spL (by rfl) ?_ | refine pkf rfl tbL evL ?_ | refine fad rfl ?_ | refine bld rfl rfl ?_ | refine sta rfl rfl rfl spL (by rfl) (by rfl) (by rfl) kpL ?_) | refine s_nil ?_ | refine kh_normal ?_ | refine kh_ret ?_))
        exact rhC3 rfl rfl rfl rfl rfl (fun w hw => loadVar_bx hw spL (by rfl)) ⟨none, 0, none, 0, rfl, rfl⟩ ent_res0R
      · rw [if_neg k2] at hb; cases hb
    · rw [if_neg k1] at hb
      by_cases k2 : x.most < most
      · rw [if_pos k2] at hb; cases hb
      · rw [if_neg k2] at hb
        by_cases k3 : most < nextP x.price
        · clear hb
          (repeat' (first | (show VH _ _ _ _ _ _ _; first | refine v_seq ?_ | refine r_seq ?_ | refine v_ret ?_ | refine v_skip ?_ | refine v_cond_t rfl tbL ?_ | refine v_cond_f rfl tbL ?_) | (show SH _ _ _ _ _ (_ :: _) _ _ _; first | (refine gif rfl rfl ?_; refine giFF tbL ?_) | refine mov evL ?_ | refine asg evL ?_ | (show SH _ _ _ _ _ (⟨_, .binOp _ _ _ _ _, _, _, _, _⟩ :: _) _ _ _; first | refine lssT rfl rfl omD ?_ | refine lssF rfl rfl omD ?_ | refine gtrF rfl rfl omD ?_ | refine eqlF rfl rfl omD ?_) | refine lbx rfl spL (by rfl) ?_ | (show SH _ _ _ _ _ (⟨_, .call ⟨.value (.func 45), _, _⟩, _, _, _, _⟩ :: _) _ _ _; refine cl (callee := .func 45) rfl (fun w hw => hnx w) rfl rfl ?_) | refine pkf rfl tbL evL ?_ | refine fad rfl ?_ | refine bld rfl rfl ?_ | refine sta rfl rfl rfl spL (by rfl) (by rfl) (by rfl) kpL ?_) | refine s_nil ?_ | refine kh_normal ?_ | refine kh_ret ?_))
          exact rhC3 rfl rfl rfl rfl rfl (fun w hw => loadVar_bx hw spL (by rfl)) ⟨none, 0, none, 0, rfl, rfl⟩ ent_res0R
        · rw [if_neg k3] at hb; cases hb
set_option maxHeartbeats 4000000 in
set_option maxRecDepth 100000 in
theorem rBid_ok (A : Option Addr) (c0 : Nat) (tick last : Int) (lots : List Lot) (id who most : Int) (i : Nat) (w : World) (hl : lots.length ≤ 100000) (hr : Rd w A lots) (hval : validH ⟨tick, last, lots⟩ = true)
    (hidx : idxL (fun l => decide (l.id = id)) lots = some i) (h1 : inB who 1 65536 = true) (h2 : inB most 1 2147483647 = true) (hsel : (lots.getD i Flat.dflt).seller ≠ who) (l' : Lot) (m : List Mv) (hb : bidLot (lots.getD i Flat.dflt) who most = some (l', m)) :
    Ret Try.prog 63 [hv A c0 ⟨tick, last, lots⟩, .int .i64 id, .int .i64 who, .int .i64 most].toArray w (RP w (OutRR (⟨tick, last, lots.set i { l' with till := max l'.till (tick + 20) }⟩, m, 0))) := by
  have hvs := fun w hr => rValid_spec A c0 ⟨tick, last, lots⟩ w (by show lots.length ≤ _; omega) hr
  have hfs := fun w hr => rFind_spec A c0 ⟨tick, last, lots⟩ id w (by show lots.length ≤ _; omega) hr
  unfold idxI at hfs
  simp only [hidx] at hfs
  have hi := (idxL_some hidx).1
  obtain ⟨hw1, hw2⟩ := inB_iff.1 h1
  obtain ⟨hm1, hm2⟩ := inB_iff.1 h2
  have hV := valid_iff.1 hval
  obtain ⟨hk1, hk2⟩ := hV.tick
  have hRR := (hV.lot _ (lot_mem hi)).2.2
  have hR := hRR.led
  have hRv := hRR.reserve
  have hRt := hRR.till
  rw [hval] at hvs
  simp only at hk1 hk2 hR hRv hRt
  clear hval hidx h1 h2 hV hRR
  unfold bidLot at hb
  unfold hv at hvs hfs ⊢
  simp only at hvs hfs ⊢
  refine enterH Try.func63 rfl rfl Try.ntmps63 rfl (Wd.refl _) ?_
  (repeat' ((fail_if_success (show VH _ _ (.seq (.region 7 _ _) _) _ _ _ _)); first | (show VH _ _ _ _ _ _ _; first | refine v_seq ?_ | refine r_seq ?_ | refine v_skip ?_ | refine v_cond_f rfl tbL ?_) | (show SH _ _ _ _ _ (_ :: _) _ _ _; first | refine mov evL ?_ | refine asg evL ?_ | refine lssF rfl rfl omD ?_ | (show SH _ _ _ _ _ (⟨_, .load _ _, _, _, _, _⟩ :: _) _ _ _; first | refine lbx rfl spL (by rfl) ?_ | refine lba rfl spL (by rfl) ?_ | refine lra rfl (fun _ _ => rdL) (by rfl) omL ?_) | refine ix rfl rfl (by with_reducible rfl) (fun _ _ => rdL) (by rfl) omL omL ?_ | (show SH _ _ _ _ _ (⟨_, .call ⟨.value (.func 23), _, _⟩, _, _, _, _⟩ :: _) _ _ _; refine cl (callee := .func 23) rfl (fun w hw => hvs _ (hr.ext hw.ext)) rfl rfl ?_) | (show SH _ _ _ _ _ (⟨_, .call ⟨.value (.func 69), _, _⟩, _, _, _, _⟩ :: _) _ _ _; refine cl (callee := .func 69) rfl (fun w hw => hfs _ (hr.ext hw.ext)) rfl rfl ?_) | refine bnoT rfl ?_ | refine fad rfl ?_ | refine ala rfl (fun b => ?_) | refine bxx rfl evL rfl (fun b => ?_) | refine sta rfl rfl rfl spL (by rfl) (by rfl) (by rfl) kpL ?_) | refine s_nil ?_ | refine kh_normal ?_))
  clear hvs hfs
  rename_i b4 b8
  obtain ⟨x, hx⟩ : ∃ x, lots.getD i Flat.dflt = x := ⟨_, rfl⟩
  rw [hx] at hsel hb hR hRv hRt ⊢
  clear hx
  (repeat' ((fail_if_success (show VH _ _ (.seq (.seq (.region 12 _ _) _) _) _ _ _ _)); first | (show VH _ _ _ _ _ _ _; first | refine v_seq ?_ | refine r_seq ?_ | refine v_skip ?_ | refine v_cond_f rfl tbL ?_) | (show SH _ _ _ _ _ (_ :: _) _ _ _; first | (refine gif rfl rfl ?_; refine giFF tbL ?_) | refine mov evL ?_ | refine asg evL ?_ | (show SH _ _ _ _ _ (⟨_, .binOp _ _ _ _ _, _, _, _, _⟩ :: _) _ _ _; first | refine lssF rfl rfl omD ?_ | refine gtrF rfl rfl omD ?_ | refine eqlF rfl rfl omD ?_) | refine lbx rfl spL (by rfl) ?_ | refine pkf rfl tbL evL ?_ | refine fad rfl ?_) | refine s_nil ?_ | refine kh_normal ?_))
  refine v_seq ?_
  refine v_cut [(13, 13), (49, 120)] (fun y : Option Addr × Nat => [(13, .slice y.1 m.length y.2)]) (fun y => [bx b 61 (Flat.enc l'), bx b8 53 [.int .i64 0, .int .i64 0, .slice none 0 0], bx b4 53 [.int .i64 tick, .int .i64 last, .slice A lots.length c0], orow 100 y.1 y.2 m]) (fun _ => l'.till = x.till) ?_ ?_ ent_vh
  · have hnx := fun p w => rNext_spec p w
    have hls := fun a b w => rLesser_spec a b w
    by_cases k0 : x.leader = 0
    · rw [if_pos k0] at hb
      by_cases k1 : most < x.reserve
      · rw [if_pos k1] at hb; cases hb
      · rw [if_neg k1, Option.some.injEq, Prod.mk.injEq, moves1 hm1] at hb
        obtain ⟨rfl, rfl⟩ := hb
        clear hR hnx hls
        (repeat' (first | (show VH _ _ _ _ _ _ _; first | refine v_seq ?_ | refine r_seq ?_ | refine v_skip ?_ | refine v_cond_t rfl tbL ?_ | refine v_cond_f rfl tbL ?_) | (show SH _ _ _ _ _ (_ :: _) _ _ _; first | refine mov evL ?_ | (show SH _ _ _ _ _ (⟨_, .binOp _ _ _ _ _, _, _, _, _⟩ :: _) _ _ _; first | refine lssF rfl rfl omD ?_ | refine eqlT rfl rfl omD ?_) | refine lbx rfl spL (by rfl) ?_ | refine fad rfl ?_ | refine bld rfl rfl ?_) | refine s_nil ?_ | refine kh_normal ?_))
        refine bsl (l := [(⟨who, 0, 0, most⟩ : Mv)]) rfl rfl (Vals.cons rfl Vals.nil) rfl rfl (by decide) (fun b9 => ?_)
        (repeat' (first | (show VH _ _ _ _ _ _ _; first | refine v_seq ?_ | refine r_seq ?_) | (show SH _ _ _ _ _ (_ :: _) _ _ _; first | refine mov evL ?_ | refine asg evL ?_ | refine lbx rfl spL (by rfl) ?_ | refine fad rfl ?_ | refine stb rfl rfl evL spL rfl rfl (by first | decide | exact Nat.zero_lt_succ _ | exact of_decide_eq_true rfl) kpL ?_) | refine s_nil ?_ | refine kh_normal ?_))
        exact ⟨agL, (some ⟨b9, 0, none⟩, 1), hsL, enL, rfl⟩
    · have hR' := hR.resolve_left (fun h => k0 h.1)
      obtain ⟨r1, r2, r3, r4⟩ := hR'
      rw [if_neg k0] at hb
      clear hR
      by_cases k1 : x.leader = who
      · rw [if_pos k1] at hb
        by_cases k2 : most ≤ x.most
        · rw [if_pos k2] at hb; cases hb
        · rw [if_neg k2, Option.some.injEq, Prod.mk.injEq, moves1 (by omega)] at hb
          obtain ⟨rfl, rfl⟩ := hb
          clear hnx hls
          (repeat' (first | (show VH _ _ _ _ _ _ _; first | refine v_seq ?_ | refine r_seq ?_ | refine v_skip ?_ | refine v_cond_t rfl tbL ?_ | refine v_cond_f rfl tbL ?_) | (show SH _ _ _ _ _ (_ :: _) _ _ _; first | refine mov evL ?_ | (show SH _ _ _ _ _ (⟨_, .binOp _ _ _ _ _, _, _, _, _⟩ :: _) _ _ _; first | refine leqF rfl rfl omD ?_ | refine eqlT rfl rfl omD ?_ | refine eqlF rfl rfl omD ?_ | refine sub rfl rfl inL ?_) | refine lbx rfl spL (by rfl) ?_ | refine fad rfl ?_ | refine bld rfl rfl ?_) | refine s_nil ?_ | refine kh_normal ?_))
          refine bsl (l := [(⟨who, 0, 0, most - x.most⟩ : Mv)]) rfl rfl (Vals.cons rfl Vals.nil) rfl rfl (by decide) (fun b9 => ?_)
          (repeat' (first | refine r_seq ?_ | (show SH _ _ _ _ _ (_ :: _) _ _ _; first | refine mov evL ?_ | refine asg evL ?_ | refine fad rfl ?_ | refine stb rfl rfl evL spL rfl rfl (by first | decide | exact Nat.zero_lt_succ _ | exact of_decide_eq_true rfl) kpL ?_) | refine s_nil ?_ | refine kh_normal ?_))
          exact ⟨agL, (some ⟨b9, 0, none⟩, 1), hsL, enL, rfl⟩
      · rw [if_neg k1] at hb
        by_cases k2 : x.most < most
        · rw [if_pos k2, Option.some.injEq, Prod.mk.injEq, moves2 hm1 (by omega)] at hb
          obtain ⟨rfl, rfl⟩ := hb
          (repeat' (first | (show VH _ _ _ _ _ _ _; first | refine v_seq ?_ | refine r_seq ?_ | refine v_cond_t rfl tbL ?_ | refine v_cond_f rfl tbL ?_) | (show SH _ _ _ _ _ (_ :: _) _ _ _; first | refine mov evL ?_ | (show SH _ _ _ _ _ (⟨_, .binOp _ _ _ _ _, _, _, _, _⟩ :: _) _ _ _; first | refine gtrT rfl rfl omD ?_ | refine eqlF rfl rfl omD ?_) | refine lbx rfl spL (by rfl) ?_ | refine fad rfl ?_ | refine bld rfl rfl ?_) | refine s_nil ?_ | refine kh_normal ?_))
          refine bsl (l := [(⟨who, 0, 0, most⟩ : Mv), ⟨0, x.leader, 0, x.most⟩]) rfl rfl (Vals.cons rfl (Vals.cons rfl Vals.nil)) rfl rfl (by decide) (fun b9 => ?_)
          (repeat' (first | (show VH _ _ _ _ _ _ _; first | refine v_seq ?_ | refine r_seq ?_) | (show SH _ _ _ _ _ (_ :: _) _ _ _; first | refine mov evL ?_ | refine asg evL ?_ | refine lbx rfl spL (by rfl) ?_ | (show SH _ _ _ _ _ (⟨_, .call ⟨.value (.func 45), _, _⟩, _, _, _, _⟩ :: _) _ _ _; refine cl (callee := .func 45) rfl (fun w hw => hnx _ w) rfl rfl ?_) | (show SH _ _ _ _ _ (⟨_, .call ⟨.value (.func 70), _, _⟩, _, _, _, _⟩ :: _) _ _ _; refine cl (callee := .func 70) rfl (fun w hw => hls _ _ w) rfl rfl ?_) | refine fad rfl ?_ | refine stb rfl rfl evL spL rfl rfl (by first | decide | exact Nat.zero_lt_succ _ | exact of_decide_eq_true rfl) kpL ?_) | refine s_nil ?_ | refine kh_normal ?_))
          exact ⟨agL, (some ⟨b9, 0, none⟩, 2), hsL, enL, rfl⟩
        · rw [if_neg k2] at hb
          by_cases k3 : most < nextP x.price
          · rw [if_pos k3] at hb; cases hb
          · rw [if_neg k3, Option.some.injEq, Prod.mk.injEq] at hb
            obtain ⟨rfl, rfl⟩ := hb
            (repeat' (first | (show VH _ _ _ _ _ _ _; first | refine v_seq ?_ | refine r_seq ?_ | refine v_skip ?_ | refine v_cond_f rfl tbL ?_) | (show SH _ _ _ _ _ (_ :: _) _ _ _; first | refine mov evL ?_ | (show SH _ _ _ _ _ (⟨_, .binOp _ _ _ _ _, _, _, _, _⟩ :: _) _ _ _; first | refine lssF rfl rfl omD ?_ | refine gtrF rfl rfl omD ?_ | refine eqlF rfl rfl omD ?_) | refine lbx rfl spL (by rfl) ?_ | (show SH _ _ _ _ _ (⟨_, .call ⟨.value (.func 45), _, _⟩, _, _, _, _⟩ :: _) _ _ _; refine cl (callee := .func 45) rfl (fun w hw => hnx _ w) rfl rfl ?_) | refine fad rfl ?_) | refine s_nil ?_ | refine kh_normal ?_))
            refine r_heldT [] (tr [(0, true), (2, true)] (.fork 1 (tr [(3, false), (4, false), (5, false), (6, false)] .nil) 3 (tr [(1, false), (4, false), (5, false), (6, false)] .nil))) hmix (by kernel_rfl) enL ?_
            (repeat' ((show SH _ _ _ _ _ (_ :: _) _ _ _; first | refine mov evL ?_ | refine fad rfl ?_)))
            repeat' (first
              | (refine s_fork ?_ ?_ <;> (repeat' (first | (show SH _ _ _ _ _ (_ :: _) _ _ _; first | refine lbx rfl spL (by rfl) ?_ | (show SH _ _ _ _ _ (⟨_, .call ⟨.value (.func 45), _, _⟩, _, _, _, _⟩ :: _) _ _ _; refine cl (callee := .func 45) rfl (fun w hw => hnx _ w) rfl rfl ?_) | (show SH _ _ _ _ _ (⟨_, .call ⟨.value (.func 70), _, _⟩, _, _, _, _⟩ :: _) _ _ _; refine cl (callee := .func 70) rfl (fun w hw => hls _ _ w) rfl rfl ?_) | refine fad rfl ?_ | refine stb rfl rfl evL spL rfl rfl (by first | decide | exact Nat.zero_lt_succ _ | exact of_decide_eq_true rfl) kpL ?_) | refine s_nil ?_ | refine kh_normal ?_)))
              | (refine s_fork3 ?_ ?_ ?_ <;> (repeat' (first | (show VH _ _ _ _ _ _ _; first | refine v_seq ?_ | refine r_seq ?_ | refine r_quiet hmix (by kernel_rfl) ?_ | refine v_block ?_ | refine v_ret ?_ | refine v_skip ?_ | refine v_exit ?_ | refine v_label ?_ | refine v_cond_t rfl tbL ?_ | refine v_cond_f rfl tbL ?_ | refine v_cond_dec rfl (fun h => ?_) (fun h => ?_) | refine v_cond_ndec rfl (fun h => ?_) (fun h => ?_) | refine v_cond rfl (fun h => ?_) (fun h => ?_)) | (show SH _ _ _ _ _ (_ :: _) _ _ _; first | (show SH _ _ _ _ _ (⟨_, _, _, _, _, some _⟩ :: _) _ _ _; first | (refine gif rfl rfl ?_; first | refine giTT tbL ?_ | refine giTF tbL ?_ | refine giFF tbL ?_ | refine giFT tbL ?_ | refine giTd (fun h => ?_) (fun h => ?_) | refine giFd (fun h => ?_) (fun h => ?_) | refine giT (fun h => ?_) (fun h => ?_) | refine giF (fun h => ?_) (fun h => ?_)) | refine gu rfl rfl ?_ | refine grT rfl rfl tbL ?_ | refine grF rfl rfl tbL ?_) | refine mov evL ?_ | refine asg evL ?_ | (show SH _ _ _ _ _ (⟨_, .binOp _ _ _ _ _, _, _, _, _⟩ :: _) _ _ _; first | refine lssT rfl rfl omD ?_ | refine lssF rfl rfl omD ?_ | refine leqT rfl rfl omD ?_ | refine leqF rfl rfl omD ?_ | refine gtrT rfl rfl omD ?_ | refine gtrF rfl rfl omD ?_ | refine eqlT rfl rfl omD ?_ | refine eqlF rfl rfl omD ?_ | refine add rfl rfl inL ?_ | refine sub rfl rfl inL ?_ | refine lss rfl rfl ?_ | refine leq rfl rfl ?_ | refine gtr rfl rfl ?_ | refine eql rfl rfl ?_ | refine eqn rfl rfl ?_ | refine eqb rfl rfl ?_) | (show SH _ _ _ _ _ (⟨_, .load _ _, _, _, _, _⟩ :: _) _ _ _; first | refine lsl rfl (fun _ _ => rdL) omL (by assumption) ?_ | refine lin rfl (fun _ _ => rdL) omL ?_ | refine lbx rfl spL (by rfl) ?_ | refine lba rfl spL (by rfl) ?_ | refine lbi rfl spL omL ?_ | refine lr1 rfl (fun _ _ => rdL) (by rfl) omL (by rfl) ?_ | refine lra rfl (fun _ _ => rdL) (by rfl) omL ?_ | refine lrf rfl (fun _ _ => rdL) (by rfl) omL (by rfl) ?_ | refine lcell rfl (fun w hw => hw.ext.cell (by assumption)) ?_) | (show SH _ _ _ _ _ (⟨_, .indexAddr _ _ _, _, _, _, _⟩ :: _) _ _ _; first | refine ix rfl rfl (by with_reducible rfl) (fun _ _ => rdL) (by rfl) omL omL ?_ | refine ixi rfl rfl (fun _ _ => rdL) (by rfl) omL omL omL ?_ | refine ixb rfl rfl omL ?_ | refine ixq rfl rfl (by assumption) omL omL ?_) | (show SH _ _ _ _ _ (⟨_, .call ⟨.value (.func 45), _, _⟩, _, _, _, _⟩ :: _) _ _ _; refine cl (callee := .func 45) rfl (fun w hw => hnx _ w) rfl rfl ?_) | (show SH _ _ _ _ _ (⟨_, .call ⟨.value (.func 70), _, _⟩, _, _, _, _⟩ :: _) _ _ _; refine cl (callee := .func 70) rfl (fun w hw => hls _ _ w) rfl rfl ?_) | refine bnoT rfl ?_ | refine bnoF rfl ?_ | refine pkt rfl tbL evL ?_ | refine pkf rfl tbL evL ?_ | refine bnot rfl ?_ | refine fad rfl ?_ | refine bld rfl rfl ?_ | refine al1 rfl (fun b => ?_) | refine ala rfl (fun b => ?_) | refine bxx rfl evL rfl (fun b => ?_) | refine stb rfl rfl evL spL rfl rfl (by first | decide | exact Nat.zero_lt_succ _ | exact of_decide_eq_true rfl) kpL ?_ | refine sta rfl rfl rfl spL (by rfl) (by rfl) (by rfl) kpL ?_ | refine sti rfl rfl rfl spL omL kpL ?_ | refine sbi rfl rfl rfl spL omL kpL ?_ | refine bsl (α := Int) rfl rfl (by repeat (first | exact Vals.nil | (apply Vals.cons; rfl))) rfl (by rfl) (by decide) (fun b => ?_)) | refine s_nil ?_ | refine kh_normal ?_ | refine kh_ret ?_ | refine kh_exit ?_ | refine bh_normal ?_ | refine bh_ret ?_ | refine bh_exit ?_ | refine bh_exit_ne rfl ?_))))
            all_goals exact ⟨agL, (none, 0), hsL, enL, rfl⟩
  rintro ⟨B, d⟩ g2 htill _ rfl
  simp only [sets]
  clear hb hR
  have hir : i < ([] ++ lots : List Lot).length := by simpa using hi
  by_cases ht : l'.till < tick + 20
  · rw [Int.max_eq_right (by omega)]
    (repeat' (first | (show VH _ _ _ _ _ _ _; first | refine v_seq ?_ | refine r_seq ?_ | refine v_cond_t rfl tbL ?_) | (show SH _ _ _ _ _ (_ :: _) _ _ _; first | (show SH _ _ _ _ _ (⟨_, .binOp _ _ _ _ _, _, _, _, _⟩ :: _) _ _ _; first | refine lssT rfl rfl omD ?_ | refine add rfl rfl inL ?_) | refine lbx rfl spL (by rfl) ?_ | refine fad rfl ?_ | refine stb rfl rfl evL spL rfl rfl (by first | decide | exact Nat.zero_lt_succ _ | exact of_decide_eq_true rfl) kpL ?_) | refine s_nil ?_ | refine kh_normal ?_))
    refine bsl (l := ([] : List Lot)) rfl rfl Vals.nil rfl rfl (by decide) (fun b7 => ?_)
    (repeat' ((show SH _ _ _ _ _ (_ :: _) _ _ _; first | refine lbx rfl spL (by rfl) ?_ | refine fad rfl ?_)))
    refine app (l := ([] : List Lot)) (l2 := lots) rfl rfl rfl spL (fun w hw => hr.ext hw.ext) rfl rfl rfl (by simp only [List.length_nil]; omega) (by simp only [List.length_nil]; omega) (fun A2 c2 => ⟨trivial, ?_⟩)
    (repeat' (first | (show VH _ _ _ _ _ _ _; first | refine v_seq ?_ | refine r_seq ?_) | (show SH _ _ _ _ _ (_ :: _) _ _ _; first | refine mov evL ?_ | (show SH _ _ _ _ _ (⟨_, .load _ _, _, _, _, _⟩ :: _) _ _ _; first | refine lbx rfl spL (by rfl) ?_ | refine lba rfl spL (by rfl) ?_) | refine ix rfl rfl (by with_reducible rfl) (fun _ _ => rdL) (by rfl) omL omL ?_ | refine fad rfl ?_ | refine stb rfl rfl evL spL rfl rfl (by first | decide | exact Nat.zero_lt_succ _ | exact of_decide_eq_true rfl) kpL ?_) | refine s_nil ?_ | refine kh_normal ?_))
    refine stv { l' with till := tick + 20 } rfl rfl rfl spL rfl hir rfl trivial ?_
    (repeat' (first | (show VH _ _ _ _ _ _ _; first | refine v_seq ?_ | refine r_seq ?_ | refine v_ret ?_) | (show SH _ _ _ _ _ (_ :: _) _ _ _; first | refine mov evL ?_ | refine asg evL ?_ | refine lba rfl spL (by rfl) ?_ | refine sta rfl rfl rfl spL (by rfl) (by rfl) (by rfl) kpL ?_) | refine s_nil ?_ | refine kh_normal ?_))
    exact rhC3 rfl rfl rfl rfl rfl (fun w hw => loadVar_bx hw spL (by rfl)) ⟨A2, c2, B, d, by rw [hv, List.length_set]; rfl, rfl⟩ enL
  · rw [Int.max_eq_left (by omega)]
    (repeat' (first | (show VH _ _ _ _ _ _ _; first | refine v_seq ?_ | refine r_seq ?_ | refine v_skip ?_ | refine v_cond_f rfl tbL ?_) | (show SH _ _ _ _ _ (_ :: _) _ _ _; first | (show SH _ _ _ _ _ (⟨_, .binOp _ _ _ _ _, _, _, _, _⟩ :: _) _ _ _; first | refine lssF rfl rfl omD ?_ | refine add rfl rfl inL ?_) | refine lbx rfl spL (by rfl) ?_ | refine fad rfl ?_) | refine s_nil ?_ | refine kh_normal ?_))
    refine bsl (l := ([] : List Lot)) rfl rfl Vals.nil rfl rfl (by decide) (fun b7 => ?_)
    (repeat' ((show SH _ _ _ _ _ (_ :: _) _ _ _; first | refine lbx rfl spL (by rfl) ?_ | refine fad rfl ?_)))
    refine app (l := ([] : List Lot)) (l2 := lots) rfl rfl rfl spL (fun w hw => hr.ext hw.ext) rfl rfl rfl (by simp only [List.length_nil]; omega) (by simp only [List.length_nil]; omega) (fun A2 c2 => ⟨trivial, ?_⟩)
    (repeat' (first | (show VH _ _ _ _ _ _ _; first | refine v_seq ?_ | refine r_seq ?_) | (show SH _ _ _ _ _ (_ :: _) _ _ _; first | refine mov evL ?_ | (show SH _ _ _ _ _ (⟨_, .load _ _, _, _, _, _⟩ :: _) _ _ _; first | refine lbx rfl spL (by rfl) ?_ | refine lba rfl spL (by rfl) ?_) | refine ix rfl rfl (by with_reducible rfl) (fun _ _ => rdL) (by rfl) omL omL ?_ | refine fad rfl ?_ | refine stb rfl rfl evL spL rfl rfl (by first | decide | exact Nat.zero_lt_succ _ | exact of_decide_eq_true rfl) kpL ?_) | refine s_nil ?_ | refine kh_normal ?_))
    refine stv l' rfl rfl rfl spL rfl hir rfl trivial ?_
    (repeat' (first | (show VH _ _ _ _ _ _ _; first | refine v_seq ?_ | refine r_seq ?_ | refine v_ret ?_) | (show SH _ _ _ _ _ (_ :: _) _ _ _; first | refine mov evL ?_ | refine asg evL ?_ | refine lba rfl spL (by rfl) ?_ | refine sta rfl rfl rfl spL (by rfl) (by rfl) (by rfl) kpL ?_) | refine s_nil ?_ | refine kh_normal ?_))
    exact rhC3 rfl rfl rfl rfl rfl (fun w hw => loadVar_bx hw spL (by rfl)) ⟨A2, c2, B, d, by rw [hv, List.length_set]; rfl, rfl⟩ enL
set_option maxHeartbeats 4000000 in
set_option maxRecDepth 100000 in
theorem rBid_spec (A : Option Addr) (c0 : Nat) (h : House) (id who most : Int) (w : World) (hl : h.lots.length ≤ 100000) (hr : Rd w A h.lots) :
    Ret Try.prog 63 [hv A c0 h, .int .i64 id, .int .i64 who, .int .i64 most].toArray w (RP w (OutRR (bidH h id who most))) := by
  have hvs := fun w hr => rValid_spec A c0 h w (by omega) hr
  have hfs := fun w hr => rFind_spec A c0 h id w (by omega) hr
  unfold idxI at hfs
  unfold bidH
  obtain ⟨tick, last, lots⟩ := h
  simp only at hl hr
  cases hval : validH ⟨tick, last, lots⟩ with
  | false =>
    rw [hval] at hvs
    clear hfs
    unfold hv at hvs ⊢
    simp only at hvs ⊢
    refine enterH Try.func63 rfl rfl Try.ntmps63 rfl (Wd.refl _) ?_
    (repeat' (first | (show VH _ _ _ _ _ _ _; first | refine v_seq ?_ | refine r_seq ?_ | refine v_ret ?_ | refine v_cond_t rfl tbL ?_) | (show SH _ _ _ _ _ (_ :: _) _ _ _; first | refine asg evL ?_ | refine lba rfl spL (by rfl) ?_ | (show SH _ _ _ _ _ (⟨_, .call ⟨.value (.func 23), _, _⟩, _, _, _, _⟩ :: _) _ _ _; refine cl (callee := .func 23) rfl (fun w hw => hvs _ (hr.ext hw.ext)) rfl rfl ?_) | refine bnoF rfl ?_ | refine bld rfl rfl ?_ | refine ala rfl (fun b => ?_) | refine bxx rfl evL rfl (fun b => ?_) | refine sta rfl rfl rfl spL (by rfl) (by rfl) (by rfl) kpL ?_) | refine s_nil ?_ | refine kh_normal ?_ | refine kh_ret ?_))
    exact rhC3 rfl rfl rfl rfl rfl (fun w hw => loadVar_bx hw spL (by rfl)) ⟨none, 0, none, 0, rfl, rfl⟩ ent_res0R
  | true =>
    have hV := valid_iff.1 hval
    rw [hval] at hvs
    cases hidx : idxL (fun l => decide (l.id = id)) lots with
    | none =>
      simp only [hidx] at hfs ⊢
      unfold hv at hvs hfs ⊢
      simp only at hvs hfs ⊢
      clear hV
      refine enterH Try.func63 rfl rfl Try.ntmps63 rfl (Wd.refl _) ?_
      (repeat' (first | (show VH _ _ _ _ _ _ _; first | refine v_seq ?_ | refine r_seq ?_ | refine v_ret ?_ | refine v_skip ?_ | refine v_cond_t rfl tbL ?_ | refine v_cond_f rfl tbL ?_) | (show SH _ _ _ _ _ (_ :: _) _ _ _; first | refine mov evL ?_ | refine asg evL ?_ | refine lssT rfl rfl omD ?_ | refine lba rfl spL (by rfl) ?_ | (show SH _ _ _ _ _ (⟨_, .call ⟨.value (.func 23), _, _⟩, _, _, _, _⟩ :: _) _ _ _; refine cl (callee := .func 23) rfl (fun w hw => hvs _ (hr.ext hw.ext)) rfl rfl ?_) | (show SH _ _ _ _ _ (⟨_, .call ⟨.value (.func 69), _, _⟩, _, _, _, _⟩ :: _) _ _ _; refine cl (callee := .func 69) rfl (fun w hw => hfs _ (hr.ext hw.ext)) rfl rfl ?_) | refine bnoT rfl ?_ | refine bld rfl rfl ?_ | refine ala rfl (fun b => ?_) | refine bxx rfl evL rfl (fun b => ?_) | refine sta rfl rfl rfl spL (by rfl) (by rfl) (by rfl) kpL ?_) | refine s_nil ?_ | refine kh_normal ?_ | refine kh_ret ?_))
      exact rhC3 rfl rfl rfl rfl rfl (fun w hw => loadVar_bx hw spL (by rfl)) ⟨none, 0, none, 0, rfl, rfl⟩ ent_res0R
    | some i =>
      have hi := (idxL_some hidx).1
      cases hio : inB who 1 65536 && inB most 1 2147483647 with
      | false =>
        have hq : who < 1 ∨ (1 ≤ who ∧ 65536 < who) ∨ (1 ≤ who ∧ who ≤ 65536 ∧ most < 1) ∨ (1 ≤ who ∧ who ≤ 65536 ∧ 1 ≤ most ∧ 2147483647 < most) := by
          rw [Bool.and_eq_false_iff, inB_no, inB_no] at hio
          omega
        simp only [hidx, hio, if_true] at hfs ⊢
        unfold hv at hvs hfs ⊢
        simp only at hvs hfs ⊢
        clear hV hio
        refine enterH Try.func63 rfl rfl Try.ntmps63 rfl (Wd.refl _) ?_
        (repeat' ((fail_if_success (show VH _ _ (.seq (.region 7 _ _) _) _ _ _ _)); first | (show VH _ _ _ _ _ _ _; first | refine v_seq ?_ | refine r_seq ?_ | refine v_skip ?_ | refine v_cond_f rfl tbL ?_) | (show SH _ _ _ _ _ (_ :: _) _ _ _; first | refine mov evL ?_ | refine asg evL ?_ | refine lssF rfl rfl omD ?_ | (show SH _ _ _ _ _ (⟨_, .load _ _, _, _, _, _⟩ :: _) _ _ _; first | refine lbx rfl spL (by rfl) ?_ | refine lba rfl spL (by rfl) ?_ | refine lra rfl (fun _ _ => rdL) (by rfl) omL ?_) | refine ix rfl rfl (by with_reducible rfl) (fun _ _ => rdL) (by rfl) omL omL ?_ | (show SH _ _ _ _ _ (⟨_, .call ⟨.value (.func 23), _, _⟩, _, _, _, _⟩ :: _) _ _ _; refine cl (callee := .func 23) rfl (fun w hw => hvs _ (hr.ext hw.ext)) rfl rfl ?_) | (show SH _ _ _ _ _ (⟨_, .call ⟨.value (.func 69), _, _⟩, _, _, _, _⟩ :: _) _ _ _; refine cl (callee := .func 69) rfl (fun w hw => hfs _ (hr.ext hw.ext)) rfl rfl ?_) | refine bnoT rfl ?_ | refine fad rfl ?_ | refine ala rfl (fun b => ?_) | refine bxx rfl evL rfl (fun b => ?_) | refine sta rfl rfl rfl spL (by rfl) (by rfl) (by rfl) kpL ?_) | refine s_nil ?_ | refine kh_normal ?_))
        rcases hq with h1 | ⟨h1, h2⟩ | ⟨h1, h2, h3⟩ | ⟨h1, h2, h3, h4⟩
        all_goals
          (repeat' (first | (show VH _ _ _ _ _ _ _; first | refine v_seq ?_ | refine r_seq ?_ | refine v_ret ?_ | refine v_cond_t rfl tbL ?_) | (show SH _ _ _ _ _ (_ :: _) _ _ _; first | (refine gif rfl rfl ?_; first | refine giFF tbL ?_ | refine giFT tbL ?_) | refine mov evL ?_ | refine asg evL ?_ | (show SH _ _ _ _ _ (⟨_, .binOp _ _ _ _ _, _, _, _, _⟩ :: _) _ _ _; first | refine lssT rfl rfl omD ?_ | refine lssF rfl rfl omD ?_ | refine gtrT rfl rfl omD ?_ | refine gtrF rfl rfl omD ?_) | refine pkt rfl tbL evL ?_ | refine pkf rfl tbL evL ?_ | refine bld rfl rfl ?_ | refine sta rfl rfl rfl spL (by rfl) (by rfl) (by rfl) kpL ?_) | refine s_nil ?_ | refine kh_normal ?_ | refine kh_ret ?_))
          exact rhC3 rfl rfl rfl rfl rfl (fun w hw => loadVar_bx hw spL (by rfl)) ⟨none, 0, none, 0, rfl, rfl⟩ ent_res0R
      | true =>
        obtain ⟨h1, h2⟩ := Bool.and_eq_true_iff.1 hio
        by_cases hsel : (lots.getD i Flat.dflt).seller = who
        · obtain ⟨hw1, hw2⟩ := inB_iff.1 h1
          obtain ⟨hm1, hm2⟩ := inB_iff.1 h2
          simp only [hidx, hio, if_pos hsel, if_true] at hfs ⊢
          unfold hv at hvs hfs ⊢
          simp only at hvs hfs ⊢
          clear hV hio h1 h2
          refine enterH Try.func63 rfl rfl Try.ntmps63 rfl (Wd.refl _) ?_
          (repeat' (first | (show VH _ _ _ _ _ _ _; first | refine v_seq ?_ | refine r_seq ?_ | refine v_ret ?_ | refine v_skip ?_ | refine v_cond_t rfl tbL ?_ | refine v_cond_f rfl tbL ?_) | (show SH _ _ _ _ _ (_ :: _) _ _ _; first | (refine gif rfl rfl ?_; refine giFF tbL ?_) | refine mov evL ?_ | refine asg evL ?_ | (show SH _ _ _ _ _ (⟨_, .binOp _ _ _ _ _, _, _, _, _⟩ :: _) _ _ _; first | refine lssF rfl rfl omD ?_ | refine gtrF rfl rfl omD ?_ | refine eqlT rfl rfl omD ?_) | (show SH _ _ _ _ _ (⟨_, .load _ _, _, _, _, _⟩ :: _) _ _ _; first | refine lbx rfl spL (by rfl) ?_ | refine lba rfl spL (by rfl) ?_ | refine lra rfl (fun _ _ => rdL) (by rfl) omL ?_) | refine ix rfl rfl (by with_reducible rfl) (fun _ _ => rdL) (by rfl) omL omL ?_ | (show SH _ _ _ _ _ (⟨_, .call ⟨.value (.func 23), _, _⟩, _, _, _, _⟩ :: _) _ _ _; refine cl (callee := .func 23) rfl (fun w hw => hvs _ (hr.ext hw.ext)) rfl rfl ?_) | (show SH _ _ _ _ _ (⟨_, .call ⟨.value (.func 69), _, _⟩, _, _, _, _⟩ :: _) _ _ _; refine cl (callee := .func 69) rfl (fun w hw => hfs _ (hr.ext hw.ext)) rfl rfl ?_) | refine bnoT rfl ?_ | refine pkf rfl tbL evL ?_ | refine fad rfl ?_ | refine bld rfl rfl ?_ | refine ala rfl (fun b => ?_) | refine bxx rfl evL rfl (fun b => ?_) | refine sta rfl rfl rfl spL (by rfl) (by rfl) (by rfl) kpL ?_) | refine s_nil ?_ | refine kh_normal ?_ | refine kh_ret ?_))
          exact rhC3 rfl rfl rfl rfl rfl (fun w hw => loadVar_bx hw spL (by rfl)) ⟨none, 0, none, 0, rfl, rfl⟩ ent_res0R
        · simp only [hio, if_neg hsel, if_true]
          cases hb : bidLot (lots.getD i Flat.dflt) who most with
          | none => exact rBid_low A c0 tick last lots id who most i w hl hr hval hidx h1 h2 hsel hb
          | some y =>
            obtain ⟨l', m⟩ := y
            exact rBid_ok A c0 tick last lots id who most i w hl hr hval hidx h1 h2 hsel l' m hb
end Go.Proofs.Ytehjdbgijibmcaa
