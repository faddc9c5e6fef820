/- Package auction: Bid. -/
import Derived.Test.YtehjdbgijibmcaaZCg
set_option linter.unusedSimpArgs false
set_option linter.unusedVariables false
namespace Go.Proofs.Ytehjdbgijibmcaa
open Go.Fw Go.RowKit
theorem getD_mem {l : List Lot} {i : Nat} (h : i < l.length) : l.getD i Flat.dflt ∈ l := by
  rw [List.getD_eq_getElem?_getD, List.getElem?_eq_getElem h]; exact List.getElem_mem h
def bidR (tick last : Int) (lots : List Lot) (i : Nat) (who most : Int) : Res :=
  match bidLot (lots.getD i Flat.dflt) who most with
  | none => (house0, [], 341)
  | some (l, m) => (⟨tick, last, lots.set i { l with till := max l.till (tick + 20) }⟩, m, 0)

set_option maxHeartbeats 2000000 in
set_option maxRecDepth 100000 in
theorem bidW0_spec (A : Option Addr) (c0 : Nat) (tick last : Int) (lots : List Lot) (id who most : Int) (i : Nat) (w : World) (hl : lots.length ≤ 1000000) (hr : Rd w A lots) (hval : validH ⟨tick, last, lots⟩ = true)
    (hidx : idxL (fun l => decide (l.id = id)) lots = some i) (h1 : inB who 1 65536 = true) (h2 : inB most 1 2147483647 = true) (hsel : (lots.getD i Flat.dflt).seller ≠ who) (k0 : (lots.getD i Flat.dflt).leader = 0) :
    Ret Try.prog 15 [hv A c0 ⟨tick, last, lots⟩, .int .i64 id, .int .i64 who, .int .i64 most].toArray w (RP w (OutR (bidR tick last lots i who most))) := by
  have hls := fun w hr => lot_spec A c0 ⟨tick, last, lots⟩ id w hl hr
  simp only [lotF, hval, hidx, if_true] at hls
  have hos := fun w hr => own_spec A c0 ⟨tick, last, lots⟩ w hl hr
  have hi := (idxL_some hidx).1
  have in1 := h1 ▸ in_spec who 1 65536
  have in2 := h2 ▸ in_spec most 1 2147483647
  have hV := valid_iff.1 hval
  obtain ⟨hk1, hk2⟩ := hV.tick
  have hR := (hV.lot _ (getD_mem hi)).2.2.led
  have hRv := (hV.lot _ (getD_mem hi)).2.2.reserve
  obtain ⟨hm1, hm2⟩ := inB_iff.1 h2
  simp only at hk1 hk2 hR hRv
  have hk : ∀ bw bm, idxOf Offer.applies (waysL (lots.getD i Flat.dflt) who most bw bm) = 0 := fun bw bm => by
    generalize lots.getD i Flat.dflt = x at k0 ⊢
    simp only [waysL, idxOf, idxFrom, decide_eq_true_eq]
    rw [if_pos k0]
    try simp
    try rfl
  unfold bidR bidLot
  rw [if_pos k0]
  unfold hv at hls hos ⊢
  simp only at hls hos ⊢
  refine enterH Try.func15 rfl rfl Try.ntmps15 rfl (Wd.refl _) ?_
  (repeat' (first | (show VH _ _ _ _ _ _ _; first | refine v_seq ?_ | refine r_seq ?_ | refine v_block ?_ | refine v_skip ?_ | refine v_cond_f rfl tbL ?_) | (show SH _ _ _ _ _ (_ :: _) _ _ _; first | (refine gif rfl rfl ?_; refine giFF tbL ?_) | refine mov evL ?_ | refine asg evL ?_ | (show SH _ _ _ _ _ (⟨_, .binOp _ _ _ _ _, _, _, _, _⟩ :: _) _ _ _; first | refine eql rfl rfl ?_ | refine neq rfl rfl ?_) | (show SH _ _ _ _ _ (⟨_, .load _ _, _, _, _, _⟩ :: _) _ _ _; first | refine lbx rfl spL (by rfl) ?_ | refine lba rfl spL (by rfl) ?_ | refine lrf rfl (fun _ _ => rdL) (by rfl) omL (by rfl) ?_) | refine ix rfl rfl (by with_reducible rfl) (fun _ _ => rdL) (by rfl) omL omL ?_ | (show SH _ _ _ _ _ (⟨_, .call ⟨.value (.func 35), _, _⟩, _, _, _, _⟩ :: _) _ _ _; refine cl (callee := .func 35) rfl (fun w hw => hls _ (hr.ext hw.ext)) rfl rfl ?_) | (show SH _ _ _ _ _ (⟨_, .call ⟨.value (.func 31), _, _⟩, _, _, _, _⟩ :: _) _ _ _; refine cl (callee := .func 31) rfl (fun w hw => in1 w) rfl rfl ?_) | (show SH _ _ _ _ _ (⟨_, .call ⟨.value (.func 31), _, _⟩, _, _, _, _⟩ :: _) _ _ _; refine cl (callee := .func 31) rfl (fun w hw => in2 w) rfl rfl ?_) | (show SH _ _ _ _ _ (⟨_, .call ⟨.value (.func 33), _, _⟩, _, _, _, _⟩ :: _) _ _ _; refine cp (callee := .func 33) rfl (fun w hw => hos _ (hr.ext hw.ext)) rfl rfl ?_) | refine pkf rfl tbL evL ?_ | refine bnot rfl ?_ | refine extr rfl rfl ?_ | refine fad rfl ?_ | refine ala rfl (fun b => ?_) | refine bxx rfl evL rfl (fun b => ?_)) | refine s_nil ?_ | refine kh_normal ?_ | refine bh_normal ?_))
  rintro _ _ ⟨A1, c1, rfl, rfl⟩
  (repeat' (first | (show VH _ _ _ _ _ _ _; first | refine v_seq ?_ | refine r_seq ?_) | (show SH _ _ _ _ _ (_ :: _) _ _ _; first | refine mov evL ?_ | refine asg evL ?_ | (show SH _ _ _ _ _ (⟨_, .load _ _, _, _, _, _⟩ :: _) _ _ _; first | refine lbx rfl spL (by rfl) ?_ | refine lra rfl (fun _ _ => rdL) (by rfl) omL ?_) | refine ix rfl rfl (by with_reducible rfl) (fun _ _ => rdL) (by rfl) omL omL ?_ | (show SH _ _ _ _ _ (⟨_, .call ⟨.value (.func 36), _, _⟩, _, _, _, _⟩ :: _) _ _ _; refine cp (callee := .func 36) rfl (fun w hw => offers_spec _ who most w) rfl rfl ?_) | refine nlc rfl ?_ | refine fad rfl ?_ | refine sta rfl rfl rfl spL (by rfl) (by rfl) (by rfl) kpL ?_) | refine s_nil ?_ | refine kh_normal ?_))
  rintro _ _ ⟨bw, bm, rfl, rfl⟩
  (repeat' (first | (show VH _ _ _ _ _ _ _; first | refine v_seq ?_ | refine r_seq ?_) | (show SH _ _ _ _ _ (_ :: _) _ _ _; first | refine ala rfl (fun b => ?_) | refine sta rfl rfl rfl spL (by rfl) (by rfl) (by rfl) kpL ?_) | refine s_nil ?_ | refine kh_normal ?_))
  refine slN rfl ?_
  refine cl rfl (fun w hw => findOf_spec (some ⟨_, 0, none⟩) (waysL (lots.getD i Flat.dflt) who most bw bm) 4 _ Offer.applies w (by simp [waysL]) (rd_box hw spL) ⟨38, #[], #[], rfl, fun w' _ x _ => bid1_spec x w'⟩) rfl rfl ?_
  rw [hk]
  (repeat' (first | (show VH _ _ _ _ _ _ _; first | refine v_seq ?_ | refine r_seq ?_) | (show SH _ _ _ _ _ (_ :: _) _ _ _; first | refine mov evL ?_ | refine asg evL ?_ | refine extr rfl rfl ?_) | refine s_nil ?_ | refine kh_normal ?_))
  refine ixS rfl rfl (show (0 : Int) = ((0 : Nat) : Int) from rfl) (by decide) ?_
  (repeat' (first | (show VH _ _ _ _ _ _ _; first | refine v_seq ?_ | refine r_seq ?_ | refine v_ret ?_ | refine v_skip ?_ | refine v_cond_dec rfl (fun h => ?_) (fun h => ?_)) | (show SH _ _ _ _ _ (_ :: _) _ _ _; first | refine mov evL ?_ | refine asg evL ?_ | refine lbx rfl spL (by rfl) ?_ | refine fad rfl ?_ | refine bld rfl rfl ?_ | refine sta rfl rfl rfl spL (by rfl) (by rfl) (by rfl) kpL ?_) | refine s_nil ?_ | refine kh_normal ?_ | refine kh_ret ?_))
  · rw [if_pos h]; exact rhC3 rfl rfl rfl rfl rfl (fun w hw => loadVar_bx hw spL (by rfl)) ⟨none, 0, none, 0, rfl, rfl⟩ ent_res0
  rw [if_neg h]
  rename_i bh br
  refine ixS rfl rfl (show (0 : Int) = ((0 : Nat) : Int) from rfl) (by decide) ?_
  (repeat' ((show SH _ _ _ _ _ (_ :: _) _ _ _; first | refine mov evL ?_ | refine lbx rfl spL (by rfl) ?_ | refine fad rfl ?_)))
  refine cm rfl (fun w hw => offer1_spec A1 c1 i lots bw bm who most _ [bx bh 26 _, bx br 26 _] w hi (Ent.wd enL hw)) rfl rfl ?_
  rintro _ _ ⟨B, d, rfl, rfl⟩
  refine ⟨trivial, ?_⟩
  (repeat' (first | refine v_seq ?_ | refine asg evL ?_ | refine s_nil ?_ | refine kh_normal ?_))
  refine r_held [bx bh 26 _] [(0, true), (1, true), (2, true), (3, true), (5, true), (6, true), (7, true), (4, false), (8, false), (9, false), (10, false), (11, false)] hmix (by kernel_rfl) enL ?_
  (repeat' ((show SH _ _ _ _ _ (_ :: _) _ _ _; first | refine mov evL ?_ | refine add rfl rfl inL ?_ | refine lbx rfl spL (by rfl) ?_ | refine nlc rfl ?_ | refine fad rfl ?_)))
  have hi2 : i < (lots.set i { lots.getD i Flat.dflt with leader := who, most := most, price := (lots.getD i Flat.dflt).reserve }).length := by rw [List.length_set]; exact hi
  refine lrf rfl (fun w hw => hw.rd spL) rfl hi2 rfl ?_
  (repeat' ((show SH _ _ _ _ _ (_ :: _) _ _ _; first | refine bmax rfl rfl ?_ | refine nlc rfl ?_ | refine fad rfl ?_)))
  refine stf { lots.getD i Flat.dflt with leader := who, most := most, price := (lots.getD i Flat.dflt).reserve, till := max (lots.getD i Flat.dflt).till (tick + 20) } rfl rfl rfl spL rfl (by simpa using hi) rfl rfl (by decide) (by rw [lset_self hi]; rfl) enL ?_
  rw [List.set_set]
  (repeat' (first | (show VH _ _ _ _ _ _ _; first | refine v_seq ?_ | refine r_seq ?_ | refine v_ret ?_) | (show SH _ _ _ _ _ (_ :: _) _ _ _; first | refine mov evL ?_ | refine asg evL ?_ | refine lba rfl spL (by rfl) ?_ | refine sta rfl rfl rfl spL (by rfl) (by rfl) (by rfl) kpL ?_) | refine s_nil ?_ | refine kh_normal ?_))
  have hx : (Value.tuple #[.agg #[.int .i64 tick, .int .i64 last, .slice A1 lots.length c1], .slice B (movesN [⟨who, 0, 0, most⟩]).length d, .int .i64 0]) = .tuple #[hv A1 c1 ⟨tick, last, lots.set i { lots.getD i Flat.dflt with leader := who, most := most, price := (lots.getD i Flat.dflt).reserve, till := max (lots.getD i Flat.dflt).till (tick + 20) }⟩, .slice B (movesN [⟨who, 0, 0, most⟩]).length d, .int .i64 0] := by rw [hv, List.length_set]
  exact rhC3 rfl rfl rfl rfl rfl (fun w hw => loadVar_bx hw spL (by rfl)) ⟨A1, c1, B, d, hx, rfl⟩ enL

set_option maxHeartbeats 2000000 in
set_option maxRecDepth 100000 in
theorem bidW1_spec (A : Option Addr) (c0 : Nat) (tick last : Int) (lots : List Lot) (id who most : Int) (i : Nat) (w : World) (hl : lots.length ≤ 1000000) (hr : Rd w A lots) (hval : validH ⟨tick, last, lots⟩ = true)
    (hidx : idxL (fun l => decide (l.id = id)) lots = some i) (h1 : inB who 1 65536 = true) (h2 : inB most 1 2147483647 = true) (hsel : (lots.getD i Flat.dflt).seller ≠ who) (k0 : (lots.getD i Flat.dflt).leader ≠ 0) (k1 : (lots.getD i Flat.dflt).leader = who) :
    Ret Try.prog 15 [hv A c0 ⟨tick, last, lots⟩, .int .i64 id, .int .i64 who, .int .i64 most].toArray w (RP w (OutR (bidR tick last lots i who most))) := by
  have hls := fun w hr => lot_spec A c0 ⟨tick, last, lots⟩ id w hl hr
  simp only [lotF, hval, hidx, if_true] at hls
  have hos := fun w hr => own_spec A c0 ⟨tick, last, lots⟩ w hl hr
  have hi := (idxL_some hidx).1
  have in1 := h1 ▸ in_spec who 1 65536
  have in2 := h2 ▸ in_spec most 1 2147483647
  have hV := valid_iff.1 hval
  obtain ⟨hk1, hk2⟩ := hV.tick
  have hR := (hV.lot _ (getD_mem hi)).2.2.led
  have hRv := (hV.lot _ (getD_mem hi)).2.2.reserve
  obtain ⟨hm1, hm2⟩ := inB_iff.1 h2
  simp only at hk1 hk2 hR hRv
  have hk : ∀ bw bm, idxOf Offer.applies (waysL (lots.getD i Flat.dflt) who most bw bm) = 1 := fun bw bm => by
    generalize lots.getD i Flat.dflt = x at k0 k1 ⊢
    simp only [waysL, idxOf, idxFrom, decide_eq_true_eq]
    rw [if_neg k0, if_pos k1]
    try simp
    try rfl
  unfold bidR bidLot
  rw [if_neg k0, if_pos k1]
  unfold hv at hls hos ⊢
  simp only at hls hos ⊢
  refine enterH Try.func15 rfl rfl Try.ntmps15 rfl (Wd.refl _) ?_
  (repeat' (first | (show VH _ _ _ _ _ _ _; first | refine v_seq ?_ | refine r_seq ?_ | refine v_block ?_ | refine v_skip ?_ | refine v_cond_f rfl tbL ?_) | (show SH _ _ _ _ _ (_ :: _) _ _ _; first | (refine gif rfl rfl ?_; refine giFF tbL ?_) | refine mov evL ?_ | refine asg evL ?_ | (show SH _ _ _ _ _ (⟨_, .binOp _ _ _ _ _, _, _, _, _⟩ :: _) _ _ _; first | refine eql rfl rfl ?_ | refine neq rfl rfl ?_) | (show SH _ _ _ _ _ (⟨_, .load _ _, _, _, _, _⟩ :: _) _ _ _; first | refine lbx rfl spL (by rfl) ?_ | refine lba rfl spL (by rfl) ?_ | refine lrf rfl (fun _ _ => rdL) (by rfl) omL (by rfl) ?_) | refine ix rfl rfl (by with_reducible rfl) (fun _ _ => rdL) (by rfl) omL omL ?_ | (show SH _ _ _ _ _ (⟨_, .call ⟨.value (.func 35), _, _⟩, _, _, _, _⟩ :: _) _ _ _; refine cl (callee := .func 35) rfl (fun w hw => hls _ (hr.ext hw.ext)) rfl rfl ?_) | (show SH _ _ _ _ _ (⟨_, .call ⟨.value (.func 31), _, _⟩, _, _, _, _⟩ :: _) _ _ _; refine cl (callee := .func 31) rfl (fun w hw => in1 w) rfl rfl ?_) | (show SH _ _ _ _ _ (⟨_, .call ⟨.value (.func 31), _, _⟩, _, _, _, _⟩ :: _) _ _ _; refine cl (callee := .func 31) rfl (fun w hw => in2 w) rfl rfl ?_) | (show SH _ _ _ _ _ (⟨_, .call ⟨.value (.func 33), _, _⟩, _, _, _, _⟩ :: _) _ _ _; refine cp (callee := .func 33) rfl (fun w hw => hos _ (hr.ext hw.ext)) rfl rfl ?_) | refine pkf rfl tbL evL ?_ | refine bnot rfl ?_ | refine extr rfl rfl ?_ | refine fad rfl ?_ | refine ala rfl (fun b => ?_) | refine bxx rfl evL rfl (fun b => ?_)) | refine s_nil ?_ | refine kh_normal ?_ | refine bh_normal ?_))
  rintro _ _ ⟨A1, c1, rfl, rfl⟩
  (repeat' (first | (show VH _ _ _ _ _ _ _; first | refine v_seq ?_ | refine r_seq ?_) | (show SH _ _ _ _ _ (_ :: _) _ _ _; first | refine mov evL ?_ | refine asg evL ?_ | (show SH _ _ _ _ _ (⟨_, .load _ _, _, _, _, _⟩ :: _) _ _ _; first | refine lbx rfl spL (by rfl) ?_ | refine lra rfl (fun _ _ => rdL) (by rfl) omL ?_) | refine ix rfl rfl (by with_reducible rfl) (fun _ _ => rdL) (by rfl) omL omL ?_ | (show SH _ _ _ _ _ (⟨_, .call ⟨.value (.func 36), _, _⟩, _, _, _, _⟩ :: _) _ _ _; refine cp (callee := .func 36) rfl (fun w hw => offers_spec _ who most w) rfl rfl ?_) | refine nlc rfl ?_ | refine fad rfl ?_ | refine sta rfl rfl rfl spL (by rfl) (by rfl) (by rfl) kpL ?_) | refine s_nil ?_ | refine kh_normal ?_))
  rintro _ _ ⟨bw, bm, rfl, rfl⟩
  (repeat' (first | (show VH _ _ _ _ _ _ _; first | refine v_seq ?_ | refine r_seq ?_) | (show SH _ _ _ _ _ (_ :: _) _ _ _; first | refine ala rfl (fun b => ?_) | refine sta rfl rfl rfl spL (by rfl) (by rfl) (by rfl) kpL ?_) | refine s_nil ?_ | refine kh_normal ?_))
  refine slN rfl ?_
  refine cl rfl (fun w hw => findOf_spec (some ⟨_, 0, none⟩) (waysL (lots.getD i Flat.dflt) who most bw bm) 4 _ Offer.applies w (by simp [waysL]) (rd_box hw spL) ⟨38, #[], #[], rfl, fun w' _ x _ => bid1_spec x w'⟩) rfl rfl ?_
  rw [hk]
  (repeat' (first | (show VH _ _ _ _ _ _ _; first | refine v_seq ?_ | refine r_seq ?_) | (show SH _ _ _ _ _ (_ :: _) _ _ _; first | refine mov evL ?_ | refine asg evL ?_ | refine extr rfl rfl ?_) | refine s_nil ?_ | refine kh_normal ?_))
  refine ixS rfl rfl (show (1 : Int) = ((1 : Nat) : Int) from rfl) (by decide) ?_
  (repeat' (first | (show VH _ _ _ _ _ _ _; first | refine v_seq ?_ | refine r_seq ?_ | refine v_ret ?_ | refine v_skip ?_ | refine v_cond_dec rfl (fun h => ?_) (fun h => ?_)) | (show SH _ _ _ _ _ (_ :: _) _ _ _; first | refine mov evL ?_ | refine asg evL ?_ | refine lbx rfl spL (by rfl) ?_ | refine fad rfl ?_ | refine bld rfl rfl ?_ | refine sta rfl rfl rfl spL (by rfl) (by rfl) (by rfl) kpL ?_) | refine s_nil ?_ | refine kh_normal ?_ | refine kh_ret ?_))
  · rw [if_pos h]; exact rhC3 rfl rfl rfl rfl rfl (fun w hw => loadVar_bx hw spL (by rfl)) ⟨none, 0, none, 0, rfl, rfl⟩ ent_res0
  rw [if_neg h]
  rename_i bh br
  refine ixS rfl rfl (show (1 : Int) = ((1 : Nat) : Int) from rfl) (by decide) ?_
  (repeat' ((show SH _ _ _ _ _ (_ :: _) _ _ _; first | refine mov evL ?_ | refine lbx rfl spL (by rfl) ?_ | refine fad rfl ?_)))
  refine cm rfl (fun w hw => offer2_spec A1 c1 i lots bw bm who most _ [bx bh 26 _, bx br 26 _] w hi (by omega) (by omega) (Ent.wd enL hw)) rfl rfl ?_
  rintro _ _ ⟨B, d, rfl, rfl⟩
  refine ⟨trivial, ?_⟩
  (repeat' (first | refine v_seq ?_ | refine asg evL ?_ | refine s_nil ?_ | refine kh_normal ?_))
  refine r_held [bx bh 26 _] [(0, true), (1, true), (2, true), (3, true), (5, true), (6, true), (7, true), (4, false), (8, false), (9, false), (10, false), (11, false)] hmix (by kernel_rfl) enL ?_
  (repeat' ((show SH _ _ _ _ _ (_ :: _) _ _ _; first | refine mov evL ?_ | refine add rfl rfl inL ?_ | refine lbx rfl spL (by rfl) ?_ | refine nlc rfl ?_ | refine fad rfl ?_)))
  have hi2 : i < (lots.set i { lots.getD i Flat.dflt with most := most }).length := by rw [List.length_set]; exact hi
  refine lrf rfl (fun w hw => hw.rd spL) rfl hi2 rfl ?_
  (repeat' ((show SH _ _ _ _ _ (_ :: _) _ _ _; first | refine bmax rfl rfl ?_ | refine nlc rfl ?_ | refine fad rfl ?_)))
  refine stf { lots.getD i Flat.dflt with most := most, till := max (lots.getD i Flat.dflt).till (tick + 20) } rfl rfl rfl spL rfl (by simpa using hi) rfl rfl (by decide) (by rw [lset_self hi]; rfl) enL ?_
  rw [List.set_set]
  (repeat' (first | (show VH _ _ _ _ _ _ _; first | refine v_seq ?_ | refine r_seq ?_ | refine v_ret ?_) | (show SH _ _ _ _ _ (_ :: _) _ _ _; first | refine mov evL ?_ | refine asg evL ?_ | refine lba rfl spL (by rfl) ?_ | refine sta rfl rfl rfl spL (by rfl) (by rfl) (by rfl) kpL ?_) | refine s_nil ?_ | refine kh_normal ?_))
  have hx : (Value.tuple #[.agg #[.int .i64 tick, .int .i64 last, .slice A1 lots.length c1], .slice B (movesN [⟨who, 0, 0, most - (lots.getD i Flat.dflt).most⟩]).length d, .int .i64 0]) = .tuple #[hv A1 c1 ⟨tick, last, lots.set i { lots.getD i Flat.dflt with most := most, till := max (lots.getD i Flat.dflt).till (tick + 20) }⟩, .slice B (movesN [⟨who, 0, 0, most - (lots.getD i Flat.dflt).most⟩]).length d, .int .i64 0] := by rw [hv, List.length_set]
  exact rhC3 rfl rfl rfl rfl rfl (fun w hw => loadVar_bx hw spL (by rfl)) ⟨A1, c1, B, d, hx, rfl⟩ enL

set_option maxHeartbeats 2000000 in
set_option maxRecDepth 100000 in
theorem bidW2_spec (A : Option Addr) (c0 : Nat) (tick last : Int) (lots : List Lot) (id who most : Int) (i : Nat) (w : World) (hl : lots.length ≤ 1000000) (hr : Rd w A lots) (hval : validH ⟨tick, last, lots⟩ = true)
    (hidx : idxL (fun l => decide (l.id = id)) lots = some i) (h1 : inB who 1 65536 = true) (h2 : inB most 1 2147483647 = true) (hsel : (lots.getD i Flat.dflt).seller ≠ who) (k0 : (lots.getD i Flat.dflt).leader ≠ 0) (k1 : (lots.getD i Flat.dflt).leader ≠ who) (k2 : (lots.getD i Flat.dflt).most < most) :
    Ret Try.prog 15 [hv A c0 ⟨tick, last, lots⟩, .int .i64 id, .int .i64 who, .int .i64 most].toArray w (RP w (OutR (bidR tick last lots i who most))) := by
  have hls := fun w hr => lot_spec A c0 ⟨tick, last, lots⟩ id w hl hr
  simp only [lotF, hval, hidx, if_true] at hls
  have hos := fun w hr => own_spec A c0 ⟨tick, last, lots⟩ w hl hr
  have hi := (idxL_some hidx).1
  have in1 := h1 ▸ in_spec who 1 65536
  have in2 := h2 ▸ in_spec most 1 2147483647
  have hV := valid_iff.1 hval
  obtain ⟨hk1, hk2⟩ := hV.tick
  have hR := (hV.lot _ (getD_mem hi)).2.2.led
  have hRv := (hV.lot _ (getD_mem hi)).2.2.reserve
  obtain ⟨hm1, hm2⟩ := inB_iff.1 h2
  simp only at hk1 hk2 hR hRv
  have hk : ∀ bw bm, idxOf Offer.applies (waysL (lots.getD i Flat.dflt) who most bw bm) = 2 := fun bw bm => by
    generalize lots.getD i Flat.dflt = x at k0 k1 k2 ⊢
    simp only [waysL, idxOf, idxFrom, decide_eq_true_eq]
    rw [if_neg k0, if_neg k1, if_pos k2]
    try simp
    try rfl
  unfold bidR bidLot
  rw [if_neg k0, if_neg k1, if_pos k2]
  unfold hv at hls hos ⊢
  simp only at hls hos ⊢
  refine enterH Try.func15 rfl rfl Try.ntmps15 rfl (Wd.refl _) ?_
  (repeat' (first | (show VH _ _ _ _ _ _ _; first | refine v_seq ?_ | refine r_seq ?_ | refine v_block ?_ | refine v_skip ?_ | refine v_cond_f rfl tbL ?_) | (show SH _ _ _ _ _ (_ :: _) _ _ _; first | (refine gif rfl rfl ?_; refine giFF tbL ?_) | refine mov evL ?_ | refine asg evL ?_ | (show SH _ _ _ _ _ (⟨_, .binOp _ _ _ _ _, _, _, _, _⟩ :: _) _ _ _; first | refine eql rfl rfl ?_ | refine neq rfl rfl ?_) | (show SH _ _ _ _ _ (⟨_, .load _ _, _, _, _, _⟩ :: _) _ _ _; first | refine lbx rfl spL (by rfl) ?_ | refine lba rfl spL (by rfl) ?_ | refine lrf rfl (fun _ _ => rdL) (by rfl) omL (by rfl) ?_) | refine ix rfl rfl (by with_reducible rfl) (fun _ _ => rdL) (by rfl) omL omL ?_ | (show SH _ _ _ _ _ (⟨_, .call ⟨.value (.func 35), _, _⟩, _, _, _, _⟩ :: _) _ _ _; refine cl (callee := .func 35) rfl (fun w hw => hls _ (hr.ext hw.ext)) rfl rfl ?_) | (show SH _ _ _ _ _ (⟨_, .call ⟨.value (.func 31), _, _⟩, _, _, _, _⟩ :: _) _ _ _; refine cl (callee := .func 31) rfl (fun w hw => in1 w) rfl rfl ?_) | (show SH _ _ _ _ _ (⟨_, .call ⟨.value (.func 31), _, _⟩, _, _, _, _⟩ :: _) _ _ _; refine cl (callee := .func 31) rfl (fun w hw => in2 w) rfl rfl ?_) | (show SH _ _ _ _ _ (⟨_, .call ⟨.value (.func 33), _, _⟩, _, _, _, _⟩ :: _) _ _ _; refine cp (callee := .func 33) rfl (fun w hw => hos _ (hr.ext hw.ext)) rfl rfl ?_) | refine pkf rfl tbL evL ?_ | refine bnot rfl ?_ | refine extr rfl rfl ?_ | refine fad rfl ?_ | refine ala rfl (fun b => ?_) | refine bxx rfl evL rfl (fun b => ?_)) | refine s_nil ?_ | refine kh_normal ?_ | refine bh_normal ?_))
  rintro _ _ ⟨A1, c1, rfl, rfl⟩
  (repeat' (first | (show VH _ _ _ _ _ _ _; first | refine v_seq ?_ | refine r_seq ?_) | (show SH _ _ _ _ _ (_ :: _) _ _ _; first | refine mov evL ?_ | refine asg evL ?_ | (show SH _ _ _ _ _ (⟨_, .load _ _, _, _, _, _⟩ :: _) _ _ _; first | refine lbx rfl spL (by rfl) ?_ | refine lra rfl (fun _ _ => rdL) (by rfl) omL ?_) | refine ix rfl rfl (by with_reducible rfl) (fun _ _ => rdL) (by rfl) omL omL ?_ | (show SH _ _ _ _ _ (⟨_, .call ⟨.value (.func 36), _, _⟩, _, _, _, _⟩ :: _) _ _ _; refine cp (callee := .func 36) rfl (fun w hw => offers_spec _ who most w) rfl rfl ?_) | refine nlc rfl ?_ | refine fad rfl ?_ | refine sta rfl rfl rfl spL (by rfl) (by rfl) (by rfl) kpL ?_) | refine s_nil ?_ | refine kh_normal ?_))
  rintro _ _ ⟨bw, bm, rfl, rfl⟩
  (repeat' (first | (show VH _ _ _ _ _ _ _; first | refine v_seq ?_ | refine r_seq ?_) | (show SH _ _ _ _ _ (_ :: _) _ _ _; first | refine ala rfl (fun b => ?_) | refine sta rfl rfl rfl spL (by rfl) (by rfl) (by rfl) kpL ?_) | refine s_nil ?_ | refine kh_normal ?_))
  refine slN rfl ?_
  refine cl rfl (fun w hw => findOf_spec (some ⟨_, 0, none⟩) (waysL (lots.getD i Flat.dflt) who most bw bm) 4 _ Offer.applies w (by simp [waysL]) (rd_box hw spL) ⟨38, #[], #[], rfl, fun w' _ x _ => bid1_spec x w'⟩) rfl rfl ?_
  rw [hk]
  (repeat' (first | (show VH _ _ _ _ _ _ _; first | refine v_seq ?_ | refine r_seq ?_) | (show SH _ _ _ _ _ (_ :: _) _ _ _; first | refine mov evL ?_ | refine asg evL ?_ | refine extr rfl rfl ?_) | refine s_nil ?_ | refine kh_normal ?_))
  refine ixS rfl rfl (show (2 : Int) = ((2 : Nat) : Int) from rfl) (by decide) ?_
  (repeat' (first | (show VH _ _ _ _ _ _ _; first | refine v_seq ?_ | refine r_seq ?_ | refine v_skip ?_ | refine v_cond_f rfl tbL ?_) | (show SH _ _ _ _ _ (_ :: _) _ _ _; first | refine mov evL ?_ | refine lbx rfl spL (by rfl) ?_ | refine fad rfl ?_) | refine s_nil ?_ | refine kh_normal ?_))
  rename_i bh br
  refine ixS rfl rfl (show (2 : Int) = ((2 : Nat) : Int) from rfl) (by decide) ?_
  (repeat' ((show SH _ _ _ _ _ (_ :: _) _ _ _; first | refine mov evL ?_ | refine lbx rfl spL (by rfl) ?_ | refine fad rfl ?_)))
  refine cm rfl (fun w hw => offer3_spec A1 c1 i lots bw bm who most _ [bx bh 26 _, bx br 26 _] w hi (Ent.wd enL hw)) rfl rfl ?_
  rintro _ _ ⟨B, d, rfl, rfl⟩
  refine ⟨trivial, ?_⟩
  (repeat' (first | refine v_seq ?_ | refine asg evL ?_ | refine s_nil ?_ | refine kh_normal ?_))
  refine r_held [bx bh 26 _] [(0, true), (1, true), (2, true), (3, true), (5, true), (6, true), (7, true), (4, false), (8, false), (9, false), (10, false), (11, false)] hmix (by kernel_rfl) enL ?_
  (repeat' ((show SH _ _ _ _ _ (_ :: _) _ _ _; first | refine mov evL ?_ | refine add rfl rfl inL ?_ | refine lbx rfl spL (by rfl) ?_ | refine nlc rfl ?_ | refine fad rfl ?_)))
  have hi2 : i < (lots.set i { lots.getD i Flat.dflt with leader := who, most := most, price := min most (nextP (lots.getD i Flat.dflt).most) }).length := by rw [List.length_set]; exact hi
  refine lrf rfl (fun w hw => hw.rd spL) rfl hi2 rfl ?_
  (repeat' ((show SH _ _ _ _ _ (_ :: _) _ _ _; first | refine bmax rfl rfl ?_ | refine nlc rfl ?_ | refine fad rfl ?_)))
  refine stf { lots.getD i Flat.dflt with leader := who, most := most, price := min most (nextP (lots.getD i Flat.dflt).most), till := max (lots.getD i Flat.dflt).till (tick + 20) } rfl rfl rfl spL rfl (by simpa using hi) rfl rfl (by decide) (by rw [lset_self hi]; rfl) enL ?_
  rw [List.set_set]
  (repeat' (first | (show VH _ _ _ _ _ _ _; first | refine v_seq ?_ | refine r_seq ?_ | refine v_ret ?_) | (show SH _ _ _ _ _ (_ :: _) _ _ _; first | refine mov evL ?_ | refine asg evL ?_ | refine lba rfl spL (by rfl) ?_ | refine sta rfl rfl rfl spL (by rfl) (by rfl) (by rfl) kpL ?_) | refine s_nil ?_ | refine kh_normal ?_))
  have hx : (Value.tuple #[.agg #[.int .i64 tick, .int .i64 last, .slice A1 lots.length c1], .slice B (movesN [⟨who, 0, 0, most⟩, ⟨0, (lots.getD i Flat.dflt).leader, 0, (lots.getD i Flat.dflt).most⟩]).length d, .int .i64 0]) = .tuple #[hv A1 c1 ⟨tick, last, lots.set i { lots.getD i Flat.dflt with leader := who, most := most, price := min most (nextP (lots.getD i Flat.dflt).most), till := max (lots.getD i Flat.dflt).till (tick + 20) }⟩, .slice B (movesN [⟨who, 0, 0, most⟩, ⟨0, (lots.getD i Flat.dflt).leader, 0, (lots.getD i Flat.dflt).most⟩]).length d, .int .i64 0] := by rw [hv, List.length_set]
  exact rhC3 rfl rfl rfl rfl rfl (fun w hw => loadVar_bx hw spL (by rfl)) ⟨A1, c1, B, d, hx, rfl⟩ enL

set_option maxHeartbeats 2000000 in
set_option maxRecDepth 100000 in
theorem bidW3_spec (A : Option Addr) (c0 : Nat) (tick last : Int) (lots : List Lot) (id who most : Int) (i : Nat) (w : World) (hl : lots.length ≤ 1000000) (hr : Rd w A lots) (hval : validH ⟨tick, last, lots⟩ = true)
    (hidx : idxL (fun l => decide (l.id = id)) lots = some i) (h1 : inB who 1 65536 = true) (h2 : inB most 1 2147483647 = true) (hsel : (lots.getD i Flat.dflt).seller ≠ who) (k0 : (lots.getD i Flat.dflt).leader ≠ 0) (k1 : (lots.getD i Flat.dflt).leader ≠ who) (k2 : ¬ (lots.getD i Flat.dflt).most < most) :
    Ret Try.prog 15 [hv A c0 ⟨tick, last, lots⟩, .int .i64 id, .int .i64 who, .int .i64 most].toArray w (RP w (OutR (bidR tick last lots i who most))) := by
  have hls := fun w hr => lot_spec A c0 ⟨tick, last, lots⟩ id w hl hr
  simp only [lotF, hval, hidx, if_true] at hls
  have hos := fun w hr => own_spec A c0 ⟨tick, last, lots⟩ w hl hr
  have hi := (idxL_some hidx).1
  have in1 := h1 ▸ in_spec who 1 65536
  have in2 := h2 ▸ in_spec most 1 2147483647
  have hV := valid_iff.1 hval
  obtain ⟨hk1, hk2⟩ := hV.tick
  have hR := (hV.lot _ (getD_mem hi)).2.2.led
  have hRv := (hV.lot _ (getD_mem hi)).2.2.reserve
  obtain ⟨hm1, hm2⟩ := inB_iff.1 h2
  simp only at hk1 hk2 hR hRv
  have hk : ∀ bw bm, idxOf Offer.applies (waysL (lots.getD i Flat.dflt) who most bw bm) = 3 := fun bw bm => by
    generalize lots.getD i Flat.dflt = x at k0 k1 k2 ⊢
    simp only [waysL, idxOf, idxFrom, decide_eq_true_eq]
    rw [if_neg k0, if_neg k1, if_neg k2]
    try simp
    try rfl
  unfold bidR bidLot
  rw [if_neg k0, if_neg k1, if_neg k2]
  unfold hv at hls hos ⊢
  simp only at hls hos ⊢
  refine enterH Try.func15 rfl rfl Try.ntmps15 rfl (Wd.refl _) ?_
  (repeat' (first | (show VH _ _ _ _ _ _ _; first | refine v_seq ?_ | refine r_seq ?_ | refine v_block ?_ | refine v_skip ?_ | refine v_cond_f rfl tbL ?_) | (show SH _ _ _ _ _ (_ :: _) _ _ _; first | (refine gif rfl rfl ?_; refine giFF tbL ?_) | refine mov evL ?_ | refine asg evL ?_ | (show SH _ _ _ _ _ (⟨_, .binOp _ _ _ _ _, _, _, _, _⟩ :: _) _ _ _; first | refine eql rfl rfl ?_ | refine neq rfl rfl ?_) | (show SH _ _ _ _ _ (⟨_, .load _ _, _, _, _, _⟩ :: _) _ _ _; first | refine lbx rfl spL (by rfl) ?_ | refine lba rfl spL (by rfl) ?_ | refine lrf rfl (fun _ _ => rdL) (by rfl) omL (by rfl) ?_) | refine ix rfl rfl (by with_reducible rfl) (fun _ _ => rdL) (by rfl) omL omL ?_ | (show SH _ _ _ _ _ (⟨_, .call ⟨.value (.func 35), _, _⟩, _, _, _, _⟩ :: _) _ _ _; refine cl (callee := .func 35) rfl (fun w hw => hls _ (hr.ext hw.ext)) rfl rfl ?_) | (show SH _ _ _ _ _ (⟨_, .call ⟨.value (.func 31), _, _⟩, _, _, _, _⟩ :: _) _ _ _; refine cl (callee := .func 31) rfl (fun w hw => in1 w) rfl rfl ?_) | (show SH _ _ _ _ _ (⟨_, .call ⟨.value (.func 31), _, _⟩, _, _, _, _⟩ :: _) _ _ _; refine cl (callee := .func 31) rfl (fun w hw => in2 w) rfl rfl ?_) | (show SH _ _ _ _ _ (⟨_, .call ⟨.value (.func 33), _, _⟩, _, _, _, _⟩ :: _) _ _ _; refine cp (callee := .func 33) rfl (fun w hw => hos _ (hr.ext hw.ext)) rfl rfl ?_) | refine pkf rfl tbL evL ?_ | refine bnot rfl ?_ | refine extr rfl rfl ?_ | refine fad rfl ?_ | refine ala rfl (fun b => ?_) | refine bxx rfl evL rfl (fun b => ?_)) | refine s_nil ?_ | refine kh_normal ?_ | refine bh_normal ?_))
  rintro _ _ ⟨A1, c1, rfl, rfl⟩
  (repeat' (first | (show VH _ _ _ _ _ _ _; first | refine v_seq ?_ | refine r_seq ?_) | (show SH _ _ _ _ _ (_ :: _) _ _ _; first | refine mov evL ?_ | refine asg evL ?_ | (show SH _ _ _ _ _ (⟨_, .load _ _, _, _, _, _⟩ :: _) _ _ _; first | refine lbx rfl spL (by rfl) ?_ | refine lra rfl (fun _ _ => rdL) (by rfl) omL ?_) | refine ix rfl rfl (by with_reducible rfl) (fun _ _ => rdL) (by rfl) omL omL ?_ | (show SH _ _ _ _ _ (⟨_, .call ⟨.value (.func 36), _, _⟩, _, _, _, _⟩ :: _) _ _ _; refine cp (callee := .func 36) rfl (fun w hw => offers_spec _ who most w) rfl rfl ?_) | refine nlc rfl ?_ | refine fad rfl ?_ | refine sta rfl rfl rfl spL (by rfl) (by rfl) (by rfl) kpL ?_) | refine s_nil ?_ | refine kh_normal ?_))
  rintro _ _ ⟨bw, bm, rfl, rfl⟩
  (repeat' (first | (show VH _ _ _ _ _ _ _; first | refine v_seq ?_ | refine r_seq ?_) | (show SH _ _ _ _ _ (_ :: _) _ _ _; first | refine ala rfl (fun b => ?_) | refine sta rfl rfl rfl spL (by rfl) (by rfl) (by rfl) kpL ?_) | refine s_nil ?_ | refine kh_normal ?_))
  refine slN rfl ?_
  refine cl rfl (fun w hw => findOf_spec (some ⟨_, 0, none⟩) (waysL (lots.getD i Flat.dflt) who most bw bm) 4 _ Offer.applies w (by simp [waysL]) (rd_box hw spL) ⟨38, #[], #[], rfl, fun w' _ x _ => bid1_spec x w'⟩) rfl rfl ?_
  rw [hk]
  (repeat' (first | (show VH _ _ _ _ _ _ _; first | refine v_seq ?_ | refine r_seq ?_) | (show SH _ _ _ _ _ (_ :: _) _ _ _; first | refine mov evL ?_ | refine asg evL ?_ | refine extr rfl rfl ?_) | refine s_nil ?_ | refine kh_normal ?_))
  refine ixS rfl rfl (show (3 : Int) = ((3 : Nat) : Int) from rfl) (by decide) ?_
  (repeat' (first | (show VH _ _ _ _ _ _ _; first | refine v_seq ?_ | refine r_seq ?_ | refine v_ret ?_ | refine v_skip ?_ | refine v_cond_dec rfl (fun h => ?_) (fun h => ?_)) | (show SH _ _ _ _ _ (_ :: _) _ _ _; first | refine mov evL ?_ | refine asg evL ?_ | refine lbx rfl spL (by rfl) ?_ | refine fad rfl ?_ | refine bld rfl rfl ?_ | refine sta rfl rfl rfl spL (by rfl) (by rfl) (by rfl) kpL ?_) | refine s_nil ?_ | refine kh_normal ?_ | refine kh_ret ?_))
  · rw [if_pos h]; exact rhC3 rfl rfl rfl rfl rfl (fun w hw => loadVar_bx hw spL (by rfl)) ⟨none, 0, none, 0, rfl, rfl⟩ ent_res0
  rw [if_neg h]
  rename_i bh br
  refine ixS rfl rfl (show (3 : Int) = ((3 : Nat) : Int) from rfl) (by decide) ?_
  (repeat' ((show SH _ _ _ _ _ (_ :: _) _ _ _; first | refine mov evL ?_ | refine lbx rfl spL (by rfl) ?_ | refine fad rfl ?_)))
  refine cm rfl (fun w hw => offer4_spec A1 c1 i lots bm most _ [bx bh 26 _, bx br 26 _] w hi (Ent.wd enL hw)) rfl rfl ?_
  rintro _ _ ⟨rfl, rfl⟩
  refine ⟨trivial, ?_⟩
  (repeat' (first | refine v_seq ?_ | refine asg evL ?_ | refine s_nil ?_ | refine kh_normal ?_))
  refine r_held [bx bh 26 _] [(0, true), (1, true), (2, true), (3, true), (5, true), (6, true), (7, true), (4, false), (8, false), (9, false), (10, false), (11, false)] hmix (by kernel_rfl) enL ?_
  (repeat' ((show SH _ _ _ _ _ (_ :: _) _ _ _; first | refine mov evL ?_ | refine add rfl rfl inL ?_ | refine lbx rfl spL (by rfl) ?_ | refine nlc rfl ?_ | refine fad rfl ?_)))
  have hi2 : i < (lots.set i { lots.getD i Flat.dflt with price := min (lots.getD i Flat.dflt).most (nextP most) }).length := by rw [List.length_set]; exact hi
  refine lrf rfl (fun w hw => hw.rd spL) rfl hi2 rfl ?_
  (repeat' ((show SH _ _ _ _ _ (_ :: _) _ _ _; first | refine bmax rfl rfl ?_ | refine nlc rfl ?_ | refine fad rfl ?_)))
  refine stf { lots.getD i Flat.dflt with price := min (lots.getD i Flat.dflt).most (nextP most), till := max (lots.getD i Flat.dflt).till (tick + 20) } rfl rfl rfl spL rfl (by simpa using hi) rfl rfl (by decide) (by rw [lset_self hi]; rfl) enL ?_
  rw [List.set_set]
  (repeat' (first | (show VH _ _ _ _ _ _ _; first | refine v_seq ?_ | refine r_seq ?_ | refine v_ret ?_) | (show SH _ _ _ _ _ (_ :: _) _ _ _; first | refine mov evL ?_ | refine asg evL ?_ | refine lba rfl spL (by rfl) ?_ | refine sta rfl rfl rfl spL (by rfl) (by rfl) (by rfl) kpL ?_) | refine s_nil ?_ | refine kh_normal ?_))
  have hx : (Value.tuple #[.agg #[.int .i64 tick, .int .i64 last, .slice A1 lots.length c1], .slice none 0 0, .int .i64 0]) = .tuple #[hv A1 c1 ⟨tick, last, lots.set i { lots.getD i Flat.dflt with price := min (lots.getD i Flat.dflt).most (nextP most), till := max (lots.getD i Flat.dflt).till (tick + 20) }⟩, .slice none 0 0, .int .i64 0] := by rw [hv, List.length_set]
  exact rhC3 rfl rfl rfl rfl rfl (fun w hw => loadVar_bx hw spL (by rfl)) ⟨A1, c1, none, 0, hx, rfl⟩ enL

end Go.Proofs.Ytehjdbgijibmcaa
