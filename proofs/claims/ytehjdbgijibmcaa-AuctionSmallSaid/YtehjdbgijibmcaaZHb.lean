/- The reference of layer 34: find, lesser, without, Open, Cancel. -/
import Derived.Test.YtehjdbgijibmcaaZHa
import Derived.Test.YtehjdbgijibmcaaZAk
import Derived.Test.YtehjdbgijibmcaaZVa
import Derived.Test.YtehjdbgijibmcaaZHv
set_option linter.unusedSimpArgs false
set_option linter.unusedVariables false
namespace Go.Proofs.Ytehjdbgijibmcaa
open Go.Fw Go.RowKit
def OutRR (r : Res) (v : Value) (H : List HP) : Prop := ∃ A c B d, v = .tuple #[hv A c r.1, .slice B r.2.1.length d, .int .i64 r.2.2] ∧ H = [orow 61 A c r.1.lots, orow 100 B d r.2.1]
theorem ent_res0R {H : List HP} : Ent H [orow 61 none 0 house0.lots, orow 100 none 0 ([] : List Mv)] := ent_nilrow (ent_nilrow (ent_nil _))
def idxI (p : Lot → Bool) (l : List Lot) : Int := match idxL p l with | none => -1 | some i => (i : Int)
theorem idxL_step {p : Lot → Bool} {l : List Lot} {k : Nat} (hk : k < l.length) (h : p (l.getD k Flat.dflt) = false) : (idxL p (l.drop k)).map (· + k) = (idxL p (l.drop (k + 1))).map (· + (k + 1)) := by
  rw [drop_cons (d := Flat.dflt) hk, idxL, if_neg (by rw [h]; simp)]
  cases idxL p (l.drop (k + 1)) with
  | none => rfl
  | some i => simp only [Option.map_some]; congr 1; omega
set_option maxHeartbeats 1000000 in
set_option maxRecDepth 100000 in
theorem rFind_spec (A : Option Addr) (cp : Nat) (h : House) (id : Int) (w : World) (hl : h.lots.length ≤ 1000000) (hr : Rd w A h.lots) :
    Ret Try.prog 69 [hv A cp h, .int .i64 id].toArray w (Out w (.int .i64 (idxI (fun l => decide (l.id = id)) h.lots))) := by
  obtain ⟨tick, last, lots⟩ := h
  unfold hv idxI
  simp only at hl hr ⊢
  refine enterH Try.func69 rfl rfl Try.ntmps69 rfl (Wd.refl _) ?_
  (repeat' (first | (show VH _ _ _ _ _ _ _; first | refine v_seq ?_ | refine r_seq ?_ | refine v_block ?_) | (show SH _ _ _ _ _ (_ :: _) _ _ _; first | refine asg evL ?_ | refine bxx rfl evL rfl (fun b => ?_)) | refine s_nil ?_ | refine kh_normal ?_))
  refine v_loop0 [(4,21)] (fun k : Nat => [(5, .int .i64 k)]) (fun k => k ≤ lots.length ∧ (idxL (fun l => decide (l.id = id)) (lots.drop k)).map (· + k) = idxL (fun l => decide (l.id = id)) lots) (fun k => lots.length - k) 0 hsL ⟨Nat.zero_le _, by simp⟩ ?_
  rintro k g ⟨hk, hv⟩
  simp only [sets]
  by_cases hkl : k < lots.length
  · by_cases he : (lots.getD k Flat.dflt).id = id
    · rw [drop_cons (d := Flat.dflt) hkl, idxL, if_pos (by simpa using he), Option.map_some, Nat.zero_add] at hv
      rw [← hv]
      (repeat' (first | (show VH _ _ _ _ _ _ _; first | refine v_seq ?_ | refine r_seq ?_ | refine v_block ?_ | refine v_ret ?_ | refine v_skip ?_ | refine v_cond_t rfl tbL ?_) | (show SH _ _ _ _ _ (_ :: _) _ _ _; first | refine mov evL ?_ | refine asg evL ?_ | (show SH _ _ _ _ _ (⟨_, .binOp _ _ _ _ _, _, _, _, _⟩ :: _) _ _ _; first | refine lssT rfl rfl omD ?_ | refine eqlT rfl rfl omD ?_) | (show SH _ _ _ _ _ (⟨_, .load _ _, _, _, _, _⟩ :: _) _ _ _; first | refine lbx rfl spL (by rfl) ?_ | refine lrf rfl (fun _ _ => rdL) (by rfl) omL (by rfl) ?_) | refine ix rfl rfl (by with_reducible rfl) (fun _ _ => rdL) (by rfl) omL omL ?_ | refine slen rfl ?_ | refine fad rfl ?_) | refine s_nil ?_ | refine kh_normal ?_ | refine kh_ret ?_ | refine bh_ret ?_))
      exact rh1 rfl rfl ⟨rfl, rfl⟩ (ent_nil _)
    · rw [idxL_step hkl (by simpa using he)] at hv
      (repeat' (first | (show VH _ _ _ _ _ _ _; first | refine v_seq ?_ | refine r_seq ?_ | refine v_block ?_ | refine v_skip ?_ | refine v_cond_t rfl tbL ?_ | refine v_cond_f rfl tbL ?_) | (show SH _ _ _ _ _ (_ :: _) _ _ _; first | refine mov evL ?_ | refine asg evL ?_ | (show SH _ _ _ _ _ (⟨_, .binOp _ _ _ _ _, _, _, _, _⟩ :: _) _ _ _; first | refine lssT rfl rfl omD ?_ | refine eqlF rfl rfl omD ?_ | refine add rfl rfl inL ?_) | (show SH _ _ _ _ _ (⟨_, .load _ _, _, _, _, _⟩ :: _) _ _ _; first | refine lbx rfl spL (by rfl) ?_ | refine lrf rfl (fun _ _ => rdL) (by rfl) omL (by rfl) ?_) | refine ix rfl rfl (by with_reducible rfl) (fun _ _ => rdL) (by rfl) omL omL ?_ | refine slen rfl ?_ | refine fad rfl ?_) | refine s_nil ?_ | refine kh_normal ?_ | refine bh_normal ?_))
      exact ⟨agL, k + 1, hsL, enL, ⟨hkl, hv⟩, by show _ - (k + 1) < _ - k; omega⟩
  · rw [List.drop_of_length_le (by omega), idxL, Option.map_none] at hv
    rw [← hv]
    (repeat' (first | (show VH _ _ _ _ _ _ _; first | refine v_seq ?_ | refine r_seq ?_ | refine v_ret ?_ | refine v_exit ?_ | refine v_cond_f rfl tbL ?_) | (show SH _ _ _ _ _ (_ :: _) _ _ _; first | refine mov evL ?_ | refine asg evL ?_ | refine lssF rfl rfl omD ?_ | refine lbx rfl spL (by rfl) ?_ | refine slen rfl ?_ | refine fad rfl ?_) | refine s_nil ?_ | refine kh_normal ?_ | refine kh_exit ?_ | refine bh_exit ?_))
    exact rh1 rfl rfl ⟨rfl, rfl⟩ (ent_nil _)
theorem rLesser_spec (a b : Int) (w : World) : Ret Try.prog 70 [.int .i64 a, .int .i64 b].toArray w (Out w (.int .i64 (min a b))) := by
  refine enterH Try.func70 rfl rfl Try.ntmps70 rfl (Wd.refl _) ?_
  (repeat' (first | (show VH _ _ _ _ _ _ _; first | refine v_seq ?_ | refine r_seq ?_ | refine v_ret ?_ | refine v_skip ?_ | refine v_cond_dec rfl (fun h => ?_) (fun h => ?_)) | (show SH _ _ _ _ _ (_ :: _) _ _ _; first | refine mov evL ?_ | refine asg evL ?_ | refine lss rfl rfl ?_) | refine s_nil ?_ | refine kh_normal ?_ | refine kh_ret ?_))
  all_goals exact rh1 rfl rfl ⟨congrArg (Value.int .i64) (by omega), rfl⟩ (ent_nil _)
set_option maxHeartbeats 1000000 in
set_option maxRecDepth 100000 in
theorem rWithout_spec (A : Option Addr) (cp : Nat) (h : House) (i : Nat) (w : World) (hi : i < h.lots.length) (hl : h.lots.length ≤ 100000) (hc : h.lots.length ≤ cp) (hr : Rd w A h.lots) :
    Ret Try.prog 71 [hv A cp h, .int .i64 (i : Int)].toArray w (RP w fun v H' => ∃ A' c', v = hv A' c' ⟨h.tick, h.last, h.lots.eraseIdx i⟩ ∧ H' = [orow 61 A' c' (h.lots.eraseIdx i)]) := by
  obtain ⟨tick, last, lots⟩ := h
  unfold hv
  simp only at hi hl hc hr ⊢
  rw [List.eraseIdx_eq_take_drop_succ]
  have hr1 : Rd w A (lots.take i) := rd_pre hr (List.take_prefix _ _)
  have hr2 := fun w (hr : Rd w A lots) => hr.from (i + 1) hc
  have hl1 : (lots.take i).length = i := by rw [List.length_take]; omega
  have hl2 : (lots.drop (i + 1)).length = lots.length - (i + 1) := List.length_drop
  generalize lots.take i = L1 at hr1 hl1 ⊢
  generalize lots.drop (i + 1) = L2 at hr2 hl2 ⊢
  refine enterH Try.func71 rfl rfl Try.ntmps71 rfl (Wd.refl _) ?_
  (repeat' (first | (show VH _ _ _ _ _ _ _; first | refine v_seq ?_ | refine r_seq ?_) | (show SH _ _ _ _ _ (_ :: _) _ _ _; first | refine ala rfl (fun b => ?_) | refine bxx rfl evL rfl (fun b => ?_)) | refine s_nil ?_ | refine kh_normal ?_))
  rename_i b2
  refine r_heldT [] (tr [(1, true), (3, true), (6, true), (8, true), (9, true)] (.fork3 0 (tr [] (.fork 2 (tr [(4, true)] (.fork 5 (tr [(7, false), (10, false), (11, false), (12, false), (13, false)] .nil) 7 (tr [(10, true), (5, false), (11, false), (12, false), (13, false)] .nil))) 7 (tr [(10, true), (2, false), (4, false), (5, false), (11, false), (12, false), (13, false)] .nil))) 2 (tr [(4, true)] (.fork 0 (tr [] (.fork 5 (tr [(7, false), (10, false), (11, false), (12, false), (13, false)] .nil) 7 (tr [(10, true), (5, false), (11, false), (12, false), (13, false)] .nil))) 7 (tr [(10, true), (0, false), (5, false), (11, false), (12, false), (13, false)] .nil))) 7 (tr [(10, true)] (.fork 0 (tr [(2, false), (4, false), (5, false), (11, false), (12, false), (13, false)] .nil) 2 (tr [(4, true), (0, false), (5, false), (11, false), (12, false), (13, false)] .nil))))) hmix (by kernel_rfl) enL ?_
  (repeat' ((show SH _ _ _ _ _ (_ :: _) _ _ _; first | refine mov evL ?_ | refine add rfl rfl inL ?_ | refine fad rfl ?_)))
  repeat' (first
    | (refine s_fork3 ?_ ?_ ?_ <;> (repeat' ((show SH _ _ _ _ _ (_ :: _) _ _ _; first | refine lbx rfl spL (by rfl) ?_ | refine slh rfl rfl omL omL ?_ | refine sll rfl rfl omL omL ?_))))
    | (refine s_fork ?_ ?_ <;> (repeat' ((show SH _ _ _ _ _ (_ :: _) _ _ _; first | refine lbx rfl spL (by rfl) ?_ | refine slh rfl rfl omL omL ?_ | refine sll rfl rfl omL omL ?_))))
    | (refine bsl (l := ([] : List Lot)) rfl rfl Vals.nil rfl rfl (by decide) (fun b7 => ?_); (repeat' ((show SH _ _ _ _ _ (_ :: _) _ _ _; first | refine lbx rfl spL (by rfl) ?_ | refine slh rfl rfl omL omL ?_))))
    | (refine app (l := ([] : List Lot)) (l2 := L1) rfl rfl rfl spL (fun w hw => hr1.ext hw.ext) rfl rfl (by omega) (by simp only [List.length_nil]; omega) (by simp only [List.length_nil]; omega) (fun A2 c2 => ⟨enL, ?_⟩); (repeat' ((show SH _ _ _ _ _ (_ :: _) _ _ _; first | refine lbx rfl spL (by rfl) ?_ | refine sll rfl rfl omL omL ?_))))
    | (refine app (l := [] ++ L1) (l2 := L2) rfl rfl rfl spL (fun w hw => hr2 w (hr.ext hw.ext)) rfl rfl (by omega) (by simp only [List.length_nil, List.nil_append]; omega) (by simp only [List.length_nil, List.nil_append]; omega) (fun A3 c3 => ⟨enL, ?_⟩); (repeat' (first | (show VH _ _ _ _ _ _ _; first | refine v_seq ?_ | refine r_seq ?_ | refine v_ret ?_) | (show SH _ _ _ _ _ (_ :: _) _ _ _; first | refine lba rfl spL (by rfl) ?_ | refine fad rfl ?_ | refine stb rfl rfl evL spL rfl rfl (by first | decide | exact Nat.zero_lt_succ _ | exact of_decide_eq_true rfl) kpL ?_ | refine sta rfl rfl rfl spL (by rfl) (by rfl) (by rfl) kpL ?_) | refine s_nil ?_ | refine kh_normal ?_))))
  all_goals exact rhC rfl rfl rfl (fun w hw => loadVar_bx hw spL (by rfl)) ⟨A3, c3, rfl, rfl⟩ enL
set_option maxHeartbeats 1000000 in
set_option maxRecDepth 100000 in
theorem rOpen_spec (A : Option Addr) (c0 : Nat) (h : House) (seller item count reserve ticks : Int) (w : World) (hl : h.lots.length ≤ 1000000) (hr : Rd w A h.lots) :
    Ret Try.prog 62 [hv A c0 h, .int .i64 seller, .int .i64 item, .int .i64 count, .int .i64 reserve, .int .i64 ticks].toArray w (RP w (OutRR (openH h seller item count reserve ticks))) := by
  have hvs := fun w hr => rValid_spec A c0 h w hl hr
  have hrs := fun w h0 => rRight_spec (newLot h seller item count reserve ticks) h.tick w h0
  have hns : newLot h seller item count reserve ticks = ⟨h.last + 1, seller, item, count, reserve, h.tick + ticks, 0, 0, 0⟩ := rfl
  unfold openH
  obtain ⟨tick, last, lots⟩ := h
  simp only at hl hr hns
  cases hval : validH ⟨tick, last, lots⟩ with
  | false =>
    rw [hval] at hvs
    unfold hv at hvs ⊢
    simp only at hvs ⊢
    refine enterH Try.func62 rfl rfl Try.ntmps62 rfl (Wd.refl _) ?_
    (repeat' (first | (show VH _ _ _ _ _ _ _; first | refine v_seq ?_ | refine r_seq ?_ | refine v_ret ?_ | refine v_cond_t rfl tbL ?_) | (show SH _ _ _ _ _ (_ :: _) _ _ _; first | (refine gif rfl rfl ?_; refine giFT tbL ?_) | refine mov evL ?_ | refine asg evL ?_ | refine lba rfl spL (by rfl) ?_ | (show SH _ _ _ _ _ (⟨_, .call ⟨.value (.func 23), _, _⟩, _, _, _, _⟩ :: _) _ _ _; refine cl (callee := .func 23) rfl (fun w hw => hvs _ (hr.ext hw.ext)) rfl rfl ?_) | refine bnoF rfl ?_ | refine pkt rfl tbL evL ?_ | refine bld rfl rfl ?_ | refine ala rfl (fun b => ?_) | refine bxx rfl evL rfl (fun b => ?_) | refine sta rfl rfl rfl spL (by rfl) (by rfl) (by rfl) kpL ?_) | refine s_nil ?_ | refine kh_normal ?_ | refine kh_ret ?_))
    exact rhC3 rfl rfl rfl rfl rfl (fun w hw => loadVar_bx hw spL (by rfl)) ⟨none, 0, none, 0, rfl, rfl⟩ ent_res0R
  | true =>
    rw [hval] at hvs
    cases ht : inB ticks 1 10000 with
    | false =>
      have hi := inB_no.1 ht
      unfold hv at hvs ⊢
      simp only at hvs ⊢
      refine enterH Try.func62 rfl rfl Try.ntmps62 rfl (Wd.refl _) ?_
      (repeat' (first | (show VH _ _ _ _ _ _ _; first | refine v_seq ?_ | refine r_seq ?_ | refine v_ret ?_ | refine v_cond_t rfl tbL ?_) | (show SH _ _ _ _ _ (_ :: _) _ _ _; first | (refine gif rfl rfl ?_; first | refine giFF tbL ?_ | refine giFT tbL ?_ | refine giFd (fun h => ?_) (fun h => ?_)) | refine mov evL ?_ | refine asg evL ?_ | (show SH _ _ _ _ _ (⟨_, .binOp _ _ _ _ _, _, _, _, _⟩ :: _) _ _ _; first | refine gtrT rfl rfl omD ?_ | refine lss rfl rfl ?_) | refine lba rfl spL (by rfl) ?_ | (show SH _ _ _ _ _ (⟨_, .call ⟨.value (.func 23), _, _⟩, _, _, _, _⟩ :: _) _ _ _; refine cl (callee := .func 23) rfl (fun w hw => hvs _ (hr.ext hw.ext)) rfl rfl ?_) | refine bnoT rfl ?_ | refine pkt rfl tbL evL ?_ | refine pkf rfl tbL evL ?_ | refine bld rfl rfl ?_ | refine ala rfl (fun b => ?_) | refine bxx rfl evL rfl (fun b => ?_) | refine sta rfl rfl rfl spL (by rfl) (by rfl) (by rfl) kpL ?_) | refine s_nil ?_ | refine kh_normal ?_ | refine kh_ret ?_))
      all_goals first
        | exact rhC3 rfl rfl rfl rfl rfl (fun w hw => loadVar_bx hw spL (by rfl)) ⟨none, 0, none, 0, rfl, rfl⟩ ent_res0R
        | (exfalso; omega)
    | true =>
      have hV := valid_iff.1 hval
      obtain ⟨ht1, ht2⟩ := inB_iff.1 ht
      obtain ⟨hk1, hk2⟩ := hV.tick
      obtain ⟨hs1, hs2⟩ := hV.last
      have hlen := hV.len
      simp only at hk1 hk2 hs1 hs2 hlen
      simp only [Bool.and_self, if_true]
      rw [hns] at hrs ⊢
      cases hR : rightL (newLot ⟨tick, last, lots⟩ seller item count reserve ticks) tick with
      | false =>
        rw [hns] at hR
        simp only [hR] at hrs ⊢
        unfold hv at hvs ⊢
        simp only at hvs ⊢
        refine enterH Try.func62 rfl rfl Try.ntmps62 rfl (Wd.refl _) ?_
        (repeat' (first | (show VH _ _ _ _ _ _ _; first | refine v_seq ?_ | refine r_seq ?_ | refine v_ret ?_ | refine v_skip ?_ | refine v_cond_t rfl tbL ?_ | refine v_cond_f rfl tbL ?_) | (show SH _ _ _ _ _ (_ :: _) _ _ _; first | (refine gif rfl rfl ?_; refine giFF tbL ?_) | refine mov evL ?_ | refine asg evL ?_ | (show SH _ _ _ _ _ (⟨_, .binOp _ _ _ _ _, _, _, _, _⟩ :: _) _ _ _; first | refine lssF rfl rfl omD ?_ | refine gtrF rfl rfl omD ?_ | refine add rfl rfl inL ?_) | (show SH _ _ _ _ _ (⟨_, .load _ _, _, _, _, _⟩ :: _) _ _ _; first | refine lbx rfl spL (by rfl) ?_ | refine lba rfl spL (by rfl) ?_) | (show SH _ _ _ _ _ (⟨_, .call ⟨.value (.func 23), _, _⟩, _, _, _, _⟩ :: _) _ _ _; refine cl (callee := .func 23) rfl (fun w hw => hvs _ (hr.ext hw.ext)) rfl rfl ?_) | (show SH _ _ _ _ _ (⟨_, .call ⟨.value (.func 42), _, _⟩, _, _, _, _⟩ :: _) _ _ _; refine cl (callee := .func 42) rfl (fun w hw => hrs w (by omega)) rfl rfl ?_) | refine bnoT rfl ?_ | refine bnoF rfl ?_ | refine pkf rfl tbL evL ?_ | refine fad rfl ?_ | refine bld rfl rfl ?_ | refine ala rfl (fun b => ?_) | refine bxx rfl evL rfl (fun b => ?_) | refine sta rfl rfl rfl spL (by rfl) (by rfl) (by rfl) kpL ?_) | refine s_nil ?_ | refine kh_normal ?_ | refine kh_ret ?_))
        exact rhC3 rfl rfl rfl rfl rfl (fun w hw => loadVar_bx hw spL (by rfl)) ⟨none, 0, none, 0, rfl, rfl⟩ ent_res0R
      | true =>
        have hRR := right_iff.1 hR
        have hcnt := hRR.count
        rw [hns] at hR hcnt
        simp only at hcnt
        have hmv : movesN [⟨seller, 0, item, count⟩] = [⟨seller, 0, item, count⟩] := by
          have : count ≠ 0 := by omega
          simp [movesN, this]
        simp only [hR, if_true] at hrs ⊢
        by_cases hful : lots.length < 32 ∧ last < 1048576
        · simp only [if_pos hful]
          rw [hmv]
          obtain ⟨hf1, hf2⟩ := hful
          unfold hv at hvs ⊢
          simp only at hvs ⊢
          refine enterH Try.func62 rfl rfl Try.ntmps62 rfl (Wd.refl _) ?_
          (repeat' ((fail_if_success (show VH _ _ (.seq (.region 9 _ _) _) _ _ _ _)); first | (show VH _ _ _ _ _ _ _; first | refine v_seq ?_ | refine r_seq ?_ | refine v_skip ?_ | refine v_cond_f rfl tbL ?_) | (show SH _ _ _ _ _ (_ :: _) _ _ _; first | (refine gif rfl rfl ?_; refine giFF tbL ?_) | refine mov evL ?_ | refine asg evL ?_ | (show SH _ _ _ _ _ (⟨_, .binOp _ _ _ _ _, _, _, _, _⟩ :: _) _ _ _; first | refine lssF rfl rfl omD ?_ | refine gtrF rfl rfl omD ?_ | refine eqlF rfl rfl omD ?_ | refine add rfl rfl inL ?_) | (show SH _ _ _ _ _ (⟨_, .load _ _, _, _, _, _⟩ :: _) _ _ _; first | refine lbx rfl spL (by rfl) ?_ | refine lba rfl spL (by rfl) ?_) | refine slen rfl ?_ | (show SH _ _ _ _ _ (⟨_, .call ⟨.value (.func 23), _, _⟩, _, _, _, _⟩ :: _) _ _ _; refine cl (callee := .func 23) rfl (fun w hw => hvs _ (hr.ext hw.ext)) rfl rfl ?_) | (show SH _ _ _ _ _ (⟨_, .call ⟨.value (.func 42), _, _⟩, _, _, _, _⟩ :: _) _ _ _; refine cl (callee := .func 42) rfl (fun w hw => hrs w (by omega)) rfl rfl ?_) | refine bnoT rfl ?_ | refine pkf rfl tbL evL ?_ | refine fad rfl ?_ | refine bld rfl rfl ?_ | refine ala rfl (fun b => ?_) | refine bxx rfl evL rfl (fun b => ?_) | refine stb rfl rfl evL spL rfl rfl (by first | decide | exact Nat.zero_lt_succ _ | exact of_decide_eq_true rfl) kpL ?_ | refine sta rfl rfl rfl spL (by rfl) (by rfl) (by rfl) kpL ?_) | refine s_nil ?_ | refine kh_normal ?_))
          rename_i b6 b12
          refine v_seq ?_
          refine r_heldT [bx b 61 _] (tr [(1, true), (4, true)] (.fork3 0 (tr [] (.fork 2 (tr [] (.fork 3 (tr [(5, false), (6, false), (7, false), (8, false)] .nil) 5 (tr [(3, false), (6, false), (7, false), (8, false)] .nil))) 5 (tr [(2, false), (3, false), (6, false), (7, false), (8, false)] .nil))) 2 (tr [] (.fork 0 (tr [] (.fork 3 (tr [(5, false), (6, false), (7, false), (8, false)] .nil) 5 (tr [(3, false), (6, false), (7, false), (8, false)] .nil))) 5 (tr [(0, false), (3, false), (6, false), (7, false), (8, false)] .nil))) 5 (tr [] (.fork 0 (tr [(2, false), (3, false), (6, false), (7, false), (8, false)] .nil) 2 (tr [(0, false), (3, false), (6, false), (7, false), (8, false)] .nil))))) hmix (by kernel_rfl) enL ?_
          (repeat' ((show SH _ _ _ _ _ (_ :: _) _ _ _; first | refine lba rfl spL (by rfl) ?_ | refine fad rfl ?_)))
          repeat' (first
            | (refine s_fork3 ?_ ?_ ?_ <;> (repeat' (refine lbx rfl spL (by rfl) ?_)))
            | (refine s_fork ?_ ?_ <;> (repeat' (refine lbx rfl spL (by rfl) ?_)))
            | (refine bsl (l := ([] : List Lot)) rfl rfl Vals.nil rfl rfl (by decide) (fun b7 => ?_); (repeat' (refine lbx rfl spL (by rfl) ?_)))
            | (refine bsl (l := [(⟨last + 1, seller, item, count, reserve, tick + ticks, 0, 0, 0⟩ : Lot)]) rfl rfl (Vals.cons rfl Vals.nil) rfl rfl (by decide) (fun b8 => ?_); (repeat' (refine lbx rfl spL (by rfl) ?_)))
            | (refine app (l := ([] : List Lot)) (l2 := lots) rfl rfl rfl spL (fun w hw => hr.ext hw.ext) rfl rfl rfl (by simp only [List.length_nil]; omega) (by simp only [List.length_nil]; omega) (fun A2 c2 => ⟨enL, ?_⟩); (repeat' (first | (show VH _ _ _ _ _ _ _; first | refine v_seq ?_ | refine r_seq ?_ | refine r_quiet hmix (by kernel_rfl) ?_ | refine v_block ?_ | refine v_ret ?_ | refine v_skip ?_ | refine v_exit ?_ | refine v_label ?_ | refine v_cond_t rfl tbL ?_ | refine v_cond_f rfl tbL ?_ | refine v_cond_dec rfl (fun h => ?_) (fun h => ?_) | refine v_cond_ndec rfl (fun h => ?_) (fun h => ?_) | refine v_cond rfl (fun h => ?_) (fun h => ?_)) | (show SH _ _ _ _ _ (_ :: _) _ _ _; first | (show SH _ _ _ _ _ (⟨_, _, _, _, _, some _⟩ :: _) _ _ _; first | (refine gif rfl rfl ?_; first | refine giTT tbL ?_ | refine giTF tbL ?_ | refine giFF tbL ?_ | refine giFT tbL ?_ | refine giTd (fun h => ?_) (fun h => ?_) | refine giFd (fun h => ?_) (fun h => ?_) | refine giT (fun h => ?_) (fun h => ?_) | refine giF (fun h => ?_) (fun h => ?_)) | refine gu rfl rfl ?_ | refine grT rfl rfl tbL ?_ | refine grF rfl rfl tbL ?_) | refine mov evL ?_ | refine asg evL ?_ | (show SH _ _ _ _ _ (⟨_, .binOp _ _ _ _ _, _, _, _, _⟩ :: _) _ _ _; first | refine lssT rfl rfl omD ?_ | refine lssF rfl rfl omD ?_ | refine gtrT rfl rfl omD ?_ | refine gtrF rfl rfl omD ?_ | refine eqlT rfl rfl omD ?_ | refine eqlF rfl rfl omD ?_ | refine add rfl rfl inL ?_ | refine lss rfl rfl ?_ | refine gtr rfl rfl ?_ | refine eql rfl rfl ?_ | refine eqn rfl rfl ?_ | refine eqb rfl rfl ?_) | (show SH _ _ _ _ _ (⟨_, .load _ _, _, _, _, _⟩ :: _) _ _ _; first | refine lsl rfl (fun _ _ => rdL) omL (by assumption) ?_ | refine lin rfl (fun _ _ => rdL) omL ?_ | refine lbx rfl spL (by rfl) ?_ | refine lba rfl spL (by rfl) ?_ | refine lbi rfl spL omL ?_ | refine lr1 rfl (fun _ _ => rdL) (by rfl) omL (by rfl) ?_ | refine lra rfl (fun _ _ => rdL) (by rfl) omL ?_ | refine lrf rfl (fun _ _ => rdL) (by rfl) omL (by rfl) ?_ | refine lcell rfl (fun w hw => hw.ext.cell (by assumption)) ?_) | refine slen rfl ?_ | refine bnoT rfl ?_ | refine bnoF rfl ?_ | refine pkt rfl tbL evL ?_ | refine pkf rfl tbL evL ?_ | refine bnot rfl ?_ | refine fad rfl ?_ | refine bld rfl rfl ?_ | refine al1 rfl (fun b => ?_) | refine ala rfl (fun b => ?_) | refine bxx rfl evL rfl (fun b => ?_) | refine stb rfl rfl evL spL rfl rfl (by first | decide | exact Nat.zero_lt_succ _ | exact of_decide_eq_true rfl) kpL ?_ | refine sta rfl rfl rfl spL (by rfl) (by rfl) (by rfl) kpL ?_ | refine sti rfl rfl rfl spL omL kpL ?_ | refine sbi rfl rfl rfl spL omL kpL ?_ | refine bsl (α := Int) rfl rfl (by repeat (first | exact Vals.nil | (apply Vals.cons; rfl))) rfl (by rfl) (by decide) (fun b => ?_)) | refine s_nil ?_ | refine kh_normal ?_ | refine kh_ret ?_ | refine kh_exit ?_ | refine bh_normal ?_ | refine bh_ret ?_ | refine bh_exit ?_ | refine bh_exit_ne rfl ?_)))
            | (refine app (l := [] ++ lots) (l2 := [(⟨last + 1, seller, item, count, reserve, tick + ticks, 0, 0, 0⟩ : Lot)]) rfl rfl rfl spL (fun w hw => hw.rd spL) rfl rfl rfl (by simp only [List.length_cons, List.length_nil, List.nil_append]; omega) (by simp only [List.length_cons, List.length_nil, List.nil_append]; omega) (fun A3 c3 => ⟨enL, ?_⟩); (repeat' (first | (show VH _ _ _ _ _ _ _; first | refine v_seq ?_ | refine r_seq ?_) | (show SH _ _ _ _ _ (_ :: _) _ _ _; first | refine mov evL ?_ | refine lba rfl spL (by rfl) ?_ | refine fad rfl ?_ | refine bld rfl rfl ?_ | refine stb rfl rfl evL spL rfl rfl (by first | decide | exact Nat.zero_lt_succ _ | exact of_decide_eq_true rfl) kpL ?_) | refine s_nil ?_ | refine kh_normal ?_)))
            | (refine bsl (l := [(⟨seller, 0, item, count⟩ : Mv)]) rfl rfl (Vals.cons rfl Vals.nil) rfl rfl (by decide) (fun b9 => ?_); (repeat' (first | refine v_ret ?_ | (show SH _ _ _ _ _ (_ :: _) _ _ _; first | refine asg evL ?_ | refine sta rfl rfl rfl spL (by rfl) (by rfl) (by rfl) kpL ?_) | refine s_nil ?_ | refine kh_normal ?_))))
          all_goals exact rhC3 rfl rfl rfl rfl rfl (fun w hw => loadVar_bx hw spL (by rfl)) ⟨A3, c3, some ⟨b9, 0, none⟩, 1, rfl, rfl⟩ enL
        · simp only [if_neg hful]
          unfold hv at hvs ⊢
          simp only at hvs ⊢
          refine enterH Try.func62 rfl rfl Try.ntmps62 rfl (Wd.refl _) ?_
          (repeat' (first | (show VH _ _ _ _ _ _ _; first | refine v_seq ?_ | refine r_seq ?_ | refine v_ret ?_ | refine v_skip ?_ | refine v_cond_t rfl tbL ?_ | refine v_cond_f rfl tbL ?_) | (show SH _ _ _ _ _ (_ :: _) _ _ _; first | (refine gif rfl rfl ?_; first | refine giFF tbL ?_ | refine giFT tbL ?_ | refine giFd (fun h => ?_) (fun h => ?_)) | refine mov evL ?_ | refine asg evL ?_ | (show SH _ _ _ _ _ (⟨_, .binOp _ _ _ _ _, _, _, _, _⟩ :: _) _ _ _; first | refine lssF rfl rfl omD ?_ | refine gtrF rfl rfl omD ?_ | refine eqlT rfl rfl omD ?_ | refine add rfl rfl inL ?_ | refine eql rfl rfl ?_) | (show SH _ _ _ _ _ (⟨_, .load _ _, _, _, _, _⟩ :: _) _ _ _; first | refine lbx rfl spL (by rfl) ?_ | refine lba rfl spL (by rfl) ?_) | refine slen rfl ?_ | (show SH _ _ _ _ _ (⟨_, .call ⟨.value (.func 23), _, _⟩, _, _, _, _⟩ :: _) _ _ _; refine cl (callee := .func 23) rfl (fun w hw => hvs _ (hr.ext hw.ext)) rfl rfl ?_) | (show SH _ _ _ _ _ (⟨_, .call ⟨.value (.func 42), _, _⟩, _, _, _, _⟩ :: _) _ _ _; refine cl (callee := .func 42) rfl (fun w hw => hrs w (by omega)) rfl rfl ?_) | refine bnoT rfl ?_ | refine pkt rfl tbL evL ?_ | refine pkf rfl tbL evL ?_ | refine fad rfl ?_ | refine bld rfl rfl ?_ | refine ala rfl (fun b => ?_) | refine bxx rfl evL rfl (fun b => ?_) | refine sta rfl rfl rfl spL (by rfl) (by rfl) (by rfl) kpL ?_) | refine s_nil ?_ | refine kh_normal ?_ | refine kh_ret ?_))
          all_goals first
            | exact rhC3 rfl rfl rfl rfl rfl (fun w hw => loadVar_bx hw spL (by rfl)) ⟨none, 0, none, 0, rfl, rfl⟩ ent_res0R
            | (exfalso; omega)
end Go.Proofs.Ytehjdbgijibmcaa
