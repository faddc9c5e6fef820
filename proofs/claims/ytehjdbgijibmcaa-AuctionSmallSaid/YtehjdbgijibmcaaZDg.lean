/- Package auction: the lots that end, in order, as a function that is ranged over. -/
import Derived.Test.YtehjdbgijibmcaaZDf
import Derived.Test.YtehjdbgijibmcaaZAt
set_option linter.unusedSimpArgs false
set_option linter.unusedVariables false
namespace Go.Proofs.Ytehjdbgijibmcaa
open Go.Fw Go.RowKit
theorem isNaN_spec (a : Int) (w : World) : Ret Try.prog 68 [.int .i64 a].toArray w (Out w (.bool false)) := by
  refine enterH Try.func68 rfl rfl Try.ntmps68 rfl (Wd.refl _) ?_
  (repeat' (first | (show VH _ _ _ _ _ _ _; first | refine v_seq ?_ | refine r_seq ?_ | refine v_ret ?_) | (show SH _ _ _ _ _ (_ :: _) _ _ _; first | refine mov evL ?_ | refine asg evL ?_ | refine neq rfl rfl ?_) | refine s_nil ?_ | refine kh_normal ?_))
  exact rh1 rfl rfl ⟨congrArg Value.bool (by simp), rfl⟩ (ent_nil _)
theorem compare_spec (a b : Int) (w : World) : Ret Try.prog 60 [.int .i64 a, .int .i64 b].toArray w (Out w (.int .i64 (cmp3 a b))) := by
  refine enterH Try.func60 rfl rfl Try.ntmps60 rfl (Wd.refl _) ?_
  by_cases h1 : a < b
  · (repeat' (first | (show VH _ _ _ _ _ _ _; first | refine v_seq ?_ | refine r_seq ?_ | refine v_ret ?_ | refine v_skip ?_ | refine v_cond_t rfl tbL ?_ | refine v_cond_f rfl tbL ?_) | (show SH _ _ _ _ _ (_ :: _) _ _ _; first | refine mov evL ?_ | refine asg evL ?_ | refine lss rfl rfl ?_ | (show SH _ _ _ _ _ (⟨_, .call ⟨.value (.func 68), _, _⟩, _, _, _, _⟩ :: _) _ _ _; refine cl (callee := .func 68) rfl (fun w hw => isNaN_spec _ w) rfl rfl ?_)) | refine s_nil ?_ | refine kh_normal ?_ | refine kh_ret ?_))
    exact rh1 rfl rfl ⟨congrArg (Value.int .i64) (by unfold cmp3; rw [if_pos h1]), rfl⟩ (ent_nil _)
  · by_cases h2 : b < a
    · (repeat' (first | (show VH _ _ _ _ _ _ _; first | refine v_seq ?_ | refine r_seq ?_ | refine v_ret ?_ | refine v_skip ?_ | refine v_cond_t rfl tbL ?_ | refine v_cond_f rfl tbL ?_) | (show SH _ _ _ _ _ (_ :: _) _ _ _; first | refine mov evL ?_ | refine asg evL ?_ | (show SH _ _ _ _ _ (⟨_, .binOp _ _ _ _ _, _, _, _, _⟩ :: _) _ _ _; first | refine lss rfl rfl ?_ | refine gtr rfl rfl ?_) | (show SH _ _ _ _ _ (⟨_, .call ⟨.value (.func 68), _, _⟩, _, _, _, _⟩ :: _) _ _ _; refine cl (callee := .func 68) rfl (fun w hw => isNaN_spec _ w) rfl rfl ?_)) | refine s_nil ?_ | refine kh_normal ?_ | refine kh_ret ?_))
      exact rh1 rfl rfl ⟨congrArg (Value.int .i64) (by unfold cmp3; rw [if_neg h1, if_pos h2]), rfl⟩ (ent_nil _)
    · (repeat' (first | (show VH _ _ _ _ _ _ _; first | refine v_seq ?_ | refine r_seq ?_ | refine v_ret ?_ | refine v_skip ?_ | refine v_cond_f rfl tbL ?_) | (show SH _ _ _ _ _ (_ :: _) _ _ _; first | refine mov evL ?_ | refine asg evL ?_ | (show SH _ _ _ _ _ (⟨_, .binOp _ _ _ _ _, _, _, _, _⟩ :: _) _ _ _; first | refine lss rfl rfl ?_ | refine gtr rfl rfl ?_) | (show SH _ _ _ _ _ (⟨_, .call ⟨.value (.func 68), _, _⟩, _, _, _, _⟩ :: _) _ _ _; refine cl (callee := .func 68) rfl (fun w hw => isNaN_spec _ w) rfl rfl ?_)) | refine s_nil ?_ | refine kh_normal ?_))
      exact rh1 rfl rfl ⟨congrArg (Value.int .i64) (by unfold cmp3; rw [if_neg h1, if_neg h2]), rfl⟩ (ent_nil _)
set_option maxRecDepth 100000 in
theorem endCmp : CmpT 59 := fun w x y => by
  refine enterH Try.func59 rfl rfl Try.ntmps59 rfl (Wd.refl _) ?_
  (repeat' (first | (show VH _ _ _ _ _ _ _; first | refine v_seq ?_ | refine r_seq ?_ | refine v_ret ?_) | (show SH _ _ _ _ _ (_ :: _) _ _ _; first | refine asg evL ?_ | refine lbx rfl spL (by rfl) ?_ | (show SH _ _ _ _ _ (⟨_, .call ⟨.value (.func 60), _, _⟩, _, _, _, _⟩ :: _) _ _ _; refine cl (callee := .func 60) rfl (fun w hw => compare_spec _ _ w) rfl rfl ?_) | refine fad rfl ?_ | refine bxx rfl evL rfl (fun b => ?_)) | refine s_nil ?_ | refine kh_normal ?_))
  exact rh1 rfl rfl ⟨rfl, rfl⟩ (ent_nil _)
theorem tw_len {α : Type} (p : α → Bool) : ∀ l : List α, (l.takeWhile p).length ≤ l.length
  | [] => Nat.le_refl _
  | x :: l => by
    rw [List.takeWhile_cons]
    split
    · have := tw_len p l; simp only [List.length_cons]; omega
    · simp
theorem tw_get {α : Type} (d : α) (p : α → Bool) : ∀ (l : List α) (k : Nat), k < (l.takeWhile p).length → (l.takeWhile p).getD k d = l.getD k d ∧ p (l.getD k d) = true
  | [], k, h => by simp at h
  | x :: l, k, h => by
    by_cases hp : p x = true
    · rw [List.takeWhile_cons_of_pos hp] at h ⊢
      cases k with
      | zero => exact ⟨rfl, hp⟩
      | succ k => simpa using tw_get d p l k (by simpa using h)
    · rw [List.takeWhile_cons_of_neg hp] at h; simp at h
theorem tw_stop {α : Type} (d : α) (p : α → Bool) : ∀ (l : List α), (l.takeWhile p).length < l.length → p (l.getD (l.takeWhile p).length d) = false
  | [], h => by simp at h
  | x :: l, h => by
    by_cases hp : p x = true
    · rw [List.takeWhile_cons_of_pos hp] at h ⊢
      simpa using tw_stop d p l (by simpa using h)
    · rw [List.takeWhile_cons_of_neg hp]; simpa using hp
def hcells (A : Option Addr) (c : Nat) (h : House) : List Value := [.int .i64 h.tick, .int .i64 h.last, .slice A h.lots.length c]
set_option maxHeartbeats 1000000 in
set_option maxRecDepth 100000 in
/-- The function that yields the lots that end, whatever is done with them. -/
theorem ended1_spec (l bh bt : Nat) (A : Option Addr) (c0 : Nat) (h : House) (tick : Int) (J : Nat → List HP → Prop) (w0 : World) (G0 : List HP) (w : World) (hl : h.lots.length < 40) (hr : Rd w0 A h.lots)
    (hY : ∀ i G, i < (endedL tick h.lots).length → J i G → ∀ X w, Wd w0 (bx bh 26 (hcells A c0 h) :: bx bt 3 [.int .i64 tick] :: (G ++ X)) w →
      Yld Try.prog l [.agg (Flat.enc ((endedL tick h.lots).getD i Flat.dflt)).toArray] w (RP w0 fun v H' => v = .bool true ∧ ∃ G', J (i + 1) G' ∧ H' = bx bh 26 (hcells A c0 h) :: bx bt 3 [.int .i64 tick] :: (G' ++ X)))
    (hJ : J 0 G0) (hw : Wd w0 (bx bh 26 (hcells A c0 h) :: bx bt 3 [.int .i64 tick] :: G0) w) :
    Ret Try.prog 57 [.func (.yield l) #[] #[], .pointer (some ⟨bh, 0, none⟩), .pointer (some ⟨bt, 0, none⟩)].toArray w
      (RP w0 fun _ H' => ∃ G, J (endedL tick h.lots).length G ∧ H' = bx bh 26 (hcells A c0 h) :: bx bt 3 [.int .i64 tick] :: G) := by
  obtain ⟨ht, hla, lots⟩ := h
  unfold hcells at *
  simp only at hl hr hY hw ⊢
  have hE : endedL tick lots = (sortL lots).takeWhile fun x => decide (x.till ≤ tick) := rfl
  have hsl : (sortL lots).length = lots.length := sortK_len lots
  have hel : (endedL tick lots).length ≤ (sortL lots).length := hE ▸ tw_len _ _
  have hget := fun k hk => tw_get (Flat.dflt : Lot) (fun x => decide (x.till ≤ tick)) (sortL lots) k hk
  have hstop := tw_stop (Flat.dflt : Lot) (fun x => decide (x.till ≤ tick)) (sortL lots)
  rw [← hE] at hget hstop
  refine enterH Try.func57 rfl rfl Try.ntmps57 rfl (by assumption) ?_
  (repeat' (first | (show VH _ _ _ _ _ _ _; first | refine v_seq ?_ | refine r_seq ?_) | (show SH _ _ _ _ _ (_ :: _) _ _ _; first | refine lbx rfl spL (by rfl) ?_ | (show SH _ _ _ _ _ (⟨_, .call ⟨.value (.func 47), _, _⟩, _, _, _, _⟩ :: _) _ _ _; refine cp (callee := .func 47) rfl (fun w hw => cloneLt_spec A lots c0 w (by omega) (hr.ext hw.ext)) rfl rfl ?_) | refine fad rfl ?_)))
  rintro _ _ ⟨A1, c1, rfl, rfl⟩
  (repeat' (first | (show VH _ _ _ _ _ _ _; first | refine v_seq ?_ | refine r_seq ?_) | (show SH _ _ _ _ _ (_ :: _) _ _ _; first | refine mov evL ?_ | refine asg evL ?_) | refine s_nil ?_ | refine kh_normal ?_))
  refine cm rfl (fun w hw => sortStable_spec A1 lots c1 lots.length _ endCmp w0 (bx bh 26 _ :: bx bt 3 _ :: G0) w rfl hl hw) rfl rfl ?_
  rintro _ _ rfl
  refine ⟨trivial, ?_⟩
  (repeat' (first | (show VH _ _ _ _ _ _ _; first | refine v_seq ?_ | refine r_seq ?_) | (show SH _ _ _ _ _ (_ :: _) _ _ _; first | refine mov evL ?_ | refine slen rfl ?_) | refine s_nil ?_ | refine kh_normal ?_))
  refine v_norm [(0,_),(1,_),(2,_),(12,_),(13,_),(14,_)] heL (fun g => ?_)
  (repeat' (refine v_block ?_))
  refine v_loop [(6,6),(14,28)] (fun y : Nat × List HP => [(14, .int .i64 y.1)]) (fun y => orow 38 A1 c1 (sortL lots) :: bx bh 26 [.int .i64 ht, .int .i64 hla, .slice A lots.length c0] :: bx bt 3 [.int .i64 tick] :: y.2) (fun y => y.1 ≤ (endedL tick lots).length ∧ J y.1 y.2) (fun y => lots.length - y.1) (0, G0) hsL (ent_refl _) ⟨Nat.zero_le _, hJ⟩ ?_
  rintro ⟨k, G⟩ g ⟨hk, hJk⟩
  simp only [sets]
  simp only at hk hJk
  by_cases hkl : k < lots.length
  · by_cases hke : k < (endedL tick lots).length
    · obtain ⟨g1, g2⟩ := hget k hke
      have hY' := hY k G hke hJk
      rw [g1] at hY'
      have g3 : ((sortL lots).getD k Flat.dflt).till ≤ tick := of_decide_eq_true g2
      (repeat' (first | (show VH _ _ _ _ _ _ _; first | refine v_seq ?_ | refine r_seq ?_ | refine v_block ?_ | refine v_skip ?_ | refine v_cond_t rfl tbL ?_) | (show SH _ _ _ _ _ (_ :: _) _ _ _; first | (refine gif rfl rfl ?_; refine giFF tbL ?_) | refine mov evL ?_ | (show SH _ _ _ _ _ (⟨_, .binOp _ _ _ _ _, _, _, _, _⟩ :: _) _ _ _; first | refine lss rfl rfl ?_ | refine gtr rfl rfl ?_) | (show SH _ _ _ _ _ (⟨_, .load _ _, _, _, _, _⟩ :: _) _ _ _; first | refine lbx rfl spL (by rfl) ?_ | refine lba rfl spL (by rfl) ?_ | refine lra rfl (fun _ _ => rdL) (by rfl) omL ?_) | refine ix rfl rfl (by with_reducible rfl) (fun _ _ => rdL) (by rfl) omL omL ?_ | refine fad rfl ?_ | refine ala rfl (fun b => ?_) | refine sta rfl rfl rfl spL (by rfl) (by rfl) (by rfl) kpL ?_) | refine s_nil ?_ | refine kh_normal ?_))
      refine cy (fun w hw => hY' [_, _] w (Ent.wd (ent_swap [_, _] (_ :: _ :: G)) hw)) rfl rfl ?_
      rintro _ _ ⟨rfl, G', hJ', rfl⟩
      (repeat' (first | (show VH _ _ _ _ _ _ _; first | refine r_seq ?_ | refine v_skip ?_ | refine v_cond_f rfl tbL ?_) | (show SH _ _ _ _ _ (_ :: _) _ _ _; first | (refine gif rfl rfl ?_; refine giFF tbL ?_) | refine mov evL ?_ | refine add rfl rfl inL ?_ | refine pkf rfl tbL evL ?_ | refine bnot rfl ?_) | refine s_nil ?_ | refine kh_normal ?_ | refine bh_normal ?_))
      exact ⟨agL, (k + 1, G'), hsL, (ent_swap (_ :: _ :: G') [_, _]).trans (ent_drop (ent_refl _)), ⟨hke, hJ'⟩, by show lots.length - (k + 1) < lots.length - k; omega⟩
    · have hkE : k = (endedL tick lots).length := by omega
      subst hkE
      have g2 := hstop (by omega)
      have g3 : ¬ ((sortL lots).getD (endedL tick lots).length Flat.dflt).till ≤ tick := of_decide_eq_false g2
      (repeat' (first | (show VH _ _ _ _ _ _ _; first | refine v_seq ?_ | refine r_seq ?_ | refine v_block ?_ | refine v_ret ?_ | refine v_skip ?_ | refine v_cond_t rfl tbL ?_) | (show SH _ _ _ _ _ (_ :: _) _ _ _; first | (refine gif rfl rfl ?_; refine giFT tbL ?_) | refine mov evL ?_ | (show SH _ _ _ _ _ (⟨_, .binOp _ _ _ _ _, _, _, _, _⟩ :: _) _ _ _; first | refine lss rfl rfl ?_ | refine gtr rfl rfl ?_) | (show SH _ _ _ _ _ (⟨_, .load _ _, _, _, _, _⟩ :: _) _ _ _; first | refine lbx rfl spL (by rfl) ?_ | refine lra rfl (fun _ _ => rdL) (by rfl) omL ?_) | refine ix rfl rfl (by with_reducible rfl) (fun _ _ => rdL) (by rfl) omL omL ?_ | refine pkt rfl tbL evL ?_ | refine fad rfl ?_ | refine ala rfl (fun b => ?_) | refine sta rfl rfl rfl spL (by rfl) (by rfl) (by rfl) kpL ?_) | refine s_nil ?_ | refine kh_normal ?_ | refine kh_ret ?_ | refine bh_ret ?_))
      exact rh0 rfl ⟨G, hJk, rfl⟩ (ent_drop (ent_drop (ent_refl _)))
  · have hkE : k = (endedL tick lots).length := by omega
    subst hkE
    (repeat' (first | (show VH _ _ _ _ _ _ _; first | refine v_seq ?_ | refine r_seq ?_ | refine v_exit ?_ | refine v_cond_f rfl tbL ?_) | refine lss rfl rfl ?_ | refine s_nil ?_ | refine kh_normal ?_ | refine kh_exit ?_ | refine bh_exit ?_))
    exact rh0n rfl ⟨G, hJk, rfl⟩ (ent_drop (ent_refl _))
set_option maxRecDepth 100000 in
theorem ended_spec (A : Option Addr) (c0 : Nat) (h : House) (tick : Int) (w : World) :
    Ret Try.prog 39 [hv A c0 h, .int .i64 tick].toArray w (RP w fun v H' => ∃ bh bt, v = .func (.func 57) #[] #[.pointer (some ⟨bh, 0, none⟩), .pointer (some ⟨bt, 0, none⟩)] ∧ H' = [bx bh 26 (hcells A c0 h), bx bt 3 [.int .i64 tick]]) := by
  unfold hv
  refine enterH Try.func39 rfl rfl Try.ntmps39 rfl (Wd.refl _) ?_
  (repeat' (first | (show VH _ _ _ _ _ _ _; first | refine v_seq ?_ | refine r_seq ?_ | refine v_ret ?_) | (show SH _ _ _ _ _ (_ :: _) _ _ _; first | refine asg evL ?_ | refine mf2 evL evL ?_ | refine bxx rfl evL rfl (fun b => ?_)) | refine s_nil ?_ | refine kh_normal ?_))
  exact rh1 rfl rfl ⟨_, _, rfl, rfl⟩ enL
set_option maxRecDepth 100000 in
theorem adv1_spec (x : Lot) (tick : Int) (a : Addr) (w : World) (hc : w.cell? a = some (.int .i64 tick)) : Ret Try.prog 41 [.agg (Flat.enc x).toArray, .pointer (some a)].toArray w (Out w (.bool (decide (x.till ≤ tick)))) := by
  refine enterH Try.func41 rfl rfl Try.ntmps41 rfl (Wd.refl _) ?_
  (repeat' (first | (show VH _ _ _ _ _ _ _; first | refine v_seq ?_ | refine r_seq ?_ | refine v_ret ?_) | (show SH _ _ _ _ _ (_ :: _) _ _ _; first | refine asg evL ?_ | refine leq rfl rfl ?_ | (show SH _ _ _ _ _ (⟨_, .load _ _, _, _, _, _⟩ :: _) _ _ _; first | refine lbx rfl spL (by rfl) ?_ | refine lcell rfl (fun w hw => hw.ext.cell (by assumption)) ?_) | refine fad rfl ?_ | refine bxx rfl evL rfl (fun b => ?_)) | refine s_nil ?_ | refine kh_normal ?_))
  exact rh1 rfl rfl ⟨rfl, rfl⟩ (ent_nil _)
end Go.Proofs.Ytehjdbgijibmcaa
