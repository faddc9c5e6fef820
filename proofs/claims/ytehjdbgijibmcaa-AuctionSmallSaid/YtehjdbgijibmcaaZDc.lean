/- Sorting of lots: insertion. -/
import Derived.Test.YtehjdbgijibmcaaZDa
import Derived.Test.YtehjdbgijibmcaaZDb
set_option linter.unusedSimpArgs false
set_option linter.unusedVariables false
namespace Go.Proofs.Ytehjdbgijibmcaa
open Go.Fw Go.RowKit
/-- A function that compares the ends of two lots. -/
abbrev CmpT (g : FuncId) : Prop := ∀ (w : World) (x y : Lot), Ret Try.prog g [.agg (Flat.enc x).toArray, .agg (Flat.enc y).toArray].toArray w (Out w (.int .i64 (cmp3 x.till y.till)))
set_option maxHeartbeats 1000000 in
set_option maxRecDepth 100000 in
theorem insSort_spec (A : Option Addr) (P X S l : List Lot) (cp a b k : Nat) (g0 : FuncId) (hC : CmpT g0) (w0 : World) (H : List HP) (w : World) (hlP : l = P ++ X ++ S) (hk : k = l.length) (hl : l.length ≤ 1000000) (ha : a = P.length) (hb : b = P.length + X.length) (hw : Wd w0 (orow 38 A cp l :: H) w) :
    Ret Try.prog 72 [.slice A k cp, .int .i64 a, .int .i64 b, .func (.func g0) #[] #[]].toArray w (RP w0 fun _ H' => H' = orow 38 A cp (P ++ sortK Lot.till X ++ S) :: H) := by
  subst hk
  have hlen : l.length = P.length + X.length + S.length := by rw [hlP]; simp only [List.length_append]
  have hal : a ≤ l.length := by omega
  have hbl : b ≤ l.length := by omega
  refine enterH Try.func72 rfl rfl Try.ntmps72 rfl (by assumption) ?_
  by_cases hX0 : X.length = 0
  · have hX : X = [] := List.eq_nil_of_length_eq_zero hX0
    subst hX
    (repeat' (first | (show VH _ _ _ _ _ _ _; first | refine v_seq ?_ | refine r_seq ?_ | refine v_block ?_) | (show SH _ _ _ _ _ (_ :: _) _ _ _; first | refine mov evL ?_ | refine asg evL ?_ | refine add rfl rfl inL ?_) | refine s_nil ?_ | refine kh_normal ?_))
    refine v_loop_none ?_
    (repeat' (first | (show VH _ _ _ _ _ _ _; first | refine v_seq ?_ | refine r_seq ?_ | refine v_exit ?_ | refine v_cond_f rfl tbL ?_) | (show SH _ _ _ _ _ (_ :: _) _ _ _; first | refine mov evL ?_ | refine lss rfl rfl ?_) | refine s_nil ?_ | refine kh_normal ?_ | refine kh_exit ?_ | refine bh_exit ?_))
    exact rh0n rfl rfl (by rw [hlP]; exact ent_refl _)
  (repeat' (first | (show VH _ _ _ _ _ _ _; first | refine v_seq ?_ | refine r_seq ?_ | refine v_block ?_) | (show SH _ _ _ _ _ (_ :: _) _ _ _; first | refine mov evL ?_ | refine asg evL ?_ | refine add rfl rfl inL ?_) | refine s_nil ?_ | refine kh_normal ?_))
  refine v_norm [(0,_),(1,_),(2,_),(3,_),(8,_)] heL (fun g => ?_)
  refine v_loop [(8,9),(12,52)] (fun i : Nat => [(8, .int .i64 ((a : Int) + i))]) (fun i => orow 38 A cp (P ++ sortK Lot.till (X.take i) ++ X.drop i ++ S) :: H) (fun i => 1 ≤ i ∧ i ≤ X.length) (fun i => X.length - i) 1 hsL ?_ ⟨by omega, by omega⟩ ?_
  · have : P ++ sortK Lot.till (X.take 1) ++ X.drop 1 ++ S = l := by
      rw [hlP]
      cases X with
      | nil => simp at hX0
      | cons x X => simp [sortK, insK]
    rw [this]; exact ent_refl _
  rintro i g ⟨hi1, hi⟩
  simp only [sets]
  by_cases hin : i < X.length
  · have hxd : X.drop i = X.getD i Flat.dflt :: X.drop (i + 1) := drop_cons hin
    have htk : X.take (i + 1) = X.take i ++ [X.getD i Flat.dflt] := take_snoc hin
    have hTl : (sortK Lot.till (X.take i)).length = i := by rw [sortK_len, List.length_take]; omega
    have hTs : SrtK Lot.till (sortK Lot.till (X.take i)) := sortK_srt _
    have hstep : sortK Lot.till (X.take (i + 1)) = insK Lot.till (X.getD i Flat.dflt) (sortK Lot.till (X.take i)) := by rw [htk, sortK_snoc]
    have hrow : P ++ sortK Lot.till (X.take i) ++ X.drop i ++ S = P ++ putAt (sortK Lot.till (X.take i)) i (X.getD i Flat.dflt) ++ (X.drop (i + 1) ++ S) := by
      have := putAt_end (sortK Lot.till (X.take i)) (X.getD i Flat.dflt)
      rw [hTl] at this
      rw [this, hxd]; simp
    have hrest : (X.drop (i + 1) ++ S).length + (i + 1) = X.length + S.length := by rw [List.length_append, List.length_drop]; omega
    rw [hrow]
    generalize hRe : X.drop (i + 1) ++ S = Rr at hrest ⊢
    generalize X.getD i Flat.dflt = x at hstep ⊢
    generalize sortK Lot.till (X.take i) = T at hTl hTs hstep ⊢
    (repeat' (first | (show VH _ _ _ _ _ _ _; first | refine v_seq ?_ | refine r_seq ?_ | refine v_skip ?_ | refine v_cond_t rfl tbL ?_) | (show SH _ _ _ _ _ (_ :: _) _ _ _; first | refine mov evL ?_ | refine lss rfl rfl ?_) | refine s_nil ?_ | refine kh_normal ?_))
    refine v_cut [(9, 9), (17, 52)] (fun _ : Unit => []) (fun _ => orow 38 A cp (P ++ insK Lot.till x T ++ Rr) :: H) (fun _ => True) ?_ ?_ ent_vh
    · (repeat' (first | (show VH _ _ _ _ _ _ _; first | refine v_seq ?_ | refine r_seq ?_ | refine v_block ?_) | (show SH _ _ _ _ _ (_ :: _) _ _ _; first | refine mov evL ?_ | refine asg evL ?_) | refine s_nil ?_ | refine kh_normal ?_))
      refine v_loop [(9,9),(18,52)] (fun q : Nat => [(9, .int .i64 ((a : Int) + q))]) (fun q => orow 38 A cp (P ++ putAt T q x ++ Rr) :: H) (fun q => q ≤ i ∧ ∀ y ∈ T.drop q, x.till < y.till) (fun q => q) i hsL (ent_refl _) ⟨Nat.le_refl _, by rw [List.drop_of_length_le (by omega)]; simp⟩ ?_
      rintro q g ⟨hq, hd⟩
      have hLl : (P ++ putAt T q x ++ Rr).length = l.length := by simp only [List.length_append, putAt_len]; omega
      have hg1 := putAt_get (Flat.dflt : Lot) P T Rr x (q := q) (by omega)
      have hg2 := fun h0 => putAt_prev (Flat.dflt : Lot) P T Rr x (q := q) h0 (by omega)
      have hsw := fun h0 => putAt_swap (Flat.dflt : Lot) P T Rr x (q := q) h0 (by omega)
      have hin := putAt_ins (Flat.dflt : Lot) hTs (x := x) (q := q) (by omega) hd
      have hput : ∀ L, L = P ++ putAt T q x ++ Rr → (q = 0 ∨ ¬ x.till < (T.getD (q - 1) Flat.dflt).till) → L = P ++ insK Lot.till x T ++ Rr := fun L hL h => by rw [hL, hin h]
      generalize P ++ putAt T q x ++ Rr = L at hLl hg1 hg2 hsw hput
      simp only [sets]
      by_cases hq0 : q = 0
      · subst hq0
        have := hput L rfl (.inl rfl)
        (repeat' (first | (show VH _ _ _ _ _ _ _; first | refine v_seq ?_ | refine r_quiet hmix (by kernel_rfl) ?_ | refine v_exit ?_ | refine v_cond_f rfl tbL ?_) | (show SH _ _ _ _ _ (_ :: _) _ _ _; first | (refine gif rfl rfl ?_; refine giTF tbL ?_) | refine mov evL ?_ | refine gtr rfl rfl ?_ | refine pkf rfl tbL evL ?_) | refine s_nil ?_ | refine kh_normal ?_ | refine kh_exit ?_ | refine bh_normal ?_ | refine bh_exit ?_))
        exact ⟨agL, (), trivial, by rw [this]; exact ent_refl _, trivial⟩
      · have hq1 := hg2 (by omega)
        have hsw := hsw (by omega)
        have e1 : ((a : Int) + (q : Int)).toNat = P.length + q := by omega
        have e2 : ((a : Int) + (q : Int) - 1).toNat = P.length + q - 1 := by omega
        rw [← e1] at hg1
        rw [← e2] at hq1
        (repeat' (refine v_seq ?_))
        refine r_quiet hmix (by kernel_rfl) ?_
        (repeat' (first | (show VH _ _ _ _ _ _ _; first | refine v_seq ?_ | refine v_block ?_ | refine v_skip ?_ | refine v_exit ?_ | refine v_cond_dec rfl (fun h => ?_) (fun h => ?_)) | (show SH _ _ _ _ _ (_ :: _) _ _ _; first | (refine gif rfl rfl ?_; refine giTT tbL ?_) | refine mov evL ?_ | (show SH _ _ _ _ _ (⟨_, .binOp _ _ _ _ _, _, _, _, _⟩ :: _) _ _ _; first | refine sub rfl rfl inL ?_ | refine lss rfl rfl ?_ | refine gtr rfl rfl ?_) | refine lra rfl (fun _ _ => rdL) (by rfl) omL ?_ | refine ixi rfl rfl (fun _ _ => rdL) (by rfl) omL omL omL ?_ | (show SH _ _ _ _ _ (⟨_, .call ⟨.value (.tmp _), _, _⟩, _, _, _, _⟩ :: _) _ _ _; refine cl (callee := .tmp _) rfl (fun w hw => hC w _ _) rfl rfl ?_) | refine pkt rfl tbL evL ?_) | refine s_nil ?_ | refine kh_normal ?_ | refine kh_exit ?_ | refine bh_normal ?_ | refine bh_exit ?_))
        · rw [cmp3_neg, hg1, hq1] at h
          refine v_some spL (by omega) (fun hA => ?_)
          refine r_heldT [] (tr [(0, true), (1, true), (2, true), (3, true), (4, true), (5, true), (6, true), (7, true), (8, true), (10, true), (11, true), (12, true)] (.fork 9 (tr [(13, false), (14, false), (15, false), (16, false), (17, false)] .nil) 13 (tr [(9, false), (14, false), (15, false), (16, false), (17, false)] .nil))) hmix (by kernel_rfl) (ent_nil _) ?_
          (repeat' ((show SH _ _ _ _ _ (_ :: _) _ _ _; first | refine mov evL ?_ | refine sub rfl rfl inL ?_ | refine ixq rfl rfl (by assumption) omL omL ?_)))
          refine s_fork ?_ ?_
          all_goals
            (repeat' ((show SH _ _ _ _ _ (_ :: _) _ _ _; first | refine lra rfl (fun _ _ => rdL) (by rfl) omL ?_ | refine ixi rfl rfl (fun _ _ => rdL) (by rfl) omL omL omL ?_)))
            refine stv (L.getD ((a : Int) + (q : Int) - 1).toNat Flat.dflt) rfl rfl rfl spL rfl (by omega) rfl (ent_nil _) ?_
            (repeat' (refine ixq rfl rfl (by assumption) omL omL ?_))
            refine stv (L.getD ((a : Int) + (q : Int)).toNat Flat.dflt) rfl rfl rfl spL rfl (by rw [List.length_set]; omega) rfl (ent_nil _) ?_
            (repeat' (first | refine r_seq ?_ | (show SH _ _ _ _ _ (_ :: _) _ _ _; first | refine mov evL ?_ | refine asg evL ?_ | refine sub rfl rfl inL ?_) | refine s_nil ?_ | refine kh_normal ?_ | refine bh_normal ?_))
            refine ⟨agL, q - 1, ⟨congrArg (Value.int .i64) (by omega), trivial⟩, ?_, ⟨by omega, fun y hy => ?_⟩, by omega⟩
            · show Ent _ (orow _ _ _ (P ++ putAt T (q - 1) x ++ Rr) :: H)
              rw [← hsw, swp, ← e2, ← e1]
              exact ent_refl _
            · rw [drop_cons (d := Flat.dflt) (show q - 1 < T.length by omega), show q - 1 + 1 = q by omega] at hy
              rcases List.mem_cons.1 hy with rfl | hy
              · exact h
              · exact hd y hy
        · rw [cmp3_neg, hg1, hq1] at h
          have := hput L rfl (.inr h)
          (repeat' (fail))
          exact ⟨agL, (), trivial, by rw [this]; exact ent_refl _, trivial⟩
    · rintro _ g _ _ rfl
      simp only [sets]
      (repeat' (first | refine r_seq ?_ | (show SH _ _ _ _ _ (_ :: _) _ _ _; first | refine mov evL ?_ | refine asg evL ?_ | refine add rfl rfl inL ?_) | refine s_nil ?_ | refine kh_normal ?_))
      refine ⟨agL, i + 1, ⟨congrArg (Value.int .i64) (by omega), trivial⟩, ?_, ⟨by omega, by omega⟩, by omega⟩
      show Ent _ (orow _ _ _ (P ++ sortK Lot.till (X.take (i + 1)) ++ X.drop (i + 1) ++ S) :: H)
      rw [hstep, List.append_assoc _ (X.drop (i + 1)), hRe]
      exact ent_refl _
  · have hie : i = X.length := by omega
    subst hie
    (repeat' (first | (show VH _ _ _ _ _ _ _; first | refine v_seq ?_ | refine r_seq ?_ | refine v_exit ?_ | refine v_cond_f rfl tbL ?_) | (show SH _ _ _ _ _ (_ :: _) _ _ _; first | refine mov evL ?_ | refine lss rfl rfl ?_) | refine s_nil ?_ | refine kh_normal ?_ | refine kh_exit ?_ | refine bh_exit ?_))
    refine rh0n rfl rfl ?_
    rw [List.take_length, List.drop_length, List.append_nil]
    exact ent_refl _
end Go.Proofs.Ytehjdbgijibmcaa
