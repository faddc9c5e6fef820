/- Sorting of lots: slices.SortStableFunc at fewer than 40 lots. -/
import Derived.Test.YtehjdbgijibmcaaZDe
set_option linter.unusedSimpArgs false
set_option linter.unusedVariables false
namespace Go.Proofs.Ytehjdbgijibmcaa
open Go.Fw Go.RowKit
def rowK (l : List Lot) (k : Nat) : List Lot := sortK Lot.till (l.take (20 * k)) ++ l.drop (20 * k)
def rowJ (l : List Lot) (k j : Nat) : List Lot := if j = 0 then sortK Lot.till (l.take (20 * k)) ++ sortK Lot.till (l.drop (20 * k)) else sortK Lot.till l
theorem rowK_len (l : List Lot) (k : Nat) : (rowK l k).length = l.length := by
  simp only [rowK, List.length_append, sortK_len, List.length_take, List.length_drop]; omega
theorem rowJ_len (l : List Lot) (k j : Nat) : (rowJ l k j).length = l.length := by
  unfold rowJ
  split
  · simp only [List.length_append, sortK_len, List.length_take, List.length_drop]; omega
  · rw [sortK_len]
theorem sort_nil : sortK Lot.till ([] : List Lot) = [] := rfl
set_option maxHeartbeats 1000000 in
set_option maxRecDepth 100000 in
theorem stable_spec (A : Option Addr) (l : List Lot) (cp n : Nat) (g0 : FuncId) (hC : CmpT g0) (w0 : World) (H : List HP) (w : World) (hn : n = l.length) (hl : l.length < 40) (hw : Wd w0 (orow 38 A cp l :: H) w) :
    Ret Try.prog 67 [.slice A n cp, .int .i64 n, .func (.func g0) #[] #[]].toArray w (RP w0 fun _ H' => H' = orow 38 A cp (sortK Lot.till l) :: H) := by
  refine enterH Try.func67 rfl rfl Try.ntmps67 rfl (by assumption) ?_
  (repeat' (first | (show VH _ _ _ _ _ _ _; first | refine v_seq ?_ | refine r_seq ?_) | (show SH _ _ _ _ _ (_ :: _) _ _ _; first | refine mov evL ?_ | refine asg evL ?_) | refine s_nil ?_ | refine kh_normal ?_))
  refine v_cut [(7, 8), (11, 22)] (fun k : Nat => [(7, .int .i64 ((20 * k : Nat) : Int))]) (fun k => orow 38 A cp (rowK l k) :: H) (fun k => k ≤ 1 ∧ 20 * k ≤ n ∧ n < 20 + 20 * k) ?_ ?_ ent_vh
  · (repeat' (refine v_block ?_))
    refine v_loop [(7,8),(11,22)] (fun k : Nat => [(7, .int .i64 ((20 * k : Nat) : Int)), (8, .int .i64 ((20 + 20 * k : Nat) : Int))]) (fun k => orow 38 A cp (rowK l k) :: H) (fun k => k ≤ 1 ∧ 20 * k ≤ n) (fun k => 1 - k) 0 hsL (by show Ent _ (orow _ _ _ (rowK l 0) :: H); simp only [rowK, Nat.mul_zero, List.take_zero, List.drop_zero, sort_nil, List.nil_append]; exact ent_refl _) ⟨by omega, by omega⟩ ?_
    rintro k g ⟨hk, hkn⟩
    have hrl := rowK_len l k
    simp only [sets]
    by_cases hlt : 20 + 20 * k ≤ n
    · have hk0 : k = 0 := by omega
      subst hk0
      have h20 : (l.take 20).length = 20 := by rw [List.length_take]; omega
      (repeat' (first | (show VH _ _ _ _ _ _ _; first | refine v_seq ?_ | refine r_seq ?_ | refine v_block ?_ | refine v_skip ?_ | refine v_cond_t rfl tbL ?_) | (show SH _ _ _ _ _ (_ :: _) _ _ _; first | refine mov evL ?_ | refine leq rfl rfl ?_) | refine s_nil ?_ | refine kh_normal ?_))
      refine cm rfl (fun w hw => insSort_spec A [] (l.take 20) (l.drop 20) _ cp 0 20 n g0 hC w0 _ w ?_ (by rw [hrl]; exact hn) (by omega) rfl (by rw [h20]; rfl) hw) rfl rfl ?_
      · simp only [rowK, Nat.mul_zero, List.take_zero, List.drop_zero, sort_nil, List.nil_append, List.take_append_drop]
      rintro _ _ rfl
      refine ⟨trivial, ?_⟩
      (repeat' (first | (show VH _ _ _ _ _ _ _; first | refine v_seq ?_ | refine r_seq ?_) | (show SH _ _ _ _ _ (_ :: _) _ _ _; first | refine mov evL ?_ | refine asg evL ?_ | refine add rfl rfl inL ?_) | refine s_nil ?_ | refine kh_normal ?_ | refine bh_normal ?_))
      exact ⟨agL, 1, ⟨rfl, rfl, trivial⟩, ent_refl _, ⟨Nat.le_refl _, by omega⟩, by omega⟩
    · (repeat' (first | (show VH _ _ _ _ _ _ _; first | refine v_seq ?_ | refine r_seq ?_ | refine v_exit ?_ | refine v_cond_f rfl tbL ?_) | (show SH _ _ _ _ _ (_ :: _) _ _ _; first | refine mov evL ?_ | refine leq rfl rfl ?_) | refine s_nil ?_ | refine kh_normal ?_ | refine kh_exit ?_ | refine bh_exit ?_))
      exact ⟨agL, k, ⟨rfl, trivial⟩, ent_refl _, ⟨hk, hkn, by omega⟩⟩
  rintro k g ⟨hk, hkn, hnk⟩ _ rfl
  have hrl := rowK_len l k
  simp only [sets]
  have htl : (l.take (20 * k)).length = 20 * k := by rw [List.length_take]; omega
  have hdl : (l.drop (20 * k)).length = n - 20 * k := by rw [List.length_drop]; omega
  (repeat' (first | (show VH _ _ _ _ _ _ _; first | refine v_seq ?_ | refine r_seq ?_) | refine mov evL ?_))
  refine cm rfl (fun w hw => insSort_spec A (sortK Lot.till (l.take (20 * k))) (l.drop (20 * k)) [] _ cp (20 * k) n n g0 hC w0 _ w (by rw [rowK, List.append_nil]) (by rw [hrl]; exact hn) (by omega) (by rw [sortK_len, htl]) (by rw [sortK_len, htl, hdl]; omega) hw) rfl rfl ?_
  rintro _ _ rfl
  refine ⟨trivial, ?_⟩
  (repeat' (first | refine s_nil ?_ | refine kh_normal ?_))
  refine v_norm [(0,_),(1,_),(2,_),(6,_)] heL (fun g => ?_)
  (repeat' (refine v_block ?_))
  refine v_loop [(6,9),(28,62)] (fun j : Nat => [(6, .int .i64 ((20 + 20 * j : Nat) : Int))]) (fun j => orow 38 A cp (rowJ l k j) :: H) (fun j => j ≤ 1) (fun j => 1 - j) 0 hsL (by show Ent _ (orow _ _ _ (rowJ l k 0) :: H); rw [rowJ, if_pos rfl, List.append_nil]; exact ent_refl _) (by omega) ?_
  rintro j g hj
  have hjl := rowJ_len l k j
  simp only [sets]
  by_cases hlt : j = 0 ∧ 20 < n
  · obtain ⟨rfl, h20⟩ := hlt
    have hk1 : k = 1 := by omega
    subst hk1
    have hs1 : (sortK Lot.till (l.take 20)).length = 20 := by rw [sortK_len, List.length_take]; omega
    have hs2 : (sortK Lot.till (l.drop 20)).length = n - 20 := by rw [sortK_len, List.length_drop]; omega
    have hfin : [] ++ merK Lot.till (sortK Lot.till (l.take 20)) (sortK Lot.till (l.drop 20)) ++ [] = rowJ l 1 1 := by
      rw [List.append_nil, List.nil_append, ← sortK_append, List.take_append_drop]; rfl
    (repeat' (first | (show VH _ _ _ _ _ _ _; first | refine v_seq ?_ | refine r_seq ?_ | refine v_skip ?_ | refine v_cond_t rfl tbL ?_) | (show SH _ _ _ _ _ (_ :: _) _ _ _; first | refine mov evL ?_ | refine lss rfl rfl ?_) | refine s_nil ?_ | refine kh_normal ?_))
    refine v_block ?_
    (repeat' (first | (show VH _ _ _ _ _ _ _; first | refine v_seq ?_ | refine r_seq ?_) | (show SH _ _ _ _ _ (_ :: _) _ _ _; first | refine mov evL ?_ | refine asg evL ?_ | refine mul rfl rfl inL ?_) | refine s_nil ?_ | refine kh_normal ?_))
    refine v_cut0 [(7, 8), (33, 48)] (fun _ : Unit => [(7, .int .i64 0)]) (fun _ => True) ?_ ?_ ent_vh
    · (repeat' (refine v_block ?_))
      refine v_loop_none ?_
      (repeat' (first | (show VH _ _ _ _ _ _ _; first | refine v_seq ?_ | refine r_seq ?_ | refine v_exit ?_ | refine v_cond_f rfl tbL ?_) | (show SH _ _ _ _ _ (_ :: _) _ _ _; first | refine mov evL ?_ | refine leq rfl rfl ?_) | refine s_nil ?_ | refine kh_normal ?_ | refine kh_exit ?_ | refine bh_exit ?_))
      exact ⟨agL, (), ⟨rfl, trivial⟩, ent_refl _, trivial⟩
    rintro _ g _
    simp only [sets]
    (repeat' (first | (show VH _ _ _ _ _ _ _; first | refine v_seq ?_ | refine r_seq ?_ | refine v_cond_t rfl tbL ?_) | (show SH _ _ _ _ _ (_ :: _) _ _ _; first | refine mov evL ?_ | refine asg evL ?_ | (show SH _ _ _ _ _ (⟨_, .binOp _ _ _ _ _, _, _, _, _⟩ :: _) _ _ _; first | refine add rfl rfl inL ?_ | refine lss rfl rfl ?_)) | refine s_nil ?_ | refine kh_normal ?_))
    refine cm rfl (fun w hw => symOK g0 hC n A [] (sortK Lot.till (l.take 20)) (sortK Lot.till (l.drop 20)) [] _ cp 0 20 n n w0 _ w (by omega) (by rw [List.append_nil]; rfl) (by rw [hjl]; exact hn) (by omega) rfl (by rw [hs1]; rfl) (by rw [hs1, hs2]; simp only [List.length_nil]; omega) (by omega) (by omega) (sortK_srt _) (sortK_srt _) hw) rfl rfl ?_
    rintro _ _ rfl
    refine ⟨trivial, ?_⟩
    rw [hfin]
    (repeat' (first | refine r_seq ?_ | (show SH _ _ _ _ _ (_ :: _) _ _ _; first | refine mov evL ?_ | refine asg evL ?_ | refine mul rfl rfl inL ?_) | refine s_nil ?_ | refine kh_normal ?_ | refine bh_normal ?_))
    exact ⟨agL, 1, ⟨rfl, trivial⟩, ent_refl _, Nat.le_refl _, by omega⟩
  · have hfin : rowJ l k j = sortK Lot.till l := by
      unfold rowJ
      split
      · rename_i h
        have hn20 : n ≤ 20 := by omega
        by_cases hk1 : k = 0
        · subst hk1
          simp only [Nat.mul_zero, List.take_zero, List.drop_zero, sort_nil, List.nil_append]
        · have : k = 1 := by omega
          subst this
          rw [List.take_of_length_le (by omega), List.drop_of_length_le (by omega), sort_nil, List.append_nil]
      · rfl
    rw [hfin]
    have hge : (n : Int) ≤ ((20 + 20 * j : Nat) : Int) := by omega
    (repeat' (first | (show VH _ _ _ _ _ _ _; first | refine v_seq ?_ | refine r_seq ?_ | refine v_exit ?_ | refine v_cond_f rfl tbL ?_) | (show SH _ _ _ _ _ (_ :: _) _ _ _; first | refine mov evL ?_ | refine lss rfl rfl ?_) | refine s_nil ?_ | refine kh_normal ?_ | refine kh_exit ?_ | refine bh_exit ?_))
    exact rh0n rfl rfl (ent_refl _)
set_option maxRecDepth 100000 in
theorem sortStable_spec (A : Option Addr) (l : List Lot) (cp n : Nat) (g0 : FuncId) (hC : CmpT g0) (w0 : World) (H : List HP) (w : World) (hn : n = l.length) (hl : l.length < 40) (hw : Wd w0 (orow 38 A cp l :: H) w) :
    Ret Try.prog 58 [.slice A n cp, .func (.func g0) #[] #[]].toArray w (RP w0 fun _ H' => H' = orow 38 A cp (sortL l) :: H) := by
  refine enterH Try.func58 rfl rfl Try.ntmps58 rfl (by assumption) ?_
  (repeat' (first | refine r_seq ?_ | (show SH _ _ _ _ _ (_ :: _) _ _ _; first | refine mov evL ?_ | refine slen rfl ?_)))
  refine cm rfl (fun w hw => stable_spec A l cp n g0 hC w0 _ w hn hl hw) rfl rfl ?_
  rintro _ _ rfl
  refine ⟨trivial, ?_⟩
  (repeat' (refine s_nil ?_))
  exact rh0n rfl rfl (ent_refl _)
end Go.Proofs.Ytehjdbgijibmcaa
