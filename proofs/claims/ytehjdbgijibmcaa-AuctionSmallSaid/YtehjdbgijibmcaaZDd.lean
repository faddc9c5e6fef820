/- Sorting of lots: merging, where one part is one lot. -/
import Derived.Test.YtehjdbgijibmcaaZDc
set_option linter.unusedSimpArgs false
set_option linter.unusedVariables false
namespace Go.Proofs.Ytehjdbgijibmcaa
open Go.Fw Go.RowKit
set_option maxHeartbeats 1000000 in
set_option maxRecDepth 100000 in
theorem sym1_spec (A : Option Addr) (P V S l : List Lot) (x : Lot) (cp a m b k : Nat) (g0 : FuncId) (hC : CmpT g0) (w0 : World) (H : List HP) (w : World) (hlP : l = P ++ [x] ++ V ++ S) (hk : k = l.length) (hl : l.length ≤ 1000000) (ha : a = P.length) (hm : m = P.length + 1) (hb : b = P.length + 1 + V.length)
    (hV : SrtK Lot.till V) (hw : Wd w0 (orow 38 A cp l :: H) w) :
    Ret Try.prog 73 [.slice A k cp, .int .i64 a, .int .i64 m, .int .i64 b, .func (.func g0) #[] #[]].toArray w (RP w0 fun _ H' => H' = orow 38 A cp (P ++ merK Lot.till [x] V ++ S) :: H) := by
  subst hk
  have hlen : l.length = P.length + 1 + V.length + S.length := by rw [hlP]; simp only [List.length_append, List.length_cons, List.length_nil]
  have hal : a ≤ l.length := by omega
  have hbl : b ≤ l.length := by omega
  have hgx : l.getD a Flat.dflt = x := by rw [hlP, ha]; exact seg_get1 _ P [x] V S (k := 0) (by simp)
  have hgv : ∀ q, q < V.length → l.getD (P.length + 1 + q) Flat.dflt = V.getD q Flat.dflt := fun q hq => by rw [hlP]; exact seg_get2 _ P [x] V S hq
  have hl0 : l = P ++ putAt V 0 x ++ S := by rw [hlP, putAt_zero]; simp
  refine enterH Try.func73 rfl rfl Try.ntmps73 rfl (by assumption) ?_
  (repeat' (first | (show VH _ _ _ _ _ _ _; first | refine v_seq ?_ | refine r_seq ?_ | refine v_cond_t rfl tbL ?_) | (show SH _ _ _ _ _ (_ :: _) _ _ _; first | refine mov evL ?_ | refine asg evL ?_ | (show SH _ _ _ _ _ (⟨_, .binOp _ _ _ _ _, _, _, _, _⟩ :: _) _ _ _; first | refine sub rfl rfl inL ?_ | refine eql rfl rfl ?_)) | refine s_nil ?_ | refine kh_normal ?_))
  refine v_cut [(10, 12), (31, 53)] (fun j : Nat => [(10, .int .i64 ((m : Int) + j))]) (fun _ => orow 38 A cp l :: H) (fun j => j ≤ V.length ∧ (∀ y ∈ V.take j, y.till < x.till) ∧ ∀ y ∈ V.drop j, ¬ y.till < x.till) ?_ ?_ ent_vh
  · (repeat' (refine v_block ?_))
    refine v_loop0 [(10,12),(31,53)] (fun y : Nat × Nat => [(10, .int .i64 ((m : Int) + y.1)), (11, .int .i64 ((m : Int) + y.2))]) (fun y => y.1 ≤ y.2 ∧ y.2 ≤ V.length ∧ (∀ z ∈ V.take y.1, z.till < x.till) ∧ ∀ z ∈ V.drop y.2, ¬ z.till < x.till) (fun y => y.2 - y.1) (0, V.length) ?_ ⟨Nat.zero_le _, Nat.le_refl _, by simp, by simp⟩ ?_
    · refine ⟨congrArg (Value.int .i64) (by simp only []; omega), congrArg (Value.int .i64) (by simp only []; omega), trivial⟩
    rintro ⟨lo, hi⟩ g ⟨hlh, hhi, h1, h2⟩
    simp only [sets]
    simp only at hlh hhi h1 h2
    by_cases hlt : lo < hi
    · have e : ((m : Int) + (lo : Int) + ((m : Int) + (hi : Int))) / 2 = (m : Int) + (((lo + hi) / 2 : Nat) : Int) := by omega
      have hq : (lo + hi) / 2 < V.length := by omega
      have hg2 := hgv _ hq
      have e2 : ((m : Int) + (((lo + hi) / 2 : Nat) : Int)).toNat = P.length + 1 + (lo + hi) / 2 := by omega
      rw [← e2] at hg2
      have hql : lo ≤ (lo + hi) / 2 := by omega
      have hqh : (lo + hi) / 2 < hi := by omega
      (repeat' (first | (show VH _ _ _ _ _ _ _; first | refine v_seq ?_ | refine r_seq ?_ | refine v_block ?_ | refine v_skip ?_ | refine v_cond_t rfl tbL ?_) | (show SH _ _ _ _ _ (_ :: _) _ _ _; first | refine mov evL ?_ | refine asg evL ?_ | (show SH _ _ _ _ _ (⟨_, .binOp _ _ _ _ _, _, _, _, _⟩ :: _) _ _ _; first | refine add rfl rfl inL ?_ | refine lss rfl rfl ?_ | refine sh1 rfl rfl ?_) | refine c64 rfl inL ?_ | refine cu64 rfl omL omL ?_) | refine s_nil ?_ | refine kh_normal ?_))
      rw [e]
      generalize (lo + hi) / 2 = q at e2 hg2 hq hql hqh ⊢
      refine r_quiet hmix (by kernel_rfl) ?_
      (repeat' (first | (show VH _ _ _ _ _ _ _; first | refine r_seq ?_ | refine v_cond_dec rfl (fun h => ?_) (fun h => ?_)) | (show SH _ _ _ _ _ (_ :: _) _ _ _; first | refine mov evL ?_ | refine asg evL ?_ | (show SH _ _ _ _ _ (⟨_, .binOp _ _ _ _ _, _, _, _, _⟩ :: _) _ _ _; first | refine add rfl rfl inL ?_ | refine lss rfl rfl ?_) | refine lra rfl (fun _ _ => rdL) (by rfl) omL ?_ | (show SH _ _ _ _ _ (⟨_, .indexAddr _ _ _, _, _, _, _⟩ :: _) _ _ _; first | refine ix rfl rfl (by with_reducible rfl) (fun _ _ => rdL) (by rfl) omL omL ?_ | refine ixi rfl rfl (fun _ _ => rdL) (by rfl) omL omL omL ?_) | (show SH _ _ _ _ _ (⟨_, .call ⟨.value (.tmp _), _, _⟩, _, _, _, _⟩ :: _) _ _ _; refine cl (callee := .tmp _) rfl (fun w hw => hC w _ _) rfl rfl ?_)) | refine s_nil ?_ | refine kh_normal ?_ | refine bh_normal ?_))
      · rw [cmp3_neg, hgx, hg2] at h
        exact ⟨agL, (q + 1, hi), ⟨congrArg (Value.int .i64) (by simp only []; omega), rfl, trivial⟩, enL, ⟨by show q + 1 ≤ hi; omega, hhi, srt_below Flat.dflt hV hq h, h2⟩, by show hi - (q + 1) < hi - lo; omega⟩
      · rw [cmp3_neg, hgx, hg2] at h
        exact ⟨agL, (lo, q), ⟨rfl, rfl, trivial⟩, enL, ⟨by show lo ≤ q; omega, by show q ≤ V.length; omega, h1, srt_above' Flat.dflt hV h⟩, by show q - lo < hi - lo; omega⟩
    · have : lo = hi := by omega
      subst this
      (repeat' (first | (show VH _ _ _ _ _ _ _; first | refine v_seq ?_ | refine r_seq ?_ | refine v_exit ?_ | refine v_cond_f rfl tbL ?_) | (show SH _ _ _ _ _ (_ :: _) _ _ _; first | refine mov evL ?_ | refine lss rfl rfl ?_) | refine s_nil ?_ | refine kh_normal ?_ | refine kh_exit ?_ | refine bh_exit ?_))
      exact ⟨agL, lo, ⟨rfl, trivial⟩, enL, ⟨hhi, h1, h2⟩⟩
  rintro j g ⟨hj, h1, h2⟩ _ rfl
  simp only [sets]
  have hmer := mer_one_left hV h1 h2
  (repeat' (first | (show VH _ _ _ _ _ _ _; first | refine v_seq ?_ | refine r_seq ?_ | refine v_block ?_) | (show SH _ _ _ _ _ (_ :: _) _ _ _; first | refine mov evL ?_ | refine asg evL ?_) | refine s_nil ?_ | refine kh_normal ?_))
  refine v_loop [(13,13),(55,76)] (fun c : Nat => [(13, .int .i64 ((a : Int) + c))]) (fun c => orow 38 A cp (P ++ putAt V c x ++ S) :: H) (fun c => c ≤ j) (fun c => j - c) 0 ⟨congrArg (Value.int .i64) (by omega), trivial⟩ (by rw [← hl0]; exact ent_refl _) (Nat.zero_le _) ?_
  rintro c g hc
  have hLl : (P ++ putAt V c x ++ S).length = l.length := by simp only [List.length_append, putAt_len]; omega
  have hsw := fun h => putAt_next (Flat.dflt : Lot) P V S x (q := c) h
  simp only [sets]
  generalize he : P ++ putAt V c x ++ S = L at hLl hsw ⊢
  by_cases hcj : c < j
  · have e1 : ((a : Int) + (c : Int)).toNat = P.length + c := by omega
    have e2 : ((a : Int) + (c : Int) + 1).toNat = P.length + c + 1 := by omega
    refine v_some spL (by omega) (fun hA => ?_)
    (repeat' (first | (show VH _ _ _ _ _ _ _; first | refine v_seq ?_ | refine r_seq ?_ | refine v_block ?_ | refine v_skip ?_ | refine v_cond_t rfl tbL ?_) | (show SH _ _ _ _ _ (_ :: _) _ _ _; first | refine mov evL ?_ | (show SH _ _ _ _ _ (⟨_, .binOp _ _ _ _ _, _, _, _, _⟩ :: _) _ _ _; first | refine sub rfl rfl inL ?_ | refine lss rfl rfl ?_)) | refine s_nil ?_ | refine kh_normal ?_))
    refine r_heldT [] (tr [(0, true), (1, true), (2, true), (3, true), (4, true), (5, true), (6, true), (7, true), (8, true), (10, true), (11, true), (12, true)] (.fork 9 (tr [(13, false), (14, false), (15, false), (16, false), (17, false)] .nil) 13 (tr [(9, false), (14, false), (15, false), (16, false), (17, false)] .nil))) hmix (by kernel_rfl) (ent_nil _) ?_
    (repeat' ((show SH _ _ _ _ _ (_ :: _) _ _ _; first | refine mov evL ?_ | refine add rfl rfl inL ?_ | refine ixq rfl rfl (by assumption) omL omL ?_)))
    refine s_fork ?_ ?_
    all_goals
      (repeat' ((show SH _ _ _ _ _ (_ :: _) _ _ _; first | refine lra rfl (fun _ _ => rdL) (by rfl) omL ?_ | refine ixi rfl rfl (fun _ _ => rdL) (by rfl) omL omL omL ?_)))
      refine stv (L.getD ((a : Int) + (c : Int) + 1).toNat Flat.dflt) rfl rfl rfl spL rfl (by omega) rfl (ent_nil _) ?_
      (repeat' (refine ixq rfl rfl (by assumption) omL omL ?_))
      refine stv (L.getD ((a : Int) + (c : Int)).toNat Flat.dflt) rfl rfl rfl spL rfl (by rw [List.length_set]; omega) rfl (ent_nil _) ?_
      (repeat' (first | refine r_seq ?_ | (show SH _ _ _ _ _ (_ :: _) _ _ _; first | refine mov evL ?_ | refine asg evL ?_ | refine add rfl rfl inL ?_) | refine s_nil ?_ | refine kh_normal ?_ | refine bh_normal ?_))
      refine ⟨agL, c + 1, ⟨congrArg (Value.int .i64) (by omega), trivial⟩, ?_, by omega, by omega⟩
      show Ent _ (orow _ _ _ (P ++ putAt V (c + 1) x ++ S) :: H)
      rw [← hsw (by omega), swp, ← e2, ← e1]
      exact ent_refl _
  · have : c = j := by omega
    subst this
    (repeat' (first | (show VH _ _ _ _ _ _ _; first | refine v_seq ?_ | refine r_seq ?_ | refine v_ret ?_ | refine v_exit ?_ | refine v_cond_f rfl tbL ?_) | (show SH _ _ _ _ _ (_ :: _) _ _ _; first | refine mov evL ?_ | (show SH _ _ _ _ _ (⟨_, .binOp _ _ _ _ _, _, _, _, _⟩ :: _) _ _ _; first | refine sub rfl rfl inL ?_ | refine lss rfl rfl ?_)) | refine s_nil ?_ | refine kh_normal ?_ | refine kh_ret ?_ | refine kh_exit ?_ | refine bh_exit ?_))
    refine rh0 rfl rfl ?_
    rw [← he, hmer]
    exact ent_refl _
set_option maxHeartbeats 1000000 in
set_option maxRecDepth 100000 in
theorem sym2_spec (A : Option Addr) (P U S l : List Lot) (x : Lot) (cp a m b k : Nat) (g0 : FuncId) (hC : CmpT g0) (w0 : World) (H : List HP) (w : World) (hlP : l = P ++ U ++ [x] ++ S) (hk : k = l.length) (hl : l.length ≤ 1000000) (ha : a = P.length) (hm : m = P.length + U.length) (hb : b = P.length + U.length + 1)
    (hU2 : 2 ≤ U.length) (hU : SrtK Lot.till U) (hw : Wd w0 (orow 38 A cp l :: H) w) :
    Ret Try.prog 73 [.slice A k cp, .int .i64 a, .int .i64 m, .int .i64 b, .func (.func g0) #[] #[]].toArray w (RP w0 fun _ H' => H' = orow 38 A cp (P ++ merK Lot.till U [x] ++ S) :: H) := by
  subst hk
  have hlen : l.length = P.length + U.length + 1 + S.length := by rw [hlP]; simp only [List.length_append, List.length_cons, List.length_nil]
  have hal : a ≤ l.length := by omega
  have hml : m < l.length := by omega
  have hbl : b ≤ l.length := by omega
  have hgx : l.getD m Flat.dflt = x := by rw [hlP, hm]; exact seg_get2 _ P U [x] S (k := 0) (by simp)
  have hgv : ∀ q, q < U.length → l.getD (P.length + q) Flat.dflt = U.getD q Flat.dflt := fun q hq => by rw [hlP]; exact seg_get1 _ P U [x] S hq
  have hl0 : l = P ++ putAt U U.length x ++ S := by rw [hlP, putAt_end]; simp
  refine enterH Try.func73 rfl rfl Try.ntmps73 rfl (by assumption) ?_
  (repeat' (first | (show VH _ _ _ _ _ _ _; first | refine v_seq ?_ | refine r_seq ?_ | refine v_skip ?_ | refine v_cond_t rfl tbL ?_ | refine v_cond_f rfl tbL ?_) | (show SH _ _ _ _ _ (_ :: _) _ _ _; first | refine mov evL ?_ | refine asg evL ?_ | (show SH _ _ _ _ _ (⟨_, .binOp _ _ _ _ _, _, _, _, _⟩ :: _) _ _ _; first | refine sub rfl rfl inL ?_ | refine eql rfl rfl ?_)) | refine s_nil ?_ | refine kh_normal ?_))
  refine v_cut [(14, 16), (83, 106)] (fun j : Nat => [(14, .int .i64 ((a : Int) + j))]) (fun _ => orow 38 A cp l :: H) (fun j => j ≤ U.length ∧ (∀ y ∈ U.take j, ¬ x.till < y.till) ∧ ∀ y ∈ U.drop j, x.till < y.till) ?_ ?_ ent_vh
  · (repeat' (refine v_block ?_))
    refine v_loop0 [(14,16),(83,106)] (fun y : Nat × Nat => [(14, .int .i64 ((a : Int) + y.1)), (15, .int .i64 ((a : Int) + y.2))]) (fun y => y.1 ≤ y.2 ∧ y.2 ≤ U.length ∧ (∀ z ∈ U.take y.1, ¬ x.till < z.till) ∧ ∀ z ∈ U.drop y.2, x.till < z.till) (fun y => y.2 - y.1) (0, U.length) ?_ ⟨Nat.zero_le _, Nat.le_refl _, by simp, by simp⟩ ?_
    · refine ⟨congrArg (Value.int .i64) (by simp only []; omega), congrArg (Value.int .i64) (by simp only []; omega), trivial⟩
    rintro ⟨lo, hi⟩ g ⟨hlh, hhi, h1, h2⟩
    simp only [sets]
    simp only at hlh hhi h1 h2
    by_cases hlt : lo < hi
    · have e : ((a : Int) + (lo : Int) + ((a : Int) + (hi : Int))) / 2 = (a : Int) + (((lo + hi) / 2 : Nat) : Int) := by omega
      have hq : (lo + hi) / 2 < U.length := by omega
      have hg2 := hgv _ hq
      have e2 : ((a : Int) + (((lo + hi) / 2 : Nat) : Int)).toNat = P.length + (lo + hi) / 2 := by omega
      rw [← e2] at hg2
      have hql : lo ≤ (lo + hi) / 2 := by omega
      have hqh : (lo + hi) / 2 < hi := by omega
      (repeat' (first | (show VH _ _ _ _ _ _ _; first | refine v_seq ?_ | refine r_seq ?_ | refine v_block ?_ | refine v_skip ?_ | refine v_cond_t rfl tbL ?_) | (show SH _ _ _ _ _ (_ :: _) _ _ _; first | refine mov evL ?_ | refine asg evL ?_ | (show SH _ _ _ _ _ (⟨_, .binOp _ _ _ _ _, _, _, _, _⟩ :: _) _ _ _; first | refine add rfl rfl inL ?_ | refine lss rfl rfl ?_ | refine sh1 rfl rfl ?_) | refine c64 rfl inL ?_ | refine cu64 rfl omL omL ?_) | refine s_nil ?_ | refine kh_normal ?_))
      rw [e]
      generalize (lo + hi) / 2 = q at e2 hg2 hq hql hqh ⊢
      refine r_quiet hmix (by kernel_rfl) ?_
      (repeat' (first | (show VH _ _ _ _ _ _ _; first | refine r_seq ?_ | refine v_cond_ndec rfl (fun h => ?_) (fun h => ?_)) | (show SH _ _ _ _ _ (_ :: _) _ _ _; first | refine mov evL ?_ | refine asg evL ?_ | (show SH _ _ _ _ _ (⟨_, .binOp _ _ _ _ _, _, _, _, _⟩ :: _) _ _ _; first | refine add rfl rfl inL ?_ | refine lss rfl rfl ?_) | refine lra rfl (fun _ _ => rdL) (by rfl) omL ?_ | (show SH _ _ _ _ _ (⟨_, .indexAddr _ _ _, _, _, _, _⟩ :: _) _ _ _; first | refine ix rfl rfl (by with_reducible rfl) (fun _ _ => rdL) (by rfl) omL omL ?_ | refine ixi rfl rfl (fun _ _ => rdL) (by rfl) omL omL omL ?_) | (show SH _ _ _ _ _ (⟨_, .call ⟨.value (.tmp _), _, _⟩, _, _, _, _⟩ :: _) _ _ _; refine cl (callee := .tmp _) rfl (fun w hw => hC w _ _) rfl rfl ?_) | refine bnot rfl ?_) | refine s_nil ?_ | refine kh_normal ?_ | refine bh_normal ?_))
      · rw [cmp3_neg, hgx, hg2] at h
        exact ⟨agL, (q + 1, hi), ⟨congrArg (Value.int .i64) (by simp only []; omega), rfl, trivial⟩, enL, ⟨by show q + 1 ≤ hi; omega, hhi, srt_below' Flat.dflt hU hq h, h2⟩, by show hi - (q + 1) < hi - lo; omega⟩
      · rw [cmp3_neg, hgx, hg2] at h
        exact ⟨agL, (lo, q), ⟨rfl, rfl, trivial⟩, enL, ⟨by show lo ≤ q; omega, by show q ≤ U.length; omega, h1, srt_above Flat.dflt hU h⟩, by show q - lo < hi - lo; omega⟩
    · have : lo = hi := by omega
      subst this
      (repeat' (first | (show VH _ _ _ _ _ _ _; first | refine v_seq ?_ | refine r_seq ?_ | refine v_exit ?_ | refine v_cond_f rfl tbL ?_) | (show SH _ _ _ _ _ (_ :: _) _ _ _; first | refine mov evL ?_ | refine lss rfl rfl ?_) | refine s_nil ?_ | refine kh_normal ?_ | refine kh_exit ?_ | refine bh_exit ?_))
      exact ⟨agL, lo, ⟨rfl, trivial⟩, enL, ⟨hhi, h1, h2⟩⟩
  rintro j g ⟨hj, h1, h2⟩ _ rfl
  simp only [sets]
  have hmer := mer_one_right hU h1 h2
  (repeat' (first | (show VH _ _ _ _ _ _ _; first | refine v_seq ?_ | refine r_seq ?_ | refine v_block ?_) | (show SH _ _ _ _ _ (_ :: _) _ _ _; first | refine mov evL ?_ | refine asg evL ?_) | refine s_nil ?_ | refine kh_normal ?_))
  refine v_loop [(17,17),(108,128)] (fun c : Nat => [(17, .int .i64 ((a : Int) + c))]) (fun c => orow 38 A cp (P ++ putAt U c x ++ S) :: H) (fun c => j ≤ c ∧ c ≤ U.length) (fun c => c - j) U.length ⟨congrArg (Value.int .i64) (by omega), trivial⟩ (by rw [← hl0]; exact ent_refl _) ⟨hj, Nat.le_refl _⟩ ?_
  rintro c g ⟨hc, hcl⟩
  have hLl : (P ++ putAt U c x ++ S).length = l.length := by simp only [List.length_append, putAt_len]; omega
  have hsw := fun h0 => putAt_swap (Flat.dflt : Lot) P U S x (q := c) h0 (by omega)
  simp only [sets]
  generalize he : P ++ putAt U c x ++ S = L at hLl hsw ⊢
  by_cases hcj : j < c
  · have e1 : ((a : Int) + (c : Int)).toNat = P.length + c := by omega
    have e2 : ((a : Int) + (c : Int) - 1).toNat = P.length + c - 1 := by omega
    refine v_some spL (by omega) (fun hA => ?_)
    (repeat' (first | (show VH _ _ _ _ _ _ _; first | refine v_seq ?_ | refine r_seq ?_ | refine v_block ?_ | refine v_skip ?_ | refine v_cond_t rfl tbL ?_) | (show SH _ _ _ _ _ (_ :: _) _ _ _; first | refine mov evL ?_ | refine gtr rfl rfl ?_) | refine s_nil ?_ | refine kh_normal ?_))
    refine r_heldT [] (tr [(0, true), (1, true), (2, true), (3, true), (4, true), (5, true), (6, true), (7, true), (8, true), (10, true), (11, true), (12, true)] (.fork 9 (tr [(13, false), (14, false), (15, false), (16, false), (17, false)] .nil) 13 (tr [(9, false), (14, false), (15, false), (16, false), (17, false)] .nil))) hmix (by kernel_rfl) (ent_nil _) ?_
    (repeat' ((show SH _ _ _ _ _ (_ :: _) _ _ _; first | refine mov evL ?_ | refine sub rfl rfl inL ?_ | refine ixq rfl rfl (by assumption) omL omL ?_)))
    refine s_fork ?_ ?_
    all_goals
      (repeat' ((show SH _ _ _ _ _ (_ :: _) _ _ _; first | refine lra rfl (fun _ _ => rdL) (by rfl) omL ?_ | refine ixi rfl rfl (fun _ _ => rdL) (by rfl) omL omL omL ?_)))
      refine stv (L.getD ((a : Int) + (c : Int) - 1).toNat Flat.dflt) rfl rfl rfl spL rfl (by omega) rfl (ent_nil _) ?_
      (repeat' (refine ixq rfl rfl (by assumption) omL omL ?_))
      refine stv (L.getD ((a : Int) + (c : Int)).toNat Flat.dflt) rfl rfl rfl spL rfl (by rw [List.length_set]; omega) rfl (ent_nil _) ?_
      (repeat' (first | refine r_seq ?_ | (show SH _ _ _ _ _ (_ :: _) _ _ _; first | refine mov evL ?_ | refine asg evL ?_ | refine sub rfl rfl inL ?_) | refine s_nil ?_ | refine kh_normal ?_ | refine bh_normal ?_))
      refine ⟨agL, c - 1, ⟨congrArg (Value.int .i64) (by omega), trivial⟩, ?_, ⟨by omega, by omega⟩, by omega⟩
      show Ent _ (orow _ _ _ (P ++ putAt U (c - 1) x ++ S) :: H)
      rw [← hsw (by omega), swp, ← e2, ← e1]
      exact ent_refl _
  · have : c = j := by omega
    subst this
    (repeat' (first | (show VH _ _ _ _ _ _ _; first | refine v_seq ?_ | refine r_seq ?_ | refine v_ret ?_ | refine v_exit ?_ | refine v_cond_f rfl tbL ?_) | (show SH _ _ _ _ _ (_ :: _) _ _ _; first | refine mov evL ?_ | refine gtr rfl rfl ?_) | refine s_nil ?_ | refine kh_normal ?_ | refine kh_ret ?_ | refine kh_exit ?_ | refine bh_exit ?_))
    refine rh0 rfl rfl ?_
    rw [← he, hmer]
    exact ent_refl _
end Go.Proofs.Ytehjdbgijibmcaa
