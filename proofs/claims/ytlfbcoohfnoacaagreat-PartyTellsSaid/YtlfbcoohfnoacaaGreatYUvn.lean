/- Package slices: Repeat. Package party: Share, Of. -/
import Derived.Test.YtlfbcoohfnoacaaGreatYTwp
import Derived.Test.YtlfbcoohfnoacaaGreatYMp
import Derived.Test.YtlfbcoohfnoacaaGreatYWz
import Derived.Test.YtlfbcoohfnoacaaGreatYUvd
import Derived.Test.YtlfbcoohfnoacaaGreatYPa
set_option linter.unusedSimpArgs false
set_option linter.unusedVariables false
namespace Go.Proofs.YtlfbcoohfnoacaaGreat
open Go.Fw Go.RowKit
set_option maxHeartbeats 1000000 in
set_option maxRecDepth 100000 in
theorem mul64_spec (n : Nat) (h1 : 1 ≤ n) (h5 : n ≤ 5) (w : World) : Ret Tryz.prog 113 [.int .u64 1, .int .u64 n].toArray w (Out w (.tuple #[.int .u64 0, .int .u64 n])) := by
  have a1 : bandK .u64 1 4294967295 = 1 := by decide
  have a0 : bandK .u64 0 4294967295 = 0 := by decide
  have s0 : (0 : Int).fdiv (2 ^ (min (Int.toNat 32) (IntKind.bits .u64))) = 0 := by decide
  have s1 : (1 : Int).fdiv (2 ^ (min (Int.toNat 32) (IntKind.bits .u64))) = 0 := by decide
  have m2 : IntKind.wrap .u64 (1 * 0) = 0 := by decide
  have m3 : IntKind.wrap .u64 (0 * 0) = 0 := by decide
  have p0 : IntKind.wrap .u64 (0 + 0) = 0 := by decide
  have hn : n = 1 ∨ n = 2 ∨ n = 3 ∨ n = 4 ∨ n = 5 := by omega
  have an : bandK .u64 (n : Int) 4294967295 = n := by rcases hn with rfl | rfl | rfl | rfl | rfl <;> decide
  have sn : (n : Int).fdiv (2 ^ (min (Int.toNat 32) (IntKind.bits .u64))) = 0 := by rcases hn with rfl | rfl | rfl | rfl | rfl <;> decide
  have m1 : IntKind.wrap .u64 (1 * (n : Int)) = n := by rcases hn with rfl | rfl | rfl | rfl | rfl <;> decide
  have m0 : IntKind.wrap .u64 (0 * (n : Int)) = 0 := by rcases hn with rfl | rfl | rfl | rfl | rfl <;> decide
  clear hn h1 h5
  refine enterH Tryz.func113 rfl rfl Tryz.ntmps113 rfl (Wd.refl _) ?_
  (repeat' (first | (show VH _ _ _ _ _ _ _; first | refine v_seq ?_ | refine r_seq ?_) | (show SH _ _ _ _ _ (_ :: _) _ _ _; first | (show SH _ _ _ _ _ (⟨_, .move _, _, _, _, _⟩ :: _) _ _ _; refine mov evL ?_) | (show SH _ _ _ _ _ (⟨_, .assign _, _, _, _, _⟩ :: _) _ _ _; refine asg evL ?_)) | refine s_nil ?_ | refine kh_normal ?_))
  refine andw rfl rfl 1 a1 ?_
  (repeat' (first | (show VH _ _ _ _ _ _ _; first | refine v_seq ?_ | refine r_seq ?_) | (show SH _ _ _ _ _ (_ :: _) _ _ _; first | (show SH _ _ _ _ _ (⟨_, .move _, _, _, _, _⟩ :: _) _ _ _; refine mov evL ?_) | (show SH _ _ _ _ _ (⟨_, .assign _, _, _, _, _⟩ :: _) _ _ _; refine asg evL ?_)) | refine s_nil ?_ | refine kh_normal ?_))
  refine shrw rfl rfl (by decide) 0 s1 ?_
  (repeat' (first | (show VH _ _ _ _ _ _ _; first | refine v_seq ?_ | refine r_seq ?_) | (show SH _ _ _ _ _ (_ :: _) _ _ _; first | (show SH _ _ _ _ _ (⟨_, .move _, _, _, _, _⟩ :: _) _ _ _; refine mov evL ?_) | (show SH _ _ _ _ _ (⟨_, .assign _, _, _, _, _⟩ :: _) _ _ _; refine asg evL ?_)) | refine s_nil ?_ | refine kh_normal ?_))
  refine andw rfl rfl (n : Int) an ?_
  (repeat' (first | (show VH _ _ _ _ _ _ _; first | refine v_seq ?_ | refine r_seq ?_) | (show SH _ _ _ _ _ (_ :: _) _ _ _; first | (show SH _ _ _ _ _ (⟨_, .move _, _, _, _, _⟩ :: _) _ _ _; refine mov evL ?_) | (show SH _ _ _ _ _ (⟨_, .assign _, _, _, _, _⟩ :: _) _ _ _; refine asg evL ?_)) | refine s_nil ?_ | refine kh_normal ?_))
  refine shrw rfl rfl (by decide) 0 sn ?_
  (repeat' (first | (show VH _ _ _ _ _ _ _; first | refine v_seq ?_ | refine r_seq ?_) | (show SH _ _ _ _ _ (_ :: _) _ _ _; first | (show SH _ _ _ _ _ (⟨_, .move _, _, _, _, _⟩ :: _) _ _ _; refine mov evL ?_) | (show SH _ _ _ _ _ (⟨_, .assign _, _, _, _, _⟩ :: _) _ _ _; refine asg evL ?_)) | refine s_nil ?_ | refine kh_normal ?_))
  refine mulw rfl rfl (n : Int) m1 ?_
  (repeat' (first | (show VH _ _ _ _ _ _ _; first | refine v_seq ?_ | refine r_seq ?_) | (show SH _ _ _ _ _ (_ :: _) _ _ _; first | (show SH _ _ _ _ _ (⟨_, .move _, _, _, _, _⟩ :: _) _ _ _; refine mov evL ?_) | (show SH _ _ _ _ _ (⟨_, .assign _, _, _, _, _⟩ :: _) _ _ _; refine asg evL ?_)) | refine s_nil ?_ | refine kh_normal ?_))
  refine mulw rfl rfl 0 m0 ?_
  (repeat' ((show SH _ _ _ _ _ (_ :: _) _ _ _; (show SH _ _ _ _ _ (⟨_, .move _, _, _, _, _⟩ :: _) _ _ _; refine mov evL ?_))))
  refine shrw rfl rfl (by decide) 0 sn ?_
  (repeat' (first | (show VH _ _ _ _ _ _ _; first | refine v_seq ?_ | refine r_seq ?_ | refine r_quiet hmix (by kernel_rfl) ?_ | refine v_block ?_ | refine v_ret ?_ | refine v_skip ?_ | refine v_exit ?_ | refine v_label ?_ | refine v_cond_t rfl tbL ?_ | refine v_cond_f rfl tbL ?_ | refine v_cond_dec rfl (fun h => ?_) (fun h => ?_) | refine v_cond_ndec rfl (fun h => ?_) (fun h => ?_) | refine v_cond rfl (fun h => ?_) (fun h => ?_)) | (show SH _ _ _ _ _ (_ :: _) _ _ _; first | (show SH _ _ _ _ _ (⟨_, .move _, _, _, _, _⟩ :: _) _ _ _; refine mov evL ?_) | (show SH _ _ _ _ _ (⟨_, .assign _, _, _, _, _⟩ :: _) _ _ _; refine asg evL ?_) | (show SH _ _ _ _ _ (⟨_, .binOp .add _ _ _ _, _, _, _, _⟩ :: _) _ _ _; refine add rfl rfl inL ?_) | (show SH _ _ _ _ _ (⟨_, .binOp .mul _ _ _ _, _, _, _, _⟩ :: _) _ _ _; refine mul rfl rfl inL ?_) | refine sh1 rfl rfl ?_) | refine s_nil ?_ | refine s_fork ?_ ?_ | refine s_fork3 ?_ ?_ ?_ | refine s_fork4 ?_ ?_ ?_ ?_ | refine kh_normal ?_ | refine kh_ret ?_ | refine kh_exit ?_ | refine bh_normal ?_ | refine bh_ret ?_ | refine bh_exit ?_ | refine bh_exit_ne rfl ?_))
  refine addw rfl rfl 0 p0 ?_
  (repeat' (first | (show VH _ _ _ _ _ _ _; first | refine v_seq ?_ | refine r_seq ?_) | (show SH _ _ _ _ _ (_ :: _) _ _ _; first | (show SH _ _ _ _ _ (⟨_, .move _, _, _, _, _⟩ :: _) _ _ _; refine mov evL ?_) | (show SH _ _ _ _ _ (⟨_, .assign _, _, _, _, _⟩ :: _) _ _ _; refine asg evL ?_)) | refine s_nil ?_ | refine kh_normal ?_))
  refine andw rfl rfl 0 a0 ?_
  (repeat' (first | (show VH _ _ _ _ _ _ _; first | refine v_seq ?_ | refine r_seq ?_) | (show SH _ _ _ _ _ (_ :: _) _ _ _; first | (show SH _ _ _ _ _ (⟨_, .move _, _, _, _, _⟩ :: _) _ _ _; refine mov evL ?_) | (show SH _ _ _ _ _ (⟨_, .assign _, _, _, _, _⟩ :: _) _ _ _; refine asg evL ?_)) | refine s_nil ?_ | refine kh_normal ?_))
  refine shrw rfl rfl (by decide) 0 s0 ?_
  (repeat' (first | (show VH _ _ _ _ _ _ _; first | refine v_seq ?_ | refine r_seq ?_) | (show SH _ _ _ _ _ (_ :: _) _ _ _; first | (show SH _ _ _ _ _ (⟨_, .move _, _, _, _, _⟩ :: _) _ _ _; refine mov evL ?_) | (show SH _ _ _ _ _ (⟨_, .assign _, _, _, _, _⟩ :: _) _ _ _; refine asg evL ?_)) | refine s_nil ?_ | refine kh_normal ?_))
  refine mulw rfl rfl 0 m2 ?_
  (repeat' (first | (show VH _ _ _ _ _ _ _; first | refine v_seq ?_ | refine r_seq ?_ | refine r_quiet hmix (by kernel_rfl) ?_ | refine v_block ?_ | refine v_ret ?_ | refine v_skip ?_ | refine v_exit ?_ | refine v_label ?_ | refine v_cond_t rfl tbL ?_ | refine v_cond_f rfl tbL ?_ | refine v_cond_dec rfl (fun h => ?_) (fun h => ?_) | refine v_cond_ndec rfl (fun h => ?_) (fun h => ?_) | refine v_cond rfl (fun h => ?_) (fun h => ?_)) | (show SH _ _ _ _ _ (_ :: _) _ _ _; first | (show SH _ _ _ _ _ (⟨_, .move _, _, _, _, _⟩ :: _) _ _ _; refine mov evL ?_) | (show SH _ _ _ _ _ (⟨_, .assign _, _, _, _, _⟩ :: _) _ _ _; refine asg evL ?_) | (show SH _ _ _ _ _ (⟨_, .binOp .add _ _ _ _, _, _, _, _⟩ :: _) _ _ _; refine add rfl rfl inL ?_) | (show SH _ _ _ _ _ (⟨_, .binOp .mul _ _ _ _, _, _, _, _⟩ :: _) _ _ _; refine mul rfl rfl inL ?_) | refine sh1 rfl rfl ?_) | refine s_nil ?_ | refine s_fork ?_ ?_ | refine s_fork3 ?_ ?_ ?_ | refine s_fork4 ?_ ?_ ?_ ?_ | refine kh_normal ?_ | refine kh_ret ?_ | refine kh_exit ?_ | refine bh_normal ?_ | refine bh_ret ?_ | refine bh_exit ?_ | refine bh_exit_ne rfl ?_))
  refine addw rfl rfl 0 p0 ?_
  (repeat' (first | (show VH _ _ _ _ _ _ _; first | refine v_seq ?_ | refine r_seq ?_) | (show SH _ _ _ _ _ (_ :: _) _ _ _; first | (show SH _ _ _ _ _ (⟨_, .move _, _, _, _, _⟩ :: _) _ _ _; refine mov evL ?_) | (show SH _ _ _ _ _ (⟨_, .assign _, _, _, _, _⟩ :: _) _ _ _; refine asg evL ?_)) | refine s_nil ?_ | refine kh_normal ?_))
  refine mulw rfl rfl 0 m3 ?_
  (repeat' ((show SH _ _ _ _ _ (_ :: _) _ _ _; (show SH _ _ _ _ _ (⟨_, .move _, _, _, _, _⟩ :: _) _ _ _; refine mov evL ?_))))
  refine addw rfl rfl 0 p0 ?_
  (repeat' ((show SH _ _ _ _ _ (_ :: _) _ _ _; (show SH _ _ _ _ _ (⟨_, .move _, _, _, _, _⟩ :: _) _ _ _; refine mov evL ?_))))
  refine shrw rfl rfl (by decide) 0 s0 ?_
  (repeat' (first | (show VH _ _ _ _ _ _ _; first | refine v_seq ?_ | refine r_seq ?_ | refine r_quiet hmix (by kernel_rfl) ?_ | refine v_block ?_ | refine v_ret ?_ | refine v_skip ?_ | refine v_exit ?_ | refine v_label ?_ | refine v_cond_t rfl tbL ?_ | refine v_cond_f rfl tbL ?_ | refine v_cond_dec rfl (fun h => ?_) (fun h => ?_) | refine v_cond_ndec rfl (fun h => ?_) (fun h => ?_) | refine v_cond rfl (fun h => ?_) (fun h => ?_)) | (show SH _ _ _ _ _ (_ :: _) _ _ _; first | (show SH _ _ _ _ _ (⟨_, .move _, _, _, _, _⟩ :: _) _ _ _; refine mov evL ?_) | (show SH _ _ _ _ _ (⟨_, .assign _, _, _, _, _⟩ :: _) _ _ _; refine asg evL ?_) | (show SH _ _ _ _ _ (⟨_, .binOp .add _ _ _ _, _, _, _, _⟩ :: _) _ _ _; refine add rfl rfl inL ?_) | (show SH _ _ _ _ _ (⟨_, .binOp .mul _ _ _ _, _, _, _, _⟩ :: _) _ _ _; refine mul rfl rfl inL ?_) | refine sh1 rfl rfl ?_) | refine s_nil ?_ | refine s_fork ?_ ?_ | refine s_fork3 ?_ ?_ ?_ | refine s_fork4 ?_ ?_ ?_ ?_ | refine kh_normal ?_ | refine kh_ret ?_ | refine kh_exit ?_ | refine bh_normal ?_ | refine bh_ret ?_ | refine bh_exit ?_ | refine bh_exit_ne rfl ?_))
  refine addw rfl rfl 0 p0 ?_
  (repeat' (first | (show VH _ _ _ _ _ _ _; first | refine v_seq ?_ | refine r_seq ?_) | (show SH _ _ _ _ _ (_ :: _) _ _ _; first | (show SH _ _ _ _ _ (⟨_, .move _, _, _, _, _⟩ :: _) _ _ _; refine mov evL ?_) | (show SH _ _ _ _ _ (⟨_, .assign _, _, _, _, _⟩ :: _) _ _ _; refine asg evL ?_)) | refine s_nil ?_ | refine kh_normal ?_))
  refine mulw rfl rfl (n : Int) m1 ?_
  (repeat' (first | refine v_ret ?_ | (show SH _ _ _ _ _ (_ :: _) _ _ _; (show SH _ _ _ _ _ (⟨_, .assign _, _, _, _, _⟩ :: _) _ _ _; refine asg evL ?_)) | refine s_nil ?_ | refine kh_normal ?_))
  exact rh2 rfl rfl rfl ⟨rfl, rfl⟩ (ent_nil _)
set_option maxRecDepth 100000 in
theorem mul_spec (n : Nat) (h1 : 1 ≤ n) (h5 : n ≤ 5) (w : World) : Ret Tryz.prog 97 [.int .u64 1, .int .u64 n].toArray w (Out w (.tuple #[.int .u64 0, .int .u64 n])) := by
  have hm := fun w => mul64_spec n h1 h5 w
  refine enterH Tryz.func97 rfl rfl Tryz.ntmps97 rfl (Wd.refl _) ?_
  (repeat' (first | (show VH _ _ _ _ _ _ _; first | refine v_seq ?_ | refine r_seq ?_ | refine v_ret ?_ | refine v_skip ?_ | refine v_cond_f rfl tbL ?_) | (show SH _ _ _ _ _ (_ :: _) _ _ _; first | (show SH _ _ _ _ _ (⟨_, .move _, _, _, _, _⟩ :: _) _ _ _; refine mov evL ?_) | (show SH _ _ _ _ _ (⟨_, .assign _, _, _, _, _⟩ :: _) _ _ _; refine asg evL ?_) | (show SH _ _ _ _ _ (⟨_, .call ⟨.value (.func 113), _, _⟩, _, _, _, _⟩ :: _) _ _ _; refine cl (callee := .func 113) rfl (fun w hw => hm w) rfl rfl ?_) | refine extr rfl rfl ?_) | refine s_nil ?_ | refine kh_normal ?_))
  exact rh2 rfl rfl rfl ⟨rfl, rfl⟩ (ent_nil _)
set_option maxHeartbeats 1000000 in
set_option maxRecDepth 100000 in
theorem repeat_spec (q : Int) (A : Option Addr) (cp n : Nat) (w : World) (h1 : 1 ≤ n) (h5 : n ≤ 5) (hr : Rd w A [q]) : Ret Tryz.prog 61 [.slice A 1 cp, .int .i64 n].toArray w (RP w (Fresh 3 (List.replicate n q))) := by
  have hm := fun w => mul_spec n h1 h5 w
  refine enterH Tryz.func61 rfl rfl Tryz.ntmps61 rfl (Wd.refl _) ?_
  (repeat' (first | (show VH _ _ _ _ _ _ _; first | refine v_seq ?_ | refine r_seq ?_ | refine v_skip ?_ | refine v_cond_f rfl tbL ?_) | (show SH _ _ _ _ _ (_ :: _) _ _ _; first | (show SH _ _ _ _ _ (⟨_, _, _, _, _, some _⟩ :: _) _ _ _; (refine gif rfl rfl ?_; refine giFF tbL ?_)) | (show SH _ _ _ _ _ (⟨_, .move _, _, _, _, _⟩ :: _) _ _ _; refine mov evL ?_) | (show SH _ _ _ _ _ (⟨_, .assign _, _, _, _, _⟩ :: _) _ _ _; refine asg evL ?_) | (show SH _ _ _ _ _ (⟨_, .binOp .lss _ _ _ _, _, _, _, _⟩ :: _) _ _ _; refine lssF rfl rfl omD ?_) | (show SH _ _ _ _ _ (⟨_, .binOp .gtr _ _ _ _, _, _, _, _⟩ :: _) _ _ _; refine gtrF rfl rfl omD ?_) | refine slen rfl ?_ | (show SH _ _ _ _ _ (⟨_, .call ⟨.value (.func 97), _, _⟩, _, _, _, _⟩ :: _) _ _ _; refine cl (callee := .func 97) rfl (fun w hw => hm w) rfl rfl ?_) | (show SH _ _ _ _ _ (⟨_, .pick _ _ _, _, _, _, _⟩ :: _) _ _ _; refine pkf rfl tbL evL ?_) | refine extr rfl rfl ?_ | (show SH _ _ _ _ _ (⟨_, .convert _ _ _, _, _, _, _⟩ :: _) _ _ _; first | refine c64 rfl inL ?_ | refine cu64 rfl omL omL ?_)) | refine s_nil ?_ | refine kh_normal ?_))
  refine mkz (α := Int) (z := .int .i64 0) (by kernel_rfl) rfl rfl rfl rfl rfl rfl (by omega) (by omega) (by omega) (by omega) (fun b8 => ?_)
  rw [Int.toNat_natCast]
  have hz : (Flat.dflt : Int) = 0 := rfl
  rw [hz]
  (repeat' (first | (show VH _ _ _ _ _ _ _; first | refine v_seq ?_ | refine r_seq ?_) | (show SH _ _ _ _ _ (_ :: _) _ _ _; first | (show SH _ _ _ _ _ (⟨_, .move _, _, _, _, _⟩ :: _) _ _ _; refine mov evL ?_) | (show SH _ _ _ _ _ (⟨_, .assign _, _, _, _, _⟩ :: _) _ _ _; refine asg evL ?_)) | refine s_nil ?_ | refine kh_normal ?_))
  refine cpyL (L := List.replicate n (0 : Int)) (o := 0) (V := [q]) (kk := 1) rfl rfl rfl rfl spL rfl (fun w hw => hr.ext hw.ext) (by omega) rfl (by rw [List.length_replicate]; omega) (by rw [List.length_replicate]; omega) trivial ?_
  have hst : (List.replicate n (0 : Int)).take 0 ++ [q] ++ (List.replicate n (0 : Int)).drop (0 + 1) = List.replicate 1 q ++ List.replicate (n - 1) (0 : Int) := by
    rw [List.drop_replicate]; simp
  rw [hst]
  (repeat' (first | (show VH _ _ _ _ _ _ _; first | refine v_seq ?_ | refine v_block ?_) | (show SH _ _ _ _ _ (_ :: _) _ _ _; (show SH _ _ _ _ _ (⟨_, .assign _, _, _, _, _⟩ :: _) _ _ _; refine asg evL ?_)) | refine s_nil ?_ | refine kh_normal ?_))
  refine v_norm [(7,_),(8,_)] heL (fun g => ?_)
  refine v_loop [(8,8),(34,46)] (fun j : Nat => [(8, .int .i64 j)]) (fun j => [orow 3 (some ⟨b8, 0, none⟩) n (List.replicate j q ++ List.replicate (n - j) (0 : Int))]) (fun j => 1 ≤ j ∧ j ≤ n) (fun j => n - j) 1 hsL enL ⟨Nat.le_refl _, h1⟩ ?_
  rintro j g ⟨hj1, hjn⟩
  simp only [sets]
  have hLl : (List.replicate j q ++ List.replicate (n - j) (0 : Int)).length = n := by rw [List.length_append, List.length_replicate, List.length_replicate]; omega
  by_cases hlt : j < n
  · obtain ⟨kk, hkk⟩ : ∃ kk, min j (n - j) = kk := ⟨_, rfl⟩
    have htk : (List.replicate j q ++ List.replicate (n - j) (0 : Int)).take kk = List.replicate kk q := by
      rw [List.take_append_of_le_length (by rw [List.length_replicate]; omega), List.take_replicate, Nat.min_eq_left (by omega)]
    have hnx : (List.replicate j q ++ List.replicate (n - j) (0 : Int)).take j ++ List.replicate kk q ++ (List.replicate j q ++ List.replicate (n - j) (0 : Int)).drop (j + kk) = List.replicate (j + kk) q ++ List.replicate (n - (j + kk)) (0 : Int) := by
      rw [List.take_left' (by rw [List.length_replicate]), List.drop_append, List.length_replicate, List.drop_replicate, List.drop_replicate, List.replicate_append_replicate, show j - (j + kk) = 0 by omega, show n - j - (j + kk - j) = n - (j + kk) by omega]
      simp
    generalize List.replicate j q ++ List.replicate (n - j) (0 : Int) = D at hLl htk hnx ⊢
    (repeat' (first | (show VH _ _ _ _ _ _ _; first | refine v_seq ?_ | refine r_seq ?_ | refine v_block ?_ | refine v_skip ?_ | refine v_cond_t rfl tbL ?_) | (show SH _ _ _ _ _ (_ :: _) _ _ _; first | (show SH _ _ _ _ _ (⟨_, .move _, _, _, _, _⟩ :: _) _ _ _; refine mov evL ?_) | (show SH _ _ _ _ _ (⟨_, .binOp .lss _ _ _ _, _, _, _, _⟩ :: _) _ _ _; refine lssT rfl rfl omD ?_) | refine slen rfl ?_) | refine s_nil ?_ | refine kh_normal ?_))
    refine r_held [] [(0, true), (1, true), (2, true), (3, true), (4, true), (5, false), (6, false), (7, false), (8, false), (9, false)] hmix (by kernel_rfl) (ent_nil _) ?_
    (repeat' ((show SH _ _ _ _ _ (_ :: _) _ _ _; first | (show SH _ _ _ _ _ (⟨_, .move _, _, _, _, _⟩ :: _) _ _ _; refine mov evL ?_) | (show SH _ _ _ _ _ (⟨_, .slice _ _ _ _ _, _, _, _, _⟩ :: _) _ _ _; first | refine slh rfl rfl omL omL ?_ | refine sll rfl rfl omL omL ?_))))
    refine cpyL (L := D) (o := j) (V := List.replicate kk q) (kk := kk) rfl rfl rfl rfl spL (if_neg (by omega)) (fun w hw => by rw [← htk]; exact (hw.rd spL).take kk) (by omega) (by rw [List.length_replicate]) (by omega) (by omega) (ent_nil _) ?_
    rw [hnx]
    (repeat' (first | (show SH _ _ _ _ _ (_ :: _) _ _ _; first | (show SH _ _ _ _ _ (⟨_, .assign _, _, _, _, _⟩ :: _) _ _ _; refine asg evL ?_) | (show SH _ _ _ _ _ (⟨_, .binOp .add _ _ _ _, _, _, _, _⟩ :: _) _ _ _; refine add rfl rfl inL ?_)) | refine s_nil ?_ | refine kh_normal ?_ | refine bh_normal ?_))
    exact ⟨agL, j + kk, by simp only [Int.natCast_add]; (repeat (first | exact trivial | refine And.intro rfl ?_)), enL, ⟨by omega, by omega⟩, by omega⟩
  · have hje : j = n := by omega
    subst hje
    rw [Nat.sub_self, List.replicate_zero, List.append_nil]
    (repeat' (first | (show VH _ _ _ _ _ _ _; first | refine v_seq ?_ | refine r_seq ?_ | refine v_ret ?_ | refine v_exit ?_ | refine v_cond_f rfl tbL ?_) | (show SH _ _ _ _ _ (_ :: _) _ _ _; first | (show SH _ _ _ _ _ (⟨_, .move _, _, _, _, _⟩ :: _) _ _ _; refine mov evL ?_) | (show SH _ _ _ _ _ (⟨_, .assign _, _, _, _, _⟩ :: _) _ _ _; refine asg evL ?_) | (show SH _ _ _ _ _ (⟨_, .binOp .lss _ _ _ _, _, _, _, _⟩ :: _) _ _ _; refine lssF rfl rfl omD ?_) | refine slen rfl ?_) | refine s_nil ?_ | refine kh_normal ?_ | refine kh_exit ?_ | refine bh_exit ?_))
    exact rh1 rfl rfl ⟨some ⟨b8, 0, none⟩, j, congrArg (fun m => Value.slice (some ⟨b8, 0, none⟩) m j) List.length_replicate.symm, rfl⟩ enL
/-! Share -/
theorem idx_id (id : Int) : ∀ (L : List PtyP) (i : Int), idxFrom (fun x : PtyP => decide (x.p.id = id)) i L = match idxP id (ptys L) with | none => -1 | some k => i + (k : Int)
  | [], i => rfl
  | x :: L, i => by
    show idxFrom _ i (x :: L) = match idxP id (x.p :: ptys L) with | none => -1 | some k => i + (k : Int)
    rw [idxFrom, idxP]
    by_cases h : x.p.id = id
    · rw [if_pos (decide_eq_true h), if_pos h]; simp
    · rw [if_neg (by rw [decide_eq_true_eq]; exact h), if_neg h, idx_id id L (i + 1)]
      cases idxP id (ptys L) with
      | none => rfl
      | some k => show i + 1 + (k : Int) = i + ((k + 1 : Nat) : Int); omega
theorem idxP_lt (id : Int) : ∀ (L : List PtyP) {k : Nat}, idxP id (ptys L) = some k → k < L.length
  | [], k, h => by cases h
  | x :: L, k, h => by
    change idxP id (x.p :: ptys L) = some k at h
    rw [idxP] at h
    split at h
    · injection h with h; subst h; simp
    · cases ha : idxP id (ptys L) with
      | none => rw [ha] at h; cases h
      | some j => rw [ha] at h; have h2 : some (j + 1) = some k := h; injection h2 with h2; have := idxP_lt id L ha; simp only [List.length_cons]; omega
set_option maxRecDepth 100000 in
theorem share1_spec (x : PtyP) (id : Int) (a : Addr) (w : World) (h1 : w.cell? a = some (.int .i64 id)) : Ret Tryz.prog 60 [.agg (Flat.enc x).toArray, .pointer (some a)].toArray w (Out w (.bool (decide (x.p.id = id)))) := by
  obtain ⟨⟨xi, xl, xm, xv⟩, xA, xca, xB, xcb⟩ := x
  rw [show Flat.enc (⟨⟨xi, xl, xm, xv⟩, xA, xca, xB, xcb⟩ : PtyP) = [.int .i64 xi, .int .i64 xl, .slice xA xm.length xca, .slice xB xv.length xcb] from rfl]
  refine enterH Tryz.func60 rfl rfl Tryz.ntmps60 rfl (Wd.refl _) ?_
  (repeat' (first | (show VH _ _ _ _ _ _ _; first | refine v_seq ?_ | refine r_seq ?_ | refine v_ret ?_) | (show SH _ _ _ _ _ (_ :: _) _ _ _; first | (show SH _ _ _ _ _ (⟨_, .assign _, _, _, _, _⟩ :: _) _ _ _; refine asg evL ?_) | refine eql rfl rfl ?_ | (show SH _ _ _ _ _ (⟨_, .load _ _, _, _, _, _⟩ :: _) _ _ _; first | refine lbx rfl spL (by rfl) ?_ | refine lcell rfl (fun w hw => hw.ext.cell (by assumption)) ?_) | refine fad rfl ?_ | (show SH _ _ _ _ _ (⟨_, .box _ _, _, _, _, _⟩ :: _) _ _ _; refine bxx rfl evL rfl (fun b => ?_))) | refine s_nil ?_ | refine kh_normal ?_))
  exact rh1 rfl rfl ⟨rfl, rfl⟩ (ent_nil _)
/-- The shares after i of them were made one greater. -/
def sharesTo (q : Int) (n i : Nat) : List Int := (List.range n).map fun (k : Nat) => q + (if k < i then 1 else 0)
theorem sharesTo_zero (q : Int) (n : Nat) : sharesTo q n 0 = List.replicate n q := by
  unfold sharesTo
  apply List.ext_getElem (by simp)
  intro i h1 h2; simp
theorem sharesTo_len (q : Int) (n i : Nat) : (sharesTo q n i).length = n := by simp [sharesTo]
theorem sharesTo_at (q : Int) {n i : Nat} (hi : i < n) : (sharesTo q n i).getD i 0 = q := by
  simp [sharesTo, List.getD_eq_getElem?_getD, hi]
theorem sharesTo_next (q : Int) {n i : Nat} : (sharesTo q n i).set i (q + 1) = sharesTo q n (i + 1) := by
  unfold sharesTo
  apply List.ext_getElem (by simp)
  intro k h1 h2
  rw [List.getElem_set]
  simp only [List.getElem_map, List.getElem_range]
  split
  · rename_i e; subst e; rw [if_pos (by omega)]
  · rename_i e
    by_cases h : k < i
    · rw [if_pos h, if_pos (by omega)]
    · rw [if_neg h, if_neg (by omega)]
theorem sharesTo_all (a : Int) (n : Nat) (h : 0 ≤ a % (n : Int)) : sharesTo (a / (n : Int)) n (a % (n : Int)).toNat = sharesM a n := by
  unfold sharesTo sharesM
  apply List.map_congr_left
  intro k _
  by_cases hk : (k : Int) < a % (n : Int)
  · rw [if_pos (by omega), if_pos hk]
  · rw [if_neg (by omega), if_neg hk]
set_option maxHeartbeats 2000000 in
set_option maxRecDepth 100000 in
theorem share_spec (t la : Int) (A : Option Addr) (L : List PtyP) (c : Nat) (id amount : Int) (w : World) (hz : SzP L) (hr : RdP w A L) : Ret Tryz.prog 20 [hv36 t la A L c, .int .i64 id, .int .i64 amount].toArray w (RP w (FreshE 3 (shareM ⟨t, la, ptys L⟩ id amount).1 (shareM ⟨t, la, ptys L⟩ id amount).2)) := by
  have hv := fun w hr => valid_spec t la A L c w hz hr
  have hll := hz.len
  have hrA := hr.1
  unfold shareM
  cases hval : validHal ⟨t, la, ptys L⟩ with
  | false =>
    rw [hval] at hv
    refine enterH Tryz.func20 rfl rfl Tryz.ntmps20 rfl (Wd.refl _) ?_
    (repeat' (first | (show VH _ _ _ _ _ _ _; first | refine v_seq ?_ | refine r_seq ?_ | refine v_ret ?_ | refine v_cond_t rfl tbL ?_) | (show SH _ _ _ _ _ (_ :: _) _ _ _; first | (show SH _ _ _ _ _ (⟨_, .assign _, _, _, _, _⟩ :: _) _ _ _; refine asg evL ?_) | (show SH _ _ _ _ _ (⟨_, .load _ _, _, _, _, _⟩ :: _) _ _ _; refine lba rfl spL (by rfl) ?_) | (show SH _ _ _ _ _ (⟨_, .call ⟨.value (.func 8), _, _⟩, _, _, _, _⟩ :: _) _ _ _; refine cl (callee := .func 8) rfl (fun w hw => hv w (hr.ext hw.ext)) rfl rfl ?_) | refine bnoF rfl ?_ | (show SH _ _ _ _ _ (⟨_, .box _ _, _, _, _, _⟩ :: _) _ _ _; refine bxx rfl evL rfl (fun b => ?_))) | refine s_nil ?_ | refine kh_normal ?_ | refine kh_ret ?_))
    exact rh2 rfl rfl rfl ⟨none, 0, rfl, rfl⟩ (ent_nilrow (ent_nil _))
  | true =>
    rw [hval] at hv
    rw [if_pos rfl]
    have hV := valid_iff.1 hval
    have hix := idx_id id L 0
    refine enterH Tryz.func20 rfl rfl Tryz.ntmps20 rfl (Wd.refl _) ?_
    (repeat' ((fail_if_success (show VH _ _ (.seq (.region 3 _ _) _) _ _ _ _)); first | (show VH _ _ _ _ _ _ _; first | refine v_seq ?_ | refine r_seq ?_ | refine v_skip ?_ | refine v_cond_f rfl tbL ?_) | (show SH _ _ _ _ _ (_ :: _) _ _ _; first | (show SH _ _ _ _ _ (⟨_, .assign _, _, _, _, _⟩ :: _) _ _ _; refine asg evL ?_) | (show SH _ _ _ _ _ (⟨_, .load _ _, _, _, _, _⟩ :: _) _ _ _; refine lba rfl spL (by rfl) ?_) | (show SH _ _ _ _ _ (⟨_, .call ⟨.value (.func 8), _, _⟩, _, _, _, _⟩ :: _) _ _ _; refine cl (callee := .func 8) rfl (fun w hw => hv w (hr.ext hw.ext)) rfl rfl ?_) | refine bnoT rfl ?_ | (show SH _ _ _ _ _ (⟨_, .box _ _, _, _, _, _⟩ :: _) _ _ _; refine bxx rfl evL rfl (fun b => ?_))) | refine s_nil ?_ | refine kh_normal ?_))
    revert b
    intro b4
    have hif := fun (w2 : World) (hw2 : Wd w [bx b4 3 [.int .i64 id]] w2) => indexFuncP_spec A L c _ (fun x => decide (x.p.id = id)) w2 (by omega) (hrA.ext hw2.ext) ⟨60, #[], #[.pointer (some ⟨b4, 0, none⟩)], rfl, fun w3 he x _ => share1_spec x id _ w3 (he.cell (hw2.cell (cs := [.int .i64 id]) spL rfl))⟩
    unfold idxOf at hif
    rw [hix] at hif
    clear hix
    cases ha : idxP id (ptys L) with
    | none =>
      rw [ha] at hif
      simp only at hif ⊢
      (repeat' (first | (show VH _ _ _ _ _ _ _; first | refine v_seq ?_ | refine r_seq ?_ | refine v_block ?_ | refine v_ret ?_ | refine v_cond_t rfl tbL ?_) | (show SH _ _ _ _ _ (_ :: _) _ _ _; first | (show SH _ _ _ _ _ (⟨_, .move _, _, _, _, _⟩ :: _) _ _ _; refine mov evL ?_) | (show SH _ _ _ _ _ (⟨_, .assign _, _, _, _, _⟩ :: _) _ _ _; refine asg evL ?_) | (show SH _ _ _ _ _ (⟨_, .binOp .lss _ _ _ _, _, _, _, _⟩ :: _) _ _ _; refine lssT rfl rfl omD ?_) | (show SH _ _ _ _ _ (⟨_, .load _ _, _, _, _, _⟩ :: _) _ _ _; refine lbx rfl spL (by rfl) ?_) | (show SH _ _ _ _ _ (⟨_, .call ⟨.value (.func 59), _, _⟩, _, _, _, _⟩ :: _) _ _ _; refine cl (callee := .func 59) rfl (fun w hw => hif w (Ent.wd enL hw)) rfl rfl ?_) | refine fad rfl ?_ | (show SH _ _ _ _ _ (⟨_, .makeFunc _ _ _, _, _, _, _⟩ :: _) _ _ _; refine mf1 evL ?_)) | refine s_nil ?_ | refine kh_normal ?_ | refine kh_ret ?_ | refine bh_ret ?_))
      exact rh2 rfl rfl rfl ⟨none, 0, rfl, rfl⟩ (ent_nilrow (ent_nil _))
    | some k =>
      rw [ha] at hif
      have hk := idxP_lt id L ha
      simp only [Int.zero_add] at hif ⊢
      rw [ptys_at hk]
      by_cases hc : 0 ≤ amount ∧ amount ≤ 1099511627776
      · rw [if_pos hc]
        obtain ⟨c1_, c2_⟩ := hc
        have hok := hV.ok _ (List.mem_map_of_mem (f := PtyP.p) (getD_mem (d := Flat.dflt) hk))
        have hn1 : 1 ≤ (L.getD k Flat.dflt).p.mem.length := hok.2.1
        have hn5 : (L.getD k Flat.dflt).p.mem.length ≤ 5 := by have := hok.2.2.1; omega
        clear hok hV
        obtain ⟨x, hx⟩ : ∃ x, L.getD k Flat.dflt = x := ⟨_, rfl⟩
        have hxE := pty_enc hx
        rw [hx] at hn1 hn5 ⊢
        clear hx
        obtain ⟨⟨xi, xl, xm, xv⟩, xA, xca, xB, xcb⟩ := x
        simp only at hxE hn1 hn5 ⊢
        obtain ⟨n, hn⟩ : ∃ n, xm.length = n := ⟨_, rfl⟩
        rw [hn] at hn1 hn5 hxE ⊢
        have hm0 : 0 ≤ amount % (n : Int) := Int.emod_nonneg _ (by omega)
        have hmn : amount % (n : Int) < n := Int.emod_lt_of_pos _ (by omega)
        have hq0 : 0 ≤ amount / (n : Int) := Int.ediv_nonneg c1_ (by omega)
        have hq1 : amount / (n : Int) ≤ amount := Int.ediv_le_self _ c1_
        rw [← sharesTo_all amount n hm0]
        have hrp := fun A cp w h => repeat_spec (amount / (n : Int)) A cp n w hn1 hn5 h
        rw [← sharesTo_zero] at hrp
        obtain ⟨r, hr_⟩ : ∃ r : Nat, amount % (n : Int) = r := ⟨(amount % (n : Int)).toNat, by omega⟩
        rw [hr_, Int.toNat_natCast]
        (repeat' (first | (show VH _ _ _ _ _ _ _; first | refine v_seq ?_ | refine r_seq ?_ | refine v_block ?_ | refine v_skip ?_ | refine v_cond_f rfl tbL ?_) | (show SH _ _ _ _ _ (_ :: _) _ _ _; first | (show SH _ _ _ _ _ (⟨_, _, _, _, _, some _⟩ :: _) _ _ _; (refine gif rfl rfl ?_; refine giFF tbL ?_)) | (show SH _ _ _ _ _ (⟨_, .move _, _, _, _, _⟩ :: _) _ _ _; refine mov evL ?_) | (show SH _ _ _ _ _ (⟨_, .assign _, _, _, _, _⟩ :: _) _ _ _; refine asg evL ?_) | (show SH _ _ _ _ _ (⟨_, .binOp .lss _ _ _ _, _, _, _, _⟩ :: _) _ _ _; refine lssF rfl rfl omD ?_) | (show SH _ _ _ _ _ (⟨_, .binOp .gtr _ _ _ _, _, _, _, _⟩ :: _) _ _ _; refine gtrF rfl rfl omD ?_) | (show SH _ _ _ _ _ (⟨_, .binOp .quo _ _ _ _, _, _, _, _⟩ :: _) _ _ _; refine quo rfl rfl omL omL omL ?_) | (show SH _ _ _ _ _ (⟨_, .load _ _, _, _, _, _⟩ :: _) _ _ _; first | refine lbx rfl spL (by rfl) ?_ | refine lrg rfl (fun _ _ => rdP) (by rfl) omL (by assumption) (by rfl) ?_) | (show SH _ _ _ _ _ (⟨_, .indexAddr _ _ _, _, _, _, _⟩ :: _) _ _ _; refine ix rfl rfl (by with_reducible rfl) (fun _ _ => rdP) (by rfl) omL omL ?_) | refine slen rfl ?_ | (show SH _ _ _ _ _ (⟨_, .call ⟨.value (.func 59), _, _⟩, _, _, _, _⟩ :: _) _ _ _; refine cl (callee := .func 59) rfl (fun w hw => hif w (Ent.wd enL hw)) rfl rfl ?_) | (show SH _ _ _ _ _ (⟨_, .call ⟨.value (.func 61), _, _⟩, _, _, _, _⟩ :: _) _ _ _; refine cp (callee := .func 61) rfl (fun w hw => hrp _ _ w (hw.rd spL)) rfl rfl ?_) | (show SH _ _ _ _ _ (⟨_, .pick _ _ _, _, _, _, _⟩ :: _) _ _ _; refine pkf rfl tbL evL ?_) | refine fad rfl ?_ | (show SH _ _ _ _ _ (⟨_, .makeFunc _ _ _, _, _, _, _⟩ :: _) _ _ _; refine mf1 evL ?_) | (show SH _ _ _ _ _ (⟨_, .buildSlice _ _ _, _, _, _, _⟩ :: _) _ _ _; refine bsl (α := Int) rfl rfl (by repeat (first | exact Vals.nil | (apply Vals.cons; rfl))) rfl (by rfl) (by decide) (fun b => ?_))) | refine s_nil ?_ | refine kh_normal ?_ | refine bh_normal ?_))
        rintro _ _ ⟨A1, c1, rfl, rfl⟩
        clear hif hrp hxE hv
        generalize amount / (n : Int) = q at hq0 hq1 ⊢
        (repeat' ((fail_if_success (show VH _ _ (.seq (.region 11 _ _) _) _ _ _ _)); first | (show VH _ _ _ _ _ _ _; first | refine v_seq ?_ | refine r_seq ?_ | refine v_block ?_) | (show SH _ _ _ _ _ (_ :: _) _ _ _; first | (show SH _ _ _ _ _ (⟨_, .move _, _, _, _, _⟩ :: _) _ _ _; refine mov evL ?_) | (show SH _ _ _ _ _ (⟨_, .assign _, _, _, _, _⟩ :: _) _ _ _; refine asg evL ?_) | (show SH _ _ _ _ _ (⟨_, .binOp .rem _ _ _ _, _, _, _, _⟩ :: _) _ _ _; refine rem rfl rfl omL omL ?_)) | refine s_nil ?_ | refine kh_normal ?_))
        rw [hr_]
        refine v_norm [(10,_),(44,_),(45,_)] heL (fun g => ?_)
        rw [sharesTo_len]
        refine v_loop [(11,11),(45,54)] (fun i : Nat => [(45, .int .i64 i)]) (fun i => [orow 3 A1 c1 (sharesTo q n i)]) (fun i => i ≤ r) (fun i => r - i) 0 hsL enL (Nat.zero_le _) ?_
        rintro i g hi
        simp only [sets]
        by_cases hir : i < r
        · have hat := sharesTo_at q (n := n) (i := i) (by omega)
          have hnx := sharesTo_next q (n := n) (i := i)
          have hsl := sharesTo_len q n i
          generalize sharesTo q n i = D at hat hnx hsl ⊢
          (repeat' (first | (show VH _ _ _ _ _ _ _; first | refine v_seq ?_ | refine r_seq ?_ | refine v_block ?_ | refine v_skip ?_ | refine v_cond_t rfl tbL ?_) | (show SH _ _ _ _ _ (_ :: _) _ _ _; first | (show SH _ _ _ _ _ (⟨_, .move _, _, _, _, _⟩ :: _) _ _ _; refine mov evL ?_) | (show SH _ _ _ _ _ (⟨_, .assign _, _, _, _, _⟩ :: _) _ _ _; refine asg evL ?_) | (show SH _ _ _ _ _ (⟨_, .binOp .lss _ _ _ _, _, _, _, _⟩ :: _) _ _ _; refine lssT rfl rfl omD ?_) | (show SH _ _ _ _ _ (⟨_, .binOp .add _ _ _ _, _, _, _, _⟩ :: _) _ _ _; refine add rfl rfl inL ?_) | (show SH _ _ _ _ _ (⟨_, .load _ _, _, _, _, _⟩ :: _) _ _ _; refine lgi rfl (fun _ _ => rdP) omL (by assumption) ?_) | (show SH _ _ _ _ _ (⟨_, .indexAddr _ _ _, _, _, _, _⟩ :: _) _ _ _; refine ix rfl rfl (by with_reducible rfl) (fun _ _ => rdP) (by rfl) omL omL ?_) | (show SH _ _ _ _ _ (⟨_, .store _ _ _, _, _, _, _⟩ :: _) _ _ _; refine sti rfl rfl rfl spL omL kpL ?_)) | refine s_nil ?_ | refine kh_normal ?_ | refine bh_normal ?_))
          rw [hnx]
          exact ⟨agL, i + 1, hsL, enL, hir, by omega⟩
        · obtain rfl : i = r := by omega
          (repeat' (first | (show VH _ _ _ _ _ _ _; first | refine v_seq ?_ | refine r_seq ?_ | refine v_ret ?_ | refine v_exit ?_ | refine v_cond_f rfl tbL ?_) | (show SH _ _ _ _ _ (_ :: _) _ _ _; first | (show SH _ _ _ _ _ (⟨_, .move _, _, _, _, _⟩ :: _) _ _ _; refine mov evL ?_) | (show SH _ _ _ _ _ (⟨_, .assign _, _, _, _, _⟩ :: _) _ _ _; refine asg evL ?_) | (show SH _ _ _ _ _ (⟨_, .binOp .lss _ _ _ _, _, _, _, _⟩ :: _) _ _ _; refine lssF rfl rfl omD ?_)) | refine s_nil ?_ | refine kh_normal ?_ | refine kh_exit ?_ | refine bh_exit ?_))
          exact rh2 rfl rfl rfl ⟨A1, c1, congrArg (fun m => Value.tuple #[.slice A1 m c1, .int .i64 0]) (sharesTo_len q n i).symm, rfl⟩ enL
      · rw [if_neg hc]
        have hcc : Hid _ := hc
        clear hc hV
        (repeat' (first | (show VH _ _ _ _ _ _ _; first | refine v_seq ?_ | refine r_seq ?_ | refine v_block ?_ | refine v_ret ?_ | refine v_skip ?_ | refine v_cond_t rfl tbL ?_ | refine v_cond_f rfl tbL ?_ | refine v_cond_dec rfl (fun h => ?_) (fun h => ?_)) | (show SH _ _ _ _ _ (_ :: _) _ _ _; first | (show SH _ _ _ _ _ (⟨_, _, _, _, _, some _⟩ :: _) _ _ _; (refine gif rfl rfl ?_; first | refine giFF tbL ?_ | refine giFT tbL ?_ | refine giFd (fun h => ?_) (fun h => ?_))) | (show SH _ _ _ _ _ (⟨_, .move _, _, _, _, _⟩ :: _) _ _ _; refine mov evL ?_) | (show SH _ _ _ _ _ (⟨_, .assign _, _, _, _, _⟩ :: _) _ _ _; refine asg evL ?_) | (show SH _ _ _ _ _ (⟨_, .binOp .lss _ _ _ _, _, _, _, _⟩ :: _) _ _ _; first | refine lssF rfl rfl omD ?_ | refine lss rfl rfl ?_) | refine gtr rfl rfl ?_ | (show SH _ _ _ _ _ (⟨_, .load _ _, _, _, _, _⟩ :: _) _ _ _; first | refine lbx rfl spL (by rfl) ?_ | refine lrf rfl (fun _ _ => rdP) (by rfl) omL (by rfl) ?_ | refine lrf rfl (fun _ _ => rdP) (by rfl) (by simp only [List.length_cons, List.length_nil]; omega) (by rfl) ?_) | (show SH _ _ _ _ _ (⟨_, .indexAddr _ _ _, _, _, _, _⟩ :: _) _ _ _; refine ix rfl rfl (by with_reducible rfl) (fun _ _ => rdP) (by rfl) omL omL ?_) | refine slen rfl ?_ | (show SH _ _ _ _ _ (⟨_, .call ⟨.value (.func 59), _, _⟩, _, _, _, _⟩ :: _) _ _ _; refine cl (callee := .func 59) rfl (fun w hw => hif w (Ent.wd enL hw)) rfl rfl ?_) | (show SH _ _ _ _ _ (⟨_, .pick _ _ _, _, _, _, _⟩ :: _) _ _ _; first | refine pkt rfl tbL evL ?_ | refine pkf rfl tbL evL ?_) | refine fad rfl ?_ | (show SH _ _ _ _ _ (⟨_, .makeFunc _ _ _, _, _, _, _⟩ :: _) _ _ _; refine mf1 evL ?_)) | refine s_nil ?_ | refine kh_normal ?_ | refine kh_ret ?_ | refine bh_normal ?_ | refine bh_ret ?_))
        all_goals first
          | exact rh2 rfl rfl rfl ⟨none, 0, rfl, rfl⟩ (ent_nilrow (ent_nil _))
          | exact absurd ⟨by omega, by omega⟩ hcc
/-! Of -/
/-- A party that comes out, in memory of its own. -/
def OutP (r : Option Pty) (v : Value) (H' : List HP) : Prop :=
  match r with
  | none => v = .tuple #[.agg #[.int .i64 0, .int .i64 0, .slice none 0 0, .slice none 0 0], .bool false] ∧ H' = []
  | some p => ∃ y : PtyP, y.p = p ∧ v = .tuple #[.agg (Flat.enc y).toArray, .bool true] ∧ H' = [rowM y, rowI y]
set_option maxHeartbeats 1000000 in
set_option maxRecDepth 100000 in
theorem of_spec (t la : Int) (A : Option Addr) (L : List PtyP) (c : Nat) (who : Int) (w : World) (hz : SzP L) (hr : RdP w A L) : Ret Tryz.prog 16 [hv36 t la A L c, .int .i64 who].toArray w (RP w (OutP (ofM ⟨t, la, ptys L⟩ who))) := by
  have hv := fun w hr => valid_spec t la A L c w hz hr
  have hpl := fun w hr => places_spec t la A L c w hz hr
  have hll := hz.len
  have hrA := hr.1
  unfold ofM
  cases hval : validHal ⟨t, la, ptys L⟩ with
  | false =>
    rw [hval] at hv
    refine enterH Tryz.func16 rfl rfl Tryz.ntmps16 rfl (Wd.refl _) ?_
    (repeat' (first | (show VH _ _ _ _ _ _ _; first | refine v_seq ?_ | refine r_seq ?_ | refine v_ret ?_ | refine v_cond_t rfl tbL ?_) | (show SH _ _ _ _ _ (_ :: _) _ _ _; first | (show SH _ _ _ _ _ (⟨_, .assign _, _, _, _, _⟩ :: _) _ _ _; refine asg evL ?_) | (show SH _ _ _ _ _ (⟨_, .load _ _, _, _, _, _⟩ :: _) _ _ _; refine lba rfl spL (by rfl) ?_) | (show SH _ _ _ _ _ (⟨_, .call ⟨.value (.func 8), _, _⟩, _, _, _, _⟩ :: _) _ _ _; refine cl (callee := .func 8) rfl (fun w hw => hv w (hr.ext hw.ext)) rfl rfl ?_) | refine bnoF rfl ?_ | refine bld rfl rfl ?_ | refine ala rfl (fun b => ?_) | (show SH _ _ _ _ _ (⟨_, .box _ _, _, _, _, _⟩ :: _) _ _ _; refine bxx rfl evL rfl (fun b => ?_)) | (show SH _ _ _ _ _ (⟨_, .store _ _ _, _, _, _, _⟩ :: _) _ _ _; refine sta rfl rfl rfl spL (by rfl) (by rfl) (by rfl) kpL ?_)) | refine s_nil ?_ | refine kh_normal ?_ | refine kh_ret ?_))
    exact rhC2 rfl rfl rfl rfl (fun w hw => loadVar_bx hw spL (by rfl)) ⟨rfl, rfl⟩ (ent_nil _)
  | true =>
    rw [hval] at hv
    rw [if_pos rfl]
    have hV := valid_iff.1 hval
    have hg := places_find (ptys L) who hV.nd
    simp only
    cases hfd : findM who (ptys L) with
    | none =>
      rw [hfd] at hg
      simp only at hg
      refine enterH Tryz.func16 rfl rfl Tryz.ntmps16 rfl (Wd.refl _) ?_
      (repeat' (first | (show VH _ _ _ _ _ _ _; first | refine v_seq ?_ | refine r_seq ?_ | refine v_skip ?_ | refine v_cond_f rfl tbL ?_) | (show SH _ _ _ _ _ (_ :: _) _ _ _; first | (show SH _ _ _ _ _ (⟨_, .assign _, _, _, _, _⟩ :: _) _ _ _; refine asg evL ?_) | (show SH _ _ _ _ _ (⟨_, .load _ _, _, _, _, _⟩ :: _) _ _ _; refine lba rfl spL (by rfl) ?_) | (show SH _ _ _ _ _ (⟨_, .call ⟨.value (.func 8), _, _⟩, _, _, _, _⟩ :: _) _ _ _; refine cl (callee := .func 8) rfl (fun w hw => hv w (hr.ext hw.ext)) rfl rfl ?_) | (show SH _ _ _ _ _ (⟨_, .call ⟨.value (.func 23), _, _⟩, _, _, _, _⟩ :: _) _ _ _; refine cp (callee := .func 23) rfl (fun w hw => hpl w (hr.ext hw.ext)) rfl rfl ?_) | refine bnoT rfl ?_ | refine ala rfl (fun b => ?_) | (show SH _ _ _ _ _ (⟨_, .box _ _, _, _, _, _⟩ :: _) _ _ _; refine bxx rfl evL rfl (fun b => ?_))) | refine s_nil ?_ | refine kh_normal ?_))
      rintro _ _ ⟨r, rfl, rfl⟩
      (repeat' (first | (show VH _ _ _ _ _ _ _; first | refine v_seq ?_ | refine r_seq ?_ | refine v_ret ?_ | refine v_cond_t rfl tbL ?_) | (show SH _ _ _ _ _ (_ :: _) _ _ _; first | (show SH _ _ _ _ _ (⟨_, .move _, _, _, _, _⟩ :: _) _ _ _; refine mov evL ?_) | (show SH _ _ _ _ _ (⟨_, .assign _, _, _, _, _⟩ :: _) _ _ _; refine asg evL ?_) | (show SH _ _ _ _ _ (⟨_, .binOp .eql _ _ _ _, _, _, _, _⟩ :: _) _ _ _; refine eqlT rfl rfl omD ?_) | (show SH _ _ _ _ _ (⟨_, .lookup _ _ _ false, _, _, _, _⟩ :: _) _ _ _; refine lkm rfl rfl spL ?_) | refine bld rfl rfl ?_ | (show SH _ _ _ _ _ (⟨_, .store _ _ _, _, _, _, _⟩ :: _) _ _ _; refine sta rfl rfl rfl spL (by rfl) (by rfl) (by rfl) kpL ?_)) | refine s_nil ?_ | refine kh_normal ?_ | refine kh_ret ?_))
      exact rhC2 rfl rfl rfl rfl (fun w hw => loadVar_bx hw spL (by rfl)) ⟨rfl, rfl⟩ (ent_nil _)
    | some k =>
      rw [hfd] at hg
      simp only at hg
      have hk := (findM_some _ hfd).1
      rw [ptys_len] at hk
      have hkk : ((k : Int) + 1 - 1).toNat = k := by omega
      have hm := hr.mem hk
      have hi := hr.inv hk
      have hml := hz.atm hk
      have hil := hz.ati hk
      rw [Option.map_some, ptys_at hk]
      obtain ⟨x, hx⟩ : ∃ x, L.getD k Flat.dflt = x := ⟨_, rfl⟩
      have hxE : Flat.enc (L.getD ((k : Int) + 1 - 1).toNat Flat.dflt) = Flat.enc x := by rw [hkk, hx]
      rw [hx] at hm hi hml hil ⊢
      have hO := fun w h1 h2 => ownPt_spec x w (by omega) (by omega) h1 h2
      unfold OwnPt at hO
      clear hx hV
      refine enterH Tryz.func16 rfl rfl Tryz.ntmps16 rfl (Wd.refl _) ?_
      (repeat' (first | (show VH _ _ _ _ _ _ _; first | refine v_seq ?_ | refine r_seq ?_ | refine v_skip ?_ | refine v_cond_f rfl tbL ?_) | (show SH _ _ _ _ _ (_ :: _) _ _ _; first | (show SH _ _ _ _ _ (⟨_, .assign _, _, _, _, _⟩ :: _) _ _ _; refine asg evL ?_) | (show SH _ _ _ _ _ (⟨_, .load _ _, _, _, _, _⟩ :: _) _ _ _; refine lba rfl spL (by rfl) ?_) | (show SH _ _ _ _ _ (⟨_, .call ⟨.value (.func 8), _, _⟩, _, _, _, _⟩ :: _) _ _ _; refine cl (callee := .func 8) rfl (fun w hw => hv w (hr.ext hw.ext)) rfl rfl ?_) | (show SH _ _ _ _ _ (⟨_, .call ⟨.value (.func 23), _, _⟩, _, _, _, _⟩ :: _) _ _ _; refine cp (callee := .func 23) rfl (fun w hw => hpl w (hr.ext hw.ext)) rfl rfl ?_) | refine bnoT rfl ?_ | refine ala rfl (fun b => ?_) | (show SH _ _ _ _ _ (⟨_, .box _ _, _, _, _, _⟩ :: _) _ _ _; refine bxx rfl evL rfl (fun b => ?_))) | refine s_nil ?_ | refine kh_normal ?_))
      rintro _ _ ⟨r, rfl, rfl⟩
      generalize placesM (ptys L) = M at hg ⊢
      (repeat' ((fail_if_success (show VH _ _ (.seq (.region 4 _ _) _) _ _ _ _)); first | refine v_seq ?_ | (show SH _ _ _ _ _ (_ :: _) _ _ _; first | (show SH _ _ _ _ _ (⟨_, .move _, _, _, _, _⟩ :: _) _ _ _; refine mov evL ?_) | (show SH _ _ _ _ _ (⟨_, .assign _, _, _, _, _⟩ :: _) _ _ _; refine asg evL ?_) | (show SH _ _ _ _ _ (⟨_, .lookup _ _ _ false, _, _, _, _⟩ :: _) _ _ _; refine lkm rfl rfl spL ?_)) | refine s_nil ?_ | refine kh_normal ?_))
      rw [hg]
      (repeat' (first | (show VH _ _ _ _ _ _ _; first | refine v_seq ?_ | refine r_seq ?_ | refine v_skip ?_ | refine v_cond_f rfl tbL ?_) | (show SH _ _ _ _ _ (_ :: _) _ _ _; first | (show SH _ _ _ _ _ (⟨_, .move _, _, _, _, _⟩ :: _) _ _ _; refine mov evL ?_) | (show SH _ _ _ _ _ (⟨_, .binOp .eql _ _ _ _, _, _, _, _⟩ :: _) _ _ _; refine eqlF rfl rfl omD ?_) | (show SH _ _ _ _ _ (⟨_, .binOp .sub _ _ _ _, _, _, _, _⟩ :: _) _ _ _; refine sub rfl rfl inL ?_) | (show SH _ _ _ _ _ (⟨_, .load _ _, _, _, _, _⟩ :: _) _ _ _; first | refine lbx rfl spL (by rfl) ?_ | refine lag rfl (fun _ _ => rdP) (by rfl) omL (by assumption) ?_) | (show SH _ _ _ _ _ (⟨_, .indexAddr _ _ _, _, _, _, _⟩ :: _) _ _ _; first | refine ixi rfl rfl (fun _ _ => rdP) (by rfl) omL omL omL ?_ | refine ixi rfl rfl (fun _ _ => rdP) (by rfl) omL (by first | omega | (simp only [List.length_cons, List.length_nil]; omega)) (by simp only [List.length_cons, List.length_nil]; omega) ?_) | (show SH _ _ _ _ _ (⟨_, .call ⟨.value (.func 50), _, _⟩, _, _, _, _⟩ :: _) _ _ _; refine cp (callee := .func 50) rfl (fun w hw => hO w (hm.ext hw.ext) (hi.ext hw.ext)) rfl rfl ?_) | refine fad rfl ?_) | refine s_nil ?_ | refine kh_normal ?_))
      rintro _ _ ⟨y, hyp, rfl, rfl⟩
      obtain ⟨⟨yi, yl, ym, yv⟩, yA, yca, yB, ycb⟩ := y
      rw [show Flat.enc (⟨⟨yi, yl, ym, yv⟩, yA, yca, yB, ycb⟩ : PtyP) = [.int .i64 yi, .int .i64 yl, .slice yA ym.length yca, .slice yB yv.length ycb] from rfl]
      (repeat' (first | refine v_ret ?_ | (show SH _ _ _ _ _ (_ :: _) _ _ _; first | (show SH _ _ _ _ _ (⟨_, .assign _, _, _, _, _⟩ :: _) _ _ _; refine asg evL ?_) | (show SH _ _ _ _ _ (⟨_, .store _ _ _, _, _, _, _⟩ :: _) _ _ _; refine sta rfl rfl rfl spL (by rfl) (by rfl) (by rfl) kpL ?_)) | refine s_nil ?_ | refine kh_normal ?_))
      exact rhC2 rfl rfl rfl rfl (fun w hw => loadVar_bx hw spL (by rfl)) ⟨⟨⟨yi, yl, ym, yv⟩, yA, yca, yB, ycb⟩, hyp, rfl, rfl⟩ enL
end Go.Proofs.YtlfbcoohfnoacaaGreat
