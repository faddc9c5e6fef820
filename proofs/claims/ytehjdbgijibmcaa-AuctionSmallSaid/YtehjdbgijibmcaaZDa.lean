/- Sorting of lots: two ranges are swapped; a rotation. -/
import Derived.Test.YtehjdbgijibmcaaZCm
import Derived.Test.YtehjdbgijibmcaaZVa
import Derived.Test.YtehjdbgijibmcaaZAx
set_option linter.unusedSimpArgs false
set_option linter.unusedVariables false
namespace Go.Proofs.Ytehjdbgijibmcaa
open Go.Fw Go.RowKit
theorem toNat_add2 (a k : Nat) : ((a : Int) + (k : Int)).toNat = a + k := by omega
set_option maxHeartbeats 1000000 in
set_option maxRecDepth 100000 in
theorem swapRange_spec (A : Option Addr) (l : List Lot) (cp a b n m : Nat) (fv : Value) (w0 : World) (H : List HP) (w : World) (hm : m = l.length) (hl : l.length ≤ 1000000) (ha : a + n ≤ l.length) (hb : b + n ≤ l.length) (hw : Wd w0 (orow 38 A cp l :: H) w) :
    Ret Try.prog 75 [.slice A m cp, .int .i64 a, .int .i64 b, .int .i64 n, fv].toArray w (RP w0 fun _ H' => H' = orow 38 A cp (swpN Flat.dflt l a b n) :: H) := by
  subst hm
  refine enterH Try.func75 rfl rfl Try.ntmps75 rfl (by assumption) ?_
  (repeat' (first | (show VH _ _ _ _ _ _ _; first | refine v_seq ?_ | refine r_seq ?_ | refine v_block ?_) | refine asg evL ?_ | refine s_nil ?_ | refine kh_normal ?_))
  refine v_loop [(10,37)] (fun k : Nat => [(10, .int .i64 k)]) (fun k => orow 38 A cp (swpN Flat.dflt l a b k) :: H) (fun k => k ≤ n) (fun k => n - k) 0 hsL enL (Nat.zero_le _) ?_
  rintro k g hk
  have hL := swpN_len Flat.dflt l a b k
  have hs : swpN Flat.dflt l a b (k + 1) = swp Flat.dflt (swpN Flat.dflt l a b k) (a + k) (b + k) := rfl
  simp only [sets]
  generalize he : swpN Flat.dflt l a b k = L at hL hs ⊢
  by_cases hkn : k < n
  · refine v_some spL (by omega) (fun hA => ?_)
    (repeat' (first | (show VH _ _ _ _ _ _ _; first | refine v_seq ?_ | refine r_seq ?_ | refine v_block ?_ | refine v_skip ?_ | refine v_cond_t rfl tbL ?_) | (show SH _ _ _ _ _ (_ :: _) _ _ _; first | refine mov evL ?_ | refine lss rfl rfl ?_) | refine s_nil ?_ | refine kh_normal ?_))
    refine r_heldT [] (tr [(0, true), (1, true), (2, true), (3, true), (4, true), (5, true), (6, true), (7, true), (8, true), (9, true), (10, true), (11, true), (12, true), (14, true), (15, true), (16, true), (17, true), (18, true)] (.fork 13 (tr [(19, false), (20, false), (21, false), (22, false), (23, false)] .nil) 19 (tr [(13, false), (20, false), (21, false), (22, false), (23, false)] .nil))) hmix (by kernel_rfl) (ent_nil _) ?_
    (repeat' ((show SH _ _ _ _ _ (_ :: _) _ _ _; first | refine mov evL ?_ | refine add rfl rfl inL ?_ | refine ixq rfl rfl (by assumption) omL omL ?_)))
    refine s_fork ?_ ?_
    all_goals
      (repeat' ((show SH _ _ _ _ _ (_ :: _) _ _ _; first | refine lra rfl (fun _ _ => rdL) (by rfl) omL ?_ | refine ixi rfl rfl (fun _ _ => rdL) (by rfl) omL omL omL ?_)))
      refine stv (L.getD ((b : Int) + (k : Int)).toNat Flat.dflt) rfl rfl rfl spL rfl (by omega) rfl (ent_nil _) ?_
      (repeat' (refine ixq rfl rfl (by assumption) omL omL ?_))
      refine stv (L.getD ((a : Int) + (k : Int)).toNat Flat.dflt) rfl rfl rfl spL rfl (by rw [List.length_set]; omega) rfl (ent_nil _) ?_
      (repeat' (first | refine r_seq ?_ | (show SH _ _ _ _ _ (_ :: _) _ _ _; first | refine mov evL ?_ | refine asg evL ?_ | refine add rfl rfl inL ?_) | refine s_nil ?_ | refine kh_normal ?_ | refine bh_normal ?_))
      refine ⟨agL, k + 1, hsL, ?_, by omega, by omega⟩
      show Ent _ (orow _ _ _ (swpN _ _ _ _ (k + 1)) :: H)
      rw [hs, swp, ← toNat_add2 a k, ← toNat_add2 b k]
      exact ent_refl _
  · (repeat' (first | (show VH _ _ _ _ _ _ _; first | refine v_seq ?_ | refine r_seq ?_ | refine v_exit ?_ | refine v_cond_f rfl tbL ?_) | (show SH _ _ _ _ _ (_ :: _) _ _ _; first | refine mov evL ?_ | refine lss rfl rfl ?_) | refine s_nil ?_ | refine kh_normal ?_ | refine kh_exit ?_ | refine bh_exit ?_))
    have : k = n := by omega
    subst this he
    exact rh0n rfl rfl enL
set_option maxHeartbeats 1000000 in
set_option maxRecDepth 100000 in
theorem rotate_spec (A : Option Addr) (P X Y S l : List Lot) (cp a b m k : Nat) (fv : Value) (w0 : World) (H : List HP) (w : World) (hlP : l = P ++ X ++ Y ++ S) (hk : k = l.length) (hl : l.length ≤ 1000000) (ha : a = P.length) (hm : m = P.length + X.length) (hb : b = P.length + X.length + Y.length) (hX : 0 < X.length) (hY : 0 < Y.length) (hw : Wd w0 (orow 38 A cp l :: H) w) :
    Ret Try.prog 74 [.slice A k cp, .int .i64 a, .int .i64 m, .int .i64 b, fv].toArray w (RP w0 fun _ H' => H' = orow 38 A cp (P ++ Y ++ X ++ S) :: H) := by
  subst hk
  have hlen : l.length = P.length + X.length + Y.length + S.length := by rw [hlP]; simp only [List.length_append]
  have h0 : Rot P X Y S l m X.length Y.length := by rw [hlP, hm]; exact rot_start P X Y S
  refine enterH Try.func74 rfl rfl Try.ntmps74 rfl (by assumption) ?_
  (repeat' (first | (show VH _ _ _ _ _ _ _; first | refine v_seq ?_ | refine r_seq ?_ | refine v_block ?_) | (show SH _ _ _ _ _ (_ :: _) _ _ _; first | refine mov evL ?_ | refine asg evL ?_ | refine sub rfl rfl inL ?_) | refine s_nil ?_ | refine kh_normal ?_))
  refine v_loop [(10,11),(18,49)] (fun y : (Nat × Nat) × List Lot => [(10, .int .i64 y.1.1), (11, .int .i64 y.1.2)]) (fun y => orow 38 A cp y.2 :: H)
    (fun y => Rot P X Y S y.2 m y.1.1 y.1.2 ∧ y.2.length = l.length ∧ 0 < y.1.1 ∧ 0 < y.1.2) (fun y => y.1.1 + y.1.2) ((X.length, Y.length), l) (by refine ⟨?_, ?_, trivial⟩ <;> exact congrArg (Value.int .i64) (by simp only []; omega)) enL ⟨h0, rfl, hX, hY⟩ ?_
  rintro ⟨⟨i, j⟩, L⟩ g ⟨hR, hL, hi, hj⟩
  simp only [sets]
  simp only at hR hL hi hj
  obtain ⟨D, X', Y', E, hLe, hXl, hYl, hml, hDe⟩ := hR.ex
  have hlL : L.length = P.length + D.length + i + j + E.length + S.length := by rw [hLe]; simp; omega
  have hmi : ((m : Int) - (i : Int)) = ((m - i : Nat) : Int) := by omega
  have hmj : ((m : Int) + (j : Int) - (i : Int)) = ((m + j - i : Nat) : Int) := by omega
  by_cases hij : i = j
  · subst hij
    (repeat' (first | (show VH _ _ _ _ _ _ _; first | refine v_seq ?_ | refine r_seq ?_ | refine v_exit ?_ | refine v_cond_f rfl tbL ?_) | (show SH _ _ _ _ _ (_ :: _) _ _ _; first | refine mov evL ?_ | (show SH _ _ _ _ _ (⟨_, .binOp _ _ _ _ _, _, _, _, _⟩ :: _) _ _ _; first | refine sub rfl rfl inL ?_ | refine neq rfl rfl ?_)) | refine s_nil ?_ | refine kh_normal ?_ | refine kh_exit ?_ | refine bh_exit ?_))
    rw [hmi]
    refine cm rfl (fun w hw => swapRange_spec A L cp (m - i) m i L.length _ w0 _ w rfl (by omega) (by omega) (by omega) hw) rfl (by rw [hL]; rfl) ?_
    rintro _ _ rfl
    refine ⟨trivial, ?_⟩
    (repeat' (refine s_nil ?_))
    rw [rot_end Flat.dflt hR]
    exact rh0n rfl rfl enL
  · by_cases hlt : j < i
    · (repeat' (first | (show VH _ _ _ _ _ _ _; first | refine v_seq ?_ | refine r_seq ?_ | refine v_block ?_ | refine v_skip ?_ | refine v_cond_t rfl tbL ?_) | (show SH _ _ _ _ _ (_ :: _) _ _ _; first | refine mov evL ?_ | (show SH _ _ _ _ _ (⟨_, .binOp _ _ _ _ _, _, _, _, _⟩ :: _) _ _ _; first | refine sub rfl rfl inL ?_ | refine gtr rfl rfl ?_ | refine neq rfl rfl ?_)) | refine s_nil ?_ | refine kh_normal ?_))
      rw [hmi]
      refine cm rfl (fun w hw => swapRange_spec A L cp (m - i) m j L.length _ w0 _ w rfl (by omega) (by omega) (by omega) hw) rfl (by rw [hL]; rfl) ?_
      rintro _ _ rfl
      refine ⟨trivial, ?_⟩
      (repeat' (first | refine r_seq ?_ | (show SH _ _ _ _ _ (_ :: _) _ _ _; first | refine mov evL ?_ | refine asg evL ?_ | refine sub rfl rfl inL ?_) | refine s_nil ?_ | refine kh_normal ?_ | refine bh_normal ?_))
      refine ⟨agL, ((i - j, j), swpN Flat.dflt L (m - i) m j), ⟨congrArg (Value.int .i64) (by simp only []; omega), rfl, trivial⟩, enL, ⟨rot_left Flat.dflt hR hlt, by show (swpN _ _ _ _ _).length = _; rw [swpN_len]; exact hL, by show 0 < i - j; omega, hj⟩, by show i - j + j < i + j; omega⟩
    · have hlt' : i < j := by omega
      (repeat' (first | (show VH _ _ _ _ _ _ _; first | refine v_seq ?_ | refine r_seq ?_ | refine v_block ?_ | refine v_skip ?_ | refine v_cond_t rfl tbL ?_ | refine v_cond_f rfl tbL ?_) | (show SH _ _ _ _ _ (_ :: _) _ _ _; first | refine mov evL ?_ | (show SH _ _ _ _ _ (⟨_, .binOp _ _ _ _ _, _, _, _, _⟩ :: _) _ _ _; first | refine add rfl rfl inL ?_ | refine sub rfl rfl inL ?_ | refine gtr rfl rfl ?_ | refine neq rfl rfl ?_)) | refine s_nil ?_ | refine kh_normal ?_))
      rw [hmi, hmj]
      refine cm rfl (fun w hw => swapRange_spec A L cp (m - i) (m + j - i) i L.length _ w0 _ w rfl (by omega) (by omega) (by omega) hw) rfl (by rw [hL]; rfl) ?_
      rintro _ _ rfl
      refine ⟨trivial, ?_⟩
      (repeat' (first | refine r_seq ?_ | (show SH _ _ _ _ _ (_ :: _) _ _ _; first | refine mov evL ?_ | refine asg evL ?_ | refine sub rfl rfl inL ?_) | refine s_nil ?_ | refine kh_normal ?_ | refine bh_normal ?_))
      refine ⟨agL, ((i, j - i), swpN Flat.dflt L (m - i) (m + j - i) i), ⟨rfl, congrArg (Value.int .i64) (by simp only []; omega), trivial⟩, enL, ⟨rot_right Flat.dflt hR hlt', by show (swpN _ _ _ _ _).length = _; rw [swpN_len]; exact hL, hi, by show 0 < j - i; omega⟩, by show i + (j - i) < i + j; omega⟩
end Go.Proofs.Ytehjdbgijibmcaa
