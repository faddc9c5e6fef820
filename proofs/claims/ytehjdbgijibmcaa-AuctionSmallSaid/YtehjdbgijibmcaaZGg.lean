/- What moves bring into the house; what a house holds. -/
import Derived.Test.YtehjdbgijibmcaaZDi
import Derived.Test.YtehjdbgijibmcaaZAk
set_option linter.unusedSimpArgs false
set_option linter.unusedVariables false
namespace Go.Proofs.Ytehjdbgijibmcaa
open Go.Fw Go.RowKit
theorem bal_bound (l : List Mv) (h : ∀ m ∈ l, OkMv m ∧ m.n ≤ 2147483647) (k j : Nat) (hj : j ≤ l.length) : -(2147483648 * (j : Int)) ≤ ((l.take j).foldl bal4 [0, 0, 0, 0]).getD k 0 ∧ ((l.take j).foldl bal4 [0, 0, 0, 0]).getD k 0 ≤ 2147483648 * (j : Int) := by
  have hm : ∀ m ∈ l.take j, 0 ≤ m.item ∧ m.item ≤ 3 := fun m hm => (h m (List.mem_of_mem_take hm)).1.item
  rw [bal_fold _ _ rfl hm k]
  have h0 : ([0, 0, 0, 0] : List Int).getD k 0 = 0 := by rcases k with _ | _ | _ | _ | k <;> simp
  have key : ∀ L : List Mv, (∀ m ∈ L, OkMv m ∧ m.n ≤ 2147483647) → -(2147483648 * (L.length : Int)) ≤ sumB k L ∧ sumB k L ≤ 2147483648 * (L.length : Int) := by
    intro L
    induction L with
    | nil => intro _; simp [sumB]
    | cons x L ih =>
      intro hx
      have h1 := ih fun y hy => hx y (by simp [hy])
      have h2 := hx x (by simp)
      have h3 := h2.1.n
      have h4 : -2147483648 ≤ bk k x ∧ bk k x ≤ 2147483648 := by unfold bk; split <;> (try split) <;> omega
      simp only [sumB, List.map_cons, List.sum_cons, List.length_cons] at *
      omega
  have := key (l.take j) fun m hm => h m (List.mem_of_mem_take hm)
  rw [List.length_take, Nat.min_eq_left hj] at this
  omega
theorem bal_take {l : List Mv} {k : Nat} (hk : k < l.length) : (l.take (k + 1)).foldl bal4 [0, 0, 0, 0] = bal4 ((l.take k).foldl bal4 [0, 0, 0, 0]) (l.getD k Flat.dflt) := by
  rw [take_snoc (d := Flat.dflt) hk, List.foldl_append]; rfl
set_option maxHeartbeats 1000000 in
set_option maxRecDepth 100000 in
theorem balance_spec (A : Option Addr) (l : List Mv) (cp : Nat) (w : World) (hl : l.length ≤ 100) (hok : ∀ m ∈ l, OkMv m ∧ m.n ≤ 2147483647) (hr : Rd w A l) :
    Ret Try.prog 29 [.slice A l.length cp].toArray w (Out w (.tuple #[.agg (ints (l.foldl bal4 [0, 0, 0, 0])).toArray, .bool true])) := by
  refine enterH Try.func29 rfl rfl Try.ntmps29 rfl (Wd.refl _) ?_
  (repeat' (first | (show VH _ _ _ _ _ _ _; first | refine v_seq ?_ | refine r_seq ?_ | refine v_block ?_) | (show SH _ _ _ _ _ (_ :: _) _ _ _; first | refine asg evL ?_ | refine ala rfl (fun b => ?_)) | refine s_nil ?_ | refine kh_normal ?_))
  rename_i b2
  refine v_loop [(3,3),(5,68)] (fun k : Nat => [(5, .int .i64 k)]) (fun k => [bx b 66 (ints ((l.take k).foldl bal4 [0, 0, 0, 0])), bx b2 66 (ints [0, 0, 0, 0])]) (fun k => k ≤ l.length) (fun k => l.length - k) 0 hsL enL (Nat.zero_le _) ?_
  rintro k g hk
  simp only [sets]
  have hL : ((l.take k).foldl bal4 [0, 0, 0, 0]).length = 4 := bal_fold_len _ _
  by_cases hkl : k < l.length
  · obtain ⟨⟨hi, hn, ho⟩, hsm⟩ := hok _ (Go.Fw.getD_mem (d := Flat.dflt) hkl)
    obtain ⟨q, hq⟩ : ∃ q : Nat, (l.getD k Flat.dflt).item = (q : Int) := ⟨(l.getD k Flat.dflt).item.toNat, by omega⟩
    have hbq := bal_bound l hok q k hk
    have hB := bal_take hkl
    rw [bal4, show (l.getD k Flat.dflt).item.toNat = q * 1 by omega] at hB
    have hqq : (q * 1 : Nat) = q := Nat.mul_one q
    rw [hqq] at hB
    generalize (l.take k).foldl bal4 [0, 0, 0, 0] = L at hL hbq hB ⊢
    rcases ho with ⟨o1, o2⟩ | ⟨o1, o2⟩
    · have heb : (decide ((l.getD k Flat.dflt).src = 0) == decide ((l.getD k Flat.dflt).dst = 0)) = false := by
        rw [decide_eq_true o1, decide_eq_false (by omega)]; rfl
      (repeat' (first | (show VH _ _ _ _ _ _ _; first | refine v_seq ?_ | refine r_seq ?_ | refine v_block ?_ | refine v_skip ?_ | refine v_cond_t rfl tbL ?_ | refine v_cond_f rfl tbL ?_) | (show SH _ _ _ _ _ (_ :: _) _ _ _; first | (refine gif rfl rfl ?_; refine giFF tbL ?_) | refine mov evL ?_ | (show SH _ _ _ _ _ (⟨_, .binOp _ _ _ _ _, _, _, _, _⟩ :: _) _ _ _; first | refine lss rfl rfl ?_ | refine leq rfl rfl ?_ | refine gtr rfl rfl ?_ | refine eql rfl rfl ?_ | refine eqb rfl rfl ?_) | (show SH _ _ _ _ _ (⟨_, .load _ _, _, _, _, _⟩ :: _) _ _ _; first | refine lbx rfl spL (by rfl) ?_ | refine lra rfl (fun _ _ => rdL) (by rfl) omL ?_) | refine ix rfl rfl (by with_reducible rfl) (fun _ _ => rdL) (by rfl) omL omL ?_ | refine slen rfl ?_ | refine pkf rfl tbL evL ?_ | refine fad rfl ?_ | refine ala rfl (fun b => ?_) | refine sta rfl rfl rfl spL (by rfl) (by rfl) (by rfl) kpL ?_) | refine s_nil ?_ | refine kh_normal ?_))
      refine r_held [bx _ 36 _] [(0, true), (1, true), (2, true), (4, true), (5, true), (3, false), (6, false), (7, false), (8, false)] hmix (by kernel_rfl) enL ?_
      (repeat' ((show SH _ _ _ _ _ (_ :: _) _ _ _; first | refine lbx rfl spL (by rfl) ?_ | refine fad rfl ?_)))
      refine ixS rfl rfl hq (show q < 4 by omega) ?_
      (repeat' ((show SH _ _ _ _ _ (_ :: _) _ _ _; first | (show SH _ _ _ _ _ (⟨_, .load _ _, _, _, _, _⟩ :: _) _ _ _; first | refine lbx rfl spL (by rfl) ?_ | refine lbi rfl spL omL ?_) | refine fad rfl ?_)))
      rw [hqq]
      (repeat' (refine sub rfl rfl inL ?_))
      refine ixS rfl rfl hq (show q < 4 by omega) ?_
      refine sbi (i := q * 1) rfl rfl rfl spL (by omega) (ent_cons spL (ent_nil _)) ?_
      rw [hqq]
      (repeat' (first | refine r_seq ?_ | (show SH _ _ _ _ _ (_ :: _) _ _ _; first | refine mov evL ?_ | refine asg evL ?_ | refine add rfl rfl inL ?_) | refine s_nil ?_ | refine kh_normal ?_ | refine bh_normal ?_))
      rw [if_neg (by omega)] at hB
      exact ⟨agL, k + 1, hsL, hB ▸ enL, by show k + 1 ≤ _; omega, by show _ - (k + 1) < _ - k; omega⟩
    · have heb : (decide ((l.getD k Flat.dflt).src = 0) == decide ((l.getD k Flat.dflt).dst = 0)) = false := by
        rw [decide_eq_true o2, decide_eq_false (by omega)]; rfl
      (repeat' (first | (show VH _ _ _ _ _ _ _; first | refine v_seq ?_ | refine r_seq ?_ | refine v_block ?_ | refine v_skip ?_ | refine v_cond_t rfl tbL ?_ | refine v_cond_f rfl tbL ?_) | (show SH _ _ _ _ _ (_ :: _) _ _ _; first | (refine gif rfl rfl ?_; refine giFF tbL ?_) | refine mov evL ?_ | (show SH _ _ _ _ _ (⟨_, .binOp _ _ _ _ _, _, _, _, _⟩ :: _) _ _ _; first | refine lss rfl rfl ?_ | refine leq rfl rfl ?_ | refine gtr rfl rfl ?_ | refine eql rfl rfl ?_ | refine eqb rfl rfl ?_) | (show SH _ _ _ _ _ (⟨_, .load _ _, _, _, _, _⟩ :: _) _ _ _; first | refine lbx rfl spL (by rfl) ?_ | refine lra rfl (fun _ _ => rdL) (by rfl) omL ?_) | refine ix rfl rfl (by with_reducible rfl) (fun _ _ => rdL) (by rfl) omL omL ?_ | refine slen rfl ?_ | refine pkf rfl tbL evL ?_ | refine fad rfl ?_ | refine ala rfl (fun b => ?_) | refine sta rfl rfl rfl spL (by rfl) (by rfl) (by rfl) kpL ?_) | refine s_nil ?_ | refine kh_normal ?_))
      refine r_held [bx _ 36 _] [(0, true), (1, true), (2, true), (4, true), (5, true), (3, false), (6, false), (7, false), (8, false)] hmix (by kernel_rfl) enL ?_
      (repeat' ((show SH _ _ _ _ _ (_ :: _) _ _ _; first | refine lbx rfl spL (by rfl) ?_ | refine fad rfl ?_)))
      refine ixS rfl rfl hq (show q < 4 by omega) ?_
      (repeat' ((show SH _ _ _ _ _ (_ :: _) _ _ _; first | (show SH _ _ _ _ _ (⟨_, .load _ _, _, _, _, _⟩ :: _) _ _ _; first | refine lbx rfl spL (by rfl) ?_ | refine lbi rfl spL omL ?_) | refine fad rfl ?_)))
      rw [hqq]
      (repeat' (refine add rfl rfl inL ?_))
      refine ixS rfl rfl hq (show q < 4 by omega) ?_
      refine sbi (i := q * 1) rfl rfl rfl spL (by omega) (ent_cons spL (ent_nil _)) ?_
      rw [hqq]
      (repeat' (first | refine r_seq ?_ | (show SH _ _ _ _ _ (_ :: _) _ _ _; first | refine mov evL ?_ | refine asg evL ?_ | refine add rfl rfl inL ?_) | refine s_nil ?_ | refine kh_normal ?_ | refine bh_normal ?_))
      rw [if_pos o2] at hB
      exact ⟨agL, k + 1, hsL, hB ▸ enL, by show k + 1 ≤ _; omega, by show _ - (k + 1) < _ - k; omega⟩
  · have hke : k = l.length := by omega
    subst hke
    rw [List.take_length] at hL ⊢
    (repeat' (first | (show VH _ _ _ _ _ _ _; first | refine v_seq ?_ | refine r_seq ?_ | refine v_exit ?_ | refine v_cond_f rfl tbL ?_) | (show SH _ _ _ _ _ (_ :: _) _ _ _; first | refine mov evL ?_ | refine lss rfl rfl ?_ | refine slen rfl ?_) | refine s_nil ?_ | refine kh_normal ?_ | refine kh_exit ?_ | refine bh_exit ?_))
    refine lba rfl spL (by rw [ints_len]; exact hL) ?_
    refine sta rfl rfl rfl spL (by rfl) (by rw [ints_len]; exact hL) (List.all_eq_true.2 (ints_one _)) trivial ?_
    (repeat' (first | refine v_ret ?_ | refine asg evL ?_ | refine s_nil ?_ | refine kh_normal ?_))
    exact rhC2 rfl rfl rfl rfl (fun w hw => loadVar_bx hw spL (by rw [ints_len]; exact hL)) ⟨rfl, rfl⟩ (ent_nil _)
theorem holds_spec (A : Option Addr) (c0 : Nat) (h : House) (w : World) (hl : h.lots.length ≤ 1000000) (hr : Rd w A h.lots) :
    Ret Try.prog 28 [hv A c0 h].toArray w (Out w (.tuple #[.agg (ints (holdsH h)).toArray, .int .i64 (if validH h then 0 else 2)])) := by
  cases hval : validH h with
  | false =>
    have := holds_spec0 A c0 h w hl hr hval
    rw [show holdsH h = [0, 0, 0, 0] by unfold holdsH; rw [hval]; rfl]
    exact this
  | true => exact holds_spec1 A c0 h w hl hr hval
end Go.Proofs.Ytehjdbgijibmcaa
