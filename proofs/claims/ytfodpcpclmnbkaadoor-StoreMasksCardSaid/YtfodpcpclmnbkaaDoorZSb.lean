/- Package store: binary search (printed by gen_sb.py). -/
import Derived.Test.YtfodpcpclmnbkaaDoorZTw
import Derived.Test.YtfodpcpclmnbkaaDoorZSv
set_option linter.unusedSimpArgs false
set_option linter.unusedVariables false
namespace Go.Proofs.YtfodpcpclmnbkaaDoor
open Go.Fw Go.RowKit
def cmpI (a b : Int) : Int := if a < b then -1 else if b < a then 1 else 0
/-- How many elements lie ahead of the key k. -/
def lbK {α : Type} (key : α → Int) (k : Int) (l : List α) : Nat := (l.takeWhile fun x => decide (key x < k)).length
def hasK {α : Type} [Flat α] (key : α → Int) (k : Int) (l : List α) : Bool := decide (lbK key k l < l.length) && decide (key (l.getD (lbK key k l) Flat.dflt) = k)
theorem lbK_eq {α : Type} (d : α) (key : α → Int) (k : Int) : ∀ (l : List α) (i : Nat), i ≤ l.length → (∀ q, q < i → key (l.getD q d) < k) → (i < l.length → ¬ key (l.getD i d) < k) → lbK key k l = i
  | [], i, hi, _, _ => by simp at hi; subst hi; rfl
  | x :: l, 0, _, _, h2 => by
    have := h2 (by simp)
    unfold lbK
    rw [List.takeWhile_cons_of_neg (by simpa using this)]; rfl
  | x :: l, i + 1, hi, h1, h2 => by
    have h0 := h1 0 (by omega)
    have ih := lbK_eq d key k l i (by simpa using hi) (fun q hq => by simpa using h1 (q + 1) (by omega)) (fun h => by simpa using h2 (by simpa using h))
    unfold lbK at ih ⊢
    rw [List.takeWhile_cons_of_pos (by simpa using h0), List.length_cons, ih]
theorem isNaNE_spec (a : Int) (w : World) : Ret Tryd.prog 82 [.int .i64 a].toArray w (Out w (.bool false)) := by
  refine enterH Tryd.func82 rfl rfl Tryd.ntmps82 rfl (Wd.refl _) ?_
  (repeat' (first | (show VH _ _ _ _ _ _ _; first | refine v_seq ?_ | refine r_seq ?_ | refine v_ret ?_) | (show SH _ _ _ _ _ (_ :: _) _ _ _; first | (show SH _ _ _ _ _ (⟨_, .move _, _, _, _, _⟩ :: _) _ _ _; refine mov evL ?_) | (show SH _ _ _ _ _ (⟨_, .assign _, _, _, _, _⟩ :: _) _ _ _; refine asg evL ?_) | (show SH _ _ _ _ _ (⟨_, .binOp .neq _ _ _ _, _, _, _, _⟩ :: _) _ _ _; refine neqF rfl rfl omD ?_)) | refine s_nil ?_ | refine kh_normal ?_))
  exact rh1 rfl rfl ⟨congrArg Value.bool (by simp), rfl⟩ (ent_nil _)
set_option maxRecDepth 100000 in
theorem compareE_spec (a b : Int) (w : World) : Ret Tryd.prog 78 [.int .i64 a, .int .i64 b].toArray w (Out w (.int .i64 (cmpI a b))) := by
  refine enterH Tryd.func78 rfl rfl Tryd.ntmps78 rfl (Wd.refl _) ?_
  unfold cmpI
  by_cases h1 : a < b
  · rw [if_pos h1]
    (repeat' (first | (show VH _ _ _ _ _ _ _; first | refine v_seq ?_ | refine r_seq ?_ | refine v_ret ?_ | refine v_skip ?_ | refine v_cond_t rfl tbL ?_ | refine v_cond_f rfl tbL ?_) | (show SH _ _ _ _ _ (_ :: _) _ _ _; first | (show SH _ _ _ _ _ (⟨_, .move _, _, _, _, _⟩ :: _) _ _ _; refine mov evL ?_) | (show SH _ _ _ _ _ (⟨_, .assign _, _, _, _, _⟩ :: _) _ _ _; refine asg evL ?_) | (show SH _ _ _ _ _ (⟨_, .binOp .lss _ _ _ _, _, _, _, _⟩ :: _) _ _ _; refine lssT rfl rfl omD ?_) | (show SH _ _ _ _ _ (⟨_, .call ⟨.value (.func 82), _, _⟩, _, _, _, _⟩ :: _) _ _ _; refine cl (callee := .func 82) rfl (fun w hw => isNaNE_spec _ w) rfl rfl ?_)) | refine s_nil ?_ | refine kh_normal ?_ | refine kh_ret ?_))
    exact rh1 rfl rfl ⟨rfl, rfl⟩ (ent_nil _)
  · rw [if_neg h1]
    by_cases h2 : b < a
    · rw [if_pos h2]
      (repeat' (first | (show VH _ _ _ _ _ _ _; first | refine v_seq ?_ | refine r_seq ?_ | refine v_ret ?_ | refine v_skip ?_ | refine v_cond_t rfl tbL ?_ | refine v_cond_f rfl tbL ?_) | (show SH _ _ _ _ _ (_ :: _) _ _ _; first | (show SH _ _ _ _ _ (⟨_, .move _, _, _, _, _⟩ :: _) _ _ _; refine mov evL ?_) | (show SH _ _ _ _ _ (⟨_, .assign _, _, _, _, _⟩ :: _) _ _ _; refine asg evL ?_) | (show SH _ _ _ _ _ (⟨_, .binOp .lss _ _ _ _, _, _, _, _⟩ :: _) _ _ _; refine lssF rfl rfl omD ?_) | (show SH _ _ _ _ _ (⟨_, .binOp .gtr _ _ _ _, _, _, _, _⟩ :: _) _ _ _; refine gtrT rfl rfl omD ?_) | (show SH _ _ _ _ _ (⟨_, .call ⟨.value (.func 82), _, _⟩, _, _, _, _⟩ :: _) _ _ _; refine cl (callee := .func 82) rfl (fun w hw => isNaNE_spec _ w) rfl rfl ?_)) | refine s_nil ?_ | refine kh_normal ?_ | refine kh_ret ?_))
      exact rh1 rfl rfl ⟨rfl, rfl⟩ (ent_nil _)
    · rw [if_neg h2]
      (repeat' (first | (show VH _ _ _ _ _ _ _; first | refine v_seq ?_ | refine r_seq ?_ | refine v_ret ?_ | refine v_skip ?_ | refine v_cond_f rfl tbL ?_) | (show SH _ _ _ _ _ (_ :: _) _ _ _; first | (show SH _ _ _ _ _ (⟨_, .move _, _, _, _, _⟩ :: _) _ _ _; refine mov evL ?_) | (show SH _ _ _ _ _ (⟨_, .assign _, _, _, _, _⟩ :: _) _ _ _; refine asg evL ?_) | (show SH _ _ _ _ _ (⟨_, .binOp .lss _ _ _ _, _, _, _, _⟩ :: _) _ _ _; refine lssF rfl rfl omD ?_) | (show SH _ _ _ _ _ (⟨_, .binOp .gtr _ _ _ _, _, _, _, _⟩ :: _) _ _ _; refine gtrF rfl rfl omD ?_) | (show SH _ _ _ _ _ (⟨_, .call ⟨.value (.func 82), _, _⟩, _, _, _, _⟩ :: _) _ _ _; refine cl (callee := .func 82) rfl (fun w hw => isNaNE_spec _ w) rfl rfl ?_)) | refine s_nil ?_ | refine kh_normal ?_))
      exact rh1 rfl rfl ⟨rfl, rfl⟩ (ent_nil _)
set_option maxHeartbeats 2000000 in
set_option maxRecDepth 100000 in
theorem binSearchE_spec (A : Option Addr) (l : List EntP) (c1 : Nat) (k : Int) (g0 : FuncId) (fst cap : Array Value) (key : EntP → Int) (w : World) (hl : l.length ≤ 140737488355328) (hr : Rd w A l) (hR : Rising key l)
    (hp : ∀ w', Ext w w' → ∀ x ∈ l, Ret Tryd.prog g0 (fst.toList ++ [Value.agg (Flat.enc x).toArray, Value.int .i64 k] ++ cap.toList).toArray w' (Out w' (.int .i64 (cmpI (key x) k)))) :
    Ret Tryd.prog 76 [.slice A l.length c1, .int .i64 k, .func (.func g0) fst cap].toArray w (Out w (.tuple #[.int .i64 (lbK key k l), .bool (hasK key k l)])) := by
  refine enterH Tryd.func76 rfl rfl Tryd.ntmps76 rfl (Wd.refl _) ?_
  (repeat' (first | (show VH _ _ _ _ _ _ _; first | refine v_seq ?_ | refine r_seq ?_ | refine v_block ?_) | (show SH _ _ _ _ _ (_ :: _) _ _ _; first | (show SH _ _ _ _ _ (⟨_, .move _, _, _, _, _⟩ :: _) _ _ _; refine mov evL ?_) | (show SH _ _ _ _ _ (⟨_, .assign _, _, _, _, _⟩ :: _) _ _ _; refine asg evL ?_) | refine slen rfl ?_) | refine s_nil ?_ | refine kh_normal ?_))
  refine v_loop0 [(9,11),(15,34)] (fun s : Nat × Nat => [(9, .int .i64 s.1), (10, .int .i64 s.2)]) (fun s => s.1 ≤ s.2 ∧ s.2 ≤ l.length ∧ (∀ q, q < s.1 → key (l.getD q Flat.dflt) < k) ∧ (∀ q, s.2 ≤ q → q < l.length → ¬ key (l.getD q Flat.dflt) < k)) (fun s => s.2 - s.1) (0, l.length) hsL ⟨Nat.zero_le _, Nat.le_refl _, fun q h => absurd h (Nat.not_lt_zero q), fun q h1 h2 => by have : l.length ≤ q := h1; omega⟩ ?_
  rintro ⟨i, j⟩ g ⟨hij, hj, h1, h2⟩
  simp only [sets]
  simp only at hij hj h1 h2
  by_cases hlt : i < j
  · obtain ⟨m, hm⟩ : ∃ m : Nat, ((i : Int) + (j : Int)) / 2 = (m : Int) := ⟨(i + j) / 2, by omega⟩
    have hmi : i ≤ m ∧ m < j := by omega
    have hp' := fun w he => hp w he (l.getD m Flat.dflt) (getD_mem (by omega))
    have hcm : cmpI (key (l.getD m Flat.dflt)) k < 0 ↔ key (l.getD m Flat.dflt) < k := by unfold cmpI; split <;> (try split) <;> omega
    by_cases hk : key (l.getD m Flat.dflt) < k
    · have hneg := hcm.2 hk
      have h1' : ∀ q, q < m + 1 → key (l.getD q Flat.dflt) < k := fun q hq => by
        by_cases e : q = m
        · rw [e]; exact hk
        · have := rising_at Flat.dflt hR (show q < m by omega) (by omega); omega
      clear h1 hcm hR hk
      (repeat' ((fail_if_success (show VH _ _ (.seq (.region 5 _ _) _) _ _ _ _)); first | (show VH _ _ _ _ _ _ _; first | refine v_seq ?_ | refine r_seq ?_ | refine v_block ?_ | refine v_skip ?_ | refine v_cond_t rfl tbL ?_) | (show SH _ _ _ _ _ (_ :: _) _ _ _; first | (show SH _ _ _ _ _ (⟨_, .move _, _, _, _, _⟩ :: _) _ _ _; refine mov evL ?_) | (show SH _ _ _ _ _ (⟨_, .assign _, _, _, _, _⟩ :: _) _ _ _; refine asg evL ?_) | (show SH _ _ _ _ _ (⟨_, .binOp .lss _ _ _ _, _, _, _, _⟩ :: _) _ _ _; refine lssT rfl rfl omD ?_) | (show SH _ _ _ _ _ (⟨_, .binOp .add _ _ _ _, _, _, _, _⟩ :: _) _ _ _; refine add rfl rfl inL ?_) | refine sh1 rfl rfl ?_ | (show SH _ _ _ _ _ (⟨_, .convert _ _ _, _, _, _, _⟩ :: _) _ _ _; first | refine c64 rfl inL ?_ | refine cu64 rfl omL omL ?_)) | refine s_nil ?_ | refine kh_normal ?_))
      rw [hm]
      (repeat' (first | (show VH _ _ _ _ _ _ _; first | refine v_seq ?_ | refine r_seq ?_ | refine v_cond_t rfl tbL ?_) | (show SH _ _ _ _ _ (_ :: _) _ _ _; first | (show SH _ _ _ _ _ (⟨_, .move _, _, _, _, _⟩ :: _) _ _ _; refine mov evL ?_) | (show SH _ _ _ _ _ (⟨_, .assign _, _, _, _, _⟩ :: _) _ _ _; refine asg evL ?_) | (show SH _ _ _ _ _ (⟨_, .binOp .lss _ _ _ _, _, _, _, _⟩ :: _) _ _ _; refine lssT rfl rfl omD ?_) | (show SH _ _ _ _ _ (⟨_, .binOp .add _ _ _ _, _, _, _, _⟩ :: _) _ _ _; refine add rfl rfl inL ?_) | (show SH _ _ _ _ _ (⟨_, .load _ _, _, _, _, _⟩ :: _) _ _ _; first | refine lra rfl (fun _ _ => rdX) (by rfl) omL ?_ | refine lra rfl (fun _ _ => rdX) (by rfl) (by simp only [List.length_cons, List.length_nil]; omega) ?_) | (show SH _ _ _ _ _ (⟨_, .indexAddr _ _ _, _, _, _, _⟩ :: _) _ _ _; refine ix rfl rfl (by with_reducible rfl) (fun _ _ => rdX) (by rfl) omL omL ?_) | (show SH _ _ _ _ _ (⟨_, .call ⟨.value (.tmp _), _, _⟩, _, _, _, _⟩ :: _) _ _ _; refine cl (callee := .tmp _) rfl (fun w hw => hp' _ hw.ext) rfl rfl ?_)) | refine s_nil ?_ | refine kh_normal ?_ | refine bh_normal ?_))
      exact ⟨agL, (m + 1, j), hsL, enL, ⟨by show m + 1 ≤ j; omega, hj, h1', h2⟩, by show j - (m + 1) < j - i; omega⟩
    · have hneg : ¬ cmpI (key (l.getD m Flat.dflt)) k < 0 := fun h => hk (hcm.1 h)
      have h2' : ∀ q, m ≤ q → q < l.length → ¬ key (l.getD q Flat.dflt) < k := fun q hq hql => by
        by_cases e : q = m
        · rw [e]; exact hk
        · have := rising_at Flat.dflt hR (show m < q by omega) hql; omega
      clear h2 hcm hR hk
      (repeat' ((fail_if_success (show VH _ _ (.seq (.region 5 _ _) _) _ _ _ _)); first | (show VH _ _ _ _ _ _ _; first | refine v_seq ?_ | refine r_seq ?_ | refine v_block ?_ | refine v_skip ?_ | refine v_cond_t rfl tbL ?_) | (show SH _ _ _ _ _ (_ :: _) _ _ _; first | (show SH _ _ _ _ _ (⟨_, .move _, _, _, _, _⟩ :: _) _ _ _; refine mov evL ?_) | (show SH _ _ _ _ _ (⟨_, .assign _, _, _, _, _⟩ :: _) _ _ _; refine asg evL ?_) | (show SH _ _ _ _ _ (⟨_, .binOp .lss _ _ _ _, _, _, _, _⟩ :: _) _ _ _; refine lssT rfl rfl omD ?_) | (show SH _ _ _ _ _ (⟨_, .binOp .add _ _ _ _, _, _, _, _⟩ :: _) _ _ _; refine add rfl rfl inL ?_) | refine sh1 rfl rfl ?_ | (show SH _ _ _ _ _ (⟨_, .convert _ _ _, _, _, _, _⟩ :: _) _ _ _; first | refine c64 rfl inL ?_ | refine cu64 rfl omL omL ?_)) | refine s_nil ?_ | refine kh_normal ?_))
      rw [hm]
      (repeat' (first | (show VH _ _ _ _ _ _ _; first | refine v_seq ?_ | refine r_seq ?_ | refine v_cond_f rfl tbL ?_) | (show SH _ _ _ _ _ (_ :: _) _ _ _; first | (show SH _ _ _ _ _ (⟨_, .move _, _, _, _, _⟩ :: _) _ _ _; refine mov evL ?_) | (show SH _ _ _ _ _ (⟨_, .assign _, _, _, _, _⟩ :: _) _ _ _; refine asg evL ?_) | (show SH _ _ _ _ _ (⟨_, .binOp .lss _ _ _ _, _, _, _, _⟩ :: _) _ _ _; refine lssF rfl rfl omD ?_) | (show SH _ _ _ _ _ (⟨_, .load _ _, _, _, _, _⟩ :: _) _ _ _; first | refine lra rfl (fun _ _ => rdX) (by rfl) omL ?_ | refine lra rfl (fun _ _ => rdX) (by rfl) (by simp only [List.length_cons, List.length_nil]; omega) ?_) | (show SH _ _ _ _ _ (⟨_, .indexAddr _ _ _, _, _, _, _⟩ :: _) _ _ _; refine ix rfl rfl (by with_reducible rfl) (fun _ _ => rdX) (by rfl) omL omL ?_) | (show SH _ _ _ _ _ (⟨_, .call ⟨.value (.tmp _), _, _⟩, _, _, _, _⟩ :: _) _ _ _; refine cl (callee := .tmp _) rfl (fun w hw => hp' _ hw.ext) rfl rfl ?_)) | refine s_nil ?_ | refine kh_normal ?_ | refine bh_normal ?_))
      exact ⟨agL, (i, m), hsL, enL, ⟨by show i ≤ m; omega, by show m ≤ _; omega, h1, h2'⟩, by show m - i < j - i; omega⟩
  · have hji : i = j := by omega
    subst hji
    have hlb : lbK key k l = i := lbK_eq Flat.dflt key k l i hj h1 (fun h => h2 i (Nat.le_refl _) h)
    unfold hasK
    rw [hlb]
    clear hlb h1 h2 hR
    by_cases hil : i < l.length
    · have hp' := fun w he => hp w he (l.getD i Flat.dflt) (getD_mem hil)
      have hcm : cmpI (key (l.getD i Flat.dflt)) k = 0 ↔ key (l.getD i Flat.dflt) = k := by unfold cmpI; split <;> (try split) <;> omega
      rw [decide_eq_true hil, Bool.true_and]
      by_cases hk : key (l.getD i Flat.dflt) = k
      · have h0 := hcm.2 hk
        rw [decide_eq_true hk]
        clear hcm hk
        (repeat' (first | (show VH _ _ _ _ _ _ _; first | refine v_seq ?_ | refine r_seq ?_ | refine v_ret ?_ | refine v_exit ?_ | refine v_cond_f rfl tbL ?_) | (show SH _ _ _ _ _ (_ :: _) _ _ _; first | (show SH _ _ _ _ _ (⟨_, _, _, _, _, some _⟩ :: _) _ _ _; (refine gif rfl rfl ?_; refine giTT tbL ?_)) | (show SH _ _ _ _ _ (⟨_, .move _, _, _, _, _⟩ :: _) _ _ _; refine mov evL ?_) | (show SH _ _ _ _ _ (⟨_, .assign _, _, _, _, _⟩ :: _) _ _ _; refine asg evL ?_) | (show SH _ _ _ _ _ (⟨_, .binOp .lss _ _ _ _, _, _, _, _⟩ :: _) _ _ _; first | refine lssT rfl rfl omD ?_ | refine lssF rfl rfl omD ?_) | (show SH _ _ _ _ _ (⟨_, .binOp .eql _ _ _ _, _, _, _, _⟩ :: _) _ _ _; refine eqlT rfl rfl omD ?_) | (show SH _ _ _ _ _ (⟨_, .load _ _, _, _, _, _⟩ :: _) _ _ _; first | refine lra rfl (fun _ _ => rdX) (by rfl) omL ?_ | refine lra rfl (fun _ _ => rdX) (by rfl) (by simp only [List.length_cons, List.length_nil]; omega) ?_) | (show SH _ _ _ _ _ (⟨_, .indexAddr _ _ _, _, _, _, _⟩ :: _) _ _ _; refine ix rfl rfl (by with_reducible rfl) (fun _ _ => rdX) (by rfl) omL omL ?_) | (show SH _ _ _ _ _ (⟨_, .call ⟨.value (.tmp _), _, _⟩, _, _, _, _⟩ :: _) _ _ _; refine cl (callee := .tmp _) rfl (fun w hw => hp' _ hw.ext) rfl rfl ?_) | (show SH _ _ _ _ _ (⟨_, .pick _ _ _, _, _, _, _⟩ :: _) _ _ _; refine pkt rfl tbL evL ?_)) | refine s_nil ?_ | refine kh_normal ?_ | refine kh_exit ?_ | refine bh_exit ?_))
        exact rh2 rfl rfl rfl ⟨rfl, rfl⟩ (ent_nil _)
      · have h0 : ¬ cmpI (key (l.getD i Flat.dflt)) k = 0 := fun h => hk (hcm.1 h)
        rw [decide_eq_false hk]
        clear hcm hk
        (repeat' (first | (show VH _ _ _ _ _ _ _; first | refine v_seq ?_ | refine r_seq ?_ | refine v_ret ?_ | refine v_exit ?_ | refine v_cond_f rfl tbL ?_) | (show SH _ _ _ _ _ (_ :: _) _ _ _; first | (show SH _ _ _ _ _ (⟨_, _, _, _, _, some _⟩ :: _) _ _ _; (refine gif rfl rfl ?_; refine giTT tbL ?_)) | (show SH _ _ _ _ _ (⟨_, .move _, _, _, _, _⟩ :: _) _ _ _; refine mov evL ?_) | (show SH _ _ _ _ _ (⟨_, .assign _, _, _, _, _⟩ :: _) _ _ _; refine asg evL ?_) | (show SH _ _ _ _ _ (⟨_, .binOp .lss _ _ _ _, _, _, _, _⟩ :: _) _ _ _; first | refine lssT rfl rfl omD ?_ | refine lssF rfl rfl omD ?_) | (show SH _ _ _ _ _ (⟨_, .binOp .eql _ _ _ _, _, _, _, _⟩ :: _) _ _ _; refine eqlF rfl rfl omD ?_) | (show SH _ _ _ _ _ (⟨_, .load _ _, _, _, _, _⟩ :: _) _ _ _; first | refine lra rfl (fun _ _ => rdX) (by rfl) omL ?_ | refine lra rfl (fun _ _ => rdX) (by rfl) (by simp only [List.length_cons, List.length_nil]; omega) ?_) | (show SH _ _ _ _ _ (⟨_, .indexAddr _ _ _, _, _, _, _⟩ :: _) _ _ _; refine ix rfl rfl (by with_reducible rfl) (fun _ _ => rdX) (by rfl) omL omL ?_) | (show SH _ _ _ _ _ (⟨_, .call ⟨.value (.tmp _), _, _⟩, _, _, _, _⟩ :: _) _ _ _; refine cl (callee := .tmp _) rfl (fun w hw => hp' _ hw.ext) rfl rfl ?_) | (show SH _ _ _ _ _ (⟨_, .pick _ _ _, _, _, _, _⟩ :: _) _ _ _; refine pkt rfl tbL evL ?_)) | refine s_nil ?_ | refine kh_normal ?_ | refine kh_exit ?_ | refine bh_exit ?_))
        exact rh2 rfl rfl rfl ⟨rfl, rfl⟩ (ent_nil _)
    · rw [decide_eq_false hil, Bool.false_and]
      (repeat' (first | (show VH _ _ _ _ _ _ _; first | refine v_seq ?_ | refine r_seq ?_ | refine v_ret ?_ | refine v_exit ?_ | refine v_cond_f rfl tbL ?_) | (show SH _ _ _ _ _ (_ :: _) _ _ _; first | (show SH _ _ _ _ _ (⟨_, _, _, _, _, some _⟩ :: _) _ _ _; (refine gif rfl rfl ?_; refine giTF tbL ?_)) | (show SH _ _ _ _ _ (⟨_, .move _, _, _, _, _⟩ :: _) _ _ _; refine mov evL ?_) | (show SH _ _ _ _ _ (⟨_, .assign _, _, _, _, _⟩ :: _) _ _ _; refine asg evL ?_) | (show SH _ _ _ _ _ (⟨_, .binOp .lss _ _ _ _, _, _, _, _⟩ :: _) _ _ _; refine lssF rfl rfl omD ?_) | (show SH _ _ _ _ _ (⟨_, .pick _ _ _, _, _, _, _⟩ :: _) _ _ _; refine pkf rfl tbL evL ?_)) | refine s_nil ?_ | refine kh_normal ?_ | refine kh_exit ?_ | refine bh_exit ?_))
      exact rh2 rfl rfl rfl ⟨rfl, rfl⟩ (ent_nil _)
end Go.Proofs.YtfodpcpclmnbkaaDoor
