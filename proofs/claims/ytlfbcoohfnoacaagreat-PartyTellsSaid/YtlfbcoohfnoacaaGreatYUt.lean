/- marcheskit: SameInts, CopyInts, Pick (chapter 36). -/
import Derived.Test.YtlfbcoohfnoacaaGreatYUs
import Derived.Test.YtlfbcoohfnoacaaGreatYTwp
import Derived.Test.YtlfbcoohfnoacaaGreatYWz
set_option linter.unusedSimpArgs false
set_option linter.unusedVariables false
namespace Go.Proofs.YtlfbcoohfnoacaaGreat
open Go.Fw Go.RowKit
set_option maxRecDepth 100000 in
theorem sameInts_spec (A B : Option Addr) (l m : List Int) (c1 c2 : Nat) (w : World) (hl : l.length ≤ 1000000) (hl2 : m.length ≤ 1000000) (hA : Rd w A l) (hB : Rd w B m) :
    Ret Tryz.prog 21 [.slice A l.length c1, .slice B m.length c2].toArray w (Out w (.bool (decide (l = m)))) := by
  refine enterH Tryz.func21 rfl rfl Tryz.ntmps21 rfl (Wd.refl _) ?_
  (repeat' (first | (show VH _ _ _ _ _ _ _; first | refine v_seq ?_ | refine r_seq ?_ | refine v_block ?_ | refine v_ret ?_ | refine v_skip ?_ | refine v_cond_dec rfl (fun h => ?_) (fun h => ?_)) | (show SH _ _ _ _ _ (_ :: _) _ _ _; first | (show SH _ _ _ _ _ (⟨_, .move _, _, _, _, _⟩ :: _) _ _ _; refine mov evL ?_) | (show SH _ _ _ _ _ (⟨_, .assign _, _, _, _, _⟩ :: _) _ _ _; refine asg evL ?_) | refine neq rfl rfl ?_ | refine slen rfl ?_) | refine s_nil ?_ | refine kh_normal ?_ | refine kh_ret ?_))
  · exact rh1 rfl rfl ⟨congrArg Value.bool (by rw [decide_eq_false]; intro e; rw [e] at h; omega), rfl⟩ (ent_nil _)
  · have hlm : l.length = m.length := by omega
    refine v_loop0 [(4,5),(11,25)] (fun k : Nat => [(5, .int .i64 k)]) (fun k => k ≤ l.length ∧ l.take k = m.take k) (fun k => l.length - k) 0 hsL ⟨Nat.zero_le _, rfl⟩ ?_
    rintro k g ⟨hk, hv⟩
    simp only [sets]
    (repeat' (first | (show VH _ _ _ _ _ _ _; first | refine v_seq ?_ | refine r_seq ?_ | refine r_quiet hmix (by kernel_rfl) ?_ | refine v_block ?_ | refine v_ret ?_ | refine v_skip ?_ | refine v_exit ?_ | refine v_cond_dec rfl (fun h => ?_) (fun h => ?_)) | (show SH _ _ _ _ _ (_ :: _) _ _ _; first | (show SH _ _ _ _ _ (⟨_, .move _, _, _, _, _⟩ :: _) _ _ _; refine mov evL ?_) | (show SH _ _ _ _ _ (⟨_, .assign _, _, _, _, _⟩ :: _) _ _ _; refine asg evL ?_) | refine lss rfl rfl ?_ | refine neq rfl rfl ?_ | (show SH _ _ _ _ _ (⟨_, .binOp .add _ _ _ _, _, _, _, _⟩ :: _) _ _ _; refine add rfl rfl inL ?_) | (show SH _ _ _ _ _ (⟨_, .load _ _, _, _, _, _⟩ :: _) _ _ _; refine lin rfl (fun _ _ => rdP) omL ?_) | (show SH _ _ _ _ _ (⟨_, .indexAddr _ _ _, _, _, _, _⟩ :: _) _ _ _; refine ix rfl rfl (by with_reducible rfl) (fun _ _ => rdP) (by rfl) omL omL ?_) | refine slen rfl ?_) | refine s_nil ?_ | refine kh_normal ?_ | refine kh_ret ?_ | refine kh_exit ?_ | refine bh_normal ?_ | refine bh_ret ?_ | refine bh_exit ?_))
    · exact rh1 rfl rfl ⟨congrArg Value.bool (by rw [decide_eq_false]; intro e; rw [e] at h; exact h rfl), rfl⟩ (ent_nil _)
    · have e : l.getD k 0 = m.getD k 0 := Classical.byContradiction h
      exact ⟨agL, k + 1, hsL, enL, ⟨by omega, by rw [takeI (by omega), takeI (by omega), hv, e]⟩, by omega⟩
    · have e : k = l.length := by omega
      subst e
      rw [List.take_length, hlm, List.take_length] at hv
      exact rh1 rfl rfl ⟨congrArg Value.bool (by rw [decide_eq_true hv]), rfl⟩ (ent_nil _)
set_option maxRecDepth 100000 in
theorem copyInts_spec (A : Option Addr) (l : List Int) (cp : Nat) (w : World) (hl : l.length ≤ 1000000) (hr : Rd w A l) :
    Ret Tryz.prog 62 [.slice A l.length cp].toArray w (RP w (Fresh 3 l)) := by
  refine enterH Tryz.func62 rfl rfl Tryz.ntmps62 rfl (Wd.refl _) ?_
  refine VH.ent (G := [orow 3 none 0 ([] : List Int)]) ?_ (ent_nilrow (ent_nil _))
  (repeat' (first | (show VH _ _ _ _ _ _ _; first | refine v_seq ?_ | refine r_seq ?_) | (show SH _ _ _ _ _ (_ :: _) _ _ _; first | (show SH _ _ _ _ _ (⟨_, .move _, _, _, _, _⟩ :: _) _ _ _; refine mov evL ?_) | (show SH _ _ _ _ _ (⟨_, .assign _, _, _, _, _⟩ :: _) _ _ _; refine asg evL ?_)) | refine s_nil ?_ | refine kh_normal ?_))
  refine app (l := ([] : List Int)) rfl rfl rfl spL (fun _ _ => rdP) rfl rfl rfl (by simp; omega) (by simp; omega) (fun A' cp' => ⟨trivial, ?_⟩)
  (repeat' (first | refine v_ret ?_ | (show SH _ _ _ _ _ (_ :: _) _ _ _; (show SH _ _ _ _ _ (⟨_, .assign _, _, _, _, _⟩ :: _) _ _ _; refine asg evL ?_)) | refine s_nil ?_ | refine kh_normal ?_))
  exact rh1 rfl rfl ⟨A', cp', rfl, rfl⟩ enL
section
variable {md : Md} {P : Program} {n : Nat} {Q : HQ} {f : Fr} {w0 : World} {H R : List HP} {ops : Array Oper} {rest : List Oper} {d : Nat} {op : Op} {ty : TypeId} {pos : String} {aft : Array Edge} {v : Value} {x y : Operand}
theorem remT {a b : Int} {t1 t2 : TypeId} (hx : ev n f x = .int .i64 a) (hy : ev n f y = .int .i64 b) (hb : b ≠ 0) (k : SH (nx md) P n ops Q rest (upd f d (.int .i64 (a.tmod b))) w0 H) : SH md P n ops Q (⟨some d, .binOp .rem t1 x y t2, ty, pos, aft, none⟩ :: rest) f w0 H :=
  s_val (fun w _ => ox_rem hx hy hb) k
end
theorem pick_eq {n k : Int} (hk : 0 < k) : (n.tmod k < 0 → n.tmod k + k = n % k) ∧ (¬ n.tmod k < 0 → n.tmod k = n % k) ∧ -k < n.tmod k ∧ n.tmod k < k := by
  have h1 := Int.emod_nonneg n (show k ≠ 0 by omega)
  have h2 := Int.emod_lt_of_pos n hk
  have h3 := Int.tmod_eq_emod (a := n) (b := k)
  have h4 : (k.natAbs : Int) = k := by omega
  have h5 : ¬ k ∣ n → n % k ≠ 0 := fun h e => h (Int.dvd_of_emod_eq_zero e)
  split at h3
  · omega
  · rename_i h6
    have := h5 (fun h => h6 (.inr h))
    omega
set_option maxRecDepth 100000 in
theorem pick_spec (n k : Int) (w : World) (h1 : 1 ≤ k) (h2 : k ≤ 2000000000000) : Ret Tryz.prog 38 [.int .i64 n, .int .i64 k].toArray w (Out w (.int .i64 (n % k))) := by
  obtain ⟨e1, e2, e3, e4⟩ := pick_eq (n := n) (show 0 < k by omega)
  refine enterH Tryz.func38 rfl rfl Tryz.ntmps38 rfl (Wd.refl _) ?_
  (repeat' (first | (show VH _ _ _ _ _ _ _; first | refine v_seq ?_ | refine r_seq ?_ | refine v_skip ?_ | refine v_cond_f rfl tbL ?_) | (show SH _ _ _ _ _ (_ :: _) _ _ _; first | (show SH _ _ _ _ _ (⟨_, .move _, _, _, _, _⟩ :: _) _ _ _; refine mov evL ?_) | (show SH _ _ _ _ _ (⟨_, .assign _, _, _, _, _⟩ :: _) _ _ _; refine asg evL ?_) | (show SH _ _ _ _ _ (⟨_, .binOp .lss _ _ _ _, _, _, _, _⟩ :: _) _ _ _; refine lssF rfl rfl omD ?_)) | refine s_nil ?_ | refine kh_normal ?_))
  refine remT rfl rfl (by omega) ?_
  generalize n.tmod k = r at e1 e2 e3 e4 ⊢
  (repeat' (first | (show VH _ _ _ _ _ _ _; first | refine v_seq ?_ | refine r_seq ?_ | refine v_ret ?_ | refine v_skip ?_ | refine v_cond_dec rfl (fun h => ?_) (fun h => ?_)) | (show SH _ _ _ _ _ (_ :: _) _ _ _; first | (show SH _ _ _ _ _ (⟨_, .move _, _, _, _, _⟩ :: _) _ _ _; refine mov evL ?_) | (show SH _ _ _ _ _ (⟨_, .assign _, _, _, _, _⟩ :: _) _ _ _; refine asg evL ?_) | refine lss rfl rfl ?_ | (show SH _ _ _ _ _ (⟨_, .binOp .add _ _ _ _, _, _, _, _⟩ :: _) _ _ _; refine add rfl rfl inL ?_)) | refine s_nil ?_ | refine kh_normal ?_))
  · exact rh1 rfl rfl ⟨congrArg (Value.int .i64) (e1 (by omega)), rfl⟩ (ent_nil _)
  · exact rh1 rfl rfl ⟨congrArg (Value.int .i64) (e2 (by omega)), rfl⟩ (ent_nil _)
end Go.Proofs.YtlfbcoohfnoacaaGreat
