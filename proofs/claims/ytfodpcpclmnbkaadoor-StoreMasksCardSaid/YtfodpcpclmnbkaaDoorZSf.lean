/-  Functions of package slices at components, entities and points (printed by gen_sf.py). -/
import Derived.Test.YtfodpcpclmnbkaaDoorZTw
import Derived.Test.YtfodpcpclmnbkaaDoorZSm
set_option linter.unusedSimpArgs false
set_option linter.unusedVariables false
namespace Go.Proofs.YtfodpcpclmnbkaaDoor
open Go.Fw Go.RowKit
/-- A point. -/
structure Pt where
  x : Int
  y : Int
  deriving DecidableEq
instance : Flat Pt := ⟨2, fun p => [.int .i64 p.x, .int .i64 p.y], ⟨0, 0⟩, fun _ => rfl, fun x v hv => by simp at hv; rcases hv with rfl | rfl <;> rfl, by omega⟩
/-- A function value that answers p at the elements of a list. -/
abbrev AsksL {α : Type} [Flat α] (w : World) (fv : Value) (l : List α) (p : α → Bool) : Prop := Fun1 Tryd.prog w fv (fun x : α => .agg (Flat.enc x).toArray) (fun x => .bool (p x)) (· ∈ l)
set_option maxRecDepth 100000 in
theorem indexFuncC_spec (A : Option Addr) (l : List Comp) (cp : Nat) (fv : Value) (p : Comp → Bool) (w : World) (hl : l.length ≤ 140737488355328) (hr : Rd w A l) (hp : AsksL w fv l p) :
    Ret Tryd.prog 75 [.slice A l.length cp, fv].toArray w (Out w (.int .i64 (idxOf p l))) := by
  obtain ⟨g0, fst, cap, rfl, hp⟩ := hp
  refine enterH Tryd.func75 rfl rfl Tryd.ntmps75 rfl (Wd.refl _) ?_
  (repeat' (first | (show VH _ _ _ _ _ _ _; first | refine v_seq ?_ | refine r_seq ?_ | refine v_block ?_) | (show SH _ _ _ _ _ (_ :: _) _ _ _; first | (show SH _ _ _ _ _ (⟨_, .move _, _, _, _, _⟩ :: _) _ _ _; refine mov evL ?_) | (show SH _ _ _ _ _ (⟨_, .assign _, _, _, _, _⟩ :: _) _ _ _; refine asg evL ?_) | refine slen rfl ?_) | refine s_nil ?_ | refine kh_normal ?_))
  refine v_loop0 [(4,5),(8,18)] (fun k : Nat => [(8, .int .i64 k)]) (fun k => k ≤ l.length ∧ idxFrom p k (l.drop k) = idxOf p l) (fun k => l.length - k) 0 hsL ⟨Nat.zero_le _, rfl⟩ ?_
  rintro k g ⟨hk, hv⟩
  simp only [sets]
  by_cases hkl : k < l.length
  · have hp' := fun w he => hp w he (l.getD k Flat.dflt) (getD_mem hkl)
    rw [drop_cons (d := Flat.dflt) hkl, idxFrom] at hv
    cases hb : p (l.getD k Flat.dflt) with
    | true =>
      simp only [hb] at hp'
      rw [if_pos hb] at hv
      (repeat' (first | (show VH _ _ _ _ _ _ _; first | refine v_seq ?_ | refine r_seq ?_ | refine v_block ?_ | refine v_ret ?_ | refine v_skip ?_ | refine v_cond_t rfl tbL ?_) | (show SH _ _ _ _ _ (_ :: _) _ _ _; first | (show SH _ _ _ _ _ (⟨_, .move _, _, _, _, _⟩ :: _) _ _ _; refine mov evL ?_) | (show SH _ _ _ _ _ (⟨_, .assign _, _, _, _, _⟩ :: _) _ _ _; refine asg evL ?_) | (show SH _ _ _ _ _ (⟨_, .binOp .lss _ _ _ _, _, _, _, _⟩ :: _) _ _ _; refine lssT rfl rfl omD ?_) | (show SH _ _ _ _ _ (⟨_, .load _ _, _, _, _, _⟩ :: _) _ _ _; first | refine lra rfl (fun _ _ => rdX) (by rfl) omL ?_ | refine lra rfl (fun _ _ => rdX) (by rfl) (by simp only [List.length_cons, List.length_nil]; omega) ?_) | (show SH _ _ _ _ _ (⟨_, .indexAddr _ _ _, _, _, _, _⟩ :: _) _ _ _; refine ix rfl rfl (by with_reducible rfl) (fun _ _ => rdX) (by rfl) omL omL ?_) | (show SH _ _ _ _ _ (⟨_, .call ⟨.value (.tmp _), _, _⟩, _, _, _, _⟩ :: _) _ _ _; refine cl (callee := .tmp _) rfl (fun w hw => hp' _ hw.ext) rfl rfl ?_)) | refine s_nil ?_ | refine kh_normal ?_ | refine kh_ret ?_ | refine bh_ret ?_))
      exact rh1 rfl rfl ⟨congrArg (Value.int .i64) hv, rfl⟩ (ent_nil _)
    | false =>
      simp only [hb] at hp'
      rw [if_neg (by rw [hb]; simp)] at hv
      (repeat' (first | (show VH _ _ _ _ _ _ _; first | refine v_seq ?_ | refine r_seq ?_ | refine v_block ?_ | refine v_skip ?_ | refine v_cond_t rfl tbL ?_ | refine v_cond_f rfl tbL ?_) | (show SH _ _ _ _ _ (_ :: _) _ _ _; first | (show SH _ _ _ _ _ (⟨_, .move _, _, _, _, _⟩ :: _) _ _ _; refine mov evL ?_) | (show SH _ _ _ _ _ (⟨_, .assign _, _, _, _, _⟩ :: _) _ _ _; refine asg evL ?_) | (show SH _ _ _ _ _ (⟨_, .binOp .lss _ _ _ _, _, _, _, _⟩ :: _) _ _ _; refine lssT rfl rfl omD ?_) | (show SH _ _ _ _ _ (⟨_, .binOp .add _ _ _ _, _, _, _, _⟩ :: _) _ _ _; refine add rfl rfl inL ?_) | (show SH _ _ _ _ _ (⟨_, .load _ _, _, _, _, _⟩ :: _) _ _ _; first | refine lra rfl (fun _ _ => rdX) (by rfl) omL ?_ | refine lra rfl (fun _ _ => rdX) (by rfl) (by simp only [List.length_cons, List.length_nil]; omega) ?_) | (show SH _ _ _ _ _ (⟨_, .indexAddr _ _ _, _, _, _, _⟩ :: _) _ _ _; refine ix rfl rfl (by with_reducible rfl) (fun _ _ => rdX) (by rfl) omL omL ?_) | (show SH _ _ _ _ _ (⟨_, .call ⟨.value (.tmp _), _, _⟩, _, _, _, _⟩ :: _) _ _ _; refine cl (callee := .tmp _) rfl (fun w hw => hp' _ hw.ext) rfl rfl ?_)) | refine s_nil ?_ | refine kh_normal ?_ | refine bh_normal ?_))
      exact ⟨agL, k + 1, hsL, enL, ⟨by omega, hv⟩, by omega⟩
  · rw [List.drop_of_length_le (by omega), idxFrom] at hv
    (repeat' (first | (show VH _ _ _ _ _ _ _; first | refine v_seq ?_ | refine r_seq ?_ | refine v_ret ?_ | refine v_exit ?_ | refine v_cond_f rfl tbL ?_) | (show SH _ _ _ _ _ (_ :: _) _ _ _; first | (show SH _ _ _ _ _ (⟨_, .assign _, _, _, _, _⟩ :: _) _ _ _; refine asg evL ?_) | (show SH _ _ _ _ _ (⟨_, .binOp .lss _ _ _ _, _, _, _, _⟩ :: _) _ _ _; refine lssF rfl rfl omD ?_)) | refine s_nil ?_ | refine kh_normal ?_ | refine kh_exit ?_ | refine bh_exit ?_))
    exact rh1 rfl rfl ⟨congrArg (Value.int .i64) hv, rfl⟩ (ent_nil _)
set_option maxRecDepth 100000 in
theorem containsFuncC_spec (A : Option Addr) (l : List Comp) (cp : Nat) (fv : Value) (p : Comp → Bool) (w : World) (hl : l.length ≤ 140737488355328) (hr : Rd w A l) (hp : AsksL w fv l p) :
    Ret Tryd.prog 58 [.slice A l.length cp, fv].toArray w (Out w (.bool (l.any p))) := by
  refine enterH Tryd.func58 rfl rfl Tryd.ntmps58 rfl (Wd.refl _) ?_
  (repeat' (first | (show VH _ _ _ _ _ _ _; first | refine v_seq ?_ | refine r_seq ?_ | refine v_ret ?_) | (show SH _ _ _ _ _ (_ :: _) _ _ _; first | (show SH _ _ _ _ _ (⟨_, .move _, _, _, _, _⟩ :: _) _ _ _; refine mov evL ?_) | (show SH _ _ _ _ _ (⟨_, .assign _, _, _, _, _⟩ :: _) _ _ _; refine asg evL ?_) | refine geq rfl rfl ?_ | (show SH _ _ _ _ _ (⟨_, .call ⟨.value (.func 75), _, _⟩, _, _, _, _⟩ :: _) _ _ _; refine cl (callee := .func 75) rfl (fun w hw => indexFuncC_spec A l cp fv p w hl (hr.ext hw.ext) (hp.ext hw.ext)) rfl rfl ?_)) | refine s_nil ?_ | refine kh_normal ?_))
  exact rh1 rfl rfl ⟨congrArg Value.bool (idxFrom_any p l 0 (by omega)), rfl⟩ (ent_nil _)
set_option maxRecDepth 100000 in
theorem indexFuncE_spec (A : Option Addr) (l : List EntP) (cp : Nat) (fv : Value) (p : EntP → Bool) (w : World) (hl : l.length ≤ 140737488355328) (hr : Rd w A l) (hp : AsksL w fv l p) :
    Ret Tryd.prog 69 [.slice A l.length cp, fv].toArray w (Out w (.int .i64 (idxOf p l))) := by
  obtain ⟨g0, fst, cap, rfl, hp⟩ := hp
  refine enterH Tryd.func69 rfl rfl Tryd.ntmps69 rfl (Wd.refl _) ?_
  (repeat' (first | (show VH _ _ _ _ _ _ _; first | refine v_seq ?_ | refine r_seq ?_ | refine v_block ?_) | (show SH _ _ _ _ _ (_ :: _) _ _ _; first | (show SH _ _ _ _ _ (⟨_, .move _, _, _, _, _⟩ :: _) _ _ _; refine mov evL ?_) | (show SH _ _ _ _ _ (⟨_, .assign _, _, _, _, _⟩ :: _) _ _ _; refine asg evL ?_) | refine slen rfl ?_) | refine s_nil ?_ | refine kh_normal ?_))
  refine v_loop0 [(4,5),(8,18)] (fun k : Nat => [(8, .int .i64 k)]) (fun k => k ≤ l.length ∧ idxFrom p k (l.drop k) = idxOf p l) (fun k => l.length - k) 0 hsL ⟨Nat.zero_le _, rfl⟩ ?_
  rintro k g ⟨hk, hv⟩
  simp only [sets]
  by_cases hkl : k < l.length
  · have hp' := fun w he => hp w he (l.getD k Flat.dflt) (getD_mem hkl)
    rw [drop_cons (d := Flat.dflt) hkl, idxFrom] at hv
    cases hb : p (l.getD k Flat.dflt) with
    | true =>
      simp only [hb] at hp'
      rw [if_pos hb] at hv
      (repeat' (first | (show VH _ _ _ _ _ _ _; first | refine v_seq ?_ | refine r_seq ?_ | refine v_block ?_ | refine v_ret ?_ | refine v_skip ?_ | refine v_cond_t rfl tbL ?_) | (show SH _ _ _ _ _ (_ :: _) _ _ _; first | (show SH _ _ _ _ _ (⟨_, .move _, _, _, _, _⟩ :: _) _ _ _; refine mov evL ?_) | (show SH _ _ _ _ _ (⟨_, .assign _, _, _, _, _⟩ :: _) _ _ _; refine asg evL ?_) | (show SH _ _ _ _ _ (⟨_, .binOp .lss _ _ _ _, _, _, _, _⟩ :: _) _ _ _; refine lssT rfl rfl omD ?_) | (show SH _ _ _ _ _ (⟨_, .load _ _, _, _, _, _⟩ :: _) _ _ _; first | refine lra rfl (fun _ _ => rdX) (by rfl) omL ?_ | refine lra rfl (fun _ _ => rdX) (by rfl) (by simp only [List.length_cons, List.length_nil]; omega) ?_) | (show SH _ _ _ _ _ (⟨_, .indexAddr _ _ _, _, _, _, _⟩ :: _) _ _ _; refine ix rfl rfl (by with_reducible rfl) (fun _ _ => rdX) (by rfl) omL omL ?_) | (show SH _ _ _ _ _ (⟨_, .call ⟨.value (.tmp _), _, _⟩, _, _, _, _⟩ :: _) _ _ _; refine cl (callee := .tmp _) rfl (fun w hw => hp' _ hw.ext) rfl rfl ?_)) | refine s_nil ?_ | refine kh_normal ?_ | refine kh_ret ?_ | refine bh_ret ?_))
      exact rh1 rfl rfl ⟨congrArg (Value.int .i64) hv, rfl⟩ (ent_nil _)
    | false =>
      simp only [hb] at hp'
      rw [if_neg (by rw [hb]; simp)] at hv
      (repeat' (first | (show VH _ _ _ _ _ _ _; first | refine v_seq ?_ | refine r_seq ?_ | refine v_block ?_ | refine v_skip ?_ | refine v_cond_t rfl tbL ?_ | refine v_cond_f rfl tbL ?_) | (show SH _ _ _ _ _ (_ :: _) _ _ _; first | (show SH _ _ _ _ _ (⟨_, .move _, _, _, _, _⟩ :: _) _ _ _; refine mov evL ?_) | (show SH _ _ _ _ _ (⟨_, .assign _, _, _, _, _⟩ :: _) _ _ _; refine asg evL ?_) | (show SH _ _ _ _ _ (⟨_, .binOp .lss _ _ _ _, _, _, _, _⟩ :: _) _ _ _; refine lssT rfl rfl omD ?_) | (show SH _ _ _ _ _ (⟨_, .binOp .add _ _ _ _, _, _, _, _⟩ :: _) _ _ _; refine add rfl rfl inL ?_) | (show SH _ _ _ _ _ (⟨_, .load _ _, _, _, _, _⟩ :: _) _ _ _; first | refine lra rfl (fun _ _ => rdX) (by rfl) omL ?_ | refine lra rfl (fun _ _ => rdX) (by rfl) (by simp only [List.length_cons, List.length_nil]; omega) ?_) | (show SH _ _ _ _ _ (⟨_, .indexAddr _ _ _, _, _, _, _⟩ :: _) _ _ _; refine ix rfl rfl (by with_reducible rfl) (fun _ _ => rdX) (by rfl) omL omL ?_) | (show SH _ _ _ _ _ (⟨_, .call ⟨.value (.tmp _), _, _⟩, _, _, _, _⟩ :: _) _ _ _; refine cl (callee := .tmp _) rfl (fun w hw => hp' _ hw.ext) rfl rfl ?_)) | refine s_nil ?_ | refine kh_normal ?_ | refine bh_normal ?_))
      exact ⟨agL, k + 1, hsL, enL, ⟨by omega, hv⟩, by omega⟩
  · rw [List.drop_of_length_le (by omega), idxFrom] at hv
    (repeat' (first | (show VH _ _ _ _ _ _ _; first | refine v_seq ?_ | refine r_seq ?_ | refine v_ret ?_ | refine v_exit ?_ | refine v_cond_f rfl tbL ?_) | (show SH _ _ _ _ _ (_ :: _) _ _ _; first | (show SH _ _ _ _ _ (⟨_, .assign _, _, _, _, _⟩ :: _) _ _ _; refine asg evL ?_) | (show SH _ _ _ _ _ (⟨_, .binOp .lss _ _ _ _, _, _, _, _⟩ :: _) _ _ _; refine lssF rfl rfl omD ?_)) | refine s_nil ?_ | refine kh_normal ?_ | refine kh_exit ?_ | refine bh_exit ?_))
    exact rh1 rfl rfl ⟨congrArg (Value.int .i64) hv, rfl⟩ (ent_nil _)
set_option maxRecDepth 100000 in
theorem containsFuncE_spec (A : Option Addr) (l : List EntP) (cp : Nat) (fv : Value) (p : EntP → Bool) (w : World) (hl : l.length ≤ 140737488355328) (hr : Rd w A l) (hp : AsksL w fv l p) :
    Ret Tryd.prog 51 [.slice A l.length cp, fv].toArray w (Out w (.bool (l.any p))) := by
  refine enterH Tryd.func51 rfl rfl Tryd.ntmps51 rfl (Wd.refl _) ?_
  (repeat' (first | (show VH _ _ _ _ _ _ _; first | refine v_seq ?_ | refine r_seq ?_ | refine v_ret ?_) | (show SH _ _ _ _ _ (_ :: _) _ _ _; first | (show SH _ _ _ _ _ (⟨_, .move _, _, _, _, _⟩ :: _) _ _ _; refine mov evL ?_) | (show SH _ _ _ _ _ (⟨_, .assign _, _, _, _, _⟩ :: _) _ _ _; refine asg evL ?_) | refine geq rfl rfl ?_ | (show SH _ _ _ _ _ (⟨_, .call ⟨.value (.func 69), _, _⟩, _, _, _, _⟩ :: _) _ _ _; refine cl (callee := .func 69) rfl (fun w hw => indexFuncE_spec A l cp fv p w hl (hr.ext hw.ext) (hp.ext hw.ext)) rfl rfl ?_)) | refine s_nil ?_ | refine kh_normal ?_))
  exact rh1 rfl rfl ⟨congrArg Value.bool (idxFrom_any p l 0 (by omega)), rfl⟩ (ent_nil _)
end Go.Proofs.YtfodpcpclmnbkaaDoor
