/- marcheskit.Pick. -/
import Derived.Test.YtjefoecnciepmaaDoorZTw
set_option linter.unusedSimpArgs false
set_option linter.unusedVariables false
namespace Go.Proofs.YtjefoecnciepmaaDoor
open Go.Fw Go.RowKit
section
variable {md : Md} {P : Program} {n : Nat} {Q : HQ} {f : Fr} {w0 : World} {H R : List HP} {ops : Array Oper} {rest : List Oper} {d : Nat} {op : Op} {ty : TypeId} {pos : String} {aft : Array Edge} {v : Value} {x y : Operand}
theorem remT {a b : Int} {t1 t2 : TypeId} (hx : ev n f x = .int .i64 a) (hy : ev n f y = .int .i64 b) (hb : b ≠ 0) (k : SH (nx md) P n ops Q rest (upd f d (.int .i64 (a.tmod b))) w0 H) : SH md P n ops Q (⟨some d, .binOp .rem t1 x y t2, ty, pos, aft, none⟩ :: rest) f w0 H :=
  s_val (fun w _ => ox_rem hx hy hb) k
end
theorem pick_eq {n k : Int} (hk : 0 < k) : (n.tmod k < 0 → n.tmod k + k = n % k) ∧ (¬ n.tmod k < 0 → n.tmod k = n % k) ∧ -k < n.tmod k ∧ n.tmod k < k := by
  have h1 := Int.emod_nonneg n (show k ≠ 0 by omega)
  have h2 := Int.emod_lt_of_pos n hk
  have h3 := Int.tmod_eq_emod (a := n) (b := k)
  have h4 : (k.natAbs : Int) = k := by omega
  have h5 : ¬ k ∣ n → n % k ≠ 0 := fun h e => h (Int.dvd_of_emod_eq_zero e)
  split at h3
  · omega
  · rename_i h6
    have := h5 (fun h => h6 (.inr h))
    omega
set_option maxRecDepth 100000 in
theorem pick_spec (n k : Int) (w : World) (h1 : 1 ≤ k) (h2 : k ≤ 1000000000000) : Ret Tryd.prog 23 [.int .i64 n, .int .i64 k].toArray w (Out w (.int .i64 (n % k))) := by
  obtain ⟨e1, e2, e3, e4⟩ := pick_eq (n := n) (show 0 < k by omega)
  refine enterH Tryd.func23 rfl rfl Tryd.ntmps23 rfl (Wd.refl _) ?_
  (repeat' (first | (show VH _ _ _ _ _ _ _; first | refine v_seq ?_ | refine r_seq ?_ | refine v_skip ?_ | refine v_cond_f rfl tbL ?_) | (show SH _ _ _ _ _ (_ :: _) _ _ _; first | (show SH _ _ _ _ _ (⟨_, .move _, _, _, _, _⟩ :: _) _ _ _; refine mov evL ?_) | (show SH _ _ _ _ _ (⟨_, .assign _, _, _, _, _⟩ :: _) _ _ _; refine asg evL ?_) | (show SH _ _ _ _ _ (⟨_, .binOp .lss _ _ _ _, _, _, _, _⟩ :: _) _ _ _; refine lssF rfl rfl omD ?_)) | refine s_nil ?_ | refine kh_normal ?_))
  refine remT rfl rfl (by omega) ?_
  generalize n.tmod k = r at e1 e2 e3 e4 ⊢
  (repeat' (first | (show VH _ _ _ _ _ _ _; first | refine v_seq ?_ | refine r_seq ?_ | refine v_ret ?_ | refine v_skip ?_ | refine v_cond_dec rfl (fun h => ?_) (fun h => ?_)) | (show SH _ _ _ _ _ (_ :: _) _ _ _; first | (show SH _ _ _ _ _ (⟨_, .move _, _, _, _, _⟩ :: _) _ _ _; refine mov evL ?_) | (show SH _ _ _ _ _ (⟨_, .assign _, _, _, _, _⟩ :: _) _ _ _; refine asg evL ?_) | refine lss rfl rfl ?_ | (show SH _ _ _ _ _ (⟨_, .binOp .add _ _ _ _, _, _, _, _⟩ :: _) _ _ _; refine add rfl rfl inL ?_)) | refine s_nil ?_ | refine kh_normal ?_))
  · exact rh1 rfl rfl ⟨congrArg (Value.int .i64) (e1 (by omega)), rfl⟩ (ent_nil _)
  · exact rh1 rfl rfl ⟨congrArg (Value.int .i64) (e2 (by omega)), rfl⟩ (ent_nil _)
end Go.Proofs.YtjefoecnciepmaaDoor
