/- slices.Delete of one lot. -/
import Derived.Test.YtehjdbgijibmcaaZCj
set_option linter.unusedSimpArgs false
set_option linter.unusedVariables false
namespace Go.Proofs.Ytehjdbgijibmcaa
open Go.Fw Go.RowKit
set_option maxHeartbeats 1000000 in
set_option maxRecDepth 100000 in
theorem deleteLt_spec (A : Option Addr) (l : List Lot) (cp i : Nat) (w0 : World) (H : List HP) (w : World) (hi : i < l.length) (hl : l.length ≤ 1000000) (hw : Wd w0 (orow 38 A cp l :: H) w) :
    Ret Try.prog 46 [.slice A l.length cp, .int .i64 i, .int .i64 (i + 1)].toArray w (RP w0 fun v H' => v = .slice A (l.eraseIdx i).length cp ∧ H' = orow 38 A cp (l.eraseIdx i) :: H) := by
  refine enterH Try.func46 rfl rfl Try.ntmps46 rfl (by assumption) ?_
  refine v_cap (l := l) spL (fun hc => ?_)
  (repeat' (first | (show VH _ _ _ _ _ _ _; first | refine v_seq ?_ | refine r_seq ?_) | (show SH _ _ _ _ _ (_ :: _) _ _ _; first | refine mov evL ?_ | refine asg evL ?_ | refine slen rfl ?_) | refine s_nil ?_ | refine kh_normal ?_))
  refine sl3 rfl rfl rfl rfl (by omega) (by omega) (by omega) (by omega) ?_
  (repeat' (first | (show VH _ _ _ _ _ _ _; first | refine v_seq ?_ | refine r_seq ?_ | refine v_skip ?_ | refine v_cond_f rfl tbL ?_) | (show SH _ _ _ _ _ (_ :: _) _ _ _; first | refine mov evL ?_ | refine asg evL ?_ | refine eql rfl rfl ?_ | refine slen rfl ?_) | refine s_nil ?_ | refine kh_normal ?_))
  refine r_held [] [(0, true), (1, true), (2, true), (3, true), (4, false), (5, false), (6, false), (7, false)] hmix (by kernel_rfl) enL ?_
  (repeat' ((show SH _ _ _ _ _ (_ :: _) _ _ _; first | refine mov evL ?_ | refine slh rfl rfl omL omL ?_ | refine sll rfl rfl omL omL ?_)))
  refine appIn (L := l) (i := i) (j := i + 1) (kk := l.length - (i + 1)) rfl rfl rfl rfl spL (fun w hw => Rd.from (hw.rd spL) (i + 1) hc) rfl (by omega) (by omega) (by omega) (ent_nil _) ?_
  have hL : (l.take i ++ l.drop (i + 1) ++ l.drop (i + (l.length - (i + 1)))).length = l.length := by
    simp only [List.length_append, List.length_take, List.length_drop]; omega
  have hE : (l.take i ++ l.drop (i + 1) ++ l.drop (i + (l.length - (i + 1)))).take (i + (l.length - (i + 1))) = l.eraseIdx i := by
    rw [List.eraseIdx_eq_take_drop_succ, List.take_left' (by simp only [List.length_append, List.length_take, List.length_drop]; omega)]
  have hEl : (l.eraseIdx i).length = i + (l.length - (i + 1)) := by rw [← hE, List.length_take, hL]; omega
  generalize l.take i ++ l.drop (i + 1) ++ l.drop (i + (l.length - (i + 1))) = L at hL hE ⊢
  (repeat' (first | (show VH _ _ _ _ _ _ _; first | refine v_seq ?_ | refine r_seq ?_) | (show SH _ _ _ _ _ (_ :: _) _ _ _; first | refine mov evL ?_ | refine asg evL ?_ | refine slen rfl ?_) | refine s_nil ?_ | refine kh_normal ?_))
  refine sl2 rfl rfl rfl (by omega) (by omega) (by omega) ?_
  (repeat' (fail))
  refine clrG (α := Lot) (by rfl) (by rfl) (by rfl) rfl rfl spL (j := i + (l.length - (i + 1))) (by rfl) (by rw [hL]; rfl) (by omega) trivial ?_
  rw [hE]
  (repeat' (first | (show VH _ _ _ _ _ _ _; first | refine v_seq ?_ | refine r_seq ?_ | refine v_ret ?_) | (show SH _ _ _ _ _ (_ :: _) _ _ _; first | refine mov evL ?_ | refine asg evL ?_) | refine s_nil ?_ | refine kh_normal ?_))
  exact rh1 rfl rfl ⟨congrArg (fun m => Value.slice A m cp) hEl.symm, rfl⟩ (ent_refl _)
end Go.Proofs.Ytehjdbgijibmcaa
