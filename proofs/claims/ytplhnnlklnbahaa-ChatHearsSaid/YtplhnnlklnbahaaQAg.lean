/- Layer 37 (chat): Ignore, recent, Hear. -/
import Derived.Test.YtplhnnlklnbahaaQAa
import Derived.Test.YtplhnnlklnbahaaQAb
import Derived.Test.YtplhnnlklnbahaaQAc
import Derived.Test.YtplhnnlklnbahaaQAd
import Derived.Test.YtplhnnlklnbahaaQAe
import Derived.Test.YtplhnnlklnbahaaQAf
set_option linter.unusedSimpArgs false
set_option linter.unusedVariables false
/- Package slices: Clone, Delete, Insert at members, messages and ints (printed by gen_ul37.py). -/
namespace Go.Proofs.Ytplhnnlklnbahaa
open Go.Fw Go.RowKit
theorem clone_spec (A : Option Addr) (l : List Int) (cp : Nat) (w : World) (hl : l.length ≤ 1000000) (hr : Rd w A l) :
    Ret Try.prog 76 [.slice A l.length cp].toArray w (RP w (Fresh 3 l)) := by
  refine enterH Try.func76 rfl rfl Try.ntmps76 rfl (Wd.refl _) ?_
  (repeat' (first | (show VH _ _ _ _ _ _ _; first | refine v_seq ?_ | refine r_seq ?_ | refine v_ret ?_ | refine v_skip ?_ | refine v_cond rfl (fun h => ?_) (fun h => ?_)) | (show SH _ _ _ _ _ (_ :: _) _ _ _; first | (show SH _ _ _ _ _ (⟨_, .move _, _, _, _, _⟩ :: _) _ _ _; refine mov evL ?_) | (show SH _ _ _ _ _ (⟨_, .assign _, _, _, _, _⟩ :: _) _ _ _; refine asg evL ?_) | refine eqn rfl rfl ?_ | (show SH _ _ _ _ _ (⟨_, .buildSlice _ _ _, _, _, _, _⟩ :: _) _ _ _; refine bsl (α := Int) rfl rfl (by repeat (first | exact Vals.nil | (apply Vals.cons; rfl))) rfl (by rfl) (by decide) (fun b => ?_))) | refine s_nil ?_ | refine kh_normal ?_ | refine kh_ret ?_))
  · cases A with
    | some a => simp at h
    | none =>
      have := hr.none
      subst this
      exact rh1 rfl rfl ⟨none, 0, rfl, rfl⟩ (ent_nilrow (ent_nil _))
  · refine app rfl rfl rfl spL (fun _ _ => rdS) rfl rfl rfl (by simp; omega) (by simp; omega) (fun A' cp' => ⟨trivial, ?_⟩)
    (repeat' (first | refine v_ret ?_ | (show SH _ _ _ _ _ (_ :: _) _ _ _; (show SH _ _ _ _ _ (⟨_, .assign _, _, _, _, _⟩ :: _) _ _ _; refine asg evL ?_)) | refine s_nil ?_ | refine kh_normal ?_))
    exact rh1 rfl rfl ⟨A', cp', rfl, rfl⟩ enL
set_option maxRecDepth 100000 in
theorem cloneM_spec (A : Option Addr) (l : List MbrP) (cp : Nat) (w : World) (hl : l.length ≤ 1000000) (hr : Rd w A l) :
    Ret Try.prog 74 [.slice A l.length cp].toArray w (RP w (Fresh 31 l)) := by
  refine enterH Try.func74 rfl rfl Try.ntmps74 rfl (Wd.refl _) ?_
  (repeat' (first | (show VH _ _ _ _ _ _ _; first | refine v_seq ?_ | refine r_seq ?_ | refine v_ret ?_ | refine v_skip ?_ | refine v_cond rfl (fun h => ?_) (fun h => ?_)) | (show SH _ _ _ _ _ (_ :: _) _ _ _; first | (show SH _ _ _ _ _ (⟨_, .move _, _, _, _, _⟩ :: _) _ _ _; refine mov evL ?_) | (show SH _ _ _ _ _ (⟨_, .assign _, _, _, _, _⟩ :: _) _ _ _; refine asg evL ?_) | refine eqn rfl rfl ?_) | refine s_nil ?_ | refine kh_normal ?_ | refine kh_ret ?_))
  · cases A with
    | some a => simp at h
    | none =>
      have := hr.none
      subst this
      exact rh1 rfl rfl ⟨none, 0, rfl, rfl⟩ (ent_nilrow (ent_nil _))
  · refine bsl (l := ([] : List MbrP)) rfl rfl Vals.nil rfl rfl (by decide) (fun b => ?_)
    (repeat' ((show SH _ _ _ _ _ (_ :: _) _ _ _; (show SH _ _ _ _ _ (⟨_, .move _, _, _, _, _⟩ :: _) _ _ _; refine mov evL ?_))))
    refine app rfl rfl rfl spL (fun _ _ => rdS) rfl rfl rfl (by simp; omega) (by simp; omega) (fun A' cp' => ⟨trivial, ?_⟩)
    (repeat' (first | refine v_ret ?_ | (show SH _ _ _ _ _ (_ :: _) _ _ _; (show SH _ _ _ _ _ (⟨_, .assign _, _, _, _, _⟩ :: _) _ _ _; refine asg evL ?_)) | refine s_nil ?_ | refine kh_normal ?_))
    exact rh1 rfl rfl ⟨A', cp', rfl, rfl⟩ enL
set_option maxRecDepth 100000 in
theorem cloneG_spec (A : Option Addr) (l : List Msg) (cp : Nat) (w : World) (hl : l.length ≤ 1000000) (hr : Rd w A l) :
    Ret Try.prog 75 [.slice A l.length cp].toArray w (RP w (Fresh 36 l)) := by
  refine enterH Try.func75 rfl rfl Try.ntmps75 rfl (Wd.refl _) ?_
  (repeat' (first | (show VH _ _ _ _ _ _ _; first | refine v_seq ?_ | refine r_seq ?_ | refine v_ret ?_ | refine v_skip ?_ | refine v_cond rfl (fun h => ?_) (fun h => ?_)) | (show SH _ _ _ _ _ (_ :: _) _ _ _; first | (show SH _ _ _ _ _ (⟨_, .move _, _, _, _, _⟩ :: _) _ _ _; refine mov evL ?_) | (show SH _ _ _ _ _ (⟨_, .assign _, _, _, _, _⟩ :: _) _ _ _; refine asg evL ?_) | refine eqn rfl rfl ?_) | refine s_nil ?_ | refine kh_normal ?_ | refine kh_ret ?_))
  · cases A with
    | some a => simp at h
    | none =>
      have := hr.none
      subst this
      exact rh1 rfl rfl ⟨none, 0, rfl, rfl⟩ (ent_nilrow (ent_nil _))
  · refine bsl (l := ([] : List Msg)) rfl rfl Vals.nil rfl rfl (by decide) (fun b => ?_)
    (repeat' ((show SH _ _ _ _ _ (_ :: _) _ _ _; (show SH _ _ _ _ _ (⟨_, .move _, _, _, _, _⟩ :: _) _ _ _; refine mov evL ?_))))
    refine app rfl rfl rfl spL (fun _ _ => rdS) rfl rfl rfl (by simp; omega) (by simp; omega) (fun A' cp' => ⟨trivial, ?_⟩)
    (repeat' (first | refine v_ret ?_ | (show SH _ _ _ _ _ (_ :: _) _ _ _; (show SH _ _ _ _ _ (⟨_, .assign _, _, _, _, _⟩ :: _) _ _ _; refine asg evL ?_)) | refine s_nil ?_ | refine kh_normal ?_))
    exact rh1 rfl rfl ⟨A', cp', rfl, rfl⟩ enL
set_option maxHeartbeats 1000000 in
set_option maxRecDepth 100000 in
theorem deleteM_spec (A : Option Addr) (l : List MbrP) (cp i : Nat) (w0 : World) (H : List HP) (w : World) (hi : i < l.length) (hl : l.length ≤ 1000000) (hw : Wd w0 (orow 31 A cp l :: H) w) :
    Ret Try.prog 41 [.slice A l.length cp, .int .i64 i, .int .i64 (i + 1)].toArray w (RP w0 fun v H' => v = .slice A (l.eraseIdx i).length cp ∧ H' = orow 31 A cp (l.eraseIdx i) :: H) := by
  refine enterH Try.func41 rfl rfl Try.ntmps41 rfl (by assumption) ?_
  refine v_cap (l := l) spL (fun hc => ?_)
  (repeat' (first | (show VH _ _ _ _ _ _ _; first | refine v_seq ?_ | refine r_seq ?_) | (show SH _ _ _ _ _ (_ :: _) _ _ _; first | (show SH _ _ _ _ _ (⟨_, .move _, _, _, _, _⟩ :: _) _ _ _; refine mov evL ?_) | (show SH _ _ _ _ _ (⟨_, .assign _, _, _, _, _⟩ :: _) _ _ _; refine asg evL ?_) | refine slen rfl ?_) | refine s_nil ?_ | refine kh_normal ?_))
  refine sl3 rfl rfl rfl rfl (by omega) (by omega) (by omega) (by omega) ?_
  (repeat' (first | (show VH _ _ _ _ _ _ _; first | refine v_seq ?_ | refine r_seq ?_ | refine v_skip ?_ | refine v_cond_f rfl tbL ?_) | (show SH _ _ _ _ _ (_ :: _) _ _ _; first | (show SH _ _ _ _ _ (⟨_, .move _, _, _, _, _⟩ :: _) _ _ _; refine mov evL ?_) | (show SH _ _ _ _ _ (⟨_, .assign _, _, _, _, _⟩ :: _) _ _ _; refine asg evL ?_) | (show SH _ _ _ _ _ (⟨_, .binOp .eql _ _ _ _, _, _, _, _⟩ :: _) _ _ _; refine eqlF rfl rfl omD ?_) | refine slen rfl ?_) | refine s_nil ?_ | refine kh_normal ?_))
  refine r_held [] [(0, true), (1, true), (2, true), (3, true), (4, false), (5, false), (6, false), (7, false)] hmix (by kernel_rfl) enL ?_
  (repeat' ((show SH _ _ _ _ _ (_ :: _) _ _ _; first | (show SH _ _ _ _ _ (⟨_, .move _, _, _, _, _⟩ :: _) _ _ _; refine mov evL ?_) | (show SH _ _ _ _ _ (⟨_, .slice _ _ _ _ _, _, _, _, _⟩ :: _) _ _ _; first | refine slh rfl rfl omL omL ?_ | refine sll rfl rfl omL omL ?_))))
  refine appIn (L := l) (i := i) (j := i + 1) (kk := l.length - (i + 1)) rfl rfl rfl rfl spL (fun w hw => Rd.from (hw.rd spL) (i + 1) hc) rfl (by omega) (by omega) (by omega) (ent_nil _) ?_
  have hL : (l.take i ++ l.drop (i + 1) ++ l.drop (i + (l.length - (i + 1)))).length = l.length := by
    simp only [List.length_append, List.length_take, List.length_drop]; omega
  have hE : (l.take i ++ l.drop (i + 1) ++ l.drop (i + (l.length - (i + 1)))).take (i + (l.length - (i + 1))) = l.eraseIdx i := by
    rw [List.eraseIdx_eq_take_drop_succ, List.take_left' (by simp only [List.length_append, List.length_take, List.length_drop]; omega)]
  have hEl : (l.eraseIdx i).length = i + (l.length - (i + 1)) := by rw [← hE, List.length_take, hL]; omega
  generalize l.take i ++ l.drop (i + 1) ++ l.drop (i + (l.length - (i + 1))) = L at hL hE ⊢
  (repeat' (first | (show VH _ _ _ _ _ _ _; first | refine v_seq ?_ | refine r_seq ?_) | (show SH _ _ _ _ _ (_ :: _) _ _ _; first | (show SH _ _ _ _ _ (⟨_, .move _, _, _, _, _⟩ :: _) _ _ _; refine mov evL ?_) | (show SH _ _ _ _ _ (⟨_, .assign _, _, _, _, _⟩ :: _) _ _ _; refine asg evL ?_) | refine slen rfl ?_) | refine s_nil ?_ | refine kh_normal ?_))
  refine sl2 rfl rfl rfl (by omega) (by omega) (by omega) ?_
  (repeat' (first | (show VH _ _ _ _ _ _ _; first | refine v_seq ?_ | refine r_seq ?_ | refine r_quiet hmix (by kernel_rfl) ?_ | refine v_block ?_ | refine v_ret ?_ | refine v_skip ?_ | refine v_exit ?_ | refine v_label ?_ | refine v_cond_t rfl tbL ?_ | refine v_cond_f rfl tbL ?_ | refine v_cond_dec rfl (fun h => ?_) (fun h => ?_) | refine v_cond_ndec rfl (fun h => ?_) (fun h => ?_) | refine v_cond rfl (fun h => ?_) (fun h => ?_)) | (show SH _ _ _ _ _ (_ :: _) _ _ _; first | (show SH _ _ _ _ _ (⟨_, .move _, _, _, _, _⟩ :: _) _ _ _; refine mov evL ?_) | (show SH _ _ _ _ _ (⟨_, .assign _, _, _, _, _⟩ :: _) _ _ _; refine asg evL ?_) | (show SH _ _ _ _ _ (⟨_, .binOp .eql _ _ _ _, _, _, _, _⟩ :: _) _ _ _; first | refine eqlT rfl rfl omD ?_ | refine eqlF rfl rfl omD ?_ | refine eql rfl rfl ?_ | refine eqn rfl rfl ?_ | refine eqb rfl rfl ?_ | refine seqT rfl rfl (by assumption) ?_ | refine seqF rfl rfl (by assumption) ?_) | (show SH _ _ _ _ _ (⟨_, .call ⟨.builtin _, _, _⟩, _, _, _, _⟩ :: _) _ _ _; first | refine slen rfl ?_ | refine sln rfl ?_) | (show SH _ _ _ _ _ (⟨_, .slice _ _ _ _ _, _, _, _, _⟩ :: _) _ _ _; first | refine sla rfl rfl omL omL ?_ | refine slh rfl rfl omL omL ?_ | refine sll rfl rfl omL omL ?_)) | refine s_nil ?_ | refine s_fork ?_ ?_ | refine s_fork3 ?_ ?_ ?_ | refine s_fork4 ?_ ?_ ?_ ?_ | refine kh_normal ?_ | refine kh_ret ?_ | refine kh_exit ?_ | refine bh_normal ?_ | refine bh_ret ?_ | refine bh_exit ?_ | refine bh_exit_ne rfl ?_))
  refine clrG (α := MbrP) (by rfl) (by rfl) (by rfl) rfl rfl spL (j := i + (l.length - (i + 1))) (by rfl) (by rw [hL]; rfl) (by omega) trivial ?_
  rw [hE]
  (repeat' (first | (show VH _ _ _ _ _ _ _; first | refine v_seq ?_ | refine r_seq ?_ | refine v_ret ?_) | (show SH _ _ _ _ _ (_ :: _) _ _ _; first | (show SH _ _ _ _ _ (⟨_, .move _, _, _, _, _⟩ :: _) _ _ _; refine mov evL ?_) | (show SH _ _ _ _ _ (⟨_, .assign _, _, _, _, _⟩ :: _) _ _ _; refine asg evL ?_)) | refine s_nil ?_ | refine kh_normal ?_))
  exact rh1 rfl rfl ⟨congrArg (fun m => Value.slice A m cp) hEl.symm, rfl⟩ (ent_refl _)
set_option maxHeartbeats 1000000 in
set_option maxRecDepth 100000 in
theorem deleteG_spec (A : Option Addr) (l : List Msg) (cp i : Nat) (w0 : World) (H : List HP) (w : World) (hi : i < l.length) (hl : l.length ≤ 1000000) (hw : Wd w0 (orow 36 A cp l :: H) w) :
    Ret Try.prog 63 [.slice A l.length cp, .int .i64 i, .int .i64 (i + 1)].toArray w (RP w0 fun v H' => v = .slice A (l.eraseIdx i).length cp ∧ H' = orow 36 A cp (l.eraseIdx i) :: H) := by
  refine enterH Try.func63 rfl rfl Try.ntmps63 rfl (by assumption) ?_
  refine v_cap (l := l) spL (fun hc => ?_)
  (repeat' (first | (show VH _ _ _ _ _ _ _; first | refine v_seq ?_ | refine r_seq ?_) | (show SH _ _ _ _ _ (_ :: _) _ _ _; first | (show SH _ _ _ _ _ (⟨_, .move _, _, _, _, _⟩ :: _) _ _ _; refine mov evL ?_) | (show SH _ _ _ _ _ (⟨_, .assign _, _, _, _, _⟩ :: _) _ _ _; refine asg evL ?_) | refine slen rfl ?_) | refine s_nil ?_ | refine kh_normal ?_))
  refine sl3 rfl rfl rfl rfl (by omega) (by omega) (by omega) (by omega) ?_
  (repeat' (first | (show VH _ _ _ _ _ _ _; first | refine v_seq ?_ | refine r_seq ?_ | refine v_skip ?_ | refine v_cond_f rfl tbL ?_) | (show SH _ _ _ _ _ (_ :: _) _ _ _; first | (show SH _ _ _ _ _ (⟨_, .move _, _, _, _, _⟩ :: _) _ _ _; refine mov evL ?_) | (show SH _ _ _ _ _ (⟨_, .assign _, _, _, _, _⟩ :: _) _ _ _; refine asg evL ?_) | (show SH _ _ _ _ _ (⟨_, .binOp .eql _ _ _ _, _, _, _, _⟩ :: _) _ _ _; refine eqlF rfl rfl omD ?_) | refine slen rfl ?_) | refine s_nil ?_ | refine kh_normal ?_))
  refine r_held [] [(0, true), (1, true), (2, true), (3, true), (4, false), (5, false), (6, false), (7, false)] hmix (by kernel_rfl) enL ?_
  (repeat' ((show SH _ _ _ _ _ (_ :: _) _ _ _; first | (show SH _ _ _ _ _ (⟨_, .move _, _, _, _, _⟩ :: _) _ _ _; refine mov evL ?_) | (show SH _ _ _ _ _ (⟨_, .slice _ _ _ _ _, _, _, _, _⟩ :: _) _ _ _; first | refine slh rfl rfl omL omL ?_ | refine sll rfl rfl omL omL ?_))))
  refine appIn (L := l) (i := i) (j := i + 1) (kk := l.length - (i + 1)) rfl rfl rfl rfl spL (fun w hw => Rd.from (hw.rd spL) (i + 1) hc) rfl (by omega) (by omega) (by omega) (ent_nil _) ?_
  have hL : (l.take i ++ l.drop (i + 1) ++ l.drop (i + (l.length - (i + 1)))).length = l.length := by
    simp only [List.length_append, List.length_take, List.length_drop]; omega
  have hE : (l.take i ++ l.drop (i + 1) ++ l.drop (i + (l.length - (i + 1)))).take (i + (l.length - (i + 1))) = l.eraseIdx i := by
    rw [List.eraseIdx_eq_take_drop_succ, List.take_left' (by simp only [List.length_append, List.length_take, List.length_drop]; omega)]
  have hEl : (l.eraseIdx i).length = i + (l.length - (i + 1)) := by rw [← hE, List.length_take, hL]; omega
  generalize l.take i ++ l.drop (i + 1) ++ l.drop (i + (l.length - (i + 1))) = L at hL hE ⊢
  (repeat' (first | (show VH _ _ _ _ _ _ _; first | refine v_seq ?_ | refine r_seq ?_) | (show SH _ _ _ _ _ (_ :: _) _ _ _; first | (show SH _ _ _ _ _ (⟨_, .move _, _, _, _, _⟩ :: _) _ _ _; refine mov evL ?_) | (show SH _ _ _ _ _ (⟨_, .assign _, _, _, _, _⟩ :: _) _ _ _; refine asg evL ?_) | refine slen rfl ?_) | refine s_nil ?_ | refine kh_normal ?_))
  refine sl2 rfl rfl rfl (by omega) (by omega) (by omega) ?_
  (repeat' (first | (show VH _ _ _ _ _ _ _; first | refine v_seq ?_ | refine r_seq ?_ | refine r_quiet hmix (by kernel_rfl) ?_ | refine v_block ?_ | refine v_ret ?_ | refine v_skip ?_ | refine v_exit ?_ | refine v_label ?_ | refine v_cond_t rfl tbL ?_ | refine v_cond_f rfl tbL ?_ | refine v_cond_dec rfl (fun h => ?_) (fun h => ?_) | refine v_cond_ndec rfl (fun h => ?_) (fun h => ?_) | refine v_cond rfl (fun h => ?_) (fun h => ?_)) | (show SH _ _ _ _ _ (_ :: _) _ _ _; first | (show SH _ _ _ _ _ (⟨_, .move _, _, _, _, _⟩ :: _) _ _ _; refine mov evL ?_) | (show SH _ _ _ _ _ (⟨_, .assign _, _, _, _, _⟩ :: _) _ _ _; refine asg evL ?_) | (show SH _ _ _ _ _ (⟨_, .binOp .eql _ _ _ _, _, _, _, _⟩ :: _) _ _ _; first | refine eqlT rfl rfl omD ?_ | refine eqlF rfl rfl omD ?_ | refine eql rfl rfl ?_ | refine eqn rfl rfl ?_ | refine eqb rfl rfl ?_ | refine seqT rfl rfl (by assumption) ?_ | refine seqF rfl rfl (by assumption) ?_) | (show SH _ _ _ _ _ (⟨_, .call ⟨.builtin _, _, _⟩, _, _, _, _⟩ :: _) _ _ _; first | refine slen rfl ?_ | refine sln rfl ?_) | (show SH _ _ _ _ _ (⟨_, .slice _ _ _ _ _, _, _, _, _⟩ :: _) _ _ _; first | refine sla rfl rfl omL omL ?_ | refine slh rfl rfl omL omL ?_ | refine sll rfl rfl omL omL ?_)) | refine s_nil ?_ | refine s_fork ?_ ?_ | refine s_fork3 ?_ ?_ ?_ | refine s_fork4 ?_ ?_ ?_ ?_ | refine kh_normal ?_ | refine kh_ret ?_ | refine kh_exit ?_ | refine bh_normal ?_ | refine bh_ret ?_ | refine bh_exit ?_ | refine bh_exit_ne rfl ?_))
  refine clrG (α := Msg) (by rfl) (by rfl) (by rfl) rfl rfl spL (j := i + (l.length - (i + 1))) (by rfl) (by rw [hL]; rfl) (by omega) trivial ?_
  rw [hE]
  (repeat' (first | (show VH _ _ _ _ _ _ _; first | refine v_seq ?_ | refine r_seq ?_ | refine v_ret ?_) | (show SH _ _ _ _ _ (_ :: _) _ _ _; first | (show SH _ _ _ _ _ (⟨_, .move _, _, _, _, _⟩ :: _) _ _ _; refine mov evL ?_) | (show SH _ _ _ _ _ (⟨_, .assign _, _, _, _, _⟩ :: _) _ _ _; refine asg evL ?_)) | refine s_nil ?_ | refine kh_normal ?_))
  exact rh1 rfl rfl ⟨congrArg (fun m => Value.slice A m cp) hEl.symm, rfl⟩ (ent_refl _)
set_option maxHeartbeats 2000000 in
set_option maxRecDepth 100000 in
theorem insertM_spec (A : Option Addr) (l : List MbrP) (cp i bv : Nat) (c : MbrP) (w0 : World) (H : List HP) (w : World) (hi : i ≤ l.length) (hl : l.length ≤ 1000000) (hw : Wd w0 (orow 31 A cp l :: orow 31 (some ⟨bv, 0, none⟩) 1 [c] :: H) w) :
    Ret Try.prog 44 [.slice A l.length cp, .int .i64 i, .slice (some ⟨bv, 0, none⟩) 1 1].toArray w (RP w0 fun v H' => ∃ A' cp', v = .slice A' (l.take i ++ c :: l.drop i).length cp' ∧ H' = orow 31 A' cp' (l.take i ++ c :: l.drop i) :: H) := by
  have hLn : (l.take i ++ c :: l.drop i).length = l.length + 1 := by
    simp only [List.length_append, List.length_cons, List.length_take, List.length_drop]; omega
  refine enterH Try.func44 rfl rfl Try.ntmps44 rfl (by assumption) ?_
  refine v_cap (l := l) spL (fun hc => ?_)
  by_cases hin : i = l.length
  · have hE : l.take i ++ c :: l.drop i = l ++ [c] := by rw [hin]; simp
    rw [hE]
    clear hE hLn
    (repeat' (first | (show VH _ _ _ _ _ _ _; first | refine v_seq ?_ | refine r_seq ?_ | refine v_skip ?_ | refine v_cond_t rfl tbL ?_ | refine v_cond_f rfl tbL ?_) | (show SH _ _ _ _ _ (_ :: _) _ _ _; first | (show SH _ _ _ _ _ (⟨_, .move _, _, _, _, _⟩ :: _) _ _ _; refine mov evL ?_) | (show SH _ _ _ _ _ (⟨_, .assign _, _, _, _, _⟩ :: _) _ _ _; refine asg evL ?_) | (show SH _ _ _ _ _ (⟨_, .binOp .eql _ _ _ _, _, _, _, _⟩ :: _) _ _ _; first | refine eqlT rfl rfl omD ?_ | refine eqlF rfl rfl omD ?_) | refine slen rfl ?_ | (show SH _ _ _ _ _ (⟨_, .slice _ _ _ _ _, _, _, _, _⟩ :: _) _ _ _; refine sll rfl rfl omL omL ?_)) | refine s_nil ?_ | refine kh_normal ?_))
    refine app (l := l) (l2 := [c]) rfl rfl rfl spL (fun w hw => hw.rd spL) rfl rfl rfl (by simp only [List.length_cons, List.length_nil]; omega) (by simp only [List.length_cons, List.length_nil]; omega) (fun A' c' => ⟨trivial, ?_⟩)
    (repeat' (first | refine v_ret ?_ | (show SH _ _ _ _ _ (_ :: _) _ _ _; (show SH _ _ _ _ _ (⟨_, .assign _, _, _, _, _⟩ :: _) _ _ _; refine asg evL ?_)) | refine s_nil ?_ | refine kh_normal ?_ | refine kh_ret ?_))
    exact rh1 rfl rfl ⟨A', c', rfl, rfl⟩ (ent_cons Split.head (ent_drop (ent_refl _)))
  · by_cases hg : cp < l.length + 1
    · (repeat' (first | (show VH _ _ _ _ _ _ _; first | refine v_seq ?_ | refine r_seq ?_ | refine v_skip ?_ | refine v_cond_f rfl tbL ?_) | (show SH _ _ _ _ _ (_ :: _) _ _ _; first | (show SH _ _ _ _ _ (⟨_, .move _, _, _, _, _⟩ :: _) _ _ _; refine mov evL ?_) | (show SH _ _ _ _ _ (⟨_, .assign _, _, _, _, _⟩ :: _) _ _ _; refine asg evL ?_) | (show SH _ _ _ _ _ (⟨_, .binOp .eql _ _ _ _, _, _, _, _⟩ :: _) _ _ _; refine eqlF rfl rfl omD ?_) | (show SH _ _ _ _ _ (⟨_, .binOp .add _ _ _ _, _, _, _, _⟩ :: _) _ _ _; refine add rfl rfl inL ?_) | refine slen rfl ?_ | (show SH _ _ _ _ _ (⟨_, .slice _ _ _ _ _, _, _, _, _⟩ :: _) _ _ _; refine sll rfl rfl omL omL ?_)) | refine s_nil ?_ | refine kh_normal ?_))
      refine bcp rfl ?_
      (repeat' (first | (show VH _ _ _ _ _ _ _; first | refine v_seq ?_ | refine r_seq ?_ | refine v_cond_t rfl tbL ?_) | (show SH _ _ _ _ _ (_ :: _) _ _ _; first | (show SH _ _ _ _ _ (⟨_, .move _, _, _, _, _⟩ :: _) _ _ _; refine mov evL ?_) | (show SH _ _ _ _ _ (⟨_, .binOp .gtr _ _ _ _, _, _, _, _⟩ :: _) _ _ _; refine gtrT rfl rfl omD ?_) | (show SH _ _ _ _ _ (⟨_, .binOp .add _ _ _ _, _, _, _, _⟩ :: _) _ _ _; refine add rfl rfl inL ?_) | (show SH _ _ _ _ _ (⟨_, .binOp .sub _ _ _ _, _, _, _, _⟩ :: _) _ _ _; refine sub rfl rfl inL ?_) | (show SH _ _ _ _ _ (⟨_, .slice _ _ _ _ _, _, _, _, _⟩ :: _) _ _ _; refine slh rfl rfl omL omL ?_)) | refine s_nil ?_ | refine kh_normal ?_))
      refine appz (α := MbrP) (i := i) (k := l.length + 1 - i) (l := l.take i) (z := .agg #[.int .i64 0, .slice none 0 0]) rfl rfl (congrArg (Value.int .i64) (by omega)) (fun w hw => (hw.rd spL).take i) (by rw [List.length_take]; omega) (by kernel_rfl) rfl rfl (by omega) (by omega) (by omega) (by omega) (by omega) (by omega) (fun A2 cp2 => ?_)
      (repeat' ((fail_if_success (show VH _ _ (.seq (.region 10 _ _) _) _ _ _ _)); first | (show SH _ _ _ _ _ (_ :: _) _ _ _; (show SH _ _ _ _ _ (⟨_, .assign _, _, _, _, _⟩ :: _) _ _ _; refine asg evL ?_)) | refine s_nil ?_ | refine kh_normal ?_))
      refine v_cap (A := A2) spL (fun hc2 => ?_)
      have hLr : (l.take i ++ List.replicate (l.length + 1 - i) (Flat.dflt : MbrP)).length = l.length + 1 := by
        simp only [List.length_append, List.length_take, List.length_replicate]; omega
      obtain ⟨L, hL⟩ : ∃ L, l.take i ++ List.replicate (l.length + 1 - i) (Flat.dflt : MbrP) = L := ⟨_, rfl⟩
      have hLt : L.take i = l.take i := by rw [← hL, List.take_left' (by rw [List.length_take]; omega)]
      rw [hL] at hLr hc2 ⊢
      clear hL
      (repeat' (first | (show VH _ _ _ _ _ _ _; first | refine v_seq ?_ | refine r_seq ?_) | (show SH _ _ _ _ _ (_ :: _) _ _ _; first | (show SH _ _ _ _ _ (⟨_, .move _, _, _, _, _⟩ :: _) _ _ _; refine mov evL ?_) | (show SH _ _ _ _ _ (⟨_, .slice _ _ _ _ _, _, _, _, _⟩ :: _) _ _ _; refine sll rfl rfl omL omL ?_))))
      refine cpyL (A := A2) (o := i) (V := [c]) (kk := 1) rfl rfl rfl rfl spL (if_neg (by omega)) (fun w hw => hw.rd spL) (by omega) rfl (by omega) (by omega) trivial ?_
      rw [hLt]
      have hM : (l.take i ++ [c] ++ L.drop (i + 1)).length = l.length + 1 := by
        simp only [List.length_append, List.length_take, List.length_drop, List.length_cons, List.length_nil]; omega
      have hMt : (l.take i ++ [c] ++ L.drop (i + 1)).take (i + 1) = l.take i ++ [c] := List.take_left' (by simp only [List.length_append, List.length_take, List.length_cons, List.length_nil]; omega)
      obtain ⟨M, hMM⟩ : ∃ M, l.take i ++ [c] ++ L.drop (i + 1) = M := ⟨_, rfl⟩
      rw [hMM] at hM hMt ⊢
      clear hMM hLt
      (repeat' (first | refine v_seq ?_ | refine s_nil ?_ | refine kh_normal ?_))
      refine r_held [] [(0, true), (1, true), (2, true), (3, true), (4, true), (5, true), (6, false), (7, false), (8, false)] hmix (by kernel_rfl) (ent_nil _) ?_
      (repeat' ((show SH _ _ _ _ _ (_ :: _) _ _ _; first | (show SH _ _ _ _ _ (⟨_, .move _, _, _, _, _⟩ :: _) _ _ _; refine mov evL ?_) | (show SH _ _ _ _ _ (⟨_, .binOp .add _ _ _ _, _, _, _, _⟩ :: _) _ _ _; refine add rfl rfl inL ?_) | (show SH _ _ _ _ _ (⟨_, .slice _ _ _ _ _, _, _, _, _⟩ :: _) _ _ _; refine sll rfl rfl omL omL ?_))))
      refine cpyL (A := A2) (o := i + 1) (V := l.drop i) (kk := l.length - i) rfl rfl rfl rfl spL (if_neg (by omega)) (fun w hw => Rd.from (hw.rd spL) i hc) (by omega) (by rw [List.length_drop]) (by omega) (by omega) (ent_nil _) ?_
      have hE : M.take (i + 1) ++ l.drop i ++ M.drop (i + 1 + (l.length - i)) = l.take i ++ c :: l.drop i := by
        have hMd : M.drop (i + 1 + (l.length - i)) = [] := List.drop_of_length_le (by omega)
        rw [hMt, hMd]; simp
      rw [hE]
      (repeat' (first | (show VH _ _ _ _ _ _ _; first | refine v_seq ?_ | refine r_seq ?_ | refine v_ret ?_) | (show SH _ _ _ _ _ (_ :: _) _ _ _; first | (show SH _ _ _ _ _ (⟨_, .move _, _, _, _, _⟩ :: _) _ _ _; refine mov evL ?_) | (show SH _ _ _ _ _ (⟨_, .assign _, _, _, _, _⟩ :: _) _ _ _; refine asg evL ?_)) | refine s_nil ?_ | refine kh_normal ?_ | refine kh_ret ?_))
      exact rh1 rfl rfl ⟨A2, cp2, congrArg (fun m => Value.slice A2 m cp2) (by omega), rfl⟩ (ent_cons Split.head (ent_drop (ent_drop (ent_refl _))))
    · have hil : i < l.length := by omega
      (repeat' (first | (show VH _ _ _ _ _ _ _; first | refine v_seq ?_ | refine r_seq ?_ | refine v_skip ?_ | refine v_cond_f rfl tbL ?_) | (show SH _ _ _ _ _ (_ :: _) _ _ _; first | (show SH _ _ _ _ _ (⟨_, .move _, _, _, _, _⟩ :: _) _ _ _; refine mov evL ?_) | (show SH _ _ _ _ _ (⟨_, .assign _, _, _, _, _⟩ :: _) _ _ _; refine asg evL ?_) | (show SH _ _ _ _ _ (⟨_, .binOp .eql _ _ _ _, _, _, _, _⟩ :: _) _ _ _; refine eqlF rfl rfl omD ?_) | (show SH _ _ _ _ _ (⟨_, .binOp .add _ _ _ _, _, _, _, _⟩ :: _) _ _ _; refine add rfl rfl inL ?_) | refine slen rfl ?_ | (show SH _ _ _ _ _ (⟨_, .slice _ _ _ _ _, _, _, _, _⟩ :: _) _ _ _; refine sll rfl rfl omL omL ?_)) | refine s_nil ?_ | refine kh_normal ?_))
      refine bcp rfl ?_
      (repeat' ((fail_if_success (show VH _ _ (.seq (.region 13 _ _) _) _ _ _ _)); first | (show VH _ _ _ _ _ _ _; first | refine v_skip ?_ | refine v_cond_f rfl tbL ?_) | (show SH _ _ _ _ _ (_ :: _) _ _ _; (show SH _ _ _ _ _ (⟨_, .binOp .gtr _ _ _ _, _, _, _, _⟩ :: _) _ _ _; refine gtrF rfl rfl omD ?_)) | refine s_nil ?_ | refine kh_normal ?_))
      refine v_room (l := l) spL (by omega) (fun xs hxs => ?_)
      (repeat' ((fail_if_success (show VH _ _ (.seq (.region 15 _ _) _) _ _ _ _)); first | (show VH _ _ _ _ _ _ _; first | refine v_seq ?_ | refine r_seq ?_) | (show SH _ _ _ _ _ (_ :: _) _ _ _; first | (show SH _ _ _ _ _ (⟨_, .move _, _, _, _, _⟩ :: _) _ _ _; refine mov evL ?_) | (show SH _ _ _ _ _ (⟨_, .assign _, _, _, _, _⟩ :: _) _ _ _; refine asg evL ?_) | (show SH _ _ _ _ _ (⟨_, .binOp .add _ _ _ _, _, _, _, _⟩ :: _) _ _ _; refine add rfl rfl inL ?_) | (show SH _ _ _ _ _ (⟨_, .slice _ _ _ _ _, _, _, _, _⟩ :: _) _ _ _; first | refine slh rfl rfl omL omL ?_ | refine sll rfl rfl omL omL ?_)) | refine s_nil ?_ | refine kh_normal ?_))
      refine ovl (t := 22) (tR := 4) (by decide) Try.func77 (by kernel_rfl) (by kernel_rfl) (by kernel_rfl) (by kernel_rfl) rfl rfl (if_neg (by omega)) Split.head Split.head (by omega) ?_
      (repeat' (first | (show VH _ _ _ _ _ _ _; first | refine v_seq ?_ | refine v_cond_t rfl tbL ?_) | refine bnoF rfl ?_ | refine s_nil ?_ | refine kh_normal ?_))
      refine r_held [] [(0, true), (1, true), (2, true), (3, true), (4, true), (5, true), (6, false), (7, false), (8, false)] hmix (by kernel_rfl) (ent_nil _) ?_
      (repeat' ((show SH _ _ _ _ _ (_ :: _) _ _ _; first | (show SH _ _ _ _ _ (⟨_, .move _, _, _, _, _⟩ :: _) _ _ _; refine mov evL ?_) | (show SH _ _ _ _ _ (⟨_, .binOp .add _ _ _ _, _, _, _, _⟩ :: _) _ _ _; refine add rfl rfl inL ?_) | (show SH _ _ _ _ _ (⟨_, .slice _ _ _ _ _, _, _, _, _⟩ :: _) _ _ _; refine sll rfl rfl omL omL ?_))))
      refine cpyS (l := l) (i := i) rfl rfl rfl rfl Split.head hxs hil (if_neg (by omega)) (if_neg (by omega)) (by omega) (ent_nil _) ?_
      have hM : (l.take (i + 1) ++ l.drop i).length = l.length + 1 := by
        simp only [List.length_append, List.length_take, List.length_drop]; omega
      have hMt : (l.take (i + 1) ++ l.drop i).take i = l.take i := by
        rw [List.take_append_of_le_length (by rw [List.length_take]; omega), List.take_take, Nat.min_eq_left (by omega)]
      have hMd : (l.take (i + 1) ++ l.drop i).drop (i + 1) = l.drop i := List.drop_left' (by rw [List.length_take]; omega)
      obtain ⟨M, hMM⟩ : ∃ M, l.take (i + 1) ++ l.drop i = M := ⟨_, rfl⟩
      rw [hMM] at hM hMt hMd ⊢
      clear hMM
      (repeat' (first | (show VH _ _ _ _ _ _ _; first | refine v_seq ?_ | refine r_seq ?_) | (show SH _ _ _ _ _ (_ :: _) _ _ _; first | (show SH _ _ _ _ _ (⟨_, .move _, _, _, _, _⟩ :: _) _ _ _; refine mov evL ?_) | (show SH _ _ _ _ _ (⟨_, .slice _ _ _ _ _, _, _, _, _⟩ :: _) _ _ _; refine sll rfl rfl omL omL ?_)) | refine s_nil ?_ | refine kh_normal ?_))
      refine cpyL (A := A) (L := M) (o := i) (V := [c]) (kk := 1) rfl rfl rfl rfl spL (if_neg (by omega)) (fun w hw => hw.rd spL) (by omega) rfl (by omega) (by omega) trivial ?_
      have hE : M.take i ++ [c] ++ M.drop (i + 1) = l.take i ++ c :: l.drop i := by
        rw [hMt, hMd]; simp
      rw [hE]
      (repeat' (first | (show VH _ _ _ _ _ _ _; first | refine v_seq ?_ | refine r_seq ?_ | refine v_ret ?_) | (show SH _ _ _ _ _ (_ :: _) _ _ _; first | (show SH _ _ _ _ _ (⟨_, .move _, _, _, _, _⟩ :: _) _ _ _; refine mov evL ?_) | (show SH _ _ _ _ _ (⟨_, .assign _, _, _, _, _⟩ :: _) _ _ _; refine asg evL ?_)) | refine s_nil ?_ | refine kh_normal ?_ | refine kh_ret ?_))
      exact rh1 rfl rfl ⟨A, cp, congrArg (fun m => Value.slice A m cp) (by omega), rfl⟩ (ent_cons Split.head (ent_drop (ent_refl _)))
set_option maxHeartbeats 1000000 in
set_option maxRecDepth 100000 in
theorem deleteN_spec (A : Option Addr) (l : List Int) (cp i : Nat) (w0 : World) (H : List HP) (w : World) (hi : i < l.length) (hl : l.length ≤ 1000000) (hw : Wd w0 (orow 3 A cp l :: H) w) :
    Ret Try.prog 48 [.slice A l.length cp, .int .i64 i, .int .i64 (i + 1)].toArray w (RP w0 fun v H' => v = .slice A (l.eraseIdx i).length cp ∧ H' = orow 3 A cp (l.eraseIdx i) :: H) := by
  refine enterH Try.func48 rfl rfl Try.ntmps48 rfl (by assumption) ?_
  refine v_cap (l := l) spL (fun hc => ?_)
  (repeat' (first | (show VH _ _ _ _ _ _ _; first | refine v_seq ?_ | refine r_seq ?_) | (show SH _ _ _ _ _ (_ :: _) _ _ _; first | (show SH _ _ _ _ _ (⟨_, .move _, _, _, _, _⟩ :: _) _ _ _; refine mov evL ?_) | (show SH _ _ _ _ _ (⟨_, .assign _, _, _, _, _⟩ :: _) _ _ _; refine asg evL ?_) | refine slen rfl ?_) | refine s_nil ?_ | refine kh_normal ?_))
  refine sl3 rfl rfl rfl rfl (by omega) (by omega) (by omega) (by omega) ?_
  (repeat' (first | (show VH _ _ _ _ _ _ _; first | refine v_seq ?_ | refine r_seq ?_ | refine v_skip ?_ | refine v_cond_f rfl tbL ?_) | (show SH _ _ _ _ _ (_ :: _) _ _ _; first | (show SH _ _ _ _ _ (⟨_, .move _, _, _, _, _⟩ :: _) _ _ _; refine mov evL ?_) | (show SH _ _ _ _ _ (⟨_, .assign _, _, _, _, _⟩ :: _) _ _ _; refine asg evL ?_) | (show SH _ _ _ _ _ (⟨_, .binOp .eql _ _ _ _, _, _, _, _⟩ :: _) _ _ _; refine eqlF rfl rfl omD ?_) | refine slen rfl ?_) | refine s_nil ?_ | refine kh_normal ?_))
  refine r_held [] [(0, true), (1, true), (2, true), (3, true), (4, false), (5, false), (6, false), (7, false)] hmix (by kernel_rfl) enL ?_
  (repeat' ((show SH _ _ _ _ _ (_ :: _) _ _ _; first | (show SH _ _ _ _ _ (⟨_, .move _, _, _, _, _⟩ :: _) _ _ _; refine mov evL ?_) | (show SH _ _ _ _ _ (⟨_, .slice _ _ _ _ _, _, _, _, _⟩ :: _) _ _ _; first | refine slh rfl rfl omL omL ?_ | refine sll rfl rfl omL omL ?_))))
  refine appIn (L := l) (i := i) (j := i + 1) (kk := l.length - (i + 1)) rfl rfl rfl rfl spL (fun w hw => Rd.from (hw.rd spL) (i + 1) hc) rfl (by omega) (by omega) (by omega) (ent_nil _) ?_
  have hL : (l.take i ++ l.drop (i + 1) ++ l.drop (i + (l.length - (i + 1)))).length = l.length := by
    simp only [List.length_append, List.length_take, List.length_drop]; omega
  have hE : (l.take i ++ l.drop (i + 1) ++ l.drop (i + (l.length - (i + 1)))).take (i + (l.length - (i + 1))) = l.eraseIdx i := by
    rw [List.eraseIdx_eq_take_drop_succ, List.take_left' (by simp only [List.length_append, List.length_take, List.length_drop]; omega)]
  have hEl : (l.eraseIdx i).length = i + (l.length - (i + 1)) := by rw [← hE, List.length_take, hL]; omega
  generalize l.take i ++ l.drop (i + 1) ++ l.drop (i + (l.length - (i + 1))) = L at hL hE ⊢
  (repeat' (first | (show VH _ _ _ _ _ _ _; first | refine v_seq ?_ | refine r_seq ?_) | (show SH _ _ _ _ _ (_ :: _) _ _ _; first | (show SH _ _ _ _ _ (⟨_, .move _, _, _, _, _⟩ :: _) _ _ _; refine mov evL ?_) | (show SH _ _ _ _ _ (⟨_, .assign _, _, _, _, _⟩ :: _) _ _ _; refine asg evL ?_) | refine slen rfl ?_) | refine s_nil ?_ | refine kh_normal ?_))
  refine sl2 rfl rfl rfl (by omega) (by omega) (by omega) ?_
  (repeat' (first | (show VH _ _ _ _ _ _ _; first | refine v_seq ?_ | refine r_seq ?_ | refine r_quiet hmix (by kernel_rfl) ?_ | refine v_block ?_ | refine v_ret ?_ | refine v_skip ?_ | refine v_exit ?_ | refine v_label ?_ | refine v_cond_t rfl tbL ?_ | refine v_cond_f rfl tbL ?_ | refine v_cond_dec rfl (fun h => ?_) (fun h => ?_) | refine v_cond_ndec rfl (fun h => ?_) (fun h => ?_) | refine v_cond rfl (fun h => ?_) (fun h => ?_)) | (show SH _ _ _ _ _ (_ :: _) _ _ _; first | (show SH _ _ _ _ _ (⟨_, .move _, _, _, _, _⟩ :: _) _ _ _; refine mov evL ?_) | (show SH _ _ _ _ _ (⟨_, .assign _, _, _, _, _⟩ :: _) _ _ _; refine asg evL ?_) | (show SH _ _ _ _ _ (⟨_, .binOp .eql _ _ _ _, _, _, _, _⟩ :: _) _ _ _; first | refine eqlT rfl rfl omD ?_ | refine eqlF rfl rfl omD ?_ | refine eql rfl rfl ?_ | refine eqn rfl rfl ?_ | refine eqb rfl rfl ?_ | refine seqT rfl rfl (by assumption) ?_ | refine seqF rfl rfl (by assumption) ?_) | (show SH _ _ _ _ _ (⟨_, .call ⟨.builtin _, _, _⟩, _, _, _, _⟩ :: _) _ _ _; first | refine slen rfl ?_ | refine sln rfl ?_) | (show SH _ _ _ _ _ (⟨_, .slice _ _ _ _ _, _, _, _, _⟩ :: _) _ _ _; first | refine sla rfl rfl omL omL ?_ | refine slh rfl rfl omL omL ?_ | refine sll rfl rfl omL omL ?_)) | refine s_nil ?_ | refine s_fork ?_ ?_ | refine s_fork3 ?_ ?_ ?_ | refine s_fork4 ?_ ?_ ?_ ?_ | refine kh_normal ?_ | refine kh_ret ?_ | refine kh_exit ?_ | refine bh_normal ?_ | refine bh_ret ?_ | refine bh_exit ?_ | refine bh_exit_ne rfl ?_))
  refine clr rfl rfl spL (j := i + (l.length - (i + 1))) (by rfl) (by rw [hL]; rfl) (by omega) trivial ?_
  rw [hE]
  (repeat' (first | (show VH _ _ _ _ _ _ _; first | refine v_seq ?_ | refine r_seq ?_ | refine v_ret ?_) | (show SH _ _ _ _ _ (_ :: _) _ _ _; first | (show SH _ _ _ _ _ (⟨_, .move _, _, _, _, _⟩ :: _) _ _ _; refine mov evL ?_) | (show SH _ _ _ _ _ (⟨_, .assign _, _, _, _, _⟩ :: _) _ _ _; refine asg evL ?_)) | refine s_nil ?_ | refine kh_normal ?_))
  exact rh1 rfl rfl ⟨congrArg (fun m => Value.slice A m cp) hEl.symm, rfl⟩ (ent_refl _)
set_option maxHeartbeats 2000000 in
set_option maxRecDepth 100000 in
theorem insertN_spec (A : Option Addr) (l : List Int) (cp i bv : Nat) (c : Int) (w0 : World) (H : List HP) (w : World) (hi : i ≤ l.length) (hl : l.length ≤ 1000000) (hw : Wd w0 (orow 3 A cp l :: orow 3 (some ⟨bv, 0, none⟩) 1 [c] :: H) w) :
    Ret Try.prog 47 [.slice A l.length cp, .int .i64 i, .slice (some ⟨bv, 0, none⟩) 1 1].toArray w (RP w0 fun v H' => ∃ A' cp', v = .slice A' (l.take i ++ c :: l.drop i).length cp' ∧ H' = orow 3 A' cp' (l.take i ++ c :: l.drop i) :: H) := by
  have hLn : (l.take i ++ c :: l.drop i).length = l.length + 1 := by
    simp only [List.length_append, List.length_cons, List.length_take, List.length_drop]; omega
  refine enterH Try.func47 rfl rfl Try.ntmps47 rfl (by assumption) ?_
  refine v_cap (l := l) spL (fun hc => ?_)
  by_cases hin : i = l.length
  · have hE : l.take i ++ c :: l.drop i = l ++ [c] := by rw [hin]; simp
    rw [hE]
    clear hE hLn
    (repeat' (first | (show VH _ _ _ _ _ _ _; first | refine v_seq ?_ | refine r_seq ?_ | refine v_skip ?_ | refine v_cond_t rfl tbL ?_ | refine v_cond_f rfl tbL ?_) | (show SH _ _ _ _ _ (_ :: _) _ _ _; first | (show SH _ _ _ _ _ (⟨_, .move _, _, _, _, _⟩ :: _) _ _ _; refine mov evL ?_) | (show SH _ _ _ _ _ (⟨_, .assign _, _, _, _, _⟩ :: _) _ _ _; refine asg evL ?_) | (show SH _ _ _ _ _ (⟨_, .binOp .eql _ _ _ _, _, _, _, _⟩ :: _) _ _ _; first | refine eqlT rfl rfl omD ?_ | refine eqlF rfl rfl omD ?_) | refine slen rfl ?_ | (show SH _ _ _ _ _ (⟨_, .slice _ _ _ _ _, _, _, _, _⟩ :: _) _ _ _; refine sll rfl rfl omL omL ?_)) | refine s_nil ?_ | refine kh_normal ?_))
    refine app (l := l) (l2 := [c]) rfl rfl rfl spL (fun w hw => hw.rd spL) rfl rfl rfl (by simp only [List.length_cons, List.length_nil]; omega) (by simp only [List.length_cons, List.length_nil]; omega) (fun A' c' => ⟨trivial, ?_⟩)
    (repeat' (first | refine v_ret ?_ | (show SH _ _ _ _ _ (_ :: _) _ _ _; (show SH _ _ _ _ _ (⟨_, .assign _, _, _, _, _⟩ :: _) _ _ _; refine asg evL ?_)) | refine s_nil ?_ | refine kh_normal ?_ | refine kh_ret ?_))
    exact rh1 rfl rfl ⟨A', c', rfl, rfl⟩ (ent_cons Split.head (ent_drop (ent_refl _)))
  · by_cases hg : cp < l.length + 1
    · (repeat' (first | (show VH _ _ _ _ _ _ _; first | refine v_seq ?_ | refine r_seq ?_ | refine v_skip ?_ | refine v_cond_f rfl tbL ?_) | (show SH _ _ _ _ _ (_ :: _) _ _ _; first | (show SH _ _ _ _ _ (⟨_, .move _, _, _, _, _⟩ :: _) _ _ _; refine mov evL ?_) | (show SH _ _ _ _ _ (⟨_, .assign _, _, _, _, _⟩ :: _) _ _ _; refine asg evL ?_) | (show SH _ _ _ _ _ (⟨_, .binOp .eql _ _ _ _, _, _, _, _⟩ :: _) _ _ _; refine eqlF rfl rfl omD ?_) | (show SH _ _ _ _ _ (⟨_, .binOp .add _ _ _ _, _, _, _, _⟩ :: _) _ _ _; refine add rfl rfl inL ?_) | refine slen rfl ?_ | (show SH _ _ _ _ _ (⟨_, .slice _ _ _ _ _, _, _, _, _⟩ :: _) _ _ _; refine sll rfl rfl omL omL ?_)) | refine s_nil ?_ | refine kh_normal ?_))
      refine bcp rfl ?_
      (repeat' (first | (show VH _ _ _ _ _ _ _; first | refine v_seq ?_ | refine r_seq ?_ | refine v_cond_t rfl tbL ?_) | (show SH _ _ _ _ _ (_ :: _) _ _ _; first | (show SH _ _ _ _ _ (⟨_, .move _, _, _, _, _⟩ :: _) _ _ _; refine mov evL ?_) | (show SH _ _ _ _ _ (⟨_, .binOp .gtr _ _ _ _, _, _, _, _⟩ :: _) _ _ _; refine gtrT rfl rfl omD ?_) | (show SH _ _ _ _ _ (⟨_, .binOp .add _ _ _ _, _, _, _, _⟩ :: _) _ _ _; refine add rfl rfl inL ?_) | (show SH _ _ _ _ _ (⟨_, .binOp .sub _ _ _ _, _, _, _, _⟩ :: _) _ _ _; refine sub rfl rfl inL ?_) | (show SH _ _ _ _ _ (⟨_, .slice _ _ _ _ _, _, _, _, _⟩ :: _) _ _ _; refine slh rfl rfl omL omL ?_)) | refine s_nil ?_ | refine kh_normal ?_))
      refine appz (α := Int) (i := i) (k := l.length + 1 - i) (l := l.take i) (z := .int .i64 0) rfl rfl (congrArg (Value.int .i64) (by omega)) (fun w hw => (hw.rd spL).take i) (by rw [List.length_take]; omega) (by kernel_rfl) rfl rfl (by omega) (by omega) (by omega) (by omega) (by omega) (by omega) (fun A2 cp2 => ?_)
      (repeat' ((fail_if_success (show VH _ _ (.seq (.region 10 _ _) _) _ _ _ _)); first | (show SH _ _ _ _ _ (_ :: _) _ _ _; (show SH _ _ _ _ _ (⟨_, .assign _, _, _, _, _⟩ :: _) _ _ _; refine asg evL ?_)) | refine s_nil ?_ | refine kh_normal ?_))
      refine v_cap (A := A2) spL (fun hc2 => ?_)
      have hLr : (l.take i ++ List.replicate (l.length + 1 - i) (Flat.dflt : Int)).length = l.length + 1 := by
        simp only [List.length_append, List.length_take, List.length_replicate]; omega
      obtain ⟨L, hL⟩ : ∃ L, l.take i ++ List.replicate (l.length + 1 - i) (Flat.dflt : Int) = L := ⟨_, rfl⟩
      have hLt : L.take i = l.take i := by rw [← hL, List.take_left' (by rw [List.length_take]; omega)]
      rw [hL] at hLr hc2 ⊢
      clear hL
      (repeat' (first | (show VH _ _ _ _ _ _ _; first | refine v_seq ?_ | refine r_seq ?_) | (show SH _ _ _ _ _ (_ :: _) _ _ _; first | (show SH _ _ _ _ _ (⟨_, .move _, _, _, _, _⟩ :: _) _ _ _; refine mov evL ?_) | (show SH _ _ _ _ _ (⟨_, .slice _ _ _ _ _, _, _, _, _⟩ :: _) _ _ _; refine sll rfl rfl omL omL ?_))))
      refine cpyL (A := A2) (o := i) (V := [c]) (kk := 1) rfl rfl rfl rfl spL (if_neg (by omega)) (fun w hw => hw.rd spL) (by omega) rfl (by omega) (by omega) trivial ?_
      rw [hLt]
      have hM : (l.take i ++ [c] ++ L.drop (i + 1)).length = l.length + 1 := by
        simp only [List.length_append, List.length_take, List.length_drop, List.length_cons, List.length_nil]; omega
      have hMt : (l.take i ++ [c] ++ L.drop (i + 1)).take (i + 1) = l.take i ++ [c] := List.take_left' (by simp only [List.length_append, List.length_take, List.length_cons, List.length_nil]; omega)
      obtain ⟨M, hMM⟩ : ∃ M, l.take i ++ [c] ++ L.drop (i + 1) = M := ⟨_, rfl⟩
      rw [hMM] at hM hMt ⊢
      clear hMM hLt
      (repeat' (first | refine v_seq ?_ | refine s_nil ?_ | refine kh_normal ?_))
      refine r_held [] [(0, true), (1, true), (2, true), (3, true), (4, true), (5, true), (6, false), (7, false), (8, false)] hmix (by kernel_rfl) (ent_nil _) ?_
      (repeat' ((show SH _ _ _ _ _ (_ :: _) _ _ _; first | (show SH _ _ _ _ _ (⟨_, .move _, _, _, _, _⟩ :: _) _ _ _; refine mov evL ?_) | (show SH _ _ _ _ _ (⟨_, .binOp .add _ _ _ _, _, _, _, _⟩ :: _) _ _ _; refine add rfl rfl inL ?_) | (show SH _ _ _ _ _ (⟨_, .slice _ _ _ _ _, _, _, _, _⟩ :: _) _ _ _; refine sll rfl rfl omL omL ?_))))
      refine cpyL (A := A2) (o := i + 1) (V := l.drop i) (kk := l.length - i) rfl rfl rfl rfl spL (if_neg (by omega)) (fun w hw => Rd.from (hw.rd spL) i hc) (by omega) (by rw [List.length_drop]) (by omega) (by omega) (ent_nil _) ?_
      have hE : M.take (i + 1) ++ l.drop i ++ M.drop (i + 1 + (l.length - i)) = l.take i ++ c :: l.drop i := by
        have hMd : M.drop (i + 1 + (l.length - i)) = [] := List.drop_of_length_le (by omega)
        rw [hMt, hMd]; simp
      rw [hE]
      (repeat' (first | (show VH _ _ _ _ _ _ _; first | refine v_seq ?_ | refine r_seq ?_ | refine v_ret ?_) | (show SH _ _ _ _ _ (_ :: _) _ _ _; first | (show SH _ _ _ _ _ (⟨_, .move _, _, _, _, _⟩ :: _) _ _ _; refine mov evL ?_) | (show SH _ _ _ _ _ (⟨_, .assign _, _, _, _, _⟩ :: _) _ _ _; refine asg evL ?_)) | refine s_nil ?_ | refine kh_normal ?_ | refine kh_ret ?_))
      exact rh1 rfl rfl ⟨A2, cp2, congrArg (fun m => Value.slice A2 m cp2) (by omega), rfl⟩ (ent_cons Split.head (ent_drop (ent_drop (ent_refl _))))
    · have hil : i < l.length := by omega
      (repeat' (first | (show VH _ _ _ _ _ _ _; first | refine v_seq ?_ | refine r_seq ?_ | refine v_skip ?_ | refine v_cond_f rfl tbL ?_) | (show SH _ _ _ _ _ (_ :: _) _ _ _; first | (show SH _ _ _ _ _ (⟨_, .move _, _, _, _, _⟩ :: _) _ _ _; refine mov evL ?_) | (show SH _ _ _ _ _ (⟨_, .assign _, _, _, _, _⟩ :: _) _ _ _; refine asg evL ?_) | (show SH _ _ _ _ _ (⟨_, .binOp .eql _ _ _ _, _, _, _, _⟩ :: _) _ _ _; refine eqlF rfl rfl omD ?_) | (show SH _ _ _ _ _ (⟨_, .binOp .add _ _ _ _, _, _, _, _⟩ :: _) _ _ _; refine add rfl rfl inL ?_) | refine slen rfl ?_ | (show SH _ _ _ _ _ (⟨_, .slice _ _ _ _ _, _, _, _, _⟩ :: _) _ _ _; refine sll rfl rfl omL omL ?_)) | refine s_nil ?_ | refine kh_normal ?_))
      refine bcp rfl ?_
      (repeat' ((fail_if_success (show VH _ _ (.seq (.region 13 _ _) _) _ _ _ _)); first | (show VH _ _ _ _ _ _ _; first | refine v_skip ?_ | refine v_cond_f rfl tbL ?_) | (show SH _ _ _ _ _ (_ :: _) _ _ _; (show SH _ _ _ _ _ (⟨_, .binOp .gtr _ _ _ _, _, _, _, _⟩ :: _) _ _ _; refine gtrF rfl rfl omD ?_)) | refine s_nil ?_ | refine kh_normal ?_))
      refine v_room (l := l) spL (by omega) (fun xs hxs => ?_)
      (repeat' ((fail_if_success (show VH _ _ (.seq (.region 15 _ _) _) _ _ _ _)); first | (show VH _ _ _ _ _ _ _; first | refine v_seq ?_ | refine r_seq ?_) | (show SH _ _ _ _ _ (_ :: _) _ _ _; first | (show SH _ _ _ _ _ (⟨_, .move _, _, _, _, _⟩ :: _) _ _ _; refine mov evL ?_) | (show SH _ _ _ _ _ (⟨_, .assign _, _, _, _, _⟩ :: _) _ _ _; refine asg evL ?_) | (show SH _ _ _ _ _ (⟨_, .binOp .add _ _ _ _, _, _, _, _⟩ :: _) _ _ _; refine add rfl rfl inL ?_) | (show SH _ _ _ _ _ (⟨_, .slice _ _ _ _ _, _, _, _, _⟩ :: _) _ _ _; first | refine slh rfl rfl omL omL ?_ | refine sll rfl rfl omL omL ?_)) | refine s_nil ?_ | refine kh_normal ?_))
      refine ovl (t := 29) (tR := 4) (by decide) Try.func81 (by kernel_rfl) (by kernel_rfl) (by kernel_rfl) (by kernel_rfl) rfl rfl (if_neg (by omega)) Split.head Split.head (by omega) ?_
      (repeat' (first | (show VH _ _ _ _ _ _ _; first | refine v_seq ?_ | refine v_cond_t rfl tbL ?_) | refine bnoF rfl ?_ | refine s_nil ?_ | refine kh_normal ?_))
      refine r_held [] [(0, true), (1, true), (2, true), (3, true), (4, true), (5, true), (6, false), (7, false), (8, false)] hmix (by kernel_rfl) (ent_nil _) ?_
      (repeat' ((show SH _ _ _ _ _ (_ :: _) _ _ _; first | (show SH _ _ _ _ _ (⟨_, .move _, _, _, _, _⟩ :: _) _ _ _; refine mov evL ?_) | (show SH _ _ _ _ _ (⟨_, .binOp .add _ _ _ _, _, _, _, _⟩ :: _) _ _ _; refine add rfl rfl inL ?_) | (show SH _ _ _ _ _ (⟨_, .slice _ _ _ _ _, _, _, _, _⟩ :: _) _ _ _; refine sll rfl rfl omL omL ?_))))
      refine cpyS (l := l) (i := i) rfl rfl rfl rfl Split.head hxs hil (if_neg (by omega)) (if_neg (by omega)) (by omega) (ent_nil _) ?_
      have hM : (l.take (i + 1) ++ l.drop i).length = l.length + 1 := by
        simp only [List.length_append, List.length_take, List.length_drop]; omega
      have hMt : (l.take (i + 1) ++ l.drop i).take i = l.take i := by
        rw [List.take_append_of_le_length (by rw [List.length_take]; omega), List.take_take, Nat.min_eq_left (by omega)]
      have hMd : (l.take (i + 1) ++ l.drop i).drop (i + 1) = l.drop i := List.drop_left' (by rw [List.length_take]; omega)
      obtain ⟨M, hMM⟩ : ∃ M, l.take (i + 1) ++ l.drop i = M := ⟨_, rfl⟩
      rw [hMM] at hM hMt hMd ⊢
      clear hMM
      (repeat' (first | (show VH _ _ _ _ _ _ _; first | refine v_seq ?_ | refine r_seq ?_) | (show SH _ _ _ _ _ (_ :: _) _ _ _; first | (show SH _ _ _ _ _ (⟨_, .move _, _, _, _, _⟩ :: _) _ _ _; refine mov evL ?_) | (show SH _ _ _ _ _ (⟨_, .slice _ _ _ _ _, _, _, _, _⟩ :: _) _ _ _; refine sll rfl rfl omL omL ?_)) | refine s_nil ?_ | refine kh_normal ?_))
      refine cpyL (A := A) (L := M) (o := i) (V := [c]) (kk := 1) rfl rfl rfl rfl spL (if_neg (by omega)) (fun w hw => hw.rd spL) (by omega) rfl (by omega) (by omega) trivial ?_
      have hE : M.take i ++ [c] ++ M.drop (i + 1) = l.take i ++ c :: l.drop i := by
        rw [hMt, hMd]; simp
      rw [hE]
      (repeat' (first | (show VH _ _ _ _ _ _ _; first | refine v_seq ?_ | refine r_seq ?_ | refine v_ret ?_) | (show SH _ _ _ _ _ (_ :: _) _ _ _; first | (show SH _ _ _ _ _ (⟨_, .move _, _, _, _, _⟩ :: _) _ _ _; refine mov evL ?_) | (show SH _ _ _ _ _ (⟨_, .assign _, _, _, _, _⟩ :: _) _ _ _; refine asg evL ?_)) | refine s_nil ?_ | refine kh_normal ?_ | refine kh_ret ?_))
      exact rh1 rfl rfl ⟨A, cp, congrArg (fun m => Value.slice A m cp) (by omega), rfl⟩ (ent_cons Split.head (ent_drop (ent_refl _)))
end Go.Proofs.Ytplhnnlklnbahaa

/- Layer 37 (chat): rooms in memory of their own. -/
namespace Go.Proofs.Ytplhnnlklnbahaa
open Go.Fw Go.RowKit
/-- Those that a member ignores, in a row of their own. -/
abbrev rowG (x : MbrP) : HP := orow 3 x.A x.ca x.m.ign
abbrev ownR37 (A : Option Addr) (c : Nat) (L : List MbrP) (B : Option Addr) (d : Nat) (gl : List Msg) : List HP := [orow 31 A c L, orow 36 B d gl, allH (L.map rowG)]
def OwnR (t s : Int) (ms : List Mbr) (gl : List Msg) (v : Value) (H : List HP) : Prop := ∃ A c L B d, mbrs L = ms ∧ v = rv37 t s A L c B gl d ∧ H = ownR37 A c L B d gl
abbrev bxR (b : Nat) (t s : Int) (A : Option Addr) (n c : Nat) (B : Option Addr) (m d : Nat) : HP := bx b 25 [.int .i64 t, .int .i64 s, .slice A n c, .slice B m d]
set_option maxHeartbeats 2000000 in
set_option maxRecDepth 100000 in
theorem ownR_spec (t s : Int) (A : Option Addr) (L : List MbrP) (c : Nat) (B : Option Addr) (gl : List Msg) (d : Nat) (w : World) (hz : SzR L gl) (hr : RdR w A L B gl) : Ret Try.prog 43 [rv37 t s A L c B gl d].toArray w (RP w (OwnR t s (mbrs L) gl)) := by
  obtain ⟨hrA, hri, hrg⟩ := hr
  obtain ⟨hll, hgl, hsi, _⟩ := hz
  have hCM := fun w' (he : Ext w w') => cloneM_spec A L c w' hll (hrA.ext he)
  have hCG := fun w' (he : Ext w w') => cloneG_spec B gl d w' hgl (hrg.ext he)
  unfold rv37
  refine enterH Try.func43 rfl rfl Try.ntmps43 rfl (Wd.refl _) ?_
  (repeat' (first | (show VH _ _ _ _ _ _ _; first | refine v_seq ?_ | refine r_seq ?_) | (show SH _ _ _ _ _ (_ :: _) _ _ _; first | refine ala rfl (fun b => ?_) | (show SH _ _ _ _ _ (⟨_, .box _ _, _, _, _, _⟩ :: _) _ _ _; refine bxx rfl evL rfl (fun b => ?_))) | refine s_nil ?_ | refine kh_normal ?_))
  rename_i b1
  revert b
  intro b2
  refine v_cut [(4, 11)] (fun _ : (Option Addr × Nat) × (Option Addr × Nat) => []) (fun y => [orow 31 y.1.1 y.1.2 L, orow 36 y.2.1 y.2.2 gl, bxR b1 t s y.1.1 L.length y.1.2 y.2.1 gl.length y.2.2, bxR b2 0 0 none 0 0 none 0 0]) (fun _ => True) ?_ ?_ ent_vh
  · refine r_heldT [bx b2 25 _] (tr [(0, true), (3, true)] (.fork 1 (tr [] (.fork 2 (tr [(4, false), (6, true), (5, false), (7, false), (8, false), (9, false)] .nil) 4 (tr [(2, false), (6, true), (5, false), (7, false), (8, false), (9, false)] .nil))) 4 (tr [(1, false), (2, false), (6, true), (5, false), (7, false), (8, false), (9, false)] .nil))) hmix (by kernel_rfl) enL ?_
    (repeat' (first | (show SH _ _ _ _ _ (_ :: _) _ _ _; first | (show SH _ _ _ _ _ (⟨_, .load _ _, _, _, _, _⟩ :: _) _ _ _; refine lbx rfl spL (by rfl) ?_) | (show SH _ _ _ _ _ (⟨_, .call ⟨.value (.func 74), _, _⟩, _, _, _, _⟩ :: _) _ _ _; refine cp (callee := .func 74) rfl (fun w hw => hCM _ hw.ext) rfl rfl ?_) | refine fad rfl ?_) | refine s_fork ?_ ?_))
    all_goals
      rintro _ _ ⟨A1, a1, rfl, rfl⟩
      (repeat' ((show SH _ _ _ _ _ (_ :: _) _ _ _; first | (show SH _ _ _ _ _ (⟨_, .load _ _, _, _, _, _⟩ :: _) _ _ _; refine lbx rfl spL (by rfl) ?_) | (show SH _ _ _ _ _ (⟨_, .call ⟨.value (.func 75), _, _⟩, _, _, _, _⟩ :: _) _ _ _; refine cp (callee := .func 75) rfl (fun w hw => hCG _ hw.ext) rfl rfl ?_) | refine fad rfl ?_)))
      rintro _ _ ⟨A2, a2, rfl, rfl⟩
      (repeat' (first | (show SH _ _ _ _ _ (_ :: _) _ _ _; first | refine fad rfl ?_ | (show SH _ _ _ _ _ (⟨_, .store _ _ _, _, _, _, _⟩ :: _) _ _ _; refine stb rfl rfl evL spL rfl rfl (by first | decide | exact Nat.zero_lt_succ _ | exact of_decide_eq_true rfl) kpL ?_)) | refine s_nil ?_ | refine kh_normal ?_))
      first
        | exact ⟨agL, ((A1, a1), (A2, a2)), hsL, enL, trivial⟩
        | exact ⟨agL, ((A2, a2), (A1, a1)), hsL, enL, trivial⟩
  rintro ⟨⟨A1, c1⟩, B1, d1⟩ gg _ G rfl
  simp only [sets]
  (repeat' (first | (show VH _ _ _ _ _ _ _; first | refine v_seq ?_ | refine r_seq ?_ | refine v_block ?_) | (show SH _ _ _ _ _ (_ :: _) _ _ _; first | (show SH _ _ _ _ _ (⟨_, .move _, _, _, _, _⟩ :: _) _ _ _; refine mov evL ?_) | (show SH _ _ _ _ _ (⟨_, .load _ _, _, _, _, _⟩ :: _) _ _ _; refine lbx rfl spL (by rfl) ?_) | refine slen rfl ?_ | refine fad rfl ?_) | refine s_nil ?_ | refine kh_normal ?_))
  refine v_norm [(1,_),(2,_),(13,_),(14,_),(15,_)] heL (fun g => ?_)
  refine VH.ent (G := [allH (([] : List MbrP).map rowG), orow 31 A1 c1 ([] ++ L.drop 0), orow 36 B1 d1 gl, bxR b1 t s A1 L.length c1 B1 gl.length d1, bxR b2 0 0 none 0 0 none 0 0]) ?_ (ent_all_nil enL)
  refine v_loop [(3,3),(15,30)] (fun y : Nat × List MbrP => [(15, .int .i64 y.1)]) (fun y => [allH (y.2.map rowG), orow 31 A1 c1 (y.2 ++ L.drop y.1), orow 36 B1 d1 gl, bxR b1 t s A1 L.length c1 B1 gl.length d1, bxR b2 0 0 none 0 0 none 0 0]) (fun y => y.1 ≤ L.length ∧ mbrs y.2 = (mbrs L).take y.1) (fun y => L.length - y.1) (0, []) hsL (ent_refl _) ⟨Nat.zero_le _, by simp [mbrs]⟩ ?_
  rintro ⟨k, M⟩ g ⟨hk, hM⟩
  simp only [sets]
  simp only at hk hM
  have hMl : M.length = k := by
    have := congrArg List.length hM
    rw [mbrs_len, List.length_take, mbrs_len] at this; omega
  by_cases hkl : k < L.length
  · have hxg : (M ++ L.drop k).getD k Flat.dflt = L.getD k Flat.dflt := by
      rw [List.getD_eq_getElem?_getD, List.getElem?_append_right (by omega), List.getElem?_drop, hMl, Nat.sub_self, Nat.add_zero, ← List.getD_eq_getElem?_getD]
    have hDl : (M ++ L.drop k).length = L.length := by rw [List.length_append, List.length_drop]; omega
    have hset : ∀ y, (M ++ L.drop k).set k y = (M ++ [y]) ++ L.drop (k + 1) := fun y => by
      rw [drop_cons (d := Flat.dflt) hkl, List.set_append_right _ _ (by omega), hMl, Nat.sub_self, List.set_cons_zero, List.append_assoc]; rfl
    have hM1 : ∀ y : MbrP, y.m = (L.getD k Flat.dflt).m → mbrs (M ++ [y]) = (mbrs L).take (k + 1) := fun y hy => by
      rw [mbrs_snoc, hM, take_snoc (d := mbr0) (by rw [mbrs_len]; exact hkl), mbrs_at hkl, hy]
    obtain ⟨x, hx⟩ : ∃ x, L.getD k Flat.dflt = x := ⟨_, rfl⟩
    have hsx : x.m.ign.length ≤ 1000000 := by rw [← hx]; exact hsi _ (getD_mem hkl)
    have hrx : Rd w x.A x.m.ign := by rw [← hx]; exact hri _ (getD_mem hkl)
    have hC := fun w' (he : Ext w w') => clone_spec x.A x.m.ign x.ca w' hsx (hrx.ext he)
    rw [hx] at hxg hM1
    have hxE : Flat.enc ((M ++ L.drop k).getD k Flat.dflt) = [.int .i64 x.m.id, .slice x.A x.m.ign.length x.ca] := by rw [hxg]; rfl
    clear hx hxg hsi hri hrx hM hCM hCG
    generalize M ++ L.drop k = D at hxE hDl hset ⊢
    obtain ⟨⟨xi, xl⟩, xA, xca⟩ := x
    simp only at hC hM1 hxE hsx
    (repeat' (first | (show VH _ _ _ _ _ _ _; first | refine v_seq ?_ | refine r_seq ?_ | refine v_block ?_ | refine v_skip ?_ | refine v_cond_t rfl tbL ?_) | (show SH _ _ _ _ _ (_ :: _) _ _ _; first | (show SH _ _ _ _ _ (⟨_, .move _, _, _, _, _⟩ :: _) _ _ _; refine mov evL ?_) | (show SH _ _ _ _ _ (⟨_, .assign _, _, _, _, _⟩ :: _) _ _ _; refine asg evL ?_) | (show SH _ _ _ _ _ (⟨_, .binOp .lss _ _ _ _, _, _, _, _⟩ :: _) _ _ _; refine lssT rfl rfl omD ?_)) | refine s_nil ?_ | refine kh_normal ?_))
    refine r_heldT [bxR b1 t s A1 L.length c1 B1 gl.length d1] (tr [(0, true), (1, true), (2, true), (3, true), (4, true), (5, false), (6, false), (7, false), (8, false), (9, false), (10, false), (11, false), (12, false)] .nil) hmix (by kernel_rfl) enL ?_
    (repeat' ((show SH _ _ _ _ _ (_ :: _) _ _ _; first | (show SH _ _ _ _ _ (⟨_, .move _, _, _, _, _⟩ :: _) _ _ _; refine mov evL ?_) | (show SH _ _ _ _ _ (⟨_, .load _ _, _, _, _, _⟩ :: _) _ _ _; first | refine lbx rfl spL (by rfl) ?_ | refine lrg rfl (fun _ _ => rdS) (by rfl) omL (by assumption) (by rfl) ?_) | (show SH _ _ _ _ _ (⟨_, .indexAddr _ _ _, _, _, _, _⟩ :: _) _ _ _; refine ix rfl rfl (by with_reducible rfl) (fun _ _ => rdS) (by rfl) omL omL ?_) | (show SH _ _ _ _ _ (⟨_, .call ⟨.value (.func 76), _, _⟩, _, _, _, _⟩ :: _) _ _ _; refine cp (callee := .func 76) rfl (fun w hw => hC _ hw.ext) rfl rfl ?_) | refine fad rfl ?_)))
    rintro _ _ ⟨A2, a2, rfl, rfl⟩
    (repeat' ((show SH _ _ _ _ _ (_ :: _) _ _ _; first | (show SH _ _ _ _ _ (⟨_, .indexAddr _ _ _, _, _, _, _⟩ :: _) _ _ _; refine ix rfl rfl (by with_reducible rfl) (fun _ _ => rdS) (by rfl) omL omL ?_) | refine fad rfl ?_)))
    refine stf (sz := 2) (off := 1) (⟨⟨xi, xl⟩, A2, a2⟩ : MbrP) rfl rfl rfl spL rfl (by omega) rfl rfl (by omega) (by rw [hxE]; rfl) enL ?_
    rw [hset]
    (repeat' (first | refine r_seq ?_ | (show SH _ _ _ _ _ (_ :: _) _ _ _; first | (show SH _ _ _ _ _ (⟨_, .move _, _, _, _, _⟩ :: _) _ _ _; refine mov evL ?_) | (show SH _ _ _ _ _ (⟨_, .binOp .add _ _ _ _, _, _, _, _⟩ :: _) _ _ _; refine add rfl rfl inL ?_)) | refine s_nil ?_ | refine kh_normal ?_ | refine bh_normal ?_))
    refine ⟨agL, (k + 1, M ++ [⟨⟨xi, xl⟩, A2, a2⟩]), hsL, ?_, ⟨hkl, hM1 _ rfl⟩, by show L.length - (k + 1) < L.length - k; omega⟩
    exact Ent.trans (B := [rowG ⟨⟨xi, xl⟩, A2, a2⟩, allH (M.map rowG), orow 31 A1 c1 ((M ++ [⟨⟨xi, xl⟩, A2, a2⟩]) ++ L.drop (k + 1)), orow 36 B1 d1 gl, bxR b1 t s A1 L.length c1 B1 gl.length d1, bxR b2 0 0 none 0 0 none 0 0]) enL ent_all_snoc
  · have hkE : k = L.length := by omega
    subst hkE
    rw [List.drop_of_length_le (by omega), List.append_nil]
    have hMp : mbrs M = mbrs L := by rw [hM, ← mbrs_len, List.take_length]
    rw [← hMl]
    (repeat' (first | (show VH _ _ _ _ _ _ _; first | refine v_seq ?_ | refine r_seq ?_ | refine v_ret ?_ | refine v_exit ?_ | refine v_cond_f rfl tbL ?_) | (show SH _ _ _ _ _ (_ :: _) _ _ _; first | (show SH _ _ _ _ _ (⟨_, .binOp .lss _ _ _ _, _, _, _, _⟩ :: _) _ _ _; refine lssF rfl rfl omD ?_) | (show SH _ _ _ _ _ (⟨_, .load _ _, _, _, _, _⟩ :: _) _ _ _; refine lba rfl spL (by rfl) ?_) | (show SH _ _ _ _ _ (⟨_, .store _ _ _, _, _, _, _⟩ :: _) _ _ _; refine sta rfl rfl rfl spL (by rfl) (by rfl) (by rfl) kpL ?_)) | refine s_nil ?_ | refine kh_normal ?_ | refine kh_exit ?_ | refine bh_exit ?_))
    exact rhC rfl rfl rfl (fun w hw => loadVar_bx hw spL (by rfl)) ⟨A1, c1, M, B1, d1, hMp, rfl, rfl⟩ enL
end Go.Proofs.Ytplhnnlklnbahaa

/- Layer 37 (chat): where a member stands; what is put in, and taken out. Plain Lean. -/
namespace Go.Proofs.Ytplhnnlklnbahaa
open Go.Fw Go.RowKit
section
variable {α : Type} {key : α → Int} {k : Int}
theorem lbK_lt_cons {x : α} {l : List α} (h : key x < k) : lbK key k (x :: l) = lbK key k l + 1 := by
  unfold lbK
  rw [List.takeWhile_cons_of_pos (by simpa using h), List.length_cons]
theorem lbK_ge_cons {x : α} {l : List α} (h : ¬ key x < k) : lbK key k (x :: l) = 0 := by
  unfold lbK
  rw [List.takeWhile_cons_of_neg (by simpa using h)]; rfl
end
theorem findR37_lt {id : Int} : ∀ {l : List Mbr} {k : Nat}, findR37 id l = some k → k < l.length ∧ (l.getD k mbr0).id = id
  | [], k, h => by cases h
  | m :: l, k, h => by
    rw [findR37] at h
    split at h
    · rename_i e
      injection h with h; subst h
      exact ⟨by simp, e⟩
    · obtain ⟨j, hj, rfl⟩ := Option.map_eq_some_iff.1 h
      obtain ⟨h1, h2⟩ := findR37_lt hj
      exact ⟨by simpa using h1, h2⟩
theorem findR37_none {id : Int} : ∀ {l : List Mbr}, findR37 id l = none ↔ id ∉ l.map Mbr.id
  | [] => ⟨fun _ h => (by cases h), fun _ => rfl⟩
  | m :: l => by
    rw [findR37]
    split
    · rename_i e
      exact ⟨fun h => (by cases h), fun h => absurd (by rw [← e]; simp) h⟩
    · rename_i e
      rw [Option.map_eq_none_iff, findR37_none, List.map_cons, List.mem_cons, not_or]
      exact ⟨fun h => ⟨fun h' => e h'.symm, h⟩, fun h => h.2⟩
/-- A member's ID, as it lies. -/
def keyM (x : MbrP) : Int := x.m.id
theorem keyM_map (L : List MbrP) : L.map keyM = (mbrs L).map Mbr.id := by unfold mbrs; rw [List.map_map]; rfl
theorem rising_mbrs {L : List MbrP} (h : (mbrs L).Pairwise fun a b => a.id < b.id) : Rising keyM L := by
  unfold mbrs at h
  rw [List.pairwise_map] at h
  exact h
theorem find_lb {id : Int} : ∀ {L : List MbrP}, Rising keyM L → findR37 id (mbrs L) = if hasK keyM id L = true then some (lbK keyM id L) else none
  | [], _ => rfl
  | x :: L, h => by
    have hx := List.pairwise_cons.1 h
    have ih := find_lb (id := id) hx.2
    show findR37 id (x.m :: mbrs L) = _
    rw [findR37]
    unfold hasK at ih ⊢
    by_cases e : x.m.id = id
    · rw [if_pos e, lbK_ge_cons (show ¬ keyM x < id by show ¬ x.m.id < id; omega)]
      rw [if_pos (by simp; exact e)]
    · rw [if_neg e]
      by_cases e2 : x.m.id < id
      · rw [lbK_lt_cons (show keyM x < id from e2), ih]
        simp only [List.length_cons, List.getD_cons_succ, Nat.add_lt_add_iff_right]
        split <;> rfl
      · rw [lbK_ge_cons (show ¬ keyM x < id from e2)]
        rw [if_neg (by simp; exact e)]
        rw [findR37_none.2 (fun hm => ?_)]; rfl
        rw [← keyM_map] at hm
        obtain ⟨y, hy, e3⟩ := List.mem_map.1 hm
        have h1 : x.m.id < y.m.id := hx.1 y hy
        have e4 : y.m.id = id := e3
        omega
theorem insM_lb {x : Mbr} : ∀ {l : List Mbr}, x.id ∉ l.map Mbr.id → insM x l = l.take (lbK Mbr.id x.id l) ++ x :: l.drop (lbK Mbr.id x.id l)
  | [], _ => rfl
  | m :: l, h => by
    rw [List.map_cons, List.mem_cons, not_or] at h
    rw [insM]
    by_cases e : x.id < m.id
    · rw [if_pos e, lbK_ge_cons (show ¬ m.id < x.id by omega)]; rfl
    · rw [if_neg e, lbK_lt_cons (show m.id < x.id by have := h.1; omega), insM_lb h.2]; rfl
theorem lb_mbrs (id : Int) : ∀ L : List MbrP, lbK Mbr.id id (mbrs L) = lbK keyM id L
  | [] => rfl
  | x :: L => by
    show lbK Mbr.id id (x.m :: mbrs L) = _
    by_cases e : x.m.id < id
    · rw [lbK_lt_cons e, lbK_lt_cons (show keyM x < id from e), lb_mbrs id L]
    · rw [lbK_ge_cons e, lbK_ge_cons (show ¬ keyM x < id from e)]
/-- A new member among those that lie there. -/
theorem mbrs_ins {L : List MbrP} {y : MbrP} (h : y.m.id ∉ (mbrs L).map Mbr.id) : mbrs (L.take (lbK keyM y.m.id L) ++ y :: L.drop (lbK keyM y.m.id L)) = insM y.m (mbrs L) := by
  rw [insM_lb h, lb_mbrs]
  unfold mbrs
  rw [List.map_append, List.map_cons, List.map_take, List.map_drop]
theorem insN_lb {x : Int} : ∀ {l : List Int}, x ∉ l → insN x l = l.take (lbK (fun y : Int => y) x l) ++ x :: l.drop (lbK (fun y : Int => y) x l)
  | [], _ => rfl
  | m :: l, h => by
    rw [List.mem_cons, not_or] at h
    rw [insN]
    by_cases e : x < m
    · rw [if_pos e, lbK_ge_cons (show ¬ (fun y : Int => y) m < x by show ¬ m < x; omega)]; rfl
    · rw [if_neg e, lbK_lt_cons (show (fun y : Int => y) m < x by show m < x; have := h.1; omega), insN_lb h.2]; rfl
theorem hasN_mem {l : List Int} {x : Int} (hR : Rising (fun y : Int => y) l) : hasK (fun y : Int => y) x l = decide (x ∈ l) := by
  rw [hasK_mem hR, List.map_id']
theorem delN_lb {x : Int} : ∀ {l : List Int}, l.Pairwise (fun a b => a < b) → x ∈ l → (l.filter fun n => !decide (n = x)) = l.eraseIdx (lbK (fun y : Int => y) x l)
  | [], _, h => by cases h
  | m :: l, hp, h => by
    have hx := List.pairwise_cons.1 hp
    by_cases e : m < x
    · rw [lbK_lt_cons (show (fun y : Int => y) m < x from e), List.filter_cons_of_pos (by simp; omega), List.eraseIdx_cons_succ]
      rcases List.mem_cons.1 h with h | h
      · omega
      · rw [delN_lb hx.2 h]
    · rw [lbK_ge_cons (show ¬ (fun y : Int => y) m < x from e), List.eraseIdx_cons_zero]
      have hm : m = x := by
        rcases List.mem_cons.1 h with h | h
        · exact h.symm
        · have := hx.1 x h; omega
      rw [List.filter_cons_of_neg (by simp [hm])]
      refine List.filter_eq_self.2 fun n hn => ?_
      have := hx.1 n hn
      have : ¬ n = x := by omega
      simp [this]
end Go.Proofs.Ytplhnnlklnbahaa

/- Layer 37 (chat): find, Join, member. -/
namespace Go.Proofs.Ytplhnnlklnbahaa
open Go.Fw Go.RowKit
set_option maxHeartbeats 1000000 in
set_option maxRecDepth 100000 in
theorem find1_spec (x : MbrP) (id : Int) (w : World) : Ret Try.prog 72 [.agg (Flat.enc x).toArray, .int .i64 id].toArray w (Out w (.int .i64 (cmpI (keyM x) id))) := by
  rw [show Flat.enc x = [.int .i64 x.m.id, .slice x.A x.m.ign.length x.ca] from rfl]
  refine enterH Try.func72 rfl rfl Try.ntmps72 rfl (Wd.refl _) ?_
  (repeat' (first | (show VH _ _ _ _ _ _ _; first | refine v_seq ?_ | refine r_seq ?_ | refine v_ret ?_) | (show SH _ _ _ _ _ (_ :: _) _ _ _; first | (show SH _ _ _ _ _ (⟨_, .move _, _, _, _, _⟩ :: _) _ _ _; refine mov evL ?_) | (show SH _ _ _ _ _ (⟨_, .assign _, _, _, _, _⟩ :: _) _ _ _; refine asg evL ?_) | (show SH _ _ _ _ _ (⟨_, .load _ _, _, _, _, _⟩ :: _) _ _ _; refine lbx rfl spL (by rfl) ?_) | (show SH _ _ _ _ _ (⟨_, .call ⟨.value (.func 73), _, _⟩, _, _, _, _⟩ :: _) _ _ _; refine cl (callee := .func 73) rfl (fun w hw => compare_spec _ _ w) rfl rfl ?_) | refine fad rfl ?_ | (show SH _ _ _ _ _ (⟨_, .box _ _, _, _, _, _⟩ :: _) _ _ _; refine bxx rfl evL rfl (fun b => ?_))) | refine s_nil ?_ | refine kh_normal ?_))
  exact rh1 rfl rfl ⟨rfl, rfl⟩ (ent_nil _)
set_option maxHeartbeats 1000000 in
set_option maxRecDepth 100000 in
theorem find37_spec (t s : Int) (A : Option Addr) (L : List MbrP) (c : Nat) (B : Option Addr) (gl : List Msg) (d : Nat) (id : Int) (w : World) (hz : SzR L gl) (hr : RdR w A L B gl) (hR : Rising keyM L) :
    Ret Try.prog 42 [rv37 t s A L c B gl d, .int .i64 id].toArray w (Out w (.tuple #[.int .i64 (lbK keyM id L), .bool (hasK keyM id L)])) := by
  have hb := fun w (hr : RdR w A L B gl) => binSearchM_spec A L c id 72 #[] #[] keyM w (by have := hz.ml; omega) hr.ms hR (fun w' _ x _ => find1_spec x id w')
  unfold rv37
  refine enterH Try.func42 rfl rfl Try.ntmps42 rfl (Wd.refl _) ?_
  (repeat' (first | (show VH _ _ _ _ _ _ _; first | refine v_seq ?_ | refine r_seq ?_ | refine v_ret ?_) | (show SH _ _ _ _ _ (_ :: _) _ _ _; first | (show SH _ _ _ _ _ (⟨_, .move _, _, _, _, _⟩ :: _) _ _ _; refine mov evL ?_) | (show SH _ _ _ _ _ (⟨_, .assign _, _, _, _, _⟩ :: _) _ _ _; refine asg evL ?_) | (show SH _ _ _ _ _ (⟨_, .load _ _, _, _, _, _⟩ :: _) _ _ _; refine lbx rfl spL (by rfl) ?_) | (show SH _ _ _ _ _ (⟨_, .call ⟨.value (.func 71), _, _⟩, _, _, _, _⟩ :: _) _ _ _; refine cl (callee := .func 71) rfl (fun w hw => hb w (hr.ext hw.ext)) rfl rfl ?_) | refine extr rfl rfl ?_ | refine fad rfl ?_ | (show SH _ _ _ _ _ (⟨_, .box _ _, _, _, _, _⟩ :: _) _ _ _; refine bxx rfl evL rfl (fun b => ?_))) | refine s_nil ?_ | refine kh_normal ?_))
  exact rh2 rfl rfl rfl ⟨rfl, rfl⟩ (ent_nil _)
/-- A room of its own that comes out, and an error. -/
def OutR (r : ResR) (v : Value) (H' : List HP) : Prop := ∃ A c L B d, mbrs L = r.1.ms ∧ v = .tuple #[rv37 r.1.tick r.1.said A L c B r.1.log d, .int .i64 r.2] ∧ H' = ownR37 A c L B d r.1.log
theorem ent_ownR0 {G : List HP} : Ent G (orow 31 none 0 ([] : List MbrP) :: orow 36 none 0 ([] : List Msg) :: allH (([] : List MbrP).map rowG) :: []) := ent_nilrow (ent_nilrow (ent_all_nil (ent_nil _)))
/-- A room in its block, and its rows. -/
abbrev roomH (b : Nat) (t s : Int) (A : Option Addr) (c : Nat) (L : List MbrP) (B : Option Addr) (d : Nat) (gl : List Msg) (H : List HP) : List HP := bxR b t s A L.length c B gl.length d :: orow 31 A c L :: orow 36 B d gl :: allH (L.map rowG) :: H
theorem mbr_szR {L M : List MbrP} {gl : List Msg} (h : mbrs M = mbrs L) (hz : SzR L gl) : SzR M gl := by
  refine ⟨?_, hz.gl, fun x hx => ?_, hz.tx⟩
  · have := congrArg List.length h
    rw [mbrs_len, mbrs_len] at this
    have := hz.ml; omega
  · have hm : x.m ∈ mbrs M := List.mem_map_of_mem (f := MbrP.m) hx
    rw [h] at hm
    obtain ⟨y, hy, e⟩ := List.mem_map.1 hm
    rw [← e]; exact hz.ig y hy
/-- What a change of a room does; the piece g may change, too. -/
def ActR37 (r : ResR) (b : Nat) (Ψ : HP → Prop) (H : List HP) (v : Value) (H' : List HP) : Prop := v = .int .i64 r.2 ∧ ∃ q, Ψ q ∧ if r.2 = 0 then ∃ A c L B d, mbrs L = r.1.ms ∧ H' = roomH b r.1.tick r.1.said A c L B d r.1.log (q :: H) else H' = q :: H
def Acts37 (w0 : World) (t s : Int) (L0 : List MbrP) (gl : List Msg) (k : Nat) (g1 : FuncId) (fst cap : Array Value) (r : ResR) (q0 : HP) (Ψ : HP → Prop) : Prop :=
  ∀ w' b A c L B d H, SzR L gl → mbrs L = mbrs L0 → Wd w0 (roomH b t s A c L B d gl (q0 :: H)) w' → Ret Try.prog g1 (fst.toList ++ [Value.pointer (some ⟨b, 0, none⟩), Value.int .i64 k] ++ cap.toList).toArray w' (RP w0 (ActR37 r b Ψ H))
theorem acts37_of {w0 : World} {t s : Int} {L0 : List MbrP} {gl : List Msg} {k : Nat} {g1 : FuncId} {cap : List Value} {r : ResR} {q0 : HP} {Ψ : HP → Prop} (h : ∀ w' b A c L B d H, SzR L gl → mbrs L = mbrs L0 → Wd w0 (roomH b t s A c L B d gl (q0 :: H)) w' → Ret Try.prog g1 (Value.pointer (some ⟨b, 0, none⟩) :: Value.int .i64 k :: cap).toArray w' (RP w0 (ActR37 r b Ψ H))) : Acts37 w0 t s L0 gl k g1 #[] cap.toArray r q0 Ψ := by
  intro w' b A c L B d H hz hp hw
  have := h w' b A c L B d H hz hp hw
  simpa using this
/-- Where the change is made, if it is made. -/
def reach37 (r : Rom) (id : Int) : Option Nat := if validRm r = true then findR37 id r.ms else none
def OutQ (r : ResR) (Ψ : HP → Prop) (H : List HP) (v : Value) (H' : List HP) : Prop := ∃ A c L B d q, mbrs L = r.1.ms ∧ v = .tuple #[rv37 r.1.tick r.1.said A L c B r.1.log d, .int .i64 r.2] ∧ Ψ q ∧ H' = orow 31 A c L :: orow 36 B d r.1.log :: allH (L.map rowG) :: q :: H
theorem ent_ownQ {G : List HP} {q : HP} {H : List HP} (h : Ent G (q :: H)) : Ent G (orow 31 none 0 ([] : List MbrP) :: orow 36 none 0 ([] : List Msg) :: allH (([] : List MbrP).map rowG) :: q :: H) := ent_nilrow (ent_nilrow (ent_all_nil h))
set_option maxHeartbeats 1000000 in
set_option maxRecDepth 100000 in
theorem member_spec (t s : Int) (A : Option Addr) (L : List MbrP) (c : Nat) (B : Option Addr) (gl : List Msg) (d : Nat) (id : Int) (g1 : FuncId) (fst cap : Array Value) (f : Nat → ResR) (Ψ : Option Nat → HP → Prop) (q0 : HP) (H : List HP) (w0 w : World) (hz : SzR L gl) (hs : -9223372036854775808 ≤ s) (hr : RdR w0 A L B gl) (hΨ : Ψ none q0) (hr0 : ∀ k, (f k).2 ≠ 0 → (f k).1 = rom0)
    (hf : ∀ k, VRom (rom t s L gl) → findR37 id (mbrs L) = some k → Acts37 w0 t s L gl k g1 fst cap (f k) q0 (Ψ (some k))) (hw : Wd w0 (q0 :: H) w) :
    Ret Try.prog 37 [rv37 t s A L c B gl d, .int .i64 id, .func (.func g1) fst cap].toArray w (RP w0 (OutQ (memberR (rom t s L gl) id f) (Ψ (reach37 (rom t s L gl) id)) H)) := by
  have hv := fun w hr => valid37_spec t s A L c B gl d w hz hs hr
  unfold memberR reach37
  by_cases hval : validRm (rom t s L gl) = true
  · rw [hval] at hv
    rw [if_pos hval, if_pos hval]
    have hR : Rising keyM L := rising_mbrs (vrom_iff.1 hval).ris
    have hf' := fun k => hf k (vrom_iff.1 hval)
    have hfd := fun w hr => find37_spec t s A L c B gl d id w hz hr hR
    have ho := fun w hr => ownR_spec t s A L c B gl d w hz hr
    have hlb := find_lb (id := id) hR
    rw [show (rom t s L gl).ms = mbrs L from rfl]
    rw [hlb] at hf' ⊢
    clear hlb hval hf hR
    by_cases hh : hasK keyM id L = true
    · rw [if_pos hh] at hf' ⊢
      have hf2 := hf' _ rfl
      rw [hh] at hfd
      simp only
      have hr0 := hr0 (lbK keyM id L)
      generalize f (lbK keyM id L) = r at hf2 hr0 ⊢
      generalize Ψ (some (lbK keyM id L)) = Φ at hf2 ⊢
      clear hf' hh hΨ
      generalize lbK keyM id L = k at hf2 hfd ⊢
      unfold rv37 at hv hfd ho ⊢
      refine enterH Try.func37 rfl rfl Try.ntmps37 rfl (by assumption) ?_
      (repeat' (first | (show VH _ _ _ _ _ _ _; first | refine v_seq ?_ | refine r_seq ?_ | refine v_skip ?_ | refine v_cond_f rfl tbL ?_) | (show SH _ _ _ _ _ (_ :: _) _ _ _; first | (show SH _ _ _ _ _ (⟨_, .move _, _, _, _, _⟩ :: _) _ _ _; refine mov evL ?_) | (show SH _ _ _ _ _ (⟨_, .assign _, _, _, _, _⟩ :: _) _ _ _; refine asg evL ?_) | (show SH _ _ _ _ _ (⟨_, .load _ _, _, _, _, _⟩ :: _) _ _ _; refine lba rfl spL (by rfl) ?_) | (show SH _ _ _ _ _ (⟨_, .call ⟨.value (.func 13), _, _⟩, _, _, _, _⟩ :: _) _ _ _; refine cl (callee := .func 13) rfl (fun w hw => hv w (hr.ext hw.ext)) rfl rfl ?_) | (show SH _ _ _ _ _ (⟨_, .call ⟨.value (.func 42), _, _⟩, _, _, _, _⟩ :: _) _ _ _; refine cl (callee := .func 42) rfl (fun w hw => hfd w (hr.ext hw.ext)) rfl rfl ?_) | (show SH _ _ _ _ _ (⟨_, .call ⟨.value (.func 43), _, _⟩, _, _, _, _⟩ :: _) _ _ _; refine cp (callee := .func 43) rfl (fun w hw => ho w (hr.ext hw.ext)) rfl rfl ?_) | refine bnoT rfl ?_ | refine extr rfl rfl ?_ | refine ala rfl (fun b => ?_) | (show SH _ _ _ _ _ (⟨_, .box _ _, _, _, _, _⟩ :: _) _ _ _; refine bxx rfl evL rfl (fun b => ?_))) | refine s_nil ?_ | refine kh_normal ?_))
      rintro _ _ ⟨A1, c1, L1, B1, d1, hp1, rfl, rfl⟩
      have hz1 := mbr_szR hp1 hz
      rename_i b2
      revert b
      intro b4
      (repeat' (first | (show VH _ _ _ _ _ _ _; first | refine v_seq ?_ | refine r_seq ?_) | (show SH _ _ _ _ _ (_ :: _) _ _ _; first | (show SH _ _ _ _ _ (⟨_, .move _, _, _, _, _⟩ :: _) _ _ _; refine mov evL ?_) | (show SH _ _ _ _ _ (⟨_, .store _ _ _, _, _, _, _⟩ :: _) _ _ _; refine sta rfl rfl rfl spL (by rfl) (by rfl) (by rfl) kpL ?_)) | refine s_nil ?_ | refine kh_normal ?_))
      refine cm rfl (fun w hw => hf2 w b2 A1 c1 L1 B1 d1 (bx b4 25 [.int .i64 0, .int .i64 0, .slice none 0 0, .slice none 0 0] :: H) hz1 hp1 (Ent.wd enL hw)) rfl rfl ?_
      rintro _ _ ⟨rfl, q, hq, hH⟩
      obtain ⟨⟨rt, rs, rm, rl⟩, e⟩ := r
      simp only at hH hr0 ⊢
      by_cases he : e = 0
      · subst he
        rw [if_pos rfl] at hH
        obtain ⟨A2, c2, L2, B2, d2, hp2, rfl⟩ := hH
        refine ⟨trivial, ?_⟩
        (repeat' (first | (show VH _ _ _ _ _ _ _; first | refine v_seq ?_ | refine r_seq ?_ | refine v_ret ?_ | refine v_skip ?_ | refine v_cond_f rfl tbL ?_) | (show SH _ _ _ _ _ (_ :: _) _ _ _; first | (show SH _ _ _ _ _ (⟨_, .move _, _, _, _, _⟩ :: _) _ _ _; refine mov evL ?_) | (show SH _ _ _ _ _ (⟨_, .assign _, _, _, _, _⟩ :: _) _ _ _; refine asg evL ?_) | (show SH _ _ _ _ _ (⟨_, .binOp .neq _ _ _ _, _, _, _, _⟩ :: _) _ _ _; refine neqF rfl rfl omD ?_) | (show SH _ _ _ _ _ (⟨_, .load _ _, _, _, _, _⟩ :: _) _ _ _; refine lba rfl spL (by rfl) ?_) | (show SH _ _ _ _ _ (⟨_, .store _ _ _, _, _, _, _⟩ :: _) _ _ _; refine sta rfl rfl rfl spL (by rfl) (by rfl) (by rfl) kpL ?_)) | refine s_nil ?_ | refine kh_normal ?_))
        exact rhC2 rfl rfl rfl rfl (fun w hw => loadVar_bx hw spL (by rfl)) ⟨A2, c2, L2, B2, d2, q, hp2, rfl, hq, rfl⟩ enL
      · rw [if_neg he] at hH
        subst hH
        refine ⟨trivial, ?_⟩
        have h0 := hr0 he
        rw [h0]
        (repeat' (first | (show VH _ _ _ _ _ _ _; first | refine v_seq ?_ | refine r_seq ?_ | refine v_ret ?_ | refine v_cond_t rfl tbL ?_) | (show SH _ _ _ _ _ (_ :: _) _ _ _; first | (show SH _ _ _ _ _ (⟨_, .move _, _, _, _, _⟩ :: _) _ _ _; refine mov evL ?_) | (show SH _ _ _ _ _ (⟨_, .assign _, _, _, _, _⟩ :: _) _ _ _; refine asg evL ?_) | (show SH _ _ _ _ _ (⟨_, .binOp .neq _ _ _ _, _, _, _, _⟩ :: _) _ _ _; refine neqT rfl rfl omD ?_) | refine bld rfl rfl ?_ | (show SH _ _ _ _ _ (⟨_, .store _ _ _, _, _, _, _⟩ :: _) _ _ _; refine sta rfl rfl rfl spL (by rfl) (by rfl) (by rfl) kpL ?_)) | refine s_nil ?_ | refine kh_normal ?_ | refine kh_ret ?_))
        exact rhC2 rfl rfl rfl rfl (fun w hw => loadVar_bx hw spL (by rfl)) ⟨none, 0, [], none, 0, q, rfl, rfl, hq, rfl⟩ (ent_ownQ enL)
    · rw [if_neg hh]
      rw [Bool.not_eq_true] at hh
      rw [hh] at hfd
      simp only
      generalize Ψ none = Φ at hΨ ⊢
      clear hf' hh
      unfold rv37 at hv hfd ho ⊢
      refine enterH Try.func37 rfl rfl Try.ntmps37 rfl (by assumption) ?_
      (repeat' (first | (show VH _ _ _ _ _ _ _; first | refine v_seq ?_ | refine r_seq ?_ | refine v_ret ?_ | refine v_skip ?_ | refine v_cond_t rfl tbL ?_ | refine v_cond_f rfl tbL ?_) | (show SH _ _ _ _ _ (_ :: _) _ _ _; first | (show SH _ _ _ _ _ (⟨_, .move _, _, _, _, _⟩ :: _) _ _ _; refine mov evL ?_) | (show SH _ _ _ _ _ (⟨_, .assign _, _, _, _, _⟩ :: _) _ _ _; refine asg evL ?_) | (show SH _ _ _ _ _ (⟨_, .load _ _, _, _, _, _⟩ :: _) _ _ _; refine lba rfl spL (by rfl) ?_) | (show SH _ _ _ _ _ (⟨_, .call ⟨.value (.func 13), _, _⟩, _, _, _, _⟩ :: _) _ _ _; refine cl (callee := .func 13) rfl (fun w hw => hv w (hr.ext hw.ext)) rfl rfl ?_) | (show SH _ _ _ _ _ (⟨_, .call ⟨.value (.func 42), _, _⟩, _, _, _, _⟩ :: _) _ _ _; refine cl (callee := .func 42) rfl (fun w hw => hfd w (hr.ext hw.ext)) rfl rfl ?_) | (show SH _ _ _ _ _ (⟨_, .unOp .not _ _, _, _, _, _⟩ :: _) _ _ _; first | refine bnoT rfl ?_ | refine bnoF rfl ?_) | refine extr rfl rfl ?_ | refine bld rfl rfl ?_ | refine ala rfl (fun b => ?_) | (show SH _ _ _ _ _ (⟨_, .box _ _, _, _, _, _⟩ :: _) _ _ _; refine bxx rfl evL rfl (fun b => ?_)) | (show SH _ _ _ _ _ (⟨_, .store _ _ _, _, _, _, _⟩ :: _) _ _ _; refine sta rfl rfl rfl spL (by rfl) (by rfl) (by rfl) kpL ?_)) | refine s_nil ?_ | refine kh_normal ?_ | refine kh_ret ?_))
      exact rhC2 rfl rfl rfl rfl (fun w hw => loadVar_bx hw spL (by rfl)) ⟨none, 0, [], none, 0, q0, rfl, rfl, hΨ, rfl⟩ (ent_ownQ enL)
  · rw [Bool.not_eq_true] at hval
    rw [hval] at hv
    rw [if_neg (by rw [hval]; simp), if_neg (by rw [hval]; simp)]
    generalize Ψ none = Φ at hΨ ⊢
    clear hf hval
    unfold rv37 at hv ⊢
    refine enterH Try.func37 rfl rfl Try.ntmps37 rfl (by assumption) ?_
    (repeat' (first | (show VH _ _ _ _ _ _ _; first | refine v_seq ?_ | refine r_seq ?_ | refine v_ret ?_ | refine v_cond_t rfl tbL ?_) | (show SH _ _ _ _ _ (_ :: _) _ _ _; first | (show SH _ _ _ _ _ (⟨_, .assign _, _, _, _, _⟩ :: _) _ _ _; refine asg evL ?_) | (show SH _ _ _ _ _ (⟨_, .load _ _, _, _, _, _⟩ :: _) _ _ _; refine lba rfl spL (by rfl) ?_) | (show SH _ _ _ _ _ (⟨_, .call ⟨.value (.func 13), _, _⟩, _, _, _, _⟩ :: _) _ _ _; refine cl (callee := .func 13) rfl (fun w hw => hv w (hr.ext hw.ext)) rfl rfl ?_) | refine bnoF rfl ?_ | refine bld rfl rfl ?_ | refine ala rfl (fun b => ?_) | (show SH _ _ _ _ _ (⟨_, .box _ _, _, _, _, _⟩ :: _) _ _ _; refine bxx rfl evL rfl (fun b => ?_)) | (show SH _ _ _ _ _ (⟨_, .store _ _ _, _, _, _, _⟩ :: _) _ _ _; refine sta rfl rfl rfl spL (by rfl) (by rfl) (by rfl) kpL ?_)) | refine s_nil ?_ | refine kh_normal ?_ | refine kh_ret ?_))
    exact rhC2 rfl rfl rfl rfl (fun w hw => loadVar_bx hw spL (by rfl)) ⟨none, 0, [], none, 0, q0, rfl, rfl, hΨ, rfl⟩ (ent_ownQ enL)
/-- A change that changes nothing but the room. -/
theorem memberP_spec (t s : Int) (A : Option Addr) (L : List MbrP) (c : Nat) (B : Option Addr) (gl : List Msg) (d : Nat) (id : Int) (g1 : FuncId) (fst cap : Array Value) (f : Nat → ResR) (w : World) (hz : SzR L gl) (hs : -9223372036854775808 ≤ s) (hr : RdR w A L B gl) (hr0 : ∀ k, (f k).2 ≠ 0 → (f k).1 = rom0)
    (hf : ∀ k, VRom (rom t s L gl) → findR37 id (mbrs L) = some k → Acts37 w t s L gl k g1 fst cap (f k) (allH []) (· = allH [])) :
    Ret Try.prog 37 [rv37 t s A L c B gl d, .int .i64 id, .func (.func g1) fst cap].toArray w (RP w (OutR (memberR (rom t s L gl) id f))) :=
  (member_spec t s A L c B gl d id g1 fst cap f (fun _ q => q = allH []) (allH []) [] w w hz hs hr rfl hr0 hf (Ent.wd (ent_all_nil (ent_nil _)) (Wd.refl w))).mono fun v w' ⟨H', ⟨A1, c1, L1, B1, d1, q, hp, hv, hq, hH⟩, hw⟩ => ⟨_, ⟨A1, c1, L1, B1, d1, hp, hv, rfl⟩, Ent.wd (hH ▸ enL) hw⟩
theorem ent_mid (a : HP) : ∀ X Y : List HP, Ent (a :: (X ++ Y)) (X ++ a :: Y)
  | [], _ => ent_refl _
  | x :: X, Y => (ent_cons (Split.tail Split.head) (ent_mid a X Y) : Ent (a :: x :: (X ++ Y)) (x :: (X ++ a :: Y)))
theorem ent_all_ins {ι : Type} {f : ι → HP} {y : ι} {L : List ι} {k : Nat} {G : List HP} : Ent (f y :: allH (L.map f) :: G) (allH ((L.take k ++ y :: L.drop k).map f) :: G) := by
  refine ent_all_cons.trans (ent_all_imp ?_)
  have h : L.map f = (L.take k).map f ++ (L.drop k).map f := by rw [← List.map_append, List.take_append_drop]
  rw [List.map_append, List.map_cons, h]
  exact ent_mid _ _ _
set_option maxHeartbeats 1000000 in
set_option maxRecDepth 100000 in
theorem join37_spec (t s : Int) (A : Option Addr) (L : List MbrP) (c : Nat) (B : Option Addr) (gl : List Msg) (d : Nat) (id : Int) (w : World) (hz : SzR L gl) (hs : -9223372036854775808 ≤ s) (hr : RdR w A L B gl) :
    Ret Try.prog 18 [rv37 t s A L c B gl d, .int .i64 id].toArray w (RP w (OutR (joinR (rom t s L gl) id))) := by
  have hv := fun w hr => valid37_spec t s A L c B gl d w hz hs hr
  have hi := fun w => isID37_spec id w
  unfold joinR
  by_cases hval : validRm (rom t s L gl) = true
  · rw [hval] at hv
    have hR : Rising keyM L := rising_mbrs (vrom_iff.1 hval).ris
    have hfd := fun w hr => find37_spec t s A L c B gl d id w hz hr hR
    have ho := fun w hr => ownR_spec t s A L c B gl d w hz hr
    have hlb := find_lb (id := id) hR
    by_cases hid : id37 id = true
    · rw [hid] at hi
      rw [if_pos ⟨hval, hid⟩]
      rw [show (rom t s L gl).ms = mbrs L from rfl]
      have hnone := (findR37_none (id := id) (l := mbrs L)).1
      rw [hlb] at hnone ⊢
      clear hlb hval
      by_cases hh : hasK keyM id L = true
      · rw [hh] at hfd
        rw [if_pos hh]
        simp only
        clear hR hnone hh
        unfold rv37 at hv hfd ho ⊢
        refine enterH Try.func18 rfl rfl Try.ntmps18 rfl (Wd.refl _) ?_
        (repeat' (first | (show VH _ _ _ _ _ _ _; first | refine v_seq ?_ | refine r_seq ?_ | refine v_block ?_ | refine v_ret ?_ | refine v_skip ?_ | refine v_cond_t rfl tbL ?_ | refine v_cond_f rfl tbL ?_) | (show SH _ _ _ _ _ (_ :: _) _ _ _; first | (show SH _ _ _ _ _ (⟨_, _, _, _, _, some _⟩ :: _) _ _ _; (refine gif rfl rfl ?_; refine giFF tbL ?_)) | (show SH _ _ _ _ _ (⟨_, .move _, _, _, _, _⟩ :: _) _ _ _; refine mov evL ?_) | (show SH _ _ _ _ _ (⟨_, .assign _, _, _, _, _⟩ :: _) _ _ _; refine asg evL ?_) | (show SH _ _ _ _ _ (⟨_, .load _ _, _, _, _, _⟩ :: _) _ _ _; refine lba rfl spL (by rfl) ?_) | (show SH _ _ _ _ _ (⟨_, .call ⟨.value (.func 13), _, _⟩, _, _, _, _⟩ :: _) _ _ _; refine cl (callee := .func 13) rfl (fun w hw => hv w (hr.ext hw.ext)) rfl rfl ?_) | (show SH _ _ _ _ _ (⟨_, .call ⟨.value (.func 35), _, _⟩, _, _, _, _⟩ :: _) _ _ _; refine cl (callee := .func 35) rfl (fun w hw => hi w) rfl rfl ?_) | (show SH _ _ _ _ _ (⟨_, .call ⟨.value (.func 42), _, _⟩, _, _, _, _⟩ :: _) _ _ _; refine cl (callee := .func 42) rfl (fun w hw => hfd w (hr.ext hw.ext)) rfl rfl ?_) | refine bnoT rfl ?_ | (show SH _ _ _ _ _ (⟨_, .pick _ _ _, _, _, _, _⟩ :: _) _ _ _; refine pkf rfl tbL evL ?_) | refine extr rfl rfl ?_ | refine bld rfl rfl ?_ | refine ala rfl (fun b => ?_) | (show SH _ _ _ _ _ (⟨_, .box _ _, _, _, _, _⟩ :: _) _ _ _; refine bxx rfl evL rfl (fun b => ?_)) | (show SH _ _ _ _ _ (⟨_, .store _ _ _, _, _, _, _⟩ :: _) _ _ _; refine sta rfl rfl rfl spL (by rfl) (by rfl) (by rfl) kpL ?_)) | refine s_nil ?_ | refine kh_normal ?_ | refine kh_ret ?_ | refine bh_ret ?_))
        exact rhC2 rfl rfl rfl rfl (fun w hw => loadVar_bx hw spL (by rfl)) ⟨none, 0, [], none, 0, rfl, rfl, rfl⟩ ent_ownR0
      · rw [if_neg hh] at hnone ⊢
        rw [Bool.not_eq_true] at hh
        rw [hh] at hfd
        have hnot := hnone rfl
        clear hR hnone hh
        simp only
        rw [mbrs_len]
        by_cases hlen : L.length < 32
        · rw [if_pos hlen]
          have hkl := lbK_le (key := keyM) (k := id) L
          unfold rv37 at hv hfd ho ⊢
          refine enterH Try.func18 rfl rfl Try.ntmps18 rfl (Wd.refl _) ?_
          (repeat' (first | (show VH _ _ _ _ _ _ _; first | refine v_seq ?_ | refine r_seq ?_ | refine v_block ?_ | refine v_skip ?_ | refine v_cond_f rfl tbL ?_) | (show SH _ _ _ _ _ (_ :: _) _ _ _; first | (show SH _ _ _ _ _ (⟨_, _, _, _, _, some _⟩ :: _) _ _ _; (refine gif rfl rfl ?_; refine giFF tbL ?_)) | (show SH _ _ _ _ _ (⟨_, .move _, _, _, _, _⟩ :: _) _ _ _; refine mov evL ?_) | (show SH _ _ _ _ _ (⟨_, .assign _, _, _, _, _⟩ :: _) _ _ _; refine asg evL ?_) | (show SH _ _ _ _ _ (⟨_, .binOp .geq _ _ _ _, _, _, _, _⟩ :: _) _ _ _; refine geqF rfl rfl omD ?_) | (show SH _ _ _ _ _ (⟨_, .load _ _, _, _, _, _⟩ :: _) _ _ _; first | refine lbx rfl spL (by rfl) ?_ | refine lba rfl spL (by rfl) ?_) | refine slen rfl ?_ | (show SH _ _ _ _ _ (⟨_, .call ⟨.value (.func 13), _, _⟩, _, _, _, _⟩ :: _) _ _ _; refine cl (callee := .func 13) rfl (fun w hw => hv w (hr.ext hw.ext)) rfl rfl ?_) | (show SH _ _ _ _ _ (⟨_, .call ⟨.value (.func 35), _, _⟩, _, _, _, _⟩ :: _) _ _ _; refine cl (callee := .func 35) rfl (fun w hw => hi w) rfl rfl ?_) | (show SH _ _ _ _ _ (⟨_, .call ⟨.value (.func 42), _, _⟩, _, _, _, _⟩ :: _) _ _ _; refine cl (callee := .func 42) rfl (fun w hw => hfd w (hr.ext hw.ext)) rfl rfl ?_) | (show SH _ _ _ _ _ (⟨_, .call ⟨.value (.func 43), _, _⟩, _, _, _, _⟩ :: _) _ _ _; refine cp (callee := .func 43) rfl (fun w hw => ho w (hr.ext hw.ext)) rfl rfl ?_) | refine bnoT rfl ?_ | (show SH _ _ _ _ _ (⟨_, .pick _ _ _, _, _, _, _⟩ :: _) _ _ _; refine pkf rfl tbL evL ?_) | refine extr rfl rfl ?_ | refine fad rfl ?_ | refine ala rfl (fun b => ?_) | (show SH _ _ _ _ _ (⟨_, .box _ _, _, _, _, _⟩ :: _) _ _ _; refine bxx rfl evL rfl (fun b => ?_))) | refine s_nil ?_ | refine kh_normal ?_ | refine bh_normal ?_))
          rintro _ _ ⟨A1, c1, L1, B1, d1, hp1, rfl, rfl⟩
          have hl1 : L1.length = L.length := by
            have := congrArg List.length hp1
            rwa [mbrs_len, mbrs_len] at this
          have hb1 : lbK keyM id L = lbK keyM id L1 := by rw [← lb_mbrs, ← lb_mbrs, hp1]
          rw [← hp1] at hnot
          have hins := mbrs_ins (L := L1) (y := ⟨⟨id, []⟩, none, 0⟩) hnot
          simp only at hins
          rw [hb1] at hkl ⊢
          rw [← hl1] at hkl
          rw [show ({ tick := (rom t s L gl).tick, said := (rom t s L gl).said, ms := insM ⟨id, []⟩ (mbrs L), log := (rom t s L gl).log } : Rom) = ⟨t, s, insM ⟨id, []⟩ (mbrs L1), gl⟩ by rw [hp1]; rfl]
          clear hfd ho hv hi hnot hp1 hb1
          generalize lbK keyM id L1 = k at hkl hins ⊢
          rename_i b2
          revert b
          intro b4
          (repeat' (first | (show VH _ _ _ _ _ _ _; first | refine v_seq ?_ | refine r_seq ?_) | (show SH _ _ _ _ _ (_ :: _) _ _ _; first | (show SH _ _ _ _ _ (⟨_, .move _, _, _, _, _⟩ :: _) _ _ _; refine mov evL ?_) | (show SH _ _ _ _ _ (⟨_, .load _ _, _, _, _, _⟩ :: _) _ _ _; refine lbx rfl spL (by rfl) ?_) | refine fad rfl ?_ | refine bld rfl rfl ?_ | (show SH _ _ _ _ _ (⟨_, .store _ _ _, _, _, _, _⟩ :: _) _ _ _; refine sta rfl rfl rfl spL (by rfl) (by rfl) (by rfl) kpL ?_)) | refine s_nil ?_ | refine kh_normal ?_))
          refine bsl (l := [(⟨⟨id, []⟩, none, 0⟩ : MbrP)]) rfl rfl (Vals.cons rfl Vals.nil) rfl rfl (by decide) (fun bv => ?_)
          (repeat' (first | (show VH _ _ _ _ _ _ _; first | refine v_seq ?_ | refine r_seq ?_ | refine r_quiet hmix (by kernel_rfl) ?_ | refine v_block ?_ | refine v_ret ?_ | refine v_skip ?_ | refine v_exit ?_ | refine v_label ?_ | refine v_cond_t rfl tbL ?_ | refine v_cond_f rfl tbL ?_ | refine v_cond_dec rfl (fun h => ?_) (fun h => ?_) | refine v_cond_ndec rfl (fun h => ?_) (fun h => ?_) | refine v_cond rfl (fun h => ?_) (fun h => ?_)) | (show SH _ _ _ _ _ (_ :: _) _ _ _; first | (show SH _ _ _ _ _ (⟨_, _, _, _, _, some _⟩ :: _) _ _ _; first | (refine gif rfl rfl ?_; first | refine giTT tbL ?_ | refine giTF tbL ?_ | refine giFF tbL ?_ | refine giFT tbL ?_ | refine giTd (fun h => ?_) (fun h => ?_) | refine giFd (fun h => ?_) (fun h => ?_) | refine giT (fun h => ?_) (fun h => ?_) | refine giF (fun h => ?_) (fun h => ?_)) | refine gu rfl rfl ?_ | refine grT rfl rfl tbL ?_ | refine grF rfl rfl tbL ?_) | (show SH _ _ _ _ _ (⟨_, .move _, _, _, _, _⟩ :: _) _ _ _; refine mov evL ?_) | (show SH _ _ _ _ _ (⟨_, .assign _, _, _, _, _⟩ :: _) _ _ _; refine asg evL ?_) | (show SH _ _ _ _ _ (⟨_, .binOp .geq _ _ _ _, _, _, _, _⟩ :: _) _ _ _; first | refine geqT rfl rfl omD ?_ | refine geqF rfl rfl omD ?_ | refine geq rfl rfl ?_) | (show SH _ _ _ _ _ (⟨_, .load _ _, _, _, _, _⟩ :: _) _ _ _; first | refine lbx rfl spL (by rfl) ?_ | refine lba rfl spL (by rfl) ?_ | refine lbs rfl spL (by rfl) (by rfl) ?_ | refine lgi rfl (fun _ _ => rdS) omL (by assumption) ?_ | refine lag rfl (fun _ _ => rdS) (by rfl) omL (by assumption) ?_ | refine lrg rfl (fun _ _ => rdS) (by rfl) omL (by assumption) (by rfl) ?_ | refine lin rfl (fun _ _ => rdS) omL ?_ | refine lbi rfl spL omL ?_ | refine lr1 rfl (fun _ _ => rdS) (by rfl) omL (by rfl) ?_ | refine lra rfl (fun _ _ => rdS) (by rfl) omL ?_ | refine lrf rfl (fun _ _ => rdS) (by rfl) omL (by rfl) ?_ | refine lcell rfl (fun w hw => hw.ext.cell (by assumption)) ?_ | refine lrs rfl (fun _ _ => rdS) (by rfl) omL (by rfl) (by rfl) ?_ | refine lca rfl (fun _ _ => rdS) (by rfl) ?_ | refine lcs rfl (fun _ _ => rdS) (by rfl) ?_ | refine lcf rfl (fun _ _ => rdS) (by rfl) ?_ | refine lrf rfl (fun _ _ => rdS) (by rfl) (by simp only [List.length_cons, List.length_nil]; omega) (by rfl) ?_ | refine lra rfl (fun _ _ => rdS) (by rfl) (by simp only [List.length_cons, List.length_nil]; omega) ?_) | (show SH _ _ _ _ _ (⟨_, .call ⟨.builtin _, _, _⟩, _, _, _, _⟩ :: _) _ _ _; first | refine slen rfl ?_ | refine sln rfl ?_) | (show SH _ _ _ _ _ (⟨_, .unOp .not _ _, _, _, _, _⟩ :: _) _ _ _; first | refine bnoT rfl ?_ | refine bnoF rfl ?_ | refine bnot rfl ?_) | (show SH _ _ _ _ _ (⟨_, .pick _ _ _, _, _, _, _⟩ :: _) _ _ _; first | refine pkt rfl tbL evL ?_ | refine pkf rfl tbL evL ?_) | refine extr rfl rfl ?_ | refine fad rfl ?_ | (show SH _ _ _ _ _ (⟨_, .build _ _, _, _, _, _⟩ :: _) _ _ _; first | refine bld rfl rfl ?_ | refine bldZ ?_ | refine bldZN ?_) | (show SH _ _ _ _ _ (⟨_, .alloc _, _, _, _, _⟩ :: _) _ _ _; first | refine al1 rfl (fun b => ?_) | refine ala rfl (fun b => ?_)) | (show SH _ _ _ _ _ (⟨_, .box _ _, _, _, _, _⟩ :: _) _ _ _; refine bxx rfl evL rfl (fun b => ?_)) | (show SH _ _ _ _ _ (⟨_, .store _ _ _, _, _, _, _⟩ :: _) _ _ _; first | refine stb rfl rfl evL spL rfl rfl (by first | decide | exact Nat.zero_lt_succ _ | exact of_decide_eq_true rfl) kpL ?_ | refine sta rfl rfl rfl spL (by rfl) (by rfl) (by rfl) kpL ?_ | refine sti rfl rfl rfl spL omL kpL ?_ | refine sbi rfl rfl rfl spL omL kpL ?_ | refine sbs rfl rfl evL spL (by rfl) (by rfl) (of_decide_eq_true rfl) kpL ?_) | (show SH _ _ _ _ _ (⟨_, .buildSlice _ _ _, _, _, _, _⟩ :: _) _ _ _; refine bsl (α := Int) rfl rfl (by repeat (first | exact Vals.nil | (apply Vals.cons; rfl))) rfl (by rfl) (by decide) (fun b => ?_))) | refine s_nil ?_ | refine s_fork ?_ ?_ | refine s_fork3 ?_ ?_ ?_ | refine s_fork4 ?_ ?_ ?_ ?_ | refine kh_normal ?_ | refine kh_ret ?_ | refine kh_exit ?_ | refine bh_normal ?_ | refine bh_ret ?_ | refine bh_exit ?_ | refine bh_exit_ne rfl ?_))
          refine cm rfl (fun w2 hw2 => insertM_spec A1 L1 c1 k bv ⟨⟨id, []⟩, none, 0⟩ w _ w2 hkl (by omega) (Ent.wd enL hw2)) rfl rfl ?_
          rintro _ _ ⟨A2, c2, rfl, rfl⟩
          refine ⟨trivial, ?_⟩
          generalize hM : L1.take k ++ (⟨⟨id, []⟩, none, 0⟩ : MbrP) :: L1.drop k = M at hins ⊢
          (repeat' (first | (show VH _ _ _ _ _ _ _; first | refine v_seq ?_ | refine r_seq ?_ | refine v_ret ?_) | (show SH _ _ _ _ _ (_ :: _) _ _ _; first | (show SH _ _ _ _ _ (⟨_, .assign _, _, _, _, _⟩ :: _) _ _ _; refine asg evL ?_) | (show SH _ _ _ _ _ (⟨_, .load _ _, _, _, _, _⟩ :: _) _ _ _; refine lba rfl spL (by rfl) ?_) | refine fad rfl ?_ | (show SH _ _ _ _ _ (⟨_, .store _ _ _, _, _, _, _⟩ :: _) _ _ _; first | refine stb rfl rfl evL spL rfl rfl (by first | decide | exact Nat.zero_lt_succ _ | exact of_decide_eq_true rfl) kpL ?_ | refine sta rfl rfl rfl spL (by rfl) (by rfl) (by rfl) kpL ?_)) | refine s_nil ?_ | refine kh_normal ?_))
          refine rhC2 rfl rfl rfl rfl (fun w hw => loadVar_bx hw spL (by rfl)) ⟨A2, c2, M, B1, d1, hins, rfl, rfl⟩ ?_
          rw [← hM]
          exact Ent.trans (B := rowG ⟨⟨id, []⟩, none, 0⟩ :: allH (L1.map rowG) :: orow 31 A2 c2 (L1.take k ++ (⟨⟨id, []⟩, none, 0⟩ : MbrP) :: L1.drop k) :: orow 36 B1 d1 gl :: []) (ent_nilrow enL) (ent_all_ins.trans enL)
        · rw [if_neg hlen]
          unfold rv37 at hv hfd ho ⊢
          refine enterH Try.func18 rfl rfl Try.ntmps18 rfl (Wd.refl _) ?_
          (repeat' (first | (show VH _ _ _ _ _ _ _; first | refine v_seq ?_ | refine r_seq ?_ | refine v_block ?_ | refine v_ret ?_ | refine v_skip ?_ | refine v_cond_t rfl tbL ?_ | refine v_cond_f rfl tbL ?_) | (show SH _ _ _ _ _ (_ :: _) _ _ _; first | (show SH _ _ _ _ _ (⟨_, _, _, _, _, some _⟩ :: _) _ _ _; (refine gif rfl rfl ?_; refine giFF tbL ?_)) | (show SH _ _ _ _ _ (⟨_, .move _, _, _, _, _⟩ :: _) _ _ _; refine mov evL ?_) | (show SH _ _ _ _ _ (⟨_, .assign _, _, _, _, _⟩ :: _) _ _ _; refine asg evL ?_) | (show SH _ _ _ _ _ (⟨_, .binOp .geq _ _ _ _, _, _, _, _⟩ :: _) _ _ _; refine geqT rfl rfl omD ?_) | (show SH _ _ _ _ _ (⟨_, .load _ _, _, _, _, _⟩ :: _) _ _ _; first | refine lbx rfl spL (by rfl) ?_ | refine lba rfl spL (by rfl) ?_) | refine slen rfl ?_ | (show SH _ _ _ _ _ (⟨_, .call ⟨.value (.func 13), _, _⟩, _, _, _, _⟩ :: _) _ _ _; refine cl (callee := .func 13) rfl (fun w hw => hv w (hr.ext hw.ext)) rfl rfl ?_) | (show SH _ _ _ _ _ (⟨_, .call ⟨.value (.func 35), _, _⟩, _, _, _, _⟩ :: _) _ _ _; refine cl (callee := .func 35) rfl (fun w hw => hi w) rfl rfl ?_) | (show SH _ _ _ _ _ (⟨_, .call ⟨.value (.func 42), _, _⟩, _, _, _, _⟩ :: _) _ _ _; refine cl (callee := .func 42) rfl (fun w hw => hfd w (hr.ext hw.ext)) rfl rfl ?_) | refine bnoT rfl ?_ | (show SH _ _ _ _ _ (⟨_, .pick _ _ _, _, _, _, _⟩ :: _) _ _ _; refine pkf rfl tbL evL ?_) | refine extr rfl rfl ?_ | refine fad rfl ?_ | refine bld rfl rfl ?_ | refine ala rfl (fun b => ?_) | (show SH _ _ _ _ _ (⟨_, .box _ _, _, _, _, _⟩ :: _) _ _ _; refine bxx rfl evL rfl (fun b => ?_)) | (show SH _ _ _ _ _ (⟨_, .store _ _ _, _, _, _, _⟩ :: _) _ _ _; refine sta rfl rfl rfl spL (by rfl) (by rfl) (by rfl) kpL ?_)) | refine s_nil ?_ | refine kh_normal ?_ | refine kh_ret ?_ | refine bh_ret ?_))
          exact rhC2 rfl rfl rfl rfl (fun w hw => loadVar_bx hw spL (by rfl)) ⟨none, 0, [], none, 0, rfl, rfl, rfl⟩ ent_ownR0
    · rw [Bool.not_eq_true] at hid
      rw [hid] at hi
      rw [if_neg (by rw [hid]; simp)]
      clear hlb hval
      unfold rv37 at hv ⊢
      refine enterH Try.func18 rfl rfl Try.ntmps18 rfl (Wd.refl _) ?_
      (repeat' (first | (show VH _ _ _ _ _ _ _; first | refine v_seq ?_ | refine r_seq ?_ | refine v_ret ?_ | refine v_cond_t rfl tbL ?_) | (show SH _ _ _ _ _ (_ :: _) _ _ _; first | (show SH _ _ _ _ _ (⟨_, _, _, _, _, some _⟩ :: _) _ _ _; (refine gif rfl rfl ?_; refine giFF tbL ?_)) | (show SH _ _ _ _ _ (⟨_, .move _, _, _, _, _⟩ :: _) _ _ _; refine mov evL ?_) | (show SH _ _ _ _ _ (⟨_, .assign _, _, _, _, _⟩ :: _) _ _ _; refine asg evL ?_) | (show SH _ _ _ _ _ (⟨_, .load _ _, _, _, _, _⟩ :: _) _ _ _; refine lba rfl spL (by rfl) ?_) | (show SH _ _ _ _ _ (⟨_, .call ⟨.value (.func 13), _, _⟩, _, _, _, _⟩ :: _) _ _ _; refine cl (callee := .func 13) rfl (fun w hw => hv w (hr.ext hw.ext)) rfl rfl ?_) | (show SH _ _ _ _ _ (⟨_, .call ⟨.value (.func 35), _, _⟩, _, _, _, _⟩ :: _) _ _ _; refine cl (callee := .func 35) rfl (fun w hw => hi w) rfl rfl ?_) | (show SH _ _ _ _ _ (⟨_, .unOp .not _ _, _, _, _, _⟩ :: _) _ _ _; first | refine bnoT rfl ?_ | refine bnoF rfl ?_) | (show SH _ _ _ _ _ (⟨_, .pick _ _ _, _, _, _, _⟩ :: _) _ _ _; refine pkf rfl tbL evL ?_) | refine bld rfl rfl ?_ | refine ala rfl (fun b => ?_) | (show SH _ _ _ _ _ (⟨_, .box _ _, _, _, _, _⟩ :: _) _ _ _; refine bxx rfl evL rfl (fun b => ?_)) | (show SH _ _ _ _ _ (⟨_, .store _ _ _, _, _, _, _⟩ :: _) _ _ _; refine sta rfl rfl rfl spL (by rfl) (by rfl) (by rfl) kpL ?_)) | refine s_nil ?_ | refine kh_normal ?_ | refine kh_ret ?_))
      exact rhC2 rfl rfl rfl rfl (fun w hw => loadVar_bx hw spL (by rfl)) ⟨none, 0, [], none, 0, rfl, rfl, rfl⟩ ent_ownR0
  · rw [Bool.not_eq_true] at hval
    rw [hval] at hv
    rw [if_neg (by rw [hval]; simp)]
    clear hval
    unfold rv37 at hv ⊢
    refine enterH Try.func18 rfl rfl Try.ntmps18 rfl (Wd.refl _) ?_
    (repeat' (first | (show VH _ _ _ _ _ _ _; first | refine v_seq ?_ | refine r_seq ?_ | refine v_ret ?_ | refine v_cond_t rfl tbL ?_) | (show SH _ _ _ _ _ (_ :: _) _ _ _; first | (show SH _ _ _ _ _ (⟨_, _, _, _, _, some _⟩ :: _) _ _ _; (refine gif rfl rfl ?_; refine giFT tbL ?_)) | (show SH _ _ _ _ _ (⟨_, .move _, _, _, _, _⟩ :: _) _ _ _; refine mov evL ?_) | (show SH _ _ _ _ _ (⟨_, .assign _, _, _, _, _⟩ :: _) _ _ _; refine asg evL ?_) | (show SH _ _ _ _ _ (⟨_, .load _ _, _, _, _, _⟩ :: _) _ _ _; refine lba rfl spL (by rfl) ?_) | (show SH _ _ _ _ _ (⟨_, .call ⟨.value (.func 13), _, _⟩, _, _, _, _⟩ :: _) _ _ _; refine cl (callee := .func 13) rfl (fun w hw => hv w (hr.ext hw.ext)) rfl rfl ?_) | refine bnoF rfl ?_ | (show SH _ _ _ _ _ (⟨_, .pick _ _ _, _, _, _, _⟩ :: _) _ _ _; refine pkt rfl tbL evL ?_) | refine bld rfl rfl ?_ | refine ala rfl (fun b => ?_) | (show SH _ _ _ _ _ (⟨_, .box _ _, _, _, _, _⟩ :: _) _ _ _; refine bxx rfl evL rfl (fun b => ?_)) | (show SH _ _ _ _ _ (⟨_, .store _ _ _, _, _, _, _⟩ :: _) _ _ _; refine sta rfl rfl rfl spL (by rfl) (by rfl) (by rfl) kpL ?_)) | refine s_nil ?_ | refine kh_normal ?_ | refine kh_ret ?_))
    exact rhC2 rfl rfl rfl rfl (fun w hw => loadVar_bx hw spL (by rfl)) ⟨none, 0, [], none, 0, rfl, rfl, rfl⟩ ent_ownR0
end Go.Proofs.Ytplhnnlklnbahaa

/- Layer 37 (chat): Leave, Ignore. -/
namespace Go.Proofs.Ytplhnnlklnbahaa
open Go.Fw Go.RowKit
theorem mbrs_lt {L L0 : List MbrP} {k : Nat} (h : mbrs L = mbrs L0) (hk : k < L0.length) : k < L.length := by
  have := congrArg List.length h
  rw [mbrs_len, mbrs_len] at this; omega
set_option maxHeartbeats 1000000 in
set_option maxRecDepth 100000 in
theorem leave1_spec (t s : Int) (L0 : List MbrP) (gl : List Msg) (k : Nat) (w0 : World) (hk0 : k < L0.length) : Acts37 w0 t s L0 gl k 40 #[] #[] ({ rom t s L0 gl with ms := (mbrs L0).eraseIdx k }, 0) (allH []) (· = allH []) := by
  refine acts37_of (cap := []) fun w' b A c L B d H hz hp hw => ?_
  have hk := mbrs_lt hp hk0
  have hml := hz.ml
  rw [← hp, ← mbrs_erase]
  refine enterH Try.func40 rfl rfl Try.ntmps40 rfl (by assumption) ?_
  (repeat' (first | (show VH _ _ _ _ _ _ _; first | refine v_seq ?_ | refine r_seq ?_) | (show SH _ _ _ _ _ (_ :: _) _ _ _; first | (show SH _ _ _ _ _ (⟨_, .move _, _, _, _, _⟩ :: _) _ _ _; refine mov evL ?_) | (show SH _ _ _ _ _ (⟨_, .assign _, _, _, _, _⟩ :: _) _ _ _; refine asg evL ?_) | (show SH _ _ _ _ _ (⟨_, .binOp .add _ _ _ _, _, _, _, _⟩ :: _) _ _ _; refine add rfl rfl inL ?_) | (show SH _ _ _ _ _ (⟨_, .load _ _, _, _, _, _⟩ :: _) _ _ _; refine lbx rfl spL (by rfl) ?_) | refine nlc rfl ?_ | refine fad rfl ?_) | refine s_nil ?_ | refine kh_normal ?_))
  refine cm rfl (fun w2 hw2 => deleteM_spec A L c k w0 (bxR b t s A L.length c B gl.length d :: orow 36 B d gl :: allH (L.map rowG) :: allH [] :: H) w2 hk hml (Ent.wd enL hw2)) rfl rfl ?_
  rintro _ _ ⟨rfl, rfl⟩
  refine ⟨trivial, ?_⟩
  (repeat' (first | (show VH _ _ _ _ _ _ _; first | refine v_seq ?_ | refine r_seq ?_ | refine v_ret ?_) | (show SH _ _ _ _ _ (_ :: _) _ _ _; first | (show SH _ _ _ _ _ (⟨_, .assign _, _, _, _, _⟩ :: _) _ _ _; refine asg evL ?_) | refine nlc rfl ?_ | refine fad rfl ?_ | (show SH _ _ _ _ _ (⟨_, .store _ _ _, _, _, _, _⟩ :: _) _ _ _; refine stb rfl rfl evL spL rfl rfl (by first | decide | exact Nat.zero_lt_succ _ | exact of_decide_eq_true rfl) kpL ?_)) | refine s_nil ?_ | refine kh_normal ?_))
  refine rh1 rfl rfl ⟨rfl, allH [], rfl, A, c, L.eraseIdx k, B, d, rfl, rfl⟩ ?_
  exact Ent.trans (B := allH (L.map rowG) :: bxR b t s A (L.eraseIdx k).length c B gl.length d :: orow 31 A c (L.eraseIdx k) :: orow 36 B d gl :: allH [] :: H) enL ((ent_all_open (d := Flat.dflt) hk).trans enL)
set_option maxHeartbeats 1000000 in
set_option maxRecDepth 100000 in
theorem leave37_spec (t s : Int) (A : Option Addr) (L : List MbrP) (c : Nat) (B : Option Addr) (gl : List Msg) (d : Nat) (id : Int) (w : World) (hz : SzR L gl) (hs : -9223372036854775808 ≤ s) (hr : RdR w A L B gl) :
    Ret Try.prog 17 [rv37 t s A L c B gl d, .int .i64 id].toArray w (RP w (OutR (leaveRm (rom t s L gl) id))) := by
  have hm := fun w (hr : RdR w A L B gl) => memberP_spec t s A L c B gl d id 40 #[] #[] (fun k => ({ rom t s L gl with ms := (mbrs L).eraseIdx k }, 0)) w hz hs hr (fun k h => absurd rfl h) (fun k _ hk => leave1_spec t s L gl k w (by have := (findR37_lt hk).1; rwa [mbrs_len] at this))
  rw [show leaveRm (rom t s L gl) id = memberR (rom t s L gl) id (fun k => ({ rom t s L gl with ms := (mbrs L).eraseIdx k }, 0)) from rfl]
  unfold rv37 at hm ⊢
  refine enterH Try.func17 rfl rfl Try.ntmps17 rfl (Wd.refl _) ?_
  (repeat' (first | (show VH _ _ _ _ _ _ _; first | refine v_seq ?_ | refine r_seq ?_) | (show SH _ _ _ _ _ (_ :: _) _ _ _; first | (show SH _ _ _ _ _ (⟨_, .move _, _, _, _, _⟩ :: _) _ _ _; refine mov evL ?_) | (show SH _ _ _ _ _ (⟨_, .assign _, _, _, _, _⟩ :: _) _ _ _; refine asg evL ?_) | (show SH _ _ _ _ _ (⟨_, .load _ _, _, _, _, _⟩ :: _) _ _ _; refine lba rfl spL (by rfl) ?_) | (show SH _ _ _ _ _ (⟨_, .call ⟨.value (.func 37), _, _⟩, _, _, _, _⟩ :: _) _ _ _; refine cp (callee := .func 37) rfl (fun w hw => hm w (hr.ext hw.ext)) rfl rfl ?_) | refine ala rfl (fun b => ?_) | (show SH _ _ _ _ _ (⟨_, .box _ _, _, _, _, _⟩ :: _) _ _ _; refine bxx rfl evL rfl (fun b => ?_))) | refine s_nil ?_ | refine kh_normal ?_))
  rintro _ _ ⟨A1, c1, L1, B1, d1, hp1, rfl, rfl⟩
  (repeat' (first | refine v_ret ?_ | (show SH _ _ _ _ _ (_ :: _) _ _ _; first | (show SH _ _ _ _ _ (⟨_, .assign _, _, _, _, _⟩ :: _) _ _ _; refine asg evL ?_) | refine extr rfl rfl ?_ | (show SH _ _ _ _ _ (⟨_, .store _ _ _, _, _, _, _⟩ :: _) _ _ _; refine sta rfl rfl rfl spL (by rfl) (by rfl) (by rfl) kpL ?_)) | refine s_nil ?_ | refine kh_normal ?_))
  exact rhC2 rfl rfl rfl rfl (fun w hw => loadVar_bx hw spL (by rfl)) ⟨A1, c1, L1, B1, d1, hp1, rfl, rfl⟩ enL
/-- What Ignore's change makes of a room. -/
def ignR (r : Rom) (id whom : Int) (on : Bool) (k : Nat) : ResR :=
    if id37 whom = true ∧ whom ≠ id then
      (if whom ∈ (r.ms.getD k mbr0).ign then
        (if on then (r, 0) else ({ r with ms := r.ms.set k ⟨(r.ms.getD k mbr0).id, (r.ms.getD k mbr0).ign.filter fun n => !decide (n = whom)⟩ }, 0))
      else if on then
        (if (r.ms.getD k mbr0).ign.length < 32 then ({ r with ms := r.ms.set k ⟨(r.ms.getD k mbr0).id, insN whom (r.ms.getD k mbr0).ign⟩ }, 0) else (rom0, 4))
      else (r, 0))
    else (rom0, 2)
theorem ignR0 (r : Rom) (id whom : Int) (on : Bool) (k : Nat) : (ignR r id whom on k).2 ≠ 0 → (ignR r id whom on k).1 = rom0 := by
  unfold ignR
  repeat' split
  all_goals first
    | exact fun _ => rfl
    | exact fun h => absurd rfl h
set_option maxHeartbeats 2000000 in
set_option maxRecDepth 100000 in
theorem ignore1_spec (t s : Int) (L0 : List MbrP) (gl : List Msg) (k : Nat) (id whom : Int) (on : Bool) (a2 a3 a4 : Addr) (w0 : World) (hk0 : k < L0.length) (hv : VRom (rom t s L0 gl)) (e2 : w0.cell? a2 = some (.int .i64 whom)) (e3 : w0.cell? a3 = some (.int .i64 id)) (e4 : w0.cell? a4 = some (.bool on)) :
    Acts37 w0 t s L0 gl k 45 #[] #[.pointer (some a2), .pointer (some a3), .pointer (some a4)] (ignR (rom t s L0 gl) id whom on k) (allH []) (· = allH []) := by
  refine acts37_of (cap := [.pointer (some a2), .pointer (some a3), .pointer (some a4)]) fun w' b A c L B d H hz hp hw0 => ?_
  have hk := mbrs_lt hp hk0
  have hml := hz.ml
  have hid := fun w => isID37_spec whom w
  rw [show rom t s L0 gl = rom t s L gl by unfold rom; rw [hp]] at hv ⊢
  unfold ignR
  rw [show (rom t s L gl).ms = mbrs L from rfl, mbrs_at hk]
  have hvm := hv.mok (L.getD k Flat.dflt).m (List.mem_map_of_mem (getD_mem hk))
  have hig := hz.ig (L.getD k Flat.dflt) (getD_mem hk)
  obtain ⟨x, hx⟩ : ∃ x, L.getD k Flat.dflt = x := ⟨_, rfl⟩
  have hme := mbr_enc hx
  have hset : ∀ y : MbrP, mbrs (L.set k y) = (mbrs L).set k y.m := fun y => mbrs_set L k y
  have hcl : ∀ y : MbrP, ∀ G : List HP, Ent (rowG y :: allH ((L.eraseIdx k).map rowG) :: G) (allH ((L.set k y).map rowG) :: G) := fun y G => ent_all_close hk
  have hbk : ∀ G : List HP, Ent (rowG x :: allH ((L.eraseIdx k).map rowG) :: G) (allH (L.map rowG) :: G) := fun G => by rw [← hx]; exact ent_all_back hk
  have hw : Wd w0 (rowG x :: allH ((L.eraseIdx k).map rowG) :: bxR b t s A L.length c B gl.length d :: orow 31 A c L :: orow 36 B d gl :: allH [] :: H) w' := by
    rw [← hx]
    exact Ent.wd (Ent.trans (B := allH (L.map rowG) :: bxR b t s A L.length c B gl.length d :: orow 31 A c L :: orow 36 B d gl :: allH [] :: H) enL (ent_all_open hk)) hw0
  rw [hx] at hvm hig ⊢
  clear hw0 hx hp hk0 hv
  generalize hX : allH ((L.eraseIdx k).map rowG) = X at hw hcl hbk
  clear hX
  obtain ⟨⟨xi, xl⟩, xA, xca⟩ := x
  simp only at hvm hig hme ⊢
  have hR : Rising (fun y : Int => y) xl := hvm.ris
  have hbs := fun w hr => bsearch37_spec xA xl xca whom w hig hr hR
  have hhas := hasN_mem (x := whom) hR
  have hlb := lbK_le (key := fun y : Int => y) (k := whom) xl
  have hdel := fun h => delN_lb (x := whom) hvm.ris h
  have hins := fun h => insN_lb (x := whom) (l := xl) h
  have hlbt := fun (h : hasK (fun y : Int => y) whom xl = true) => (by unfold hasK at h; rw [Bool.and_eq_true, decide_eq_true_eq] at h; exact h.1 : lbK (fun y : Int => y) whom xl < xl.length)
  by_cases h1 : id37 whom = true
  · rw [h1] at hid
    by_cases h2 : whom = id
    · rw [if_neg (fun h => h.2 h2)]
      subst h2
      clear hvm hR hbs hhas hlb hdel hins hlbt h1
      refine enterH Try.func45 rfl rfl Try.ntmps45 rfl (by assumption) ?_
      (repeat' (first | (show VH _ _ _ _ _ _ _; first | refine v_seq ?_ | refine r_seq ?_ | refine v_ret ?_ | refine v_cond_t rfl tbL ?_) | (show SH _ _ _ _ _ (_ :: _) _ _ _; first | (show SH _ _ _ _ _ (⟨_, _, _, _, _, some _⟩ :: _) _ _ _; (refine gif rfl rfl ?_; refine giFF tbL ?_)) | (show SH _ _ _ _ _ (⟨_, .move _, _, _, _, _⟩ :: _) _ _ _; refine mov evL ?_) | (show SH _ _ _ _ _ (⟨_, .assign _, _, _, _, _⟩ :: _) _ _ _; refine asg evL ?_) | (show SH _ _ _ _ _ (⟨_, .binOp .eql _ _ _ _, _, _, _, _⟩ :: _) _ _ _; refine eqlT rfl rfl omD ?_) | (show SH _ _ _ _ _ (⟨_, .load _ _, _, _, _, _⟩ :: _) _ _ _; refine lcell rfl (fun w hw => hw.ext.cell (by assumption)) ?_) | (show SH _ _ _ _ _ (⟨_, .call ⟨.value (.func 35), _, _⟩, _, _, _, _⟩ :: _) _ _ _; refine cl (callee := .func 35) rfl (fun w hw => hid w) rfl rfl ?_) | refine bnoT rfl ?_ | (show SH _ _ _ _ _ (⟨_, .pick _ _ _, _, _, _, _⟩ :: _) _ _ _; refine pkf rfl tbL evL ?_)) | refine s_nil ?_ | refine kh_normal ?_ | refine kh_ret ?_))
      exact rh1 rfl rfl ⟨rfl, allH [], rfl, rfl⟩ enL
    · rw [if_pos ⟨h1, h2⟩]
      by_cases hm : whom ∈ xl
      · rw [hhas, decide_eq_true hm] at hbs hlbt
        have hlt := hlbt rfl
        have hdl := hdel hm
        rw [if_pos hm, hdl]
        clear hvm hR hhas hlb hdel hins hlbt h1 hm hdl
        generalize lbK (fun y : Int => y) whom xl = j at hbs hlt ⊢
        cases on with
        | true =>
          rw [if_pos rfl]
          refine enterH Try.func45 rfl rfl Try.ntmps45 rfl (by assumption) ?_
          (repeat' (first | (show VH _ _ _ _ _ _ _; first | refine v_seq ?_ | refine r_seq ?_ | refine r_quiet hmix (by kernel_rfl) ?_ | refine v_block ?_ | refine v_ret ?_ | refine v_skip ?_ | refine v_cond_f rfl tbL ?_) | (show SH _ _ _ _ _ (_ :: _) _ _ _; first | (show SH _ _ _ _ _ (⟨_, _, _, _, _, some _⟩ :: _) _ _ _; (refine gif rfl rfl ?_; first | refine giTT tbL ?_ | refine giTF tbL ?_ | refine giFF tbL ?_)) | (show SH _ _ _ _ _ (⟨_, .move _, _, _, _, _⟩ :: _) _ _ _; refine mov evL ?_) | (show SH _ _ _ _ _ (⟨_, .assign _, _, _, _, _⟩ :: _) _ _ _; refine asg evL ?_) | (show SH _ _ _ _ _ (⟨_, .binOp .eql _ _ _ _, _, _, _, _⟩ :: _) _ _ _; refine eqlF rfl rfl omD ?_) | (show SH _ _ _ _ _ (⟨_, .load _ _, _, _, _, _⟩ :: _) _ _ _; first | refine lbx rfl spL (by rfl) ?_ | refine lrg rfl (fun _ _ => rdS) (by rfl) omL (by assumption) (by rfl) ?_ | refine lcell rfl (fun w hw => hw.ext.cell (by assumption)) ?_) | (show SH _ _ _ _ _ (⟨_, .indexAddr _ _ _, _, _, _, _⟩ :: _) _ _ _; refine ix rfl rfl (by with_reducible rfl) (fun _ _ => rdS) (by rfl) omL omL ?_) | (show SH _ _ _ _ _ (⟨_, .call ⟨.value (.func 35), _, _⟩, _, _, _, _⟩ :: _) _ _ _; refine cl (callee := .func 35) rfl (fun w hw => hid w) rfl rfl ?_) | (show SH _ _ _ _ _ (⟨_, .call ⟨.value (.func 46), _, _⟩, _, _, _, _⟩ :: _) _ _ _; refine cl (callee := .func 46) rfl (fun w hw => hbs w (hw.rd spL)) rfl rfl ?_) | refine bnoT rfl ?_ | (show SH _ _ _ _ _ (⟨_, .pick _ _ _, _, _, _, _⟩ :: _) _ _ _; first | refine pkt rfl tbL evL ?_ | refine pkf rfl tbL evL ?_) | refine nlc rfl ?_ | refine extr rfl rfl ?_ | refine fad rfl ?_) | refine s_nil ?_ | refine kh_normal ?_ | refine bh_normal ?_))
          exact rh1 rfl rfl ⟨rfl, allH [], rfl, A, c, L, B, d, rfl, rfl⟩ (Ent.trans (B := rowG ⟨⟨xi, xl⟩, xA, xca⟩ :: X :: bxR b t s A L.length c B gl.length d :: orow 31 A c L :: orow 36 B d gl :: allH [] :: H) enL ((hbk _).trans enL))
        | false =>
          rw [if_neg (by simp)]
          refine enterH Try.func45 rfl rfl Try.ntmps45 rfl (by assumption) ?_
          (repeat' (first | (show VH _ _ _ _ _ _ _; first | refine v_seq ?_ | refine r_seq ?_ | refine r_quiet hmix (by kernel_rfl) ?_ | refine v_block ?_ | refine v_skip ?_ | refine v_cond_t rfl tbL ?_ | refine v_cond_f rfl tbL ?_) | (show SH _ _ _ _ _ (_ :: _) _ _ _; first | (show SH _ _ _ _ _ (⟨_, _, _, _, _, some _⟩ :: _) _ _ _; (refine gif rfl rfl ?_; first | refine giTT tbL ?_ | refine giTF tbL ?_ | refine giFF tbL ?_)) | (show SH _ _ _ _ _ (⟨_, .move _, _, _, _, _⟩ :: _) _ _ _; refine mov evL ?_) | (show SH _ _ _ _ _ (⟨_, .assign _, _, _, _, _⟩ :: _) _ _ _; refine asg evL ?_) | (show SH _ _ _ _ _ (⟨_, .binOp .eql _ _ _ _, _, _, _, _⟩ :: _) _ _ _; refine eqlF rfl rfl omD ?_) | (show SH _ _ _ _ _ (⟨_, .binOp .add _ _ _ _, _, _, _, _⟩ :: _) _ _ _; refine add rfl rfl inL ?_) | (show SH _ _ _ _ _ (⟨_, .load _ _, _, _, _, _⟩ :: _) _ _ _; first | refine lbx rfl spL (by rfl) ?_ | refine lrg rfl (fun _ _ => rdS) (by rfl) omL (by assumption) (by rfl) ?_ | refine lcell rfl (fun w hw => hw.ext.cell (by assumption)) ?_) | (show SH _ _ _ _ _ (⟨_, .indexAddr _ _ _, _, _, _, _⟩ :: _) _ _ _; refine ix rfl rfl (by with_reducible rfl) (fun _ _ => rdS) (by rfl) omL omL ?_) | (show SH _ _ _ _ _ (⟨_, .call ⟨.value (.func 35), _, _⟩, _, _, _, _⟩ :: _) _ _ _; refine cl (callee := .func 35) rfl (fun w hw => hid w) rfl rfl ?_) | (show SH _ _ _ _ _ (⟨_, .call ⟨.value (.func 46), _, _⟩, _, _, _, _⟩ :: _) _ _ _; refine cl (callee := .func 46) rfl (fun w hw => hbs w (hw.rd spL)) rfl rfl ?_) | (show SH _ _ _ _ _ (⟨_, .unOp .not _ _, _, _, _, _⟩ :: _) _ _ _; first | refine bnoT rfl ?_ | refine bnoF rfl ?_) | (show SH _ _ _ _ _ (⟨_, .pick _ _ _, _, _, _, _⟩ :: _) _ _ _; first | refine pkt rfl tbL evL ?_ | refine pkf rfl tbL evL ?_) | refine nlc rfl ?_ | refine extr rfl rfl ?_ | refine fad rfl ?_) | refine s_nil ?_ | refine kh_normal ?_))
          refine cm rfl (fun w2 hw2 => deleteN_spec xA xl xca j w0 (X :: bxR b t s A L.length c B gl.length d :: orow 31 A c L :: orow 36 B d gl :: allH [] :: H) w2 hlt hig (Ent.wd enL hw2)) rfl rfl ?_
          rintro _ _ ⟨rfl, rfl⟩
          refine ⟨trivial, ?_⟩
          (repeat' (refine nlc rfl ?_))
          refine stf (sz := 2) (off := 1) (⟨⟨xi, xl.eraseIdx j⟩, xA, xca⟩ : MbrP) rfl rfl rfl spL rfl hk rfl rfl (by omega) (by rw [hme]; rfl) trivial ?_
          (repeat' (first | (show VH _ _ _ _ _ _ _; first | refine v_seq ?_ | refine r_seq ?_ | refine v_ret ?_) | (show SH _ _ _ _ _ (_ :: _) _ _ _; (show SH _ _ _ _ _ (⟨_, .assign _, _, _, _, _⟩ :: _) _ _ _; refine asg evL ?_)) | refine s_nil ?_ | refine kh_normal ?_ | refine bh_normal ?_))
          refine rh1 rfl rfl ⟨rfl, allH [], rfl, A, c, L.set k ⟨⟨xi, xl.eraseIdx j⟩, xA, xca⟩, B, d, hset _, rfl⟩ ?_
          show Ent _ (bxR b t s A (L.set k _).length c B gl.length d :: _)
          rw [List.length_set]
          exact Ent.trans (B := rowG ⟨⟨xi, xl.eraseIdx j⟩, xA, xca⟩ :: X :: bxR b t s A L.length c B gl.length d :: orow 31 A c (L.set k ⟨⟨xi, xl.eraseIdx j⟩, xA, xca⟩) :: orow 36 B d gl :: allH [] :: H) enL ((hcl _ _).trans enL)
      · rw [hhas, decide_eq_false hm] at hbs
        have hin := hins hm
        rw [if_neg hm, hin]
        clear hvm hR hhas hdel hins hlbt h1 hm hin
        generalize lbK (fun y : Int => y) whom xl = j at hbs hlb ⊢
        cases on with
        | true =>
          rw [if_pos rfl]
          by_cases hl : xl.length < 32
          · rw [if_pos hl]
            refine enterH Try.func45 rfl rfl Try.ntmps45 rfl (by assumption) ?_
            (repeat' ((fail_if_success (show VH _ _ (.seq (.region 5 _ _) _) _ _ _ _)); first | (show VH _ _ _ _ _ _ _; first | refine v_seq ?_ | refine r_seq ?_ | refine r_quiet hmix (by kernel_rfl) ?_ | refine v_block ?_ | refine v_skip ?_ | refine v_cond_f rfl tbL ?_) | (show SH _ _ _ _ _ (_ :: _) _ _ _; first | (show SH _ _ _ _ _ (⟨_, _, _, _, _, some _⟩ :: _) _ _ _; (refine gif rfl rfl ?_; refine giFF tbL ?_)) | (show SH _ _ _ _ _ (⟨_, .move _, _, _, _, _⟩ :: _) _ _ _; refine mov evL ?_) | (show SH _ _ _ _ _ (⟨_, .assign _, _, _, _, _⟩ :: _) _ _ _; refine asg evL ?_) | (show SH _ _ _ _ _ (⟨_, .binOp .eql _ _ _ _, _, _, _, _⟩ :: _) _ _ _; refine eqlF rfl rfl omD ?_) | (show SH _ _ _ _ _ (⟨_, .load _ _, _, _, _, _⟩ :: _) _ _ _; first | refine lbx rfl spL (by rfl) ?_ | refine lrg rfl (fun _ _ => rdS) (by rfl) omL (by assumption) (by rfl) ?_ | refine lcell rfl (fun w hw => hw.ext.cell (by assumption)) ?_) | (show SH _ _ _ _ _ (⟨_, .indexAddr _ _ _, _, _, _, _⟩ :: _) _ _ _; refine ix rfl rfl (by with_reducible rfl) (fun _ _ => rdS) (by rfl) omL omL ?_) | (show SH _ _ _ _ _ (⟨_, .call ⟨.value (.func 35), _, _⟩, _, _, _, _⟩ :: _) _ _ _; refine cl (callee := .func 35) rfl (fun w hw => hid w) rfl rfl ?_) | (show SH _ _ _ _ _ (⟨_, .call ⟨.value (.func 46), _, _⟩, _, _, _, _⟩ :: _) _ _ _; refine cl (callee := .func 46) rfl (fun w hw => hbs w (hw.rd spL)) rfl rfl ?_) | refine bnoT rfl ?_ | (show SH _ _ _ _ _ (⟨_, .pick _ _ _, _, _, _, _⟩ :: _) _ _ _; refine pkf rfl tbL evL ?_) | refine nlc rfl ?_ | refine extr rfl rfl ?_ | refine fad rfl ?_) | refine s_nil ?_ | refine kh_normal ?_))
            (repeat' (first | (show VH _ _ _ _ _ _ _; first | refine v_seq ?_ | refine r_seq ?_ | refine v_cond_t rfl tbL ?_ | refine v_cond_f rfl tbL ?_) | (show SH _ _ _ _ _ (_ :: _) _ _ _; first | (show SH _ _ _ _ _ (⟨_, _, _, _, _, some _⟩ :: _) _ _ _; (refine gif rfl rfl ?_; refine giTT tbL ?_)) | (show SH _ _ _ _ _ (⟨_, .move _, _, _, _, _⟩ :: _) _ _ _; refine mov evL ?_) | (show SH _ _ _ _ _ (⟨_, .assign _, _, _, _, _⟩ :: _) _ _ _; refine asg evL ?_) | (show SH _ _ _ _ _ (⟨_, .binOp .geq _ _ _ _, _, _, _, _⟩ :: _) _ _ _; refine geqF rfl rfl omD ?_) | (show SH _ _ _ _ _ (⟨_, .load _ _, _, _, _, _⟩ :: _) _ _ _; first | refine lrg rfl (fun _ _ => rdS) (by rfl) omL (by assumption) (by rfl) ?_ | refine lcell rfl (fun w hw => hw.ext.cell (by assumption)) ?_) | refine slen rfl ?_ | refine bnoF rfl ?_ | (show SH _ _ _ _ _ (⟨_, .pick _ _ _, _, _, _, _⟩ :: _) _ _ _; refine pkt rfl tbL evL ?_) | refine nlc rfl ?_) | refine s_nil ?_ | refine kh_normal ?_))
            refine r_heldT [] (tr [(0, true), (1, true), (2, true), (4, true), (5, true)] (.fork 3 (tr [(6, false), (7, false), (8, false), (9, false)] .nil) 6 (tr [(3, false), (7, false), (8, false), (9, false)] .nil))) hmix (by kernel_rfl) enL ?_
            (repeat' (first | (show SH _ _ _ _ _ (_ :: _) _ _ _; first | (show SH _ _ _ _ _ (⟨_, .move _, _, _, _, _⟩ :: _) _ _ _; refine mov evL ?_) | (show SH _ _ _ _ _ (⟨_, .load _ _, _, _, _, _⟩ :: _) _ _ _; first | refine lrg rfl (fun _ _ => rdS) (by rfl) omL (by assumption) (by rfl) ?_ | refine lcell rfl (fun w hw => hw.ext.cell (by assumption)) ?_) | refine nlc rfl ?_ | (show SH _ _ _ _ _ (⟨_, .buildSlice _ _ _, _, _, _, _⟩ :: _) _ _ _; refine bsl (α := Int) rfl rfl (by repeat (first | exact Vals.nil | (apply Vals.cons; rfl))) rfl (by rfl) (by decide) (fun b => ?_))) | refine s_fork ?_ ?_))
            all_goals
              revert b
              intro bv
              refine cm rfl (fun w2 hw2 => insertN_spec xA xl xca j bv whom w0 (X :: bxR b t s A L.length c B gl.length d :: orow 31 A c L :: orow 36 B d gl :: allH [] :: H) w2 hlb hig (Ent.wd enL hw2)) rfl rfl ?_
              rintro _ _ ⟨A2, cq, rfl, rfl⟩
              refine ⟨enL, ?_⟩
              generalize xl.take j ++ whom :: xl.drop j = M
              (repeat' (refine nlc rfl ?_))
              refine stf (sz := 2) (off := 1) (⟨⟨xi, M⟩, A2, cq⟩ : MbrP) rfl rfl rfl spL rfl hk rfl rfl (by omega) (by rw [hme]; rfl) enL ?_
              (repeat' (first | (show VH _ _ _ _ _ _ _; first | refine v_seq ?_ | refine r_seq ?_ | refine v_ret ?_) | (show SH _ _ _ _ _ (_ :: _) _ _ _; (show SH _ _ _ _ _ (⟨_, .assign _, _, _, _, _⟩ :: _) _ _ _; refine asg evL ?_)) | refine s_nil ?_ | refine kh_normal ?_ | refine bh_normal ?_))
              refine rh1 rfl rfl ⟨rfl, allH [], rfl, A, c, L.set k ⟨⟨xi, M⟩, A2, cq⟩, B, d, hset _, rfl⟩ ?_
              show Ent _ (bxR b t s A (L.set k _).length c B gl.length d :: _)
              rw [List.length_set]
              exact Ent.trans (B := rowG ⟨⟨xi, M⟩, A2, cq⟩ :: X :: bxR b t s A L.length c B gl.length d :: orow 31 A c (L.set k ⟨⟨xi, M⟩, A2, cq⟩) :: orow 36 B d gl :: allH [] :: H) enL ((hcl _ _).trans enL)
          · rw [if_neg hl]
            refine enterH Try.func45 rfl rfl Try.ntmps45 rfl (by assumption) ?_
            (repeat' (first | (show VH _ _ _ _ _ _ _; first | refine v_seq ?_ | refine r_seq ?_ | refine r_quiet hmix (by kernel_rfl) ?_ | refine v_block ?_ | refine v_ret ?_ | refine v_skip ?_ | refine v_cond_t rfl tbL ?_ | refine v_cond_f rfl tbL ?_) | (show SH _ _ _ _ _ (_ :: _) _ _ _; first | (show SH _ _ _ _ _ (⟨_, _, _, _, _, some _⟩ :: _) _ _ _; (refine gif rfl rfl ?_; first | refine giTT tbL ?_ | refine giFF tbL ?_)) | (show SH _ _ _ _ _ (⟨_, .move _, _, _, _, _⟩ :: _) _ _ _; refine mov evL ?_) | (show SH _ _ _ _ _ (⟨_, .assign _, _, _, _, _⟩ :: _) _ _ _; refine asg evL ?_) | (show SH _ _ _ _ _ (⟨_, .binOp .geq _ _ _ _, _, _, _, _⟩ :: _) _ _ _; refine geqT rfl rfl omD ?_) | (show SH _ _ _ _ _ (⟨_, .binOp .eql _ _ _ _, _, _, _, _⟩ :: _) _ _ _; refine eqlF rfl rfl omD ?_) | (show SH _ _ _ _ _ (⟨_, .load _ _, _, _, _, _⟩ :: _) _ _ _; first | refine lbx rfl spL (by rfl) ?_ | refine lrg rfl (fun _ _ => rdS) (by rfl) omL (by assumption) (by rfl) ?_ | refine lcell rfl (fun w hw => hw.ext.cell (by assumption)) ?_) | (show SH _ _ _ _ _ (⟨_, .indexAddr _ _ _, _, _, _, _⟩ :: _) _ _ _; refine ix rfl rfl (by with_reducible rfl) (fun _ _ => rdS) (by rfl) omL omL ?_) | refine slen rfl ?_ | (show SH _ _ _ _ _ (⟨_, .call ⟨.value (.func 35), _, _⟩, _, _, _, _⟩ :: _) _ _ _; refine cl (callee := .func 35) rfl (fun w hw => hid w) rfl rfl ?_) | (show SH _ _ _ _ _ (⟨_, .call ⟨.value (.func 46), _, _⟩, _, _, _, _⟩ :: _) _ _ _; refine cl (callee := .func 46) rfl (fun w hw => hbs w (hw.rd spL)) rfl rfl ?_) | (show SH _ _ _ _ _ (⟨_, .unOp .not _ _, _, _, _, _⟩ :: _) _ _ _; first | refine bnoT rfl ?_ | refine bnoF rfl ?_) | (show SH _ _ _ _ _ (⟨_, .pick _ _ _, _, _, _, _⟩ :: _) _ _ _; first | refine pkt rfl tbL evL ?_ | refine pkf rfl tbL evL ?_) | refine nlc rfl ?_ | refine extr rfl rfl ?_ | refine fad rfl ?_) | refine s_nil ?_ | refine kh_normal ?_ | refine kh_ret ?_ | refine bh_ret ?_))
            exact rh1 rfl rfl ⟨rfl, allH [], rfl, rfl⟩ enL
        | false =>
          rw [if_neg (by simp)]
          refine enterH Try.func45 rfl rfl Try.ntmps45 rfl (by assumption) ?_
          (repeat' (first | (show VH _ _ _ _ _ _ _; first | refine v_seq ?_ | refine r_seq ?_ | refine r_quiet hmix (by kernel_rfl) ?_ | refine v_block ?_ | refine v_ret ?_ | refine v_skip ?_ | refine v_cond_f rfl tbL ?_) | (show SH _ _ _ _ _ (_ :: _) _ _ _; first | (show SH _ _ _ _ _ (⟨_, _, _, _, _, some _⟩ :: _) _ _ _; (refine gif rfl rfl ?_; first | refine giTT tbL ?_ | refine giTF tbL ?_ | refine giFF tbL ?_)) | (show SH _ _ _ _ _ (⟨_, .move _, _, _, _, _⟩ :: _) _ _ _; refine mov evL ?_) | (show SH _ _ _ _ _ (⟨_, .assign _, _, _, _, _⟩ :: _) _ _ _; refine asg evL ?_) | (show SH _ _ _ _ _ (⟨_, .binOp .eql _ _ _ _, _, _, _, _⟩ :: _) _ _ _; refine eqlF rfl rfl omD ?_) | (show SH _ _ _ _ _ (⟨_, .load _ _, _, _, _, _⟩ :: _) _ _ _; first | refine lbx rfl spL (by rfl) ?_ | refine lrg rfl (fun _ _ => rdS) (by rfl) omL (by assumption) (by rfl) ?_ | refine lcell rfl (fun w hw => hw.ext.cell (by assumption)) ?_) | (show SH _ _ _ _ _ (⟨_, .indexAddr _ _ _, _, _, _, _⟩ :: _) _ _ _; refine ix rfl rfl (by with_reducible rfl) (fun _ _ => rdS) (by rfl) omL omL ?_) | (show SH _ _ _ _ _ (⟨_, .call ⟨.value (.func 35), _, _⟩, _, _, _, _⟩ :: _) _ _ _; refine cl (callee := .func 35) rfl (fun w hw => hid w) rfl rfl ?_) | (show SH _ _ _ _ _ (⟨_, .call ⟨.value (.func 46), _, _⟩, _, _, _, _⟩ :: _) _ _ _; refine cl (callee := .func 46) rfl (fun w hw => hbs w (hw.rd spL)) rfl rfl ?_) | (show SH _ _ _ _ _ (⟨_, .unOp .not _ _, _, _, _, _⟩ :: _) _ _ _; first | refine bnoT rfl ?_ | refine bnoF rfl ?_) | (show SH _ _ _ _ _ (⟨_, .pick _ _ _, _, _, _, _⟩ :: _) _ _ _; first | refine pkt rfl tbL evL ?_ | refine pkf rfl tbL evL ?_) | refine nlc rfl ?_ | refine extr rfl rfl ?_ | refine fad rfl ?_) | refine s_nil ?_ | refine kh_normal ?_ | refine bh_normal ?_))
          exact rh1 rfl rfl ⟨rfl, allH [], rfl, A, c, L, B, d, rfl, rfl⟩ (Ent.trans (B := rowG ⟨⟨xi, xl⟩, xA, xca⟩ :: X :: bxR b t s A L.length c B gl.length d :: orow 31 A c L :: orow 36 B d gl :: allH [] :: H) enL ((hbk _).trans enL))
  · rw [Bool.not_eq_true] at h1
    rw [h1] at hid
    rw [if_neg (by rw [h1]; simp)]
    clear hvm hR hbs hhas hlb hdel hins hlbt h1
    refine enterH Try.func45 rfl rfl Try.ntmps45 rfl (by assumption) ?_
    (repeat' (first | (show VH _ _ _ _ _ _ _; first | refine v_seq ?_ | refine r_seq ?_ | refine v_ret ?_ | refine v_cond_t rfl tbL ?_) | (show SH _ _ _ _ _ (_ :: _) _ _ _; first | (show SH _ _ _ _ _ (⟨_, _, _, _, _, some _⟩ :: _) _ _ _; (refine gif rfl rfl ?_; refine giFT tbL ?_)) | (show SH _ _ _ _ _ (⟨_, .move _, _, _, _, _⟩ :: _) _ _ _; refine mov evL ?_) | (show SH _ _ _ _ _ (⟨_, .assign _, _, _, _, _⟩ :: _) _ _ _; refine asg evL ?_) | (show SH _ _ _ _ _ (⟨_, .load _ _, _, _, _, _⟩ :: _) _ _ _; refine lcell rfl (fun w hw => hw.ext.cell (by assumption)) ?_) | (show SH _ _ _ _ _ (⟨_, .call ⟨.value (.func 35), _, _⟩, _, _, _, _⟩ :: _) _ _ _; refine cl (callee := .func 35) rfl (fun w hw => hid w) rfl rfl ?_) | refine bnoF rfl ?_ | (show SH _ _ _ _ _ (⟨_, .pick _ _ _, _, _, _, _⟩ :: _) _ _ _; refine pkt rfl tbL evL ?_)) | refine s_nil ?_ | refine kh_normal ?_ | refine kh_ret ?_))
    exact rh1 rfl rfl ⟨rfl, allH [], rfl, rfl⟩ enL
end Go.Proofs.Ytplhnnlklnbahaa

/- Layer 37 (chat): Ignore, recent, Hear. -/
namespace Go.Proofs.Ytplhnnlklnbahaa
open Go.Fw Go.RowKit
set_option maxHeartbeats 1000000 in
set_option maxRecDepth 100000 in
theorem ignore37_spec (t s : Int) (A : Option Addr) (L : List MbrP) (c : Nat) (B : Option Addr) (gl : List Msg) (d : Nat) (id whom : Int) (on : Bool) (w : World) (hz : SzR L gl) (hs : -9223372036854775808 ≤ s) (hr : RdR w A L B gl) :
    Ret Try.prog 19 [rv37 t s A L c B gl d, .int .i64 id, .int .i64 whom, .bool on].toArray w (RP w (OutR (ignoreR (rom t s L gl) id whom on))) := by
  have hm := fun (p5 p6 p7 : Nat) w (hr : RdR w A L B gl) e2 e3 e4 => memberP_spec t s A L c B gl d id 45 #[] #[.pointer (some ⟨p6, 0, none⟩), .pointer (some ⟨p5, 0, none⟩), .pointer (some ⟨p7, 0, none⟩)] (ignR (rom t s L gl) id whom on) w hz hs hr (ignR0 _ _ _ _) (fun k hv hk => ignore1_spec t s L gl k id whom on ⟨p6, 0, none⟩ ⟨p5, 0, none⟩ ⟨p7, 0, none⟩ w (by have := (findR37_lt hk).1; rwa [mbrs_len] at this) hv e2 e3 e4)
  rw [show ignoreR (rom t s L gl) id whom on = memberR (rom t s L gl) id (ignR (rom t s L gl) id whom on) from rfl]
  unfold rv37 at hm ⊢
  refine enterH Try.func19 rfl rfl Try.ntmps19 rfl (Wd.refl _) ?_
  (repeat' (first | (show VH _ _ _ _ _ _ _; first | refine v_seq ?_ | refine r_seq ?_) | (show SH _ _ _ _ _ (_ :: _) _ _ _; first | (show SH _ _ _ _ _ (⟨_, .assign _, _, _, _, _⟩ :: _) _ _ _; refine asg evL ?_) | (show SH _ _ _ _ _ (⟨_, .load _ _, _, _, _, _⟩ :: _) _ _ _; first | refine lbx rfl spL (by rfl) ?_ | refine lba rfl spL (by rfl) ?_) | (show SH _ _ _ _ _ (⟨_, .makeFunc _ _ _, _, _, _, _⟩ :: _) _ _ _; refine mf3 evL evL evL ?_) | refine ala rfl (fun b => ?_) | (show SH _ _ _ _ _ (⟨_, .box _ _, _, _, _, _⟩ :: _) _ _ _; refine bxx rfl evL rfl (fun b => ?_))) | refine s_nil ?_ | refine kh_normal ?_))
  rename_i b4 b5 b6 b7
  refine cp rfl (fun w2 hw => hm b5 b6 b7 w2 (hr.ext hw.ext) (hw.cell (cs := [.int .i64 whom]) spL rfl) (hw.cell (cs := [.int .i64 id]) spL rfl) (hw.cell (cs := [.bool on]) spL rfl)) rfl rfl ?_
  rintro _ _ ⟨A1, c1, L1, B1, d1, hp1, rfl, rfl⟩
  (repeat' (first | refine v_ret ?_ | (show SH _ _ _ _ _ (_ :: _) _ _ _; first | (show SH _ _ _ _ _ (⟨_, .assign _, _, _, _, _⟩ :: _) _ _ _; refine asg evL ?_) | refine extr rfl rfl ?_ | (show SH _ _ _ _ _ (⟨_, .store _ _ _, _, _, _, _⟩ :: _) _ _ _; refine sta rfl rfl rfl spL (by rfl) (by rfl) (by rfl) kpL ?_)) | refine s_nil ?_ | refine kh_normal ?_))
  exact rhC2 rfl rfl rfl rfl (fun w hw => loadVar_bx hw spL (by rfl)) ⟨A1, c1, L1, B1, d1, hp1, rfl, rfl⟩ enL
set_option maxHeartbeats 1000000 in
set_option maxRecDepth 100000 in
theorem recent_spec (t s : Int) (A : Option Addr) (n c : Nat) (B : Option Addr) (gl : List Msg) (d : Nat) (id tick : Int) (w : World) (hl : gl.length ≤ 1000000) (ht : 0 ≤ tick ∧ tick ≤ 1073741824) (hr : Rd w B gl) :
    Ret Try.prog 62 [.agg #[.int .i64 t, .int .i64 s, .slice A n c, .slice B gl.length d], .int .i64 id, .int .i64 tick].toArray w (Out w (.int .i64 (recentR gl id tick))) := by
  obtain ⟨ht0, ht1⟩ := ht
  have hF : ∃ F : Nat → Nat, F 0 = 0 ∧ F gl.length = recentR gl id tick ∧ ∀ k, k < gl.length → F k ≤ k ∧ F (k + 1) = F k + if (gl.getD k Flat.dflt).frm = id ∧ tick - 100 < (gl.getD k Flat.dflt).tick then 1 else 0 := by
    have hle : ∀ k, ((gl.take k).filter fun m => decide (m.frm = id) && decide (tick - 100 < m.tick)).length ≤ k := fun k => Nat.le_trans (List.length_filter_le _ _) (by rw [List.length_take]; omega)
    refine ⟨fun k => ((gl.take k).filter fun m => decide (m.frm = id) && decide (tick - 100 < m.tick)).length, rfl, by simp only [List.take_length]; rfl, fun k hk => ⟨hle k, ?_⟩⟩
    simp only
    rw [take_snoc (d := Flat.dflt) hk, List.filter_append, List.length_append]
    congr 1
    by_cases h : (gl.getD k Flat.dflt).frm = id ∧ tick - 100 < (gl.getD k Flat.dflt).tick
    · rw [if_pos h, List.filter_cons_of_pos (by rw [decide_eq_true h.1, decide_eq_true h.2]; rfl)]; rfl
    · rw [if_neg h, List.filter_cons_of_neg (by simpa using h)]; rfl
  obtain ⟨F, hF0, hFe, hF⟩ := hF
  rw [← hFe]
  clear hFe
  refine enterH Try.func62 rfl rfl Try.ntmps62 rfl (Wd.refl _) ?_
  (repeat' (first | (show VH _ _ _ _ _ _ _; first | refine v_seq ?_ | refine r_seq ?_ | refine v_block ?_) | (show SH _ _ _ _ _ (_ :: _) _ _ _; first | (show SH _ _ _ _ _ (⟨_, .move _, _, _, _, _⟩ :: _) _ _ _; refine mov evL ?_) | (show SH _ _ _ _ _ (⟨_, .assign _, _, _, _, _⟩ :: _) _ _ _; refine asg evL ?_) | (show SH _ _ _ _ _ (⟨_, .load _ _, _, _, _, _⟩ :: _) _ _ _; refine lbx rfl spL (by rfl) ?_) | refine slen rfl ?_ | refine fad rfl ?_ | (show SH _ _ _ _ _ (⟨_, .box _ _, _, _, _, _⟩ :: _) _ _ _; refine bxx rfl evL rfl (fun b => ?_))) | refine s_nil ?_ | refine kh_normal ?_))
  refine v_norm [(1,_),(2,_),(7,_),(11,_),(12,_),(13,_)] heL (fun g => ?_)
  refine v_loop0 [(7,7),(9,9),(13,30)] (fun k : Nat => [(13, .int .i64 k), (7, .int .i64 (F k))]) (fun k => k ≤ gl.length) (fun k => gl.length - k) 0 (by rw [hF0]; (repeat (first | exact trivial | refine And.intro rfl ?_))) (Nat.zero_le _) ?_
  rintro k g hk
  simp only [sets]
  by_cases hkl : k < gl.length
  · obtain ⟨hFk, hFn⟩ := hF k hkl
    obtain ⟨x, hx⟩ : ∃ x, gl.getD k Flat.dflt = x := ⟨_, rfl⟩
    have hme := msg_enc hx
    rw [hx] at hFn
    clear hx hF hF0
    obtain ⟨xn, xt, xf, xs⟩ := x
    simp only at hme hFn
    by_cases h1 : xf = id
    · by_cases h2 : tick - 100 < xt
      · rw [if_pos ⟨h1, h2⟩] at hFn
        (repeat' (first | (show VH _ _ _ _ _ _ _; first | refine v_seq ?_ | refine r_seq ?_ | refine v_block ?_ | refine v_skip ?_ | refine v_cond_t rfl tbL ?_) | (show SH _ _ _ _ _ (_ :: _) _ _ _; first | (show SH _ _ _ _ _ (⟨_, _, _, _, _, some _⟩ :: _) _ _ _; (refine gif rfl rfl ?_; refine giTT tbL ?_)) | (show SH _ _ _ _ _ (⟨_, .move _, _, _, _, _⟩ :: _) _ _ _; refine mov evL ?_) | (show SH _ _ _ _ _ (⟨_, .assign _, _, _, _, _⟩ :: _) _ _ _; refine asg evL ?_) | (show SH _ _ _ _ _ (⟨_, .binOp .lss _ _ _ _, _, _, _, _⟩ :: _) _ _ _; refine lssT rfl rfl omD ?_) | (show SH _ _ _ _ _ (⟨_, .binOp .gtr _ _ _ _, _, _, _, _⟩ :: _) _ _ _; refine gtrT rfl rfl omD ?_) | (show SH _ _ _ _ _ (⟨_, .binOp .eql _ _ _ _, _, _, _, _⟩ :: _) _ _ _; refine eqlT rfl rfl omD ?_) | (show SH _ _ _ _ _ (⟨_, .binOp .add _ _ _ _, _, _, _, _⟩ :: _) _ _ _; refine add rfl rfl inL ?_) | (show SH _ _ _ _ _ (⟨_, .binOp .sub _ _ _ _, _, _, _, _⟩ :: _) _ _ _; refine sub rfl rfl inL ?_) | (show SH _ _ _ _ _ (⟨_, .load _ _, _, _, _, _⟩ :: _) _ _ _; first | refine lbx rfl spL (by rfl) ?_ | refine lag rfl (fun _ _ => rdS) (by rfl) omL (by assumption) ?_) | (show SH _ _ _ _ _ (⟨_, .indexAddr _ _ _, _, _, _, _⟩ :: _) _ _ _; refine ix rfl rfl (by with_reducible rfl) (fun _ _ => rdS) (by rfl) omL omL ?_) | (show SH _ _ _ _ _ (⟨_, .pick _ _ _, _, _, _, _⟩ :: _) _ _ _; refine pkt rfl tbL evL ?_) | refine fad rfl ?_ | refine ala rfl (fun b => ?_) | (show SH _ _ _ _ _ (⟨_, .store _ _ _, _, _, _, _⟩ :: _) _ _ _; refine sta rfl rfl rfl spL (by rfl) (by rfl) (by rfl) kpL ?_)) | refine s_nil ?_ | refine kh_normal ?_ | refine bh_normal ?_))
        exact ⟨agL, k + 1, by rw [hFn]; (repeat (first | exact trivial | refine And.intro rfl ?_)), enL, hkl, by omega⟩
      · rw [if_neg (fun h => h2 h.2)] at hFn
        (repeat' (first | (show VH _ _ _ _ _ _ _; first | refine v_seq ?_ | refine r_seq ?_ | refine v_block ?_ | refine v_skip ?_ | refine v_cond_t rfl tbL ?_ | refine v_cond_f rfl tbL ?_) | (show SH _ _ _ _ _ (_ :: _) _ _ _; first | (show SH _ _ _ _ _ (⟨_, _, _, _, _, some _⟩ :: _) _ _ _; (refine gif rfl rfl ?_; refine giTT tbL ?_)) | (show SH _ _ _ _ _ (⟨_, .move _, _, _, _, _⟩ :: _) _ _ _; refine mov evL ?_) | (show SH _ _ _ _ _ (⟨_, .binOp .lss _ _ _ _, _, _, _, _⟩ :: _) _ _ _; refine lssT rfl rfl omD ?_) | (show SH _ _ _ _ _ (⟨_, .binOp .gtr _ _ _ _, _, _, _, _⟩ :: _) _ _ _; refine gtrF rfl rfl omD ?_) | (show SH _ _ _ _ _ (⟨_, .binOp .eql _ _ _ _, _, _, _, _⟩ :: _) _ _ _; refine eqlT rfl rfl omD ?_) | (show SH _ _ _ _ _ (⟨_, .binOp .add _ _ _ _, _, _, _, _⟩ :: _) _ _ _; refine add rfl rfl inL ?_) | (show SH _ _ _ _ _ (⟨_, .binOp .sub _ _ _ _, _, _, _, _⟩ :: _) _ _ _; refine sub rfl rfl inL ?_) | (show SH _ _ _ _ _ (⟨_, .load _ _, _, _, _, _⟩ :: _) _ _ _; first | refine lbx rfl spL (by rfl) ?_ | refine lag rfl (fun _ _ => rdS) (by rfl) omL (by assumption) ?_) | (show SH _ _ _ _ _ (⟨_, .indexAddr _ _ _, _, _, _, _⟩ :: _) _ _ _; refine ix rfl rfl (by with_reducible rfl) (fun _ _ => rdS) (by rfl) omL omL ?_) | (show SH _ _ _ _ _ (⟨_, .pick _ _ _, _, _, _, _⟩ :: _) _ _ _; refine pkt rfl tbL evL ?_) | refine fad rfl ?_ | refine ala rfl (fun b => ?_) | (show SH _ _ _ _ _ (⟨_, .store _ _ _, _, _, _, _⟩ :: _) _ _ _; refine sta rfl rfl rfl spL (by rfl) (by rfl) (by rfl) kpL ?_)) | refine s_nil ?_ | refine kh_normal ?_ | refine bh_normal ?_))
        exact ⟨agL, k + 1, by rw [hFn]; (repeat (first | exact trivial | refine And.intro rfl ?_)), enL, hkl, by omega⟩
    · rw [if_neg (fun h => h1 h.1)] at hFn
      (repeat' (first | (show VH _ _ _ _ _ _ _; first | refine v_seq ?_ | refine r_seq ?_ | refine v_block ?_ | refine v_skip ?_ | refine v_cond_t rfl tbL ?_ | refine v_cond_f rfl tbL ?_) | (show SH _ _ _ _ _ (_ :: _) _ _ _; first | (show SH _ _ _ _ _ (⟨_, _, _, _, _, some _⟩ :: _) _ _ _; (refine gif rfl rfl ?_; refine giTF tbL ?_)) | (show SH _ _ _ _ _ (⟨_, .move _, _, _, _, _⟩ :: _) _ _ _; refine mov evL ?_) | (show SH _ _ _ _ _ (⟨_, .binOp .lss _ _ _ _, _, _, _, _⟩ :: _) _ _ _; refine lssT rfl rfl omD ?_) | (show SH _ _ _ _ _ (⟨_, .binOp .eql _ _ _ _, _, _, _, _⟩ :: _) _ _ _; refine eqlF rfl rfl omD ?_) | (show SH _ _ _ _ _ (⟨_, .binOp .add _ _ _ _, _, _, _, _⟩ :: _) _ _ _; refine add rfl rfl inL ?_) | (show SH _ _ _ _ _ (⟨_, .load _ _, _, _, _, _⟩ :: _) _ _ _; first | refine lbx rfl spL (by rfl) ?_ | refine lag rfl (fun _ _ => rdS) (by rfl) omL (by assumption) ?_) | (show SH _ _ _ _ _ (⟨_, .indexAddr _ _ _, _, _, _, _⟩ :: _) _ _ _; refine ix rfl rfl (by with_reducible rfl) (fun _ _ => rdS) (by rfl) omL omL ?_) | (show SH _ _ _ _ _ (⟨_, .pick _ _ _, _, _, _, _⟩ :: _) _ _ _; refine pkf rfl tbL evL ?_) | refine fad rfl ?_ | refine ala rfl (fun b => ?_) | (show SH _ _ _ _ _ (⟨_, .store _ _ _, _, _, _, _⟩ :: _) _ _ _; refine sta rfl rfl rfl spL (by rfl) (by rfl) (by rfl) kpL ?_)) | refine s_nil ?_ | refine kh_normal ?_ | refine bh_normal ?_))
      exact ⟨agL, k + 1, by rw [hFn]; (repeat (first | exact trivial | refine And.intro rfl ?_)), enL, hkl, by omega⟩
  · obtain rfl : k = gl.length := by omega
    (repeat' (first | (show VH _ _ _ _ _ _ _; first | refine v_seq ?_ | refine r_seq ?_ | refine v_ret ?_ | refine v_exit ?_ | refine v_cond_f rfl tbL ?_) | (show SH _ _ _ _ _ (_ :: _) _ _ _; first | (show SH _ _ _ _ _ (⟨_, .move _, _, _, _, _⟩ :: _) _ _ _; refine mov evL ?_) | (show SH _ _ _ _ _ (⟨_, .assign _, _, _, _, _⟩ :: _) _ _ _; refine asg evL ?_) | (show SH _ _ _ _ _ (⟨_, .binOp .lss _ _ _ _, _, _, _, _⟩ :: _) _ _ _; refine lssF rfl rfl omD ?_)) | refine s_nil ?_ | refine kh_normal ?_ | refine kh_exit ?_ | refine bh_exit ?_))
    exact rh1 rfl rfl ⟨rfl, rfl⟩ (ent_nil _)
/-- The messages that are heard. -/
def hearL (gl : List Msg) (ign : List Int) (after : Int) : List Msg := gl.filter fun m => decide (after < m.num) && !decide (m.frm ∈ ign)
abbrev hearP (ba bo : Nat) (after : Int) (B : Option Addr) (d : Nat) (l : List Msg) : List HP := [bx ba 3 [.int .i64 after], bx bo 23 [.slice B l.length d], orow 36 B d l]
def HearQ (ba bo : Nat) (after : Int) (l : List Msg) (q : HP) : Prop := ∃ B d, q = allH (hearP ba bo after B d l)
set_option maxHeartbeats 2000000 in
set_option maxRecDepth 100000 in
theorem hear1_spec (t s : Int) (L0 : List MbrP) (gl : List Msg) (k : Nat) (after : Int) (ba bo : Nat) (w0 : World) (hk0 : k < L0.length) :
    Acts37 w0 t s L0 gl k 38 #[] #[.pointer (some ⟨ba, 0, none⟩), .pointer (some ⟨bo, 0, none⟩)] (rom t s L0 gl, 0) (allH (hearP ba bo after none 0 [])) (HearQ ba bo after (hearL gl ((mbrs L0).getD k mbr0).ign after)) := by
  refine acts37_of (cap := [.pointer (some ⟨ba, 0, none⟩), .pointer (some ⟨bo, 0, none⟩)]) fun w' b A c L B d H hz hp hw0 => ?_
  have hk := mbrs_lt hp hk0
  have hgl := hz.gl
  rw [show rom t s L0 gl = rom t s L gl by unfold rom; rw [hp]]
  rw [← hp, mbrs_at hk]
  have hig := hz.ig (L.getD k Flat.dflt) (getD_mem hk)
  obtain ⟨x, hx⟩ : ∃ x, L.getD k Flat.dflt = x := ⟨_, rfl⟩
  have hme := mbr_enc hx
  have hbk : ∀ G : List HP, Ent (rowG x :: allH ((L.eraseIdx k).map rowG) :: G) (allH (L.map rowG) :: G) := fun G => by rw [← hx]; exact ent_all_back hk
  have hw : Wd w0 (bx ba 3 [.int .i64 after] :: bx bo 23 [.slice none 0 0] :: orow 36 none 0 ([] : List Msg) :: rowG x :: allH ((L.eraseIdx k).map rowG) :: bxR b t s A L.length c B gl.length d :: orow 31 A c L :: orow 36 B d gl :: H) w' := by
    rw [← hx]
    exact Ent.wd (Ent.trans (B := allH (L.map rowG) :: bxR b t s A L.length c B gl.length d :: orow 31 A c L :: orow 36 B d gl :: allH (hearP ba bo after none 0 []) :: H) enL ((ent_all_open hk).trans (Ent.trans (B := allH (hearP ba bo after none 0 []) :: rowG (L.getD k Flat.dflt) :: allH ((L.eraseIdx k).map rowG) :: bxR b t s A L.length c B gl.length d :: orow 31 A c L :: orow 36 B d gl :: H) enL (ent_all_out (hearP ba bo after none 0 []))))) hw0
  rw [hx] at hig ⊢
  clear hw0 hx hp hk0
  generalize hX : allH ((L.eraseIdx k).map rowG) = X at hw hbk
  clear hX
  obtain ⟨⟨xi, xl⟩, xA, xca⟩ := x
  simp only at hig hme ⊢
  have hF : ∃ F : Nat → List Msg, F 0 = [] ∧ F gl.length = hearL gl xl after ∧ ∀ i, i < gl.length → (F i).length ≤ i ∧ F (i + 1) = F i ++ if after < (gl.getD i Flat.dflt).num ∧ (gl.getD i Flat.dflt).frm ∉ xl then [gl.getD i Flat.dflt] else [] := by
    refine ⟨fun i => hearL (gl.take i) xl after, rfl, by simp only [List.take_length], fun i hi => ⟨Nat.le_trans (List.length_filter_le _ _) (by rw [List.length_take]; omega), ?_⟩⟩
    simp only [hearL]
    rw [take_snoc (d := Flat.dflt) hi, List.filter_append]
    congr 1
    by_cases h : after < (gl.getD i Flat.dflt).num ∧ (gl.getD i Flat.dflt).frm ∉ xl
    · rw [if_pos h, List.filter_cons_of_pos (by rw [decide_eq_true h.1, decide_eq_false h.2]; rfl)]; rfl
    · rw [if_neg h, List.filter_cons_of_neg (by simpa using h)]; rfl
  obtain ⟨F, hF0, hFe, hF⟩ := hF
  rw [← hFe]
  clear hFe
  refine enterH Try.func38 rfl rfl Try.ntmps38 rfl (by assumption) ?_
  (repeat' (first | (show VH _ _ _ _ _ _ _; first | refine v_seq ?_ | refine r_seq ?_ | refine v_block ?_) | (show SH _ _ _ _ _ (_ :: _) _ _ _; first | (show SH _ _ _ _ _ (⟨_, .move _, _, _, _, _⟩ :: _) _ _ _; refine mov evL ?_) | (show SH _ _ _ _ _ (⟨_, .assign _, _, _, _, _⟩ :: _) _ _ _; refine asg evL ?_) | (show SH _ _ _ _ _ (⟨_, .load _ _, _, _, _, _⟩ :: _) _ _ _; refine lbx rfl spL (by rfl) ?_) | refine slen rfl ?_ | refine nlc rfl ?_ | refine fad rfl ?_) | refine s_nil ?_ | refine kh_normal ?_))
  refine v_norm [(0,_),(1,_),(2,_),(3,_),(12,_),(13,_),(14,_)] heL (fun g => ?_)
  refine v_loop [(8,8),(14,40)] (fun y : Nat × Option Addr × Nat => [(14, .int .i64 y.1)]) (fun y => bx bo 23 [.slice y.2.1 (F y.1).length y.2.2] :: orow 36 y.2.1 y.2.2 (F y.1) :: bx ba 3 [.int .i64 after] :: rowG ⟨⟨xi, xl⟩, xA, xca⟩ :: X :: bxR b t s A L.length c B gl.length d :: orow 31 A c L :: orow 36 B d gl :: H) (fun y => y.1 ≤ gl.length) (fun y => gl.length - y.1) (0, none, 0) hsL (by simp only; rw [hF0]; exact enL) (Nat.zero_le _) ?_
  rintro ⟨i, B2, d2⟩ g hi
  simp only [sets]
  simp only at hi
  by_cases hil : i < gl.length
  · obtain ⟨hFl, hFn⟩ := hF i hil
    obtain ⟨m, hm⟩ : ∃ m, gl.getD i Flat.dflt = m := ⟨_, rfl⟩
    have hmm := msg_enc hm
    rw [hm] at hFn
    clear hm hF hF0
    obtain ⟨mn, mt, mf, ms⟩ := m
    simp only at hmm hFn
    have hC := fun w hr => containsI37_spec xA xl xca mf w hig hr
    by_cases h1 : after < mn
    · by_cases h2 : mf ∈ xl
      · rw [decide_eq_true h2] at hC
        rw [if_neg (fun h => h.2 h2), List.append_nil] at hFn
        clear h2
        (repeat' (first | (show VH _ _ _ _ _ _ _; first | refine v_seq ?_ | refine r_seq ?_ | refine r_quiet hmix (by kernel_rfl) ?_ | refine v_block ?_ | refine v_skip ?_ | refine v_cond_t rfl tbL ?_ | refine v_cond_f rfl tbL ?_) | (show SH _ _ _ _ _ (_ :: _) _ _ _; first | (show SH _ _ _ _ _ (⟨_, _, _, _, _, some _⟩ :: _) _ _ _; (refine gif rfl rfl ?_; refine giTT tbL ?_)) | (show SH _ _ _ _ _ (⟨_, .move _, _, _, _, _⟩ :: _) _ _ _; refine mov evL ?_) | (show SH _ _ _ _ _ (⟨_, .binOp .lss _ _ _ _, _, _, _, _⟩ :: _) _ _ _; refine lssT rfl rfl omD ?_) | (show SH _ _ _ _ _ (⟨_, .binOp .gtr _ _ _ _, _, _, _, _⟩ :: _) _ _ _; refine gtrT rfl rfl omD ?_) | (show SH _ _ _ _ _ (⟨_, .binOp .add _ _ _ _, _, _, _, _⟩ :: _) _ _ _; refine add rfl rfl inL ?_) | (show SH _ _ _ _ _ (⟨_, .load _ _, _, _, _, _⟩ :: _) _ _ _; first | refine lbx rfl spL (by rfl) ?_ | refine lag rfl (fun _ _ => rdS) (by rfl) omL (by assumption) ?_ | refine lrg rfl (fun _ _ => rdS) (by rfl) omL (by assumption) (by rfl) ?_) | (show SH _ _ _ _ _ (⟨_, .indexAddr _ _ _, _, _, _, _⟩ :: _) _ _ _; refine ix rfl rfl (by with_reducible rfl) (fun _ _ => rdS) (by rfl) omL omL ?_) | (show SH _ _ _ _ _ (⟨_, .call ⟨.value (.func 39), _, _⟩, _, _, _, _⟩ :: _) _ _ _; refine cl (callee := .func 39) rfl (fun w hw => hC w (hw.rd spL)) rfl rfl ?_) | refine bnoT rfl ?_ | (show SH _ _ _ _ _ (⟨_, .pick _ _ _, _, _, _, _⟩ :: _) _ _ _; refine pkt rfl tbL evL ?_) | refine nlc rfl ?_ | refine fad rfl ?_ | refine ala rfl (fun b => ?_) | (show SH _ _ _ _ _ (⟨_, .store _ _ _, _, _, _, _⟩ :: _) _ _ _; refine sta rfl rfl rfl spL (by rfl) (by rfl) (by rfl) kpL ?_)) | refine s_nil ?_ | refine kh_normal ?_ | refine bh_normal ?_))
        exact ⟨agL, (i + 1, B2, d2), hsL, by simp only; rw [hFn]; exact enL, hil, by show gl.length - (i + 1) < gl.length - i; omega⟩
      · rw [decide_eq_false h2] at hC
        rw [if_pos ⟨h1, h2⟩] at hFn
        clear h2
        (repeat' (first | (show VH _ _ _ _ _ _ _; first | refine v_seq ?_ | refine r_seq ?_ | refine r_quiet hmix (by kernel_rfl) ?_ | refine v_block ?_ | refine v_skip ?_ | refine v_cond_t rfl tbL ?_) | (show SH _ _ _ _ _ (_ :: _) _ _ _; first | (show SH _ _ _ _ _ (⟨_, _, _, _, _, some _⟩ :: _) _ _ _; (refine gif rfl rfl ?_; refine giTT tbL ?_)) | (show SH _ _ _ _ _ (⟨_, .move _, _, _, _, _⟩ :: _) _ _ _; refine mov evL ?_) | (show SH _ _ _ _ _ (⟨_, .binOp .lss _ _ _ _, _, _, _, _⟩ :: _) _ _ _; refine lssT rfl rfl omD ?_) | (show SH _ _ _ _ _ (⟨_, .binOp .gtr _ _ _ _, _, _, _, _⟩ :: _) _ _ _; refine gtrT rfl rfl omD ?_) | (show SH _ _ _ _ _ (⟨_, .load _ _, _, _, _, _⟩ :: _) _ _ _; first | refine lbx rfl spL (by rfl) ?_ | refine lba rfl spL (by rfl) ?_ | refine lag rfl (fun _ _ => rdS) (by rfl) omL (by assumption) ?_ | refine lrg rfl (fun _ _ => rdS) (by rfl) omL (by assumption) (by rfl) ?_) | (show SH _ _ _ _ _ (⟨_, .indexAddr _ _ _, _, _, _, _⟩ :: _) _ _ _; refine ix rfl rfl (by with_reducible rfl) (fun _ _ => rdS) (by rfl) omL omL ?_) | (show SH _ _ _ _ _ (⟨_, .call ⟨.value (.func 39), _, _⟩, _, _, _, _⟩ :: _) _ _ _; refine cl (callee := .func 39) rfl (fun w hw => hC w (hw.rd spL)) rfl rfl ?_) | refine bnoF rfl ?_ | (show SH _ _ _ _ _ (⟨_, .pick _ _ _, _, _, _, _⟩ :: _) _ _ _; refine pkt rfl tbL evL ?_) | refine nlc rfl ?_ | refine fad rfl ?_ | refine ala rfl (fun b => ?_) | (show SH _ _ _ _ _ (⟨_, .store _ _ _, _, _, _, _⟩ :: _) _ _ _; refine sta rfl rfl rfl spL (by rfl) (by rfl) (by rfl) kpL ?_)) | refine s_nil ?_ | refine kh_normal ?_))
        trace_state
        refine bsl (l := [(⟨mn, mt, mf, ms⟩ : Msg)]) rfl rfl (Vals.cons rfl Vals.nil) rfl rfl (by decide) (fun b9 => ?_)
        (repeat' (first | (show VH _ _ _ _ _ _ _; first | refine v_seq ?_ | refine r_seq ?_ | refine r_quiet hmix (by kernel_rfl) ?_ | refine v_block ?_ | refine v_ret ?_ | refine v_skip ?_ | refine v_exit ?_ | refine v_label ?_ | refine v_cond_t rfl tbL ?_ | refine v_cond_f rfl tbL ?_ | refine v_cond_dec rfl (fun h => ?_) (fun h => ?_) | refine v_cond_ndec rfl (fun h => ?_) (fun h => ?_) | refine v_cond rfl (fun h => ?_) (fun h => ?_)) | (show SH _ _ _ _ _ (_ :: _) _ _ _; first | (show SH _ _ _ _ _ (⟨_, _, _, _, _, some _⟩ :: _) _ _ _; first | (refine gif rfl rfl ?_; first | refine giTT tbL ?_ | refine giTF tbL ?_ | refine giFF tbL ?_ | refine giFT tbL ?_ | refine giTd (fun h => ?_) (fun h => ?_) | refine giFd (fun h => ?_) (fun h => ?_) | refine giT (fun h => ?_) (fun h => ?_) | refine giF (fun h => ?_) (fun h => ?_)) | refine gu rfl rfl ?_ | refine grT rfl rfl tbL ?_ | refine grF rfl rfl tbL ?_) | (show SH _ _ _ _ _ (⟨_, .move _, _, _, _, _⟩ :: _) _ _ _; refine mov evL ?_) | (show SH _ _ _ _ _ (⟨_, .assign _, _, _, _, _⟩ :: _) _ _ _; refine asg evL ?_) | (show SH _ _ _ _ _ (⟨_, .binOp .lss _ _ _ _, _, _, _, _⟩ :: _) _ _ _; first | refine lssT rfl rfl omD ?_ | refine lssF rfl rfl omD ?_ | refine lss rfl rfl ?_) | (show SH _ _ _ _ _ (⟨_, .binOp .gtr _ _ _ _, _, _, _, _⟩ :: _) _ _ _; first | refine gtrT rfl rfl omD ?_ | refine gtrF rfl rfl omD ?_ | refine gtr rfl rfl ?_) | (show SH _ _ _ _ _ (⟨_, .binOp .add _ _ _ _, _, _, _, _⟩ :: _) _ _ _; first | refine add rfl rfl inL ?_ | refine sad rfl rfl omL ?_ | refine adU rfl rfl omL ?_ | refine adI rfl rfl omL ?_) | (show SH _ _ _ _ _ (⟨_, .load _ _, _, _, _, _⟩ :: _) _ _ _; first | refine lbx rfl spL (by rfl) ?_ | refine lba rfl spL (by rfl) ?_ | refine lbs rfl spL (by rfl) (by rfl) ?_ | refine lgi rfl (fun _ _ => rdS) omL (by assumption) ?_ | refine lag rfl (fun _ _ => rdS) (by rfl) omL (by assumption) ?_ | refine lrg rfl (fun _ _ => rdS) (by rfl) omL (by assumption) (by rfl) ?_ | refine lin rfl (fun _ _ => rdS) omL ?_ | refine lbi rfl spL omL ?_ | refine lr1 rfl (fun _ _ => rdS) (by rfl) omL (by rfl) ?_ | refine lra rfl (fun _ _ => rdS) (by rfl) omL ?_ | refine lrf rfl (fun _ _ => rdS) (by rfl) omL (by rfl) ?_ | refine lcell rfl (fun w hw => hw.ext.cell (by assumption)) ?_ | refine lrs rfl (fun _ _ => rdS) (by rfl) omL (by rfl) (by rfl) ?_ | refine lca rfl (fun _ _ => rdS) (by rfl) ?_ | refine lcs rfl (fun _ _ => rdS) (by rfl) ?_ | refine lcf rfl (fun _ _ => rdS) (by rfl) ?_ | refine lrf rfl (fun _ _ => rdS) (by rfl) (by simp only [List.length_cons, List.length_nil]; omega) (by rfl) ?_ | refine lra rfl (fun _ _ => rdS) (by rfl) (by simp only [List.length_cons, List.length_nil]; omega) ?_) | (show SH _ _ _ _ _ (⟨_, .indexAddr _ _ _, _, _, _, _⟩ :: _) _ _ _; first | refine ix rfl rfl (by with_reducible rfl) (fun _ _ => rdS) (by rfl) omL omL ?_ | refine ixi rfl rfl (fun _ _ => rdS) (by rfl) omL omL omL ?_ | refine ixb rfl rfl omL ?_ | refine ixq rfl rfl (by assumption) omL omL ?_ | refine ixA _ rfl rfl rfl omL ?_ | refine ixi rfl rfl (fun _ _ => rdS) (by rfl) omL (by first | omega | (simp only [List.length_cons, List.length_nil]; omega)) (by simp only [List.length_cons, List.length_nil]; omega) ?_) | (show SH _ _ _ _ _ (⟨_, .call ⟨.builtin _, _, _⟩, _, _, _, _⟩ :: _) _ _ _; first | refine slen rfl ?_ | refine sln rfl ?_) | (show SH _ _ _ _ _ (⟨_, .unOp .not _ _, _, _, _, _⟩ :: _) _ _ _; first | refine bnoT rfl ?_ | refine bnoF rfl ?_ | refine bnot rfl ?_) | (show SH _ _ _ _ _ (⟨_, .pick _ _ _, _, _, _, _⟩ :: _) _ _ _; first | refine pkt rfl tbL evL ?_ | refine pkf rfl tbL evL ?_) | refine nlc rfl ?_ | refine fad rfl ?_ | (show SH _ _ _ _ _ (⟨_, .alloc _, _, _, _, _⟩ :: _) _ _ _; first | refine al1 rfl (fun b => ?_) | refine ala rfl (fun b => ?_)) | (show SH _ _ _ _ _ (⟨_, .store _ _ _, _, _, _, _⟩ :: _) _ _ _; first | refine stb rfl rfl evL spL rfl rfl (by first | decide | exact Nat.zero_lt_succ _ | exact of_decide_eq_true rfl) kpL ?_ | refine sta rfl rfl rfl spL (by rfl) (by rfl) (by rfl) kpL ?_ | refine sti rfl rfl rfl spL omL kpL ?_ | refine sbi rfl rfl rfl spL omL kpL ?_ | refine sbs rfl rfl evL spL (by rfl) (by rfl) (of_decide_eq_true rfl) kpL ?_) | (show SH _ _ _ _ _ (⟨_, .buildSlice _ _ _, _, _, _, _⟩ :: _) _ _ _; refine bsl (α := Int) rfl rfl (by repeat (first | exact Vals.nil | (apply Vals.cons; rfl))) rfl (by rfl) (by decide) (fun b => ?_))) | refine s_nil ?_ | refine s_fork ?_ ?_ | refine s_fork3 ?_ ?_ ?_ | refine s_fork4 ?_ ?_ ?_ ?_ | refine kh_normal ?_ | refine kh_ret ?_ | refine kh_exit ?_ | refine bh_normal ?_ | refine bh_ret ?_ | refine bh_exit ?_ | refine bh_exit_ne rfl ?_))
        refine app (l := F i) (l2 := [(⟨mn, mt, mf, ms⟩ : Msg)]) rfl rfl rfl spL (fun w hw => hw.rd spL) rfl rfl rfl (by simp only [List.length_singleton]; omega) (by simp only [List.length_singleton]; omega) (fun A4 c4 => ⟨enL, ?_⟩)
        (repeat' (first | refine r_seq ?_ | (show SH _ _ _ _ _ (_ :: _) _ _ _; first | (show SH _ _ _ _ _ (⟨_, .move _, _, _, _, _⟩ :: _) _ _ _; refine mov evL ?_) | (show SH _ _ _ _ _ (⟨_, .binOp .add _ _ _ _, _, _, _, _⟩ :: _) _ _ _; refine add rfl rfl inL ?_) | (show SH _ _ _ _ _ (⟨_, .store _ _ _, _, _, _, _⟩ :: _) _ _ _; refine stb rfl rfl evL spL rfl rfl (by first | decide | exact Nat.zero_lt_succ _ | exact of_decide_eq_true rfl) kpL ?_)) | refine s_nil ?_ | refine kh_normal ?_ | refine bh_normal ?_))
        exact ⟨agL, (i + 1, A4, c4), hsL, by simp only; rw [hFn]; exact enL, hil, by show gl.length - (i + 1) < gl.length - i; omega⟩
    · rw [if_neg (fun h => h1 h.1), List.append_nil] at hFn
      (repeat' (first | (show VH _ _ _ _ _ _ _; first | refine v_seq ?_ | refine r_seq ?_ | refine r_quiet hmix (by kernel_rfl) ?_ | refine v_block ?_ | refine v_skip ?_ | refine v_cond_t rfl tbL ?_ | refine v_cond_f rfl tbL ?_) | (show SH _ _ _ _ _ (_ :: _) _ _ _; first | (show SH _ _ _ _ _ (⟨_, _, _, _, _, some _⟩ :: _) _ _ _; (refine gif rfl rfl ?_; refine giTF tbL ?_)) | (show SH _ _ _ _ _ (⟨_, .move _, _, _, _, _⟩ :: _) _ _ _; refine mov evL ?_) | (show SH _ _ _ _ _ (⟨_, .binOp .lss _ _ _ _, _, _, _, _⟩ :: _) _ _ _; refine lssT rfl rfl omD ?_) | (show SH _ _ _ _ _ (⟨_, .binOp .gtr _ _ _ _, _, _, _, _⟩ :: _) _ _ _; refine gtrF rfl rfl omD ?_) | (show SH _ _ _ _ _ (⟨_, .binOp .add _ _ _ _, _, _, _, _⟩ :: _) _ _ _; refine add rfl rfl inL ?_) | (show SH _ _ _ _ _ (⟨_, .load _ _, _, _, _, _⟩ :: _) _ _ _; first | refine lbx rfl spL (by rfl) ?_ | refine lag rfl (fun _ _ => rdS) (by rfl) omL (by assumption) ?_) | (show SH _ _ _ _ _ (⟨_, .indexAddr _ _ _, _, _, _, _⟩ :: _) _ _ _; refine ix rfl rfl (by with_reducible rfl) (fun _ _ => rdS) (by rfl) omL omL ?_) | (show SH _ _ _ _ _ (⟨_, .pick _ _ _, _, _, _, _⟩ :: _) _ _ _; refine pkf rfl tbL evL ?_) | refine fad rfl ?_ | refine ala rfl (fun b => ?_) | (show SH _ _ _ _ _ (⟨_, .store _ _ _, _, _, _, _⟩ :: _) _ _ _; refine sta rfl rfl rfl spL (by rfl) (by rfl) (by rfl) kpL ?_)) | refine s_nil ?_ | refine kh_normal ?_ | refine bh_normal ?_))
      exact ⟨agL, (i + 1, B2, d2), hsL, by simp only; rw [hFn]; exact enL, hil, by show gl.length - (i + 1) < gl.length - i; omega⟩
  · obtain rfl : i = gl.length := by omega
    (repeat' (first | (show VH _ _ _ _ _ _ _; first | refine v_seq ?_ | refine r_seq ?_ | refine v_ret ?_ | refine v_exit ?_ | refine v_cond_f rfl tbL ?_) | (show SH _ _ _ _ _ (_ :: _) _ _ _; first | (show SH _ _ _ _ _ (⟨_, .assign _, _, _, _, _⟩ :: _) _ _ _; refine asg evL ?_) | (show SH _ _ _ _ _ (⟨_, .binOp .lss _ _ _ _, _, _, _, _⟩ :: _) _ _ _; refine lssF rfl rfl omD ?_)) | refine s_nil ?_ | refine kh_normal ?_ | refine kh_exit ?_ | refine bh_exit ?_))
    refine rh1 rfl rfl ⟨rfl, allH (hearP ba bo after B2 d2 (F gl.length)), ⟨B2, d2, rfl⟩, A, c, L, B, d, rfl, rfl⟩ ?_
    refine Ent.trans (B := hearP ba bo after B2 d2 (F gl.length) ++ rowG ⟨⟨xi, xl⟩, xA, xca⟩ :: X :: bxR b t s A L.length c B gl.length d :: orow 31 A c L :: orow 36 B d gl :: H) enL ((ent_all_in (hearP ba bo after B2 d2 (F gl.length))).trans ?_)
    exact Ent.trans (B := rowG ⟨⟨xi, xl⟩, xA, xca⟩ :: X :: allH (hearP ba bo after B2 d2 (F gl.length)) :: bxR b t s A L.length c B gl.length d :: orow 31 A c L :: orow 36 B d gl :: H) enL ((hbk _).trans enL)
end Go.Proofs.Ytplhnnlklnbahaa

