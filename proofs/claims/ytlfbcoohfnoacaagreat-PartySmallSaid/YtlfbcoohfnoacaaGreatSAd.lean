/- Package slices: Repeat. Package party: Share, Of. -/
import Derived.Test.YtlfbcoohfnoacaaGreatSAa
import Derived.Test.YtlfbcoohfnoacaaGreatSAb
import Derived.Test.YtlfbcoohfnoacaaGreatSAc
set_option linter.unusedSimpArgs false
set_option linter.unusedVariables false
/- Package slices at ints, invitations and parties (printed by gen_us.py). -/
namespace Go.Proofs.YtlfbcoohfnoacaaGreat
open Go.Fw Go.RowKit
/-- A function value that answers p at the elements of a list. -/
abbrev AsksL {α : Type} [Flat α] (w : World) (fv : Value) (l : List α) (p : α → Bool) : Prop := Fun1 Tryz.prog w fv (fun x : α => .agg (Flat.enc x).toArray) (fun x => .bool (p x)) (· ∈ l)
theorem isNaN_spec (x : Int) (w : World) : Ret Tryz.prog 87 [.int .i64 x].toArray w (Out w (.bool false)) := by
  refine enterH Tryz.func87 rfl rfl Tryz.ntmps87 rfl (Wd.refl _) ?_
  (repeat' (first | (show VH _ _ _ _ _ _ _; first | refine v_seq ?_ | refine r_seq ?_ | refine v_ret ?_) | (show SH _ _ _ _ _ (_ :: _) _ _ _; first | (show SH _ _ _ _ _ (⟨_, .move _, _, _, _, _⟩ :: _) _ _ _; refine mov evL ?_) | (show SH _ _ _ _ _ (⟨_, .assign _, _, _, _, _⟩ :: _) _ _ _; refine asg evL ?_) | (show SH _ _ _ _ _ (⟨_, .binOp .neq _ _ _ _, _, _, _, _⟩ :: _) _ _ _; refine neqF rfl rfl omD ?_)) | refine s_nil ?_ | refine kh_normal ?_))
  exact rh1 rfl rfl ⟨congrArg Value.bool (by simp), rfl⟩ (ent_nil _)
def cmpI (x y : Int) : Int := if x < y then -1 else if y < x then 1 else 0
theorem compare_spec (x y : Int) (w : World) : Ret Tryz.prog 48 [.int .i64 x, .int .i64 y].toArray w (Out w (.int .i64 (cmpI x y))) := by
  refine enterH Tryz.func48 rfl rfl Tryz.ntmps48 rfl (Wd.refl _) ?_
  (repeat' (first | (show VH _ _ _ _ _ _ _; first | refine v_seq ?_ | refine r_seq ?_ | refine v_ret ?_ | refine v_skip ?_ | refine v_cond_f rfl tbL ?_ | refine v_cond_dec rfl (fun h => ?_) (fun h => ?_)) | (show SH _ _ _ _ _ (_ :: _) _ _ _; first | (show SH _ _ _ _ _ (⟨_, .move _, _, _, _, _⟩ :: _) _ _ _; refine mov evL ?_) | (show SH _ _ _ _ _ (⟨_, .assign _, _, _, _, _⟩ :: _) _ _ _; refine asg evL ?_) | refine lss rfl rfl ?_ | refine gtr rfl rfl ?_ | (show SH _ _ _ _ _ (⟨_, .call ⟨.value (.func 87), _, _⟩, _, _, _, _⟩ :: _) _ _ _; refine cl (callee := .func 87) rfl (fun w hw => isNaN_spec _ _) rfl rfl ?_)) | refine s_nil ?_ | refine kh_normal ?_ | refine kh_ret ?_))
  all_goals exact rh1 rfl rfl ⟨congrArg (Value.int .i64) (by simp only [cmpI]; (repeat' split) <;> omega), rfl⟩ (ent_nil _)
abbrev Asks (w : World) (fv : Value) (p : Int → Bool) : Prop := Fun1 Tryz.prog w fv (Value.int .i64) (fun x => .bool (p x)) (fun _ => True)
set_option maxRecDepth 100000 in
theorem indexFunc_spec (A : Option Addr) (l : List Int) (cp : Nat) (fv : Value) (p : Int → Bool) (w : World) (hl : l.length ≤ 1000000) (hr : Rd w A l) (hp : Asks w fv p) :
    Ret Tryz.prog 65 [.slice A l.length cp, fv].toArray w (Out w (.int .i64 (idxOf p l))) := by
  obtain ⟨g0, fst, cap, rfl, hp⟩ := hp
  refine enterH Tryz.func65 rfl rfl Tryz.ntmps65 rfl (Wd.refl _) ?_
  (repeat' (first | (show VH _ _ _ _ _ _ _; first | refine v_seq ?_ | refine r_seq ?_ | refine v_block ?_) | (show SH _ _ _ _ _ (_ :: _) _ _ _; first | (show SH _ _ _ _ _ (⟨_, .move _, _, _, _, _⟩ :: _) _ _ _; refine mov evL ?_) | (show SH _ _ _ _ _ (⟨_, .assign _, _, _, _, _⟩ :: _) _ _ _; refine asg evL ?_) | refine slen rfl ?_) | refine s_nil ?_ | refine kh_normal ?_))
  refine v_loop0 [(4,5),(8,18)] (fun k : Nat => [(8, .int .i64 k)]) (fun k => k ≤ l.length ∧ idxFrom p k (l.drop k) = idxOf p l) (fun k => l.length - k) 0 hsL ⟨Nat.zero_le _, rfl⟩ ?_
  rintro k g ⟨hk, hv⟩
  simp only [sets]
  (repeat' (first | (show VH _ _ _ _ _ _ _; first | refine v_seq ?_ | refine r_seq ?_ | refine v_block ?_ | refine v_ret ?_ | refine v_skip ?_ | refine v_exit ?_ | refine v_cond_dec rfl (fun h => ?_) (fun h => ?_) | refine v_cond rfl (fun h => ?_) (fun h => ?_)) | (show SH _ _ _ _ _ (_ :: _) _ _ _; first | (show SH _ _ _ _ _ (⟨_, .move _, _, _, _, _⟩ :: _) _ _ _; refine mov evL ?_) | (show SH _ _ _ _ _ (⟨_, .assign _, _, _, _, _⟩ :: _) _ _ _; refine asg evL ?_) | refine lss rfl rfl ?_ | (show SH _ _ _ _ _ (⟨_, .binOp .add _ _ _ _, _, _, _, _⟩ :: _) _ _ _; refine add rfl rfl inL ?_) | (show SH _ _ _ _ _ (⟨_, .load _ _, _, _, _, _⟩ :: _) _ _ _; refine lin rfl (fun _ _ => rdP) omL ?_) | (show SH _ _ _ _ _ (⟨_, .indexAddr _ _ _, _, _, _, _⟩ :: _) _ _ _; refine ix rfl rfl (by with_reducible rfl) (fun _ _ => rdP) (by rfl) omL omL ?_) | (show SH _ _ _ _ _ (⟨_, .call ⟨.value (.tmp _), _, _⟩, _, _, _, _⟩ :: _) _ _ _; refine cl (callee := .tmp _) rfl (fun w hw => hp _ hw.ext _ trivial) rfl rfl ?_)) | refine s_nil ?_ | refine kh_normal ?_ | refine kh_ret ?_ | refine kh_exit ?_ | refine bh_normal ?_ | refine bh_ret ?_ | refine bh_exit ?_))
  · exact rh1 rfl rfl ⟨congrArg (Value.int .i64) (by rw [dropI (by omega), idxFrom, if_pos h] at hv; exact hv), rfl⟩ (ent_nil _)
  · refine ⟨agL, k + 1, hsL, enL, ⟨by omega, ?_⟩, by omega⟩
    rw [dropI (by omega), idxFrom, if_neg (by rw [h]; simp)] at hv
    exact hv
  · exact rh1 rfl rfl ⟨congrArg (Value.int .i64) (by rw [List.drop_of_length_le (by omega), idxFrom] at hv; exact hv), rfl⟩ (ent_nil _)
theorem containsFunc_spec (A : Option Addr) (l : List Int) (cp : Nat) (fv : Value) (p : Int → Bool) (w : World) (hl : l.length ≤ 1000000) (hr : Rd w A l) (hp : Asks w fv p) :
    Ret Tryz.prog 26 [.slice A l.length cp, fv].toArray w (Out w (.bool (l.any p))) := by
  refine enterH Tryz.func26 rfl rfl Tryz.ntmps26 rfl (Wd.refl _) ?_
  (repeat' (first | (show VH _ _ _ _ _ _ _; first | refine v_seq ?_ | refine r_seq ?_ | refine v_ret ?_) | (show SH _ _ _ _ _ (_ :: _) _ _ _; first | (show SH _ _ _ _ _ (⟨_, .move _, _, _, _, _⟩ :: _) _ _ _; refine mov evL ?_) | (show SH _ _ _ _ _ (⟨_, .assign _, _, _, _, _⟩ :: _) _ _ _; refine asg evL ?_) | refine geq rfl rfl ?_ | (show SH _ _ _ _ _ (⟨_, .call ⟨.value (.func 65), _, _⟩, _, _, _, _⟩ :: _) _ _ _; refine cl (callee := .func 65) rfl (fun w hw => indexFunc_spec A l cp fv p w hl (hr.ext hw.ext) (hp.ext hw.ext)) rfl rfl ?_)) | refine s_nil ?_ | refine kh_normal ?_))
  exact rh1 rfl rfl ⟨congrArg Value.bool (idxFrom_any p l 0 (by omega)), rfl⟩ (ent_nil _)
abbrev AsksH (w0 : World) (H : List HP) (fv : Value) (p : Int → Bool) : Prop := FunH Tryz.prog w0 H fv (Value.int .i64) (fun x => .bool (p x)) (fun _ => True)
set_option maxHeartbeats 1000000 in
set_option maxRecDepth 100000 in
theorem deleteFunc_spec (A : Option Addr) (l : List Int) (cp : Nat) (fv : Value) (p : Int → Bool) (w0 : World) (H : List HP) (w : World) (hl : l.length ≤ 1000000) (hf : AsksH w0 H fv p) (hw : Wd w0 (orow 3 A cp l :: H) w) :
    Ret Tryz.prog 110 [.slice A l.length cp, fv].toArray w (RP w0 fun v H' => v = .slice A (l.filter fun x => !p x).length cp ∧ H' = orow 3 A cp (l.filter fun x => !p x) :: H) := by
  have hcap := (own_cap (hw.own Split.head)).1
  have hi0 := idxFrom_spec p l 0
  have hib : -1 ≤ idxOf p l ∧ idxOf p l ≤ l.length := by
    unfold idxOf
    rcases hi0 with ⟨h, _⟩ | ⟨i, h1, h2, _⟩ <;> omega
  have hf' := hf
  obtain ⟨g0, fst, cap, rfl, hp⟩ := hf'
  refine enterH Tryz.func110 rfl rfl Tryz.ntmps110 rfl (by assumption) ?_
  (repeat' (first | (show VH _ _ _ _ _ _ _; first | refine v_seq ?_ | refine r_seq ?_ | refine v_block ?_ | refine v_ret ?_ | refine v_skip ?_ | refine v_cond_dec rfl (fun h => ?_) (fun h => ?_)) | (show SH _ _ _ _ _ (_ :: _) _ _ _; first | (show SH _ _ _ _ _ (⟨_, .move _, _, _, _, _⟩ :: _) _ _ _; refine mov evL ?_) | (show SH _ _ _ _ _ (⟨_, .assign _, _, _, _, _⟩ :: _) _ _ _; refine asg evL ?_) | refine eql rfl rfl ?_ | (show SH _ _ _ _ _ (⟨_, .binOp .add _ _ _ _, _, _, _, _⟩ :: _) _ _ _; refine add rfl rfl inL ?_) | (show SH _ _ _ _ _ (⟨_, .call ⟨.value (.func 65), _, _⟩, _, _, _, _⟩ :: _) _ _ _; refine cl (callee := .func 65) rfl (fun w hw => indexFunc_spec A l cp _ p w hl (hw.rd spL) (hf.fun1 (Ent.wd enL hw))) rfl rfl ?_)) | refine s_nil ?_ | refine kh_normal ?_ | refine kh_ret ?_))
  · have hn : l.any p = false := by
      rcases hi0 with ⟨_, h2⟩ | ⟨i, h1, h2, _⟩
      · exact h2
      · unfold idxOf at h; omega
    exact rh1 rfl rfl ⟨by rw [filter_none p l hn]; rfl, by rw [filter_none p l hn]⟩ (ent_refl _)
  · rcases hi0 with ⟨h1, _⟩ | ⟨i0, h1, h2, h3⟩
    · exact absurd h1 h
    · have hi : idxOf p l = (i0 : Int) := by unfold idxOf; omega
      rw [hi]
      (repeat' (first | (show VH _ _ _ _ _ _ _; first | refine v_seq ?_ | refine r_seq ?_ | refine r_quiet hmix (by kernel_rfl) ?_ | refine v_block ?_ | refine v_ret ?_ | refine v_skip ?_ | refine v_exit ?_ | refine v_label ?_ | refine v_cond_t rfl tbL ?_ | refine v_cond_f rfl tbL ?_ | refine v_cond_dec rfl (fun h => ?_) (fun h => ?_) | refine v_cond_ndec rfl (fun h => ?_) (fun h => ?_) | refine v_cond rfl (fun h => ?_) (fun h => ?_)) | (show SH _ _ _ _ _ (_ :: _) _ _ _; first | (show SH _ _ _ _ _ (⟨_, .move _, _, _, _, _⟩ :: _) _ _ _; refine mov evL ?_) | (show SH _ _ _ _ _ (⟨_, .assign _, _, _, _, _⟩ :: _) _ _ _; refine asg evL ?_) | (show SH _ _ _ _ _ (⟨_, .binOp .lss _ _ _ _, _, _, _, _⟩ :: _) _ _ _; first | refine lssT rfl rfl omD ?_ | refine lssF rfl rfl omD ?_ | refine lss rfl rfl ?_) | (show SH _ _ _ _ _ (⟨_, .binOp .eql _ _ _ _, _, _, _, _⟩ :: _) _ _ _; first | refine eqlT rfl rfl omD ?_ | refine eqlF rfl rfl omD ?_ | refine eql rfl rfl ?_ | refine eqn rfl rfl ?_ | refine eqb rfl rfl ?_) | (show SH _ _ _ _ _ (⟨_, .binOp .add _ _ _ _, _, _, _, _⟩ :: _) _ _ _; refine add rfl rfl inL ?_) | (show SH _ _ _ _ _ (⟨_, .load _ _, _, _, _, _⟩ :: _) _ _ _; first | refine lbx rfl spL (by rfl) ?_ | refine lba rfl spL (by rfl) ?_ | refine lbs rfl spL (by rfl) (by rfl) ?_ | refine lin rfl (fun _ _ => rdP) omL ?_ | refine lbi rfl spL omL ?_ | refine lr1 rfl (fun _ _ => rdP) (by rfl) omL (by rfl) ?_ | refine lra rfl (fun _ _ => rdP) (by rfl) omL ?_ | refine lrf rfl (fun _ _ => rdP) (by rfl) omL (by rfl) ?_ | refine lcell rfl (fun w hw => hw.ext.cell (by assumption)) ?_ | refine lrs rfl (fun _ _ => rdP) (by rfl) omL (by rfl) (by rfl) ?_ | refine lca rfl (fun _ _ => rdP) (by rfl) ?_ | refine lcs rfl (fun _ _ => rdP) (by rfl) ?_ | refine lcf rfl (fun _ _ => rdP) (by rfl) ?_ | refine lrf rfl (fun _ _ => rdP) (by rfl) (by simp only [List.length_cons, List.length_nil]; omega) (by rfl) ?_ | refine lra rfl (fun _ _ => rdP) (by rfl) (by simp only [List.length_cons, List.length_nil]; omega) ?_) | (show SH _ _ _ _ _ (⟨_, .indexAddr _ _ _, _, _, _, _⟩ :: _) _ _ _; first | refine ix rfl rfl (by with_reducible rfl) (fun _ _ => rdP) (by rfl) omL omL ?_ | refine ixi rfl rfl (fun _ _ => rdP) (by rfl) omL omL omL ?_ | refine ixb rfl rfl omL ?_ | refine ixq rfl rfl (by assumption) omL omL ?_ | refine ixA _ rfl rfl rfl omL ?_ | refine ixi rfl rfl (fun _ _ => rdP) (by rfl) omL (by first | omega | (simp only [List.length_cons, List.length_nil]; omega)) (by simp only [List.length_cons, List.length_nil]; omega) ?_) | refine slen rfl ?_ | (show SH _ _ _ _ _ (⟨_, .unOp .not _ _, _, _, _, _⟩ :: _) _ _ _; first | refine bnoT rfl ?_ | refine bnoF rfl ?_ | refine bnot rfl ?_) | (show SH _ _ _ _ _ (⟨_, .slice _ _ _ _ _, _, _, _, _⟩ :: _) _ _ _; first | refine sla rfl rfl omL omL ?_ | refine slh rfl rfl omL omL ?_ | refine sll rfl rfl omL omL ?_) | (show SH _ _ _ _ _ (⟨_, .store _ _ _, _, _, _, _⟩ :: _) _ _ _; first | refine stb rfl rfl evL spL rfl rfl (by first | decide | exact Nat.zero_lt_succ _ | exact of_decide_eq_true rfl) kpL ?_ | refine sta rfl rfl rfl spL (by rfl) (by rfl) (by rfl) kpL ?_ | refine sti rfl rfl rfl spL omL kpL ?_ | refine sbi rfl rfl rfl spL omL kpL ?_ | refine sbs rfl rfl evL spL (by rfl) (by rfl) (of_decide_eq_true rfl) kpL ?_)) | refine s_nil ?_ | refine s_fork ?_ ?_ | refine s_fork3 ?_ ?_ ?_ | refine s_fork4 ?_ ?_ ?_ ?_ | refine kh_normal ?_ | refine kh_ret ?_ | refine kh_exit ?_ | refine bh_normal ?_ | refine bh_ret ?_ | refine bh_exit ?_ | refine bh_exit_ne rfl ?_))
      refine v_loop [(5,7),(16,35)] (fun y : (Nat × Nat) × List Int => [(5, .int .i64 y.1.1), (6, .int .i64 y.1.2)]) (fun y => orow 3 A cp y.2 :: H)
        (fun y => y.1.1 < y.1.2 ∧ y.1.2 ≤ l.length ∧ y.2.length = l.length ∧ y.2.take y.1.1 = (l.take y.1.2).filter (fun x => !p x) ∧ y.2.drop y.1.2 = l.drop y.1.2) (fun y => l.length - y.1.2) ((i0, i0 + 1), l) hsL enL ⟨by simp, by simp; omega, rfl, h3.symm, rfl⟩ ?_
      rintro ⟨⟨i, j⟩, L⟩ g ⟨hij, hj, hL, ht, hd⟩
      simp only [sets]
      simp only at hij hj hL ht hd
      have hg := getD_of_drop (0 : Int) hd hL
      have hd' := drop_next hd
      by_cases hjl : j < l.length
      · cases hb : p (L.getD j 0) with
        | false =>
          have hnp : (!p (l.getD j 0)) = true := by rw [← hg, hb]; rfl
          have hp' : ∀ w, Wd w0 H w → Ret Tryz.prog g0 (fst.toList ++ [Value.int .i64 (L.getD j 0)] ++ cap.toList).toArray w (Out w (.bool false)) := fun w hw => by
            have := hp w hw (L.getD j 0) trivial
            simp only [hb] at this
            exact this
          (repeat' (first | (show VH _ _ _ _ _ _ _; first | refine v_seq ?_ | refine r_seq ?_ | refine v_block ?_ | refine v_skip ?_ | refine v_cond_t rfl tbL ?_) | (show SH _ _ _ _ _ (_ :: _) _ _ _; first | (show SH _ _ _ _ _ (⟨_, .move _, _, _, _, _⟩ :: _) _ _ _; refine mov evL ?_) | (show SH _ _ _ _ _ (⟨_, .assign _, _, _, _, _⟩ :: _) _ _ _; refine asg evL ?_) | (show SH _ _ _ _ _ (⟨_, .binOp .lss _ _ _ _, _, _, _, _⟩ :: _) _ _ _; refine lssT rfl rfl omD ?_) | (show SH _ _ _ _ _ (⟨_, .binOp .add _ _ _ _, _, _, _, _⟩ :: _) _ _ _; refine add rfl rfl inL ?_) | (show SH _ _ _ _ _ (⟨_, .load _ _, _, _, _, _⟩ :: _) _ _ _; refine lin rfl (fun _ _ => rdP) omL ?_) | (show SH _ _ _ _ _ (⟨_, .indexAddr _ _ _, _, _, _, _⟩ :: _) _ _ _; refine ix rfl rfl (by with_reducible rfl) (fun _ _ => rdP) (by rfl) omL omL ?_) | refine slen rfl ?_ | (show SH _ _ _ _ _ (⟨_, .call ⟨.value (.tmp _), _, _⟩, _, _, _, _⟩ :: _) _ _ _; refine cl (callee := .tmp _) rfl (fun w hw => hp' w (Ent.wd enL hw)) rfl rfl ?_) | refine bnoF rfl ?_ | (show SH _ _ _ _ _ (⟨_, .store _ _ _, _, _, _, _⟩ :: _) _ _ _; refine sti rfl rfl rfl spL omL kpL ?_)) | refine s_nil ?_ | refine kh_normal ?_ | refine bh_normal ?_))
          refine ⟨agL, ((i + 1, j + 1), L.set i (L.getD j 0)), hsL, enL, ⟨by show i + 1 < j + 1; omega, by show j + 1 ≤ _; omega, by simpa using hL, ?_, ?_⟩, by show l.length - (j + 1) < l.length - j; omega⟩
          · show (L.set i (L.getD j 0)).take (i + 1) = (l.take (j + 1)).filter _
            rw [take_set_self L i _ (by omega), ht, take_snoc (d := (0 : Int)) hjl, List.filter_append, List.filter_cons, hg, if_pos hnp]
            rfl
          · show (L.set i (L.getD j 0)).drop (j + 1) = _
            rw [drop_set_later _ _ _ _ (by omega)]; exact hd'
        | true =>
          have hnp : (!p (l.getD j 0)) = false := by rw [← hg, hb]; rfl
          have hp' : ∀ w, Wd w0 H w → Ret Tryz.prog g0 (fst.toList ++ [Value.int .i64 (L.getD j 0)] ++ cap.toList).toArray w (Out w (.bool true)) := fun w hw => by
            have := hp w hw (L.getD j 0) trivial
            simp only [hb] at this
            exact this
          (repeat' (first | (show VH _ _ _ _ _ _ _; first | refine v_seq ?_ | refine r_seq ?_ | refine v_block ?_ | refine v_skip ?_ | refine v_cond_t rfl tbL ?_ | refine v_cond_f rfl tbL ?_) | (show SH _ _ _ _ _ (_ :: _) _ _ _; first | (show SH _ _ _ _ _ (⟨_, .move _, _, _, _, _⟩ :: _) _ _ _; refine mov evL ?_) | (show SH _ _ _ _ _ (⟨_, .assign _, _, _, _, _⟩ :: _) _ _ _; refine asg evL ?_) | (show SH _ _ _ _ _ (⟨_, .binOp .lss _ _ _ _, _, _, _, _⟩ :: _) _ _ _; refine lssT rfl rfl omD ?_) | (show SH _ _ _ _ _ (⟨_, .binOp .add _ _ _ _, _, _, _, _⟩ :: _) _ _ _; refine add rfl rfl inL ?_) | (show SH _ _ _ _ _ (⟨_, .load _ _, _, _, _, _⟩ :: _) _ _ _; refine lin rfl (fun _ _ => rdP) omL ?_) | (show SH _ _ _ _ _ (⟨_, .indexAddr _ _ _, _, _, _, _⟩ :: _) _ _ _; refine ix rfl rfl (by with_reducible rfl) (fun _ _ => rdP) (by rfl) omL omL ?_) | refine slen rfl ?_ | (show SH _ _ _ _ _ (⟨_, .call ⟨.value (.tmp _), _, _⟩, _, _, _, _⟩ :: _) _ _ _; refine cl (callee := .tmp _) rfl (fun w hw => hp' w (Ent.wd enL hw)) rfl rfl ?_) | refine bnoT rfl ?_) | refine s_nil ?_ | refine kh_normal ?_ | refine bh_normal ?_))
          refine ⟨agL, ((i, j + 1), L), hsL, enL, ⟨by show i < j + 1; omega, by show j + 1 ≤ _; omega, hL, ?_, hd'⟩, by show l.length - (j + 1) < l.length - j; omega⟩
          show L.take i = (l.take (j + 1)).filter _
          rw [ht, take_snoc (d := (0 : Int)) hjl, List.filter_append, List.filter_cons, if_neg (by rw [hnp]; simp), List.filter_nil, List.append_nil]
      · have hjl : j = l.length := by omega
        subst hjl
        rw [List.take_length] at ht
        (repeat' (first | (show VH _ _ _ _ _ _ _; first | refine v_seq ?_ | refine r_seq ?_ | refine v_exit ?_ | refine v_cond_f rfl tbL ?_) | (show SH _ _ _ _ _ (_ :: _) _ _ _; first | (show SH _ _ _ _ _ (⟨_, .move _, _, _, _, _⟩ :: _) _ _ _; refine mov evL ?_) | (show SH _ _ _ _ _ (⟨_, .binOp .lss _ _ _ _, _, _, _, _⟩ :: _) _ _ _; refine lssF rfl rfl omD ?_) | refine slen rfl ?_ | (show SH _ _ _ _ _ (⟨_, .slice _ _ _ _ _, _, _, _, _⟩ :: _) _ _ _; refine sll rfl rfl omL omL ?_)) | refine s_nil ?_ | refine kh_normal ?_ | refine kh_exit ?_ | refine bh_exit ?_))
        refine clr rfl rfl spL (j := i) (by rfl) (by rw [hL]; rfl) (by omega) trivial ?_
        (repeat' (first | (show VH _ _ _ _ _ _ _; first | refine v_seq ?_ | refine r_seq ?_ | refine v_ret ?_) | (show SH _ _ _ _ _ (_ :: _) _ _ _; first | (show SH _ _ _ _ _ (⟨_, .move _, _, _, _, _⟩ :: _) _ _ _; refine mov evL ?_) | (show SH _ _ _ _ _ (⟨_, .assign _, _, _, _, _⟩ :: _) _ _ _; refine asg evL ?_) | (show SH _ _ _ _ _ (⟨_, .slice _ _ _ _ _, _, _, _, _⟩ :: _) _ _ _; refine slh rfl rfl omL omL ?_)) | refine s_nil ?_ | refine kh_normal ?_))
        have hil : i = (l.filter fun x => !p x).length := by rw [← ht, List.length_take]; omega
        exact rh1 rfl rfl ⟨congrArg (fun m => Value.slice A m cp) hil, by rw [ht]⟩ (ent_refl _)
theorem clone_spec (A : Option Addr) (l : List Int) (cp : Nat) (w : World) (hl : l.length ≤ 1000000) (hr : Rd w A l) :
    Ret Tryz.prog 90 [.slice A l.length cp].toArray w (RP w (Fresh 3 l)) := by
  refine enterH Tryz.func90 rfl rfl Tryz.ntmps90 rfl (Wd.refl _) ?_
  (repeat' (first | (show VH _ _ _ _ _ _ _; first | refine v_seq ?_ | refine r_seq ?_ | refine v_ret ?_ | refine v_skip ?_ | refine v_cond rfl (fun h => ?_) (fun h => ?_)) | (show SH _ _ _ _ _ (_ :: _) _ _ _; first | (show SH _ _ _ _ _ (⟨_, .move _, _, _, _, _⟩ :: _) _ _ _; refine mov evL ?_) | (show SH _ _ _ _ _ (⟨_, .assign _, _, _, _, _⟩ :: _) _ _ _; refine asg evL ?_) | refine eqn rfl rfl ?_ | (show SH _ _ _ _ _ (⟨_, .buildSlice _ _ _, _, _, _, _⟩ :: _) _ _ _; refine bsl (α := Int) rfl rfl (by repeat (first | exact Vals.nil | (apply Vals.cons; rfl))) rfl (by rfl) (by decide) (fun b => ?_))) | refine s_nil ?_ | refine kh_normal ?_ | refine kh_ret ?_))
  · cases A with
    | some a => simp at h
    | none =>
      have := hr.none
      subst this
      exact rh1 rfl rfl ⟨none, 0, rfl, rfl⟩ (ent_nilrow (ent_nil _))
  · refine app rfl rfl rfl spL (fun _ _ => rdP) rfl rfl rfl (by simp; omega) (by simp; omega) (fun A' cp' => ⟨trivial, ?_⟩)
    (repeat' (first | refine v_ret ?_ | (show SH _ _ _ _ _ (_ :: _) _ _ _; (show SH _ _ _ _ _ (⟨_, .assign _, _, _, _, _⟩ :: _) _ _ _; refine asg evL ?_)) | refine s_nil ?_ | refine kh_normal ?_))
    exact rh1 rfl rfl ⟨A', cp', rfl, rfl⟩ enL
theorem any_mem36 (u : Int) (l : List Int) : l.any (fun x => decide (u = x)) = decide (u ∈ l) := by
  rw [Bool.eq_iff_iff, List.any_eq_true, decide_eq_true_eq]
  exact ⟨fun ⟨x, h, e⟩ => by rw [of_decide_eq_true e]; exact h, fun h => ⟨u, h, decide_eq_true rfl⟩⟩
set_option maxRecDepth 100000 in
theorem index_spec (A : Option Addr) (l : List Int) (cp : Nat) (u : Int) (w : World) (hl : l.length ≤ 1000000) (hr : Rd w A l) :
    Ret Tryz.prog 64 [.slice A l.length cp, .int .i64 u].toArray w (Out w (.int .i64 (idxOf (fun x => decide (u = x)) l))) := by
  refine enterH Tryz.func64 rfl rfl Tryz.ntmps64 rfl (Wd.refl _) ?_
  (repeat' (first | (show VH _ _ _ _ _ _ _; first | refine v_seq ?_ | refine r_seq ?_ | refine v_block ?_) | (show SH _ _ _ _ _ (_ :: _) _ _ _; first | (show SH _ _ _ _ _ (⟨_, .move _, _, _, _, _⟩ :: _) _ _ _; refine mov evL ?_) | (show SH _ _ _ _ _ (⟨_, .assign _, _, _, _, _⟩ :: _) _ _ _; refine asg evL ?_) | refine slen rfl ?_) | refine s_nil ?_ | refine kh_normal ?_))
  refine v_loop0 [(4,5),(8,18)] (fun k : Nat => [(8, .int .i64 k)]) (fun k => k ≤ l.length ∧ idxFrom (fun x => decide (u = x)) k (l.drop k) = idxOf (fun x => decide (u = x)) l) (fun k => l.length - k) 0 hsL ⟨Nat.zero_le _, rfl⟩ ?_
  rintro k g ⟨hk, hv⟩
  simp only [sets]
  by_cases hkl : k < l.length
  · rw [dropI hkl, idxFrom] at hv
    by_cases hu : u = l.getD k 0
    · rw [if_pos (decide_eq_true hu)] at hv
      (repeat' (first | (show VH _ _ _ _ _ _ _; first | refine v_seq ?_ | refine r_seq ?_ | refine v_block ?_ | refine v_ret ?_ | refine v_skip ?_ | refine v_cond_t rfl tbL ?_) | (show SH _ _ _ _ _ (_ :: _) _ _ _; first | (show SH _ _ _ _ _ (⟨_, .move _, _, _, _, _⟩ :: _) _ _ _; refine mov evL ?_) | (show SH _ _ _ _ _ (⟨_, .assign _, _, _, _, _⟩ :: _) _ _ _; refine asg evL ?_) | (show SH _ _ _ _ _ (⟨_, .binOp .lss _ _ _ _, _, _, _, _⟩ :: _) _ _ _; refine lssT rfl rfl omD ?_) | (show SH _ _ _ _ _ (⟨_, .binOp .eql _ _ _ _, _, _, _, _⟩ :: _) _ _ _; refine eqlT rfl rfl omD ?_) | (show SH _ _ _ _ _ (⟨_, .load _ _, _, _, _, _⟩ :: _) _ _ _; refine lin rfl (fun _ _ => rdP) omL ?_) | (show SH _ _ _ _ _ (⟨_, .indexAddr _ _ _, _, _, _, _⟩ :: _) _ _ _; refine ix rfl rfl (by with_reducible rfl) (fun _ _ => rdP) (by rfl) omL omL ?_)) | refine s_nil ?_ | refine kh_normal ?_ | refine kh_ret ?_ | refine bh_ret ?_))
      exact rh1 rfl rfl ⟨congrArg (Value.int .i64) hv, rfl⟩ (ent_nil _)
    · rw [if_neg (by rw [decide_eq_true_eq]; exact hu)] at hv
      (repeat' (first | (show VH _ _ _ _ _ _ _; first | refine v_seq ?_ | refine r_seq ?_ | refine v_block ?_ | refine v_skip ?_ | refine v_cond_t rfl tbL ?_ | refine v_cond_f rfl tbL ?_) | (show SH _ _ _ _ _ (_ :: _) _ _ _; first | (show SH _ _ _ _ _ (⟨_, .move _, _, _, _, _⟩ :: _) _ _ _; refine mov evL ?_) | (show SH _ _ _ _ _ (⟨_, .assign _, _, _, _, _⟩ :: _) _ _ _; refine asg evL ?_) | (show SH _ _ _ _ _ (⟨_, .binOp .lss _ _ _ _, _, _, _, _⟩ :: _) _ _ _; refine lssT rfl rfl omD ?_) | (show SH _ _ _ _ _ (⟨_, .binOp .eql _ _ _ _, _, _, _, _⟩ :: _) _ _ _; refine eqlF rfl rfl omD ?_) | (show SH _ _ _ _ _ (⟨_, .binOp .add _ _ _ _, _, _, _, _⟩ :: _) _ _ _; refine add rfl rfl inL ?_) | (show SH _ _ _ _ _ (⟨_, .load _ _, _, _, _, _⟩ :: _) _ _ _; refine lin rfl (fun _ _ => rdP) omL ?_) | (show SH _ _ _ _ _ (⟨_, .indexAddr _ _ _, _, _, _, _⟩ :: _) _ _ _; refine ix rfl rfl (by with_reducible rfl) (fun _ _ => rdP) (by rfl) omL omL ?_)) | refine s_nil ?_ | refine kh_normal ?_ | refine bh_normal ?_))
      exact ⟨agL, k + 1, hsL, enL, ⟨by omega, hv⟩, by omega⟩
  · rw [List.drop_of_length_le (by omega), idxFrom] at hv
    (repeat' (first | (show VH _ _ _ _ _ _ _; first | refine v_seq ?_ | refine r_seq ?_ | refine v_ret ?_ | refine v_exit ?_ | refine v_cond_f rfl tbL ?_) | (show SH _ _ _ _ _ (_ :: _) _ _ _; first | (show SH _ _ _ _ _ (⟨_, .assign _, _, _, _, _⟩ :: _) _ _ _; refine asg evL ?_) | (show SH _ _ _ _ _ (⟨_, .binOp .lss _ _ _ _, _, _, _, _⟩ :: _) _ _ _; refine lssF rfl rfl omD ?_)) | refine s_nil ?_ | refine kh_normal ?_ | refine kh_exit ?_ | refine bh_exit ?_))
    exact rh1 rfl rfl ⟨congrArg (Value.int .i64) hv, rfl⟩ (ent_nil _)
theorem contains_spec (A : Option Addr) (l : List Int) (cp : Nat) (u : Int) (w : World) (hl : l.length ≤ 1000000) (hr : Rd w A l) :
    Ret Tryz.prog 24 [.slice A l.length cp, .int .i64 u].toArray w (Out w (.bool (decide (u ∈ l)))) := by
  refine enterH Tryz.func24 rfl rfl Tryz.ntmps24 rfl (Wd.refl _) ?_
  (repeat' (first | (show VH _ _ _ _ _ _ _; first | refine v_seq ?_ | refine r_seq ?_ | refine v_ret ?_) | (show SH _ _ _ _ _ (_ :: _) _ _ _; first | (show SH _ _ _ _ _ (⟨_, .move _, _, _, _, _⟩ :: _) _ _ _; refine mov evL ?_) | (show SH _ _ _ _ _ (⟨_, .assign _, _, _, _, _⟩ :: _) _ _ _; refine asg evL ?_) | refine geq rfl rfl ?_ | (show SH _ _ _ _ _ (⟨_, .call ⟨.value (.func 64), _, _⟩, _, _, _, _⟩ :: _) _ _ _; refine cl (callee := .func 64) rfl (fun w hw => index_spec A l cp u w hl (hr.ext hw.ext)) rfl rfl ?_)) | refine s_nil ?_ | refine kh_normal ?_))
  exact rh1 rfl rfl ⟨congrArg Value.bool ((idxFrom_any (fun x => decide (u = x)) l 0 (by omega)).trans (any_mem36 u l)), rfl⟩ (ent_nil _)
abbrev AsksIv (w : World) (fv : Value) (p : Inv → Bool) : Prop := Fun1 Tryz.prog w fv (fun x : Inv => .agg (Flat.enc x).toArray) (fun x => .bool (p x)) (fun _ => True)
set_option maxRecDepth 100000 in
theorem indexFuncIv_spec (A : Option Addr) (l : List Inv) (cp : Nat) (fv : Value) (p : Inv → Bool) (w : World) (hl : l.length ≤ 1000000) (hr : Rd w A l) (hp : AsksIv w fv p) :
    Ret Tryz.prog 107 [.slice A l.length cp, fv].toArray w (Out w (.int .i64 (idxOf p l))) := by
  obtain ⟨g0, fst, cap, rfl, hp⟩ := hp
  refine enterH Tryz.func107 rfl rfl Tryz.ntmps107 rfl (Wd.refl _) ?_
  (repeat' (first | (show VH _ _ _ _ _ _ _; first | refine v_seq ?_ | refine r_seq ?_ | refine v_block ?_) | (show SH _ _ _ _ _ (_ :: _) _ _ _; first | (show SH _ _ _ _ _ (⟨_, .move _, _, _, _, _⟩ :: _) _ _ _; refine mov evL ?_) | (show SH _ _ _ _ _ (⟨_, .assign _, _, _, _, _⟩ :: _) _ _ _; refine asg evL ?_) | refine slen rfl ?_) | refine s_nil ?_ | refine kh_normal ?_))
  refine v_loop0 [(4,5),(8,18)] (fun k : Nat => [(8, .int .i64 k)]) (fun k => k ≤ l.length ∧ idxFrom p k (l.drop k) = idxOf p l) (fun k => l.length - k) 0 hsL ⟨Nat.zero_le _, rfl⟩ ?_
  rintro k g ⟨hk, hv⟩
  simp only [sets]
  (repeat' (first | (show VH _ _ _ _ _ _ _; first | refine v_seq ?_ | refine r_seq ?_ | refine v_block ?_ | refine v_ret ?_ | refine v_skip ?_ | refine v_exit ?_ | refine v_cond_dec rfl (fun h => ?_) (fun h => ?_) | refine v_cond rfl (fun h => ?_) (fun h => ?_)) | (show SH _ _ _ _ _ (_ :: _) _ _ _; first | (show SH _ _ _ _ _ (⟨_, .move _, _, _, _, _⟩ :: _) _ _ _; refine mov evL ?_) | (show SH _ _ _ _ _ (⟨_, .assign _, _, _, _, _⟩ :: _) _ _ _; refine asg evL ?_) | refine lss rfl rfl ?_ | (show SH _ _ _ _ _ (⟨_, .binOp .add _ _ _ _, _, _, _, _⟩ :: _) _ _ _; refine add rfl rfl inL ?_) | (show SH _ _ _ _ _ (⟨_, .load _ _, _, _, _, _⟩ :: _) _ _ _; first | refine lra rfl (fun _ _ => rdP) (by rfl) omL ?_ | refine lra rfl (fun _ _ => rdP) (by rfl) (by simp only [List.length_cons, List.length_nil]; omega) ?_) | (show SH _ _ _ _ _ (⟨_, .indexAddr _ _ _, _, _, _, _⟩ :: _) _ _ _; refine ix rfl rfl (by with_reducible rfl) (fun _ _ => rdP) (by rfl) omL omL ?_) | (show SH _ _ _ _ _ (⟨_, .call ⟨.value (.tmp _), _, _⟩, _, _, _, _⟩ :: _) _ _ _; refine cl (callee := .tmp _) rfl (fun w hw => hp _ hw.ext _ trivial) rfl rfl ?_)) | refine s_nil ?_ | refine kh_normal ?_ | refine kh_ret ?_ | refine kh_exit ?_ | refine bh_normal ?_ | refine bh_ret ?_ | refine bh_exit ?_))
  · exact rh1 rfl rfl ⟨congrArg (Value.int .i64) (by rw [drop_cons (d := Flat.dflt) (by omega), idxFrom, if_pos h] at hv; exact hv), rfl⟩ (ent_nil _)
  · refine ⟨agL, k + 1, hsL, enL, ⟨by omega, ?_⟩, by omega⟩
    rw [drop_cons (d := Flat.dflt) (by omega), idxFrom, if_neg (by rw [h]; simp)] at hv
    exact hv
  · exact rh1 rfl rfl ⟨congrArg (Value.int .i64) (by rw [List.drop_of_length_le (by omega), idxFrom] at hv; exact hv), rfl⟩ (ent_nil _)
abbrev AsksHIv (w0 : World) (H : List HP) (fv : Value) (p : Inv → Bool) : Prop := FunH Tryz.prog w0 H fv (fun x : Inv => .agg (Flat.enc x).toArray) (fun x => .bool (p x)) (fun _ => True)
set_option maxHeartbeats 1000000 in
set_option maxRecDepth 100000 in
theorem deleteFuncIv_spec (A : Option Addr) (l : List Inv) (cp : Nat) (fv : Value) (p : Inv → Bool) (w0 : World) (H : List HP) (w : World) (hl : l.length ≤ 1000000) (hf : AsksHIv w0 H fv p) (hw : Wd w0 (orow 61 A cp l :: H) w) :
    Ret Tryz.prog 111 [.slice A l.length cp, fv].toArray w (RP w0 fun v H' => v = .slice A (l.filter fun x => !p x).length cp ∧ H' = orow 61 A cp (l.filter fun x => !p x) :: H) := by
  have hcap := (own_cap (hw.own Split.head)).1
  have hi0 := idxFrom_spec p l 0
  have hib : -1 ≤ idxOf p l ∧ idxOf p l ≤ l.length := by
    unfold idxOf
    rcases hi0 with ⟨h, _⟩ | ⟨i, h1, h2, _⟩ <;> omega
  have hf' := hf
  obtain ⟨g0, fst, cap, rfl, hp⟩ := hf'
  refine enterH Tryz.func111 rfl rfl Tryz.ntmps111 rfl (by assumption) ?_
  (repeat' (first | (show VH _ _ _ _ _ _ _; first | refine v_seq ?_ | refine r_seq ?_ | refine v_block ?_ | refine v_ret ?_ | refine v_skip ?_ | refine v_cond_dec rfl (fun h => ?_) (fun h => ?_)) | (show SH _ _ _ _ _ (_ :: _) _ _ _; first | (show SH _ _ _ _ _ (⟨_, .move _, _, _, _, _⟩ :: _) _ _ _; refine mov evL ?_) | (show SH _ _ _ _ _ (⟨_, .assign _, _, _, _, _⟩ :: _) _ _ _; refine asg evL ?_) | refine eql rfl rfl ?_ | (show SH _ _ _ _ _ (⟨_, .binOp .add _ _ _ _, _, _, _, _⟩ :: _) _ _ _; refine add rfl rfl inL ?_) | (show SH _ _ _ _ _ (⟨_, .call ⟨.value (.func 107), _, _⟩, _, _, _, _⟩ :: _) _ _ _; refine cl (callee := .func 107) rfl (fun w hw => indexFuncIv_spec A l cp _ p w hl (hw.rd spL) (hf.fun1 (Ent.wd enL hw))) rfl rfl ?_)) | refine s_nil ?_ | refine kh_normal ?_ | refine kh_ret ?_))
  · have hn : l.any p = false := by
      rcases hi0 with ⟨_, h2⟩ | ⟨i, h1, h2, _⟩
      · exact h2
      · unfold idxOf at h; omega
    exact rh1 rfl rfl ⟨by rw [filter_none p l hn]; rfl, by rw [filter_none p l hn]⟩ (ent_refl _)
  · rcases hi0 with ⟨h1, _⟩ | ⟨i0, h1, h2, h3⟩
    · exact absurd h1 h
    · have hi : idxOf p l = (i0 : Int) := by unfold idxOf; omega
      rw [hi]
      (repeat' (first | (show VH _ _ _ _ _ _ _; first | refine v_seq ?_ | refine r_seq ?_ | refine r_quiet hmix (by kernel_rfl) ?_ | refine v_block ?_ | refine v_ret ?_ | refine v_skip ?_ | refine v_exit ?_ | refine v_label ?_ | refine v_cond_t rfl tbL ?_ | refine v_cond_f rfl tbL ?_ | refine v_cond_dec rfl (fun h => ?_) (fun h => ?_) | refine v_cond_ndec rfl (fun h => ?_) (fun h => ?_) | refine v_cond rfl (fun h => ?_) (fun h => ?_)) | (show SH _ _ _ _ _ (_ :: _) _ _ _; first | (show SH _ _ _ _ _ (⟨_, .move _, _, _, _, _⟩ :: _) _ _ _; refine mov evL ?_) | (show SH _ _ _ _ _ (⟨_, .assign _, _, _, _, _⟩ :: _) _ _ _; refine asg evL ?_) | (show SH _ _ _ _ _ (⟨_, .binOp .lss _ _ _ _, _, _, _, _⟩ :: _) _ _ _; first | refine lssT rfl rfl omD ?_ | refine lssF rfl rfl omD ?_ | refine lss rfl rfl ?_) | (show SH _ _ _ _ _ (⟨_, .binOp .eql _ _ _ _, _, _, _, _⟩ :: _) _ _ _; first | refine eqlT rfl rfl omD ?_ | refine eqlF rfl rfl omD ?_ | refine eql rfl rfl ?_ | refine eqn rfl rfl ?_ | refine eqb rfl rfl ?_) | (show SH _ _ _ _ _ (⟨_, .binOp .add _ _ _ _, _, _, _, _⟩ :: _) _ _ _; refine add rfl rfl inL ?_) | (show SH _ _ _ _ _ (⟨_, .load _ _, _, _, _, _⟩ :: _) _ _ _; first | refine lbx rfl spL (by rfl) ?_ | refine lba rfl spL (by rfl) ?_ | refine lbs rfl spL (by rfl) (by rfl) ?_ | refine lin rfl (fun _ _ => rdP) omL ?_ | refine lbi rfl spL omL ?_ | refine lr1 rfl (fun _ _ => rdP) (by rfl) omL (by rfl) ?_ | refine lra rfl (fun _ _ => rdP) (by rfl) omL ?_ | refine lrf rfl (fun _ _ => rdP) (by rfl) omL (by rfl) ?_ | refine lcell rfl (fun w hw => hw.ext.cell (by assumption)) ?_ | refine lrs rfl (fun _ _ => rdP) (by rfl) omL (by rfl) (by rfl) ?_ | refine lca rfl (fun _ _ => rdP) (by rfl) ?_ | refine lcs rfl (fun _ _ => rdP) (by rfl) ?_ | refine lcf rfl (fun _ _ => rdP) (by rfl) ?_ | refine lrf rfl (fun _ _ => rdP) (by rfl) (by simp only [List.length_cons, List.length_nil]; omega) (by rfl) ?_ | refine lra rfl (fun _ _ => rdP) (by rfl) (by simp only [List.length_cons, List.length_nil]; omega) ?_) | (show SH _ _ _ _ _ (⟨_, .indexAddr _ _ _, _, _, _, _⟩ :: _) _ _ _; first | refine ix rfl rfl (by with_reducible rfl) (fun _ _ => rdP) (by rfl) omL omL ?_ | refine ixi rfl rfl (fun _ _ => rdP) (by rfl) omL omL omL ?_ | refine ixb rfl rfl omL ?_ | refine ixq rfl rfl (by assumption) omL omL ?_ | refine ixA _ rfl rfl rfl omL ?_ | refine ixi rfl rfl (fun _ _ => rdP) (by rfl) omL (by first | omega | (simp only [List.length_cons, List.length_nil]; omega)) (by simp only [List.length_cons, List.length_nil]; omega) ?_) | refine slen rfl ?_ | (show SH _ _ _ _ _ (⟨_, .unOp .not _ _, _, _, _, _⟩ :: _) _ _ _; first | refine bnoT rfl ?_ | refine bnoF rfl ?_ | refine bnot rfl ?_) | (show SH _ _ _ _ _ (⟨_, .slice _ _ _ _ _, _, _, _, _⟩ :: _) _ _ _; first | refine sla rfl rfl omL omL ?_ | refine slh rfl rfl omL omL ?_ | refine sll rfl rfl omL omL ?_) | (show SH _ _ _ _ _ (⟨_, .alloc _, _, _, _, _⟩ :: _) _ _ _; first | refine al1 rfl (fun b => ?_) | refine ala rfl (fun b => ?_)) | (show SH _ _ _ _ _ (⟨_, .store _ _ _, _, _, _, _⟩ :: _) _ _ _; first | refine stb rfl rfl evL spL rfl rfl (by first | decide | exact Nat.zero_lt_succ _ | exact of_decide_eq_true rfl) kpL ?_ | refine sta rfl rfl rfl spL (by rfl) (by rfl) (by rfl) kpL ?_ | refine sti rfl rfl rfl spL omL kpL ?_ | refine sbi rfl rfl rfl spL omL kpL ?_ | refine sbs rfl rfl evL spL (by rfl) (by rfl) (of_decide_eq_true rfl) kpL ?_)) | refine s_nil ?_ | refine s_fork ?_ ?_ | refine s_fork3 ?_ ?_ ?_ | refine s_fork4 ?_ ?_ ?_ ?_ | refine kh_normal ?_ | refine kh_ret ?_ | refine kh_exit ?_ | refine bh_normal ?_ | refine bh_ret ?_ | refine bh_exit ?_ | refine bh_exit_ne rfl ?_))
      refine v_loop [(5,7),(16,35)] (fun y : (Nat × Nat) × List Inv => [(5, .int .i64 y.1.1), (6, .int .i64 y.1.2)]) (fun y => orow 61 A cp y.2 :: H)
        (fun y => y.1.1 < y.1.2 ∧ y.1.2 ≤ l.length ∧ y.2.length = l.length ∧ y.2.take y.1.1 = (l.take y.1.2).filter (fun x => !p x) ∧ y.2.drop y.1.2 = l.drop y.1.2) (fun y => l.length - y.1.2) ((i0, i0 + 1), l) hsL enL ⟨by simp, by simp; omega, rfl, h3.symm, rfl⟩ ?_
      rintro ⟨⟨i, j⟩, L⟩ g ⟨hij, hj, hL, ht, hd⟩
      simp only [sets]
      simp only at hij hj hL ht hd
      have hg := getD_of_drop (Flat.dflt : Inv) hd hL
      have hd' := drop_next hd
      by_cases hjl : j < l.length
      · cases hb : p (L.getD j Flat.dflt) with
        | false =>
          have hnp : (!p (l.getD j Flat.dflt)) = true := by rw [← hg, hb]; rfl
          have hp' : ∀ w, Wd w0 H w → Ret Tryz.prog g0 (fst.toList ++ [Value.agg (Flat.enc (L.getD j Flat.dflt)).toArray] ++ cap.toList).toArray w (Out w (.bool false)) := fun w hw => by
            have := hp w hw (L.getD j Flat.dflt) trivial
            simp only [hb] at this
            exact this
          (repeat' (first | (show VH _ _ _ _ _ _ _; first | refine v_seq ?_ | refine r_seq ?_ | refine v_block ?_ | refine v_skip ?_ | refine v_cond_t rfl tbL ?_) | (show SH _ _ _ _ _ (_ :: _) _ _ _; first | (show SH _ _ _ _ _ (⟨_, .move _, _, _, _, _⟩ :: _) _ _ _; refine mov evL ?_) | (show SH _ _ _ _ _ (⟨_, .binOp .lss _ _ _ _, _, _, _, _⟩ :: _) _ _ _; refine lssT rfl rfl omD ?_) | (show SH _ _ _ _ _ (⟨_, .load _ _, _, _, _, _⟩ :: _) _ _ _; first | refine lba rfl spL (by rfl) ?_ | refine lra rfl (fun _ _ => rdP) (by rfl) omL ?_ | refine lra rfl (fun _ _ => rdP) (by rfl) (by simp only [List.length_cons, List.length_nil]; omega) ?_) | (show SH _ _ _ _ _ (⟨_, .indexAddr _ _ _, _, _, _, _⟩ :: _) _ _ _; refine ix rfl rfl (by with_reducible rfl) (fun _ _ => rdP) (by rfl) omL omL ?_) | refine slen rfl ?_ | (show SH _ _ _ _ _ (⟨_, .call ⟨.value (.tmp _), _, _⟩, _, _, _, _⟩ :: _) _ _ _; refine cl (callee := .tmp _) rfl (fun w hw => hp' w (Ent.wd enL hw)) rfl rfl ?_) | refine bnoF rfl ?_ | refine ala rfl (fun b => ?_) | (show SH _ _ _ _ _ (⟨_, .store _ _ _, _, _, _, _⟩ :: _) _ _ _; refine sta rfl rfl rfl spL (by rfl) (by rfl) (by rfl) kpL ?_)) | refine s_nil ?_ | refine kh_normal ?_))
          refine stv (L.getD j Flat.dflt) rfl rfl rfl spL rfl (by omega) rfl trivial ?_
          (repeat' (first | refine r_seq ?_ | (show SH _ _ _ _ _ (_ :: _) _ _ _; first | (show SH _ _ _ _ _ (⟨_, .move _, _, _, _, _⟩ :: _) _ _ _; refine mov evL ?_) | (show SH _ _ _ _ _ (⟨_, .assign _, _, _, _, _⟩ :: _) _ _ _; refine asg evL ?_) | (show SH _ _ _ _ _ (⟨_, .binOp .add _ _ _ _, _, _, _, _⟩ :: _) _ _ _; refine add rfl rfl inL ?_)) | refine s_nil ?_ | refine kh_normal ?_ | refine bh_normal ?_))
          refine ⟨agL, ((i + 1, j + 1), L.set i (L.getD j Flat.dflt)), hsL, enL, ⟨by show i + 1 < j + 1; omega, by show j + 1 ≤ _; omega, by simpa using hL, ?_, ?_⟩, by show l.length - (j + 1) < l.length - j; omega⟩
          · show (L.set i (L.getD j Flat.dflt)).take (i + 1) = (l.take (j + 1)).filter _
            rw [take_set_self L i _ (by omega), ht, take_snoc (d := Flat.dflt) hjl, List.filter_append, List.filter_cons, hg, if_pos hnp]
            rfl
          · show (L.set i (L.getD j Flat.dflt)).drop (j + 1) = _
            rw [drop_set_later _ _ _ _ (by omega)]; exact hd'
        | true =>
          have hnp : (!p (l.getD j Flat.dflt)) = false := by rw [← hg, hb]; rfl
          have hp' : ∀ w, Wd w0 H w → Ret Tryz.prog g0 (fst.toList ++ [Value.agg (Flat.enc (L.getD j Flat.dflt)).toArray] ++ cap.toList).toArray w (Out w (.bool true)) := fun w hw => by
            have := hp w hw (L.getD j Flat.dflt) trivial
            simp only [hb] at this
            exact this
          (repeat' (first | (show VH _ _ _ _ _ _ _; first | refine v_seq ?_ | refine r_seq ?_ | refine v_block ?_ | refine v_skip ?_ | refine v_cond_t rfl tbL ?_ | refine v_cond_f rfl tbL ?_) | (show SH _ _ _ _ _ (_ :: _) _ _ _; first | (show SH _ _ _ _ _ (⟨_, .move _, _, _, _, _⟩ :: _) _ _ _; refine mov evL ?_) | (show SH _ _ _ _ _ (⟨_, .assign _, _, _, _, _⟩ :: _) _ _ _; refine asg evL ?_) | (show SH _ _ _ _ _ (⟨_, .binOp .lss _ _ _ _, _, _, _, _⟩ :: _) _ _ _; refine lssT rfl rfl omD ?_) | (show SH _ _ _ _ _ (⟨_, .binOp .add _ _ _ _, _, _, _, _⟩ :: _) _ _ _; refine add rfl rfl inL ?_) | (show SH _ _ _ _ _ (⟨_, .load _ _, _, _, _, _⟩ :: _) _ _ _; first | refine lba rfl spL (by rfl) ?_ | refine lra rfl (fun _ _ => rdP) (by rfl) omL ?_ | refine lra rfl (fun _ _ => rdP) (by rfl) (by simp only [List.length_cons, List.length_nil]; omega) ?_) | (show SH _ _ _ _ _ (⟨_, .indexAddr _ _ _, _, _, _, _⟩ :: _) _ _ _; refine ix rfl rfl (by with_reducible rfl) (fun _ _ => rdP) (by rfl) omL omL ?_) | refine slen rfl ?_ | (show SH _ _ _ _ _ (⟨_, .call ⟨.value (.tmp _), _, _⟩, _, _, _, _⟩ :: _) _ _ _; refine cl (callee := .tmp _) rfl (fun w hw => hp' w (Ent.wd enL hw)) rfl rfl ?_) | refine bnoT rfl ?_ | refine ala rfl (fun b => ?_) | (show SH _ _ _ _ _ (⟨_, .store _ _ _, _, _, _, _⟩ :: _) _ _ _; refine sta rfl rfl rfl spL (by rfl) (by rfl) (by rfl) kpL ?_)) | refine s_nil ?_ | refine kh_normal ?_ | refine bh_normal ?_))
          refine ⟨agL, ((i, j + 1), L), hsL, enL, ⟨by show i < j + 1; omega, by show j + 1 ≤ _; omega, hL, ?_, hd'⟩, by show l.length - (j + 1) < l.length - j; omega⟩
          show L.take i = (l.take (j + 1)).filter _
          rw [ht, take_snoc (d := Flat.dflt) hjl, List.filter_append, List.filter_cons, if_neg (by rw [hnp]; simp), List.filter_nil, List.append_nil]
      · have hjl : j = l.length := by omega
        subst hjl
        rw [List.take_length] at ht
        (repeat' (first | (show VH _ _ _ _ _ _ _; first | refine v_seq ?_ | refine r_seq ?_ | refine v_exit ?_ | refine v_cond_f rfl tbL ?_) | (show SH _ _ _ _ _ (_ :: _) _ _ _; first | (show SH _ _ _ _ _ (⟨_, .move _, _, _, _, _⟩ :: _) _ _ _; refine mov evL ?_) | (show SH _ _ _ _ _ (⟨_, .binOp .lss _ _ _ _, _, _, _, _⟩ :: _) _ _ _; refine lssF rfl rfl omD ?_) | refine slen rfl ?_ | (show SH _ _ _ _ _ (⟨_, .slice _ _ _ _ _, _, _, _, _⟩ :: _) _ _ _; refine sll rfl rfl omL omL ?_)) | refine s_nil ?_ | refine kh_normal ?_ | refine kh_exit ?_ | refine bh_exit ?_))
        refine clrG (α := Inv) (by rfl) (by rfl) (by rfl) rfl rfl spL (j := i) (by rfl) (by rw [hL]; rfl) (by omega) trivial ?_
        (repeat' (first | (show VH _ _ _ _ _ _ _; first | refine v_seq ?_ | refine r_seq ?_ | refine v_ret ?_) | (show SH _ _ _ _ _ (_ :: _) _ _ _; first | (show SH _ _ _ _ _ (⟨_, .move _, _, _, _, _⟩ :: _) _ _ _; refine mov evL ?_) | (show SH _ _ _ _ _ (⟨_, .assign _, _, _, _, _⟩ :: _) _ _ _; refine asg evL ?_) | (show SH _ _ _ _ _ (⟨_, .slice _ _ _ _ _, _, _, _, _⟩ :: _) _ _ _; refine slh rfl rfl omL omL ?_)) | refine s_nil ?_ | refine kh_normal ?_))
        have hil : i = (l.filter fun x => !p x).length := by rw [← ht, List.length_take]; omega
        exact rh1 rfl rfl ⟨congrArg (fun m => Value.slice A m cp) hil, by rw [ht]⟩ (ent_refl _)
set_option maxRecDepth 100000 in
theorem cloneIv_spec (A : Option Addr) (l : List Inv) (cp : Nat) (w : World) (hl : l.length ≤ 1000000) (hr : Rd w A l) :
    Ret Tryz.prog 91 [.slice A l.length cp].toArray w (RP w (Fresh 61 l)) := by
  refine enterH Tryz.func91 rfl rfl Tryz.ntmps91 rfl (Wd.refl _) ?_
  (repeat' (first | (show VH _ _ _ _ _ _ _; first | refine v_seq ?_ | refine r_seq ?_ | refine v_ret ?_ | refine v_skip ?_ | refine v_cond rfl (fun h => ?_) (fun h => ?_)) | (show SH _ _ _ _ _ (_ :: _) _ _ _; first | (show SH _ _ _ _ _ (⟨_, .move _, _, _, _, _⟩ :: _) _ _ _; refine mov evL ?_) | (show SH _ _ _ _ _ (⟨_, .assign _, _, _, _, _⟩ :: _) _ _ _; refine asg evL ?_) | refine eqn rfl rfl ?_) | refine s_nil ?_ | refine kh_normal ?_ | refine kh_ret ?_))
  · cases A with
    | some a => simp at h
    | none =>
      have := hr.none
      subst this
      exact rh1 rfl rfl ⟨none, 0, rfl, rfl⟩ (ent_nilrow (ent_nil _))
  · refine bsl (l := ([] : List Inv)) rfl rfl Vals.nil rfl rfl (by decide) (fun b => ?_)
    (repeat' ((show SH _ _ _ _ _ (_ :: _) _ _ _; (show SH _ _ _ _ _ (⟨_, .move _, _, _, _, _⟩ :: _) _ _ _; refine mov evL ?_))))
    refine app rfl rfl rfl spL (fun _ _ => rdP) rfl rfl rfl (by simp; omega) (by simp; omega) (fun A' cp' => ⟨trivial, ?_⟩)
    (repeat' (first | refine v_ret ?_ | (show SH _ _ _ _ _ (_ :: _) _ _ _; (show SH _ _ _ _ _ (⟨_, .assign _, _, _, _, _⟩ :: _) _ _ _; refine asg evL ?_)) | refine s_nil ?_ | refine kh_normal ?_))
    exact rh1 rfl rfl ⟨A', cp', rfl, rfl⟩ enL
set_option maxRecDepth 100000 in
theorem clonePt_spec (A : Option Addr) (l : List PtyP) (cp : Nat) (w : World) (hl : l.length ≤ 1000000) (hr : Rd w A l) :
    Ret Tryz.prog 109 [.slice A l.length cp].toArray w (RP w (Fresh 46 l)) := by
  refine enterH Tryz.func109 rfl rfl Tryz.ntmps109 rfl (Wd.refl _) ?_
  (repeat' (first | (show VH _ _ _ _ _ _ _; first | refine v_seq ?_ | refine r_seq ?_ | refine v_ret ?_ | refine v_skip ?_ | refine v_cond rfl (fun h => ?_) (fun h => ?_)) | (show SH _ _ _ _ _ (_ :: _) _ _ _; first | (show SH _ _ _ _ _ (⟨_, .move _, _, _, _, _⟩ :: _) _ _ _; refine mov evL ?_) | (show SH _ _ _ _ _ (⟨_, .assign _, _, _, _, _⟩ :: _) _ _ _; refine asg evL ?_) | refine eqn rfl rfl ?_) | refine s_nil ?_ | refine kh_normal ?_ | refine kh_ret ?_))
  · cases A with
    | some a => simp at h
    | none =>
      have := hr.none
      subst this
      exact rh1 rfl rfl ⟨none, 0, rfl, rfl⟩ (ent_nilrow (ent_nil _))
  · refine bsl (l := ([] : List PtyP)) rfl rfl Vals.nil rfl rfl (by decide) (fun b => ?_)
    (repeat' ((show SH _ _ _ _ _ (_ :: _) _ _ _; (show SH _ _ _ _ _ (⟨_, .move _, _, _, _, _⟩ :: _) _ _ _; refine mov evL ?_))))
    refine app rfl rfl rfl spL (fun _ _ => rdP) rfl rfl rfl (by simp; omega) (by simp; omega) (fun A' cp' => ⟨trivial, ?_⟩)
    (repeat' (first | refine v_ret ?_ | (show SH _ _ _ _ _ (_ :: _) _ _ _; (show SH _ _ _ _ _ (⟨_, .assign _, _, _, _, _⟩ :: _) _ _ _; refine asg evL ?_)) | refine s_nil ?_ | refine kh_normal ?_))
    exact rh1 rfl rfl ⟨A', cp', rfl, rfl⟩ enL
set_option maxRecDepth 100000 in
theorem indexFuncI_spec (A : Option Addr) (l : List Inv) (cp : Nat) (fv : Value) (p : Inv → Bool) (w : World) (hl : l.length ≤ 140737488355328) (hr : Rd w A l) (hp : AsksL w fv l p) :
    Ret Tryz.prog 107 [.slice A l.length cp, fv].toArray w (Out w (.int .i64 (idxOf p l))) := by
  obtain ⟨g0, fst, cap, rfl, hp⟩ := hp
  refine enterH Tryz.func107 rfl rfl Tryz.ntmps107 rfl (Wd.refl _) ?_
  (repeat' (first | (show VH _ _ _ _ _ _ _; first | refine v_seq ?_ | refine r_seq ?_ | refine v_block ?_) | (show SH _ _ _ _ _ (_ :: _) _ _ _; first | (show SH _ _ _ _ _ (⟨_, .move _, _, _, _, _⟩ :: _) _ _ _; refine mov evL ?_) | (show SH _ _ _ _ _ (⟨_, .assign _, _, _, _, _⟩ :: _) _ _ _; refine asg evL ?_) | refine slen rfl ?_) | refine s_nil ?_ | refine kh_normal ?_))
  refine v_loop0 [(4,5),(8,18)] (fun k : Nat => [(8, .int .i64 k)]) (fun k => k ≤ l.length ∧ idxFrom p k (l.drop k) = idxOf p l) (fun k => l.length - k) 0 hsL ⟨Nat.zero_le _, rfl⟩ ?_
  rintro k g ⟨hk, hv⟩
  simp only [sets]
  by_cases hkl : k < l.length
  · have hp' := fun w he => hp w he (l.getD k Flat.dflt) (getD_mem hkl)
    rw [drop_cons (d := Flat.dflt) hkl, idxFrom] at hv
    cases hb : p (l.getD k Flat.dflt) with
    | true =>
      simp only [hb] at hp'
      rw [if_pos hb] at hv
      (repeat' (first | (show VH _ _ _ _ _ _ _; first | refine v_seq ?_ | refine r_seq ?_ | refine v_block ?_ | refine v_ret ?_ | refine v_skip ?_ | refine v_cond_t rfl tbL ?_) | (show SH _ _ _ _ _ (_ :: _) _ _ _; first | (show SH _ _ _ _ _ (⟨_, .move _, _, _, _, _⟩ :: _) _ _ _; refine mov evL ?_) | (show SH _ _ _ _ _ (⟨_, .assign _, _, _, _, _⟩ :: _) _ _ _; refine asg evL ?_) | (show SH _ _ _ _ _ (⟨_, .binOp .lss _ _ _ _, _, _, _, _⟩ :: _) _ _ _; refine lssT rfl rfl omD ?_) | (show SH _ _ _ _ _ (⟨_, .load _ _, _, _, _, _⟩ :: _) _ _ _; first | refine lra rfl (fun _ _ => rdP) (by rfl) omL ?_ | refine lra rfl (fun _ _ => rdP) (by rfl) (by simp only [List.length_cons, List.length_nil]; omega) ?_) | (show SH _ _ _ _ _ (⟨_, .indexAddr _ _ _, _, _, _, _⟩ :: _) _ _ _; refine ix rfl rfl (by with_reducible rfl) (fun _ _ => rdP) (by rfl) omL omL ?_) | (show SH _ _ _ _ _ (⟨_, .call ⟨.value (.tmp _), _, _⟩, _, _, _, _⟩ :: _) _ _ _; refine cl (callee := .tmp _) rfl (fun w hw => hp' _ hw.ext) rfl rfl ?_)) | refine s_nil ?_ | refine kh_normal ?_ | refine kh_ret ?_ | refine bh_ret ?_))
      exact rh1 rfl rfl ⟨congrArg (Value.int .i64) hv, rfl⟩ (ent_nil _)
    | false =>
      simp only [hb] at hp'
      rw [if_neg (by rw [hb]; simp)] at hv
      (repeat' (first | (show VH _ _ _ _ _ _ _; first | refine v_seq ?_ | refine r_seq ?_ | refine v_block ?_ | refine v_skip ?_ | refine v_cond_t rfl tbL ?_ | refine v_cond_f rfl tbL ?_) | (show SH _ _ _ _ _ (_ :: _) _ _ _; first | (show SH _ _ _ _ _ (⟨_, .move _, _, _, _, _⟩ :: _) _ _ _; refine mov evL ?_) | (show SH _ _ _ _ _ (⟨_, .assign _, _, _, _, _⟩ :: _) _ _ _; refine asg evL ?_) | (show SH _ _ _ _ _ (⟨_, .binOp .lss _ _ _ _, _, _, _, _⟩ :: _) _ _ _; refine lssT rfl rfl omD ?_) | (show SH _ _ _ _ _ (⟨_, .binOp .add _ _ _ _, _, _, _, _⟩ :: _) _ _ _; refine add rfl rfl inL ?_) | (show SH _ _ _ _ _ (⟨_, .load _ _, _, _, _, _⟩ :: _) _ _ _; first | refine lra rfl (fun _ _ => rdP) (by rfl) omL ?_ | refine lra rfl (fun _ _ => rdP) (by rfl) (by simp only [List.length_cons, List.length_nil]; omega) ?_) | (show SH _ _ _ _ _ (⟨_, .indexAddr _ _ _, _, _, _, _⟩ :: _) _ _ _; refine ix rfl rfl (by with_reducible rfl) (fun _ _ => rdP) (by rfl) omL omL ?_) | (show SH _ _ _ _ _ (⟨_, .call ⟨.value (.tmp _), _, _⟩, _, _, _, _⟩ :: _) _ _ _; refine cl (callee := .tmp _) rfl (fun w hw => hp' _ hw.ext) rfl rfl ?_)) | refine s_nil ?_ | refine kh_normal ?_ | refine bh_normal ?_))
      exact ⟨agL, k + 1, hsL, enL, ⟨by omega, hv⟩, by omega⟩
  · rw [List.drop_of_length_le (by omega), idxFrom] at hv
    (repeat' (first | (show VH _ _ _ _ _ _ _; first | refine v_seq ?_ | refine r_seq ?_ | refine v_ret ?_ | refine v_exit ?_ | refine v_cond_f rfl tbL ?_) | (show SH _ _ _ _ _ (_ :: _) _ _ _; first | (show SH _ _ _ _ _ (⟨_, .assign _, _, _, _, _⟩ :: _) _ _ _; refine asg evL ?_) | (show SH _ _ _ _ _ (⟨_, .binOp .lss _ _ _ _, _, _, _, _⟩ :: _) _ _ _; refine lssF rfl rfl omD ?_)) | refine s_nil ?_ | refine kh_normal ?_ | refine kh_exit ?_ | refine bh_exit ?_))
    exact rh1 rfl rfl ⟨congrArg (Value.int .i64) hv, rfl⟩ (ent_nil _)
set_option maxRecDepth 100000 in
theorem containsFuncI_spec (A : Option Addr) (l : List Inv) (cp : Nat) (fv : Value) (p : Inv → Bool) (w : World) (hl : l.length ≤ 140737488355328) (hr : Rd w A l) (hp : AsksL w fv l p) :
    Ret Tryz.prog 84 [.slice A l.length cp, fv].toArray w (Out w (.bool (l.any p))) := by
  refine enterH Tryz.func84 rfl rfl Tryz.ntmps84 rfl (Wd.refl _) ?_
  (repeat' (first | (show VH _ _ _ _ _ _ _; first | refine v_seq ?_ | refine r_seq ?_ | refine v_ret ?_) | (show SH _ _ _ _ _ (_ :: _) _ _ _; first | (show SH _ _ _ _ _ (⟨_, .move _, _, _, _, _⟩ :: _) _ _ _; refine mov evL ?_) | (show SH _ _ _ _ _ (⟨_, .assign _, _, _, _, _⟩ :: _) _ _ _; refine asg evL ?_) | refine geq rfl rfl ?_ | (show SH _ _ _ _ _ (⟨_, .call ⟨.value (.func 107), _, _⟩, _, _, _, _⟩ :: _) _ _ _; refine cl (callee := .func 107) rfl (fun w hw => indexFuncI_spec A l cp fv p w hl (hr.ext hw.ext) (hp.ext hw.ext)) rfl rfl ?_)) | refine s_nil ?_ | refine kh_normal ?_))
  exact rh1 rfl rfl ⟨congrArg Value.bool (idxFrom_any p l 0 (by omega)), rfl⟩ (ent_nil _)
set_option maxRecDepth 100000 in
theorem indexFuncP_spec (A : Option Addr) (l : List PtyP) (cp : Nat) (fv : Value) (p : PtyP → Bool) (w : World) (hl : l.length ≤ 140737488355328) (hr : Rd w A l) (hp : AsksL w fv l p) :
    Ret Tryz.prog 59 [.slice A l.length cp, fv].toArray w (Out w (.int .i64 (idxOf p l))) := by
  obtain ⟨g0, fst, cap, rfl, hp⟩ := hp
  refine enterH Tryz.func59 rfl rfl Tryz.ntmps59 rfl (Wd.refl _) ?_
  (repeat' (first | (show VH _ _ _ _ _ _ _; first | refine v_seq ?_ | refine r_seq ?_ | refine v_block ?_) | (show SH _ _ _ _ _ (_ :: _) _ _ _; first | (show SH _ _ _ _ _ (⟨_, .move _, _, _, _, _⟩ :: _) _ _ _; refine mov evL ?_) | (show SH _ _ _ _ _ (⟨_, .assign _, _, _, _, _⟩ :: _) _ _ _; refine asg evL ?_) | refine slen rfl ?_) | refine s_nil ?_ | refine kh_normal ?_))
  refine v_loop0 [(4,5),(8,18)] (fun k : Nat => [(8, .int .i64 k)]) (fun k => k ≤ l.length ∧ idxFrom p k (l.drop k) = idxOf p l) (fun k => l.length - k) 0 hsL ⟨Nat.zero_le _, rfl⟩ ?_
  rintro k g ⟨hk, hv⟩
  simp only [sets]
  by_cases hkl : k < l.length
  · have hp' := fun w he => hp w he (l.getD k Flat.dflt) (getD_mem hkl)
    rw [drop_cons (d := Flat.dflt) hkl, idxFrom] at hv
    cases hb : p (l.getD k Flat.dflt) with
    | true =>
      simp only [hb] at hp'
      rw [if_pos hb] at hv
      (repeat' (first | (show VH _ _ _ _ _ _ _; first | refine v_seq ?_ | refine r_seq ?_ | refine v_block ?_ | refine v_ret ?_ | refine v_skip ?_ | refine v_cond_t rfl tbL ?_) | (show SH _ _ _ _ _ (_ :: _) _ _ _; first | (show SH _ _ _ _ _ (⟨_, .move _, _, _, _, _⟩ :: _) _ _ _; refine mov evL ?_) | (show SH _ _ _ _ _ (⟨_, .assign _, _, _, _, _⟩ :: _) _ _ _; refine asg evL ?_) | (show SH _ _ _ _ _ (⟨_, .binOp .lss _ _ _ _, _, _, _, _⟩ :: _) _ _ _; refine lssT rfl rfl omD ?_) | (show SH _ _ _ _ _ (⟨_, .load _ _, _, _, _, _⟩ :: _) _ _ _; first | refine lra rfl (fun _ _ => rdP) (by rfl) omL ?_ | refine lra rfl (fun _ _ => rdP) (by rfl) (by simp only [List.length_cons, List.length_nil]; omega) ?_) | (show SH _ _ _ _ _ (⟨_, .indexAddr _ _ _, _, _, _, _⟩ :: _) _ _ _; refine ix rfl rfl (by with_reducible rfl) (fun _ _ => rdP) (by rfl) omL omL ?_) | (show SH _ _ _ _ _ (⟨_, .call ⟨.value (.tmp _), _, _⟩, _, _, _, _⟩ :: _) _ _ _; refine cl (callee := .tmp _) rfl (fun w hw => hp' _ hw.ext) rfl rfl ?_)) | refine s_nil ?_ | refine kh_normal ?_ | refine kh_ret ?_ | refine bh_ret ?_))
      exact rh1 rfl rfl ⟨congrArg (Value.int .i64) hv, rfl⟩ (ent_nil _)
    | false =>
      simp only [hb] at hp'
      rw [if_neg (by rw [hb]; simp)] at hv
      (repeat' (first | (show VH _ _ _ _ _ _ _; first | refine v_seq ?_ | refine r_seq ?_ | refine v_block ?_ | refine v_skip ?_ | refine v_cond_t rfl tbL ?_ | refine v_cond_f rfl tbL ?_) | (show SH _ _ _ _ _ (_ :: _) _ _ _; first | (show SH _ _ _ _ _ (⟨_, .move _, _, _, _, _⟩ :: _) _ _ _; refine mov evL ?_) | (show SH _ _ _ _ _ (⟨_, .assign _, _, _, _, _⟩ :: _) _ _ _; refine asg evL ?_) | (show SH _ _ _ _ _ (⟨_, .binOp .lss _ _ _ _, _, _, _, _⟩ :: _) _ _ _; refine lssT rfl rfl omD ?_) | (show SH _ _ _ _ _ (⟨_, .binOp .add _ _ _ _, _, _, _, _⟩ :: _) _ _ _; refine add rfl rfl inL ?_) | (show SH _ _ _ _ _ (⟨_, .load _ _, _, _, _, _⟩ :: _) _ _ _; first | refine lra rfl (fun _ _ => rdP) (by rfl) omL ?_ | refine lra rfl (fun _ _ => rdP) (by rfl) (by simp only [List.length_cons, List.length_nil]; omega) ?_) | (show SH _ _ _ _ _ (⟨_, .indexAddr _ _ _, _, _, _, _⟩ :: _) _ _ _; refine ix rfl rfl (by with_reducible rfl) (fun _ _ => rdP) (by rfl) omL omL ?_) | (show SH _ _ _ _ _ (⟨_, .call ⟨.value (.tmp _), _, _⟩, _, _, _, _⟩ :: _) _ _ _; refine cl (callee := .tmp _) rfl (fun w hw => hp' _ hw.ext) rfl rfl ?_)) | refine s_nil ?_ | refine kh_normal ?_ | refine bh_normal ?_))
      exact ⟨agL, k + 1, hsL, enL, ⟨by omega, hv⟩, by omega⟩
  · rw [List.drop_of_length_le (by omega), idxFrom] at hv
    (repeat' (first | (show VH _ _ _ _ _ _ _; first | refine v_seq ?_ | refine r_seq ?_ | refine v_ret ?_ | refine v_exit ?_ | refine v_cond_f rfl tbL ?_) | (show SH _ _ _ _ _ (_ :: _) _ _ _; first | (show SH _ _ _ _ _ (⟨_, .assign _, _, _, _, _⟩ :: _) _ _ _; refine asg evL ?_) | (show SH _ _ _ _ _ (⟨_, .binOp .lss _ _ _ _, _, _, _, _⟩ :: _) _ _ _; refine lssF rfl rfl omD ?_)) | refine s_nil ?_ | refine kh_normal ?_ | refine kh_exit ?_ | refine bh_exit ?_))
    exact rh1 rfl rfl ⟨congrArg (Value.int .i64) hv, rfl⟩ (ent_nil _)
end Go.Proofs.YtlfbcoohfnoacaaGreat

/- Layer 36 (party): the map of the places, player by player. Plain Lean. -/
namespace Go.Proofs.YtlfbcoohfnoacaaGreat
open Go.Fw Go.RowKit
theorem placesFrom_snoc (p : Pty) : ∀ (l : List Pty) (k : Nat) (m : List (Int × Int)), placesFrom k (l ++ [p]) m = putM ((k + l.length : Nat) : Int) p.mem (placesFrom k l m)
  | [], k, m => rfl
  | q :: l, k, m => by
    show placesFrom (k + 1) (l ++ [p]) _ = _
    rw [placesFrom_snoc p l (k + 1)]
    rw [show k + 1 + l.length = k + (q :: l).length by simp only [List.length_cons]; omega]
    rfl
theorem putM_snoc (a x : Int) : ∀ (l : List Int) (m : List (Int × Int)), putM a (l ++ [x]) m = mput (putM a l m) x (a + 1)
  | [], m => rfl
  | y :: l, m => putM_snoc a x l _
/-- The map of the places after k parties and j members of the next one. -/
def plcAt (ps : List Pty) (k j : Nat) : List (Int × Int) := putM (k : Int) ((ps.getD k pty0).mem.take j) (placesM (ps.take k))
theorem plcAt_zero (ps : List Pty) : plcAt ps 0 0 = [] := by simp [plcAt, putM, placesM, placesFrom]
theorem plcAt_next {ps : List Pty} {k j : Nat} (hj : j < (ps.getD k pty0).mem.length) : plcAt ps k (j + 1) = mput (plcAt ps k j) ((ps.getD k pty0).mem.getD j 0) ((k : Int) + 1) := by
  unfold plcAt
  rw [takeI hj, putM_snoc]
theorem plcAt_end {ps : List Pty} {k : Nat} (hk : k < ps.length) : plcAt ps k (ps.getD k pty0).mem.length = plcAt ps (k + 1) 0 := by
  unfold plcAt
  rw [List.take_length, List.take_zero]
  show _ = placesM (ps.take (k + 1))
  rw [take_snoc (d := pty0) hk]
  unfold placesM
  rw [placesFrom_snoc, List.length_take, Nat.zero_add, Nat.min_eq_left (by omega)]
theorem plcAt_all (ps : List Pty) : plcAt ps ps.length 0 = placesM ps := by
  unfold plcAt
  rw [List.take_length, List.take_zero]; rfl
theorem allM_take {ps : List Pty} {k : Nat} (hk : k < ps.length) : (allM (ps.take (k + 1))).length = (allM (ps.take k)).length + (ps.getD k pty0).mem.length := by
  rw [take_snoc (d := pty0) hk, allM_append, List.length_append]
  simp [allM]
/-- The sizes of what is worked with. -/
structure SzP (l : List PtyP) : Prop where
  len : l.length ≤ 1000
  mem : ∀ x ∈ l, x.p.mem.length ≤ 1000
  inv : ∀ x ∈ l, x.p.inv.length ≤ 1000
theorem SzP.atm {l : List PtyP} (h : SzP l) {k : Nat} (hk : k < l.length) : (l.getD k Flat.dflt).p.mem.length ≤ 1000 := h.mem _ (getD_mem hk)
theorem SzP.ati {l : List PtyP} (h : SzP l) {k : Nat} (hk : k < l.length) : (l.getD k Flat.dflt).p.inv.length ≤ 1000 := h.inv _ (getD_mem hk)
theorem allM_le {l : List PtyP} (h : SzP l) : (allM (ptys l)).length ≤ 1000 * l.length := by
  have hm := h.mem
  clear h
  induction l with
  | nil => simp [allM, ptys]
  | cons x l ih =>
    have h1 := hm x List.mem_cons_self
    have h2 := ih (fun y hy => hm y (List.mem_cons_of_mem _ hy))
    have h3 : (allM (ptys (x :: l))).length = x.p.mem.length + (allM (ptys l)).length := by
      show (x.p.mem ++ allM (ptys l)).length = _
      rw [List.length_append]
    rw [h3, List.length_cons]; omega
theorem allM_tk (ps : List Pty) (k : Nat) : (allM (ps.take k)).length ≤ (allM ps).length := by
  have h := congrArg (fun l => (allM l).length) (List.take_append_drop k ps)
  simp only [allM_append, List.length_append] at h
  omega
end Go.Proofs.YtlfbcoohfnoacaaGreat

/- Package party: isID, members, places. -/
namespace Go.Proofs.YtlfbcoohfnoacaaGreat
open Go.Fw Go.RowKit
abbrev hv36 (t l : Int) (A : Option Addr) (L : List PtyP) (c : Nat) : Value := .agg #[.int .i64 t, .int .i64 l, .slice A L.length c]
abbrev hb36 (b : Nat) (t l : Int) (A : Option Addr) (L : List PtyP) (c : Nat) : HP := bx b 24 [.int .i64 t, .int .i64 l, .slice A L.length c]
theorem pty_enc {L : List PtyP} {k : Nat} {x : PtyP} (hx : L.getD k Flat.dflt = x) : Flat.enc (L.getD k Flat.dflt) = [.int .i64 x.p.id, .int .i64 x.p.leader, .slice x.A x.p.mem.length x.ca, .slice x.B x.p.inv.length x.cb] := by rw [hx]; rfl
theorem inv_enc {l : List Inv} {k : Nat} {x : Inv} (hx : l.getD k Flat.dflt = x) : Flat.enc (l.getD k Flat.dflt) = [.int .i64 x.who, .int .i64 x.till] := by rw [hx]; rfl
theorem isID_spec (n : Int) (w : World) : Ret Tryz.prog 25 [.int .i64 n].toArray w (Out w (.bool (isIdB n))) := by
  refine enterH Tryz.func25 rfl rfl Tryz.ntmps25 rfl (Wd.refl _) ?_
  (repeat' (first | (show VH _ _ _ _ _ _ _; first | refine v_seq ?_ | refine r_seq ?_ | refine v_ret ?_) | (show SH _ _ _ _ _ (_ :: _) _ _ _; first | (show SH _ _ _ _ _ (⟨_, _, _, _, _, some _⟩ :: _) _ _ _; (refine gif rfl rfl ?_; first | refine giTT tbL ?_ | refine giTF tbL ?_ | refine giTd (fun h => ?_) (fun h => ?_))) | (show SH _ _ _ _ _ (⟨_, .move _, _, _, _, _⟩ :: _) _ _ _; refine mov evL ?_) | (show SH _ _ _ _ _ (⟨_, .assign _, _, _, _, _⟩ :: _) _ _ _; refine asg evL ?_) | refine leq rfl rfl ?_ | refine geq rfl rfl ?_ | (show SH _ _ _ _ _ (⟨_, .pick _ _ _, _, _, _, _⟩ :: _) _ _ _; first | refine pkt rfl tbL evL ?_ | refine pkf rfl tbL evL ?_)) | refine s_nil ?_ | refine kh_normal ?_))
  all_goals exact rh1 rfl rfl ⟨congrArg Value.bool (by unfold isIdB; simp [*]), rfl⟩ (ent_nil _)
set_option maxHeartbeats 1000000 in
set_option maxRecDepth 100000 in
theorem members1_spec (l : Nat) (t la : Int) (A : Option Addr) (L : List PtyP) (c bh : Nat) (J : Nat → Nat → List HP → Prop) (w0 : World) (G0 : List HP) (w : World) (hz : SzP L) (hr : RdP w0 A L)
    (hY : ∀ k j G, k < L.length → j < (L.getD k Flat.dflt).p.mem.length → J k j G → ∀ X w, Wd w0 (G ++ X) w → Yld Tryz.prog l [.int .i64 k, .int .i64 ((L.getD k Flat.dflt).p.mem.getD j 0)] w (RP w0 fun v H' => v = .bool true ∧ ∃ G', J k (j + 1) G' ∧ H' = G' ++ X))
    (hE : ∀ k G, k < L.length → J k (L.getD k Flat.dflt).p.mem.length G → J (k + 1) 0 G)
    (hJ : J 0 0 G0) (hw : Wd w0 (hb36 bh t la A L c :: G0) w) :
    Ret Tryz.prog 98 [.func (.yield l) #[] #[], .pointer (some ⟨bh, 0, none⟩)].toArray w
      (RP w0 fun _ H' => ∃ G, J L.length 0 G ∧ H' = hb36 bh t la A L c :: G) := by
  have hrA := hr.1
  have hll := hz.len
  refine enterH Tryz.func98 rfl rfl Tryz.ntmps98 rfl (by assumption) ?_
  (repeat' (first | (show VH _ _ _ _ _ _ _; first | refine v_seq ?_ | refine r_seq ?_ | refine v_block ?_) | (show SH _ _ _ _ _ (_ :: _) _ _ _; first | (show SH _ _ _ _ _ (⟨_, .move _, _, _, _, _⟩ :: _) _ _ _; refine mov evL ?_) | (show SH _ _ _ _ _ (⟨_, .load _ _, _, _, _, _⟩ :: _) _ _ _; refine lbx rfl spL (by rfl) ?_) | refine slen rfl ?_ | refine fad rfl ?_) | refine s_nil ?_ | refine kh_normal ?_))
  refine v_norm [(0,_),(1,_),(8,_),(9,_),(10,_)] heL (fun g => ?_)
  refine v_loop [(3,4),(6,6),(10,28)] (fun y : Nat × List HP => [(10, .int .i64 y.1)]) (fun y => hb36 bh t la A L c :: y.2) (fun y => y.1 ≤ L.length ∧ J y.1 0 y.2) (fun y => L.length - y.1) (0, G0) hsL (ent_refl _) ⟨Nat.zero_le _, hJ⟩ ?_
  rintro ⟨k, G⟩ g ⟨hk, hJk⟩
  simp only [sets]
  simp only at hk hJk
  by_cases hkl : k < L.length
  · have hY' := fun j G => hY k j G hkl
    have hE' := fun G => hE k G hkl
    have hm := hr.mem hkl
    have hml := hz.atm hkl
    clear hY hE hz hr
    obtain ⟨x, hx⟩ : ∃ x, L.getD k Flat.dflt = x := ⟨_, rfl⟩
    have hxE := pty_enc hx
    rw [hx] at hY' hE' hm hml
    clear hx
    obtain ⟨⟨xi, xl, xm, xv⟩, xA, xca, xB, xcb⟩ := x
    simp only at hY' hE' hm hml hxE
    (repeat' (first | (show VH _ _ _ _ _ _ _; first | refine v_seq ?_ | refine r_seq ?_ | refine v_block ?_ | refine v_skip ?_ | refine v_cond_t rfl tbL ?_) | (show SH _ _ _ _ _ (_ :: _) _ _ _; first | (show SH _ _ _ _ _ (⟨_, .move _, _, _, _, _⟩ :: _) _ _ _; refine mov evL ?_) | (show SH _ _ _ _ _ (⟨_, .assign _, _, _, _, _⟩ :: _) _ _ _; refine asg evL ?_) | (show SH _ _ _ _ _ (⟨_, .binOp .lss _ _ _ _, _, _, _, _⟩ :: _) _ _ _; refine lssT rfl rfl omD ?_) | (show SH _ _ _ _ _ (⟨_, .load _ _, _, _, _, _⟩ :: _) _ _ _; first | refine lbx rfl spL (by rfl) ?_ | refine lag rfl (fun _ _ => rdP) (by rfl) omL (by assumption) ?_) | (show SH _ _ _ _ _ (⟨_, .indexAddr _ _ _, _, _, _, _⟩ :: _) _ _ _; refine ix rfl rfl (by with_reducible rfl) (fun _ _ => rdP) (by rfl) omL omL ?_) | refine slen rfl ?_ | refine fad rfl ?_ | refine ala rfl (fun b => ?_) | (show SH _ _ _ _ _ (⟨_, .store _ _ _, _, _, _, _⟩ :: _) _ _ _; refine sta rfl rfl rfl spL (by rfl) (by rfl) (by rfl) kpL ?_)) | refine s_nil ?_ | refine kh_normal ?_))
    refine v_normS [(3,4),(6,6),(10,28)] _ agL [(3,_),(10,_),(16,_),(17,_),(18,_)] heL (fun g => ?_)
    refine v_loop [(6,6),(18,27)] (fun y : Nat × List HP => [(18, .int .i64 y.1)]) (fun y => bx b 46 _ :: hb36 bh t la A L c :: y.2) (fun y => y.1 ≤ xm.length ∧ J k y.1 y.2) (fun y => xm.length - y.1) (0, G) hsL (ent_refl _) ⟨Nat.zero_le _, hJk⟩ ?_
    rintro ⟨j, G⟩ g2 ⟨hj, hJj⟩
    simp only [sets]
    simp only at hj hJj
    by_cases hjl : j < xm.length
    · have hY2 := hY' j G hjl hJj
      (repeat' (first | (show VH _ _ _ _ _ _ _; first | refine v_seq ?_ | refine r_seq ?_ | refine v_block ?_ | refine v_skip ?_ | refine v_cond_t rfl tbL ?_) | (show SH _ _ _ _ _ (_ :: _) _ _ _; first | (show SH _ _ _ _ _ (⟨_, .move _, _, _, _, _⟩ :: _) _ _ _; refine mov evL ?_) | (show SH _ _ _ _ _ (⟨_, .assign _, _, _, _, _⟩ :: _) _ _ _; refine asg evL ?_) | (show SH _ _ _ _ _ (⟨_, .binOp .lss _ _ _ _, _, _, _, _⟩ :: _) _ _ _; refine lssT rfl rfl omD ?_) | (show SH _ _ _ _ _ (⟨_, .load _ _, _, _, _, _⟩ :: _) _ _ _; refine lin rfl (fun _ _ => rdP) omL ?_) | (show SH _ _ _ _ _ (⟨_, .indexAddr _ _ _, _, _, _, _⟩ :: _) _ _ _; refine ix rfl rfl (by with_reducible rfl) (fun _ _ => rdP) (by rfl) omL omL ?_)) | refine s_nil ?_ | refine kh_normal ?_))
      refine cy (fun w hw => hY2 [_, _] w (Ent.wd (ent_swap [_, _] G) hw)) rfl rfl ?_
      rintro _ _ ⟨rfl, G', hJ', rfl⟩
      (repeat' (first | (show VH _ _ _ _ _ _ _; first | refine r_seq ?_ | refine v_skip ?_ | refine v_cond_f rfl tbL ?_) | (show SH _ _ _ _ _ (_ :: _) _ _ _; first | (show SH _ _ _ _ _ (⟨_, .move _, _, _, _, _⟩ :: _) _ _ _; refine mov evL ?_) | (show SH _ _ _ _ _ (⟨_, .binOp .add _ _ _ _, _, _, _, _⟩ :: _) _ _ _; refine add rfl rfl inL ?_) | refine bnoT rfl ?_) | refine s_nil ?_ | refine kh_normal ?_ | refine bh_normal ?_))
      exact ⟨agL, (j + 1, G'), hsL, ent_swap G' [_, _], ⟨hjl, hJ'⟩, by show xm.length - (j + 1) < xm.length - j; omega⟩
    · have hjE : j = xm.length := by omega
      subst hjE
      have := hE' G hJj
      (repeat' (first | (show VH _ _ _ _ _ _ _; first | refine v_seq ?_ | refine r_seq ?_ | refine v_exit ?_ | refine v_cond_f rfl tbL ?_) | (show SH _ _ _ _ _ (_ :: _) _ _ _; first | (show SH _ _ _ _ _ (⟨_, .move _, _, _, _, _⟩ :: _) _ _ _; refine mov evL ?_) | (show SH _ _ _ _ _ (⟨_, .binOp .lss _ _ _ _, _, _, _, _⟩ :: _) _ _ _; refine lssF rfl rfl omD ?_) | (show SH _ _ _ _ _ (⟨_, .binOp .add _ _ _ _, _, _, _, _⟩ :: _) _ _ _; refine add rfl rfl inL ?_)) | refine s_nil ?_ | refine kh_normal ?_ | refine kh_exit ?_ | refine bh_normal ?_ | refine bh_exit ?_))
      exact ⟨agL, (k + 1, G), hsL, ent_drop (ent_refl _), ⟨hkl, this⟩, by show L.length - (k + 1) < L.length - k; omega⟩
  · have hkE : k = L.length := by omega
    subst hkE
    (repeat' (first | (show VH _ _ _ _ _ _ _; first | refine v_seq ?_ | refine r_seq ?_ | refine v_exit ?_ | refine v_cond_f rfl tbL ?_) | (show SH _ _ _ _ _ (_ :: _) _ _ _; (show SH _ _ _ _ _ (⟨_, .binOp .lss _ _ _ _, _, _, _, _⟩ :: _) _ _ _; refine lssF rfl rfl omD ?_)) | refine s_nil ?_ | refine kh_normal ?_ | refine kh_exit ?_ | refine bh_exit ?_))
    exact rh0n rfl ⟨G, hJk, rfl⟩ (ent_refl _)
set_option maxRecDepth 100000 in
theorem members_spec (t la : Int) (A : Option Addr) (L : List PtyP) (c : Nat) (w : World) :
    Ret Tryz.prog 63 [hv36 t la A L c].toArray w (RP w fun v H' => ∃ bh, v = .func (.func 98) #[] #[.pointer (some ⟨bh, 0, none⟩)] ∧ H' = [hb36 bh t la A L c]) := by
  refine enterH Tryz.func63 rfl rfl Tryz.ntmps63 rfl (Wd.refl _) ?_
  (repeat' (first | (show VH _ _ _ _ _ _ _; first | refine v_seq ?_ | refine r_seq ?_ | refine v_ret ?_) | (show SH _ _ _ _ _ (_ :: _) _ _ _; first | (show SH _ _ _ _ _ (⟨_, .assign _, _, _, _, _⟩ :: _) _ _ _; refine asg evL ?_) | (show SH _ _ _ _ _ (⟨_, .makeFunc _ _ _, _, _, _, _⟩ :: _) _ _ _; refine mf1 evL ?_) | (show SH _ _ _ _ _ (⟨_, .box _ _, _, _, _, _⟩ :: _) _ _ _; refine bxx rfl evL rfl (fun b => ?_))) | refine s_nil ?_ | refine kh_normal ?_))
  exact rh1 rfl rfl ⟨_, rfl, rfl⟩ enL
end Go.Proofs.YtlfbcoohfnoacaaGreat

/- Package party: places. -/
namespace Go.Proofs.YtlfbcoohfnoacaaGreat
open Go.Fw Go.RowKit
set_option maxHeartbeats 1000000 in
set_option maxRecDepth 100000 in
theorem places_spec (t la : Int) (A : Option Addr) (L : List PtyP) (c : Nat) (w : World) (hz : SzP L) (hr : RdP w A L) :
    Ret Tryz.prog 23 [hv36 t la A L c].toArray w (RP w fun v H' => ∃ r, v = .map (some r) ∧ H' = [mpp r (placesM (ptys L))]) := by
  have hms := fun w => members_spec t la A L c w
  have hfs := fun l bh J w0 G0 w hr => members1_spec l t la A L c bh J w0 G0 w hz hr
  have hll := hz.len
  refine enterH Tryz.func23 rfl rfl Tryz.ntmps23 rfl (Wd.refl _) ?_
  (repeat' (first | (show VH _ _ _ _ _ _ _; first | refine v_seq ?_ | refine r_seq ?_) | (show SH _ _ _ _ _ (_ :: _) _ _ _; first | (show SH _ _ _ _ _ (⟨_, .assign _, _, _, _, _⟩ :: _) _ _ _; refine asg evL ?_) | (show SH _ _ _ _ _ (⟨_, .load _ _, _, _, _, _⟩ :: _) _ _ _; refine lba rfl spL (by rfl) ?_) | (show SH _ _ _ _ _ (⟨_, .call ⟨.value (.func 63), _, _⟩, _, _, _, _⟩ :: _) _ _ _; refine cp (callee := .func 63) rfl (fun w hw => hms w) rfl rfl ?_) | refine al1 rfl (fun b => ?_) | (show SH _ _ _ _ _ (⟨_, .box _ _, _, _, _, _⟩ :: _) _ _ _; refine bxx rfl evL rfl (fun b => ?_)) | (show SH _ _ _ _ _ (⟨_, .store _ _ _, _, _, _, _⟩ :: _) _ _ _; refine stb rfl rfl evL spL rfl rfl (by first | decide | exact Nat.zero_lt_succ _ | exact of_decide_eq_true rfl) kpL ?_) | refine mkm rfl (fun b => ?_)) | refine s_nil ?_ | refine kh_normal ?_))
  rintro _ _ ⟨bh, rfl, rfl⟩
  (repeat' (first | refine v_block ?_ | refine s_nil ?_ | refine kh_normal ?_))
  rename_i b1 r
  revert b
  intro b2
  refine v_norm [(1,_),(3,_),(8,_)] heL (fun g => ?_)
  refine VH.ent (G := [hb36 bh t la A L c, bx b2 58 [.map (some r)], mpp r [], hb36 b1 t la A L c]) ?_ enL
  refine v_range (lb := [.pointer (some ⟨bh, 0, none⟩)]) rfl rfl ?_
  intro fn l D mk hmk w1 hw1
  have key := hfs l bh (fun k j G => G = [lp l mk .ready none, dfr D, bx b2 58 [.map (some r)], mpp r (plcAt (ptys L) k j), hb36 b1 t la A L c]) w _ w1 hr ?hY ?hE rfl (by rw [plcAt_zero]; exact Ent.wd enL hw1)
  case hY =>
    rintro k j _ hk hj rfl X w2 hw2
    simp only [List.cons_append, List.nil_append] at hw2 ⊢
    have hpk := ptys_at hk
    have hn := plcAt_next (ps := ptys L) (k := k) (j := j) (by rw [hpk]; exact hj)
    rw [hpk] at hn
    generalize (L.getD k Flat.dflt).p.mem.getD j 0 = who at hn ⊢
    refine yld_of (ps := [9, 10]) hmk rfl spL ?_ hw2
    (repeat' (first | (show VH _ _ _ _ _ _ _; first | refine v_seq ?_ | refine r_seq ?_) | (show SH _ _ _ _ _ (_ :: _) _ _ _; (show SH _ _ _ _ _ (⟨_, .assign _, _, _, _, _⟩ :: _) _ _ _; refine asg evL ?_)) | refine s_nil ?_ | refine kh_normal ?_))
    refine ⟨_, spL, ?_⟩
    (repeat' (first | (show VH _ _ _ _ _ _ _; first | refine r_seq ?_ | refine v_block ?_) | (show SH _ _ _ _ _ (_ :: _) _ _ _; first | (show SH _ _ _ _ _ (⟨_, .move _, _, _, _, _⟩ :: _) _ _ _; refine mov evL ?_) | (show SH _ _ _ _ _ (⟨_, .binOp .add _ _ _ _, _, _, _, _⟩ :: _) _ _ _; refine add rfl rfl inL ?_) | (show SH _ _ _ _ _ (⟨_, .load _ _, _, _, _, _⟩ :: _) _ _ _; refine lbx rfl spL (by rfl) ?_) | (show SH _ _ _ _ _ (⟨_, .mapUpdate _ _ _ _, _, _, _, _⟩ :: _) _ _ _; refine mup rfl rfl rfl rfl spL kpL ?_)) | refine s_nil ?_ | refine bh_normal ?_))
    rw [← hn]
    exact ro_normal spL ⟨rfl, _, rfl, rfl⟩ enL
  case hE =>
    rintro k _ hk rfl
    have hpk := ptys_at hk
    have := plcAt_end (ps := ptys L) (k := k) (by rw [ptys_len]; exact hk)
    rw [hpk] at this
    rw [this]
  refine key.mono fun v w3 ⟨H3, ⟨G, hG, hH⟩, hw3⟩ => ⟨_, ⟨.ready, none, hb36 bh t la A L c :: G.tail, ?_, by simp, ?_⟩, hw3⟩
  · rw [hH, hG]; exact spL
  rw [hG]
  have hpl : plcAt (ptys L) L.length 0 = placesM (ptys L) := by rw [← ptys_len]; exact plcAt_all _
  rw [hpl]
  simp only [List.tail_cons]
  (repeat' (first | (show VH _ _ _ _ _ _ _; first | refine v_seq ?_ | refine r_seq ?_ | refine v_ret ?_) | (show SH _ _ _ _ _ (_ :: _) _ _ _; first | (show SH _ _ _ _ _ (⟨_, .assign _, _, _, _, _⟩ :: _) _ _ _; refine asg evL ?_) | (show SH _ _ _ _ _ (⟨_, .load _ _, _, _, _, _⟩ :: _) _ _ _; refine lbx rfl spL (by rfl) ?_)) | refine s_nil ?_ | refine kh_normal ?_ | refine bh_normal ?_))
  refine rh_mark rfl spL ?_
  exact rh1 rfl rfl ⟨r, rfl, rfl⟩ enL
end Go.Proofs.YtlfbcoohfnoacaaGreat

/- Package party: Valid. -/
namespace Go.Proofs.YtlfbcoohfnoacaaGreat
open Go.Fw Go.RowKit
/-- A fact that omega does not look at. -/
def Hid (p : Prop) : Prop := p
theorem bad_id_spec (n : Int) (w : World) : Ret Tryz.prog 27 [.int .i64 n].toArray w (Out w (.bool (!isIdB n))) := by
  refine enterH Tryz.func27 rfl rfl Tryz.ntmps27 rfl (Wd.refl _) ?_
  (repeat' (first | (show VH _ _ _ _ _ _ _; first | refine v_seq ?_ | refine r_seq ?_ | refine v_ret ?_) | (show SH _ _ _ _ _ (_ :: _) _ _ _; first | (show SH _ _ _ _ _ (⟨_, .move _, _, _, _, _⟩ :: _) _ _ _; refine mov evL ?_) | (show SH _ _ _ _ _ (⟨_, .assign _, _, _, _, _⟩ :: _) _ _ _; refine asg evL ?_) | (show SH _ _ _ _ _ (⟨_, .call ⟨.value (.func 25), _, _⟩, _, _, _, _⟩ :: _) _ _ _; refine cl (callee := .func 25) rfl (fun w hw => isID_spec n w) rfl rfl ?_) | refine bnot rfl ?_) | refine s_nil ?_ | refine kh_normal ?_))
  exact rh1 rfl rfl ⟨rfl, rfl⟩ (ent_nil _)
theorem valid_cut (t la : Int) (ps : List Pty) (h : 0 ≤ t ∧ t ≤ 1073741824 ∧ 0 ≤ la ∧ la ≤ 1048576 ∧ ps.length ≤ 32) : validHal ⟨t, la, ps⟩ = (risingP la t (allM ps) 0 ps && decide (allM ps).Nodup) := by
  unfold validHal
  simp only [decide_eq_true h.1, decide_eq_true h.2.1, decide_eq_true h.2.2.1, decide_eq_true h.2.2.2.1, decide_eq_true h.2.2.2.2, Bool.true_and]
theorem valid_not (t la : Int) (ps : List Pty) (h : ¬ (0 ≤ t ∧ t ≤ 1073741824 ∧ 0 ≤ la ∧ la ≤ 1048576 ∧ ps.length ≤ 32)) : validHal ⟨t, la, ps⟩ = false := by
  cases hv : validHal ⟨t, la, ps⟩ with
  | false => rfl
  | true => have hv := valid_iff.1 hv; exact absurd ⟨hv.t0, hv.t1, hv.l0, hv.l1, hv.len⟩ h
theorem ptyB_cut {last la t : Int} {all : List Int} {p : Pty} (h : last < p.id ∧ p.id ≤ la ∧ 1 ≤ p.mem.length ∧ p.mem.length + p.inv.length ≤ 5 ∧ p.leader ∈ p.mem) : ptyB last la t all p = (invB t all 0 p.inv && p.mem.all isIdB) := by
  unfold ptyB
  simp only [decide_eq_true h.1, decide_eq_true h.2.1, decide_eq_true h.2.2.1, decide_eq_true h.2.2.2.1, decide_eq_true h.2.2.2.2, Bool.true_and]
theorem ptyB_not {last la t : Int} {all : List Int} {p : Pty} (h : ¬ (last < p.id ∧ p.id ≤ la ∧ 1 ≤ p.mem.length ∧ p.mem.length + p.inv.length ≤ 5 ∧ p.leader ∈ p.mem)) : ptyB last la t all p = false := by
  cases hv : ptyB last la t all p with
  | false => rfl
  | true => have hv := ptyB_iff.1 hv; exact absurd ⟨hv.1, hv.2.1, hv.2.2.1, hv.2.2.2.1, hv.2.2.2.2.1⟩ h
theorem invB_cut {w t : Int} {all : List Int} {i : Inv} {r : List Inv} (h : w < i.who ∧ isIdB i.who = true ∧ i.who ∉ all ∧ t < i.till ∧ i.till ≤ t + 600) : invB t all w (i :: r) = invB t all i.who r := by
  rw [invB, decide_eq_true h.1, h.2.1, decide_eq_false h.2.2.1, decide_eq_true h.2.2.2.1, decide_eq_true h.2.2.2.2]; rfl
theorem invB_not {w t : Int} {all : List Int} {i : Inv} {r : List Inv} (h : ¬ (w < i.who ∧ isIdB i.who = true ∧ i.who ∉ all ∧ t < i.till ∧ i.till ≤ t + 600)) : invB t all w (i :: r) = false := by
  cases hv : invB t all w (i :: r) with
  | false => rfl
  | true =>
    rw [invB] at hv
    simp only [Bool.and_eq_true, decide_eq_true_eq, Bool.not_eq_true', decide_eq_false_iff_not] at hv
    exact absurd ⟨hv.1.1.1.1.1, hv.1.1.1.1.2, hv.1.1.1.2, hv.1.1.2, hv.1.2⟩ h
theorem nf36 {b : Bool} (h : (!b) = false) : b = true := by cases b <;> simp_all
theorem any_not_id (l : List Int) : (l.any fun n => !isIdB n) = !l.all isIdB := by
  induction l with
  | nil => rfl
  | cons x l ih => rw [List.any_cons, List.all_cons, ih]; cases isIdB x <;> simp
set_option maxHeartbeats 2000000 in
set_option maxRecDepth 100000 in
theorem valid_spec (t la : Int) (A : Option Addr) (L : List PtyP) (c : Nat) (w : World) (hz : SzP L) (hr : RdP w A L) :
    Ret Tryz.prog 8 [hv36 t la A L c].toArray w (Out w (.bool (validHal ⟨t, la, ptys L⟩))) := by
  have hpl := fun w hr => places_spec t la A L c w hz hr
  have hll := hz.len
  have hrA := hr.1
  have hpn := ptys_len L
  by_cases hc : 0 ≤ t ∧ t ≤ 1073741824 ∧ 0 ≤ la ∧ la ≤ 1048576 ∧ L.length ≤ 32
  · rw [valid_cut t la _ (by rw [hpn]; exact hc)]
    obtain ⟨c1_, c2_, c3_, c4_, c5_⟩ := hc
    refine enterH Tryz.func8 rfl rfl Tryz.ntmps8 rfl (Wd.refl _) ?_
    (repeat' (first | (show VH _ _ _ _ _ _ _; first | refine v_seq ?_ | refine r_seq ?_ | refine v_skip ?_ | refine v_cond_f rfl tbL ?_) | (show SH _ _ _ _ _ (_ :: _) _ _ _; first | (show SH _ _ _ _ _ (⟨_, _, _, _, _, some _⟩ :: _) _ _ _; (refine gif rfl rfl ?_; refine giFF tbL ?_)) | (show SH _ _ _ _ _ (⟨_, .move _, _, _, _, _⟩ :: _) _ _ _; refine mov evL ?_) | (show SH _ _ _ _ _ (⟨_, .assign _, _, _, _, _⟩ :: _) _ _ _; refine asg evL ?_) | (show SH _ _ _ _ _ (⟨_, .binOp .lss _ _ _ _, _, _, _, _⟩ :: _) _ _ _; refine lssF rfl rfl omD ?_) | (show SH _ _ _ _ _ (⟨_, .binOp .gtr _ _ _ _, _, _, _, _⟩ :: _) _ _ _; refine gtrF rfl rfl omD ?_) | (show SH _ _ _ _ _ (⟨_, .load _ _, _, _, _, _⟩ :: _) _ _ _; first | refine lbx rfl spL (by rfl) ?_ | refine lba rfl spL (by rfl) ?_) | refine slen rfl ?_ | (show SH _ _ _ _ _ (⟨_, .call ⟨.value (.func 23), _, _⟩, _, _, _, _⟩ :: _) _ _ _; refine cp (callee := .func 23) rfl (fun w hw => hpl w (hr.ext hw.ext)) rfl rfl ?_) | (show SH _ _ _ _ _ (⟨_, .pick _ _ _, _, _, _, _⟩ :: _) _ _ _; refine pkf rfl tbL evL ?_) | refine fad rfl ?_ | (show SH _ _ _ _ _ (⟨_, .box _ _, _, _, _, _⟩ :: _) _ _ _; refine bxx rfl evL rfl (fun b => ?_))) | refine s_nil ?_ | refine kh_normal ?_))
    rintro _ _ ⟨r, rfl, rfl⟩
    have hpos := places_pos (ptys L)
    have hlen := places_len (ptys L)
    have hmb : (placesM (ptys L)).length ≤ 1000000 := by
      have := (placesFrom_len (ptys L) 0 []).1
      have h2 := allM_le hz
      unfold placesM
      rw [List.length_nil] at this
      omega
    obtain ⟨nd, hnd⟩ : ∃ nd, decide (allM (ptys L)).Nodup = nd := ⟨_, rfl⟩
    rw [hnd] at hlen ⊢
    clear hnd
    generalize placesM (ptys L) = M at hpos hlen hmb ⊢
    have hcn : ∀ k, k < L.length → (allM ((ptys L).take (k + 1))).length = (allM ((ptys L).take k)).length + (L.getD k Flat.dflt).p.mem.length := fun k hk => by
      rw [allM_take (by rw [hpn]; exact hk), ptys_at hk]
    have hcl : (allM ((ptys L).take L.length)).length = (allM (ptys L)).length := by rw [← hpn, List.take_length]
    have hcb := allM_le hz
    have hct := allM_tk (ptys L)
    generalize allM (ptys L) = AL at hpos hlen hcl hcb hct ⊢
    (repeat' (first | (show VH _ _ _ _ _ _ _; first | refine v_seq ?_ | refine r_seq ?_ | refine v_block ?_) | (show SH _ _ _ _ _ (_ :: _) _ _ _; first | (show SH _ _ _ _ _ (⟨_, .move _, _, _, _, _⟩ :: _) _ _ _; refine mov evL ?_) | (show SH _ _ _ _ _ (⟨_, .assign _, _, _, _, _⟩ :: _) _ _ _; refine asg evL ?_) | (show SH _ _ _ _ _ (⟨_, .load _ _, _, _, _, _⟩ :: _) _ _ _; refine lbx rfl spL (by rfl) ?_) | refine slen rfl ?_ | refine fad rfl ?_) | refine s_nil ?_ | refine kh_normal ?_))
    revert b
    intro b1
    refine v_norm [(1,_),(3,_),(4,_),(5,_),(37,_),(38,_),(39,_),(40,_)] heL (fun g => ?_)
    obtain ⟨z, hzz⟩ : ∃ z, (risingP la t AL 0 (ptys L) && nd) = z := ⟨_, rfl⟩
    rw [hzz]
    refine v_loop0 [(2,2),(4,5),(7,8),(10,10),(40,131)] (fun y : Nat × Int => [(40, .int .i64 y.1), (4, .int .i64 (allM ((ptys L).take y.1)).length), (5, .int .i64 y.2)]) (fun y => y.1 ≤ L.length ∧ (risingP la t AL y.2 ((ptys L).drop y.1) && nd) = z) (fun y => L.length - y.1) (0, 0) hsL ⟨Nat.zero_le _, hzz⟩ ?_
    rintro ⟨k, last⟩ g ⟨hk, hv⟩
    simp only [sets]
    simp only at hk hv
    by_cases hkl : k < L.length
    · rw [drop_cons (d := pty0) (by rw [hpn]; exact hkl), risingP, ptys_at hkl] at hv
      have hm := hr.mem hkl
      have hi := hr.inv hkl
      have hml := hz.atm hkl
      have hil := hz.ati hkl
      have hcn' := hcn k hkl
      have hct' := hct (k + 1)
      obtain ⟨x, hx⟩ : ∃ x, L.getD k Flat.dflt = x := ⟨_, rfl⟩
      have hxE := pty_enc hx
      rw [hx] at hv hm hi hml hil hcn'
      clear hx hcn hct hpl hcl hlen
      obtain ⟨⟨xi, xl, xm, xv⟩, xA, xca, xB, xcb⟩ := x
      simp only at hv hm hi hml hil hcn' hxE
      obtain ⟨r1, hr1⟩ : ∃ r1, risingP la t AL xi ((ptys L).drop (k + 1)) = r1 := ⟨_, rfl⟩
      rw [hr1] at hv
      have hco := fun w h => contains_spec xA xm xca xl w (by omega) h
      by_cases hp : last < xi ∧ xi ≤ la ∧ 1 ≤ xm.length ∧ xm.length + xv.length ≤ 5 ∧ xl ∈ xm
      · rw [ptyB_cut hp] at hv
        obtain ⟨p1_, p2_, p3_, p4_, p5_⟩ := hp
        simp only [decide_eq_true p5_] at hco
        (repeat' (first | (show VH _ _ _ _ _ _ _; first | refine v_seq ?_ | refine r_seq ?_ | refine v_block ?_ | refine v_skip ?_ | refine v_cond_t rfl tbL ?_ | refine v_cond_f rfl tbL ?_) | (show SH _ _ _ _ _ (_ :: _) _ _ _; first | (show SH _ _ _ _ _ (⟨_, _, _, _, _, some _⟩ :: _) _ _ _; (refine gif rfl rfl ?_; refine giFF tbL ?_)) | (show SH _ _ _ _ _ (⟨_, .move _, _, _, _, _⟩ :: _) _ _ _; refine mov evL ?_) | (show SH _ _ _ _ _ (⟨_, .assign _, _, _, _, _⟩ :: _) _ _ _; refine asg evL ?_) | (show SH _ _ _ _ _ (⟨_, .binOp .lss _ _ _ _, _, _, _, _⟩ :: _) _ _ _; first | refine lssT rfl rfl omD ?_ | refine lssF rfl rfl omD ?_) | (show SH _ _ _ _ _ (⟨_, .binOp .leq _ _ _ _, _, _, _, _⟩ :: _) _ _ _; refine leqF rfl rfl omD ?_) | (show SH _ _ _ _ _ (⟨_, .binOp .gtr _ _ _ _, _, _, _, _⟩ :: _) _ _ _; refine gtrF rfl rfl omD ?_) | (show SH _ _ _ _ _ (⟨_, .binOp .add _ _ _ _, _, _, _, _⟩ :: _) _ _ _; refine add rfl rfl inL ?_) | (show SH _ _ _ _ _ (⟨_, .load _ _, _, _, _, _⟩ :: _) _ _ _; first | refine lbx rfl spL (by rfl) ?_ | refine lag rfl (fun _ _ => rdP) (by rfl) omL (by assumption) ?_) | (show SH _ _ _ _ _ (⟨_, .indexAddr _ _ _, _, _, _, _⟩ :: _) _ _ _; refine ix rfl rfl (by with_reducible rfl) (fun _ _ => rdP) (by rfl) omL omL ?_) | refine slen rfl ?_ | (show SH _ _ _ _ _ (⟨_, .call ⟨.value (.func 24), _, _⟩, _, _, _, _⟩ :: _) _ _ _; refine cl (callee := .func 24) rfl (fun w hw => hco w (hm.ext hw.ext)) rfl rfl ?_) | refine bnoT rfl ?_ | (show SH _ _ _ _ _ (⟨_, .pick _ _ _, _, _, _, _⟩ :: _) _ _ _; refine pkf rfl tbL evL ?_) | refine fad rfl ?_ | refine ala rfl (fun b => ?_) | (show SH _ _ _ _ _ (⟨_, .store _ _ _, _, _, _, _⟩ :: _) _ _ _; refine sta rfl rfl rfl spL (by rfl) (by rfl) (by rfl) kpL ?_)) | refine s_nil ?_ | refine kh_normal ?_))
        revert b
        intro b2
        clear hco
        simp only at hv
        refine v_normS [(2,2),(4,5),(7,8),(10,10),(40,131)] _ agL [(4,_),(5,_),(7,_),(8,_),(40,_),(80,_),(81,_),(82,_)] heL (fun g => ?_)
        refine v_loop0 [(2,2),(8,8),(10,10),(82,120)] (fun y : Nat × Int => [(82, .int .i64 y.1), (8, .int .i64 y.2)]) (fun y => y.1 ≤ xv.length ∧ (((invB t AL y.2 (xv.drop y.1) && xm.all isIdB) && r1) && nd) = z) (fun y => xv.length - y.1) (0, 0) hsL ⟨Nat.zero_le _, hv⟩ ?_
        rintro ⟨j, who⟩ g2 ⟨hj, hv2⟩
        simp only [sets]
        simp only at hj hv2
        by_cases hjl : j < xv.length
        · rw [drop_cons (d := Flat.dflt) hjl] at hv2
          obtain ⟨y, hy⟩ : ∃ y, xv.getD j Flat.dflt = y := ⟨_, rfl⟩
          have hyE := inv_enc hy
          rw [hy] at hv2
          clear hy
          obtain ⟨yw, yt⟩ := y
          simp only at hyE
          have hpy : 0 < mget M yw ↔ yw ∈ AL := by simpa using hpos yw
          have hid := fun w => isID_spec yw w
          by_cases hq : who < yw ∧ isIdB yw = true ∧ yw ∉ AL ∧ t < yt ∧ yt ≤ t + 600
          · rw [invB_cut hq] at hv2
            obtain ⟨q1_, q2_, q3_, q4_, q5_⟩ := hq
            have q3' : ¬ 0 < mget M yw := fun h => q3_ (hpy.1 h)
            simp only [q2_] at hid
            clear hpy
            (repeat' (first | (show VH _ _ _ _ _ _ _; first | refine v_seq ?_ | refine r_seq ?_ | refine v_block ?_ | refine v_skip ?_ | refine v_cond_t rfl tbL ?_ | refine v_cond_f rfl tbL ?_) | (show SH _ _ _ _ _ (_ :: _) _ _ _; first | (show SH _ _ _ _ _ (⟨_, _, _, _, _, some _⟩ :: _) _ _ _; (refine gif rfl rfl ?_; refine giFF tbL ?_)) | (show SH _ _ _ _ _ (⟨_, .move _, _, _, _, _⟩ :: _) _ _ _; refine mov evL ?_) | (show SH _ _ _ _ _ (⟨_, .assign _, _, _, _, _⟩ :: _) _ _ _; refine asg evL ?_) | (show SH _ _ _ _ _ (⟨_, .binOp .lss _ _ _ _, _, _, _, _⟩ :: _) _ _ _; refine lssT rfl rfl omD ?_) | (show SH _ _ _ _ _ (⟨_, .binOp .leq _ _ _ _, _, _, _, _⟩ :: _) _ _ _; refine leqF rfl rfl omD ?_) | (show SH _ _ _ _ _ (⟨_, .binOp .gtr _ _ _ _, _, _, _, _⟩ :: _) _ _ _; refine gtrF rfl rfl omD ?_) | (show SH _ _ _ _ _ (⟨_, .binOp .add _ _ _ _, _, _, _, _⟩ :: _) _ _ _; refine add rfl rfl inL ?_) | (show SH _ _ _ _ _ (⟨_, .load _ _, _, _, _, _⟩ :: _) _ _ _; first | refine lbx rfl spL (by rfl) ?_ | refine lag rfl (fun _ _ => rdP) (by rfl) omL (by assumption) ?_) | (show SH _ _ _ _ _ (⟨_, .indexAddr _ _ _, _, _, _, _⟩ :: _) _ _ _; refine ix rfl rfl (by with_reducible rfl) (fun _ _ => rdP) (by rfl) omL omL ?_) | (show SH _ _ _ _ _ (⟨_, .lookup _ _ _ false, _, _, _, _⟩ :: _) _ _ _; refine lkm rfl rfl spL ?_) | (show SH _ _ _ _ _ (⟨_, .call ⟨.value (.func 25), _, _⟩, _, _, _, _⟩ :: _) _ _ _; refine cl (callee := .func 25) rfl (fun w hw => hid w) rfl rfl ?_) | refine bnoT rfl ?_ | (show SH _ _ _ _ _ (⟨_, .pick _ _ _, _, _, _, _⟩ :: _) _ _ _; refine pkf rfl tbL evL ?_) | refine fad rfl ?_ | refine ala rfl (fun b => ?_) | (show SH _ _ _ _ _ (⟨_, .store _ _ _, _, _, _, _⟩ :: _) _ _ _; refine sta rfl rfl rfl spL (by rfl) (by rfl) (by rfl) kpL ?_)) | refine s_nil ?_ | refine kh_normal ?_ | refine bh_normal ?_))
            exact ⟨agL, (j + 1, yw), hsL, enL, ⟨hjl, hv2⟩, by show xv.length - (j + 1) < xv.length - j; omega⟩
          · have hcc : Hid _ := hq
            rw [invB_not hq] at hv2
            simp only [Bool.false_and] at hv2
            clear hq hv
            have hpy' : Hid _ := hpy
            clear hpy
            (repeat' (first | (show VH _ _ _ _ _ _ _; first | refine v_seq ?_ | refine r_seq ?_ | refine v_block ?_ | refine v_ret ?_ | refine v_skip ?_ | refine v_cond_t rfl tbL ?_ | refine v_cond_dec rfl (fun h => ?_) (fun h => ?_)) | (show SH _ _ _ _ _ (_ :: _) _ _ _; first | (show SH _ _ _ _ _ (⟨_, _, _, _, _, some _⟩ :: _) _ _ _; (refine gif rfl rfl ?_; first | refine giFF tbL ?_ | refine giFT tbL ?_ | refine giFd (fun h => ?_) (fun h => ?_) | refine giF (fun h => ?_) (fun h => ?_))) | (show SH _ _ _ _ _ (⟨_, .move _, _, _, _, _⟩ :: _) _ _ _; refine mov evL ?_) | (show SH _ _ _ _ _ (⟨_, .assign _, _, _, _, _⟩ :: _) _ _ _; refine asg evL ?_) | (show SH _ _ _ _ _ (⟨_, .binOp .lss _ _ _ _, _, _, _, _⟩ :: _) _ _ _; refine lssT rfl rfl omD ?_) | refine leq rfl rfl ?_ | refine gtr rfl rfl ?_ | (show SH _ _ _ _ _ (⟨_, .binOp .add _ _ _ _, _, _, _, _⟩ :: _) _ _ _; refine add rfl rfl inL ?_) | (show SH _ _ _ _ _ (⟨_, .load _ _, _, _, _, _⟩ :: _) _ _ _; first | refine lbx rfl spL (by rfl) ?_ | refine lag rfl (fun _ _ => rdP) (by rfl) omL (by assumption) ?_) | (show SH _ _ _ _ _ (⟨_, .indexAddr _ _ _, _, _, _, _⟩ :: _) _ _ _; refine ix rfl rfl (by with_reducible rfl) (fun _ _ => rdP) (by rfl) omL omL ?_) | (show SH _ _ _ _ _ (⟨_, .lookup _ _ _ false, _, _, _, _⟩ :: _) _ _ _; refine lkm rfl rfl spL ?_) | (show SH _ _ _ _ _ (⟨_, .call ⟨.value (.func 25), _, _⟩, _, _, _, _⟩ :: _) _ _ _; refine cl (callee := .func 25) rfl (fun w hw => hid w) rfl rfl ?_) | refine bnot rfl ?_ | (show SH _ _ _ _ _ (⟨_, .pick _ _ _, _, _, _, _⟩ :: _) _ _ _; first | refine pkt rfl tbL evL ?_ | refine pkf rfl tbL evL ?_) | refine fad rfl ?_ | refine ala rfl (fun b => ?_) | (show SH _ _ _ _ _ (⟨_, .store _ _ _, _, _, _, _⟩ :: _) _ _ _; refine sta rfl rfl rfl spL (by rfl) (by rfl) (by rfl) kpL ?_)) | refine s_nil ?_ | refine kh_normal ?_ | refine kh_ret ?_ | refine bh_normal ?_ | refine bh_ret ?_))
            all_goals first
              | exact rh1 rfl rfl ⟨congrArg Value.bool hv2, rfl⟩ (ent_nil _)
              | exact absurd ⟨by omega, by first | assumption | exact nf36 (by assumption), fun h => by have := hpy'.2 h; omega, by omega, by omega⟩ hcc
        · have hjE : j = xv.length := by omega
          subst hjE
          rw [List.drop_of_length_le (by omega), invB, Bool.true_and] at hv2
          have hcf := fun w h => containsFunc_spec xA xm xca (.func (.func 27) #[] #[]) (fun n => !isIdB n) w (by omega) h (fun1_of fun w' _ x _ => bad_id_spec x w')
          simp only [any_not_id] at hcf
          cases ha : xm.all isIdB with
          | false =>
            rw [ha] at hv2
            simp only [ha, Bool.false_and, Bool.not_false] at hv2 hcf
            (repeat' (first | (show VH _ _ _ _ _ _ _; first | refine v_seq ?_ | refine r_seq ?_ | refine v_ret ?_ | refine v_exit ?_ | refine v_cond_t rfl tbL ?_ | refine v_cond_f rfl tbL ?_) | (show SH _ _ _ _ _ (_ :: _) _ _ _; first | (show SH _ _ _ _ _ (⟨_, .assign _, _, _, _, _⟩ :: _) _ _ _; refine asg evL ?_) | (show SH _ _ _ _ _ (⟨_, .binOp .lss _ _ _ _, _, _, _, _⟩ :: _) _ _ _; refine lssF rfl rfl omD ?_) | (show SH _ _ _ _ _ (⟨_, .load _ _, _, _, _, _⟩ :: _) _ _ _; refine lbx rfl spL (by rfl) ?_) | (show SH _ _ _ _ _ (⟨_, .call ⟨.value (.func 26), _, _⟩, _, _, _, _⟩ :: _) _ _ _; refine cl (callee := .func 26) rfl (fun w hw => hcf w (hm.ext hw.ext)) rfl rfl ?_) | refine fad rfl ?_) | refine s_nil ?_ | refine kh_normal ?_ | refine kh_ret ?_ | refine kh_exit ?_ | refine bh_ret ?_ | refine bh_exit ?_))
            exact rh1 rfl rfl ⟨congrArg Value.bool hv2, rfl⟩ (ent_nil _)
          | true =>
            rw [ha, Bool.true_and] at hv2
            simp only [ha, Bool.not_true] at hcf
            (repeat' (first | (show VH _ _ _ _ _ _ _; first | refine v_seq ?_ | refine r_seq ?_ | refine v_skip ?_ | refine v_exit ?_ | refine v_cond_f rfl tbL ?_) | (show SH _ _ _ _ _ (_ :: _) _ _ _; first | (show SH _ _ _ _ _ (⟨_, .move _, _, _, _, _⟩ :: _) _ _ _; refine mov evL ?_) | (show SH _ _ _ _ _ (⟨_, .assign _, _, _, _, _⟩ :: _) _ _ _; refine asg evL ?_) | (show SH _ _ _ _ _ (⟨_, .binOp .lss _ _ _ _, _, _, _, _⟩ :: _) _ _ _; refine lssF rfl rfl omD ?_) | (show SH _ _ _ _ _ (⟨_, .binOp .add _ _ _ _, _, _, _, _⟩ :: _) _ _ _; refine add rfl rfl inL ?_) | (show SH _ _ _ _ _ (⟨_, .load _ _, _, _, _, _⟩ :: _) _ _ _; refine lbx rfl spL (by rfl) ?_) | refine slen rfl ?_ | (show SH _ _ _ _ _ (⟨_, .call ⟨.value (.func 26), _, _⟩, _, _, _, _⟩ :: _) _ _ _; refine cl (callee := .func 26) rfl (fun w hw => hcf w (hm.ext hw.ext)) rfl rfl ?_) | refine fad rfl ?_) | refine s_nil ?_ | refine kh_normal ?_ | refine kh_exit ?_ | refine bh_normal ?_ | refine bh_exit ?_))
            rw [← hr1] at hv2
            exact ⟨agL, (k + 1, xi), by simp only [hcn', Int.natCast_add]; (repeat (first | exact trivial | refine And.intro rfl ?_)), enL, ⟨hkl, hv2⟩, by show L.length - (k + 1) < L.length - k; omega⟩
      · have hcc : Hid _ := hp
        rw [ptyB_not hp] at hv
        simp only [Bool.false_and] at hv
        clear hp
        (repeat' (first | (show VH _ _ _ _ _ _ _; first | refine v_seq ?_ | refine r_seq ?_ | refine v_block ?_ | refine v_ret ?_ | refine v_skip ?_ | refine v_cond_t rfl tbL ?_ | refine v_cond_ndec rfl (fun h => ?_) (fun h => ?_)) | (show SH _ _ _ _ _ (_ :: _) _ _ _; first | (show SH _ _ _ _ _ (⟨_, _, _, _, _, some _⟩ :: _) _ _ _; (refine gif rfl rfl ?_; first | refine giFF tbL ?_ | refine giFT tbL ?_ | refine giFd (fun h => ?_) (fun h => ?_))) | (show SH _ _ _ _ _ (⟨_, .move _, _, _, _, _⟩ :: _) _ _ _; refine mov evL ?_) | (show SH _ _ _ _ _ (⟨_, .assign _, _, _, _, _⟩ :: _) _ _ _; refine asg evL ?_) | (show SH _ _ _ _ _ (⟨_, .binOp .lss _ _ _ _, _, _, _, _⟩ :: _) _ _ _; first | refine lssT rfl rfl omD ?_ | refine lss rfl rfl ?_) | refine leq rfl rfl ?_ | refine gtr rfl rfl ?_ | (show SH _ _ _ _ _ (⟨_, .binOp .add _ _ _ _, _, _, _, _⟩ :: _) _ _ _; refine add rfl rfl inL ?_) | (show SH _ _ _ _ _ (⟨_, .load _ _, _, _, _, _⟩ :: _) _ _ _; first | refine lbx rfl spL (by rfl) ?_ | refine lag rfl (fun _ _ => rdP) (by rfl) omL (by assumption) ?_) | (show SH _ _ _ _ _ (⟨_, .indexAddr _ _ _, _, _, _, _⟩ :: _) _ _ _; refine ix rfl rfl (by with_reducible rfl) (fun _ _ => rdP) (by rfl) omL omL ?_) | refine slen rfl ?_ | (show SH _ _ _ _ _ (⟨_, .call ⟨.value (.func 24), _, _⟩, _, _, _, _⟩ :: _) _ _ _; refine cl (callee := .func 24) rfl (fun w hw => hco w (hm.ext hw.ext)) rfl rfl ?_) | refine bnot rfl ?_ | (show SH _ _ _ _ _ (⟨_, .pick _ _ _, _, _, _, _⟩ :: _) _ _ _; first | refine pkt rfl tbL evL ?_ | refine pkf rfl tbL evL ?_) | refine fad rfl ?_ | refine ala rfl (fun b => ?_) | (show SH _ _ _ _ _ (⟨_, .store _ _ _, _, _, _, _⟩ :: _) _ _ _; refine sta rfl rfl rfl spL (by rfl) (by rfl) (by rfl) kpL ?_)) | refine s_nil ?_ | refine kh_normal ?_ | refine kh_ret ?_ | refine bh_ret ?_))
        all_goals first
          | exact rh1 rfl rfl ⟨congrArg Value.bool hv, rfl⟩ (ent_nil _)
          | exact absurd ⟨by omega, by omega, by omega, by omega, by first | assumption | simpa using ‹_›⟩ hcc
    · have hkE : k = L.length := by omega
      subst hkE
      rw [List.drop_of_length_le (by omega), risingP, Bool.true_and] at hv
      subst hv
      rw [hcl]
      (repeat' (first | (show VH _ _ _ _ _ _ _; first | refine v_seq ?_ | refine r_seq ?_ | refine v_ret ?_ | refine v_exit ?_ | refine v_cond_f rfl tbL ?_) | (show SH _ _ _ _ _ (_ :: _) _ _ _; first | (show SH _ _ _ _ _ (⟨_, .move _, _, _, _, _⟩ :: _) _ _ _; refine mov evL ?_) | (show SH _ _ _ _ _ (⟨_, .assign _, _, _, _, _⟩ :: _) _ _ _; refine asg evL ?_) | (show SH _ _ _ _ _ (⟨_, .binOp .lss _ _ _ _, _, _, _, _⟩ :: _) _ _ _; refine lssF rfl rfl omD ?_) | refine eql rfl rfl ?_ | (show SH _ _ _ _ _ (⟨_, .call ⟨.builtin _, _, _⟩, _, _, _, _⟩ :: _) _ _ _; refine lnm rfl spL ?_)) | refine s_nil ?_ | refine kh_normal ?_ | refine kh_exit ?_ | refine bh_exit ?_))
      exact rh1 rfl rfl ⟨congrArg Value.bool (by rw [← hlen]; exact decide_eq_decide.2 (by omega)), rfl⟩ (ent_nil _)
  · have hcc : Hid _ := hc
    rw [valid_not t la _ (by rw [hpn]; exact hc)]
    clear hc
    refine enterH Tryz.func8 rfl rfl Tryz.ntmps8 rfl (Wd.refl _) ?_
    (repeat' (first | (show VH _ _ _ _ _ _ _; first | refine v_seq ?_ | refine r_seq ?_ | refine v_ret ?_ | refine v_skip ?_ | refine v_cond_t rfl tbL ?_ | refine v_cond_dec rfl (fun h => ?_) (fun h => ?_)) | (show SH _ _ _ _ _ (_ :: _) _ _ _; first | (show SH _ _ _ _ _ (⟨_, _, _, _, _, some _⟩ :: _) _ _ _; (refine gif rfl rfl ?_; first | refine giFF tbL ?_ | refine giFT tbL ?_ | refine giFd (fun h => ?_) (fun h => ?_))) | (show SH _ _ _ _ _ (⟨_, .move _, _, _, _, _⟩ :: _) _ _ _; refine mov evL ?_) | (show SH _ _ _ _ _ (⟨_, .assign _, _, _, _, _⟩ :: _) _ _ _; refine asg evL ?_) | refine lss rfl rfl ?_ | refine gtr rfl rfl ?_ | (show SH _ _ _ _ _ (⟨_, .load _ _, _, _, _, _⟩ :: _) _ _ _; first | refine lbx rfl spL (by rfl) ?_ | refine lba rfl spL (by rfl) ?_) | refine slen rfl ?_ | (show SH _ _ _ _ _ (⟨_, .pick _ _ _, _, _, _, _⟩ :: _) _ _ _; first | refine pkt rfl tbL evL ?_ | refine pkf rfl tbL evL ?_) | refine fad rfl ?_ | (show SH _ _ _ _ _ (⟨_, .box _ _, _, _, _, _⟩ :: _) _ _ _; refine bxx rfl evL rfl (fun b => ?_))) | refine s_nil ?_ | refine kh_normal ?_ | refine kh_ret ?_))
    all_goals first
      | exact rh1 rfl rfl ⟨rfl, rfl⟩ (ent_nil _)
      | exact absurd ⟨by omega, by omega, by omega, by omega, by omega⟩ hcc
end Go.Proofs.YtlfbcoohfnoacaaGreat

/- Package party: parties and halls in memory of their own. -/
namespace Go.Proofs.YtlfbcoohfnoacaaGreat
open Go.Fw Go.RowKit
/-- A party's members, and its invitations, in rows of their own. -/
abbrev rowM (x : PtyP) : HP := orow 3 x.A x.ca x.p.mem
abbrev rowI (x : PtyP) : HP := orow 61 x.B x.cb x.p.inv
def OwnPt (p : Pty) (v : Value) (H : List HP) : Prop := ∃ y : PtyP, y.p = p ∧ v = .agg (Flat.enc y).toArray ∧ H = [rowM y, rowI y]
set_option maxHeartbeats 1000000 in
set_option maxRecDepth 100000 in
theorem ownPt_spec (x : PtyP) (w : World) (hl : x.p.mem.length ≤ 1000000) (hl2 : x.p.inv.length ≤ 1000000) (hr : Rd w x.A x.p.mem) (hr2 : Rd w x.B x.p.inv) : Ret Tryz.prog 50 [.agg (Flat.enc x).toArray].toArray w (RP w (OwnPt x.p)) := by
  have hM := fun w' (he : Ext w w') => clone_spec x.A x.p.mem x.ca w' hl (hr.ext he)
  have hI := fun w' (he : Ext w w') => cloneIv_spec x.B x.p.inv x.cb w' hl2 (hr2.ext he)
  obtain ⟨⟨xi, xl, xm, xv⟩, xA, xca, xB, xcb⟩ := x
  unfold OwnPt
  simp only at hM hI hr hr2 hl hl2 ⊢
  rw [show Flat.enc (⟨⟨xi, xl, xm, xv⟩, xA, xca, xB, xcb⟩ : PtyP) = [.int .i64 xi, .int .i64 xl, .slice xA xm.length xca, .slice xB xv.length xcb] from rfl] at *
  refine enterH Tryz.func50 rfl rfl Tryz.ntmps50 rfl (Wd.refl _) ?_
  (repeat' (first | (show VH _ _ _ _ _ _ _; first | refine v_seq ?_ | refine r_seq ?_) | (show SH _ _ _ _ _ (_ :: _) _ _ _; first | refine ala rfl (fun b => ?_) | (show SH _ _ _ _ _ (⟨_, .box _ _, _, _, _, _⟩ :: _) _ _ _; refine bxx rfl evL rfl (fun b => ?_))) | refine s_nil ?_ | refine kh_normal ?_))
  refine r_heldT [] (tr [(0, true), (3, true)] (.fork 1 (tr [] (.fork 2 (tr [(4, false), (6, true), (5, false), (7, false), (8, false), (9, false)] .nil) 4 (tr [(2, false), (6, true), (5, false), (7, false), (8, false), (9, false)] .nil))) 4 (tr [(1, false), (2, false), (6, true), (5, false), (7, false), (8, false), (9, false)] .nil))) hmix (by kernel_rfl) (ent_nil _) ?_
  (repeat' (first | (show SH _ _ _ _ _ (_ :: _) _ _ _; first | (show SH _ _ _ _ _ (⟨_, .load _ _, _, _, _, _⟩ :: _) _ _ _; refine lbx rfl spL (by rfl) ?_) | (show SH _ _ _ _ _ (⟨_, .call ⟨.value (.func 90), _, _⟩, _, _, _, _⟩ :: _) _ _ _; refine cp (callee := .func 90) rfl (fun w hw => hM _ hw.ext) rfl rfl ?_) | refine fad rfl ?_) | refine s_fork ?_ ?_))
  all_goals
    rintro _ _ ⟨A1, a1, rfl, rfl⟩
    (repeat' ((show SH _ _ _ _ _ (_ :: _) _ _ _; first | (show SH _ _ _ _ _ (⟨_, .load _ _, _, _, _, _⟩ :: _) _ _ _; refine lbx rfl spL (by rfl) ?_) | (show SH _ _ _ _ _ (⟨_, .call ⟨.value (.func 91), _, _⟩, _, _, _, _⟩ :: _) _ _ _; refine cp (callee := .func 91) rfl (fun w hw => hI _ hw.ext) rfl rfl ?_) | refine fad rfl ?_)))
    rintro _ _ ⟨B1, b1, rfl, rfl⟩
    (repeat' (first | (show VH _ _ _ _ _ _ _; first | refine v_seq ?_ | refine r_seq ?_ | refine v_ret ?_) | (show SH _ _ _ _ _ (_ :: _) _ _ _; first | (show SH _ _ _ _ _ (⟨_, .load _ _, _, _, _, _⟩ :: _) _ _ _; refine lba rfl spL (by rfl) ?_) | refine fad rfl ?_ | (show SH _ _ _ _ _ (⟨_, .store _ _ _, _, _, _, _⟩ :: _) _ _ _; first | refine stb rfl rfl evL spL rfl rfl (by first | decide | exact Nat.zero_lt_succ _ | exact of_decide_eq_true rfl) kpL ?_ | refine sta rfl rfl rfl spL (by rfl) (by rfl) (by rfl) kpL ?_)) | refine s_nil ?_ | refine kh_normal ?_))
    exact rhC rfl rfl rfl (fun w hw => loadVar_bx hw spL (by rfl)) ⟨⟨⟨xi, xl, xm, xv⟩, A1, a1, B1, b1⟩, rfl, rfl, rfl⟩ enL
/-- A hall in memory of its own. -/
abbrev ownR36 (A : Option Addr) (c : Nat) (L : List PtyP) : List HP := [orow 46 A c L, allH (L.map rowM), allH (L.map rowI)]
def OwnH (t la : Int) (ps : List Pty) (v : Value) (H : List HP) : Prop := ∃ A c L, ptys L = ps ∧ v = hv36 t la A L c ∧ H = ownR36 A c L
set_option maxHeartbeats 1000000 in
set_option maxRecDepth 100000 in
theorem ownH_spec (t la : Int) (A : Option Addr) (L : List PtyP) (c : Nat) (w : World) (hz : SzP L) (hr : RdP w A L) : Ret Tryz.prog 92 [hv36 t la A L c].toArray w (RP w (OwnH t la (ptys L))) := by
  have hrA := hr.1
  have hll := hz.len
  refine enterH Tryz.func92 rfl rfl Tryz.ntmps92 rfl (Wd.refl _) ?_
  (repeat' (first | (show VH _ _ _ _ _ _ _; first | refine v_seq ?_ | refine r_seq ?_) | (show SH _ _ _ _ _ (_ :: _) _ _ _; first | (show SH _ _ _ _ _ (⟨_, .load _ _, _, _, _, _⟩ :: _) _ _ _; refine lbx rfl spL (by rfl) ?_) | (show SH _ _ _ _ _ (⟨_, .call ⟨.value (.func 109), _, _⟩, _, _, _, _⟩ :: _) _ _ _; refine cp (callee := .func 109) rfl (fun w hw => clonePt_spec A L c w (by omega) (hrA.ext hw.ext)) rfl rfl ?_) | refine fad rfl ?_ | refine ala rfl (fun b => ?_) | (show SH _ _ _ _ _ (⟨_, .box _ _, _, _, _, _⟩ :: _) _ _ _; refine bxx rfl evL rfl (fun b => ?_))) | refine s_nil ?_ | refine kh_normal ?_))
  rintro _ _ ⟨A1, c1, rfl, rfl⟩
  (repeat' (first | (show VH _ _ _ _ _ _ _; first | refine v_seq ?_ | refine r_seq ?_ | refine v_block ?_) | (show SH _ _ _ _ _ (_ :: _) _ _ _; first | (show SH _ _ _ _ _ (⟨_, .move _, _, _, _, _⟩ :: _) _ _ _; refine mov evL ?_) | (show SH _ _ _ _ _ (⟨_, .load _ _, _, _, _, _⟩ :: _) _ _ _; refine lbx rfl spL (by rfl) ?_) | refine slen rfl ?_ | refine fad rfl ?_ | (show SH _ _ _ _ _ (⟨_, .store _ _ _, _, _, _, _⟩ :: _) _ _ _; refine stb rfl rfl evL spL rfl rfl (by first | decide | exact Nat.zero_lt_succ _ | exact of_decide_eq_true rfl) kpL ?_)) | refine s_nil ?_ | refine kh_normal ?_))
  rename_i b1
  revert b
  intro b2
  refine v_norm [(1,_),(2,_),(10,_),(11,_),(12,_)] heL (fun g => ?_)
  refine VH.ent (G := [allH (([] : List PtyP).map rowM), allH (([] : List PtyP).map rowI), orow 46 A1 c1 ([] ++ L.drop 0), bx b1 24 [.int .i64 t, .int .i64 la, .slice A1 L.length c1], bx b2 24 [.int .i64 0, .int .i64 0, .slice none 0 0]]) ?_ (ent_all_nil (ent_all_nil enL))
  refine v_loop [(3,4),(12,23)] (fun y : Nat × List PtyP => [(12, .int .i64 y.1)]) (fun y => [allH (y.2.map rowM), allH (y.2.map rowI), orow 46 A1 c1 (y.2 ++ L.drop y.1), bx b1 24 [.int .i64 t, .int .i64 la, .slice A1 L.length c1], bx b2 24 [.int .i64 0, .int .i64 0, .slice none 0 0]]) (fun y => y.1 ≤ L.length ∧ ptys y.2 = (ptys L).take y.1) (fun y => L.length - y.1) (0, []) hsL (ent_refl _) ⟨Nat.zero_le _, by simp [ptys]⟩ ?_
  rintro ⟨k, M⟩ g ⟨hk, hM⟩
  simp only [sets]
  simp only at hk hM
  have hMl : M.length = k := by
    have := congrArg List.length hM
    rw [ptys_len, List.length_take, ptys_len] at this; omega
  by_cases hkl : k < L.length
  · have hxg : (M ++ L.drop k).getD k Flat.dflt = L.getD k Flat.dflt := by
      rw [List.getD_eq_getElem?_getD, List.getElem?_append_right (by omega), List.getElem?_drop, hMl, Nat.sub_self, Nat.add_zero, ← List.getD_eq_getElem?_getD]
    have hDl : (M ++ L.drop k).length = L.length := by rw [List.length_append, List.length_drop]; omega
    have hset : ∀ y, (M ++ L.drop k).set k y = (M ++ [y]) ++ L.drop (k + 1) := fun y => by
      rw [drop_cons (d := Flat.dflt) hkl, List.set_append_right _ _ (by omega), hMl, Nat.sub_self, List.set_cons_zero, List.append_assoc]; rfl
    have hM1 : ∀ y : PtyP, y.p = (L.getD k Flat.dflt).p → ptys (M ++ [y]) = (ptys L).take (k + 1) := fun y hy => by
      rw [ptys_snoc, hM, take_snoc (d := pty0) (by rw [ptys_len]; exact hkl), ptys_at hkl, hy]
    obtain ⟨x, hx⟩ : ∃ x, L.getD k Flat.dflt = x := ⟨_, rfl⟩
    have hO := fun w h1 h2 => ownPt_spec x w (by rw [← hx]; have := hz.atm hkl; omega) (by rw [← hx]; have := hz.ati hkl; omega) h1 h2
    have hm := hr.mem hkl
    have hi := hr.inv hkl
    rw [hx] at hm hi hxg hM1
    have hxE : Flat.enc ((M ++ L.drop k).getD k Flat.dflt) = Flat.enc x := by rw [hxg]
    clear hx hxg hz hr hM
    generalize M ++ L.drop k = D at hxE hDl hset ⊢
    obtain ⟨⟨xi, xl, xm, xv⟩, xA, xca, xB, xcb⟩ := x
    simp only at hm hi hM1
    unfold OwnPt at hO
    rw [show Flat.enc (⟨⟨xi, xl, xm, xv⟩, xA, xca, xB, xcb⟩ : PtyP) = [.int .i64 xi, .int .i64 xl, .slice xA xm.length xca, .slice xB xv.length xcb] from rfl] at *
    (repeat' (first | (show VH _ _ _ _ _ _ _; first | refine v_seq ?_ | refine r_seq ?_ | refine v_block ?_ | refine v_skip ?_ | refine v_cond_t rfl tbL ?_) | (show SH _ _ _ _ _ (_ :: _) _ _ _; first | (show SH _ _ _ _ _ (⟨_, .move _, _, _, _, _⟩ :: _) _ _ _; refine mov evL ?_) | (show SH _ _ _ _ _ (⟨_, .assign _, _, _, _, _⟩ :: _) _ _ _; refine asg evL ?_) | (show SH _ _ _ _ _ (⟨_, .binOp .lss _ _ _ _, _, _, _, _⟩ :: _) _ _ _; refine lssT rfl rfl omD ?_) | (show SH _ _ _ _ _ (⟨_, .load _ _, _, _, _, _⟩ :: _) _ _ _; refine lag rfl (fun _ _ => rdP) (by rfl) omL (by assumption) ?_) | (show SH _ _ _ _ _ (⟨_, .indexAddr _ _ _, _, _, _, _⟩ :: _) _ _ _; refine ix rfl rfl (by with_reducible rfl) (fun _ _ => rdP) (by rfl) omL omL ?_) | refine ala rfl (fun b => ?_) | (show SH _ _ _ _ _ (⟨_, .store _ _ _, _, _, _, _⟩ :: _) _ _ _; refine sta rfl rfl rfl spL (by rfl) (by rfl) (by rfl) kpL ?_)) | refine s_nil ?_ | refine kh_normal ?_))
    revert b
    intro b4
    refine r_heldT [bx b1 24 _, bx b4 46 _] (tr [(0, true), (1, true), (2, true), (3, false), (4, false), (5, false), (6, false)] .nil) hmix (by kernel_rfl) enL ?_
    (repeat' ((show SH _ _ _ _ _ (_ :: _) _ _ _; first | (show SH _ _ _ _ _ (⟨_, .move _, _, _, _, _⟩ :: _) _ _ _; refine mov evL ?_) | (show SH _ _ _ _ _ (⟨_, .load _ _, _, _, _, _⟩ :: _) _ _ _; first | refine lbx rfl spL (by rfl) ?_ | refine lba rfl spL (by rfl) ?_) | (show SH _ _ _ _ _ (⟨_, .call ⟨.value (.func 50), _, _⟩, _, _, _, _⟩ :: _) _ _ _; refine cp (callee := .func 50) rfl (fun w hw => hO _ (hm.ext hw.ext) (hi.ext hw.ext)) rfl rfl ?_) | refine fad rfl ?_)))
    rintro _ _ ⟨y, hyp, rfl, rfl⟩
    (repeat' ((show SH _ _ _ _ _ (_ :: _) _ _ _; (show SH _ _ _ _ _ (⟨_, .indexAddr _ _ _, _, _, _, _⟩ :: _) _ _ _; refine ix rfl rfl (by with_reducible rfl) (fun _ _ => rdP) (by rfl) omL omL ?_))))
    refine stv y rfl rfl rfl spL rfl (by omega) rfl enL ?_
    rw [hset]
    (repeat' (first | refine r_seq ?_ | (show SH _ _ _ _ _ (_ :: _) _ _ _; first | (show SH _ _ _ _ _ (⟨_, .move _, _, _, _, _⟩ :: _) _ _ _; refine mov evL ?_) | (show SH _ _ _ _ _ (⟨_, .binOp .add _ _ _ _, _, _, _, _⟩ :: _) _ _ _; refine add rfl rfl inL ?_)) | refine s_nil ?_ | refine kh_normal ?_ | refine bh_normal ?_))
    refine ⟨agL, (k + 1, M ++ [y]), hsL, ?_, ⟨hkl, hM1 y hyp⟩, by show L.length - (k + 1) < L.length - k; omega⟩
    exact Ent.trans (B := [rowM y, allH (M.map rowM), rowI y, allH (M.map rowI), orow 46 A1 c1 ((M ++ [y]) ++ L.drop (k + 1)), bx b1 24 [.int .i64 t, .int .i64 la, .slice A1 L.length c1], bx b2 24 [.int .i64 0, .int .i64 0, .slice none 0 0]]) enL (ent_all_snoc.trans (ent_cons Split.head ent_all_snoc))
  · have hkE : k = L.length := by omega
    subst hkE
    rw [List.drop_of_length_le (by omega), List.append_nil]
    have hMp : ptys M = ptys L := by rw [hM, ← ptys_len, List.take_length]
    rw [← hMl]
    (repeat' (first | (show VH _ _ _ _ _ _ _; first | refine v_seq ?_ | refine r_seq ?_ | refine v_ret ?_ | refine v_exit ?_ | refine v_cond_f rfl tbL ?_) | (show SH _ _ _ _ _ (_ :: _) _ _ _; first | (show SH _ _ _ _ _ (⟨_, .binOp .lss _ _ _ _, _, _, _, _⟩ :: _) _ _ _; refine lssF rfl rfl omD ?_) | (show SH _ _ _ _ _ (⟨_, .load _ _, _, _, _, _⟩ :: _) _ _ _; refine lba rfl spL (by rfl) ?_) | (show SH _ _ _ _ _ (⟨_, .store _ _ _, _, _, _, _⟩ :: _) _ _ _; refine sta rfl rfl rfl spL (by rfl) (by rfl) (by rfl) kpL ?_)) | refine s_nil ?_ | refine kh_normal ?_ | refine kh_exit ?_ | refine bh_exit ?_))
    exact rhC rfl rfl rfl (fun w hw => loadVar_bx hw spL (by rfl)) ⟨A1, c1, M, hMp, rfl, rfl⟩ enL
end Go.Proofs.YtlfbcoohfnoacaaGreat

/- Package slices: Repeat. Package party: Share, Of. -/
namespace Go.Proofs.YtlfbcoohfnoacaaGreat
open Go.Fw Go.RowKit
set_option maxHeartbeats 1000000 in
set_option maxRecDepth 100000 in
theorem mul64_spec (n : Nat) (h1 : 1 ≤ n) (h5 : n ≤ 5) (w : World) : Ret Tryz.prog 113 [.int .u64 1, .int .u64 n].toArray w (Out w (.tuple #[.int .u64 0, .int .u64 n])) := by
  have a1 : bandK .u64 1 4294967295 = 1 := by decide
  have a0 : bandK .u64 0 4294967295 = 0 := by decide
  have s0 : (0 : Int).fdiv (2 ^ (min (Int.toNat 32) (IntKind.bits .u64))) = 0 := by decide
  have s1 : (1 : Int).fdiv (2 ^ (min (Int.toNat 32) (IntKind.bits .u64))) = 0 := by decide
  have m2 : IntKind.wrap .u64 (1 * 0) = 0 := by decide
  have m3 : IntKind.wrap .u64 (0 * 0) = 0 := by decide
  have p0 : IntKind.wrap .u64 (0 + 0) = 0 := by decide
  have hn : n = 1 ∨ n = 2 ∨ n = 3 ∨ n = 4 ∨ n = 5 := by omega
  have an : bandK .u64 (n : Int) 4294967295 = n := by rcases hn with rfl | rfl | rfl | rfl | rfl <;> decide
  have sn : (n : Int).fdiv (2 ^ (min (Int.toNat 32) (IntKind.bits .u64))) = 0 := by rcases hn with rfl | rfl | rfl | rfl | rfl <;> decide
  have m1 : IntKind.wrap .u64 (1 * (n : Int)) = n := by rcases hn with rfl | rfl | rfl | rfl | rfl <;> decide
  have m0 : IntKind.wrap .u64 (0 * (n : Int)) = 0 := by rcases hn with rfl | rfl | rfl | rfl | rfl <;> decide
  clear hn h1 h5
  refine enterH Tryz.func113 rfl rfl Tryz.ntmps113 rfl (Wd.refl _) ?_
  (repeat' (first | (show VH _ _ _ _ _ _ _; first | refine v_seq ?_ | refine r_seq ?_) | (show SH _ _ _ _ _ (_ :: _) _ _ _; first | (show SH _ _ _ _ _ (⟨_, .move _, _, _, _, _⟩ :: _) _ _ _; refine mov evL ?_) | (show SH _ _ _ _ _ (⟨_, .assign _, _, _, _, _⟩ :: _) _ _ _; refine asg evL ?_)) | refine s_nil ?_ | refine kh_normal ?_))
  refine andw rfl rfl 1 a1 ?_
  (repeat' (first | (show VH _ _ _ _ _ _ _; first | refine v_seq ?_ | refine r_seq ?_) | (show SH _ _ _ _ _ (_ :: _) _ _ _; first | (show SH _ _ _ _ _ (⟨_, .move _, _, _, _, _⟩ :: _) _ _ _; refine mov evL ?_) | (show SH _ _ _ _ _ (⟨_, .assign _, _, _, _, _⟩ :: _) _ _ _; refine asg evL ?_)) | refine s_nil ?_ | refine kh_normal ?_))
  refine shrw rfl rfl (by decide) 0 s1 ?_
  (repeat' (first | (show VH _ _ _ _ _ _ _; first | refine v_seq ?_ | refine r_seq ?_) | (show SH _ _ _ _ _ (_ :: _) _ _ _; first | (show SH _ _ _ _ _ (⟨_, .move _, _, _, _, _⟩ :: _) _ _ _; refine mov evL ?_) | (show SH _ _ _ _ _ (⟨_, .assign _, _, _, _, _⟩ :: _) _ _ _; refine asg evL ?_)) | refine s_nil ?_ | refine kh_normal ?_))
  refine andw rfl rfl (n : Int) an ?_
  (repeat' (first | (show VH _ _ _ _ _ _ _; first | refine v_seq ?_ | refine r_seq ?_) | (show SH _ _ _ _ _ (_ :: _) _ _ _; first | (show SH _ _ _ _ _ (⟨_, .move _, _, _, _, _⟩ :: _) _ _ _; refine mov evL ?_) | (show SH _ _ _ _ _ (⟨_, .assign _, _, _, _, _⟩ :: _) _ _ _; refine asg evL ?_)) | refine s_nil ?_ | refine kh_normal ?_))
  refine shrw rfl rfl (by decide) 0 sn ?_
  (repeat' (first | (show VH _ _ _ _ _ _ _; first | refine v_seq ?_ | refine r_seq ?_) | (show SH _ _ _ _ _ (_ :: _) _ _ _; first | (show SH _ _ _ _ _ (⟨_, .move _, _, _, _, _⟩ :: _) _ _ _; refine mov evL ?_) | (show SH _ _ _ _ _ (⟨_, .assign _, _, _, _, _⟩ :: _) _ _ _; refine asg evL ?_)) | refine s_nil ?_ | refine kh_normal ?_))
  refine mulw rfl rfl (n : Int) m1 ?_
  (repeat' (first | (show VH _ _ _ _ _ _ _; first | refine v_seq ?_ | refine r_seq ?_) | (show SH _ _ _ _ _ (_ :: _) _ _ _; first | (show SH _ _ _ _ _ (⟨_, .move _, _, _, _, _⟩ :: _) _ _ _; refine mov evL ?_) | (show SH _ _ _ _ _ (⟨_, .assign _, _, _, _, _⟩ :: _) _ _ _; refine asg evL ?_)) | refine s_nil ?_ | refine kh_normal ?_))
  refine mulw rfl rfl 0 m0 ?_
  (repeat' ((show SH _ _ _ _ _ (_ :: _) _ _ _; (show SH _ _ _ _ _ (⟨_, .move _, _, _, _, _⟩ :: _) _ _ _; refine mov evL ?_))))
  refine shrw rfl rfl (by decide) 0 sn ?_
  (repeat' (first | (show VH _ _ _ _ _ _ _; first | refine v_seq ?_ | refine r_seq ?_ | refine r_quiet hmix (by kernel_rfl) ?_ | refine v_block ?_ | refine v_ret ?_ | refine v_skip ?_ | refine v_exit ?_ | refine v_label ?_ | refine v_cond_t rfl tbL ?_ | refine v_cond_f rfl tbL ?_ | refine v_cond_dec rfl (fun h => ?_) (fun h => ?_) | refine v_cond_ndec rfl (fun h => ?_) (fun h => ?_) | refine v_cond rfl (fun h => ?_) (fun h => ?_)) | (show SH _ _ _ _ _ (_ :: _) _ _ _; first | (show SH _ _ _ _ _ (⟨_, .move _, _, _, _, _⟩ :: _) _ _ _; refine mov evL ?_) | (show SH _ _ _ _ _ (⟨_, .assign _, _, _, _, _⟩ :: _) _ _ _; refine asg evL ?_) | (show SH _ _ _ _ _ (⟨_, .binOp .add _ _ _ _, _, _, _, _⟩ :: _) _ _ _; refine add rfl rfl inL ?_) | (show SH _ _ _ _ _ (⟨_, .binOp .mul _ _ _ _, _, _, _, _⟩ :: _) _ _ _; refine mul rfl rfl inL ?_) | refine sh1 rfl rfl ?_) | refine s_nil ?_ | refine s_fork ?_ ?_ | refine s_fork3 ?_ ?_ ?_ | refine s_fork4 ?_ ?_ ?_ ?_ | refine kh_normal ?_ | refine kh_ret ?_ | refine kh_exit ?_ | refine bh_normal ?_ | refine bh_ret ?_ | refine bh_exit ?_ | refine bh_exit_ne rfl ?_))
  refine addw rfl rfl 0 p0 ?_
  (repeat' (first | (show VH _ _ _ _ _ _ _; first | refine v_seq ?_ | refine r_seq ?_) | (show SH _ _ _ _ _ (_ :: _) _ _ _; first | (show SH _ _ _ _ _ (⟨_, .move _, _, _, _, _⟩ :: _) _ _ _; refine mov evL ?_) | (show SH _ _ _ _ _ (⟨_, .assign _, _, _, _, _⟩ :: _) _ _ _; refine asg evL ?_)) | refine s_nil ?_ | refine kh_normal ?_))
  refine andw rfl rfl 0 a0 ?_
  (repeat' (first | (show VH _ _ _ _ _ _ _; first | refine v_seq ?_ | refine r_seq ?_) | (show SH _ _ _ _ _ (_ :: _) _ _ _; first | (show SH _ _ _ _ _ (⟨_, .move _, _, _, _, _⟩ :: _) _ _ _; refine mov evL ?_) | (show SH _ _ _ _ _ (⟨_, .assign _, _, _, _, _⟩ :: _) _ _ _; refine asg evL ?_)) | refine s_nil ?_ | refine kh_normal ?_))
  refine shrw rfl rfl (by decide) 0 s0 ?_
  (repeat' (first | (show VH _ _ _ _ _ _ _; first | refine v_seq ?_ | refine r_seq ?_) | (show SH _ _ _ _ _ (_ :: _) _ _ _; first | (show SH _ _ _ _ _ (⟨_, .move _, _, _, _, _⟩ :: _) _ _ _; refine mov evL ?_) | (show SH _ _ _ _ _ (⟨_, .assign _, _, _, _, _⟩ :: _) _ _ _; refine asg evL ?_)) | refine s_nil ?_ | refine kh_normal ?_))
  refine mulw rfl rfl 0 m2 ?_
  (repeat' (first | (show VH _ _ _ _ _ _ _; first | refine v_seq ?_ | refine r_seq ?_ | refine r_quiet hmix (by kernel_rfl) ?_ | refine v_block ?_ | refine v_ret ?_ | refine v_skip ?_ | refine v_exit ?_ | refine v_label ?_ | refine v_cond_t rfl tbL ?_ | refine v_cond_f rfl tbL ?_ | refine v_cond_dec rfl (fun h => ?_) (fun h => ?_) | refine v_cond_ndec rfl (fun h => ?_) (fun h => ?_) | refine v_cond rfl (fun h => ?_) (fun h => ?_)) | (show SH _ _ _ _ _ (_ :: _) _ _ _; first | (show SH _ _ _ _ _ (⟨_, .move _, _, _, _, _⟩ :: _) _ _ _; refine mov evL ?_) | (show SH _ _ _ _ _ (⟨_, .assign _, _, _, _, _⟩ :: _) _ _ _; refine asg evL ?_) | (show SH _ _ _ _ _ (⟨_, .binOp .add _ _ _ _, _, _, _, _⟩ :: _) _ _ _; refine add rfl rfl inL ?_) | (show SH _ _ _ _ _ (⟨_, .binOp .mul _ _ _ _, _, _, _, _⟩ :: _) _ _ _; refine mul rfl rfl inL ?_) | refine sh1 rfl rfl ?_) | refine s_nil ?_ | refine s_fork ?_ ?_ | refine s_fork3 ?_ ?_ ?_ | refine s_fork4 ?_ ?_ ?_ ?_ | refine kh_normal ?_ | refine kh_ret ?_ | refine kh_exit ?_ | refine bh_normal ?_ | refine bh_ret ?_ | refine bh_exit ?_ | refine bh_exit_ne rfl ?_))
  refine addw rfl rfl 0 p0 ?_
  (repeat' (first | (show VH _ _ _ _ _ _ _; first | refine v_seq ?_ | refine r_seq ?_) | (show SH _ _ _ _ _ (_ :: _) _ _ _; first | (show SH _ _ _ _ _ (⟨_, .move _, _, _, _, _⟩ :: _) _ _ _; refine mov evL ?_) | (show SH _ _ _ _ _ (⟨_, .assign _, _, _, _, _⟩ :: _) _ _ _; refine asg evL ?_)) | refine s_nil ?_ | refine kh_normal ?_))
  refine mulw rfl rfl 0 m3 ?_
  (repeat' ((show SH _ _ _ _ _ (_ :: _) _ _ _; (show SH _ _ _ _ _ (⟨_, .move _, _, _, _, _⟩ :: _) _ _ _; refine mov evL ?_))))
  refine addw rfl rfl 0 p0 ?_
  (repeat' ((show SH _ _ _ _ _ (_ :: _) _ _ _; (show SH _ _ _ _ _ (⟨_, .move _, _, _, _, _⟩ :: _) _ _ _; refine mov evL ?_))))
  refine shrw rfl rfl (by decide) 0 s0 ?_
  (repeat' (first | (show VH _ _ _ _ _ _ _; first | refine v_seq ?_ | refine r_seq ?_ | refine r_quiet hmix (by kernel_rfl) ?_ | refine v_block ?_ | refine v_ret ?_ | refine v_skip ?_ | refine v_exit ?_ | refine v_label ?_ | refine v_cond_t rfl tbL ?_ | refine v_cond_f rfl tbL ?_ | refine v_cond_dec rfl (fun h => ?_) (fun h => ?_) | refine v_cond_ndec rfl (fun h => ?_) (fun h => ?_) | refine v_cond rfl (fun h => ?_) (fun h => ?_)) | (show SH _ _ _ _ _ (_ :: _) _ _ _; first | (show SH _ _ _ _ _ (⟨_, .move _, _, _, _, _⟩ :: _) _ _ _; refine mov evL ?_) | (show SH _ _ _ _ _ (⟨_, .assign _, _, _, _, _⟩ :: _) _ _ _; refine asg evL ?_) | (show SH _ _ _ _ _ (⟨_, .binOp .add _ _ _ _, _, _, _, _⟩ :: _) _ _ _; refine add rfl rfl inL ?_) | (show SH _ _ _ _ _ (⟨_, .binOp .mul _ _ _ _, _, _, _, _⟩ :: _) _ _ _; refine mul rfl rfl inL ?_) | refine sh1 rfl rfl ?_) | refine s_nil ?_ | refine s_fork ?_ ?_ | refine s_fork3 ?_ ?_ ?_ | refine s_fork4 ?_ ?_ ?_ ?_ | refine kh_normal ?_ | refine kh_ret ?_ | refine kh_exit ?_ | refine bh_normal ?_ | refine bh_ret ?_ | refine bh_exit ?_ | refine bh_exit_ne rfl ?_))
  refine addw rfl rfl 0 p0 ?_
  (repeat' (first | (show VH _ _ _ _ _ _ _; first | refine v_seq ?_ | refine r_seq ?_) | (show SH _ _ _ _ _ (_ :: _) _ _ _; first | (show SH _ _ _ _ _ (⟨_, .move _, _, _, _, _⟩ :: _) _ _ _; refine mov evL ?_) | (show SH _ _ _ _ _ (⟨_, .assign _, _, _, _, _⟩ :: _) _ _ _; refine asg evL ?_)) | refine s_nil ?_ | refine kh_normal ?_))
  refine mulw rfl rfl (n : Int) m1 ?_
  (repeat' (first | refine v_ret ?_ | (show SH _ _ _ _ _ (_ :: _) _ _ _; (show SH _ _ _ _ _ (⟨_, .assign _, _, _, _, _⟩ :: _) _ _ _; refine asg evL ?_)) | refine s_nil ?_ | refine kh_normal ?_))
  exact rh2 rfl rfl rfl ⟨rfl, rfl⟩ (ent_nil _)
set_option maxRecDepth 100000 in
theorem mul_spec (n : Nat) (h1 : 1 ≤ n) (h5 : n ≤ 5) (w : World) : Ret Tryz.prog 97 [.int .u64 1, .int .u64 n].toArray w (Out w (.tuple #[.int .u64 0, .int .u64 n])) := by
  have hm := fun w => mul64_spec n h1 h5 w
  refine enterH Tryz.func97 rfl rfl Tryz.ntmps97 rfl (Wd.refl _) ?_
  (repeat' (first | (show VH _ _ _ _ _ _ _; first | refine v_seq ?_ | refine r_seq ?_ | refine v_ret ?_ | refine v_skip ?_ | refine v_cond_f rfl tbL ?_) | (show SH _ _ _ _ _ (_ :: _) _ _ _; first | (show SH _ _ _ _ _ (⟨_, .move _, _, _, _, _⟩ :: _) _ _ _; refine mov evL ?_) | (show SH _ _ _ _ _ (⟨_, .assign _, _, _, _, _⟩ :: _) _ _ _; refine asg evL ?_) | (show SH _ _ _ _ _ (⟨_, .call ⟨.value (.func 113), _, _⟩, _, _, _, _⟩ :: _) _ _ _; refine cl (callee := .func 113) rfl (fun w hw => hm w) rfl rfl ?_) | refine extr rfl rfl ?_) | refine s_nil ?_ | refine kh_normal ?_))
  exact rh2 rfl rfl rfl ⟨rfl, rfl⟩ (ent_nil _)
set_option maxHeartbeats 1000000 in
set_option maxRecDepth 100000 in
theorem repeat_spec (q : Int) (A : Option Addr) (cp n : Nat) (w : World) (h1 : 1 ≤ n) (h5 : n ≤ 5) (hr : Rd w A [q]) : Ret Tryz.prog 61 [.slice A 1 cp, .int .i64 n].toArray w (RP w (Fresh 3 (List.replicate n q))) := by
  have hm := fun w => mul_spec n h1 h5 w
  refine enterH Tryz.func61 rfl rfl Tryz.ntmps61 rfl (Wd.refl _) ?_
  (repeat' (first | (show VH _ _ _ _ _ _ _; first | refine v_seq ?_ | refine r_seq ?_ | refine v_skip ?_ | refine v_cond_f rfl tbL ?_) | (show SH _ _ _ _ _ (_ :: _) _ _ _; first | (show SH _ _ _ _ _ (⟨_, _, _, _, _, some _⟩ :: _) _ _ _; (refine gif rfl rfl ?_; refine giFF tbL ?_)) | (show SH _ _ _ _ _ (⟨_, .move _, _, _, _, _⟩ :: _) _ _ _; refine mov evL ?_) | (show SH _ _ _ _ _ (⟨_, .assign _, _, _, _, _⟩ :: _) _ _ _; refine asg evL ?_) | (show SH _ _ _ _ _ (⟨_, .binOp .lss _ _ _ _, _, _, _, _⟩ :: _) _ _ _; refine lssF rfl rfl omD ?_) | (show SH _ _ _ _ _ (⟨_, .binOp .gtr _ _ _ _, _, _, _, _⟩ :: _) _ _ _; refine gtrF rfl rfl omD ?_) | refine slen rfl ?_ | (show SH _ _ _ _ _ (⟨_, .call ⟨.value (.func 97), _, _⟩, _, _, _, _⟩ :: _) _ _ _; refine cl (callee := .func 97) rfl (fun w hw => hm w) rfl rfl ?_) | (show SH _ _ _ _ _ (⟨_, .pick _ _ _, _, _, _, _⟩ :: _) _ _ _; refine pkf rfl tbL evL ?_) | refine extr rfl rfl ?_ | (show SH _ _ _ _ _ (⟨_, .convert _ _ _, _, _, _, _⟩ :: _) _ _ _; first | refine c64 rfl inL ?_ | refine cu64 rfl omL omL ?_)) | refine s_nil ?_ | refine kh_normal ?_))
  refine mkz (α := Int) (z := .int .i64 0) (by kernel_rfl) rfl rfl rfl rfl rfl rfl (by omega) (by omega) (by omega) (by omega) (fun b8 => ?_)
  rw [Int.toNat_natCast]
  have hz : (Flat.dflt : Int) = 0 := rfl
  rw [hz]
  (repeat' (first | (show VH _ _ _ _ _ _ _; first | refine v_seq ?_ | refine r_seq ?_) | (show SH _ _ _ _ _ (_ :: _) _ _ _; first | (show SH _ _ _ _ _ (⟨_, .move _, _, _, _, _⟩ :: _) _ _ _; refine mov evL ?_) | (show SH _ _ _ _ _ (⟨_, .assign _, _, _, _, _⟩ :: _) _ _ _; refine asg evL ?_)) | refine s_nil ?_ | refine kh_normal ?_))
  refine cpyL (L := List.replicate n (0 : Int)) (o := 0) (V := [q]) (kk := 1) rfl rfl rfl rfl spL rfl (fun w hw => hr.ext hw.ext) (by omega) rfl (by rw [List.length_replicate]; omega) (by rw [List.length_replicate]; omega) trivial ?_
  have hst : (List.replicate n (0 : Int)).take 0 ++ [q] ++ (List.replicate n (0 : Int)).drop (0 + 1) = List.replicate 1 q ++ List.replicate (n - 1) (0 : Int) := by
    rw [List.drop_replicate]; simp
  rw [hst]
  (repeat' (first | (show VH _ _ _ _ _ _ _; first | refine v_seq ?_ | refine v_block ?_) | (show SH _ _ _ _ _ (_ :: _) _ _ _; (show SH _ _ _ _ _ (⟨_, .assign _, _, _, _, _⟩ :: _) _ _ _; refine asg evL ?_)) | refine s_nil ?_ | refine kh_normal ?_))
  refine v_norm [(7,_),(8,_)] heL (fun g => ?_)
  refine v_loop [(8,8),(34,46)] (fun j : Nat => [(8, .int .i64 j)]) (fun j => [orow 3 (some ⟨b8, 0, none⟩) n (List.replicate j q ++ List.replicate (n - j) (0 : Int))]) (fun j => 1 ≤ j ∧ j ≤ n) (fun j => n - j) 1 hsL enL ⟨Nat.le_refl _, h1⟩ ?_
  rintro j g ⟨hj1, hjn⟩
  simp only [sets]
  have hLl : (List.replicate j q ++ List.replicate (n - j) (0 : Int)).length = n := by rw [List.length_append, List.length_replicate, List.length_replicate]; omega
  by_cases hlt : j < n
  · obtain ⟨kk, hkk⟩ : ∃ kk, min j (n - j) = kk := ⟨_, rfl⟩
    have htk : (List.replicate j q ++ List.replicate (n - j) (0 : Int)).take kk = List.replicate kk q := by
      rw [List.take_append_of_le_length (by rw [List.length_replicate]; omega), List.take_replicate, Nat.min_eq_left (by omega)]
    have hnx : (List.replicate j q ++ List.replicate (n - j) (0 : Int)).take j ++ List.replicate kk q ++ (List.replicate j q ++ List.replicate (n - j) (0 : Int)).drop (j + kk) = List.replicate (j + kk) q ++ List.replicate (n - (j + kk)) (0 : Int) := by
      rw [List.take_left' (by rw [List.length_replicate]), List.drop_append, List.length_replicate, List.drop_replicate, List.drop_replicate, List.replicate_append_replicate, show j - (j + kk) = 0 by omega, show n - j - (j + kk - j) = n - (j + kk) by omega]
      simp
    generalize List.replicate j q ++ List.replicate (n - j) (0 : Int) = D at hLl htk hnx ⊢
    (repeat' (first | (show VH _ _ _ _ _ _ _; first | refine v_seq ?_ | refine r_seq ?_ | refine v_block ?_ | refine v_skip ?_ | refine v_cond_t rfl tbL ?_) | (show SH _ _ _ _ _ (_ :: _) _ _ _; first | (show SH _ _ _ _ _ (⟨_, .move _, _, _, _, _⟩ :: _) _ _ _; refine mov evL ?_) | (show SH _ _ _ _ _ (⟨_, .binOp .lss _ _ _ _, _, _, _, _⟩ :: _) _ _ _; refine lssT rfl rfl omD ?_) | refine slen rfl ?_) | refine s_nil ?_ | refine kh_normal ?_))
    refine r_held [] [(0, true), (1, true), (2, true), (3, true), (4, true), (5, false), (6, false), (7, false), (8, false), (9, false)] hmix (by kernel_rfl) (ent_nil _) ?_
    (repeat' ((show SH _ _ _ _ _ (_ :: _) _ _ _; first | (show SH _ _ _ _ _ (⟨_, .move _, _, _, _, _⟩ :: _) _ _ _; refine mov evL ?_) | (show SH _ _ _ _ _ (⟨_, .slice _ _ _ _ _, _, _, _, _⟩ :: _) _ _ _; first | refine slh rfl rfl omL omL ?_ | refine sll rfl rfl omL omL ?_))))
    refine cpyL (L := D) (o := j) (V := List.replicate kk q) (kk := kk) rfl rfl rfl rfl spL (if_neg (by omega)) (fun w hw => by rw [← htk]; exact (hw.rd spL).take kk) (by omega) (by rw [List.length_replicate]) (by omega) (by omega) (ent_nil _) ?_
    rw [hnx]
    (repeat' (first | (show SH _ _ _ _ _ (_ :: _) _ _ _; first | (show SH _ _ _ _ _ (⟨_, .assign _, _, _, _, _⟩ :: _) _ _ _; refine asg evL ?_) | (show SH _ _ _ _ _ (⟨_, .binOp .add _ _ _ _, _, _, _, _⟩ :: _) _ _ _; refine add rfl rfl inL ?_)) | refine s_nil ?_ | refine kh_normal ?_ | refine bh_normal ?_))
    exact ⟨agL, j + kk, by simp only [Int.natCast_add]; (repeat (first | exact trivial | refine And.intro rfl ?_)), enL, ⟨by omega, by omega⟩, by omega⟩
  · have hje : j = n := by omega
    subst hje
    rw [Nat.sub_self, List.replicate_zero, List.append_nil]
    (repeat' (first | (show VH _ _ _ _ _ _ _; first | refine v_seq ?_ | refine r_seq ?_ | refine v_ret ?_ | refine v_exit ?_ | refine v_cond_f rfl tbL ?_) | (show SH _ _ _ _ _ (_ :: _) _ _ _; first | (show SH _ _ _ _ _ (⟨_, .move _, _, _, _, _⟩ :: _) _ _ _; refine mov evL ?_) | (show SH _ _ _ _ _ (⟨_, .assign _, _, _, _, _⟩ :: _) _ _ _; refine asg evL ?_) | (show SH _ _ _ _ _ (⟨_, .binOp .lss _ _ _ _, _, _, _, _⟩ :: _) _ _ _; refine lssF rfl rfl omD ?_) | refine slen rfl ?_) | refine s_nil ?_ | refine kh_normal ?_ | refine kh_exit ?_ | refine bh_exit ?_))
    exact rh1 rfl rfl ⟨some ⟨b8, 0, none⟩, j, congrArg (fun m => Value.slice (some ⟨b8, 0, none⟩) m j) List.length_replicate.symm, rfl⟩ enL
/-! Share -/
theorem idx_id (id : Int) : ∀ (L : List PtyP) (i : Int), idxFrom (fun x : PtyP => decide (x.p.id = id)) i L = match idxP id (ptys L) with | none => -1 | some k => i + (k : Int)
  | [], i => rfl
  | x :: L, i => by
    show idxFrom _ i (x :: L) = match idxP id (x.p :: ptys L) with | none => -1 | some k => i + (k : Int)
    rw [idxFrom, idxP]
    by_cases h : x.p.id = id
    · rw [if_pos (decide_eq_true h), if_pos h]; simp
    · rw [if_neg (by rw [decide_eq_true_eq]; exact h), if_neg h, idx_id id L (i + 1)]
      cases idxP id (ptys L) with
      | none => rfl
      | some k => show i + 1 + (k : Int) = i + ((k + 1 : Nat) : Int); omega
theorem idxP_lt (id : Int) : ∀ (L : List PtyP) {k : Nat}, idxP id (ptys L) = some k → k < L.length
  | [], k, h => by cases h
  | x :: L, k, h => by
    change idxP id (x.p :: ptys L) = some k at h
    rw [idxP] at h
    split at h
    · injection h with h; subst h; simp
    · cases ha : idxP id (ptys L) with
      | none => rw [ha] at h; cases h
      | some j => rw [ha] at h; have h2 : some (j + 1) = some k := h; injection h2 with h2; have := idxP_lt id L ha; simp only [List.length_cons]; omega
set_option maxRecDepth 100000 in
theorem share1_spec (x : PtyP) (id : Int) (a : Addr) (w : World) (h1 : w.cell? a = some (.int .i64 id)) : Ret Tryz.prog 60 [.agg (Flat.enc x).toArray, .pointer (some a)].toArray w (Out w (.bool (decide (x.p.id = id)))) := by
  obtain ⟨⟨xi, xl, xm, xv⟩, xA, xca, xB, xcb⟩ := x
  rw [show Flat.enc (⟨⟨xi, xl, xm, xv⟩, xA, xca, xB, xcb⟩ : PtyP) = [.int .i64 xi, .int .i64 xl, .slice xA xm.length xca, .slice xB xv.length xcb] from rfl]
  refine enterH Tryz.func60 rfl rfl Tryz.ntmps60 rfl (Wd.refl _) ?_
  (repeat' (first | (show VH _ _ _ _ _ _ _; first | refine v_seq ?_ | refine r_seq ?_ | refine v_ret ?_) | (show SH _ _ _ _ _ (_ :: _) _ _ _; first | (show SH _ _ _ _ _ (⟨_, .assign _, _, _, _, _⟩ :: _) _ _ _; refine asg evL ?_) | refine eql rfl rfl ?_ | (show SH _ _ _ _ _ (⟨_, .load _ _, _, _, _, _⟩ :: _) _ _ _; first | refine lbx rfl spL (by rfl) ?_ | refine lcell rfl (fun w hw => hw.ext.cell (by assumption)) ?_) | refine fad rfl ?_ | (show SH _ _ _ _ _ (⟨_, .box _ _, _, _, _, _⟩ :: _) _ _ _; refine bxx rfl evL rfl (fun b => ?_))) | refine s_nil ?_ | refine kh_normal ?_))
  exact rh1 rfl rfl ⟨rfl, rfl⟩ (ent_nil _)
/-- The shares after i of them were made one greater. -/
def sharesTo (q : Int) (n i : Nat) : List Int := (List.range n).map fun (k : Nat) => q + (if k < i then 1 else 0)
theorem sharesTo_zero (q : Int) (n : Nat) : sharesTo q n 0 = List.replicate n q := by
  unfold sharesTo
  apply List.ext_getElem (by simp)
  intro i h1 h2; simp
theorem sharesTo_len (q : Int) (n i : Nat) : (sharesTo q n i).length = n := by simp [sharesTo]
theorem sharesTo_at (q : Int) {n i : Nat} (hi : i < n) : (sharesTo q n i).getD i 0 = q := by
  simp [sharesTo, List.getD_eq_getElem?_getD, hi]
theorem sharesTo_next (q : Int) {n i : Nat} : (sharesTo q n i).set i (q + 1) = sharesTo q n (i + 1) := by
  unfold sharesTo
  apply List.ext_getElem (by simp)
  intro k h1 h2
  rw [List.getElem_set]
  simp only [List.getElem_map, List.getElem_range]
  split
  · rename_i e; subst e; rw [if_pos (by omega)]
  · rename_i e
    by_cases h : k < i
    · rw [if_pos h, if_pos (by omega)]
    · rw [if_neg h, if_neg (by omega)]
theorem sharesTo_all (a : Int) (n : Nat) (h : 0 ≤ a % (n : Int)) : sharesTo (a / (n : Int)) n (a % (n : Int)).toNat = sharesM a n := by
  unfold sharesTo sharesM
  apply List.map_congr_left
  intro k _
  by_cases hk : (k : Int) < a % (n : Int)
  · rw [if_pos (by omega), if_pos hk]
  · rw [if_neg (by omega), if_neg hk]
set_option maxHeartbeats 2000000 in
set_option maxRecDepth 100000 in
theorem share_spec (t la : Int) (A : Option Addr) (L : List PtyP) (c : Nat) (id amount : Int) (w : World) (hz : SzP L) (hr : RdP w A L) : Ret Tryz.prog 20 [hv36 t la A L c, .int .i64 id, .int .i64 amount].toArray w (RP w (FreshE 3 (shareM ⟨t, la, ptys L⟩ id amount).1 (shareM ⟨t, la, ptys L⟩ id amount).2)) := by
  have hv := fun w hr => valid_spec t la A L c w hz hr
  have hll := hz.len
  have hrA := hr.1
  unfold shareM
  cases hval : validHal ⟨t, la, ptys L⟩ with
  | false =>
    rw [hval] at hv
    refine enterH Tryz.func20 rfl rfl Tryz.ntmps20 rfl (Wd.refl _) ?_
    (repeat' (first | (show VH _ _ _ _ _ _ _; first | refine v_seq ?_ | refine r_seq ?_ | refine v_ret ?_ | refine v_cond_t rfl tbL ?_) | (show SH _ _ _ _ _ (_ :: _) _ _ _; first | (show SH _ _ _ _ _ (⟨_, .assign _, _, _, _, _⟩ :: _) _ _ _; refine asg evL ?_) | (show SH _ _ _ _ _ (⟨_, .load _ _, _, _, _, _⟩ :: _) _ _ _; refine lba rfl spL (by rfl) ?_) | (show SH _ _ _ _ _ (⟨_, .call ⟨.value (.func 8), _, _⟩, _, _, _, _⟩ :: _) _ _ _; refine cl (callee := .func 8) rfl (fun w hw => hv w (hr.ext hw.ext)) rfl rfl ?_) | refine bnoF rfl ?_ | (show SH _ _ _ _ _ (⟨_, .box _ _, _, _, _, _⟩ :: _) _ _ _; refine bxx rfl evL rfl (fun b => ?_))) | refine s_nil ?_ | refine kh_normal ?_ | refine kh_ret ?_))
    exact rh2 rfl rfl rfl ⟨none, 0, rfl, rfl⟩ (ent_nilrow (ent_nil _))
  | true =>
    rw [hval] at hv
    rw [if_pos rfl]
    have hV := valid_iff.1 hval
    have hix := idx_id id L 0
    refine enterH Tryz.func20 rfl rfl Tryz.ntmps20 rfl (Wd.refl _) ?_
    (repeat' ((fail_if_success (show VH _ _ (.seq (.region 3 _ _) _) _ _ _ _)); first | (show VH _ _ _ _ _ _ _; first | refine v_seq ?_ | refine r_seq ?_ | refine v_skip ?_ | refine v_cond_f rfl tbL ?_) | (show SH _ _ _ _ _ (_ :: _) _ _ _; first | (show SH _ _ _ _ _ (⟨_, .assign _, _, _, _, _⟩ :: _) _ _ _; refine asg evL ?_) | (show SH _ _ _ _ _ (⟨_, .load _ _, _, _, _, _⟩ :: _) _ _ _; refine lba rfl spL (by rfl) ?_) | (show SH _ _ _ _ _ (⟨_, .call ⟨.value (.func 8), _, _⟩, _, _, _, _⟩ :: _) _ _ _; refine cl (callee := .func 8) rfl (fun w hw => hv w (hr.ext hw.ext)) rfl rfl ?_) | refine bnoT rfl ?_ | (show SH _ _ _ _ _ (⟨_, .box _ _, _, _, _, _⟩ :: _) _ _ _; refine bxx rfl evL rfl (fun b => ?_))) | refine s_nil ?_ | refine kh_normal ?_))
    revert b
    intro b4
    have hif := fun (w2 : World) (hw2 : Wd w [bx b4 3 [.int .i64 id]] w2) => indexFuncP_spec A L c _ (fun x => decide (x.p.id = id)) w2 (by omega) (hrA.ext hw2.ext) ⟨60, #[], #[.pointer (some ⟨b4, 0, none⟩)], rfl, fun w3 he x _ => share1_spec x id _ w3 (he.cell (hw2.cell (cs := [.int .i64 id]) spL rfl))⟩
    unfold idxOf at hif
    rw [hix] at hif
    clear hix
    cases ha : idxP id (ptys L) with
    | none =>
      rw [ha] at hif
      simp only at hif ⊢
      (repeat' (first | (show VH _ _ _ _ _ _ _; first | refine v_seq ?_ | refine r_seq ?_ | refine v_block ?_ | refine v_ret ?_ | refine v_cond_t rfl tbL ?_) | (show SH _ _ _ _ _ (_ :: _) _ _ _; first | (show SH _ _ _ _ _ (⟨_, .move _, _, _, _, _⟩ :: _) _ _ _; refine mov evL ?_) | (show SH _ _ _ _ _ (⟨_, .assign _, _, _, _, _⟩ :: _) _ _ _; refine asg evL ?_) | (show SH _ _ _ _ _ (⟨_, .binOp .lss _ _ _ _, _, _, _, _⟩ :: _) _ _ _; refine lssT rfl rfl omD ?_) | (show SH _ _ _ _ _ (⟨_, .load _ _, _, _, _, _⟩ :: _) _ _ _; refine lbx rfl spL (by rfl) ?_) | (show SH _ _ _ _ _ (⟨_, .call ⟨.value (.func 59), _, _⟩, _, _, _, _⟩ :: _) _ _ _; refine cl (callee := .func 59) rfl (fun w hw => hif w (Ent.wd enL hw)) rfl rfl ?_) | refine fad rfl ?_ | (show SH _ _ _ _ _ (⟨_, .makeFunc _ _ _, _, _, _, _⟩ :: _) _ _ _; refine mf1 evL ?_)) | refine s_nil ?_ | refine kh_normal ?_ | refine kh_ret ?_ | refine bh_ret ?_))
      exact rh2 rfl rfl rfl ⟨none, 0, rfl, rfl⟩ (ent_nilrow (ent_nil _))
    | some k =>
      rw [ha] at hif
      have hk := idxP_lt id L ha
      simp only [Int.zero_add] at hif ⊢
      rw [ptys_at hk]
      by_cases hc : 0 ≤ amount ∧ amount ≤ 1099511627776
      · rw [if_pos hc]
        obtain ⟨c1_, c2_⟩ := hc
        have hok := hV.ok _ (List.mem_map_of_mem (f := PtyP.p) (getD_mem (d := Flat.dflt) hk))
        have hn1 : 1 ≤ (L.getD k Flat.dflt).p.mem.length := hok.2.1
        have hn5 : (L.getD k Flat.dflt).p.mem.length ≤ 5 := by have := hok.2.2.1; omega
        clear hok hV
        obtain ⟨x, hx⟩ : ∃ x, L.getD k Flat.dflt = x := ⟨_, rfl⟩
        have hxE := pty_enc hx
        rw [hx] at hn1 hn5 ⊢
        clear hx
        obtain ⟨⟨xi, xl, xm, xv⟩, xA, xca, xB, xcb⟩ := x
        simp only at hxE hn1 hn5 ⊢
        obtain ⟨n, hn⟩ : ∃ n, xm.length = n := ⟨_, rfl⟩
        rw [hn] at hn1 hn5 hxE ⊢
        have hm0 : 0 ≤ amount % (n : Int) := Int.emod_nonneg _ (by omega)
        have hmn : amount % (n : Int) < n := Int.emod_lt_of_pos _ (by omega)
        have hq0 : 0 ≤ amount / (n : Int) := Int.ediv_nonneg c1_ (by omega)
        have hq1 : amount / (n : Int) ≤ amount := Int.ediv_le_self _ c1_
        rw [← sharesTo_all amount n hm0]
        have hrp := fun A cp w h => repeat_spec (amount / (n : Int)) A cp n w hn1 hn5 h
        rw [← sharesTo_zero] at hrp
        obtain ⟨r, hr_⟩ : ∃ r : Nat, amount % (n : Int) = r := ⟨(amount % (n : Int)).toNat, by omega⟩
        rw [hr_, Int.toNat_natCast]
        (repeat' (first | (show VH _ _ _ _ _ _ _; first | refine v_seq ?_ | refine r_seq ?_ | refine v_block ?_ | refine v_skip ?_ | refine v_cond_f rfl tbL ?_) | (show SH _ _ _ _ _ (_ :: _) _ _ _; first | (show SH _ _ _ _ _ (⟨_, _, _, _, _, some _⟩ :: _) _ _ _; (refine gif rfl rfl ?_; refine giFF tbL ?_)) | (show SH _ _ _ _ _ (⟨_, .move _, _, _, _, _⟩ :: _) _ _ _; refine mov evL ?_) | (show SH _ _ _ _ _ (⟨_, .assign _, _, _, _, _⟩ :: _) _ _ _; refine asg evL ?_) | (show SH _ _ _ _ _ (⟨_, .binOp .lss _ _ _ _, _, _, _, _⟩ :: _) _ _ _; refine lssF rfl rfl omD ?_) | (show SH _ _ _ _ _ (⟨_, .binOp .gtr _ _ _ _, _, _, _, _⟩ :: _) _ _ _; refine gtrF rfl rfl omD ?_) | (show SH _ _ _ _ _ (⟨_, .binOp .quo _ _ _ _, _, _, _, _⟩ :: _) _ _ _; refine quo rfl rfl omL omL omL ?_) | (show SH _ _ _ _ _ (⟨_, .load _ _, _, _, _, _⟩ :: _) _ _ _; first | refine lbx rfl spL (by rfl) ?_ | refine lrg rfl (fun _ _ => rdP) (by rfl) omL (by assumption) (by rfl) ?_) | (show SH _ _ _ _ _ (⟨_, .indexAddr _ _ _, _, _, _, _⟩ :: _) _ _ _; refine ix rfl rfl (by with_reducible rfl) (fun _ _ => rdP) (by rfl) omL omL ?_) | refine slen rfl ?_ | (show SH _ _ _ _ _ (⟨_, .call ⟨.value (.func 59), _, _⟩, _, _, _, _⟩ :: _) _ _ _; refine cl (callee := .func 59) rfl (fun w hw => hif w (Ent.wd enL hw)) rfl rfl ?_) | (show SH _ _ _ _ _ (⟨_, .call ⟨.value (.func 61), _, _⟩, _, _, _, _⟩ :: _) _ _ _; refine cp (callee := .func 61) rfl (fun w hw => hrp _ _ w (hw.rd spL)) rfl rfl ?_) | (show SH _ _ _ _ _ (⟨_, .pick _ _ _, _, _, _, _⟩ :: _) _ _ _; refine pkf rfl tbL evL ?_) | refine fad rfl ?_ | (show SH _ _ _ _ _ (⟨_, .makeFunc _ _ _, _, _, _, _⟩ :: _) _ _ _; refine mf1 evL ?_) | (show SH _ _ _ _ _ (⟨_, .buildSlice _ _ _, _, _, _, _⟩ :: _) _ _ _; refine bsl (α := Int) rfl rfl (by repeat (first | exact Vals.nil | (apply Vals.cons; rfl))) rfl (by rfl) (by decide) (fun b => ?_))) | refine s_nil ?_ | refine kh_normal ?_ | refine bh_normal ?_))
        rintro _ _ ⟨A1, c1, rfl, rfl⟩
        clear hif hrp hxE hv
        generalize amount / (n : Int) = q at hq0 hq1 ⊢
        (repeat' ((fail_if_success (show VH _ _ (.seq (.region 11 _ _) _) _ _ _ _)); first | (show VH _ _ _ _ _ _ _; first | refine v_seq ?_ | refine r_seq ?_ | refine v_block ?_) | (show SH _ _ _ _ _ (_ :: _) _ _ _; first | (show SH _ _ _ _ _ (⟨_, .move _, _, _, _, _⟩ :: _) _ _ _; refine mov evL ?_) | (show SH _ _ _ _ _ (⟨_, .assign _, _, _, _, _⟩ :: _) _ _ _; refine asg evL ?_) | (show SH _ _ _ _ _ (⟨_, .binOp .rem _ _ _ _, _, _, _, _⟩ :: _) _ _ _; refine rem rfl rfl omL omL ?_)) | refine s_nil ?_ | refine kh_normal ?_))
        rw [hr_]
        refine v_norm [(10,_),(44,_),(45,_)] heL (fun g => ?_)
        rw [sharesTo_len]
        refine v_loop [(11,11),(45,54)] (fun i : Nat => [(45, .int .i64 i)]) (fun i => [orow 3 A1 c1 (sharesTo q n i)]) (fun i => i ≤ r) (fun i => r - i) 0 hsL enL (Nat.zero_le _) ?_
        rintro i g hi
        simp only [sets]
        by_cases hir : i < r
        · have hat := sharesTo_at q (n := n) (i := i) (by omega)
          have hnx := sharesTo_next q (n := n) (i := i)
          have hsl := sharesTo_len q n i
          generalize sharesTo q n i = D at hat hnx hsl ⊢
          (repeat' (first | (show VH _ _ _ _ _ _ _; first | refine v_seq ?_ | refine r_seq ?_ | refine v_block ?_ | refine v_skip ?_ | refine v_cond_t rfl tbL ?_) | (show SH _ _ _ _ _ (_ :: _) _ _ _; first | (show SH _ _ _ _ _ (⟨_, .move _, _, _, _, _⟩ :: _) _ _ _; refine mov evL ?_) | (show SH _ _ _ _ _ (⟨_, .assign _, _, _, _, _⟩ :: _) _ _ _; refine asg evL ?_) | (show SH _ _ _ _ _ (⟨_, .binOp .lss _ _ _ _, _, _, _, _⟩ :: _) _ _ _; refine lssT rfl rfl omD ?_) | (show SH _ _ _ _ _ (⟨_, .binOp .add _ _ _ _, _, _, _, _⟩ :: _) _ _ _; refine add rfl rfl inL ?_) | (show SH _ _ _ _ _ (⟨_, .load _ _, _, _, _, _⟩ :: _) _ _ _; refine lgi rfl (fun _ _ => rdP) omL (by assumption) ?_) | (show SH _ _ _ _ _ (⟨_, .indexAddr _ _ _, _, _, _, _⟩ :: _) _ _ _; refine ix rfl rfl (by with_reducible rfl) (fun _ _ => rdP) (by rfl) omL omL ?_) | (show SH _ _ _ _ _ (⟨_, .store _ _ _, _, _, _, _⟩ :: _) _ _ _; refine sti rfl rfl rfl spL omL kpL ?_)) | refine s_nil ?_ | refine kh_normal ?_ | refine bh_normal ?_))
          rw [hnx]
          exact ⟨agL, i + 1, hsL, enL, hir, by omega⟩
        · obtain rfl : i = r := by omega
          (repeat' (first | (show VH _ _ _ _ _ _ _; first | refine v_seq ?_ | refine r_seq ?_ | refine v_ret ?_ | refine v_exit ?_ | refine v_cond_f rfl tbL ?_) | (show SH _ _ _ _ _ (_ :: _) _ _ _; first | (show SH _ _ _ _ _ (⟨_, .move _, _, _, _, _⟩ :: _) _ _ _; refine mov evL ?_) | (show SH _ _ _ _ _ (⟨_, .assign _, _, _, _, _⟩ :: _) _ _ _; refine asg evL ?_) | (show SH _ _ _ _ _ (⟨_, .binOp .lss _ _ _ _, _, _, _, _⟩ :: _) _ _ _; refine lssF rfl rfl omD ?_)) | refine s_nil ?_ | refine kh_normal ?_ | refine kh_exit ?_ | refine bh_exit ?_))
          exact rh2 rfl rfl rfl ⟨A1, c1, congrArg (fun m => Value.tuple #[.slice A1 m c1, .int .i64 0]) (sharesTo_len q n i).symm, rfl⟩ enL
      · rw [if_neg hc]
        have hcc : Hid _ := hc
        clear hc hV
        (repeat' (first | (show VH _ _ _ _ _ _ _; first | refine v_seq ?_ | refine r_seq ?_ | refine v_block ?_ | refine v_ret ?_ | refine v_skip ?_ | refine v_cond_t rfl tbL ?_ | refine v_cond_f rfl tbL ?_ | refine v_cond_dec rfl (fun h => ?_) (fun h => ?_)) | (show SH _ _ _ _ _ (_ :: _) _ _ _; first | (show SH _ _ _ _ _ (⟨_, _, _, _, _, some _⟩ :: _) _ _ _; (refine gif rfl rfl ?_; first | refine giFF tbL ?_ | refine giFT tbL ?_ | refine giFd (fun h => ?_) (fun h => ?_))) | (show SH _ _ _ _ _ (⟨_, .move _, _, _, _, _⟩ :: _) _ _ _; refine mov evL ?_) | (show SH _ _ _ _ _ (⟨_, .assign _, _, _, _, _⟩ :: _) _ _ _; refine asg evL ?_) | (show SH _ _ _ _ _ (⟨_, .binOp .lss _ _ _ _, _, _, _, _⟩ :: _) _ _ _; first | refine lssF rfl rfl omD ?_ | refine lss rfl rfl ?_) | refine gtr rfl rfl ?_ | (show SH _ _ _ _ _ (⟨_, .load _ _, _, _, _, _⟩ :: _) _ _ _; first | refine lbx rfl spL (by rfl) ?_ | refine lrf rfl (fun _ _ => rdP) (by rfl) omL (by rfl) ?_ | refine lrf rfl (fun _ _ => rdP) (by rfl) (by simp only [List.length_cons, List.length_nil]; omega) (by rfl) ?_) | (show SH _ _ _ _ _ (⟨_, .indexAddr _ _ _, _, _, _, _⟩ :: _) _ _ _; refine ix rfl rfl (by with_reducible rfl) (fun _ _ => rdP) (by rfl) omL omL ?_) | refine slen rfl ?_ | (show SH _ _ _ _ _ (⟨_, .call ⟨.value (.func 59), _, _⟩, _, _, _, _⟩ :: _) _ _ _; refine cl (callee := .func 59) rfl (fun w hw => hif w (Ent.wd enL hw)) rfl rfl ?_) | (show SH _ _ _ _ _ (⟨_, .pick _ _ _, _, _, _, _⟩ :: _) _ _ _; first | refine pkt rfl tbL evL ?_ | refine pkf rfl tbL evL ?_) | refine fad rfl ?_ | (show SH _ _ _ _ _ (⟨_, .makeFunc _ _ _, _, _, _, _⟩ :: _) _ _ _; refine mf1 evL ?_)) | refine s_nil ?_ | refine kh_normal ?_ | refine kh_ret ?_ | refine bh_normal ?_ | refine bh_ret ?_))
        all_goals first
          | exact rh2 rfl rfl rfl ⟨none, 0, rfl, rfl⟩ (ent_nilrow (ent_nil _))
          | exact absurd ⟨by omega, by omega⟩ hcc
/-! Of -/
/-- A party that comes out, in memory of its own. -/
def OutP (r : Option Pty) (v : Value) (H' : List HP) : Prop :=
  match r with
  | none => v = .tuple #[.agg #[.int .i64 0, .int .i64 0, .slice none 0 0, .slice none 0 0], .bool false] ∧ H' = []
  | some p => ∃ y : PtyP, y.p = p ∧ v = .tuple #[.agg (Flat.enc y).toArray, .bool true] ∧ H' = [rowM y, rowI y]
set_option maxHeartbeats 1000000 in
set_option maxRecDepth 100000 in
theorem of_spec (t la : Int) (A : Option Addr) (L : List PtyP) (c : Nat) (who : Int) (w : World) (hz : SzP L) (hr : RdP w A L) : Ret Tryz.prog 16 [hv36 t la A L c, .int .i64 who].toArray w (RP w (OutP (ofM ⟨t, la, ptys L⟩ who))) := by
  have hv := fun w hr => valid_spec t la A L c w hz hr
  have hpl := fun w hr => places_spec t la A L c w hz hr
  have hll := hz.len
  have hrA := hr.1
  unfold ofM
  cases hval : validHal ⟨t, la, ptys L⟩ with
  | false =>
    rw [hval] at hv
    refine enterH Tryz.func16 rfl rfl Tryz.ntmps16 rfl (Wd.refl _) ?_
    (repeat' (first | (show VH _ _ _ _ _ _ _; first | refine v_seq ?_ | refine r_seq ?_ | refine v_ret ?_ | refine v_cond_t rfl tbL ?_) | (show SH _ _ _ _ _ (_ :: _) _ _ _; first | (show SH _ _ _ _ _ (⟨_, .assign _, _, _, _, _⟩ :: _) _ _ _; refine asg evL ?_) | (show SH _ _ _ _ _ (⟨_, .load _ _, _, _, _, _⟩ :: _) _ _ _; refine lba rfl spL (by rfl) ?_) | (show SH _ _ _ _ _ (⟨_, .call ⟨.value (.func 8), _, _⟩, _, _, _, _⟩ :: _) _ _ _; refine cl (callee := .func 8) rfl (fun w hw => hv w (hr.ext hw.ext)) rfl rfl ?_) | refine bnoF rfl ?_ | refine bld rfl rfl ?_ | refine ala rfl (fun b => ?_) | (show SH _ _ _ _ _ (⟨_, .box _ _, _, _, _, _⟩ :: _) _ _ _; refine bxx rfl evL rfl (fun b => ?_)) | (show SH _ _ _ _ _ (⟨_, .store _ _ _, _, _, _, _⟩ :: _) _ _ _; refine sta rfl rfl rfl spL (by rfl) (by rfl) (by rfl) kpL ?_)) | refine s_nil ?_ | refine kh_normal ?_ | refine kh_ret ?_))
    exact rhC2 rfl rfl rfl rfl (fun w hw => loadVar_bx hw spL (by rfl)) ⟨rfl, rfl⟩ (ent_nil _)
  | true =>
    rw [hval] at hv
    rw [if_pos rfl]
    have hV := valid_iff.1 hval
    have hg := places_find (ptys L) who hV.nd
    simp only
    cases hfd : findM who (ptys L) with
    | none =>
      rw [hfd] at hg
      simp only at hg
      refine enterH Tryz.func16 rfl rfl Tryz.ntmps16 rfl (Wd.refl _) ?_
      (repeat' (first | (show VH _ _ _ _ _ _ _; first | refine v_seq ?_ | refine r_seq ?_ | refine v_skip ?_ | refine v_cond_f rfl tbL ?_) | (show SH _ _ _ _ _ (_ :: _) _ _ _; first | (show SH _ _ _ _ _ (⟨_, .assign _, _, _, _, _⟩ :: _) _ _ _; refine asg evL ?_) | (show SH _ _ _ _ _ (⟨_, .load _ _, _, _, _, _⟩ :: _) _ _ _; refine lba rfl spL (by rfl) ?_) | (show SH _ _ _ _ _ (⟨_, .call ⟨.value (.func 8), _, _⟩, _, _, _, _⟩ :: _) _ _ _; refine cl (callee := .func 8) rfl (fun w hw => hv w (hr.ext hw.ext)) rfl rfl ?_) | (show SH _ _ _ _ _ (⟨_, .call ⟨.value (.func 23), _, _⟩, _, _, _, _⟩ :: _) _ _ _; refine cp (callee := .func 23) rfl (fun w hw => hpl w (hr.ext hw.ext)) rfl rfl ?_) | refine bnoT rfl ?_ | refine ala rfl (fun b => ?_) | (show SH _ _ _ _ _ (⟨_, .box _ _, _, _, _, _⟩ :: _) _ _ _; refine bxx rfl evL rfl (fun b => ?_))) | refine s_nil ?_ | refine kh_normal ?_))
      rintro _ _ ⟨r, rfl, rfl⟩
      (repeat' (first | (show VH _ _ _ _ _ _ _; first | refine v_seq ?_ | refine r_seq ?_ | refine v_ret ?_ | refine v_cond_t rfl tbL ?_) | (show SH _ _ _ _ _ (_ :: _) _ _ _; first | (show SH _ _ _ _ _ (⟨_, .move _, _, _, _, _⟩ :: _) _ _ _; refine mov evL ?_) | (show SH _ _ _ _ _ (⟨_, .assign _, _, _, _, _⟩ :: _) _ _ _; refine asg evL ?_) | (show SH _ _ _ _ _ (⟨_, .binOp .eql _ _ _ _, _, _, _, _⟩ :: _) _ _ _; refine eqlT rfl rfl omD ?_) | (show SH _ _ _ _ _ (⟨_, .lookup _ _ _ false, _, _, _, _⟩ :: _) _ _ _; refine lkm rfl rfl spL ?_) | refine bld rfl rfl ?_ | (show SH _ _ _ _ _ (⟨_, .store _ _ _, _, _, _, _⟩ :: _) _ _ _; refine sta rfl rfl rfl spL (by rfl) (by rfl) (by rfl) kpL ?_)) | refine s_nil ?_ | refine kh_normal ?_ | refine kh_ret ?_))
      exact rhC2 rfl rfl rfl rfl (fun w hw => loadVar_bx hw spL (by rfl)) ⟨rfl, rfl⟩ (ent_nil _)
    | some k =>
      rw [hfd] at hg
      simp only at hg
      have hk := (findM_some _ hfd).1
      rw [ptys_len] at hk
      have hkk : ((k : Int) + 1 - 1).toNat = k := by omega
      have hm := hr.mem hk
      have hi := hr.inv hk
      have hml := hz.atm hk
      have hil := hz.ati hk
      rw [Option.map_some, ptys_at hk]
      obtain ⟨x, hx⟩ : ∃ x, L.getD k Flat.dflt = x := ⟨_, rfl⟩
      have hxE : Flat.enc (L.getD ((k : Int) + 1 - 1).toNat Flat.dflt) = Flat.enc x := by rw [hkk, hx]
      rw [hx] at hm hi hml hil ⊢
      have hO := fun w h1 h2 => ownPt_spec x w (by omega) (by omega) h1 h2
      unfold OwnPt at hO
      clear hx hV
      refine enterH Tryz.func16 rfl rfl Tryz.ntmps16 rfl (Wd.refl _) ?_
      (repeat' (first | (show VH _ _ _ _ _ _ _; first | refine v_seq ?_ | refine r_seq ?_ | refine v_skip ?_ | refine v_cond_f rfl tbL ?_) | (show SH _ _ _ _ _ (_ :: _) _ _ _; first | (show SH _ _ _ _ _ (⟨_, .assign _, _, _, _, _⟩ :: _) _ _ _; refine asg evL ?_) | (show SH _ _ _ _ _ (⟨_, .load _ _, _, _, _, _⟩ :: _) _ _ _; refine lba rfl spL (by rfl) ?_) | (show SH _ _ _ _ _ (⟨_, .call ⟨.value (.func 8), _, _⟩, _, _, _, _⟩ :: _) _ _ _; refine cl (callee := .func 8) rfl (fun w hw => hv w (hr.ext hw.ext)) rfl rfl ?_) | (show SH _ _ _ _ _ (⟨_, .call ⟨.value (.func 23), _, _⟩, _, _, _, _⟩ :: _) _ _ _; refine cp (callee := .func 23) rfl (fun w hw => hpl w (hr.ext hw.ext)) rfl rfl ?_) | refine bnoT rfl ?_ | refine ala rfl (fun b => ?_) | (show SH _ _ _ _ _ (⟨_, .box _ _, _, _, _, _⟩ :: _) _ _ _; refine bxx rfl evL rfl (fun b => ?_))) | refine s_nil ?_ | refine kh_normal ?_))
      rintro _ _ ⟨r, rfl, rfl⟩
      generalize placesM (ptys L) = M at hg ⊢
      (repeat' ((fail_if_success (show VH _ _ (.seq (.region 4 _ _) _) _ _ _ _)); first | refine v_seq ?_ | (show SH _ _ _ _ _ (_ :: _) _ _ _; first | (show SH _ _ _ _ _ (⟨_, .move _, _, _, _, _⟩ :: _) _ _ _; refine mov evL ?_) | (show SH _ _ _ _ _ (⟨_, .assign _, _, _, _, _⟩ :: _) _ _ _; refine asg evL ?_) | (show SH _ _ _ _ _ (⟨_, .lookup _ _ _ false, _, _, _, _⟩ :: _) _ _ _; refine lkm rfl rfl spL ?_)) | refine s_nil ?_ | refine kh_normal ?_))
      rw [hg]
      (repeat' (first | (show VH _ _ _ _ _ _ _; first | refine v_seq ?_ | refine r_seq ?_ | refine v_skip ?_ | refine v_cond_f rfl tbL ?_) | (show SH _ _ _ _ _ (_ :: _) _ _ _; first | (show SH _ _ _ _ _ (⟨_, .move _, _, _, _, _⟩ :: _) _ _ _; refine mov evL ?_) | (show SH _ _ _ _ _ (⟨_, .binOp .eql _ _ _ _, _, _, _, _⟩ :: _) _ _ _; refine eqlF rfl rfl omD ?_) | (show SH _ _ _ _ _ (⟨_, .binOp .sub _ _ _ _, _, _, _, _⟩ :: _) _ _ _; refine sub rfl rfl inL ?_) | (show SH _ _ _ _ _ (⟨_, .load _ _, _, _, _, _⟩ :: _) _ _ _; first | refine lbx rfl spL (by rfl) ?_ | refine lag rfl (fun _ _ => rdP) (by rfl) omL (by assumption) ?_) | (show SH _ _ _ _ _ (⟨_, .indexAddr _ _ _, _, _, _, _⟩ :: _) _ _ _; first | refine ixi rfl rfl (fun _ _ => rdP) (by rfl) omL omL omL ?_ | refine ixi rfl rfl (fun _ _ => rdP) (by rfl) omL (by first | omega | (simp only [List.length_cons, List.length_nil]; omega)) (by simp only [List.length_cons, List.length_nil]; omega) ?_) | (show SH _ _ _ _ _ (⟨_, .call ⟨.value (.func 50), _, _⟩, _, _, _, _⟩ :: _) _ _ _; refine cp (callee := .func 50) rfl (fun w hw => hO w (hm.ext hw.ext) (hi.ext hw.ext)) rfl rfl ?_) | refine fad rfl ?_) | refine s_nil ?_ | refine kh_normal ?_))
      rintro _ _ ⟨y, hyp, rfl, rfl⟩
      obtain ⟨⟨yi, yl, ym, yv⟩, yA, yca, yB, ycb⟩ := y
      rw [show Flat.enc (⟨⟨yi, yl, ym, yv⟩, yA, yca, yB, ycb⟩ : PtyP) = [.int .i64 yi, .int .i64 yl, .slice yA ym.length yca, .slice yB yv.length ycb] from rfl]
      (repeat' (first | refine v_ret ?_ | (show SH _ _ _ _ _ (_ :: _) _ _ _; first | (show SH _ _ _ _ _ (⟨_, .assign _, _, _, _, _⟩ :: _) _ _ _; refine asg evL ?_) | (show SH _ _ _ _ _ (⟨_, .store _ _ _, _, _, _, _⟩ :: _) _ _ _; refine sta rfl rfl rfl spL (by rfl) (by rfl) (by rfl) kpL ?_)) | refine s_nil ?_ | refine kh_normal ?_))
      exact rhC2 rfl rfl rfl rfl (fun w hw => loadVar_bx hw spL (by rfl)) ⟨⟨⟨yi, yl, ym, yv⟩, yA, yca, yB, ycb⟩, hyp, rfl, rfl⟩ enL
end Go.Proofs.YtlfbcoohfnoacaaGreat

