/- Functions of package slices at slices of structs (printed by gen_gs.py). -/
import Derived.Test.YtehjdbgijibmcaaZCa
import Derived.Test.YtehjdbgijibmcaaZGp
set_option linter.unusedSimpArgs false
set_option linter.unusedVariables false
namespace Go.Proofs.Ytehjdbgijibmcaa
open Go.Fw Go.RowKit
abbrev AsksLt (w : World) (fv : Value) (p : Lot → Bool) : Prop := Fun1 Try.prog w fv (fun x : Lot => .agg (Flat.enc x).toArray) (fun x => .bool (p x)) (fun _ => True)
set_option maxRecDepth 100000 in
theorem indexFuncLt_spec (A : Option Addr) (l : List Lot) (cp : Nat) (fv : Value) (p : Lot → Bool) (w : World) (hl : l.length ≤ 1000000) (hr : Rd w A l) (hp : AsksLt w fv p) :
    Ret Try.prog 61 [.slice A l.length cp, fv].toArray w (Out w (.int .i64 (idxOf p l))) := by
  obtain ⟨g0, fst, cap, rfl, hp⟩ := hp
  refine enterH Try.func61 rfl rfl Try.ntmps61 rfl (Wd.refl _) ?_
  (repeat' (first | (show VH _ _ _ _ _ _ _; first | refine v_seq ?_ | refine r_seq ?_ | refine v_block ?_) | (show SH _ _ _ _ _ (_ :: _) _ _ _; first | refine mov evL ?_ | refine asg evL ?_ | refine slen rfl ?_) | refine s_nil ?_ | refine kh_normal ?_))
  refine v_loop0 [(4,5),(8,18)] (fun k : Nat => [(8, .int .i64 k)]) (fun k => k ≤ l.length ∧ idxFrom p k (l.drop k) = idxOf p l) (fun k => l.length - k) 0 hsL ⟨Nat.zero_le _, rfl⟩ ?_
  rintro k g ⟨hk, hv⟩
  simp only [sets]
  (repeat' (first | (show VH _ _ _ _ _ _ _; first | refine v_seq ?_ | refine r_seq ?_ | refine v_block ?_ | refine v_ret ?_ | refine v_skip ?_ | refine v_exit ?_ | refine v_cond_dec rfl (fun h => ?_) (fun h => ?_) | refine v_cond rfl (fun h => ?_) (fun h => ?_)) | (show SH _ _ _ _ _ (_ :: _) _ _ _; first | refine mov evL ?_ | refine asg evL ?_ | (show SH _ _ _ _ _ (⟨_, .binOp _ _ _ _ _, _, _, _, _⟩ :: _) _ _ _; first | refine add rfl rfl inL ?_ | refine lss rfl rfl ?_) | refine lra rfl (fun _ _ => rdL) (by rfl) omL ?_ | refine ix rfl rfl (by with_reducible rfl) (fun _ _ => rdL) (by rfl) omL omL ?_ | (show SH _ _ _ _ _ (⟨_, .call ⟨.value (.tmp _), _, _⟩, _, _, _, _⟩ :: _) _ _ _; refine cl (callee := .tmp _) rfl (fun w hw => hp _ hw.ext _ trivial) rfl rfl ?_)) | refine s_nil ?_ | refine kh_normal ?_ | refine kh_ret ?_ | refine kh_exit ?_ | refine bh_normal ?_ | refine bh_ret ?_ | refine bh_exit ?_))
  · exact rh1 rfl rfl ⟨congrArg (Value.int .i64) (by rw [drop_cons (d := Flat.dflt) (by omega), idxFrom, if_pos h] at hv; exact hv), rfl⟩ (ent_nil _)
  · refine ⟨agL, k + 1, hsL, enL, ⟨by omega, ?_⟩, by omega⟩
    rw [drop_cons (d := Flat.dflt) (by omega), idxFrom, if_neg (by rw [h]; simp)] at hv
    exact hv
  · exact rh1 rfl rfl ⟨congrArg (Value.int .i64) (by rw [List.drop_of_length_le (by omega), idxFrom] at hv; exact hv), rfl⟩ (ent_nil _)
abbrev AsksHLt (w0 : World) (H : List HP) (fv : Value) (p : Lot → Bool) : Prop := FunH Try.prog w0 H fv (fun x : Lot => .agg (Flat.enc x).toArray) (fun x => .bool (p x)) (fun _ => True)
set_option maxHeartbeats 1000000 in
set_option maxRecDepth 100000 in
theorem deleteFuncLt_spec (A : Option Addr) (l : List Lot) (cp : Nat) (fv : Value) (p : Lot → Bool) (w0 : World) (H : List HP) (w : World) (hl : l.length ≤ 1000000) (hf : AsksHLt w0 H fv p) (hw : Wd w0 (orow 38 A cp l :: H) w) :
    Ret Try.prog 40 [.slice A l.length cp, fv].toArray w (RP w0 fun v H' => v = .slice A (l.filter fun x => !p x).length cp ∧ H' = orow 38 A cp (l.filter fun x => !p x) :: H) := by
  have hcap := (own_cap (hw.own Split.head)).1
  have hi0 := idxFrom_spec p l 0
  have hib : -1 ≤ idxOf p l ∧ idxOf p l ≤ l.length := by
    unfold idxOf
    rcases hi0 with ⟨h, _⟩ | ⟨i, h1, h2, _⟩ <;> omega
  have hf' := hf
  obtain ⟨g0, fst, cap, rfl, hp⟩ := hf'
  refine enterH Try.func40 rfl rfl Try.ntmps40 rfl (by assumption) ?_
  (repeat' (first | (show VH _ _ _ _ _ _ _; first | refine v_seq ?_ | refine r_seq ?_ | refine v_block ?_ | refine v_ret ?_ | refine v_skip ?_ | refine v_cond_dec rfl (fun h => ?_) (fun h => ?_)) | (show SH _ _ _ _ _ (_ :: _) _ _ _; first | refine mov evL ?_ | refine asg evL ?_ | (show SH _ _ _ _ _ (⟨_, .binOp _ _ _ _ _, _, _, _, _⟩ :: _) _ _ _; first | refine add rfl rfl inL ?_ | refine eql rfl rfl ?_) | (show SH _ _ _ _ _ (⟨_, .call ⟨.value (.func 61), _, _⟩, _, _, _, _⟩ :: _) _ _ _; refine cl (callee := .func 61) rfl (fun w hw => indexFuncLt_spec A l cp _ p w hl (hw.rd spL) (hf.fun1 (Ent.wd enL hw))) rfl rfl ?_)) | refine s_nil ?_ | refine kh_normal ?_ | refine kh_ret ?_))
  · have hn : l.any p = false := by
      rcases hi0 with ⟨_, h2⟩ | ⟨i, h1, h2, _⟩
      · exact h2
      · unfold idxOf at h; omega
    exact rh1 rfl rfl ⟨by rw [filter_none p l hn]; rfl, by rw [filter_none p l hn]⟩ (ent_refl _)
  · rcases hi0 with ⟨h1, _⟩ | ⟨i0, h1, h2, h3⟩
    · exact absurd h1 h
    · have hi : idxOf p l = (i0 : Int) := by unfold idxOf; omega
      rw [hi]
      (repeat' (fail))
      refine v_loop [(5,7),(16,35)] (fun y : (Nat × Nat) × List Lot => [(5, .int .i64 y.1.1), (6, .int .i64 y.1.2)]) (fun y => orow 38 A cp y.2 :: H)
        (fun y => y.1.1 < y.1.2 ∧ y.1.2 ≤ l.length ∧ y.2.length = l.length ∧ y.2.take y.1.1 = (l.take y.1.2).filter (fun x => !p x) ∧ y.2.drop y.1.2 = l.drop y.1.2) (fun y => l.length - y.1.2) ((i0, i0 + 1), l) hsL enL ⟨by simp, by simp; omega, rfl, h3.symm, rfl⟩ ?_
      rintro ⟨⟨i, j⟩, L⟩ g ⟨hij, hj, hL, ht, hd⟩
      simp only [sets]
      simp only at hij hj hL ht hd
      have hg := getD_of_drop (Flat.dflt : Lot) hd hL
      have hd' := drop_next hd
      by_cases hjl : j < l.length
      · cases hb : p (L.getD j Flat.dflt) with
        | false =>
          have hnp : (!p (l.getD j Flat.dflt)) = true := by rw [← hg, hb]; rfl
          have hp' : ∀ w, Wd w0 H w → Ret Try.prog g0 (fst.toList ++ [Value.agg (Flat.enc (L.getD j Flat.dflt)).toArray] ++ cap.toList).toArray w (Out w (.bool false)) := fun w hw => by
            have := hp w hw (L.getD j Flat.dflt) trivial
            simp only [hb] at this
            exact this
          (repeat' (first | (show VH _ _ _ _ _ _ _; first | refine v_seq ?_ | refine r_seq ?_ | refine v_block ?_ | refine v_skip ?_ | refine v_cond_t rfl tbL ?_) | (show SH _ _ _ _ _ (_ :: _) _ _ _; first | refine mov evL ?_ | refine lss rfl rfl ?_ | (show SH _ _ _ _ _ (⟨_, .load _ _, _, _, _, _⟩ :: _) _ _ _; first | refine lba rfl spL (by rfl) ?_ | refine lra rfl (fun _ _ => rdL) (by rfl) omL ?_) | refine ix rfl rfl (by with_reducible rfl) (fun _ _ => rdL) (by rfl) omL omL ?_ | refine slen rfl ?_ | (show SH _ _ _ _ _ (⟨_, .call ⟨.value (.tmp _), _, _⟩, _, _, _, _⟩ :: _) _ _ _; refine cl (callee := .tmp _) rfl (fun w hw => hp' w (Ent.wd enL hw)) rfl rfl ?_) | refine bnot rfl ?_ | refine ala rfl (fun b => ?_) | refine sta rfl rfl rfl spL (by rfl) (by rfl) (by rfl) kpL ?_) | refine s_nil ?_ | refine kh_normal ?_))
          refine stv (L.getD j Flat.dflt) rfl rfl rfl spL rfl (by omega) rfl trivial ?_
          (repeat' (first | refine r_seq ?_ | (show SH _ _ _ _ _ (_ :: _) _ _ _; first | refine mov evL ?_ | refine asg evL ?_ | refine add rfl rfl inL ?_) | refine s_nil ?_ | refine kh_normal ?_ | refine bh_normal ?_))
          refine ⟨agL, ((i + 1, j + 1), L.set i (L.getD j Flat.dflt)), hsL, enL, ⟨by show i + 1 < j + 1; omega, by show j + 1 ≤ _; omega, by simpa using hL, ?_, ?_⟩, by show l.length - (j + 1) < l.length - j; omega⟩
          · show (L.set i (L.getD j Flat.dflt)).take (i + 1) = (l.take (j + 1)).filter _
            rw [take_set_self L i _ (by omega), ht, take_snoc (d := Flat.dflt) hjl, List.filter_append, List.filter_cons, hg, if_pos hnp]
            rfl
          · show (L.set i (L.getD j Flat.dflt)).drop (j + 1) = _
            rw [drop_set_later _ _ _ _ (by omega)]; exact hd'
        | true =>
          have hnp : (!p (l.getD j Flat.dflt)) = false := by rw [← hg, hb]; rfl
          have hp' : ∀ w, Wd w0 H w → Ret Try.prog g0 (fst.toList ++ [Value.agg (Flat.enc (L.getD j Flat.dflt)).toArray] ++ cap.toList).toArray w (Out w (.bool true)) := fun w hw => by
            have := hp w hw (L.getD j Flat.dflt) trivial
            simp only [hb] at this
            exact this
          (repeat' (first | (show VH _ _ _ _ _ _ _; first | refine v_seq ?_ | refine r_seq ?_ | refine v_block ?_ | refine v_skip ?_ | refine v_cond_t rfl tbL ?_ | refine v_cond_f rfl tbL ?_) | (show SH _ _ _ _ _ (_ :: _) _ _ _; first | refine mov evL ?_ | refine asg evL ?_ | (show SH _ _ _ _ _ (⟨_, .binOp _ _ _ _ _, _, _, _, _⟩ :: _) _ _ _; first | refine add rfl rfl inL ?_ | refine lss rfl rfl ?_) | (show SH _ _ _ _ _ (⟨_, .load _ _, _, _, _, _⟩ :: _) _ _ _; first | refine lba rfl spL (by rfl) ?_ | refine lra rfl (fun _ _ => rdL) (by rfl) omL ?_) | refine ix rfl rfl (by with_reducible rfl) (fun _ _ => rdL) (by rfl) omL omL ?_ | refine slen rfl ?_ | (show SH _ _ _ _ _ (⟨_, .call ⟨.value (.tmp _), _, _⟩, _, _, _, _⟩ :: _) _ _ _; refine cl (callee := .tmp _) rfl (fun w hw => hp' w (Ent.wd enL hw)) rfl rfl ?_) | refine bnot rfl ?_ | refine ala rfl (fun b => ?_) | refine sta rfl rfl rfl spL (by rfl) (by rfl) (by rfl) kpL ?_) | refine s_nil ?_ | refine kh_normal ?_ | refine bh_normal ?_))
          refine ⟨agL, ((i, j + 1), L), hsL, enL, ⟨by show i < j + 1; omega, by show j + 1 ≤ _; omega, hL, ?_, hd'⟩, by show l.length - (j + 1) < l.length - j; omega⟩
          show L.take i = (l.take (j + 1)).filter _
          rw [ht, take_snoc (d := Flat.dflt) hjl, List.filter_append, List.filter_cons, if_neg (by rw [hnp]; simp), List.filter_nil, List.append_nil]
      · have hjl : j = l.length := by omega
        subst hjl
        rw [List.take_length] at ht
        (repeat' (first | (show VH _ _ _ _ _ _ _; first | refine v_seq ?_ | refine r_seq ?_ | refine v_exit ?_ | refine v_cond_f rfl tbL ?_) | (show SH _ _ _ _ _ (_ :: _) _ _ _; first | refine mov evL ?_ | refine lss rfl rfl ?_ | refine slen rfl ?_ | refine sll rfl rfl omL omL ?_) | refine s_nil ?_ | refine kh_normal ?_ | refine kh_exit ?_ | refine bh_exit ?_))
        refine clrG (α := Lot) (by rfl) (by rfl) (by rfl) rfl rfl spL (j := i) (by rfl) (by rw [hL]; rfl) (by omega) trivial ?_
        (repeat' (first | (show VH _ _ _ _ _ _ _; first | refine v_seq ?_ | refine r_seq ?_ | refine v_ret ?_) | (show SH _ _ _ _ _ (_ :: _) _ _ _; first | refine mov evL ?_ | refine asg evL ?_ | refine slh rfl rfl omL omL ?_) | refine s_nil ?_ | refine kh_normal ?_))
        have hil : i = (l.filter fun x => !p x).length := by rw [← ht, List.length_take]; omega
        exact rh1 rfl rfl ⟨congrArg (fun m => Value.slice A m cp) hil, by rw [ht]⟩ (ent_refl _)
set_option maxRecDepth 100000 in
theorem cloneLt_spec (A : Option Addr) (l : List Lot) (cp : Nat) (w : World) (hl : l.length ≤ 1000000) (hr : Rd w A l) :
    Ret Try.prog 47 [.slice A l.length cp].toArray w (RP w (Fresh 38 l)) := by
  refine enterH Try.func47 rfl rfl Try.ntmps47 rfl (Wd.refl _) ?_
  (repeat' (first | (show VH _ _ _ _ _ _ _; first | refine v_seq ?_ | refine r_seq ?_ | refine v_ret ?_ | refine v_skip ?_ | refine v_cond rfl (fun h => ?_) (fun h => ?_)) | (show SH _ _ _ _ _ (_ :: _) _ _ _; first | refine mov evL ?_ | refine asg evL ?_ | refine eqn rfl rfl ?_) | refine s_nil ?_ | refine kh_normal ?_ | refine kh_ret ?_))
  · cases A with
    | some a => simp at h
    | none =>
      have := hr.none
      subst this
      exact rh1 rfl rfl ⟨none, 0, rfl, rfl⟩ (ent_nilrow (ent_nil _))
  · refine bsl (l := ([] : List Lot)) rfl rfl Vals.nil rfl rfl (by decide) (fun b => ?_)
    (repeat' (refine mov evL ?_))
    refine app rfl rfl rfl spL (fun _ _ => rdL) rfl rfl rfl (by simp; omega) (by simp; omega) (fun A' cp' => ⟨trivial, ?_⟩)
    (repeat' (first | refine v_ret ?_ | refine asg evL ?_ | refine s_nil ?_ | refine kh_normal ?_))
    exact rh1 rfl rfl ⟨A', cp', rfl, rfl⟩ enL
abbrev AsksMv (w : World) (fv : Value) (p : Mv → Bool) : Prop := Fun1 Try.prog w fv (fun x : Mv => .agg (Flat.enc x).toArray) (fun x => .bool (p x)) (fun _ => True)
set_option maxRecDepth 100000 in
theorem indexFuncMv_spec (A : Option Addr) (l : List Mv) (cp : Nat) (fv : Value) (p : Mv → Bool) (w : World) (hl : l.length ≤ 1000000) (hr : Rd w A l) (hp : AsksMv w fv p) :
    Ret Try.prog 66 [.slice A l.length cp, fv].toArray w (Out w (.int .i64 (idxOf p l))) := by
  obtain ⟨g0, fst, cap, rfl, hp⟩ := hp
  refine enterH Try.func66 rfl rfl Try.ntmps66 rfl (Wd.refl _) ?_
  (repeat' (first | (show VH _ _ _ _ _ _ _; first | refine v_seq ?_ | refine r_seq ?_ | refine v_block ?_) | (show SH _ _ _ _ _ (_ :: _) _ _ _; first | refine mov evL ?_ | refine asg evL ?_ | refine slen rfl ?_) | refine s_nil ?_ | refine kh_normal ?_))
  refine v_loop0 [(4,5),(8,18)] (fun k : Nat => [(8, .int .i64 k)]) (fun k => k ≤ l.length ∧ idxFrom p k (l.drop k) = idxOf p l) (fun k => l.length - k) 0 hsL ⟨Nat.zero_le _, rfl⟩ ?_
  rintro k g ⟨hk, hv⟩
  simp only [sets]
  (repeat' (first | (show VH _ _ _ _ _ _ _; first | refine v_seq ?_ | refine r_seq ?_ | refine v_block ?_ | refine v_ret ?_ | refine v_skip ?_ | refine v_exit ?_ | refine v_cond_dec rfl (fun h => ?_) (fun h => ?_) | refine v_cond rfl (fun h => ?_) (fun h => ?_)) | (show SH _ _ _ _ _ (_ :: _) _ _ _; first | refine mov evL ?_ | refine asg evL ?_ | (show SH _ _ _ _ _ (⟨_, .binOp _ _ _ _ _, _, _, _, _⟩ :: _) _ _ _; first | refine add rfl rfl inL ?_ | refine lss rfl rfl ?_) | refine lra rfl (fun _ _ => rdL) (by rfl) omL ?_ | refine ix rfl rfl (by with_reducible rfl) (fun _ _ => rdL) (by rfl) omL omL ?_ | (show SH _ _ _ _ _ (⟨_, .call ⟨.value (.tmp _), _, _⟩, _, _, _, _⟩ :: _) _ _ _; refine cl (callee := .tmp _) rfl (fun w hw => hp _ hw.ext _ trivial) rfl rfl ?_)) | refine s_nil ?_ | refine kh_normal ?_ | refine kh_ret ?_ | refine kh_exit ?_ | refine bh_normal ?_ | refine bh_ret ?_ | refine bh_exit ?_))
  · exact rh1 rfl rfl ⟨congrArg (Value.int .i64) (by rw [drop_cons (d := Flat.dflt) (by omega), idxFrom, if_pos h] at hv; exact hv), rfl⟩ (ent_nil _)
  · refine ⟨agL, k + 1, hsL, enL, ⟨by omega, ?_⟩, by omega⟩
    rw [drop_cons (d := Flat.dflt) (by omega), idxFrom, if_neg (by rw [h]; simp)] at hv
    exact hv
  · exact rh1 rfl rfl ⟨congrArg (Value.int .i64) (by rw [List.drop_of_length_le (by omega), idxFrom] at hv; exact hv), rfl⟩ (ent_nil _)
abbrev AsksHMv (w0 : World) (H : List HP) (fv : Value) (p : Mv → Bool) : Prop := FunH Try.prog w0 H fv (fun x : Mv => .agg (Flat.enc x).toArray) (fun x => .bool (p x)) (fun _ => True)
set_option maxHeartbeats 1000000 in
set_option maxRecDepth 100000 in
theorem deleteFuncMv_spec (A : Option Addr) (l : List Mv) (cp : Nat) (fv : Value) (p : Mv → Bool) (w0 : World) (H : List HP) (w : World) (hl : l.length ≤ 1000000) (hf : AsksHMv w0 H fv p) (hw : Wd w0 (orow 36 A cp l :: H) w) :
    Ret Try.prog 48 [.slice A l.length cp, fv].toArray w (RP w0 fun v H' => v = .slice A (l.filter fun x => !p x).length cp ∧ H' = orow 36 A cp (l.filter fun x => !p x) :: H) := by
  have hcap := (own_cap (hw.own Split.head)).1
  have hi0 := idxFrom_spec p l 0
  have hib : -1 ≤ idxOf p l ∧ idxOf p l ≤ l.length := by
    unfold idxOf
    rcases hi0 with ⟨h, _⟩ | ⟨i, h1, h2, _⟩ <;> omega
  have hf' := hf
  obtain ⟨g0, fst, cap, rfl, hp⟩ := hf'
  refine enterH Try.func48 rfl rfl Try.ntmps48 rfl (by assumption) ?_
  (repeat' (first | (show VH _ _ _ _ _ _ _; first | refine v_seq ?_ | refine r_seq ?_ | refine v_block ?_ | refine v_ret ?_ | refine v_skip ?_ | refine v_cond_dec rfl (fun h => ?_) (fun h => ?_)) | (show SH _ _ _ _ _ (_ :: _) _ _ _; first | refine mov evL ?_ | refine asg evL ?_ | (show SH _ _ _ _ _ (⟨_, .binOp _ _ _ _ _, _, _, _, _⟩ :: _) _ _ _; first | refine add rfl rfl inL ?_ | refine eql rfl rfl ?_) | (show SH _ _ _ _ _ (⟨_, .call ⟨.value (.func 66), _, _⟩, _, _, _, _⟩ :: _) _ _ _; refine cl (callee := .func 66) rfl (fun w hw => indexFuncMv_spec A l cp _ p w hl (hw.rd spL) (hf.fun1 (Ent.wd enL hw))) rfl rfl ?_)) | refine s_nil ?_ | refine kh_normal ?_ | refine kh_ret ?_))
  · have hn : l.any p = false := by
      rcases hi0 with ⟨_, h2⟩ | ⟨i, h1, h2, _⟩
      · exact h2
      · unfold idxOf at h; omega
    exact rh1 rfl rfl ⟨by rw [filter_none p l hn]; rfl, by rw [filter_none p l hn]⟩ (ent_refl _)
  · rcases hi0 with ⟨h1, _⟩ | ⟨i0, h1, h2, h3⟩
    · exact absurd h1 h
    · have hi : idxOf p l = (i0 : Int) := by unfold idxOf; omega
      rw [hi]
      (repeat' (fail))
      refine v_loop [(5,7),(16,35)] (fun y : (Nat × Nat) × List Mv => [(5, .int .i64 y.1.1), (6, .int .i64 y.1.2)]) (fun y => orow 36 A cp y.2 :: H)
        (fun y => y.1.1 < y.1.2 ∧ y.1.2 ≤ l.length ∧ y.2.length = l.length ∧ y.2.take y.1.1 = (l.take y.1.2).filter (fun x => !p x) ∧ y.2.drop y.1.2 = l.drop y.1.2) (fun y => l.length - y.1.2) ((i0, i0 + 1), l) hsL enL ⟨by simp, by simp; omega, rfl, h3.symm, rfl⟩ ?_
      rintro ⟨⟨i, j⟩, L⟩ g ⟨hij, hj, hL, ht, hd⟩
      simp only [sets]
      simp only at hij hj hL ht hd
      have hg := getD_of_drop (Flat.dflt : Mv) hd hL
      have hd' := drop_next hd
      by_cases hjl : j < l.length
      · cases hb : p (L.getD j Flat.dflt) with
        | false =>
          have hnp : (!p (l.getD j Flat.dflt)) = true := by rw [← hg, hb]; rfl
          have hp' : ∀ w, Wd w0 H w → Ret Try.prog g0 (fst.toList ++ [Value.agg (Flat.enc (L.getD j Flat.dflt)).toArray] ++ cap.toList).toArray w (Out w (.bool false)) := fun w hw => by
            have := hp w hw (L.getD j Flat.dflt) trivial
            simp only [hb] at this
            exact this
          (repeat' (first | (show VH _ _ _ _ _ _ _; first | refine v_seq ?_ | refine r_seq ?_ | refine v_block ?_ | refine v_skip ?_ | refine v_cond_t rfl tbL ?_) | (show SH _ _ _ _ _ (_ :: _) _ _ _; first | refine mov evL ?_ | refine lss rfl rfl ?_ | (show SH _ _ _ _ _ (⟨_, .load _ _, _, _, _, _⟩ :: _) _ _ _; first | refine lba rfl spL (by rfl) ?_ | refine lra rfl (fun _ _ => rdL) (by rfl) omL ?_) | refine ix rfl rfl (by with_reducible rfl) (fun _ _ => rdL) (by rfl) omL omL ?_ | refine slen rfl ?_ | (show SH _ _ _ _ _ (⟨_, .call ⟨.value (.tmp _), _, _⟩, _, _, _, _⟩ :: _) _ _ _; refine cl (callee := .tmp _) rfl (fun w hw => hp' w (Ent.wd enL hw)) rfl rfl ?_) | refine bnot rfl ?_ | refine ala rfl (fun b => ?_) | refine sta rfl rfl rfl spL (by rfl) (by rfl) (by rfl) kpL ?_) | refine s_nil ?_ | refine kh_normal ?_))
          refine stv (L.getD j Flat.dflt) rfl rfl rfl spL rfl (by omega) rfl trivial ?_
          (repeat' (first | refine r_seq ?_ | (show SH _ _ _ _ _ (_ :: _) _ _ _; first | refine mov evL ?_ | refine asg evL ?_ | refine add rfl rfl inL ?_) | refine s_nil ?_ | refine kh_normal ?_ | refine bh_normal ?_))
          refine ⟨agL, ((i + 1, j + 1), L.set i (L.getD j Flat.dflt)), hsL, enL, ⟨by show i + 1 < j + 1; omega, by show j + 1 ≤ _; omega, by simpa using hL, ?_, ?_⟩, by show l.length - (j + 1) < l.length - j; omega⟩
          · show (L.set i (L.getD j Flat.dflt)).take (i + 1) = (l.take (j + 1)).filter _
            rw [take_set_self L i _ (by omega), ht, take_snoc (d := Flat.dflt) hjl, List.filter_append, List.filter_cons, hg, if_pos hnp]
            rfl
          · show (L.set i (L.getD j Flat.dflt)).drop (j + 1) = _
            rw [drop_set_later _ _ _ _ (by omega)]; exact hd'
        | true =>
          have hnp : (!p (l.getD j Flat.dflt)) = false := by rw [← hg, hb]; rfl
          have hp' : ∀ w, Wd w0 H w → Ret Try.prog g0 (fst.toList ++ [Value.agg (Flat.enc (L.getD j Flat.dflt)).toArray] ++ cap.toList).toArray w (Out w (.bool true)) := fun w hw => by
            have := hp w hw (L.getD j Flat.dflt) trivial
            simp only [hb] at this
            exact this
          (repeat' (first | (show VH _ _ _ _ _ _ _; first | refine v_seq ?_ | refine r_seq ?_ | refine v_block ?_ | refine v_skip ?_ | refine v_cond_t rfl tbL ?_ | refine v_cond_f rfl tbL ?_) | (show SH _ _ _ _ _ (_ :: _) _ _ _; first | refine mov evL ?_ | refine asg evL ?_ | (show SH _ _ _ _ _ (⟨_, .binOp _ _ _ _ _, _, _, _, _⟩ :: _) _ _ _; first | refine add rfl rfl inL ?_ | refine lss rfl rfl ?_) | (show SH _ _ _ _ _ (⟨_, .load _ _, _, _, _, _⟩ :: _) _ _ _; first | refine lba rfl spL (by rfl) ?_ | refine lra rfl (fun _ _ => rdL) (by rfl) omL ?_) | refine ix rfl rfl (by with_reducible rfl) (fun _ _ => rdL) (by rfl) omL omL ?_ | refine slen rfl ?_ | (show SH _ _ _ _ _ (⟨_, .call ⟨.value (.tmp _), _, _⟩, _, _, _, _⟩ :: _) _ _ _; refine cl (callee := .tmp _) rfl (fun w hw => hp' w (Ent.wd enL hw)) rfl rfl ?_) | refine bnot rfl ?_ | refine ala rfl (fun b => ?_) | refine sta rfl rfl rfl spL (by rfl) (by rfl) (by rfl) kpL ?_) | refine s_nil ?_ | refine kh_normal ?_ | refine bh_normal ?_))
          refine ⟨agL, ((i, j + 1), L), hsL, enL, ⟨by show i < j + 1; omega, by show j + 1 ≤ _; omega, hL, ?_, hd'⟩, by show l.length - (j + 1) < l.length - j; omega⟩
          show L.take i = (l.take (j + 1)).filter _
          rw [ht, take_snoc (d := Flat.dflt) hjl, List.filter_append, List.filter_cons, if_neg (by rw [hnp]; simp), List.filter_nil, List.append_nil]
      · have hjl : j = l.length := by omega
        subst hjl
        rw [List.take_length] at ht
        (repeat' (first | (show VH _ _ _ _ _ _ _; first | refine v_seq ?_ | refine r_seq ?_ | refine v_exit ?_ | refine v_cond_f rfl tbL ?_) | (show SH _ _ _ _ _ (_ :: _) _ _ _; first | refine mov evL ?_ | refine lss rfl rfl ?_ | refine slen rfl ?_ | refine sll rfl rfl omL omL ?_) | refine s_nil ?_ | refine kh_normal ?_ | refine kh_exit ?_ | refine bh_exit ?_))
        refine clrG (α := Mv) (by rfl) (by rfl) (by rfl) rfl rfl spL (j := i) (by rfl) (by rw [hL]; rfl) (by omega) trivial ?_
        (repeat' (first | (show VH _ _ _ _ _ _ _; first | refine v_seq ?_ | refine r_seq ?_ | refine v_ret ?_) | (show SH _ _ _ _ _ (_ :: _) _ _ _; first | refine mov evL ?_ | refine asg evL ?_ | refine slh rfl rfl omL omL ?_) | refine s_nil ?_ | refine kh_normal ?_))
        have hil : i = (l.filter fun x => !p x).length := by rw [← ht, List.length_take]; omega
        exact rh1 rfl rfl ⟨congrArg (fun m => Value.slice A m cp) hil, by rw [ht]⟩ (ent_refl _)
end Go.Proofs.Ytehjdbgijibmcaa
