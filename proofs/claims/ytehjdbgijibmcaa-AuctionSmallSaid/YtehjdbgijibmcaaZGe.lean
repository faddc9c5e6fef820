/- marcheskit.Pick; one thing that is done; a house that is copied. -/
import Derived.Test.YtehjdbgijibmcaaZGa
import Derived.Test.YtehjdbgijibmcaaZDo
set_option linter.unusedSimpArgs false
set_option linter.unusedVariables false
namespace Go.Proofs.Ytehjdbgijibmcaa
open Go.Fw Go.RowKit
section
variable {md : Md} {P : Program} {n : Nat} {Q : HQ} {f : Fr} {w0 : World} {H R : List HP} {ops : Array Oper} {rest : List Oper} {d : Nat} {op : Op} {ty : TypeId} {pos : String} {aft : Array Edge} {v : Value} {x y : Operand}
theorem remT {a b : Int} {t1 t2 : TypeId} (hx : ev n f x = .int .i64 a) (hy : ev n f y = .int .i64 b) (hb : b ≠ 0) (k : SH (nx md) P n ops Q rest (upd f d (.int .i64 (a.tmod b))) w0 H) : SH md P n ops Q (⟨some d, .binOp .rem t1 x y t2, ty, pos, aft, none⟩ :: rest) f w0 H :=
  s_val (fun w _ => ox_rem hx hy hb) k
end
theorem pick_eq {n k : Int} (hk : 0 < k) : (n.tmod k < 0 → n.tmod k + k = n % k) ∧ (¬ n.tmod k < 0 → n.tmod k = n % k) ∧ -k < n.tmod k ∧ n.tmod k < k := by
  have h1 := Int.emod_nonneg n (show k ≠ 0 by omega)
  have h2 := Int.emod_lt_of_pos n hk
  have h3 := Int.tmod_eq_emod (a := n) (b := k)
  have h4 : (k.natAbs : Int) = k := by omega
  have h5 : ¬ k ∣ n → n % k ≠ 0 := fun h e => h (Int.dvd_of_emod_eq_zero e)
  split at h3
  · omega
  · rename_i h6
    have := h5 (fun h => h6 (.inr h))
    omega
set_option maxRecDepth 100000 in
theorem pick_spec (n k : Int) (w : World) (h1 : 1 ≤ k) (h2 : k ≤ 1000000000000) : Ret Try.prog 14 [.int .i64 n, .int .i64 k].toArray w (Out w (.int .i64 (n % k))) := by
  obtain ⟨e1, e2, e3, e4⟩ := pick_eq (n := n) (show 0 < k by omega)
  refine enterH Try.func14 rfl rfl Try.ntmps14 rfl (Wd.refl _) ?_
  (repeat' (first | (show VH _ _ _ _ _ _ _; first | refine v_seq ?_ | refine r_seq ?_ | refine v_skip ?_ | refine v_cond_f rfl tbL ?_) | (show SH _ _ _ _ _ (_ :: _) _ _ _; first | refine mov evL ?_ | refine asg evL ?_ | refine lss rfl rfl ?_) | refine s_nil ?_ | refine kh_normal ?_))
  refine remT rfl rfl (by omega) ?_
  generalize n.tmod k = r at e1 e2 e3 e4 ⊢
  (repeat' (first | (show VH _ _ _ _ _ _ _; first | refine v_seq ?_ | refine r_seq ?_ | refine v_ret ?_ | refine v_skip ?_ | refine v_cond_dec rfl (fun h => ?_) (fun h => ?_)) | (show SH _ _ _ _ _ (_ :: _) _ _ _; first | refine mov evL ?_ | refine asg evL ?_ | (show SH _ _ _ _ _ (⟨_, .binOp _ _ _ _ _, _, _, _, _⟩ :: _) _ _ _; first | refine add rfl rfl inL ?_ | refine lss rfl rfl ?_)) | refine s_nil ?_ | refine kh_normal ?_))
  · exact rh1 rfl rfl ⟨congrArg (Value.int .i64) (e1 (by omega)), rfl⟩ (ent_nil _)
  · exact rh1 rfl rfl ⟨congrArg (Value.int .i64) (e2 (by omega)), rfl⟩ (ent_nil _)
def oneH (h : House) (x : Do6) : Res :=
  if x.k % 5 = 0 then openH h x.a x.b x.c x.d x.e else if x.k % 5 = 1 ∨ x.k % 5 = 2 then bidH h x.a x.b x.c else if x.k % 5 = 3 then cancelH h x.a x.b else advH h x.a
set_option maxHeartbeats 1000000 in
set_option maxRecDepth 100000 in
theorem one_spec (A : Option Addr) (c0 : Nat) (h : House) (x : Do6) (w : World) (hl : h.lots.length ≤ 1000000) (hr : Rd w A h.lots) :
    Ret Try.prog 27 [hv A c0 h, .agg (Flat.enc x).toArray].toArray w (RP w (OutR (oneH h x))) := by
  obtain ⟨kk, a, b, c, d, e⟩ := x
  have hp : ∀ w, Ret Try.prog 14 [.int .i64 kk, .int .i64 5].toArray w (Out w (.int .i64 (kk % 5))) := fun w => pick_spec kk 5 w (by omega) (by omega)
  have hO := fun w hr => open_spec A c0 h a b c d e w hl hr
  have hB := fun w hr => bid_spec A c0 h a b c w hl hr
  have hC := fun w hr => cancel_spec A c0 h a b w hl hr
  have hD := fun w hr => adv_spec A c0 h a w hl hr
  have hk1 := Int.emod_nonneg kk (show (5 : Int) ≠ 0 by omega)
  have hk2 := Int.emod_lt_of_pos kk (show (0 : Int) < 5 by omega)
  unfold oneH
  simp only
  generalize kk % 5 = q at hp hk1 hk2 ⊢
  unfold OutR at *
  obtain ⟨tick, last, lots⟩ := h
  unfold hv at *
  simp only at hl hr hO hB hC hD ⊢
  by_cases q0 : q = 0
  · rw [if_pos q0]
    generalize openH _ _ _ _ _ _ = r at hO ⊢
    refine enterH Try.func27 rfl rfl Try.ntmps27 rfl (Wd.refl _) ?_
    (repeat' (first | (show VH _ _ _ _ _ _ _; first | refine v_seq ?_ | refine r_seq ?_ | refine v_block ?_ | refine v_cond_t rfl tbL ?_) | (show SH _ _ _ _ _ (_ :: _) _ _ _; first | refine asg evL ?_ | refine eql rfl rfl ?_ | (show SH _ _ _ _ _ (⟨_, .load _ _, _, _, _, _⟩ :: _) _ _ _; first | refine lbx rfl spL (by rfl) ?_ | refine lba rfl spL (by rfl) ?_) | (show SH _ _ _ _ _ (⟨_, .call ⟨.value (.func 14), _, _⟩, _, _, _, _⟩ :: _) _ _ _; refine cl (callee := .func 14) rfl (fun w hw => hp w) rfl rfl ?_) | (show SH _ _ _ _ _ (⟨_, .call ⟨.value (.func 13), _, _⟩, _, _, _, _⟩ :: _) _ _ _; refine cp (callee := .func 13) rfl (fun w hw => hO _ (hr.ext hw.ext)) rfl rfl ?_) | refine fad rfl ?_ | refine ala rfl (fun b => ?_) | refine bxx rfl evL rfl (fun b => ?_)) | refine s_nil ?_ | refine kh_normal ?_))
    rintro _ _ ⟨A1, c1, B1, d1, rfl, rfl⟩
    (repeat' (first | refine v_ret ?_ | (show SH _ _ _ _ _ (_ :: _) _ _ _; first | refine asg evL ?_ | refine extr rfl rfl ?_ | refine sta rfl rfl rfl spL (by rfl) (by rfl) (by rfl) kpL ?_) | refine s_nil ?_ | refine kh_normal ?_ | refine kh_ret ?_ | refine bh_ret ?_))
    exact rhC3 rfl rfl rfl rfl rfl (fun w hw => loadVar_bx hw spL (by rfl)) ⟨A1, c1, B1, d1, rfl, rfl⟩ enL
  · rw [if_neg q0]
    by_cases q1 : q = 1 ∨ q = 2
    · rw [if_pos q1]
      generalize bidH _ _ _ _ = r at hB ⊢
      rcases q1 with rfl | rfl
      all_goals
        refine enterH Try.func27 rfl rfl Try.ntmps27 rfl (Wd.refl _) ?_
        (repeat' (first | (show VH _ _ _ _ _ _ _; first | refine v_seq ?_ | refine r_seq ?_ | refine v_block ?_ | refine v_skip ?_ | refine v_cond_t rfl tbL ?_ | refine v_cond_f rfl tbL ?_) | (show SH _ _ _ _ _ (_ :: _) _ _ _; first | refine asg evL ?_ | refine eql rfl rfl ?_ | (show SH _ _ _ _ _ (⟨_, .load _ _, _, _, _, _⟩ :: _) _ _ _; first | refine lbx rfl spL (by rfl) ?_ | refine lba rfl spL (by rfl) ?_) | (show SH _ _ _ _ _ (⟨_, .call ⟨.value (.func 14), _, _⟩, _, _, _, _⟩ :: _) _ _ _; refine cl (callee := .func 14) rfl (fun w hw => hp w) rfl rfl ?_) | (show SH _ _ _ _ _ (⟨_, .call ⟨.value (.func 15), _, _⟩, _, _, _, _⟩ :: _) _ _ _; refine cp (callee := .func 15) rfl (fun w hw => hB _ (hr.ext hw.ext)) rfl rfl ?_) | refine fad rfl ?_ | refine ala rfl (fun b => ?_) | refine bxx rfl evL rfl (fun b => ?_)) | refine s_nil ?_ | refine kh_normal ?_))
        rintro _ _ ⟨A1, c1, B1, d1, rfl, rfl⟩
        (repeat' (first | refine v_ret ?_ | (show SH _ _ _ _ _ (_ :: _) _ _ _; first | refine asg evL ?_ | refine extr rfl rfl ?_ | refine sta rfl rfl rfl spL (by rfl) (by rfl) (by rfl) kpL ?_) | refine s_nil ?_ | refine kh_normal ?_ | refine kh_ret ?_ | refine bh_ret ?_))
        exact rhC3 rfl rfl rfl rfl rfl (fun w hw => loadVar_bx hw spL (by rfl)) ⟨A1, c1, B1, d1, rfl, rfl⟩ enL
    · rw [if_neg q1]
      by_cases q3 : q = 3
      · rw [if_pos q3]
        generalize cancelH _ _ _ = r at hC ⊢
        refine enterH Try.func27 rfl rfl Try.ntmps27 rfl (Wd.refl _) ?_
        (repeat' (first | (show VH _ _ _ _ _ _ _; first | refine v_seq ?_ | refine r_seq ?_ | refine v_block ?_ | refine v_cond_t rfl tbL ?_ | refine v_cond_f rfl tbL ?_) | (show SH _ _ _ _ _ (_ :: _) _ _ _; first | refine asg evL ?_ | refine eql rfl rfl ?_ | (show SH _ _ _ _ _ (⟨_, .load _ _, _, _, _, _⟩ :: _) _ _ _; first | refine lbx rfl spL (by rfl) ?_ | refine lba rfl spL (by rfl) ?_) | (show SH _ _ _ _ _ (⟨_, .call ⟨.value (.func 14), _, _⟩, _, _, _, _⟩ :: _) _ _ _; refine cl (callee := .func 14) rfl (fun w hw => hp w) rfl rfl ?_) | (show SH _ _ _ _ _ (⟨_, .call ⟨.value (.func 30), _, _⟩, _, _, _, _⟩ :: _) _ _ _; refine cp (callee := .func 30) rfl (fun w hw => hC _ (hr.ext hw.ext)) rfl rfl ?_) | refine fad rfl ?_ | refine ala rfl (fun b => ?_) | refine bxx rfl evL rfl (fun b => ?_)) | refine s_nil ?_ | refine kh_normal ?_))
        rintro _ _ ⟨A1, c1, B1, d1, rfl, rfl⟩
        (repeat' (first | refine v_ret ?_ | (show SH _ _ _ _ _ (_ :: _) _ _ _; first | refine asg evL ?_ | refine extr rfl rfl ?_ | refine sta rfl rfl rfl spL (by rfl) (by rfl) (by rfl) kpL ?_) | refine s_nil ?_ | refine kh_normal ?_ | refine kh_ret ?_ | refine bh_ret ?_))
        exact rhC3 rfl rfl rfl rfl rfl (fun w hw => loadVar_bx hw spL (by rfl)) ⟨A1, c1, B1, d1, rfl, rfl⟩ enL
      · rw [if_neg q3]
        generalize advH _ _ = r at hD ⊢
        refine enterH Try.func27 rfl rfl Try.ntmps27 rfl (Wd.refl _) ?_
        (repeat' (first | (show VH _ _ _ _ _ _ _; first | refine v_seq ?_ | refine r_seq ?_ | refine v_block ?_ | refine v_skip ?_ | refine v_cond_f rfl tbL ?_) | (show SH _ _ _ _ _ (_ :: _) _ _ _; first | refine asg evL ?_ | refine eql rfl rfl ?_ | (show SH _ _ _ _ _ (⟨_, .load _ _, _, _, _, _⟩ :: _) _ _ _; first | refine lbx rfl spL (by rfl) ?_ | refine lba rfl spL (by rfl) ?_) | (show SH _ _ _ _ _ (⟨_, .call ⟨.value (.func 14), _, _⟩, _, _, _, _⟩ :: _) _ _ _; refine cl (callee := .func 14) rfl (fun w hw => hp w) rfl rfl ?_) | (show SH _ _ _ _ _ (⟨_, .call ⟨.value (.func 16), _, _⟩, _, _, _, _⟩ :: _) _ _ _; refine cp (callee := .func 16) rfl (fun w hw => hD _ (hr.ext hw.ext)) rfl rfl ?_) | refine fad rfl ?_ | refine ala rfl (fun b => ?_) | refine bxx rfl evL rfl (fun b => ?_)) | refine s_nil ?_ | refine kh_normal ?_ | refine bh_normal ?_))
        rintro _ _ ⟨A1, c1, B1, d1, rfl, rfl⟩
        (repeat' (first | refine v_ret ?_ | (show SH _ _ _ _ _ (_ :: _) _ _ _; first | refine asg evL ?_ | refine extr rfl rfl ?_ | refine sta rfl rfl rfl spL (by rfl) (by rfl) (by rfl) kpL ?_) | refine s_nil ?_ | refine kh_normal ?_))
        exact rhC3 rfl rfl rfl rfl rfl (fun w hw => loadVar_bx hw spL (by rfl)) ⟨A1, c1, B1, d1, rfl, rfl⟩ enL
end Go.Proofs.Ytehjdbgijibmcaa
