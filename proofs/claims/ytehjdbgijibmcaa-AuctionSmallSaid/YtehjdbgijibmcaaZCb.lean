/- Package auction: moves, own, find, lot, Open. -/
import Derived.Test.YtehjdbgijibmcaaZCs
import Derived.Test.YtehjdbgijibmcaaZAc
set_option linter.unusedSimpArgs false
set_option linter.unusedVariables false
namespace Go.Proofs.Ytehjdbgijibmcaa
open Go.Fw Go.RowKit
theorem moves1_spec (m : Mv) (w : World) : Ret Try.prog 49 [.agg (Flat.enc m).toArray].toArray w (Out w (.bool (decide (m.n = 0)))) := by
  refine enterH Try.func49 rfl rfl Try.ntmps49 rfl (Wd.refl _) ?_
  (repeat' (first | (show VH _ _ _ _ _ _ _; first | refine v_seq ?_ | refine r_seq ?_ | refine v_ret ?_) | (show SH _ _ _ _ _ (_ :: _) _ _ _; first | refine asg evL ?_ | refine eql rfl rfl ?_ | refine lbx rfl spL (by rfl) ?_ | refine fad rfl ?_ | refine bxx rfl evL rfl (fun b => ?_)) | refine s_nil ?_ | refine kh_normal ?_))
  exact rh1 rfl rfl ⟨rfl, rfl⟩ (ent_nil _)
theorem moves_spec (A : Option Addr) (l : List Mv) (cp : Nat) (w0 : World) (H : List HP) (w : World) (hl : l.length ≤ 1000000) (hw : Wd w0 (orow 36 A cp l :: H) w) :
    Ret Try.prog 34 [.slice A l.length cp].toArray w (RP w0 fun v H' => v = .slice A (movesN l).length cp ∧ H' = orow 36 A cp (movesN l) :: H) := by
  refine enterH Try.func34 rfl rfl Try.ntmps34 rfl (by assumption) ?_
  (repeat' (first | (show VH _ _ _ _ _ _ _; first | refine v_seq ?_ | refine r_seq ?_) | (show SH _ _ _ _ _ (_ :: _) _ _ _; first | refine mov evL ?_ | refine asg evL ?_) | refine s_nil ?_ | refine kh_normal ?_))
  have hf : AsksHMv w0 H (.func (.func 49) #[] #[]) (fun m => decide (m.n = 0)) := ⟨_, _, _, rfl, fun w' _ x _ => moves1_spec x w'⟩
  refine cm rfl (fun w hw => deleteFuncMv_spec A l cp _ _ w0 _ w hl hf (Ent.wd enL hw)) rfl rfl ?_
  rintro _ _ ⟨rfl, rfl⟩
  refine ⟨trivial, ?_⟩
  (repeat' (first | refine v_ret ?_ | refine asg evL ?_ | refine s_nil ?_ | refine kh_normal ?_))
  exact rh1 rfl rfl ⟨rfl, rfl⟩ enL
set_option maxRecDepth 100000 in
theorem own_spec (A : Option Addr) (c0 : Nat) (h : House) (w : World) (hl : h.lots.length ≤ 1000000) (hr : Rd w A h.lots) :
    Ret Try.prog 33 [hv A c0 h].toArray w (RP w fun v H' => ∃ A' c', v = hv A' c' h ∧ H' = [orow 38 A' c' h.lots]) := by
  obtain ⟨tick, last, lots⟩ := h
  unfold hv
  simp only at hl hr
  refine enterH Try.func33 rfl rfl Try.ntmps33 rfl (Wd.refl _) ?_
  simp only
  (repeat' (first | (show VH _ _ _ _ _ _ _; first | refine v_seq ?_ | refine r_seq ?_) | (show SH _ _ _ _ _ (_ :: _) _ _ _; first | refine lbx rfl spL (by rfl) ?_ | (show SH _ _ _ _ _ (⟨_, .call ⟨.value (.func 47), _, _⟩, _, _, _, _⟩ :: _) _ _ _; refine cp (callee := .func 47) rfl (fun w hw => cloneLt_spec A lots c0 w hl (hr.ext hw.ext)) rfl rfl ?_) | refine fad rfl ?_ | refine ala rfl (fun b => ?_) | refine bxx rfl evL rfl (fun b => ?_)) | refine s_nil ?_ | refine kh_normal ?_))
  rintro _ _ ⟨A1, c1, rfl, rfl⟩
  (repeat' (first | (show VH _ _ _ _ _ _ _; first | refine v_seq ?_ | refine r_seq ?_ | refine v_ret ?_) | (show SH _ _ _ _ _ (_ :: _) _ _ _; first | refine lba rfl spL (by rfl) ?_ | refine fad rfl ?_ | refine stb rfl rfl evL spL rfl rfl (by first | decide | exact Nat.zero_lt_succ _ | exact of_decide_eq_true rfl) kpL ?_ | refine sta rfl rfl rfl spL (by rfl) (by rfl) (by rfl) kpL ?_) | refine s_nil ?_ | refine kh_normal ?_))
  exact rhC rfl rfl rfl (fun w hw => loadVar_bx hw spL (by rfl)) ⟨A1, c1, rfl, rfl⟩ enL
theorem idx_eq (p : Lot → Bool) : ∀ (l : List Lot) (k : Int), idxFrom p k l = match idxL p l with | none => -1 | some i => k + (i : Int)
  | [], k => rfl
  | x :: l, k => by
    simp only [idxFrom, idxL]
    by_cases h : p x = true
    · rw [if_pos h, if_pos h]; simp
    · rw [if_neg h, if_neg h, idx_eq p l (k + 1)]
      cases idxL p l with
      | none => rfl
      | some i =>
        show k + 1 + (i : Int) = k + ((i + 1 : Nat) : Int)
        omega
set_option maxRecDepth 100000 in
theorem findLt_spec (A : Option Addr) (l : List Lot) (cp : Nat) (fv : Value) (p : Lot → Bool) (w : World) (hl : l.length ≤ 1000000) (hr : Rd w A l) (hp : AsksLt w fv p) :
    Ret Try.prog 50 [.slice A l.length cp, fv].toArray w (Out w (.tuple #[.int .i64 (idxOf p l), .bool (decide (0 ≤ idxOf p l))])) := by
  refine enterH Try.func50 rfl rfl Try.ntmps50 rfl (Wd.refl _) ?_
  (repeat' (first | (show VH _ _ _ _ _ _ _; first | refine v_seq ?_ | refine r_seq ?_ | refine v_ret ?_) | (show SH _ _ _ _ _ (_ :: _) _ _ _; first | refine mov evL ?_ | refine asg evL ?_ | refine geq rfl rfl ?_ | (show SH _ _ _ _ _ (⟨_, .call ⟨.value (.func 61), _, _⟩, _, _, _, _⟩ :: _) _ _ _; refine cl (callee := .func 61) rfl (fun w hw => indexFuncLt_spec A l cp fv p w hl (hr.ext hw.ext) (hp.ext hw.ext)) rfl rfl ?_)) | refine s_nil ?_ | refine kh_normal ?_))
  exact rh2 rfl rfl rfl ⟨rfl, rfl⟩ (ent_nil _)
theorem lot1_spec (l : Lot) (id : Int) (a : Addr) (w : World) (hc : w.cell? a = some (.int .i64 id)) : Ret Try.prog 51 [.agg (Flat.enc l).toArray, .pointer (some a)].toArray w (Out w (.bool (decide (l.id = id)))) := by
  refine enterH Try.func51 rfl rfl Try.ntmps51 rfl (Wd.refl _) ?_
  (repeat' (first | (show VH _ _ _ _ _ _ _; first | refine v_seq ?_ | refine r_seq ?_ | refine v_ret ?_) | (show SH _ _ _ _ _ (_ :: _) _ _ _; first | refine asg evL ?_ | refine eql rfl rfl ?_ | (show SH _ _ _ _ _ (⟨_, .load _ _, _, _, _, _⟩ :: _) _ _ _; first | refine lbx rfl spL (by rfl) ?_ | refine lcell rfl (fun w hw => hw.ext.cell (by assumption)) ?_) | refine fad rfl ?_ | refine bxx rfl evL rfl (fun b => ?_)) | refine s_nil ?_ | refine kh_normal ?_))
  exact rh1 rfl rfl ⟨rfl, rfl⟩ (ent_nil _)
/-- The index of a lot, and an error. -/
def lotF (h : House) (id : Int) : Int × Int := if validH h then (match idxL (fun l => decide (l.id = id)) h.lots with | none => (0, 6) | some i => ((i : Int), 0)) else (0, 2)
set_option maxRecDepth 100000 in
theorem lot_spec (A : Option Addr) (cp : Nat) (h : House) (id : Int) (w : World) (hl : h.lots.length ≤ 1000000) (hr : Rd w A h.lots) :
    Ret Try.prog 35 [hv A cp h, .int .i64 id].toArray w (Out w (.tuple #[.int .i64 (lotF h id).1, .int .i64 (lotF h id).2])) := by
  have hvs := fun w hr => valid_spec A cp h w hl hr
  unfold lotF
  cases hval : validH h with
  | false =>
    rw [hval] at hvs
    obtain ⟨tick, last, lots⟩ := h
    unfold hv at hvs ⊢
    simp only at hl hr hvs ⊢
    refine enterH Try.func35 rfl rfl Try.ntmps35 rfl (Wd.refl _) ?_
    (repeat' (first | (show VH _ _ _ _ _ _ _; first | refine v_seq ?_ | refine r_seq ?_ | refine v_ret ?_ | refine v_cond_t rfl tbL ?_) | (show SH _ _ _ _ _ (_ :: _) _ _ _; first | refine asg evL ?_ | refine lba rfl spL (by rfl) ?_ | (show SH _ _ _ _ _ (⟨_, .call ⟨.value (.func 18), _, _⟩, _, _, _, _⟩ :: _) _ _ _; refine cl (callee := .func 18) rfl (fun w hw => hvs _ (hr.ext hw.ext)) rfl rfl ?_) | refine bnot rfl ?_ | refine bxx rfl evL rfl (fun b => ?_)) | refine s_nil ?_ | refine kh_normal ?_ | refine kh_ret ?_))
    exact rh2 rfl rfl rfl ⟨rfl, rfl⟩ (ent_nil _)
  | true =>
    rw [hval] at hvs
    obtain ⟨tick, last, lots⟩ := h
    unfold hv at hvs ⊢
    simp only at hl hr hvs ⊢
    refine enterH Try.func35 rfl rfl Try.ntmps35 rfl (Wd.refl _) ?_
    (repeat' (first | (show VH _ _ _ _ _ _ _; first | refine v_seq ?_ | refine r_seq ?_ | refine v_skip ?_ | refine v_cond_f rfl tbL ?_) | (show SH _ _ _ _ _ (_ :: _) _ _ _; first | refine asg evL ?_ | (show SH _ _ _ _ _ (⟨_, .load _ _, _, _, _, _⟩ :: _) _ _ _; first | refine lbx rfl spL (by rfl) ?_ | refine lba rfl spL (by rfl) ?_) | (show SH _ _ _ _ _ (⟨_, .call ⟨.value (.func 18), _, _⟩, _, _, _, _⟩ :: _) _ _ _; refine cl (callee := .func 18) rfl (fun w hw => hvs _ (hr.ext hw.ext)) rfl rfl ?_) | refine bnot rfl ?_ | refine fad rfl ?_ | refine mf1 evL ?_ | refine bxx rfl evL rfl (fun b => ?_)) | refine s_nil ?_ | refine kh_normal ?_))
    have hi := idx_eq (fun l => decide (l.id = id)) lots 0
    refine cl rfl (fun w hw => findLt_spec A lots cp _ (fun l => decide (l.id = id)) w hl (hr.ext hw.ext) ⟨51, #[], #[.pointer (some ⟨b, 0, none⟩)], rfl, fun w' he x _ => lot1_spec x id ⟨b, 0, none⟩ w' (he.cell (hw.cell (cs := [.int .i64 id]) spL rfl))⟩) rfl rfl ?_
    rw [show idxOf (fun l : Lot => decide (l.id = id)) lots = idxFrom (fun l => decide (l.id = id)) 0 lots from rfl, hi]
    cases idxL (fun l : Lot => decide (l.id = id)) lots with
    | none =>
      simp only
      (repeat' (first | (show VH _ _ _ _ _ _ _; first | refine v_seq ?_ | refine r_seq ?_ | refine v_ret ?_ | refine v_cond_t rfl tbL ?_) | (show SH _ _ _ _ _ (_ :: _) _ _ _; first | refine mov evL ?_ | refine asg evL ?_ | refine bnot rfl ?_ | refine extr rfl rfl ?_) | refine s_nil ?_ | refine kh_normal ?_ | refine kh_ret ?_))
      exact rh2 rfl rfl rfl ⟨rfl, rfl⟩ (ent_nil _)
    | some i =>
      simp only [Int.zero_add]
      (repeat' (first | (show VH _ _ _ _ _ _ _; first | refine v_seq ?_ | refine r_seq ?_ | refine v_ret ?_ | refine v_skip ?_ | refine v_cond_f rfl tbL ?_) | (show SH _ _ _ _ _ (_ :: _) _ _ _; first | refine mov evL ?_ | refine asg evL ?_ | refine bnot rfl ?_ | refine extr rfl rfl ?_) | refine s_nil ?_ | refine kh_normal ?_))
      exact rh2 rfl rfl rfl ⟨rfl, rfl⟩ (ent_nil _)
end Go.Proofs.Ytehjdbgijibmcaa
