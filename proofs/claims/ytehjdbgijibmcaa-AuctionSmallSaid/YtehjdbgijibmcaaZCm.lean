/- Package auction: Holds. -/
import Derived.Test.YtehjdbgijibmcaaZCl
set_option linter.unusedSimpArgs false
set_option linter.unusedVariables false
namespace Go.Proofs.Ytehjdbgijibmcaa
open Go.Fw Go.RowKit
theorem bump4_len (out : List Int) (l : Lot) : (bump4 out l).length = out.length := by simp [bump4]
theorem set2_get {L : List Int} {q i : Nat} {a b : Int} (h : q < L.length) (h0 : 0 < L.length) (hq : 0 < q) : ((L.set 0 a).set (q * 1) b).getD i 0 = if i = q then b else if i = 0 then a else L.getD i 0 := by
  rw [Nat.mul_one]
  simp only [List.getD_eq_getElem?_getD, List.getElem?_set, List.length_set]
  by_cases h1 : q = i
  · subst h1
    rw [if_pos rfl, if_pos h, if_pos rfl]; rfl
  · rw [if_neg h1, if_neg (show ¬ i = q from fun e => h1 e.symm)]
    by_cases h2 : 0 = i
    · subst h2
      rw [if_pos rfl, if_pos h0, if_pos rfl]; rfl
    · rw [if_neg h2, if_neg (show ¬ i = 0 from fun e => h2 e.symm)]
set_option maxHeartbeats 1000000 in
set_option maxRecDepth 100000 in
theorem holds_spec0 (A : Option Addr) (c0 : Nat) (h : House) (w : World) (hl : h.lots.length ≤ 1000000) (hr : Rd w A h.lots) (hval : validH h = false) :
    Ret Try.prog 28 [hv A c0 h].toArray w (Out w (.tuple #[.agg (ints [0, 0, 0, 0]).toArray, .int .i64 2])) := by
  have hvs := fun w hr => valid_spec A c0 h w hl hr
  obtain ⟨tick, last, lots⟩ := h
  simp only at hl hr
  rw [hval] at hvs
  unfold hv at hvs ⊢
  simp only at hvs ⊢
  refine enterH Try.func28 rfl rfl Try.ntmps28 rfl (Wd.refl _) ?_
  (repeat' (first | (show VH _ _ _ _ _ _ _; first | refine v_seq ?_ | refine r_seq ?_ | refine v_ret ?_ | refine v_cond_t rfl tbL ?_) | (show SH _ _ _ _ _ (_ :: _) _ _ _; first | refine asg evL ?_ | refine lba rfl spL (by rfl) ?_ | (show SH _ _ _ _ _ (⟨_, .call ⟨.value (.func 18), _, _⟩, _, _, _, _⟩ :: _) _ _ _; refine cl (callee := .func 18) rfl (fun w hw => hvs _ (hr.ext hw.ext)) rfl rfl ?_) | refine bnot rfl ?_ | refine ala rfl (fun b => ?_) | refine bxx rfl evL rfl (fun b => ?_) | refine sta rfl rfl rfl spL (by rfl) (by rfl) (by rfl) kpL ?_) | refine s_nil ?_ | refine kh_normal ?_ | refine kh_ret ?_))
  exact rhC2 rfl rfl rfl rfl (fun w hw => loadVar_bx hw spL (by rfl)) ⟨rfl, rfl⟩ (ent_nil _)
set_option maxHeartbeats 1000000 in
set_option maxRecDepth 100000 in
theorem holds_spec1 (A : Option Addr) (c0 : Nat) (h : House) (w : World) (hl : h.lots.length ≤ 1000000) (hr : Rd w A h.lots) (hval : validH h = true) :
    Ret Try.prog 28 [hv A c0 h].toArray w (Out w (.tuple #[.agg (ints (holdsH h)).toArray, .int .i64 0])) := by
  have hvs := fun w hr => valid_spec A c0 h w hl hr
  have hV := valid_iff.1 hval
  unfold holdsH
  rw [if_pos hval]
  obtain ⟨tick, last, lots⟩ := h
  have hlen := hV.len
  have hlot := hV.lot
  simp only at hl hr hlen hlot
  rw [hval] at hvs
  unfold hv at hvs ⊢
  simp only at hvs ⊢
  refine enterH Try.func28 rfl rfl Try.ntmps28 rfl (Wd.refl _) ?_
  (repeat' (first | (show VH _ _ _ _ _ _ _; first | refine v_seq ?_ | refine r_seq ?_ | refine v_block ?_ | refine v_skip ?_ | refine v_cond_f rfl tbL ?_) | (show SH _ _ _ _ _ (_ :: _) _ _ _; first | refine mov evL ?_ | refine asg evL ?_ | (show SH _ _ _ _ _ (⟨_, .load _ _, _, _, _, _⟩ :: _) _ _ _; first | refine lbx rfl spL (by rfl) ?_ | refine lba rfl spL (by rfl) ?_) | refine slen rfl ?_ | (show SH _ _ _ _ _ (⟨_, .call ⟨.value (.func 18), _, _⟩, _, _, _, _⟩ :: _) _ _ _; refine cl (callee := .func 18) rfl (fun w hw => hvs _ (hr.ext hw.ext)) rfl rfl ?_) | refine bnot rfl ?_ | refine fad rfl ?_ | refine ala rfl (fun b => ?_) | refine bxx rfl evL rfl (fun b => ?_)) | refine s_nil ?_ | refine kh_normal ?_))
  rename_i bh br
  refine v_loop [(6,6),(14,32)] (fun y : Nat × List Int => [(14, .int .i64 y.1)]) (fun y => [bx b 66 (ints y.2), bx br 66 (ints [0, 0, 0, 0])]) (fun y => y.2.length = 4 ∧ y.1 ≤ lots.length ∧ (∀ i, 0 ≤ y.2.getD i 0 ∧ y.2.getD i 0 ≤ 3000000000 * y.1) ∧ (lots.drop y.1).foldl bump4 y.2 = lots.foldl bump4 [0, 0, 0, 0]) (fun y => lots.length - y.1) (0, [0, 0, 0, 0]) hsL enL
    ⟨rfl, Nat.zero_le _, fun i => by rcases i with _ | _ | _ | _ | i <;> simp, rfl⟩ ?_
  rintro ⟨k, L⟩ g ⟨hL, hk, hb, hf⟩
  simp only [sets]
  simp only at hL hk hb hf
  have hX : k < lots.length → Right (lots.getD k Flat.dflt) tick := fun h => (hlot _ (getD_mem h)).2.2
  have hb0 := hb 0
  (repeat' (first | (show VH _ _ _ _ _ _ _; first | refine v_seq ?_ | refine r_seq ?_ | refine v_block ?_ | refine v_skip ?_ | refine v_exit ?_ | refine v_cond_dec rfl (fun h => ?_) (fun h => ?_)) | (show SH _ _ _ _ _ (_ :: _) _ _ _; first | refine lss rfl rfl ?_ | refine lra rfl (fun _ _ => rdL) (by rfl) omL ?_ | (show SH _ _ _ _ _ (⟨_, .indexAddr _ _ _, _, _, _, _⟩ :: _) _ _ _; first | refine ix rfl rfl (by with_reducible rfl) (fun _ _ => rdL) (by rfl) omL omL ?_ | refine ixb rfl rfl omL ?_) | refine ala rfl (fun b => ?_) | refine sta rfl rfl rfl spL (by rfl) (by rfl) (by rfl) kpL ?_) | refine s_nil ?_ | refine kh_normal ?_ | refine kh_exit ?_ | refine bh_exit ?_))
  · have hR := hX (by omega)
    have hit := hR.item
    have hco := hR.count
    have hmo : 0 ≤ (lots.getD k Flat.dflt).most ∧ (lots.getD k Flat.dflt).most ≤ 2147483647 := by
      have := hR.led
      have := hR.reserve
      omega
    have hL0 : (0 : Nat) < L.length := by omega
    refine lbi (i := 0) rfl spL hL0 ?_
    (repeat' (first | (show SH _ _ _ _ _ (_ :: _) _ _ _; first | refine add rfl rfl inL ?_ | refine lbx rfl spL (by rfl) ?_ | refine ixb rfl rfl omL ?_ | refine fad rfl ?_ | refine sbi rfl rfl rfl spL omL kpL ?_) | refine s_nil ?_ | refine kh_normal ?_))
    refine r_held [bx _ 38 _] [(0, true), (1, true), (2, true), (4, true), (5, true), (3, false), (6, false), (7, false), (8, false)] hmix (by kernel_rfl) enL ?_
    (repeat' ((show SH _ _ _ _ _ (_ :: _) _ _ _; first | refine lbx rfl spL (by rfl) ?_ | refine fad rfl ?_)))
    obtain ⟨q, hq⟩ : ∃ q : Nat, (lots.getD k Flat.dflt).item = (q : Int) := ⟨(lots.getD k Flat.dflt).item.toNat, by omega⟩
    refine ixS rfl rfl hq (show q < 4 by omega) ?_
    (repeat' ((show SH _ _ _ _ _ (_ :: _) _ _ _; first | refine lbx rfl spL (by rfl) ?_ | refine fad rfl ?_)))
    have hbq := hb q
    have hg : (L.set 0 (L.getD 0 0 + (lots.getD k Flat.dflt).most)).getD (q * 1) 0 = L.getD q 0 := by
      rw [Nat.mul_one]
      simp only [List.getD_eq_getElem?_getD]
      rw [List.getElem?_set_ne (by omega)]
    refine lbi (i := q * 1) rfl spL (by rw [List.length_set]; omega) ?_
    rw [hg]
    (repeat' (refine add rfl rfl inL ?_))
    refine ixS rfl rfl hq (show q < 4 by omega) ?_
    refine sbi (i := q * 1) rfl rfl rfl spL (by rw [List.length_set]; omega) (ent_cons spL (ent_nil _)) ?_
    (repeat' (first | refine r_seq ?_ | (show SH _ _ _ _ _ (_ :: _) _ _ _; first | refine mov evL ?_ | refine add rfl rfl inL ?_) | refine s_nil ?_ | refine kh_normal ?_ | refine bh_normal ?_))
    have hB : bump4 L (lots.getD k Flat.dflt) = (L.set 0 (L.getD 0 0 + (lots.getD k Flat.dflt).most)).set (q * 1) (L.getD q 0 + (lots.getD k Flat.dflt).count) := by
      rw [bump4, show (lots.getD k Flat.dflt).item.toNat = q * 1 by omega, hg]
    refine ⟨agL, (k + 1, bump4 L (lots.getD k Flat.dflt)), hsL, hB ▸ enL, ⟨by show (bump4 _ _).length = 4; rw [bump4_len]; exact hL, by show k + 1 ≤ _; omega, fun i => ?_, ?_⟩, by show _ - (k + 1) < _ - k; omega⟩
    · have := hb i
      show 0 ≤ (bump4 L _).getD i 0 ∧ (bump4 L _).getD i 0 ≤ 3000000000 * ((k + 1 : Nat) : Int)
      rw [hB, set2_get (by omega) (by omega) (by omega)]
      split
      · omega
      · split <;> omega
    · show (lots.drop (k + 1)).foldl bump4 (bump4 L _) = _
      rw [drop_cons (d := Flat.dflt) (by omega), List.foldl_cons] at hf
      exact hf
  · rw [List.drop_of_length_le (by omega), List.foldl_nil] at hf
    subst hf
    refine lba rfl spL (by rw [ints_len]; exact hL) ?_
    refine sta rfl rfl rfl spL (by rfl) (by rw [ints_len]; exact hL) (List.all_eq_true.2 (ints_one _)) trivial ?_
    (repeat' (first | refine v_ret ?_ | refine asg evL ?_ | refine s_nil ?_ | refine kh_normal ?_))
    exact rhC2 rfl rfl rfl rfl (fun w hw => loadVar_bx hw spL (by rw [ints_len]; exact hL)) ⟨rfl, rfl⟩ (ent_nil _)
end Go.Proofs.Ytehjdbgijibmcaa
