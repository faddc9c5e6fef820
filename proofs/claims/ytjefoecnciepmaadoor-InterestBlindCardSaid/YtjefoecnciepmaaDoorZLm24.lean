/- The law's package of layer 24: worlds that are made of forms. -/
import Derived.Test.YtjefoecnciepmaaDoorZTw
import Derived.Test.YtjefoecnciepmaaDoorZLk
import Derived.Test.YtjefoecnciepmaaDoorZLh
set_option linter.unusedSimpArgs false
set_option linter.unusedVariables false
namespace Go.Proofs.YtjefoecnciepmaaDoor
open Go.Fw Go.RowKit
/-- The first entities of a world that is made. -/
def madeN (l : List Form) (k : Nat) : List Ent1 := (List.range k).map fun i : Nat => formE (3 + 3 * (i : Int)) (l.getD i Flat.dflt)
def madeL (l : List Form) : List Ent1 := madeN l (min l.length 20)
theorem madeN_next (l : List Form) (k : Nat) : madeN l (k + 1) = madeN l k ++ [formE (3 + 3 * (k : Int)) (l.getD k Flat.dflt)] := by
  unfold madeN
  rw [List.range_succ, List.map_append]; rfl
theorem madeN_len (l : List Form) (k : Nat) : (madeN l k).length = k := by unfold madeN; rw [List.length_map, List.length_range]
set_option maxHeartbeats 2000000 in
set_option maxRecDepth 100000 in
theorem made24_spec (A : Option Addr) (l : List Form) (c1 : Nat) (w : World) (hl : l.length ≤ maxLen) (hr : Rd w A l) (hok : ∀ f ∈ l, f.Ok) : Ret Tryd.prog 10 [.slice A l.length c1].toArray w (RP w (WorldR 5 (madeL l))) := by
  have hlm : l.length ≤ 9223372036854775807 := hl
  clear hl
  unfold WorldR madeL wv
  have hN := madeN_next l
  have hNl := madeN_len l
  have h0 : madeN l 0 = [] := rfl
  generalize madeN l = M at hN hNl h0 ⊢
  refine enterH Tryd.func10 rfl rfl Tryd.ntmps10 rfl (Wd.refl _) ?_
  (repeat' (first | (show VH _ _ _ _ _ _ _; first | refine v_seq ?_ | refine r_seq ?_ | refine v_block ?_) | (show SH _ _ _ _ _ (_ :: _) _ _ _; first | (show SH _ _ _ _ _ (⟨_, .assign _, _, _, _, _⟩ :: _) _ _ _; refine asg evL ?_) | refine bld rfl rfl ?_ | refine ala rfl (fun b => ?_) | (show SH _ _ _ _ _ (⟨_, .store _ _ _, _, _, _, _⟩ :: _) _ _ _; refine sta rfl rfl rfl spL (by rfl) (by rfl) (by rfl) kpL ?_)) | refine s_nil ?_ | refine kh_normal ?_))
  rename_i b2
  revert b
  intro b3
  refine v_loop [(4,4),(6,28)] (fun s : Nat × (Option Addr × Nat) × List EntP => [(4, .int .i64 s.1)]) (fun s => [bx b3 26 [.int .i64 5, .slice s.2.1.1 s.2.2.length s.2.1.2], orow 37 s.2.1.1 s.2.1.2 s.2.2, allH (s.2.2.map rowOf), bx b2 26 [.int .i64 0, .slice none 0 0]]) (fun s => s.1 ≤ l.length ∧ s.1 ≤ 20 ∧ s.2.2.map EntP.e = M s.1) (fun s => 20 - s.1) (0, (none, 0), []) hsL (ent_cons spL (ent_nilrow (ent_all_nil (ent_cons spL (ent_nil _))))) ⟨Nat.zero_le _, Nat.zero_le _, h0.symm⟩ ?_
  rintro ⟨k, ⟨A1, c2⟩, L⟩ g ⟨hk, hk20, hL⟩
  simp only [sets]
  simp only at hk hk20 hL
  have hlen : L.length = k := by rw [← hNl k, ← hL, List.length_map]
  by_cases hkl : k < l.length
  · by_cases hk2 : k < 20
    · have hE := fun w => entity24_spec (3 + 3 * (k : Int)) (l.getD k Flat.dflt) (hok _ (getD_mem hkl)) w
      unfold OwnR at hE
      have hn := hN k
      rw [← hL] at hn
      obtain ⟨yk, hyk⟩ : ∃ y, formE (3 + 3 * (k : Int)) (l.getD k Flat.dflt) = y := ⟨_, rfl⟩
      rw [hyk] at hE hn
      clear hyk hN hNl hL hok
      have e3 : (3 : Int) * (k : Int) + 3 = 3 + 3 * (k : Int) := by omega
      (repeat' (first | (show VH _ _ _ _ _ _ _; first | refine v_seq ?_ | refine r_seq ?_ | refine v_block ?_ | refine v_skip ?_ | refine v_cond_t rfl tbL ?_) | (show SH _ _ _ _ _ (_ :: _) _ _ _; first | (show SH _ _ _ _ _ (⟨_, _, _, _, _, some _⟩ :: _) _ _ _; (refine gif rfl rfl ?_; refine giTT tbL ?_)) | (show SH _ _ _ _ _ (⟨_, .move _, _, _, _, _⟩ :: _) _ _ _; refine mov evL ?_) | (show SH _ _ _ _ _ (⟨_, .binOp .lss _ _ _ _, _, _, _, _⟩ :: _) _ _ _; refine lssT rfl rfl omD ?_) | refine slen rfl ?_ | (show SH _ _ _ _ _ (⟨_, .pick _ _ _, _, _, _, _⟩ :: _) _ _ _; refine pkt rfl tbL evL ?_)) | refine s_nil ?_ | refine kh_normal ?_))
      refine r_heldT [] (tr [(0, true), (2, true), (3, true), (4, true), (5, true), (6, true), (7, true), (8, true)] (.fork 1 (tr [(9, false), (10, false), (11, false), (12, false), (13, false)] .nil) 9 (tr [] (.fork 1 (tr [(10, false), (11, false), (12, false), (13, false)] .nil) 10 (tr [(1, false), (11, false), (12, false), (13, false)] .nil))))) hmix (by kernel_rfl) (ent_nil _) ?_
      (repeat' (first | (show SH _ _ _ _ _ (_ :: _) _ _ _; first | (show SH _ _ _ _ _ (⟨_, .move _, _, _, _, _⟩ :: _) _ _ _; refine mov evL ?_) | (show SH _ _ _ _ _ (⟨_, .binOp .add _ _ _ _, _, _, _, _⟩ :: _) _ _ _; refine add rfl rfl inL ?_) | (show SH _ _ _ _ _ (⟨_, .binOp .mul _ _ _ _, _, _, _, _⟩ :: _) _ _ _; refine mul rfl rfl inL ?_) | (show SH _ _ _ _ _ (⟨_, .load _ _, _, _, _, _⟩ :: _) _ _ _; first | refine lbx rfl spL (by rfl) ?_ | refine lra rfl (fun _ _ => rdX) (by rfl) omL ?_ | refine lra rfl (fun _ _ => rdX) (by rfl) (by simp only [List.length_cons, List.length_nil]; omega) ?_) | (show SH _ _ _ _ _ (⟨_, .indexAddr _ _ _, _, _, _, _⟩ :: _) _ _ _; refine ix rfl rfl (by with_reducible rfl) (fun _ _ => rdX) (by rfl) omL omL ?_) | (show SH _ _ _ _ _ (⟨_, .call ⟨.value (.func 17), _, _⟩, _, _, _, _⟩ :: _) _ _ _; refine cp (callee := .func 17) rfl (fun w hw => hE w) rfl rfl ?_) | refine fad rfl ?_) | refine s_fork ?_ ?_))
      all_goals
        rintro _ _ ⟨A3, c3, rfl, rfl⟩
        (repeat' (first | (show SH _ _ _ _ _ (_ :: _) _ _ _; (show SH _ _ _ _ _ (⟨_, .load _ _, _, _, _, _⟩ :: _) _ _ _; refine lbx rfl spL (by rfl) ?_)) | refine s_fork ?_ ?_))
      all_goals
        refine bsl (l := [(⟨yk, A3, c3⟩ : EntP)]) rfl rfl (Vals.cons rfl Vals.nil) rfl rfl (by decide) (fun b9 => ?_)
        (repeat' ((show SH _ _ _ _ _ (_ :: _) _ _ _; (show SH _ _ _ _ _ (⟨_, .load _ _, _, _, _, _⟩ :: _) _ _ _; refine lbx rfl spL (by rfl) ?_))))
        refine app (l := L) (l2 := [(⟨yk, A3, c3⟩ : EntP)]) rfl rfl rfl spL (fun w hw => hw.rd spL) rfl rfl rfl (by simp only [List.length_cons, List.length_nil]; omega) (by simp only [List.length_cons, List.length_nil]; omega) (fun A4 c4 => ⟨ent_nil _, ?_⟩)
        (repeat' (first | refine r_seq ?_ | (show SH _ _ _ _ _ (_ :: _) _ _ _; first | (show SH _ _ _ _ _ (⟨_, .move _, _, _, _, _⟩ :: _) _ _ _; refine mov evL ?_) | (show SH _ _ _ _ _ (⟨_, .assign _, _, _, _, _⟩ :: _) _ _ _; refine asg evL ?_) | (show SH _ _ _ _ _ (⟨_, .binOp .add _ _ _ _, _, _, _, _⟩ :: _) _ _ _; refine add rfl rfl inL ?_) | refine fad rfl ?_ | (show SH _ _ _ _ _ (⟨_, .store _ _ _, _, _, _, _⟩ :: _) _ _ _; refine stb rfl rfl evL spL rfl rfl (by first | decide | exact Nat.zero_lt_succ _ | exact of_decide_eq_true rfl) kpL ?_)) | refine s_nil ?_ | refine kh_normal ?_ | refine bh_normal ?_))
        refine ⟨agL, (k + 1, (A4, c4), L ++ [⟨yk, A3, c3⟩]), hsL, ?_, ⟨hkl, hk2, by rw [hn]; exact map_snoc_e _ _⟩, by show 20 - (k + 1) < 20 - k; omega⟩
        exact Ent.trans (B := [orow 42 A3 c3 yk.comps, allH (L.map rowOf), bx b3 26 [.int .i64 5, .slice A4 (L ++ [(⟨yk, A3, c3⟩ : EntP)]).length c4], orow 37 A4 c4 (L ++ [⟨yk, A3, c3⟩]), bx b2 26 [.int .i64 0, .slice none 0 0]]) enL ((ent_all_snoc (f := rowOf) (x := ⟨yk, A3, c3⟩)).trans enL)
    · have hk20' : k = 20 := by omega
      have hm : min l.length 20 = k := by omega
      rw [hm]
      clear hN hNl h0 hok hm
      (repeat' (first | (show VH _ _ _ _ _ _ _; first | refine v_seq ?_ | refine r_seq ?_ | refine v_ret ?_ | refine v_exit ?_ | refine v_cond_f rfl tbL ?_) | (show SH _ _ _ _ _ (_ :: _) _ _ _; first | (show SH _ _ _ _ _ (⟨_, _, _, _, _, some _⟩ :: _) _ _ _; (refine gif rfl rfl ?_; refine giTT tbL ?_)) | (show SH _ _ _ _ _ (⟨_, .move _, _, _, _, _⟩ :: _) _ _ _; refine mov evL ?_) | (show SH _ _ _ _ _ (⟨_, .binOp .lss _ _ _ _, _, _, _, _⟩ :: _) _ _ _; first | refine lssT rfl rfl omD ?_ | refine lssF rfl rfl omD ?_) | (show SH _ _ _ _ _ (⟨_, .load _ _, _, _, _, _⟩ :: _) _ _ _; refine lba rfl spL (by rfl) ?_) | refine slen rfl ?_ | (show SH _ _ _ _ _ (⟨_, .pick _ _ _, _, _, _, _⟩ :: _) _ _ _; refine pkt rfl tbL evL ?_) | (show SH _ _ _ _ _ (⟨_, .store _ _ _, _, _, _, _⟩ :: _) _ _ _; refine sta rfl rfl rfl spL (by rfl) (by rfl) (by rfl) kpL ?_)) | refine s_nil ?_ | refine kh_normal ?_ | refine kh_exit ?_ | refine bh_exit ?_))
      exact rhC rfl rfl rfl (fun w hw => loadVar_bx hw spL (by rfl)) ⟨A1, c2, L, rfl, hL, rfl⟩ enL
  · have hm : min l.length 20 = k := by omega
    rw [hm]
    clear hN hNl h0 hok hm
    (repeat' (first | (show VH _ _ _ _ _ _ _; first | refine v_seq ?_ | refine r_seq ?_ | refine v_ret ?_ | refine v_exit ?_ | refine v_cond_f rfl tbL ?_) | (show SH _ _ _ _ _ (_ :: _) _ _ _; first | (show SH _ _ _ _ _ (⟨_, _, _, _, _, some _⟩ :: _) _ _ _; (refine gif rfl rfl ?_; refine giTF tbL ?_)) | (show SH _ _ _ _ _ (⟨_, .move _, _, _, _, _⟩ :: _) _ _ _; refine mov evL ?_) | (show SH _ _ _ _ _ (⟨_, .binOp .lss _ _ _ _, _, _, _, _⟩ :: _) _ _ _; refine lssF rfl rfl omD ?_) | (show SH _ _ _ _ _ (⟨_, .load _ _, _, _, _, _⟩ :: _) _ _ _; refine lba rfl spL (by rfl) ?_) | refine slen rfl ?_ | (show SH _ _ _ _ _ (⟨_, .pick _ _ _, _, _, _, _⟩ :: _) _ _ _; refine pkf rfl tbL evL ?_) | (show SH _ _ _ _ _ (⟨_, .store _ _ _, _, _, _, _⟩ :: _) _ _ _; refine sta rfl rfl rfl spL (by rfl) (by rfl) (by rfl) kpL ?_)) | refine s_nil ?_ | refine kh_normal ?_ | refine kh_exit ?_ | refine bh_exit ?_))
    exact rhC rfl rfl rfl (fun w hw => loadVar_bx hw spL (by rfl)) ⟨A1, c2, L, rfl, hL, rfl⟩ enL
end Go.Proofs.YtjefoecnciepmaaDoor
