/- Elements are loaded, of which it is known what they are. -/
import Derived.Test.YtjefoecnciepmaaGreatDoorYAa
import Derived.Test.YtjefoecnciepmaaGreatDoorYAb
import Derived.Test.YtjefoecnciepmaaGreatDoorYAc
import Derived.Test.YtjefoecnciepmaaGreatDoorYAd
import Derived.ChangeKeysEq
set_option linter.unusedSimpArgs false
set_option linter.unusedVariables false
/- Package interest: View. -/
namespace Go.Proofs.YtjefoecnciepmaaGreatDoor
open Go.Fw Go.RowKit
/-- The row of an entity's components. -/
abbrev rowOf (x : EntP) : HP := orow 37 x.A x.cp x.e.comps
/-- A function value that makes an entity. -/
def PickE (w : World) (fv : Value) (l : List EntP) (y : EntP → Ent1) (b : EntP → Bool) : Prop :=
  ∃ g fst cap, fv = .func (.func g) fst cap ∧ ∀ w', Ext w w' → ∀ x ∈ l, Ret Tryz.prog g (fst.toList ++ [Value.agg (Flat.enc x).toArray] ++ cap.toList).toArray w' (RP w' fun v H' => ∃ A c, v = .tuple #[.agg #[.int .i64 (y x).id, .slice A (y x).comps.length c], .bool (b x)] ∧ H' = [orow 37 A c (y x).comps])
theorem map_snoc_e (L : List EntP) (x : EntP) : (L ++ [x]).map EntP.e = L.map EntP.e ++ [x.e] := by rw [List.map_append]; rfl
set_option maxHeartbeats 2000000 in
set_option maxRecDepth 100000 in
theorem filterE_spec (A : Option Addr) (l : List EntP) (c1 : Nat) (fv : Value) (y : EntP → Ent1) (b : EntP → Bool) (w : World) (hl : l.length ≤ 1000000) (hr : Rd w A l) (hp : PickE w fv l y b) :
    Ret Tryz.prog 39 [.slice A l.length c1, fv].toArray w (RP w fun v H' => ∃ A' c' L, v = .slice A' L.length c' ∧ L.map EntP.e = (l.filter b).map y ∧ H' = [orow 31 A' c' L, allH (L.map rowOf)]) := by
  obtain ⟨g0, fst, cap, rfl, hp⟩ := hp
  refine enterH Tryz.func39 rfl rfl Tryz.ntmps39 rfl (Wd.refl _) ?_
  (repeat' (first | (show VH _ _ _ _ _ _ _; first | refine v_seq ?_ | refine r_seq ?_ | refine v_block ?_) | (show SH _ _ _ _ _ (_ :: _) _ _ _; first | (show SH _ _ _ _ _ (⟨_, .move _, _, _, _, _⟩ :: _) _ _ _; refine mov evL ?_) | (show SH _ _ _ _ _ (⟨_, .assign _, _, _, _, _⟩ :: _) _ _ _; refine asg evL ?_) | refine slen rfl ?_) | refine s_nil ?_ | refine kh_normal ?_))
  refine v_loop [(5,5),(7,9),(12,27)] (fun s : Nat × (Option Addr × Nat) × List EntP => [(12, .int .i64 s.1), (5, .slice s.2.1.1 s.2.2.length s.2.1.2)]) (fun s => [orow 31 s.2.1.1 s.2.1.2 s.2.2, allH (s.2.2.map rowOf)]) (fun s => s.1 ≤ l.length ∧ s.2.2.map EntP.e = ((l.take s.1).filter b).map y) (fun s => l.length - s.1) (0, (none, 0), []) hsL (ent_nilrow (ent_all_nil (ent_nil _))) ⟨Nat.zero_le _, rfl⟩ ?_
  rintro ⟨k, ⟨A1, c2⟩, L⟩ g ⟨hk, hL⟩
  simp only [sets]
  simp only at hk hL
  have hlen : L.length ≤ k := by
    have h1 := congrArg List.length hL
    rw [List.length_map, List.length_map] at h1
    have := List.length_filter_le b (l.take k)
    rw [List.length_take] at this; omega
  by_cases hkl : k < l.length
  · have hp' := fun w he => hp w he (l.getD k Flat.dflt) (getD_mem hkl)
    have hn := filt_next Flat.dflt b y hkl
    generalize y (l.getD k Flat.dflt) = yk at hp' hn
    cases hb : b (l.getD k Flat.dflt) with
    | true =>
      rw [if_pos hb, ← hL] at hn
      simp only [hb] at hp'
      (repeat' (first | (show VH _ _ _ _ _ _ _; first | refine v_seq ?_ | refine r_seq ?_ | refine v_block ?_ | refine v_skip ?_ | refine v_cond_t rfl tbL ?_) | (show SH _ _ _ _ _ (_ :: _) _ _ _; first | (show SH _ _ _ _ _ (⟨_, .move _, _, _, _, _⟩ :: _) _ _ _; refine mov evL ?_) | (show SH _ _ _ _ _ (⟨_, .binOp .lss _ _ _ _, _, _, _, _⟩ :: _) _ _ _; refine lssT rfl rfl omD ?_) | (show SH _ _ _ _ _ (⟨_, .load _ _, _, _, _, _⟩ :: _) _ _ _; first | refine lba rfl spL (by rfl) ?_ | refine lra rfl (fun _ _ => rdX) (by rfl) omL ?_ | refine lra rfl (fun _ _ => rdX) (by rfl) (by simp only [List.length_cons, List.length_nil]; omega) ?_) | (show SH _ _ _ _ _ (⟨_, .indexAddr _ _ _, _, _, _, _⟩ :: _) _ _ _; refine ix rfl rfl (by with_reducible rfl) (fun _ _ => rdX) (by rfl) omL omL ?_) | (show SH _ _ _ _ _ (⟨_, .call ⟨.value (.tmp _), _, _⟩, _, _, _, _⟩ :: _) _ _ _; refine cp (callee := .tmp _) rfl (fun w hw => hp' _ hw.ext) rfl rfl ?_) | refine ala rfl (fun b => ?_) | (show SH _ _ _ _ _ (⟨_, .store _ _ _, _, _, _, _⟩ :: _) _ _ _; refine sta rfl rfl rfl spL (by rfl) (by rfl) (by rfl) kpL ?_)) | refine s_nil ?_ | refine kh_normal ?_))
      rintro _ _ ⟨A3, c3, rfl, rfl⟩
      (repeat' (first | (show VH _ _ _ _ _ _ _; first | refine v_seq ?_ | refine r_seq ?_ | refine v_cond_t rfl tbL ?_) | (show SH _ _ _ _ _ (_ :: _) _ _ _; first | (show SH _ _ _ _ _ (⟨_, .move _, _, _, _, _⟩ :: _) _ _ _; refine mov evL ?_) | (show SH _ _ _ _ _ (⟨_, .assign _, _, _, _, _⟩ :: _) _ _ _; refine asg evL ?_) | (show SH _ _ _ _ _ (⟨_, .load _ _, _, _, _, _⟩ :: _) _ _ _; refine lba rfl spL (by rfl) ?_) | refine extr rfl rfl ?_ | refine ala rfl (fun b => ?_) | (show SH _ _ _ _ _ (⟨_, .store _ _ _, _, _, _, _⟩ :: _) _ _ _; refine sta rfl rfl rfl spL (by rfl) (by rfl) (by rfl) kpL ?_)) | refine s_nil ?_ | refine kh_normal ?_))
      refine bsl (l := [(⟨yk, A3, c3⟩ : EntP)]) rfl rfl (Vals.cons rfl Vals.nil) rfl rfl (by decide) (fun b9 => ?_)
      (repeat' (first | (show VH _ _ _ _ _ _ _; first | refine v_seq ?_ | refine r_seq ?_ | refine r_quiet hmix (by kernel_rfl) ?_ | refine v_block ?_ | refine v_ret ?_ | refine v_skip ?_ | refine v_exit ?_ | refine v_label ?_ | refine v_cond_t rfl tbL ?_ | refine v_cond_f rfl tbL ?_ | refine v_cond_dec rfl (fun h => ?_) (fun h => ?_) | refine v_cond_ndec rfl (fun h => ?_) (fun h => ?_) | refine v_cond rfl (fun h => ?_) (fun h => ?_)) | (show SH _ _ _ _ _ (_ :: _) _ _ _; first | (show SH _ _ _ _ _ (⟨_, .move _, _, _, _, _⟩ :: _) _ _ _; refine mov evL ?_) | (show SH _ _ _ _ _ (⟨_, .assign _, _, _, _, _⟩ :: _) _ _ _; refine asg evL ?_) | (show SH _ _ _ _ _ (⟨_, .binOp .lss _ _ _ _, _, _, _, _⟩ :: _) _ _ _; first | refine lssT rfl rfl omD ?_ | refine lssF rfl rfl omD ?_ | refine lss rfl rfl ?_) | (show SH _ _ _ _ _ (⟨_, .binOp .add _ _ _ _, _, _, _, _⟩ :: _) _ _ _; refine add rfl rfl inL ?_) | (show SH _ _ _ _ _ (⟨_, .load _ _, _, _, _, _⟩ :: _) _ _ _; first | refine lin rfl (fun _ _ => rdX) omL ?_ | refine lbx rfl spL (by rfl) ?_ | refine lba rfl spL (by rfl) ?_ | refine lbi rfl spL omL ?_ | refine lr1 rfl (fun _ _ => rdX) (by rfl) omL (by rfl) ?_ | refine lra rfl (fun _ _ => rdX) (by rfl) omL ?_ | refine lrf rfl (fun _ _ => rdX) (by rfl) omL (by rfl) ?_ | refine lcell rfl (fun w hw => hw.ext.cell (by assumption)) ?_ | refine lrs rfl (fun _ _ => rdX) (by rfl) omL (by rfl) (by rfl) ?_ | refine lbs rfl spL (by rfl) (by rfl) ?_ | refine lca rfl (fun _ _ => rdX) (by rfl) ?_ | refine lcs rfl (fun _ _ => rdX) (by rfl) ?_ | refine lcf rfl (fun _ _ => rdX) (by rfl) ?_ | refine lrf rfl (fun _ _ => rdX) (by rfl) (by simp only [List.length_cons, List.length_nil]; omega) (by rfl) ?_ | refine lra rfl (fun _ _ => rdX) (by rfl) (by simp only [List.length_cons, List.length_nil]; omega) ?_) | (show SH _ _ _ _ _ (⟨_, .indexAddr _ _ _, _, _, _, _⟩ :: _) _ _ _; first | refine ix rfl rfl (by with_reducible rfl) (fun _ _ => rdX) (by rfl) omL omL ?_ | refine ixi rfl rfl (fun _ _ => rdX) (by rfl) omL omL omL ?_ | refine ixb rfl rfl omL ?_ | refine ixq rfl rfl (by assumption) omL omL ?_ | refine ixA _ rfl rfl rfl omL ?_ | refine ixi rfl rfl (fun _ _ => rdX) (by rfl) omL (by first | omega | (simp only [List.length_cons, List.length_nil]; omega)) (by simp only [List.length_cons, List.length_nil]; omega) ?_) | refine slen rfl ?_ | refine extr rfl rfl ?_ | (show SH _ _ _ _ _ (⟨_, .alloc _, _, _, _, _⟩ :: _) _ _ _; first | refine al1 rfl (fun b => ?_) | refine ala rfl (fun b => ?_)) | (show SH _ _ _ _ _ (⟨_, .store _ _ _, _, _, _, _⟩ :: _) _ _ _; first | refine stb rfl rfl evL spL rfl rfl (by first | decide | exact Nat.zero_lt_succ _ | exact of_decide_eq_true rfl) kpL ?_ | refine sta rfl rfl rfl spL (by rfl) (by rfl) (by rfl) kpL ?_ | refine sti rfl rfl rfl spL omL kpL ?_ | refine sbi rfl rfl rfl spL omL kpL ?_ | refine sbs rfl rfl evL spL (by rfl) (by rfl) (of_decide_eq_true rfl) kpL ?_) | (show SH _ _ _ _ _ (⟨_, .buildSlice _ _ _, _, _, _, _⟩ :: _) _ _ _; refine bsl (α := Int) rfl rfl (by repeat (first | exact Vals.nil | (apply Vals.cons; rfl))) rfl (by rfl) (by decide) (fun b => ?_))) | refine s_nil ?_ | refine s_fork ?_ ?_ | refine s_fork3 ?_ ?_ ?_ | refine s_fork4 ?_ ?_ ?_ ?_ | refine kh_normal ?_ | refine kh_ret ?_ | refine kh_exit ?_ | refine bh_normal ?_ | refine bh_ret ?_ | refine bh_exit ?_ | refine bh_exit_ne rfl ?_))
      refine app (l := L) (l2 := [(⟨yk, A3, c3⟩ : EntP)]) rfl rfl rfl spL (fun w hw => hw.rd spL) rfl rfl rfl (by simp only [List.length_cons, List.length_nil]; omega) (by simp only [List.length_cons, List.length_nil]; omega) (fun A4 c4 => ⟨enL, ?_⟩)
      (repeat' (first | refine r_seq ?_ | (show SH _ _ _ _ _ (_ :: _) _ _ _; first | (show SH _ _ _ _ _ (⟨_, .move _, _, _, _, _⟩ :: _) _ _ _; refine mov evL ?_) | (show SH _ _ _ _ _ (⟨_, .assign _, _, _, _, _⟩ :: _) _ _ _; refine asg evL ?_) | (show SH _ _ _ _ _ (⟨_, .binOp .add _ _ _ _, _, _, _, _⟩ :: _) _ _ _; refine add rfl rfl inL ?_)) | refine s_nil ?_ | refine kh_normal ?_ | refine bh_normal ?_))
      refine ⟨agL, (k + 1, (A4, c4), L ++ [⟨yk, A3, c3⟩]), hsL, ?_, ⟨hkl, by rw [hn]; exact map_snoc_e _ _⟩, by show _ - (k + 1) < _ - k; omega⟩
      exact Ent.trans (B := [orow 31 A4 c4 (L ++ [⟨yk, A3, c3⟩]), orow 37 A3 c3 yk.comps, allH (L.map rowOf)]) enL (ent_cons Split.head (ent_all_snoc (f := rowOf) (x := ⟨yk, A3, c3⟩)))
    | false =>
      rw [if_neg (by rw [hb]; simp), List.append_nil, ← hL] at hn
      simp only [hb] at hp'
      (repeat' (first | (show VH _ _ _ _ _ _ _; first | refine v_seq ?_ | refine r_seq ?_ | refine v_block ?_ | refine v_skip ?_ | refine v_cond_t rfl tbL ?_) | (show SH _ _ _ _ _ (_ :: _) _ _ _; first | (show SH _ _ _ _ _ (⟨_, .move _, _, _, _, _⟩ :: _) _ _ _; refine mov evL ?_) | (show SH _ _ _ _ _ (⟨_, .binOp .lss _ _ _ _, _, _, _, _⟩ :: _) _ _ _; refine lssT rfl rfl omD ?_) | (show SH _ _ _ _ _ (⟨_, .load _ _, _, _, _, _⟩ :: _) _ _ _; first | refine lba rfl spL (by rfl) ?_ | refine lra rfl (fun _ _ => rdX) (by rfl) omL ?_ | refine lra rfl (fun _ _ => rdX) (by rfl) (by simp only [List.length_cons, List.length_nil]; omega) ?_) | (show SH _ _ _ _ _ (⟨_, .indexAddr _ _ _, _, _, _, _⟩ :: _) _ _ _; refine ix rfl rfl (by with_reducible rfl) (fun _ _ => rdX) (by rfl) omL omL ?_) | (show SH _ _ _ _ _ (⟨_, .call ⟨.value (.tmp _), _, _⟩, _, _, _, _⟩ :: _) _ _ _; refine cp (callee := .tmp _) rfl (fun w hw => hp' _ hw.ext) rfl rfl ?_) | refine ala rfl (fun b => ?_) | (show SH _ _ _ _ _ (⟨_, .store _ _ _, _, _, _, _⟩ :: _) _ _ _; refine sta rfl rfl rfl spL (by rfl) (by rfl) (by rfl) kpL ?_)) | refine s_nil ?_ | refine kh_normal ?_))
      rintro _ _ ⟨A3, c3, rfl, rfl⟩
      (repeat' (first | (show VH _ _ _ _ _ _ _; first | refine v_seq ?_ | refine r_seq ?_ | refine v_skip ?_ | refine v_cond_f rfl tbL ?_) | (show SH _ _ _ _ _ (_ :: _) _ _ _; first | (show SH _ _ _ _ _ (⟨_, .move _, _, _, _, _⟩ :: _) _ _ _; refine mov evL ?_) | (show SH _ _ _ _ _ (⟨_, .assign _, _, _, _, _⟩ :: _) _ _ _; refine asg evL ?_) | (show SH _ _ _ _ _ (⟨_, .binOp .add _ _ _ _, _, _, _, _⟩ :: _) _ _ _; refine add rfl rfl inL ?_) | refine extr rfl rfl ?_ | refine ala rfl (fun b => ?_) | (show SH _ _ _ _ _ (⟨_, .store _ _ _, _, _, _, _⟩ :: _) _ _ _; refine sta rfl rfl rfl spL (by rfl) (by rfl) (by rfl) kpL ?_)) | refine s_nil ?_ | refine kh_normal ?_ | refine bh_normal ?_))
      exact ⟨agL, (k + 1, (A1, c2), L), hsL, enL, ⟨hkl, hn.symm⟩, by show _ - (k + 1) < _ - k; omega⟩
  · have hke : k = l.length := by omega
    subst hke
    rw [List.take_length] at hL
    (repeat' (first | (show VH _ _ _ _ _ _ _; first | refine v_seq ?_ | refine r_seq ?_ | refine v_ret ?_ | refine v_exit ?_ | refine v_cond_f rfl tbL ?_) | (show SH _ _ _ _ _ (_ :: _) _ _ _; first | (show SH _ _ _ _ _ (⟨_, .move _, _, _, _, _⟩ :: _) _ _ _; refine mov evL ?_) | (show SH _ _ _ _ _ (⟨_, .assign _, _, _, _, _⟩ :: _) _ _ _; refine asg evL ?_) | (show SH _ _ _ _ _ (⟨_, .binOp .lss _ _ _ _, _, _, _, _⟩ :: _) _ _ _; refine lssF rfl rfl omD ?_)) | refine s_nil ?_ | refine kh_normal ?_ | refine kh_exit ?_ | refine bh_exit ?_))
    exact rh1 rfl rfl ⟨A1, c2, L, rfl, hL, rfl⟩ enL
def maskE (ct : Int) (e : Ent1) : Int := if ownsE ct e then 4294967295 else 1310
def viewE (ct : Int) (e : Ent1) : Ent1 := ⟨e.id, partC (maskE ct e) e.comps⟩
def viewL (ct t : Int) (es : List Ent1) : List Ent1 := if OkI ct t es then (es.filter (seesE ct.toNat (ptsE ct es))).map (viewE ct) else []
def viewT (ct t : Int) (es : List Ent1) : Int := if OkI ct t es then t else 0
set_option maxHeartbeats 2000000 in
set_option maxRecDepth 100000 in
theorem viewPick (w : World) (b : Nat) (cn : Nat) (h8 : 1 ≤ cn ∧ cn ≤ 8) (A0 : Option Addr) (ps : List Pt) (c0 : Nat) (x : EntP) (hl : x.e.comps.length ≤ 1000000) (hr : Rd w x.A x.e.comps) (hE : RightE x.e) (hps : Rd w A0 ps) (hin : ∀ q ∈ ps, InC q) (hpl : ps.length ≤ 140737488355328)
    (hk : Rd w (some ⟨b, 0, none⟩) [(⟨cn, A0, ps.length, c0⟩ : EyeV)]) : Ret Tryz.prog 40 [.agg (Flat.enc x).toArray, .pointer (some ⟨b, 0, none⟩)].toArray w
    (RP w fun v H' => ∃ A c, v = .tuple #[.agg #[.int .i64 (viewE cn x.e).id, .slice A (viewE cn x.e).comps.length c], .bool (seesE cn ps x.e)] ∧ H' = [orow 37 A c (viewE cn x.e).comps]) := by
  have hO := fun w' (he : Ext w w') => owns_spec cn A0 ps.length c0 x w' (by omega) (hr.ext he)
  have hS := fun w' (he : Ext w w') => sees_spec cn h8 A0 ps c0 x w' (by omega) (hr.ext he) hE (hps.ext he) hin hpl
  have hP := fun m w' (he : Ext w w') => part_spec x m w' hl (hr.ext he)
  unfold viewE maskE
  unfold OwnR at hP
  generalize seesE cn ps x.e = q at hS ⊢
  generalize ownsE cn x.e = ow at hO ⊢
  obtain ⟨⟨ei, cs⟩, A, c1⟩ := x
  try simp only at hO hS hP ⊢
  rw [show Flat.enc (⟨⟨ei, cs⟩, A, c1⟩ : EntP) = [.int .i64 ei, .slice A cs.length c1] from rfl] at *
  generalize cs.length = m at hO hS hP ⊢
  clear hin hE hps
  cases ow with
  | true =>
    simp only [if_true]
    have hP' := hP 4294967295
    generalize partC 4294967295 cs = P at hP' ⊢
    clear hP
    refine enterH Tryz.func40 rfl rfl Tryz.ntmps40 rfl (Wd.refl _) ?_
    (repeat' (first | (show VH _ _ _ _ _ _ _; first | refine v_seq ?_ | refine r_seq ?_ | refine v_cond_t rfl tbL ?_) | (show SH _ _ _ _ _ (_ :: _) _ _ _; first | (show SH _ _ _ _ _ (⟨_, .assign _, _, _, _, _⟩ :: _) _ _ _; refine asg evL ?_) | (show SH _ _ _ _ _ (⟨_, .load _ _, _, _, _, _⟩ :: _) _ _ _; first | refine lba rfl spL (by rfl) ?_ | refine lca rfl (fun _ _ => rdX) (by rfl) ?_) | (show SH _ _ _ _ _ (⟨_, .call ⟨.value (.func 33), _, _⟩, _, _, _, _⟩ :: _) _ _ _; refine cl (callee := .func 33) rfl (fun w hw => hO _ hw.ext) rfl rfl ?_) | refine ala rfl (fun b => ?_) | (show SH _ _ _ _ _ (⟨_, .box _ _, _, _, _, _⟩ :: _) _ _ _; refine bxx rfl evL rfl (fun b => ?_))) | refine s_nil ?_ | refine kh_normal ?_))
    rename_i b2
    refine r_heldT [bx b2 31 _] (tr [(0, true), (1, true), (3, true), (4, true), (2, false), (5, false), (6, false), (7, false)] .nil) hmix (by kernel_rfl) enL ?_
    (repeat' ((show SH _ _ _ _ _ (_ :: _) _ _ _; first | (show SH _ _ _ _ _ (⟨_, .move _, _, _, _, _⟩ :: _) _ _ _; refine mov evL ?_) | (show SH _ _ _ _ _ (⟨_, .load _ _, _, _, _, _⟩ :: _) _ _ _; first | refine lba rfl spL (by rfl) ?_ | refine lca rfl (fun _ _ => rdX) (by rfl) ?_) | (show SH _ _ _ _ _ (⟨_, .call ⟨.value (.func 41), _, _⟩, _, _, _, _⟩ :: _) _ _ _; refine cp (callee := .func 41) rfl (fun w hw => hP' _ hw.ext) rfl rfl ?_))))
    rintro _ _ ⟨A2, c2, rfl, rfl⟩
    (repeat' (first | refine v_ret ?_ | (show SH _ _ _ _ _ (_ :: _) _ _ _; first | (show SH _ _ _ _ _ (⟨_, .assign _, _, _, _, _⟩ :: _) _ _ _; refine asg evL ?_) | (show SH _ _ _ _ _ (⟨_, .call ⟨.value (.func 36), _, _⟩, _, _, _, _⟩ :: _) _ _ _; refine cl (callee := .func 36) rfl (fun w hw => hS _ hw.ext) rfl rfl ?_) | (show SH _ _ _ _ _ (⟨_, .store _ _ _, _, _, _, _⟩ :: _) _ _ _; refine sta rfl rfl rfl spL (by rfl) (by rfl) (by rfl) kpL ?_)) | refine s_nil ?_ | refine kh_normal ?_))
    exact rhC2 rfl rfl rfl rfl (fun w hw => loadVar_bx hw spL (by rfl)) ⟨A2, c2, rfl, rfl⟩ enL
  | false =>
    simp only [Bool.false_eq_true, if_false]
    have hP' := hP 1310
    generalize partC 1310 cs = P at hP' ⊢
    clear hP
    refine enterH Tryz.func40 rfl rfl Tryz.ntmps40 rfl (Wd.refl _) ?_
    (repeat' (first | (show VH _ _ _ _ _ _ _; first | refine v_seq ?_ | refine r_seq ?_ | refine v_skip ?_ | refine v_cond_f rfl tbL ?_) | (show SH _ _ _ _ _ (_ :: _) _ _ _; first | (show SH _ _ _ _ _ (⟨_, .assign _, _, _, _, _⟩ :: _) _ _ _; refine asg evL ?_) | (show SH _ _ _ _ _ (⟨_, .load _ _, _, _, _, _⟩ :: _) _ _ _; first | refine lba rfl spL (by rfl) ?_ | refine lca rfl (fun _ _ => rdX) (by rfl) ?_) | (show SH _ _ _ _ _ (⟨_, .call ⟨.value (.func 33), _, _⟩, _, _, _, _⟩ :: _) _ _ _; refine cl (callee := .func 33) rfl (fun w hw => hO _ hw.ext) rfl rfl ?_) | refine ala rfl (fun b => ?_) | (show SH _ _ _ _ _ (⟨_, .box _ _, _, _, _, _⟩ :: _) _ _ _; refine bxx rfl evL rfl (fun b => ?_))) | refine s_nil ?_ | refine kh_normal ?_))
    rename_i b2
    refine r_heldT [bx b2 31 _] (tr [(0, true), (1, true), (3, true), (4, true), (2, false), (5, false), (6, false), (7, false)] .nil) hmix (by kernel_rfl) enL ?_
    (repeat' ((show SH _ _ _ _ _ (_ :: _) _ _ _; first | (show SH _ _ _ _ _ (⟨_, .move _, _, _, _, _⟩ :: _) _ _ _; refine mov evL ?_) | (show SH _ _ _ _ _ (⟨_, .load _ _, _, _, _, _⟩ :: _) _ _ _; first | refine lba rfl spL (by rfl) ?_ | refine lca rfl (fun _ _ => rdX) (by rfl) ?_) | (show SH _ _ _ _ _ (⟨_, .call ⟨.value (.func 41), _, _⟩, _, _, _, _⟩ :: _) _ _ _; refine cp (callee := .func 41) rfl (fun w hw => hP' _ hw.ext) rfl rfl ?_))))
    rintro _ _ ⟨A2, c2, rfl, rfl⟩
    (repeat' (first | refine v_ret ?_ | (show SH _ _ _ _ _ (_ :: _) _ _ _; first | (show SH _ _ _ _ _ (⟨_, .assign _, _, _, _, _⟩ :: _) _ _ _; refine asg evL ?_) | (show SH _ _ _ _ _ (⟨_, .call ⟨.value (.func 36), _, _⟩, _, _, _, _⟩ :: _) _ _ _; refine cl (callee := .func 36) rfl (fun w hw => hS _ hw.ext) rfl rfl ?_) | (show SH _ _ _ _ _ (⟨_, .store _ _ _, _, _, _, _⟩ :: _) _ _ _; refine sta rfl rfl rfl spL (by rfl) (by rfl) (by rfl) kpL ?_)) | refine s_nil ?_ | refine kh_normal ?_))
    exact rhC2 rfl rfl rfl rfl (fun w hw => loadVar_bx hw spL (by rfl)) ⟨A2, c2, rfl, rfl⟩ enL
theorem view_ents (b : Ent1 → Bool) (y : Ent1 → Ent1) (l : List EntP) : (l.filter fun x => b x.e).map (fun x => y x.e) = ((ents l).filter b).map y := by
  unfold ents
  rw [List.filter_map, List.map_map]; rfl
set_option maxHeartbeats 2000000 in
set_option maxRecDepth 100000 in
theorem viewI_spec (ct t : Int) (A : Option Addr) (l : List EntP) (c1 : Nat) (w : World) (hG : Glob w) (hs : Sz l) (hse : ∀ x ∈ l, x.e.comps.length ≤ 1000000) (hr : RdW w A l) :
    Ret Tryz.prog 19 [wv t A l c1, .int .i64 ct].toArray w (RP w fun v H' => ∃ A' c' L, v = .tuple #[wv (viewT ct t (ents l)) A' L c', .int .i64 (errI ct t (ents l))] ∧ L.map EntP.e = viewL ct t (ents l) ∧ H' = [orow 31 A' c' L, allH (L.map rowOf)]) := by
  have hO := fun w' (he : Ext w w') => open_spec ct t A l c1 w' (hG.ext he) hs (hr.ext he)
  unfold OpenR at hO
  unfold viewL viewT errI
  by_cases hv : OkI ct t (ents l)
  · simp only [if_pos hv] at hO ⊢
    obtain ⟨⟨hc1, hc8⟩, hV⟩ := hv
    obtain ⟨cn, rfl⟩ : ∃ cn : Nat, ct = (cn : Int) := ⟨ct.toNat, by omega⟩
    rw [Int.toNat_natCast]
    have hl : l.length ≤ 64 := by have := hV.len; rwa [ents_len] at this
    have hin := pts_in (cl := (cn : Int)) hV.right
    have hpl := pts_len (cn : Int) (ents l)
    rw [ents_len] at hpl
    have hRE : ∀ x ∈ l, RightE x.e := fun x hx => hV.right _ (List.mem_map_of_mem hx)
    clear hV
    generalize ptsE (cn : Int) (ents l) = ps at hO hin hpl ⊢
    have hF := fun w' (he : Ext w w') A1 c2 (hps : Rd w' A1 ps) b (hk : Rd w' (some ⟨b, 0, none⟩) [(⟨cn, A1, ps.length, c2⟩ : EyeV)]) => filterE_spec A l c1 (.func (.func 40) #[] #[.pointer (some ⟨b, 0, none⟩)]) (fun x => viewE cn x.e) (fun x => seesE cn ps x.e) w' (by omega) (hr.1.ext he)
      ⟨_, #[], #[.pointer (some ⟨b, 0, none⟩)], rfl, fun w'' he' x hx => by
        have := viewPick w'' b cn (by omega) A1 ps c2 x (hse x hx) ((hr.2 x hx).ext (he.trans he')) (hRE x hx) (hps.ext he') hin (by omega) (hk.ext he')
        simpa using this⟩
    rw [view_ents (seesE cn ps) (viewE cn) l] at hF
    generalize ((ents l).filter (seesE cn ps)).map (viewE cn) = V at hF ⊢
    clear hin hRE
    unfold wv at *
    refine enterH Tryz.func19 rfl rfl Tryz.ntmps19 rfl (Wd.refl _) ?_
    (repeat' (first | (show VH _ _ _ _ _ _ _; first | refine v_seq ?_ | refine r_seq ?_) | (show SH _ _ _ _ _ (_ :: _) _ _ _; first | (show SH _ _ _ _ _ (⟨_, .move _, _, _, _, _⟩ :: _) _ _ _; refine mov evL ?_) | (show SH _ _ _ _ _ (⟨_, .assign _, _, _, _, _⟩ :: _) _ _ _; refine asg evL ?_) | (show SH _ _ _ _ _ (⟨_, .load _ _, _, _, _, _⟩ :: _) _ _ _; refine lba rfl spL (by rfl) ?_) | (show SH _ _ _ _ _ (⟨_, .call ⟨.value (.func 31), _, _⟩, _, _, _, _⟩ :: _) _ _ _; refine cp (callee := .func 31) rfl (fun w hw => hO _ hw.ext) rfl rfl ?_) | refine ala rfl (fun b => ?_) | (show SH _ _ _ _ _ (⟨_, .box _ _, _, _, _, _⟩ :: _) _ _ _; refine bxx rfl evL rfl (fun b => ?_))) | refine s_nil ?_ | refine kh_normal ?_))
    rintro _ _ ⟨A1, c2, rfl, rfl⟩
    (repeat' (first | (show VH _ _ _ _ _ _ _; first | refine v_seq ?_ | refine r_seq ?_ | refine v_skip ?_ | refine v_cond_f rfl tbL ?_) | (show SH _ _ _ _ _ (_ :: _) _ _ _; first | (show SH _ _ _ _ _ (⟨_, .move _, _, _, _, _⟩ :: _) _ _ _; refine mov evL ?_) | (show SH _ _ _ _ _ (⟨_, .assign _, _, _, _, _⟩ :: _) _ _ _; refine asg evL ?_) | (show SH _ _ _ _ _ (⟨_, .binOp .neq _ _ _ _, _, _, _, _⟩ :: _) _ _ _; refine neqF rfl rfl omD ?_) | (show SH _ _ _ _ _ (⟨_, .load _ _, _, _, _, _⟩ :: _) _ _ _; refine lbx rfl spL (by rfl) ?_) | (show SH _ _ _ _ _ (⟨_, .call ⟨.value (.func 39), _, _⟩, _, _, _, _⟩ :: _) _ _ _; refine cp (callee := .func 39) rfl (fun w hw => hF _ hw.ext A1 c2 (hw.rd spL) _ (rd_box hw spL rfl)) rfl rfl ?_) | refine extr rfl rfl ?_ | refine fad rfl ?_ | (show SH _ _ _ _ _ (⟨_, .makeFunc _ _ _, _, _, _, _⟩ :: _) _ _ _; refine mf1 evL ?_) | refine ala rfl (fun b => ?_) | (show SH _ _ _ _ _ (⟨_, .store _ _ _, _, _, _, _⟩ :: _) _ _ _; refine sta rfl rfl rfl spL (by rfl) (by rfl) (by rfl) kpL ?_)) | refine s_nil ?_ | refine kh_normal ?_))
    rintro _ _ ⟨A2, c3, L, rfl, hL, rfl⟩
    (repeat' (first | (show VH _ _ _ _ _ _ _; first | refine v_seq ?_ | refine r_seq ?_ | refine v_ret ?_) | (show SH _ _ _ _ _ (_ :: _) _ _ _; first | (show SH _ _ _ _ _ (⟨_, .move _, _, _, _, _⟩ :: _) _ _ _; refine mov evL ?_) | (show SH _ _ _ _ _ (⟨_, .assign _, _, _, _, _⟩ :: _) _ _ _; refine asg evL ?_) | (show SH _ _ _ _ _ (⟨_, .load _ _, _, _, _, _⟩ :: _) _ _ _; refine lbx rfl spL (by rfl) ?_) | refine fad rfl ?_ | refine bld rfl rfl ?_ | (show SH _ _ _ _ _ (⟨_, .store _ _ _, _, _, _, _⟩ :: _) _ _ _; refine sta rfl rfl rfl spL (by rfl) (by rfl) (by rfl) kpL ?_)) | refine s_nil ?_ | refine kh_normal ?_))
    exact rhC2 rfl rfl rfl rfl (fun w hw => loadVar_bx hw spL (by rfl)) ⟨A2, c3, L, rfl, hL, rfl⟩ enL
  · simp only [if_neg hv] at hO ⊢
    clear hv
    unfold wv at *
    refine enterH Tryz.func19 rfl rfl Tryz.ntmps19 rfl (Wd.refl _) ?_
    (repeat' (first | (show VH _ _ _ _ _ _ _; first | refine v_seq ?_ | refine r_seq ?_) | (show SH _ _ _ _ _ (_ :: _) _ _ _; first | (show SH _ _ _ _ _ (⟨_, .move _, _, _, _, _⟩ :: _) _ _ _; refine mov evL ?_) | (show SH _ _ _ _ _ (⟨_, .assign _, _, _, _, _⟩ :: _) _ _ _; refine asg evL ?_) | (show SH _ _ _ _ _ (⟨_, .load _ _, _, _, _, _⟩ :: _) _ _ _; refine lba rfl spL (by rfl) ?_) | (show SH _ _ _ _ _ (⟨_, .call ⟨.value (.func 31), _, _⟩, _, _, _, _⟩ :: _) _ _ _; refine cp (callee := .func 31) rfl (fun w hw => hO _ hw.ext) rfl rfl ?_) | refine ala rfl (fun b => ?_) | (show SH _ _ _ _ _ (⟨_, .box _ _, _, _, _, _⟩ :: _) _ _ _; refine bxx rfl evL rfl (fun b => ?_))) | refine s_nil ?_ | refine kh_normal ?_))
    rintro _ _ ⟨rfl, rfl⟩
    (repeat' (first | (show VH _ _ _ _ _ _ _; first | refine v_seq ?_ | refine r_seq ?_ | refine v_ret ?_ | refine v_cond_t rfl tbL ?_) | (show SH _ _ _ _ _ (_ :: _) _ _ _; first | (show SH _ _ _ _ _ (⟨_, .move _, _, _, _, _⟩ :: _) _ _ _; refine mov evL ?_) | (show SH _ _ _ _ _ (⟨_, .assign _, _, _, _, _⟩ :: _) _ _ _; refine asg evL ?_) | (show SH _ _ _ _ _ (⟨_, .binOp .neq _ _ _ _, _, _, _, _⟩ :: _) _ _ _; refine neqT rfl rfl omD ?_) | refine extr rfl rfl ?_ | refine bld rfl rfl ?_ | refine ala rfl (fun b => ?_) | (show SH _ _ _ _ _ (⟨_, .store _ _ _, _, _, _, _⟩ :: _) _ _ _; refine sta rfl rfl rfl spL (by rfl) (by rfl) (by rfl) kpL ?_)) | refine s_nil ?_ | refine kh_normal ?_ | refine kh_ret ?_))
    exact rhC2 rfl rfl rfl rfl (fun w hw => loadVar_bx hw spL (by rfl)) ⟨none, 0, [], rfl, rfl, rfl⟩ (ent_nilrow (ent_all_nil (ent_nil _)))
end Go.Proofs.YtjefoecnciepmaaGreatDoor

/- Components are compared. -/
namespace Go.Proofs.YtjefoecnciepmaaGreatDoor
open Go.Fw Go.RowKit
instance : TCmp Tryz.prog 37 Comp := ⟨by kernel_rfl, fun x y w => by
  rw [show (10000 : Nat) = 9999 + 1 from rfl, run_equalIn_agg w 9999 _ _ _ (by kernel_rfl) (by kernel_rfl)]
  have ha8 : ∀ w, (isAgg 5).run Tryz.prog w = .ok false w := fun w => by kernel_rfl
  have ha4 : ∀ w, (isAgg 35).run Tryz.prog w = .ok true w := fun w => by kernel_rfl
  have hs4 : ∀ w, (sizeOf 35).run Tryz.prog w = .ok 4 w := fun w => by kernel_rfl
  have hu : Tryz.prog.underlying 35 = some (.array 4 3) := by kernel_rfl
  obtain ⟨i, hi⟩ : ∃ i, Tryz.prog.info? 3 = some i := Option.isSome_iff_exists.1 (by kernel_rfl)
  have hc : Tryz.prog.cellsOf 3 = 1 := by kernel_rfl
  have ha : ∀ w, (isAgg 3).run Tryz.prog w = .ok false w := fun w => by kernel_rfl
  have hr : List.range 4 = [0, 1, 2, 3] := rfl
  have key : ∀ a0 a1 a2 a3 b0 b1 b2 b3 w, (Op.equalIn 9999 35 (.agg #[.int .i64 a0, .int .i64 a1, .int .i64 a2, .int .i64 a3]) (.agg #[.int .i64 b0, .int .i64 b1, .int .i64 b2, .int .i64 b3])).run Tryz.prog w = .ok (decide (a0 = b0 ∧ a1 = b1 ∧ a2 = b2 ∧ a3 = b3)) w := fun a0 a1 a2 a3 b0 b1 b2 b3 w => by
    rw [show (9999 : Nat) = 9998 + 1 from rfl, run_equalIn_array w 9998 _ _ hu hi, hc]
    rw [hr]
    simp only [Op.eqItems, part, ha, Sem.run_bind, Result.andThen_ok]
    by_cases h0 : a0 = b0
    case neg => simp [ha, run_equalIn_int w 9997 _ .i64 .i64 _ _ Tryz.underlying3, h0]
    by_cases h1 : a1 = b1
    case neg => simp [ha, run_equalIn_int w 9997 _ .i64 .i64 _ _ Tryz.underlying3, h1]
    by_cases h2 : a2 = b2
    case neg => simp [ha, run_equalIn_int w 9997 _ .i64 .i64 _ _ Tryz.underlying3, h2]
    by_cases h3 : a3 = b3
    case neg => simp [ha, run_equalIn_int w 9997 _ .i64 .i64 _ _ Tryz.underlying3, h3]
    simp [ha, run_equalIn_int w 9997 _ .i64 .i64 _ _ Tryz.underlying3, h0, h1, h2, h3]
  obtain ⟨a0, a1, a2, a3, a4⟩ := x
  obtain ⟨b0, b1, b2, b3, b4⟩ := y
  simp only [Program.fieldsOf, Tryz.underlying37, Op.eqFields, part, ha8, ha4, hs4, Sem.run_bind, Result.andThen_ok]
  by_cases h0 : a0 = b0
  case neg => simp [Flat.enc, ha8, run_equalIn_int w 9998 _ .u8 .u8 _ _ Tryz.underlying5, h0]
  simp [Flat.enc, ha8, run_equalIn_int w 9998 _ .u8 .u8 _ _ Tryz.underlying5, h0, key]
  by_cases h1 : a1 = b1 <;> by_cases h2 : a2 = b2 <;> by_cases h3 : a3 = b3 <;> by_cases h4 : a4 = b4 <;> simp [h1, h2, h3, h4]⟩
end Go.Proofs.YtjefoecnciepmaaGreatDoor

/- Package marcheskit: worlds are compared and copied (printed by gen_mk.py). -/
namespace Go.Proofs.YtjefoecnciepmaaGreatDoor
open Go.Fw Go.RowKit
theorem take_ne {α : Type} {l1 l2 : List α} {k : Nat} (d : α) (h : l1.getD k d ≠ l2.getD k d) : l1 ≠ l2 := fun e => h (by rw [e])
theorem take_next {α : Type} {l1 l2 : List α} {k : Nat} (d : α) (hl : l1.length = l2.length) (hk : k < l1.length) (ht : l1.take k = l2.take k) (h : l1.getD k d = l2.getD k d) : l1.take (k + 1) = l2.take (k + 1) := by
  rw [take_snoc (d := d) hk, take_snoc (d := d) (by omega), ht, h]
set_option maxHeartbeats 1000000 in
set_option maxRecDepth 100000 in
theorem sameInts_spec (A1 A2 : Option Addr) (l1 l2 : List Int) (c1 c2 : Nat) (w : World) (hr1 : Rd w A1 l1) (hr2 : Rd w A2 l2) (hl : l1.length ≤ 140737488355328) :
    Ret Tryz.prog 23 [.slice A1 l1.length c1, .slice A2 l2.length c2].toArray w (Out w (.bool (decide (l1 = l2)))) := by
  by_cases hlen : l1.length = l2.length
  case neg =>
    rw [decide_eq_false (fun e => hlen (by rw [e]))]
    refine enterH Tryz.func23 rfl rfl Tryz.ntmps23 rfl (Wd.refl _) ?_
    (repeat' (first | (show VH _ _ _ _ _ _ _; first | refine v_seq ?_ | refine r_seq ?_ | refine v_ret ?_ | refine v_cond_t rfl tbL ?_) | (show SH _ _ _ _ _ (_ :: _) _ _ _; first | (show SH _ _ _ _ _ (⟨_, .move _, _, _, _, _⟩ :: _) _ _ _; refine mov evL ?_) | (show SH _ _ _ _ _ (⟨_, .assign _, _, _, _, _⟩ :: _) _ _ _; refine asg evL ?_) | (show SH _ _ _ _ _ (⟨_, .binOp .neq _ _ _ _, _, _, _, _⟩ :: _) _ _ _; refine neqT rfl rfl omD ?_) | refine slen rfl ?_) | refine s_nil ?_ | refine kh_normal ?_ | refine kh_ret ?_))
    exact rh1 rfl rfl ⟨rfl, rfl⟩ (ent_nil _)
  refine enterH Tryz.func23 rfl rfl Tryz.ntmps23 rfl (Wd.refl _) ?_
  (repeat' (first | (show VH _ _ _ _ _ _ _; first | refine v_seq ?_ | refine r_seq ?_ | refine v_block ?_ | refine v_skip ?_ | refine v_cond_f rfl tbL ?_) | (show SH _ _ _ _ _ (_ :: _) _ _ _; first | (show SH _ _ _ _ _ (⟨_, .move _, _, _, _, _⟩ :: _) _ _ _; refine mov evL ?_) | (show SH _ _ _ _ _ (⟨_, .assign _, _, _, _, _⟩ :: _) _ _ _; refine asg evL ?_) | (show SH _ _ _ _ _ (⟨_, .binOp .neq _ _ _ _, _, _, _, _⟩ :: _) _ _ _; refine neqF rfl rfl omD ?_) | refine slen rfl ?_) | refine s_nil ?_ | refine kh_normal ?_))
  refine v_loop0 [(4,5),(11,25)] (fun k : Nat => [(5, .int .i64 k)]) (fun k => k ≤ l1.length ∧ l1.take k = l2.take k) (fun k => l1.length - k) 0 hsL ⟨Nat.zero_le _, rfl⟩ ?_
  rintro k g ⟨hk, ht⟩
  simp only [sets]
  by_cases hkl : k < l1.length
  · by_cases he : l1.getD k 0 = l2.getD k 0
    · have hn := take_next 0 hlen hkl ht he
      clear ht
      (repeat' (first | (show VH _ _ _ _ _ _ _; first | refine v_seq ?_ | refine r_seq ?_ | refine r_quiet hmix (by kernel_rfl) ?_ | refine v_block ?_ | refine v_skip ?_ | refine v_cond_t rfl tbL ?_ | refine v_cond_f rfl tbL ?_) | (show SH _ _ _ _ _ (_ :: _) _ _ _; first | (show SH _ _ _ _ _ (⟨_, .move _, _, _, _, _⟩ :: _) _ _ _; refine mov evL ?_) | (show SH _ _ _ _ _ (⟨_, .assign _, _, _, _, _⟩ :: _) _ _ _; refine asg evL ?_) | (show SH _ _ _ _ _ (⟨_, .binOp .lss _ _ _ _, _, _, _, _⟩ :: _) _ _ _; refine lssT rfl rfl omD ?_) | (show SH _ _ _ _ _ (⟨_, .binOp .neq _ _ _ _, _, _, _, _⟩ :: _) _ _ _; refine neqF rfl rfl omD ?_) | (show SH _ _ _ _ _ (⟨_, .binOp .add _ _ _ _, _, _, _, _⟩ :: _) _ _ _; refine add rfl rfl inL ?_) | (show SH _ _ _ _ _ (⟨_, .load _ _, _, _, _, _⟩ :: _) _ _ _; refine lin rfl (fun _ _ => rdX) omL ?_) | (show SH _ _ _ _ _ (⟨_, .indexAddr _ _ _, _, _, _, _⟩ :: _) _ _ _; refine ix rfl rfl (by with_reducible rfl) (fun _ _ => rdX) (by rfl) omL omL ?_) | refine slen rfl ?_) | refine s_nil ?_ | refine kh_normal ?_ | refine bh_normal ?_))
      exact ⟨agL, k + 1, hsL, enL, ⟨hkl, hn⟩, by omega⟩
    · rw [decide_eq_false (take_ne _ he)]
      clear ht
      (repeat' (first | (show VH _ _ _ _ _ _ _; first | refine v_seq ?_ | refine r_seq ?_ | refine r_quiet hmix (by kernel_rfl) ?_ | refine v_block ?_ | refine v_ret ?_ | refine v_skip ?_ | refine v_cond_t rfl tbL ?_) | (show SH _ _ _ _ _ (_ :: _) _ _ _; first | (show SH _ _ _ _ _ (⟨_, .move _, _, _, _, _⟩ :: _) _ _ _; refine mov evL ?_) | (show SH _ _ _ _ _ (⟨_, .assign _, _, _, _, _⟩ :: _) _ _ _; refine asg evL ?_) | (show SH _ _ _ _ _ (⟨_, .binOp .lss _ _ _ _, _, _, _, _⟩ :: _) _ _ _; refine lssT rfl rfl omD ?_) | (show SH _ _ _ _ _ (⟨_, .binOp .neq _ _ _ _, _, _, _, _⟩ :: _) _ _ _; refine neqT rfl rfl omD ?_) | (show SH _ _ _ _ _ (⟨_, .load _ _, _, _, _, _⟩ :: _) _ _ _; refine lin rfl (fun _ _ => rdX) omL ?_) | (show SH _ _ _ _ _ (⟨_, .indexAddr _ _ _, _, _, _, _⟩ :: _) _ _ _; refine ix rfl rfl (by with_reducible rfl) (fun _ _ => rdX) (by rfl) omL omL ?_) | refine slen rfl ?_) | refine s_nil ?_ | refine kh_normal ?_ | refine kh_ret ?_ | refine bh_ret ?_))
      exact rh1 rfl rfl ⟨rfl, rfl⟩ (ent_nil _)
  · have : l1 = l2 := by rw [List.take_of_length_le (by omega), List.take_of_length_le (by omega)] at ht; exact ht
    rw [decide_eq_true this]
    clear ht this
    (repeat' (first | (show VH _ _ _ _ _ _ _; first | refine v_seq ?_ | refine r_seq ?_ | refine v_ret ?_ | refine v_exit ?_ | refine v_cond_f rfl tbL ?_) | (show SH _ _ _ _ _ (_ :: _) _ _ _; first | (show SH _ _ _ _ _ (⟨_, .move _, _, _, _, _⟩ :: _) _ _ _; refine mov evL ?_) | (show SH _ _ _ _ _ (⟨_, .assign _, _, _, _, _⟩ :: _) _ _ _; refine asg evL ?_) | (show SH _ _ _ _ _ (⟨_, .binOp .lss _ _ _ _, _, _, _, _⟩ :: _) _ _ _; refine lssF rfl rfl omD ?_) | refine slen rfl ?_) | refine s_nil ?_ | refine kh_normal ?_ | refine kh_exit ?_ | refine bh_exit ?_))
    exact rh1 rfl rfl ⟨rfl, rfl⟩ (ent_nil _)
set_option maxHeartbeats 1000000 in
set_option maxRecDepth 100000 in
theorem sameComps_spec (A1 A2 : Option Addr) (l1 l2 : List Comp) (c1 c2 : Nat) (w : World) (hr1 : Rd w A1 l1) (hr2 : Rd w A2 l2) (hl : l1.length ≤ 140737488355328) :
    Ret Tryz.prog 108 [.slice A1 l1.length c1, .slice A2 l2.length c2].toArray w (Out w (.bool (decide (l1 = l2)))) := by
  by_cases hlen : l1.length = l2.length
  case neg =>
    rw [decide_eq_false (fun e => hlen (by rw [e]))]
    refine enterH Tryz.func108 rfl rfl Tryz.ntmps108 rfl (Wd.refl _) ?_
    (repeat' (first | (show VH _ _ _ _ _ _ _; first | refine v_seq ?_ | refine r_seq ?_ | refine v_ret ?_ | refine v_cond_t rfl tbL ?_) | (show SH _ _ _ _ _ (_ :: _) _ _ _; first | (show SH _ _ _ _ _ (⟨_, .move _, _, _, _, _⟩ :: _) _ _ _; refine mov evL ?_) | (show SH _ _ _ _ _ (⟨_, .assign _, _, _, _, _⟩ :: _) _ _ _; refine asg evL ?_) | (show SH _ _ _ _ _ (⟨_, .binOp .neq _ _ _ _, _, _, _, _⟩ :: _) _ _ _; refine neqT rfl rfl omD ?_) | refine slen rfl ?_) | refine s_nil ?_ | refine kh_normal ?_ | refine kh_ret ?_))
    exact rh1 rfl rfl ⟨rfl, rfl⟩ (ent_nil _)
  refine enterH Tryz.func108 rfl rfl Tryz.ntmps108 rfl (Wd.refl _) ?_
  (repeat' (first | (show VH _ _ _ _ _ _ _; first | refine v_seq ?_ | refine r_seq ?_ | refine v_block ?_ | refine v_skip ?_ | refine v_cond_f rfl tbL ?_) | (show SH _ _ _ _ _ (_ :: _) _ _ _; first | (show SH _ _ _ _ _ (⟨_, .move _, _, _, _, _⟩ :: _) _ _ _; refine mov evL ?_) | (show SH _ _ _ _ _ (⟨_, .assign _, _, _, _, _⟩ :: _) _ _ _; refine asg evL ?_) | (show SH _ _ _ _ _ (⟨_, .binOp .neq _ _ _ _, _, _, _, _⟩ :: _) _ _ _; refine neqF rfl rfl omD ?_) | refine slen rfl ?_) | refine s_nil ?_ | refine kh_normal ?_))
  refine v_loop0 [(4,5),(11,25)] (fun k : Nat => [(5, .int .i64 k)]) (fun k => k ≤ l1.length ∧ l1.take k = l2.take k) (fun k => l1.length - k) 0 hsL ⟨Nat.zero_le _, rfl⟩ ?_
  rintro k g ⟨hk, ht⟩
  simp only [sets]
  by_cases hkl : k < l1.length
  · by_cases he : l1.getD k Flat.dflt = l2.getD k Flat.dflt
    · have hn := take_next Flat.dflt hlen hkl ht he
      clear ht
      (repeat' (first | (show VH _ _ _ _ _ _ _; first | refine v_seq ?_ | refine r_seq ?_ | refine v_block ?_ | refine v_skip ?_ | refine v_cond_t rfl tbL ?_) | (show SH _ _ _ _ _ (_ :: _) _ _ _; first | (show SH _ _ _ _ _ (⟨_, .move _, _, _, _, _⟩ :: _) _ _ _; refine mov evL ?_) | (show SH _ _ _ _ _ (⟨_, .binOp .lss _ _ _ _, _, _, _, _⟩ :: _) _ _ _; refine lssT rfl rfl omD ?_) | refine slen rfl ?_) | refine s_nil ?_ | refine kh_normal ?_))
      refine r_quiet hmix (by kernel_rfl) ?_
      (repeat' ((show SH _ _ _ _ _ (_ :: _) _ _ _; first | (show SH _ _ _ _ _ (⟨_, .move _, _, _, _, _⟩ :: _) _ _ _; refine mov evL ?_) | (show SH _ _ _ _ _ (⟨_, .load _ _, _, _, _, _⟩ :: _) _ _ _; first | refine lra rfl (fun _ _ => rdX) (by rfl) omL ?_ | refine lra rfl (fun _ _ => rdX) (by rfl) (by simp only [List.length_cons, List.length_nil]; omega) ?_) | (show SH _ _ _ _ _ (⟨_, .indexAddr _ _ _, _, _, _, _⟩ :: _) _ _ _; refine ix rfl rfl (by with_reducible rfl) (fun _ _ => rdX) (by rfl) omL omL ?_))))
      refine nea (l1.getD k Flat.dflt) (l2.getD k Flat.dflt) rfl rfl ?_
      rw [decide_eq_true he]
      (repeat' (first | (show VH _ _ _ _ _ _ _; first | refine r_seq ?_ | refine v_skip ?_ | refine v_cond_f rfl tbL ?_) | (show SH _ _ _ _ _ (_ :: _) _ _ _; first | (show SH _ _ _ _ _ (⟨_, .move _, _, _, _, _⟩ :: _) _ _ _; refine mov evL ?_) | (show SH _ _ _ _ _ (⟨_, .assign _, _, _, _, _⟩ :: _) _ _ _; refine asg evL ?_) | (show SH _ _ _ _ _ (⟨_, .binOp .add _ _ _ _, _, _, _, _⟩ :: _) _ _ _; refine add rfl rfl inL ?_)) | refine s_nil ?_ | refine kh_normal ?_ | refine bh_normal ?_))
      exact ⟨agL, k + 1, hsL, enL, ⟨hkl, hn⟩, by omega⟩
    · rw [decide_eq_false (take_ne _ he)]
      clear ht
      (repeat' (first | (show VH _ _ _ _ _ _ _; first | refine v_seq ?_ | refine r_seq ?_ | refine v_block ?_ | refine v_skip ?_ | refine v_cond_t rfl tbL ?_) | (show SH _ _ _ _ _ (_ :: _) _ _ _; first | (show SH _ _ _ _ _ (⟨_, .move _, _, _, _, _⟩ :: _) _ _ _; refine mov evL ?_) | (show SH _ _ _ _ _ (⟨_, .binOp .lss _ _ _ _, _, _, _, _⟩ :: _) _ _ _; refine lssT rfl rfl omD ?_) | refine slen rfl ?_) | refine s_nil ?_ | refine kh_normal ?_))
      refine r_quiet hmix (by kernel_rfl) ?_
      (repeat' ((show SH _ _ _ _ _ (_ :: _) _ _ _; first | (show SH _ _ _ _ _ (⟨_, .move _, _, _, _, _⟩ :: _) _ _ _; refine mov evL ?_) | (show SH _ _ _ _ _ (⟨_, .load _ _, _, _, _, _⟩ :: _) _ _ _; first | refine lra rfl (fun _ _ => rdX) (by rfl) omL ?_ | refine lra rfl (fun _ _ => rdX) (by rfl) (by simp only [List.length_cons, List.length_nil]; omega) ?_) | (show SH _ _ _ _ _ (⟨_, .indexAddr _ _ _, _, _, _, _⟩ :: _) _ _ _; refine ix rfl rfl (by with_reducible rfl) (fun _ _ => rdX) (by rfl) omL omL ?_))))
      refine nea (l1.getD k Flat.dflt) (l2.getD k Flat.dflt) rfl rfl ?_
      rw [decide_eq_false he]
      (repeat' (first | (show VH _ _ _ _ _ _ _; first | refine v_seq ?_ | refine r_seq ?_ | refine v_ret ?_ | refine v_cond_t rfl tbL ?_) | (show SH _ _ _ _ _ (_ :: _) _ _ _; (show SH _ _ _ _ _ (⟨_, .assign _, _, _, _, _⟩ :: _) _ _ _; refine asg evL ?_)) | refine s_nil ?_ | refine kh_normal ?_ | refine kh_ret ?_ | refine bh_ret ?_))
      exact rh1 rfl rfl ⟨rfl, rfl⟩ (ent_nil _)
  · have : l1 = l2 := by rw [List.take_of_length_le (by omega), List.take_of_length_le (by omega)] at ht; exact ht
    rw [decide_eq_true this]
    clear ht this
    (repeat' (first | (show VH _ _ _ _ _ _ _; first | refine v_seq ?_ | refine r_seq ?_ | refine v_ret ?_ | refine v_exit ?_ | refine v_cond_f rfl tbL ?_) | (show SH _ _ _ _ _ (_ :: _) _ _ _; first | (show SH _ _ _ _ _ (⟨_, .move _, _, _, _, _⟩ :: _) _ _ _; refine mov evL ?_) | (show SH _ _ _ _ _ (⟨_, .assign _, _, _, _, _⟩ :: _) _ _ _; refine asg evL ?_) | (show SH _ _ _ _ _ (⟨_, .binOp .lss _ _ _ _, _, _, _, _⟩ :: _) _ _ _; refine lssF rfl rfl omD ?_) | refine slen rfl ?_) | refine s_nil ?_ | refine kh_normal ?_ | refine kh_exit ?_ | refine bh_exit ?_))
    exact rh1 rfl rfl ⟨rfl, rfl⟩ (ent_nil _)
set_option maxHeartbeats 1000000 in
set_option maxRecDepth 100000 in
theorem sameEntity_spec (x y : EntP) (w : World) (hr1 : Rd w x.A x.e.comps) (hr2 : Rd w y.A y.e.comps) (hl : x.e.comps.length ≤ 140737488355328) :
    Ret Tryz.prog 68 [.agg (Flat.enc x).toArray, .agg (Flat.enc y).toArray].toArray w (Out w (.bool (decide (x.e = y.e)))) := by
  have hC := fun w' (he : Ext w w') => sameComps_spec x.A y.A x.e.comps y.e.comps x.cp y.cp w' (hr1.ext he) (hr2.ext he) hl
  obtain ⟨⟨i1, l1⟩, A1, c1⟩ := x
  obtain ⟨⟨i2, l2⟩, A2, c2⟩ := y
  simp only at hC ⊢
  rw [show Flat.enc (⟨⟨i1, l1⟩, A1, c1⟩ : EntP) = [.int .i64 i1, .slice A1 l1.length c1] from rfl, show Flat.enc (⟨⟨i2, l2⟩, A2, c2⟩ : EntP) = [.int .i64 i2, .slice A2 l2.length c2] from rfl]
  by_cases hi : i1 = i2
  · have e : decide ((⟨i1, l1⟩ : Ent1) = ⟨i2, l2⟩) = decide (l1 = l2) := decide_eq_decide.2 (by simp [hi])
    rw [e]
    generalize decide (l1 = l2) = q at hC ⊢
    clear hr1 hr2 e
    refine enterH Tryz.func68 rfl rfl Tryz.ntmps68 rfl (Wd.refl _) ?_
    (repeat' (first | (show VH _ _ _ _ _ _ _; first | refine v_seq ?_ | refine r_seq ?_ | refine v_ret ?_) | (show SH _ _ _ _ _ (_ :: _) _ _ _; first | (show SH _ _ _ _ _ (⟨_, _, _, _, _, some _⟩ :: _) _ _ _; (refine gif rfl rfl ?_; refine giTT tbL ?_)) | (show SH _ _ _ _ _ (⟨_, .move _, _, _, _, _⟩ :: _) _ _ _; refine mov evL ?_) | (show SH _ _ _ _ _ (⟨_, .assign _, _, _, _, _⟩ :: _) _ _ _; refine asg evL ?_) | (show SH _ _ _ _ _ (⟨_, .binOp .eql _ _ _ _, _, _, _, _⟩ :: _) _ _ _; refine eqlT rfl rfl omD ?_) | (show SH _ _ _ _ _ (⟨_, .load _ _, _, _, _, _⟩ :: _) _ _ _; refine lbx rfl spL (by rfl) ?_) | (show SH _ _ _ _ _ (⟨_, .call ⟨.value (.func 108), _, _⟩, _, _, _, _⟩ :: _) _ _ _; refine cl (callee := .func 108) rfl (fun w hw => hC _ hw.ext) rfl rfl ?_) | (show SH _ _ _ _ _ (⟨_, .pick _ _ _, _, _, _, _⟩ :: _) _ _ _; refine pkt rfl tbL evL ?_) | refine fad rfl ?_ | (show SH _ _ _ _ _ (⟨_, .box _ _, _, _, _, _⟩ :: _) _ _ _; refine bxx rfl evL rfl (fun b => ?_))) | refine s_nil ?_ | refine kh_normal ?_))
    exact rh1 rfl rfl ⟨rfl, rfl⟩ (ent_nil _)
  · rw [decide_eq_false (fun e => hi (congrArg Ent1.id e))]
    clear hC
    refine enterH Tryz.func68 rfl rfl Tryz.ntmps68 rfl (Wd.refl _) ?_
    (repeat' (first | (show VH _ _ _ _ _ _ _; first | refine v_seq ?_ | refine r_seq ?_ | refine v_ret ?_) | (show SH _ _ _ _ _ (_ :: _) _ _ _; first | (show SH _ _ _ _ _ (⟨_, _, _, _, _, some _⟩ :: _) _ _ _; (refine gif rfl rfl ?_; refine giTF tbL ?_)) | (show SH _ _ _ _ _ (⟨_, .move _, _, _, _, _⟩ :: _) _ _ _; refine mov evL ?_) | (show SH _ _ _ _ _ (⟨_, .assign _, _, _, _, _⟩ :: _) _ _ _; refine asg evL ?_) | (show SH _ _ _ _ _ (⟨_, .binOp .eql _ _ _ _, _, _, _, _⟩ :: _) _ _ _; refine eqlF rfl rfl omD ?_) | (show SH _ _ _ _ _ (⟨_, .load _ _, _, _, _, _⟩ :: _) _ _ _; refine lbx rfl spL (by rfl) ?_) | (show SH _ _ _ _ _ (⟨_, .pick _ _ _, _, _, _, _⟩ :: _) _ _ _; refine pkf rfl tbL evL ?_) | refine fad rfl ?_ | (show SH _ _ _ _ _ (⟨_, .box _ _, _, _, _, _⟩ :: _) _ _ _; refine bxx rfl evL rfl (fun b => ?_))) | refine s_nil ?_ | refine kh_normal ?_))
    exact rh1 rfl rfl ⟨rfl, rfl⟩ (ent_nil _)
theorem ents_at (l : List EntP) {k : Nat} (hk : k < l.length) : (ents l).getD k ⟨0, []⟩ = (l.getD k Flat.dflt).e := by
  simp [ents, List.getD_eq_getElem?_getD, hk]
set_option maxHeartbeats 1000000 in
set_option maxRecDepth 100000 in
theorem sameEntities_spec (A1 A2 : Option Addr) (l1 l2 : List EntP) (c1 c2 : Nat) (w : World) (hr1 : RdW w A1 l1) (hr2 : RdW w A2 l2) (hs : Sz l1) :
    Ret Tryz.prog 42 [.slice A1 l1.length c1, .slice A2 l2.length c2].toArray w (Out w (.bool (decide (ents l1 = ents l2)))) := by
  have hl := hs.len
  by_cases hlen : l1.length = l2.length
  case neg =>
    rw [decide_eq_false (fun e => hlen (by rw [← ents_len l1, ← ents_len l2, e]))]
    refine enterH Tryz.func42 rfl rfl Tryz.ntmps42 rfl (Wd.refl _) ?_
    (repeat' (first | (show VH _ _ _ _ _ _ _; first | refine v_seq ?_ | refine r_seq ?_ | refine v_ret ?_ | refine v_cond_t rfl tbL ?_) | (show SH _ _ _ _ _ (_ :: _) _ _ _; first | (show SH _ _ _ _ _ (⟨_, .move _, _, _, _, _⟩ :: _) _ _ _; refine mov evL ?_) | (show SH _ _ _ _ _ (⟨_, .assign _, _, _, _, _⟩ :: _) _ _ _; refine asg evL ?_) | (show SH _ _ _ _ _ (⟨_, .binOp .neq _ _ _ _, _, _, _, _⟩ :: _) _ _ _; refine neqT rfl rfl omD ?_) | refine slen rfl ?_) | refine s_nil ?_ | refine kh_normal ?_ | refine kh_ret ?_))
    exact rh1 rfl rfl ⟨rfl, rfl⟩ (ent_nil _)
  have hrd1 := hr1.1
  have hrd2 := hr2.1
  refine enterH Tryz.func42 rfl rfl Tryz.ntmps42 rfl (Wd.refl _) ?_
  (repeat' (first | (show VH _ _ _ _ _ _ _; first | refine v_seq ?_ | refine r_seq ?_ | refine v_block ?_ | refine v_skip ?_ | refine v_cond_f rfl tbL ?_) | (show SH _ _ _ _ _ (_ :: _) _ _ _; first | (show SH _ _ _ _ _ (⟨_, .move _, _, _, _, _⟩ :: _) _ _ _; refine mov evL ?_) | (show SH _ _ _ _ _ (⟨_, .assign _, _, _, _, _⟩ :: _) _ _ _; refine asg evL ?_) | (show SH _ _ _ _ _ (⟨_, .binOp .neq _ _ _ _, _, _, _, _⟩ :: _) _ _ _; refine neqF rfl rfl omD ?_) | refine slen rfl ?_) | refine s_nil ?_ | refine kh_normal ?_))
  refine v_loop0 [(4,5),(11,26)] (fun k : Nat => [(5, .int .i64 k)]) (fun k => k ≤ l1.length ∧ (ents l1).take k = (ents l2).take k) (fun k => l1.length - k) 0 hsL ⟨Nat.zero_le _, rfl⟩ ?_
  rintro k g ⟨hk, ht⟩
  simp only [sets]
  by_cases hkl : k < l1.length
  · have hx := getD_mem (d := Flat.dflt) hkl
    have hy := getD_mem (d := Flat.dflt) (show k < l2.length by omega)
    have hC := fun w' (he : Ext w w') => sameEntity_spec (l1.getD k Flat.dflt) (l2.getD k Flat.dflt) w' ((hr1.2 _ hx).ext he) ((hr2.2 _ hy).ext he) (hs.el _ hx)
    by_cases he : (l1.getD k Flat.dflt).e = (l2.getD k Flat.dflt).e
    · have hn : (ents l1).take (k + 1) = (ents l2).take (k + 1) := take_next ⟨0, []⟩ (by rw [ents_len, ents_len]; exact hlen) (by rw [ents_len]; exact hkl) ht (by rw [ents_at l1 hkl, ents_at l2 (by omega)]; exact he)
      rw [decide_eq_true he] at hC
      clear ht he hx hy
      (repeat' (first | (show VH _ _ _ _ _ _ _; first | refine v_seq ?_ | refine r_seq ?_ | refine r_quiet hmix (by kernel_rfl) ?_ | refine v_block ?_ | refine v_skip ?_ | refine v_cond_t rfl tbL ?_ | refine v_cond_f rfl tbL ?_) | (show SH _ _ _ _ _ (_ :: _) _ _ _; first | (show SH _ _ _ _ _ (⟨_, .move _, _, _, _, _⟩ :: _) _ _ _; refine mov evL ?_) | (show SH _ _ _ _ _ (⟨_, .assign _, _, _, _, _⟩ :: _) _ _ _; refine asg evL ?_) | (show SH _ _ _ _ _ (⟨_, .binOp .lss _ _ _ _, _, _, _, _⟩ :: _) _ _ _; refine lssT rfl rfl omD ?_) | (show SH _ _ _ _ _ (⟨_, .binOp .add _ _ _ _, _, _, _, _⟩ :: _) _ _ _; refine add rfl rfl inL ?_) | (show SH _ _ _ _ _ (⟨_, .load _ _, _, _, _, _⟩ :: _) _ _ _; first | refine lra rfl (fun _ _ => rdX) (by rfl) omL ?_ | refine lra rfl (fun _ _ => rdX) (by rfl) (by simp only [List.length_cons, List.length_nil]; omega) ?_) | (show SH _ _ _ _ _ (⟨_, .indexAddr _ _ _, _, _, _, _⟩ :: _) _ _ _; refine ix rfl rfl (by with_reducible rfl) (fun _ _ => rdX) (by rfl) omL omL ?_) | refine slen rfl ?_ | (show SH _ _ _ _ _ (⟨_, .call ⟨.value (.func 68), _, _⟩, _, _, _, _⟩ :: _) _ _ _; refine cl (callee := .func 68) rfl (fun w hw => hC _ hw.ext) rfl rfl ?_) | refine bnoT rfl ?_) | refine s_nil ?_ | refine kh_normal ?_ | refine bh_normal ?_))
      exact ⟨agL, k + 1, hsL, enL, ⟨hkl, hn⟩, by omega⟩
    · have hne : ents l1 ≠ ents l2 := fun e => he (by rw [← ents_at l1 hkl, ← ents_at l2 (by omega), e])
      rw [decide_eq_false hne]
      rw [decide_eq_false he] at hC
      clear ht he hx hy hne
      (repeat' (first | (show VH _ _ _ _ _ _ _; first | refine v_seq ?_ | refine r_seq ?_ | refine r_quiet hmix (by kernel_rfl) ?_ | refine v_block ?_ | refine v_ret ?_ | refine v_skip ?_ | refine v_cond_t rfl tbL ?_) | (show SH _ _ _ _ _ (_ :: _) _ _ _; first | (show SH _ _ _ _ _ (⟨_, .move _, _, _, _, _⟩ :: _) _ _ _; refine mov evL ?_) | (show SH _ _ _ _ _ (⟨_, .assign _, _, _, _, _⟩ :: _) _ _ _; refine asg evL ?_) | (show SH _ _ _ _ _ (⟨_, .binOp .lss _ _ _ _, _, _, _, _⟩ :: _) _ _ _; refine lssT rfl rfl omD ?_) | (show SH _ _ _ _ _ (⟨_, .load _ _, _, _, _, _⟩ :: _) _ _ _; first | refine lra rfl (fun _ _ => rdX) (by rfl) omL ?_ | refine lra rfl (fun _ _ => rdX) (by rfl) (by simp only [List.length_cons, List.length_nil]; omega) ?_) | (show SH _ _ _ _ _ (⟨_, .indexAddr _ _ _, _, _, _, _⟩ :: _) _ _ _; refine ix rfl rfl (by with_reducible rfl) (fun _ _ => rdX) (by rfl) omL omL ?_) | refine slen rfl ?_ | (show SH _ _ _ _ _ (⟨_, .call ⟨.value (.func 68), _, _⟩, _, _, _, _⟩ :: _) _ _ _; refine cl (callee := .func 68) rfl (fun w hw => hC _ hw.ext) rfl rfl ?_) | refine bnoF rfl ?_) | refine s_nil ?_ | refine kh_normal ?_ | refine kh_ret ?_ | refine bh_ret ?_))
      exact rh1 rfl rfl ⟨rfl, rfl⟩ (ent_nil _)
  · have : ents l1 = ents l2 := by rw [List.take_of_length_le (by rw [ents_len]; omega), List.take_of_length_le (by rw [ents_len]; omega)] at ht; exact ht
    rw [decide_eq_true this]
    clear ht this
    (repeat' (first | (show VH _ _ _ _ _ _ _; first | refine v_seq ?_ | refine r_seq ?_ | refine v_ret ?_ | refine v_exit ?_ | refine v_cond_f rfl tbL ?_) | (show SH _ _ _ _ _ (_ :: _) _ _ _; first | (show SH _ _ _ _ _ (⟨_, .move _, _, _, _, _⟩ :: _) _ _ _; refine mov evL ?_) | (show SH _ _ _ _ _ (⟨_, .assign _, _, _, _, _⟩ :: _) _ _ _; refine asg evL ?_) | (show SH _ _ _ _ _ (⟨_, .binOp .lss _ _ _ _, _, _, _, _⟩ :: _) _ _ _; refine lssF rfl rfl omD ?_) | refine slen rfl ?_) | refine s_nil ?_ | refine kh_normal ?_ | refine kh_exit ?_ | refine bh_exit ?_))
    exact rh1 rfl rfl ⟨rfl, rfl⟩ (ent_nil _)
set_option maxHeartbeats 1000000 in
set_option maxRecDepth 100000 in
theorem sameWorld_spec (t1 t2 : Int) (A1 A2 : Option Addr) (l1 l2 : List EntP) (c1 c2 : Nat) (w : World) (hr1 : RdW w A1 l1) (hr2 : RdW w A2 l2) (hs : Sz l1) :
    Ret Tryz.prog 24 [wv t1 A1 l1 c1, wv t2 A2 l2 c2].toArray w (Out w (.bool (decide (t1 = t2 ∧ ents l1 = ents l2)))) := by
  have hC := fun w' (he : Ext w w') => sameEntities_spec A1 A2 l1 l2 c1 c2 w' (hr1.ext he) (hr2.ext he) hs
  unfold wv
  by_cases hi : t1 = t2
  · have e : decide (t1 = t2 ∧ ents l1 = ents l2) = decide (ents l1 = ents l2) := decide_eq_decide.2 (by simp [hi])
    rw [e]
    generalize decide (ents l1 = ents l2) = q at hC ⊢
    clear e hr1 hr2
    refine enterH Tryz.func24 rfl rfl Tryz.ntmps24 rfl (Wd.refl _) ?_
    (repeat' (first | (show VH _ _ _ _ _ _ _; first | refine v_seq ?_ | refine r_seq ?_ | refine v_ret ?_) | (show SH _ _ _ _ _ (_ :: _) _ _ _; first | (show SH _ _ _ _ _ (⟨_, _, _, _, _, some _⟩ :: _) _ _ _; (refine gif rfl rfl ?_; refine giTT tbL ?_)) | (show SH _ _ _ _ _ (⟨_, .move _, _, _, _, _⟩ :: _) _ _ _; refine mov evL ?_) | (show SH _ _ _ _ _ (⟨_, .assign _, _, _, _, _⟩ :: _) _ _ _; refine asg evL ?_) | (show SH _ _ _ _ _ (⟨_, .binOp .eql _ _ _ _, _, _, _, _⟩ :: _) _ _ _; refine eqlT rfl rfl omD ?_) | (show SH _ _ _ _ _ (⟨_, .load _ _, _, _, _, _⟩ :: _) _ _ _; refine lbx rfl spL (by rfl) ?_) | (show SH _ _ _ _ _ (⟨_, .call ⟨.value (.func 42), _, _⟩, _, _, _, _⟩ :: _) _ _ _; refine cl (callee := .func 42) rfl (fun w hw => hC _ hw.ext) rfl rfl ?_) | (show SH _ _ _ _ _ (⟨_, .pick _ _ _, _, _, _, _⟩ :: _) _ _ _; refine pkt rfl tbL evL ?_) | refine fad rfl ?_ | (show SH _ _ _ _ _ (⟨_, .box _ _, _, _, _, _⟩ :: _) _ _ _; refine bxx rfl evL rfl (fun b => ?_))) | refine s_nil ?_ | refine kh_normal ?_))
    exact rh1 rfl rfl ⟨rfl, rfl⟩ (ent_nil _)
  · rw [decide_eq_false (fun e => hi e.1)]
    clear hC hr1 hr2
    refine enterH Tryz.func24 rfl rfl Tryz.ntmps24 rfl (Wd.refl _) ?_
    (repeat' (first | (show VH _ _ _ _ _ _ _; first | refine v_seq ?_ | refine r_seq ?_ | refine v_ret ?_) | (show SH _ _ _ _ _ (_ :: _) _ _ _; first | (show SH _ _ _ _ _ (⟨_, _, _, _, _, some _⟩ :: _) _ _ _; (refine gif rfl rfl ?_; refine giTF tbL ?_)) | (show SH _ _ _ _ _ (⟨_, .move _, _, _, _, _⟩ :: _) _ _ _; refine mov evL ?_) | (show SH _ _ _ _ _ (⟨_, .assign _, _, _, _, _⟩ :: _) _ _ _; refine asg evL ?_) | (show SH _ _ _ _ _ (⟨_, .binOp .eql _ _ _ _, _, _, _, _⟩ :: _) _ _ _; refine eqlF rfl rfl omD ?_) | (show SH _ _ _ _ _ (⟨_, .load _ _, _, _, _, _⟩ :: _) _ _ _; refine lbx rfl spL (by rfl) ?_) | (show SH _ _ _ _ _ (⟨_, .pick _ _ _, _, _, _, _⟩ :: _) _ _ _; refine pkf rfl tbL evL ?_) | refine fad rfl ?_ | (show SH _ _ _ _ _ (⟨_, .box _ _, _, _, _, _⟩ :: _) _ _ _; refine bxx rfl evL rfl (fun b => ?_))) | refine s_nil ?_ | refine kh_normal ?_))
    exact rh1 rfl rfl ⟨rfl, rfl⟩ (ent_nil _)
set_option maxHeartbeats 1000000 in
set_option maxRecDepth 100000 in
theorem copyComps_spec (A : Option Addr) (l : List Comp) (c1 : Nat) (w : World) (hl : l.length ≤ 1000000) (hr : Rd w A l) :
    Ret Tryz.prog 92 [.slice A l.length c1].toArray w (RP w (Fresh 37 l)) := by
  refine enterH Tryz.func92 rfl rfl Tryz.ntmps92 rfl (Wd.refl _) ?_
  (repeat' ((fail_if_success (show VH _ _ (.seq (.region 2 _ _) _) _ _ _ _)); first | (show VH _ _ _ _ _ _ _; first | refine v_seq ?_ | refine r_seq ?_) | (show SH _ _ _ _ _ (_ :: _) _ _ _; (show SH _ _ _ _ _ (⟨_, .assign _, _, _, _, _⟩ :: _) _ _ _; refine asg evL ?_)) | refine s_nil ?_ | refine kh_normal ?_))
  refine VH.ent (G := [orow 37 none 0 ([] : List Comp)]) ?_ (ent_nilrow (ent_nil _))
  (repeat' (first | (show VH _ _ _ _ _ _ _; first | refine v_seq ?_ | refine r_seq ?_) | (show SH _ _ _ _ _ (_ :: _) _ _ _; (show SH _ _ _ _ _ (⟨_, .move _, _, _, _, _⟩ :: _) _ _ _; refine mov evL ?_))))
  refine app (l := ([] : List Comp)) (l2 := l) rfl rfl rfl spL (fun _ _ => rdX) rfl rfl rfl (by simp only [List.length_nil]; omega) (by simp only [List.length_nil]; omega) (fun A' cp' => ⟨trivial, ?_⟩)
  (repeat' (first | refine v_ret ?_ | (show SH _ _ _ _ _ (_ :: _) _ _ _; (show SH _ _ _ _ _ (⟨_, .assign _, _, _, _, _⟩ :: _) _ _ _; refine asg evL ?_)) | refine s_nil ?_ | refine kh_normal ?_))
  exact rh1 rfl rfl ⟨A', cp', rfl, rfl⟩ enL
set_option maxHeartbeats 1000000 in
set_option maxRecDepth 100000 in
theorem copyEntity_spec (x : EntP) (w : World) (hl : x.e.comps.length ≤ 1000000) (hr : Rd w x.A x.e.comps) : Ret Tryz.prog 48 [.agg (Flat.enc x).toArray].toArray w (RP w (OwnR x.e)) := by
  have hC := fun w' (he : Ext w w') => copyComps_spec x.A x.e.comps x.cp w' hl (hr.ext he)
  obtain ⟨⟨ei, cs⟩, A, c1⟩ := x
  unfold OwnR
  try simp only at hC hr hl ⊢
  rw [show Flat.enc (⟨⟨ei, cs⟩, A, c1⟩ : EntP) = [.int .i64 ei, .slice A cs.length c1] from rfl] at *
  refine enterH Tryz.func48 rfl rfl Tryz.ntmps48 rfl (Wd.refl _) ?_
  (repeat' (first | (show VH _ _ _ _ _ _ _; first | refine v_seq ?_ | refine r_seq ?_) | (show SH _ _ _ _ _ (_ :: _) _ _ _; first | (show SH _ _ _ _ _ (⟨_, .load _ _, _, _, _, _⟩ :: _) _ _ _; refine lbx rfl spL (by rfl) ?_) | (show SH _ _ _ _ _ (⟨_, .call ⟨.value (.func 92), _, _⟩, _, _, _, _⟩ :: _) _ _ _; refine cp (callee := .func 92) rfl (fun w hw => hC _ hw.ext) rfl rfl ?_) | refine fad rfl ?_ | refine ala rfl (fun b => ?_) | (show SH _ _ _ _ _ (⟨_, .box _ _, _, _, _, _⟩ :: _) _ _ _; refine bxx rfl evL rfl (fun b => ?_))) | refine s_nil ?_ | refine kh_normal ?_))
  rintro _ _ ⟨A1, c2, rfl, rfl⟩
  (repeat' (first | (show VH _ _ _ _ _ _ _; first | refine v_seq ?_ | refine r_seq ?_ | refine v_ret ?_) | (show SH _ _ _ _ _ (_ :: _) _ _ _; first | (show SH _ _ _ _ _ (⟨_, .load _ _, _, _, _, _⟩ :: _) _ _ _; refine lba rfl spL (by rfl) ?_) | refine fad rfl ?_ | (show SH _ _ _ _ _ (⟨_, .store _ _ _, _, _, _, _⟩ :: _) _ _ _; first | refine stb rfl rfl evL spL rfl rfl (by first | decide | exact Nat.zero_lt_succ _ | exact of_decide_eq_true rfl) kpL ?_ | refine sta rfl rfl rfl spL (by rfl) (by rfl) (by rfl) kpL ?_)) | refine s_nil ?_ | refine kh_normal ?_))
  exact rhC rfl rfl rfl (fun w hw => loadVar_bx hw spL (by rfl)) ⟨A1, c2, rfl, rfl⟩ enL
set_option maxHeartbeats 2000000 in
set_option maxRecDepth 100000 in
theorem copyEntities_spec (A : Option Addr) (l : List EntP) (c1 : Nat) (w : World) (hl : l.length ≤ 1000000) (hse : ∀ x ∈ l, x.e.comps.length ≤ 1000000) (hr : RdW w A l) :
    Ret Tryz.prog 29 [.slice A l.length c1].toArray w (RP w fun v H' => ∃ A' c' L, v = .slice A' L.length c' ∧ L.map EntP.e = ents l ∧ H' = [orow 31 A' c' L, allH (L.map rowOf)]) := by
  have hrd := hr.1
  refine enterH Tryz.func29 rfl rfl Tryz.ntmps29 rfl (Wd.refl _) ?_
  (repeat' (first | (show VH _ _ _ _ _ _ _; first | refine v_seq ?_ | refine r_seq ?_ | refine v_block ?_) | (show SH _ _ _ _ _ (_ :: _) _ _ _; (show SH _ _ _ _ _ (⟨_, .assign _, _, _, _, _⟩ :: _) _ _ _; refine asg evL ?_)) | refine s_nil ?_ | refine kh_normal ?_))
  refine v_loop [(3,20)] (fun s : Nat × (Option Addr × Nat) × List EntP => [(4, .int .i64 s.1), (3, .slice s.2.1.1 s.2.2.length s.2.1.2)]) (fun s => [orow 31 s.2.1.1 s.2.1.2 s.2.2, allH (s.2.2.map rowOf)]) (fun s => s.1 ≤ l.length ∧ s.2.2.map EntP.e = ents (l.take s.1)) (fun s => l.length - s.1) (0, (none, 0), []) hsL (ent_nilrow (ent_all_nil (ent_nil _))) ⟨Nat.zero_le _, rfl⟩ ?_
  rintro ⟨k, ⟨A1, c2⟩, L⟩ g ⟨hk, hL⟩
  simp only [sets]
  simp only at hk hL
  have hlen : L.length = k := by
    have h1 := congrArg List.length hL
    rw [List.length_map, ents_len, List.length_take] at h1; omega
  by_cases hkl : k < l.length
  · have hx := getD_mem (d := Flat.dflt) hkl
    have hC := fun w' (he : Ext w w') => copyEntity_spec (l.getD k Flat.dflt) w' (hse _ hx) ((hr.2 _ hx).ext he)
    unfold OwnR at hC
    have hn : ents (l.take (k + 1)) = ents (l.take k) ++ [(l.getD k Flat.dflt).e] := by
      unfold ents
      rw [take_snoc (d := Flat.dflt) hkl, List.map_append]; rfl
    rw [← hL] at hn
    generalize hy : (l.getD k Flat.dflt).e = yk at hC hn
    clear hx hL
    (repeat' (first | (show VH _ _ _ _ _ _ _; first | refine v_seq ?_ | refine r_seq ?_ | refine v_block ?_ | refine v_skip ?_ | refine v_cond_t rfl tbL ?_) | (show SH _ _ _ _ _ (_ :: _) _ _ _; first | (show SH _ _ _ _ _ (⟨_, .move _, _, _, _, _⟩ :: _) _ _ _; refine mov evL ?_) | (show SH _ _ _ _ _ (⟨_, .binOp .lss _ _ _ _, _, _, _, _⟩ :: _) _ _ _; refine lssT rfl rfl omD ?_) | (show SH _ _ _ _ _ (⟨_, .load _ _, _, _, _, _⟩ :: _) _ _ _; first | refine lra rfl (fun _ _ => rdX) (by rfl) omL ?_ | refine lra rfl (fun _ _ => rdX) (by rfl) (by simp only [List.length_cons, List.length_nil]; omega) ?_) | (show SH _ _ _ _ _ (⟨_, .indexAddr _ _ _, _, _, _, _⟩ :: _) _ _ _; refine ix rfl rfl (by with_reducible rfl) (fun _ _ => rdX) (by rfl) omL omL ?_) | refine slen rfl ?_ | (show SH _ _ _ _ _ (⟨_, .call ⟨.value (.func 48), _, _⟩, _, _, _, _⟩ :: _) _ _ _; refine cp (callee := .func 48) rfl (fun w hw => hC _ hw.ext) rfl rfl ?_)) | refine s_nil ?_ | refine kh_normal ?_))
    rintro _ _ ⟨A3, c3, rfl, rfl⟩
    (repeat' (first | refine r_seq ?_ | (show SH _ _ _ _ _ (_ :: _) _ _ _; first | (show SH _ _ _ _ _ (⟨_, .move _, _, _, _, _⟩ :: _) _ _ _; refine mov evL ?_) | (show SH _ _ _ _ _ (⟨_, .load _ _, _, _, _, _⟩ :: _) _ _ _; refine lba rfl spL (by rfl) ?_) | refine ala rfl (fun b => ?_) | (show SH _ _ _ _ _ (⟨_, .store _ _ _, _, _, _, _⟩ :: _) _ _ _; refine sta rfl rfl rfl spL (by rfl) (by rfl) (by rfl) kpL ?_)) | refine s_nil ?_ | refine kh_normal ?_))
    refine bsl (l := [(⟨yk, A3, c3⟩ : EntP)]) rfl rfl (Vals.cons rfl Vals.nil) rfl rfl (by decide) (fun b9 => ?_)
    (repeat' (first | (show VH _ _ _ _ _ _ _; first | refine v_seq ?_ | refine r_seq ?_ | refine r_quiet hmix (by kernel_rfl) ?_ | refine v_block ?_ | refine v_ret ?_ | refine v_skip ?_ | refine v_exit ?_ | refine v_label ?_ | refine v_cond_t rfl tbL ?_ | refine v_cond_f rfl tbL ?_ | refine v_cond_dec rfl (fun h => ?_) (fun h => ?_) | refine v_cond_ndec rfl (fun h => ?_) (fun h => ?_) | refine v_cond rfl (fun h => ?_) (fun h => ?_)) | (show SH _ _ _ _ _ (_ :: _) _ _ _; first | (show SH _ _ _ _ _ (⟨_, .move _, _, _, _, _⟩ :: _) _ _ _; refine mov evL ?_) | (show SH _ _ _ _ _ (⟨_, .assign _, _, _, _, _⟩ :: _) _ _ _; refine asg evL ?_) | (show SH _ _ _ _ _ (⟨_, .binOp .lss _ _ _ _, _, _, _, _⟩ :: _) _ _ _; first | refine lssT rfl rfl omD ?_ | refine lssF rfl rfl omD ?_ | refine lss rfl rfl ?_) | (show SH _ _ _ _ _ (⟨_, .binOp .add _ _ _ _, _, _, _, _⟩ :: _) _ _ _; refine add rfl rfl inL ?_) | (show SH _ _ _ _ _ (⟨_, .load _ _, _, _, _, _⟩ :: _) _ _ _; first | refine lin rfl (fun _ _ => rdX) omL ?_ | refine lbx rfl spL (by rfl) ?_ | refine lba rfl spL (by rfl) ?_ | refine lbi rfl spL omL ?_ | refine lr1 rfl (fun _ _ => rdX) (by rfl) omL (by rfl) ?_ | refine lra rfl (fun _ _ => rdX) (by rfl) omL ?_ | refine lrf rfl (fun _ _ => rdX) (by rfl) omL (by rfl) ?_ | refine lcell rfl (fun w hw => hw.ext.cell (by assumption)) ?_ | refine lrs rfl (fun _ _ => rdX) (by rfl) omL (by rfl) (by rfl) ?_ | refine lbs rfl spL (by rfl) (by rfl) ?_ | refine lca rfl (fun _ _ => rdX) (by rfl) ?_ | refine lcs rfl (fun _ _ => rdX) (by rfl) ?_ | refine lcf rfl (fun _ _ => rdX) (by rfl) ?_ | refine lrf rfl (fun _ _ => rdX) (by rfl) (by simp only [List.length_cons, List.length_nil]; omega) (by rfl) ?_ | refine lra rfl (fun _ _ => rdX) (by rfl) (by simp only [List.length_cons, List.length_nil]; omega) ?_) | (show SH _ _ _ _ _ (⟨_, .indexAddr _ _ _, _, _, _, _⟩ :: _) _ _ _; first | refine ix rfl rfl (by with_reducible rfl) (fun _ _ => rdX) (by rfl) omL omL ?_ | refine ixi rfl rfl (fun _ _ => rdX) (by rfl) omL omL omL ?_ | refine ixb rfl rfl omL ?_ | refine ixq rfl rfl (by assumption) omL omL ?_ | refine ixA _ rfl rfl rfl omL ?_ | refine ixi rfl rfl (fun _ _ => rdX) (by rfl) omL (by first | omega | (simp only [List.length_cons, List.length_nil]; omega)) (by simp only [List.length_cons, List.length_nil]; omega) ?_) | refine slen rfl ?_ | (show SH _ _ _ _ _ (⟨_, .alloc _, _, _, _, _⟩ :: _) _ _ _; first | refine al1 rfl (fun b => ?_) | refine ala rfl (fun b => ?_)) | (show SH _ _ _ _ _ (⟨_, .store _ _ _, _, _, _, _⟩ :: _) _ _ _; first | refine stb rfl rfl evL spL rfl rfl (by first | decide | exact Nat.zero_lt_succ _ | exact of_decide_eq_true rfl) kpL ?_ | refine sta rfl rfl rfl spL (by rfl) (by rfl) (by rfl) kpL ?_ | refine sti rfl rfl rfl spL omL kpL ?_ | refine sbi rfl rfl rfl spL omL kpL ?_ | refine sbs rfl rfl evL spL (by rfl) (by rfl) (of_decide_eq_true rfl) kpL ?_) | (show SH _ _ _ _ _ (⟨_, .buildSlice _ _ _, _, _, _, _⟩ :: _) _ _ _; refine bsl (α := Int) rfl rfl (by repeat (first | exact Vals.nil | (apply Vals.cons; rfl))) rfl (by rfl) (by decide) (fun b => ?_))) | refine s_nil ?_ | refine s_fork ?_ ?_ | refine s_fork3 ?_ ?_ ?_ | refine s_fork4 ?_ ?_ ?_ ?_ | refine kh_normal ?_ | refine kh_ret ?_ | refine kh_exit ?_ | refine bh_normal ?_ | refine bh_ret ?_ | refine bh_exit ?_ | refine bh_exit_ne rfl ?_))
    refine app (l := L) (l2 := [(⟨yk, A3, c3⟩ : EntP)]) rfl rfl rfl spL (fun w hw => hw.rd spL) rfl rfl rfl (by simp only [List.length_cons, List.length_nil]; omega) (by simp only [List.length_cons, List.length_nil]; omega) (fun A4 c4 => ⟨enL, ?_⟩)
    (repeat' (first | refine r_seq ?_ | (show SH _ _ _ _ _ (_ :: _) _ _ _; first | (show SH _ _ _ _ _ (⟨_, .move _, _, _, _, _⟩ :: _) _ _ _; refine mov evL ?_) | (show SH _ _ _ _ _ (⟨_, .assign _, _, _, _, _⟩ :: _) _ _ _; refine asg evL ?_) | (show SH _ _ _ _ _ (⟨_, .binOp .add _ _ _ _, _, _, _, _⟩ :: _) _ _ _; refine add rfl rfl inL ?_)) | refine s_nil ?_ | refine kh_normal ?_ | refine bh_normal ?_))
    refine ⟨agL, (k + 1, (A4, c4), L ++ [⟨yk, A3, c3⟩]), hsL, ?_, ⟨hkl, by rw [hn]; exact map_snoc_e _ _⟩, by show _ - (k + 1) < _ - k; omega⟩
    exact Ent.trans (B := [orow 31 A4 c4 (L ++ [⟨yk, A3, c3⟩]), orow 37 A3 c3 yk.comps, allH (L.map rowOf)]) enL (ent_cons Split.head (ent_all_snoc (f := rowOf) (x := ⟨yk, A3, c3⟩)))
  · have hke : k = l.length := by omega
    rw [hke, List.take_length] at hL
    clear hke
    (repeat' (first | (show VH _ _ _ _ _ _ _; first | refine v_seq ?_ | refine r_seq ?_ | refine v_ret ?_ | refine v_exit ?_ | refine v_cond_f rfl tbL ?_) | (show SH _ _ _ _ _ (_ :: _) _ _ _; first | (show SH _ _ _ _ _ (⟨_, .move _, _, _, _, _⟩ :: _) _ _ _; refine mov evL ?_) | (show SH _ _ _ _ _ (⟨_, .assign _, _, _, _, _⟩ :: _) _ _ _; refine asg evL ?_) | (show SH _ _ _ _ _ (⟨_, .binOp .lss _ _ _ _, _, _, _, _⟩ :: _) _ _ _; refine lssF rfl rfl omD ?_) | refine slen rfl ?_) | refine s_nil ?_ | refine kh_normal ?_ | refine kh_exit ?_ | refine bh_exit ?_))
    exact rh1 rfl rfl ⟨A1, c2, L, rfl, hL, rfl⟩ enL
/-- A world in memory of its own, that is as es. -/
def WorldR (t : Int) (es : List Ent1) (v : Value) (H : List HP) : Prop := ∃ A c L, v = wv t A L c ∧ L.map EntP.e = es ∧ H = [orow 31 A c L, allH (L.map rowOf)]
set_option maxHeartbeats 1000000 in
set_option maxRecDepth 100000 in
theorem copyWorld_spec (t : Int) (A : Option Addr) (l : List EntP) (c1 : Nat) (w : World) (hl : l.length ≤ 1000000) (hse : ∀ x ∈ l, x.e.comps.length ≤ 1000000) (hr : RdW w A l) : Ret Tryz.prog 9 [wv t A l c1].toArray w (RP w (WorldR t (ents l))) := by
  have hC := fun w' (he : Ext w w') => copyEntities_spec A l c1 w' hl hse (hr.ext he)
  unfold WorldR
  unfold wv
  clear hr
  refine enterH Tryz.func9 rfl rfl Tryz.ntmps9 rfl (Wd.refl _) ?_
  (repeat' (first | (show VH _ _ _ _ _ _ _; first | refine v_seq ?_ | refine r_seq ?_) | (show SH _ _ _ _ _ (_ :: _) _ _ _; first | (show SH _ _ _ _ _ (⟨_, .load _ _, _, _, _, _⟩ :: _) _ _ _; refine lbx rfl spL (by rfl) ?_) | (show SH _ _ _ _ _ (⟨_, .call ⟨.value (.func 29), _, _⟩, _, _, _, _⟩ :: _) _ _ _; refine cp (callee := .func 29) rfl (fun w hw => hC _ hw.ext) rfl rfl ?_) | refine fad rfl ?_ | refine ala rfl (fun b => ?_) | (show SH _ _ _ _ _ (⟨_, .box _ _, _, _, _, _⟩ :: _) _ _ _; refine bxx rfl evL rfl (fun b => ?_))) | refine s_nil ?_ | refine kh_normal ?_))
  rintro _ _ ⟨A1, c2, L, rfl, hL, rfl⟩
  (repeat' (first | (show VH _ _ _ _ _ _ _; first | refine v_seq ?_ | refine r_seq ?_ | refine v_ret ?_) | (show SH _ _ _ _ _ (_ :: _) _ _ _; first | (show SH _ _ _ _ _ (⟨_, .load _ _, _, _, _, _⟩ :: _) _ _ _; refine lba rfl spL (by rfl) ?_) | refine fad rfl ?_ | (show SH _ _ _ _ _ (⟨_, .store _ _ _, _, _, _, _⟩ :: _) _ _ _; first | refine stb rfl rfl evL spL rfl rfl (by first | decide | exact Nat.zero_lt_succ _ | exact of_decide_eq_true rfl) kpL ?_ | refine sta rfl rfl rfl spL (by rfl) (by rfl) (by rfl) kpL ?_)) | refine s_nil ?_ | refine kh_normal ?_))
  exact rhC rfl rfl rfl (fun w hw => loadVar_bx hw spL (by rfl)) ⟨A1, c2, L, rfl, hL, rfl⟩ enL
end Go.Proofs.YtjefoecnciepmaaGreatDoor

/- The law's package of layer 24: lists, components, worlds that are made. -/
namespace Go.Proofs.YtjefoecnciepmaaGreatDoor
open Go.Fw Go.RowKit
theorem find_at {α : Type} (d : α) (p : α → Bool) : ∀ (l : List α) (k : Nat), (∀ q, q < k → p (l.getD q d) = false) → k < l.length → p (l.getD k d) = true → l.find? p = some (l.getD k d)
  | [], k, _, h, _ => by simp at h
  | x :: l, 0, _, _, h => List.find?_cons_of_pos h
  | x :: l, k + 1, h1, h2, h3 => by
    have hx : p x = false := h1 0 (by omega)
    rw [List.find?_cons_of_neg (by rw [hx]; simp)]
    exact find_at d p l k (fun q hq => h1 (q + 1) (by omega)) (by simpa using h2) h3
theorem find_no {α : Type} (d : α) (p : α → Bool) (l : List α) (h : ∀ q, q < l.length → p (l.getD q d) = false) : l.find? p = none := by
  rw [List.find?_eq_none]
  intro x hx
  obtain ⟨i, hi, rfl⟩ := getD_of_mem d hx
  rw [h i hi]; simp
def compD : Option Comp → Comp
  | some c => c
  | none => ⟨0, 0, 0, 0, 0⟩
section
variable {md : Md} {n : Nat} {Q : HQ} {f : Fr} {w0 : World} {H R : List HP} {ops : Array Oper} {rest : List Oper} {d : Nat} {ty : TypeId} {pos : String} {aft : Array Edge} {x y : Operand}
theorem bldQ2 {a b : Int} (h0 : ev n f x = .int .i64 a) (h1 : ev n f y = .int .i64 b) (k : SH (nx md) Tryz.prog n ops Q rest (upd f d (.agg [.int .i64 a, .int .i64 b, .int .i64 0, .int .i64 0].toArray)) w0 H) :
    SH md Tryz.prog n ops Q (⟨some d, .build 35 #[(0, x), (1, y)], ty, pos, aft, none⟩ :: rest) f w0 H :=
  bldA (parts := [(0, x), (1, y)]) (cs := [.int .i64 a, .int .i64 b, .int .i64 0, .int .i64 0]) (by simp [Instr.fill, h0, h1, Value.cells]) k
theorem bldC {kd a b c e : Int} (h0 : ev n f x = .int .u8 kd) (h1 : ev n f y = .agg #[.int .i64 a, .int .i64 b, .int .i64 c, .int .i64 e]) (k : SH (nx md) Tryz.prog n ops Q rest (upd f d (.agg (Flat.enc (⟨kd, a, b, c, e⟩ : Comp)).toArray)) w0 H) :
    SH md Tryz.prog n ops Q (⟨some d, .build 37 #[(0, x), (1, y)], ty, pos, aft, none⟩ :: rest) f w0 H :=
  bldN (parts := [(0, x), (1, y)]) (cs := Flat.enc (⟨kd, a, b, c, e⟩ : Comp)) (by simp [Instr.fill, h0, h1, Value.cells, Flat.enc]) k
end
set_option maxHeartbeats 1000000 in
set_option maxRecDepth 100000 in
theorem lcomp_spec (k v u : Int) (w : World) : Ret Tryz.prog 11 [.int .u8 k, .int .i64 v, .int .i64 u].toArray w (Out w (.agg (Flat.enc (⟨k, v, u, 0, 0⟩ : Comp)).toArray)) := by
  refine enterH Tryz.func11 rfl rfl Tryz.ntmps11 rfl (Wd.refl _) ?_
  (repeat' (first | (show VH _ _ _ _ _ _ _; first | refine v_seq ?_ | refine r_seq ?_) | (show SH _ _ _ _ _ (_ :: _) _ _ _; first | (show SH _ _ _ _ _ (⟨_, .move _, _, _, _, _⟩ :: _) _ _ _; refine mov evL ?_) | refine ala rfl (fun b => ?_)) | refine s_nil ?_ | refine kh_normal ?_))
  refine bldQ2 rfl rfl ?_
  (repeat' (first | (show VH _ _ _ _ _ _ _; first | refine v_seq ?_ | refine r_seq ?_ | refine r_quiet hmix (by kernel_rfl) ?_ | refine v_block ?_ | refine v_ret ?_ | refine v_skip ?_ | refine v_exit ?_ | refine v_label ?_ | refine v_cond_t rfl tbL ?_ | refine v_cond_f rfl tbL ?_ | refine v_cond_dec rfl (fun h => ?_) (fun h => ?_) | refine v_cond_ndec rfl (fun h => ?_) (fun h => ?_) | refine v_cond rfl (fun h => ?_) (fun h => ?_)) | (show SH _ _ _ _ _ (_ :: _) _ _ _; first | (show SH _ _ _ _ _ (⟨_, .move _, _, _, _, _⟩ :: _) _ _ _; refine mov evL ?_) | (show SH _ _ _ _ _ (⟨_, .build _ _, _, _, _, _⟩ :: _) _ _ _; first | refine bld rfl rfl ?_ | refine bldZ ?_ | refine bldZN ?_) | (show SH _ _ _ _ _ (⟨_, .alloc _, _, _, _, _⟩ :: _) _ _ _; first | refine al1 rfl (fun b => ?_) | refine ala rfl (fun b => ?_)) | (show SH _ _ _ _ _ (⟨_, .store _ _ _, _, _, _, _⟩ :: _) _ _ _; first | refine stb rfl rfl evL spL rfl rfl (by first | decide | exact Nat.zero_lt_succ _ | exact of_decide_eq_true rfl) kpL ?_ | refine sta rfl rfl rfl spL (by rfl) (by rfl) (by rfl) kpL ?_ | refine sti rfl rfl rfl spL omL kpL ?_ | refine sbi rfl rfl rfl spL omL kpL ?_ | refine sbs rfl rfl evL spL (by rfl) (by rfl) (of_decide_eq_true rfl) kpL ?_)) | refine s_nil ?_ | refine s_fork ?_ ?_ | refine s_fork3 ?_ ?_ ?_ | refine s_fork4 ?_ ?_ ?_ ?_ | refine kh_normal ?_ | refine kh_ret ?_ | refine kh_exit ?_ | refine bh_normal ?_ | refine bh_ret ?_ | refine bh_exit ?_ | refine bh_exit_ne rfl ?_))
  refine bldC rfl rfl ?_
  (repeat' (first | refine v_ret ?_ | (show SH _ _ _ _ _ (_ :: _) _ _ _; (show SH _ _ _ _ _ (⟨_, .store _ _ _, _, _, _, _⟩ :: _) _ _ _; refine sta rfl rfl rfl spL (by rfl) (by rfl) (by rfl) kpL ?_)) | refine s_nil ?_ | refine kh_normal ?_))
  exact rhC rfl rfl rfl (fun w hw => loadVar_bx hw spL (by rfl)) ⟨rfl, rfl⟩ (ent_nil _)
set_option maxHeartbeats 1000000 in
set_option maxRecDepth 100000 in
theorem lthing_spec (id : Int) (A : Option Addr) (m c : Nat) (w : World) : Ret Tryz.prog 10 [.int .i64 id, .slice A m c].toArray w (Out w (.agg #[.int .i64 id, .slice A m c])) := by
  refine enterH Tryz.func10 rfl rfl Tryz.ntmps10 rfl (Wd.refl _) ?_
  (repeat' (first | (show VH _ _ _ _ _ _ _; first | refine v_seq ?_ | refine r_seq ?_ | refine v_ret ?_) | (show SH _ _ _ _ _ (_ :: _) _ _ _; first | (show SH _ _ _ _ _ (⟨_, .move _, _, _, _, _⟩ :: _) _ _ _; refine mov evL ?_) | refine bld rfl rfl ?_ | refine ala rfl (fun b => ?_) | (show SH _ _ _ _ _ (⟨_, .store _ _ _, _, _, _, _⟩ :: _) _ _ _; refine sta rfl rfl rfl spL (by rfl) (by rfl) (by rfl) kpL ?_)) | refine s_nil ?_ | refine kh_normal ?_))
  exact rhC rfl rfl rfl (fun w hw => loadVar_bx hw spL (by rfl)) ⟨rfl, rfl⟩ (ent_nil _)
end Go.Proofs.YtjefoecnciepmaaGreatDoor

/- The law's package of layer 24: the world of the examples. -/
namespace Go.Proofs.YtjefoecnciepmaaGreatDoor
open Go.Fw Go.RowKit
theorem ent_all_of {H : List HP} (X : List HP) (h : Ent H X) : Ent H [allH X] := h.trans (by have := ent_all_in X (G := []); rwa [List.append_nil] at this)
def exC1 : List Comp := [⟨1, 0, 0, 0, 0⟩, ⟨4, 1, 0, 0, 0⟩, ⟨9, 50, 0, 0, 0⟩]
def exC2 : List Comp := [⟨1, 16384, -16384, 0, 0⟩, ⟨4, 2, 0, 0, 0⟩, ⟨8, 9, 0, 0, 0⟩, ⟨9, 7, 0, 0, 0⟩]
def exC3 : List Comp := [⟨1, 16385, 0, 0, 0⟩]
def exC4 : List Comp := [⟨1, 5, 5, 0, 0⟩, ⟨5, 2, 0, 0, 0⟩]
def exC5 : List Comp := [⟨10, 1, 0, 0, 0⟩]
def exC6 : List Comp := [⟨4, 1, 0, 0, 0⟩, ⟨5, 2, 0, 0, 0⟩]
def exL : List Ent1 := [⟨1, exC1⟩, ⟨2, exC2⟩, ⟨3, exC3⟩, ⟨4, exC4⟩, ⟨5, exC5⟩, ⟨6, exC6⟩]
set_option maxHeartbeats 4000000 in
set_option maxRecDepth 100000 in
theorem example_spec (w : World) : Ret Tryz.prog 8 ([] : List Value).toArray w (RP w (WorldR 9 exL)) := by
  unfold WorldR
  refine enterH Tryz.func8 rfl rfl Tryz.ntmps8 rfl (Wd.refl _) ?_
  (repeat' (first | (show VH _ _ _ _ _ _ _; first | refine v_seq ?_ | refine r_seq ?_) | (show SH _ _ _ _ _ (_ :: _) _ _ _; first | (show SH _ _ _ _ _ (⟨_, .call ⟨.value (.func 11), _, _⟩, _, _, _, _⟩ :: _) _ _ _; refine cl (callee := .func 11) rfl (fun w hw => lcomp_spec _ _ _ w) rfl rfl ?_) | refine ala rfl (fun b => ?_)) | refine s_nil ?_ | refine kh_normal ?_))
  refine bsl (l := exC1) rfl rfl (Vals.cons rfl (Vals.cons rfl (Vals.cons rfl Vals.nil))) rfl rfl (by decide) (fun b1 => ?_)
  (repeat' ((show SH _ _ _ _ _ (_ :: _) _ _ _; first | (show SH _ _ _ _ _ (⟨_, .call ⟨.value (.func 11), _, _⟩, _, _, _, _⟩ :: _) _ _ _; refine cl (callee := .func 11) rfl (fun w hw => lcomp_spec _ _ _ w) rfl rfl ?_) | (show SH _ _ _ _ _ (⟨_, .call ⟨.value (.func 10), _, _⟩, _, _, _, _⟩ :: _) _ _ _; refine cl (callee := .func 10) rfl (fun w hw => lthing_spec _ _ _ _ w) rfl rfl ?_))))
  refine bsl (l := exC2) rfl rfl (Vals.cons rfl (Vals.cons rfl (Vals.cons rfl (Vals.cons rfl Vals.nil)))) rfl rfl (by decide) (fun b2 => ?_)
  (repeat' ((show SH _ _ _ _ _ (_ :: _) _ _ _; first | (show SH _ _ _ _ _ (⟨_, .call ⟨.value (.func 11), _, _⟩, _, _, _, _⟩ :: _) _ _ _; refine cl (callee := .func 11) rfl (fun w hw => lcomp_spec _ _ _ w) rfl rfl ?_) | (show SH _ _ _ _ _ (⟨_, .call ⟨.value (.func 10), _, _⟩, _, _, _, _⟩ :: _) _ _ _; refine cl (callee := .func 10) rfl (fun w hw => lthing_spec _ _ _ _ w) rfl rfl ?_))))
  refine bsl (l := exC3) rfl rfl (Vals.cons rfl Vals.nil) rfl rfl (by decide) (fun b3 => ?_)
  (repeat' ((show SH _ _ _ _ _ (_ :: _) _ _ _; first | (show SH _ _ _ _ _ (⟨_, .call ⟨.value (.func 11), _, _⟩, _, _, _, _⟩ :: _) _ _ _; refine cl (callee := .func 11) rfl (fun w hw => lcomp_spec _ _ _ w) rfl rfl ?_) | (show SH _ _ _ _ _ (⟨_, .call ⟨.value (.func 10), _, _⟩, _, _, _, _⟩ :: _) _ _ _; refine cl (callee := .func 10) rfl (fun w hw => lthing_spec _ _ _ _ w) rfl rfl ?_))))
  refine bsl (l := exC4) rfl rfl (Vals.cons rfl (Vals.cons rfl Vals.nil)) rfl rfl (by decide) (fun b4 => ?_)
  (repeat' ((show SH _ _ _ _ _ (_ :: _) _ _ _; first | (show SH _ _ _ _ _ (⟨_, .call ⟨.value (.func 11), _, _⟩, _, _, _, _⟩ :: _) _ _ _; refine cl (callee := .func 11) rfl (fun w hw => lcomp_spec _ _ _ w) rfl rfl ?_) | (show SH _ _ _ _ _ (⟨_, .call ⟨.value (.func 10), _, _⟩, _, _, _, _⟩ :: _) _ _ _; refine cl (callee := .func 10) rfl (fun w hw => lthing_spec _ _ _ _ w) rfl rfl ?_))))
  refine bsl (l := exC5) rfl rfl (Vals.cons rfl Vals.nil) rfl rfl (by decide) (fun b5 => ?_)
  (repeat' ((show SH _ _ _ _ _ (_ :: _) _ _ _; first | (show SH _ _ _ _ _ (⟨_, .call ⟨.value (.func 11), _, _⟩, _, _, _, _⟩ :: _) _ _ _; refine cl (callee := .func 11) rfl (fun w hw => lcomp_spec _ _ _ w) rfl rfl ?_) | (show SH _ _ _ _ _ (⟨_, .call ⟨.value (.func 10), _, _⟩, _, _, _, _⟩ :: _) _ _ _; refine cl (callee := .func 10) rfl (fun w hw => lthing_spec _ _ _ _ w) rfl rfl ?_))))
  refine bsl (l := exC6) rfl rfl (Vals.cons rfl (Vals.cons rfl Vals.nil)) rfl rfl (by decide) (fun b6 => ?_)
  (repeat' ((show SH _ _ _ _ _ (⟨_, .call ⟨.value (.func 10), _, _⟩, _, _, _, _⟩ :: _) _ _ _; refine cl (callee := .func 10) rfl (fun w hw => lthing_spec _ _ _ _ w) rfl rfl ?_)))
  refine bsl (l := [(⟨⟨1, exC1⟩, some ⟨b1, 0, none⟩, 3⟩ : EntP), ⟨⟨2, exC2⟩, some ⟨b2, 0, none⟩, 4⟩, ⟨⟨3, exC3⟩, some ⟨b3, 0, none⟩, 1⟩, ⟨⟨4, exC4⟩, some ⟨b4, 0, none⟩, 2⟩, ⟨⟨5, exC5⟩, some ⟨b5, 0, none⟩, 1⟩, ⟨⟨6, exC6⟩, some ⟨b6, 0, none⟩, 2⟩]) rfl rfl (Vals.cons rfl (Vals.cons rfl (Vals.cons rfl (Vals.cons rfl (Vals.cons rfl (Vals.cons rfl Vals.nil)))))) rfl rfl (by decide) (fun b7 => ?_)
  (repeat' (first | refine v_ret ?_ | (show SH _ _ _ _ _ (_ :: _) _ _ _; first | refine bld rfl rfl ?_ | (show SH _ _ _ _ _ (⟨_, .store _ _ _, _, _, _, _⟩ :: _) _ _ _; refine sta rfl rfl rfl spL (by rfl) (by rfl) (by rfl) kpL ?_)) | refine s_nil ?_ | refine kh_normal ?_))
  refine rhC rfl rfl rfl (fun w hw => loadVar_bx hw spL (by rfl)) ⟨some ⟨b7, 0, none⟩, 6, [(⟨⟨1, exC1⟩, some ⟨b1, 0, none⟩, 3⟩ : EntP), ⟨⟨2, exC2⟩, some ⟨b2, 0, none⟩, 4⟩, ⟨⟨3, exC3⟩, some ⟨b3, 0, none⟩, 1⟩, ⟨⟨4, exC4⟩, some ⟨b4, 0, none⟩, 2⟩, ⟨⟨5, exC5⟩, some ⟨b5, 0, none⟩, 1⟩, ⟨⟨6, exC6⟩, some ⟨b6, 0, none⟩, 2⟩], rfl, rfl, rfl⟩ ?_
  exact Ent.trans (B := [orow 31 (some ⟨b7, 0, none⟩) 6 [(⟨⟨1, exC1⟩, some ⟨b1, 0, none⟩, 3⟩ : EntP), ⟨⟨2, exC2⟩, some ⟨b2, 0, none⟩, 4⟩, ⟨⟨3, exC3⟩, some ⟨b3, 0, none⟩, 1⟩, ⟨⟨4, exC4⟩, some ⟨b4, 0, none⟩, 2⟩, ⟨⟨5, exC5⟩, some ⟨b5, 0, none⟩, 1⟩, ⟨⟨6, exC6⟩, some ⟨b6, 0, none⟩, 2⟩], orow 37 (some ⟨b1, 0, none⟩) 3 exC1, orow 37 (some ⟨b2, 0, none⟩) 4 exC2, orow 37 (some ⟨b3, 0, none⟩) 1 exC3, orow 37 (some ⟨b4, 0, none⟩) 2 exC4, orow 37 (some ⟨b5, 0, none⟩) 1 exC5, orow 37 (some ⟨b6, 0, none⟩) 2 exC6]) enL (ent_cons Split.head (ent_all_of _ (ent_refl _)))
theorem sz_ex {L : List EntP} (h : ents L = exL) : Sz L ∧ ∀ x ∈ L, x.e.comps.length ≤ 1000000 := by
  have hl : L.length = 6 := by rw [← ents_len, h]; rfl
  have hx : ∀ x ∈ L, x.e.comps.length ≤ 4 := fun x hx => by
    have : x.e ∈ exL := by rw [← h]; exact List.mem_map_of_mem hx
    have hall : ∀ e ∈ exL, e.comps.length ≤ 4 := by decide
    exact hall _ this
  exact ⟨⟨by omega, fun x h => by have := hx x h; omega⟩, fun x h => by have := hx x h; omega⟩
theorem ex_v1 : visL 1 9 exL = [1, 2, 6] ∧ errI 1 9 exL = 0 := by decide
theorem ex_v2 : visL 2 9 exL = [1, 2, 3] ∧ errI 2 9 exL = 0 := by decide
theorem ex_v3 : visL 3 9 exL = [] ∧ errI 3 9 exL = 0 := by decide
theorem ex_w1 : watL 1 9 exL = [1, 2] ∧ watErr 1 9 exL = 0 := by decide
theorem ex_w5 : watL 5 9 exL = [] ∧ watErr 5 9 exL = 0 := by decide
theorem ex_view : viewL 1 9 exL = [⟨1, exC1⟩, ⟨2, [⟨1, 16384, -16384, 0, 0⟩, ⟨4, 2, 0, 0, 0⟩, ⟨8, 9, 0, 0, 0⟩]⟩, ⟨6, exC6⟩] ∧ viewT 1 9 exL = 9 := by decide
set_option maxHeartbeats 4000000 in
set_option maxRecDepth 100000 in
theorem awake24_spec (w : World) (hG : Glob w) : Ret Tryz.prog 7 ([] : List Value).toArray w (Out w (.bool true)) := by
  have hx := fun w => example_spec w
  unfold WorldR at hx
  refine enterH Tryz.func7 rfl rfl Tryz.ntmps7 rfl (Wd.refl _) ?_
  (repeat' (first | (show VH _ _ _ _ _ _ _; first | refine v_seq ?_ | refine r_seq ?_) | (show SH _ _ _ _ _ (_ :: _) _ _ _; first | (show SH _ _ _ _ _ (⟨_, .assign _, _, _, _, _⟩ :: _) _ _ _; refine asg evL ?_) | (show SH _ _ _ _ _ (⟨_, .call ⟨.value (.func 8), _, _⟩, _, _, _, _⟩ :: _) _ _ _; refine cp (callee := .func 8) rfl (fun w hw => hx w) rfl rfl ?_)) | refine s_nil ?_ | refine kh_normal ?_))
  rintro _ _ ⟨A, c, L, rfl, hL, rfl⟩
  have hL' : ents L = exL := hL
  obtain ⟨hs, hse⟩ := sz_ex hL'
  have hV := fun ct w hG hr => visI_spec ct 9 A L c w hG hs hr
  have hW := fun id w hG hr => viewI_spec id 9 A L c w hG hs hse hr
  have hC := fun id w hG hr => watI_spec id 9 A L c w hG hs hse hr
  rw [hL'] at hV hW hC
  have hV1 := fun w hG hr => hV 1 w hG hr
  have hV2 := fun w hG hr => hV 2 w hG hr
  have hV3 := fun w hG hr => hV 3 w hG hr
  have hC1 := fun w hG hr => hC 1 w hG hr
  have hC5 := fun w hG hr => hC 5 w hG hr
  have hW1 := fun w hG hr => hW 1 w hG hr
  rw [ex_v1.1, ex_v1.2] at hV1
  rw [ex_v2.1, ex_v2.2] at hV2
  rw [ex_v3.1, ex_v3.2] at hV3
  rw [ex_w1.1, ex_w1.2] at hC1
  rw [ex_w5.1, ex_w5.2] at hC5
  rw [ex_view.1, ex_view.2, ex_v1.2] at hW1
  have hS : ∀ A1 A2 (l : List Int) c1 c2 w, l.length ≤ 100 → Rd w A1 l → Rd w A2 l → Ret Tryz.prog 23 [.slice A1 l.length c1, .slice A2 l.length c2].toArray w (Out w (.bool true)) := fun A1 A2 l c1 c2 w hl h1 h2 => by
    have := sameInts_spec A1 A2 l l c1 c2 w h1 h2 (by omega)
    rwa [decide_eq_true rfl] at this
  clear hV hW hC hse hx hs hL hL'
  (repeat' ((fail_if_success (show VH _ _ (.seq (.region 2 _ _) _) _ _ _ _)); first | (show SH _ _ _ _ _ (_ :: _) _ _ _; first | refine ala rfl (fun b => ?_) | (show SH _ _ _ _ _ (⟨_, .store _ _ _, _, _, _, _⟩ :: _) _ _ _; refine sta rfl rfl rfl spL (by rfl) (by rfl) (by rfl) kpL ?_)) | refine s_nil ?_ | refine kh_normal ?_))
  refine VH.ent (G := [bx b 24 [.int .i64 9, .slice A L.length c], knw A L]) ?_ (Ent.trans (B := [bx b 24 [.int .i64 9, .slice A L.length c], orow 31 A c L, allH (L.map rowOf)]) enL (ent_cons Split.head (ent_knw (G := []))))
  unfold wv at *
  (repeat' (first | (show VH _ _ _ _ _ _ _; first | refine v_seq ?_ | refine r_seq ?_) | (show SH _ _ _ _ _ (_ :: _) _ _ _; first | (show SH _ _ _ _ _ (⟨_, .load _ _, _, _, _, _⟩ :: _) _ _ _; refine lba rfl spL (by rfl) ?_) | (show SH _ _ _ _ _ (⟨_, .call ⟨.value (.func 15), _, _⟩, _, _, _, _⟩ :: _) _ _ _; refine cp (callee := .func 15) rfl (fun w hw => hV1 w (hG.ext hw.ext) (hw.kw spL)) rfl rfl ?_))))
  rintro _ _ ⟨A1, c1, rfl, rfl⟩
  (repeat' (first | (show VH _ _ _ _ _ _ _; first | refine v_seq ?_ | refine r_seq ?_) | (show SH _ _ _ _ _ (_ :: _) _ _ _; first | (show SH _ _ _ _ _ (⟨_, .move _, _, _, _, _⟩ :: _) _ _ _; refine mov evL ?_) | (show SH _ _ _ _ _ (⟨_, .assign _, _, _, _, _⟩ :: _) _ _ _; refine asg evL ?_) | (show SH _ _ _ _ _ (⟨_, .load _ _, _, _, _, _⟩ :: _) _ _ _; refine lba rfl spL (by rfl) ?_) | (show SH _ _ _ _ _ (⟨_, .call ⟨.value (.func 15), _, _⟩, _, _, _, _⟩ :: _) _ _ _; refine cp (callee := .func 15) rfl (fun w hw => hV2 w (hG.ext hw.ext) (hw.kw spL)) rfl rfl ?_) | refine extr rfl rfl ?_) | refine s_nil ?_ | refine kh_normal ?_))
  rintro _ _ ⟨A2, c2, rfl, rfl⟩
  (repeat' (first | (show VH _ _ _ _ _ _ _; first | refine v_seq ?_ | refine r_seq ?_) | (show SH _ _ _ _ _ (_ :: _) _ _ _; first | (show SH _ _ _ _ _ (⟨_, .move _, _, _, _, _⟩ :: _) _ _ _; refine mov evL ?_) | (show SH _ _ _ _ _ (⟨_, .assign _, _, _, _, _⟩ :: _) _ _ _; refine asg evL ?_) | (show SH _ _ _ _ _ (⟨_, .load _ _, _, _, _, _⟩ :: _) _ _ _; refine lba rfl spL (by rfl) ?_) | (show SH _ _ _ _ _ (⟨_, .call ⟨.value (.func 15), _, _⟩, _, _, _, _⟩ :: _) _ _ _; refine cp (callee := .func 15) rfl (fun w hw => hV3 w (hG.ext hw.ext) (hw.kw spL)) rfl rfl ?_) | refine extr rfl rfl ?_) | refine s_nil ?_ | refine kh_normal ?_))
  rintro _ _ ⟨A3, c3, rfl, rfl⟩
  (repeat' (first | (show VH _ _ _ _ _ _ _; first | refine v_seq ?_ | refine r_seq ?_) | (show SH _ _ _ _ _ (_ :: _) _ _ _; first | (show SH _ _ _ _ _ (⟨_, .move _, _, _, _, _⟩ :: _) _ _ _; refine mov evL ?_) | (show SH _ _ _ _ _ (⟨_, .assign _, _, _, _, _⟩ :: _) _ _ _; refine asg evL ?_) | (show SH _ _ _ _ _ (⟨_, .load _ _, _, _, _, _⟩ :: _) _ _ _; refine lba rfl spL (by rfl) ?_) | (show SH _ _ _ _ _ (⟨_, .call ⟨.value (.func 19), _, _⟩, _, _, _, _⟩ :: _) _ _ _; refine cp (callee := .func 19) rfl (fun w hw => hW1 w (hG.ext hw.ext) (hw.kw spL)) rfl rfl ?_) | refine extr rfl rfl ?_) | refine s_nil ?_ | refine kh_normal ?_))
  rintro _ _ ⟨A4, c4, L4, rfl, hL4, rfl⟩
  obtain ⟨⟨e0, A5, c5⟩, ⟨e1, A6, c6⟩, ⟨e2, A7, c7⟩, rfl⟩ : ∃ x0 x1 x2, L4 = [x0, x1, x2] := by
    have hlen := congrArg List.length hL4
    rw [List.length_map] at hlen
    match L4, hlen with
    | [a, b, c], _ => exact ⟨a, b, c, rfl⟩
  simp only [List.map_cons, List.map_nil, List.cons.injEq, and_true] at hL4
  obtain ⟨rfl, rfl, rfl⟩ := hL4
  (repeat' ((fail_if_success (show VH _ _ (.seq (.region 6 _ _) _) _ _ _ _)); first | (show SH _ _ _ _ _ (_ :: _) _ _ _; first | (show SH _ _ _ _ _ (⟨_, .move _, _, _, _, _⟩ :: _) _ _ _; refine mov evL ?_) | (show SH _ _ _ _ _ (⟨_, .assign _, _, _, _, _⟩ :: _) _ _ _; refine asg evL ?_) | refine extr rfl rfl ?_ | refine ala rfl (fun b => ?_) | (show SH _ _ _ _ _ (⟨_, .store _ _ _, _, _, _, _⟩ :: _) _ _ _; refine sta rfl rfl rfl spL (by rfl) (by rfl) (by rfl) kpL ?_)) | refine s_nil ?_ | refine kh_normal ?_))
  rename_i b1
  revert b
  intro b8
  refine VH.ent (G := orow 37 A5 c5 exC1 :: orow 37 A6 c6 [(⟨1, 16384, -16384, 0, 0⟩ : Comp), ⟨4, 2, 0, 0, 0⟩, ⟨8, 9, 0, 0, 0⟩] :: orow 37 A7 c7 exC6 :: [bx b8 24 [.int .i64 9, .slice A4 3 c4], orow 31 A4 c4 [(⟨⟨1, exC1⟩, A5, c5⟩ : EntP), ⟨⟨2, [⟨1, 16384, -16384, 0, 0⟩, ⟨4, 2, 0, 0, 0⟩, ⟨8, 9, 0, 0, 0⟩]⟩, A6, c6⟩, ⟨⟨6, exC6⟩, A7, c7⟩], orow 3 A3 c3 ([] : List Int), orow 3 A2 c2 [(1 : Int), 2, 3], orow 3 A1 c1 [(1 : Int), 2, 6], bx b1 24 [.int .i64 9, .slice A L.length c], knw A L]) ?_ (Ent.trans (B := allH (List.map rowOf [(⟨⟨1, exC1⟩, A5, c5⟩ : EntP), ⟨⟨2, [⟨1, 16384, -16384, 0, 0⟩, ⟨4, 2, 0, 0, 0⟩, ⟨8, 9, 0, 0, 0⟩]⟩, A6, c6⟩, ⟨⟨6, exC6⟩, A7, c7⟩]) :: [bx b8 24 [.int .i64 9, .slice A4 3 c4], orow 31 A4 c4 [(⟨⟨1, exC1⟩, A5, c5⟩ : EntP), ⟨⟨2, [⟨1, 16384, -16384, 0, 0⟩, ⟨4, 2, 0, 0, 0⟩, ⟨8, 9, 0, 0, 0⟩]⟩, A6, c6⟩, ⟨⟨6, exC6⟩, A7, c7⟩], orow 3 A3 c3 ([] : List Int), orow 3 A2 c2 [(1 : Int), 2, 3], orow 3 A1 c1 [(1 : Int), 2, 6], bx b1 24 [.int .i64 9, .slice A L.length c], knw A L]) enL (ent_all_out _))
  clear hV1 hV2 hV3 hW1
  (repeat' (first | (show VH _ _ _ _ _ _ _; first | refine v_seq ?_ | refine r_seq ?_) | (show SH _ _ _ _ _ (_ :: _) _ _ _; first | (show SH _ _ _ _ _ (⟨_, .load _ _, _, _, _, _⟩ :: _) _ _ _; refine lba rfl spL (by rfl) ?_) | (show SH _ _ _ _ _ (⟨_, .call ⟨.value (.func 21), _, _⟩, _, _, _, _⟩ :: _) _ _ _; refine cp (callee := .func 21) rfl (fun w hw => hC1 w (hG.ext hw.ext) (hw.kw spL)) rfl rfl ?_))))
  rintro _ _ ⟨A8, c8, rfl, rfl⟩
  (repeat' (first | (show VH _ _ _ _ _ _ _; first | refine v_seq ?_ | refine r_seq ?_) | (show SH _ _ _ _ _ (_ :: _) _ _ _; first | (show SH _ _ _ _ _ (⟨_, .move _, _, _, _, _⟩ :: _) _ _ _; refine mov evL ?_) | (show SH _ _ _ _ _ (⟨_, .assign _, _, _, _, _⟩ :: _) _ _ _; refine asg evL ?_) | (show SH _ _ _ _ _ (⟨_, .load _ _, _, _, _, _⟩ :: _) _ _ _; refine lba rfl spL (by rfl) ?_) | (show SH _ _ _ _ _ (⟨_, .call ⟨.value (.func 21), _, _⟩, _, _, _, _⟩ :: _) _ _ _; refine cp (callee := .func 21) rfl (fun w hw => hC5 w (hG.ext hw.ext) (hw.kw spL)) rfl rfl ?_) | refine extr rfl rfl ?_) | refine s_nil ?_ | refine kh_normal ?_))
  rintro _ _ ⟨A9, c9, rfl, rfl⟩
  clear hC1 hC5
  (repeat' (first | (show VH _ _ _ _ _ _ _; first | refine v_seq ?_ | refine r_seq ?_) | (show SH _ _ _ _ _ (_ :: _) _ _ _; first | (show SH _ _ _ _ _ (⟨_, _, _, _, _, some _⟩ :: _) _ _ _; (refine gif rfl rfl ?_; refine giFF tbL ?_)) | (show SH _ _ _ _ _ (⟨_, .move _, _, _, _, _⟩ :: _) _ _ _; refine mov evL ?_) | (show SH _ _ _ _ _ (⟨_, .assign _, _, _, _, _⟩ :: _) _ _ _; refine asg evL ?_) | (show SH _ _ _ _ _ (⟨_, .binOp .neq _ _ _ _, _, _, _, _⟩ :: _) _ _ _; refine neqF rfl rfl omD ?_) | (show SH _ _ _ _ _ (⟨_, .binOp .add _ _ _ _, _, _, _, _⟩ :: _) _ _ _; refine add rfl rfl inL ?_) | refine extr rfl rfl ?_ | (show SH _ _ _ _ _ (⟨_, .buildSlice _ _ _, _, _, _, _⟩ :: _) _ _ _; refine bsl (α := Int) rfl rfl (by repeat (first | exact Vals.nil | (apply Vals.cons; rfl))) rfl (by rfl) (by decide) (fun b => ?_))) | refine s_nil ?_ | refine kh_normal ?_))
  refine cl (callee := .func 23) rfl (fun w hw => hS A1 (some ⟨b, 0, none⟩) [1, 2, 6] _ _ w (by decide) (hw.rd spL) (hw.rd spL)) rfl rfl ?_
  (repeat' ((show SH _ _ _ _ _ (_ :: _) _ _ _; first | (show SH _ _ _ _ _ (⟨_, _, _, _, _, some _⟩ :: _) _ _ _; (refine gif rfl rfl ?_; refine giFF tbL ?_)) | (show SH _ _ _ _ _ (⟨_, .move _, _, _, _, _⟩ :: _) _ _ _; refine mov evL ?_) | refine bnoT rfl ?_ | (show SH _ _ _ _ _ (⟨_, .pick _ _ _, _, _, _, _⟩ :: _) _ _ _; refine pkf rfl tbL evL ?_) | (show SH _ _ _ _ _ (⟨_, .buildSlice _ _ _, _, _, _, _⟩ :: _) _ _ _; refine bsl (α := Int) rfl rfl (by repeat (first | exact Vals.nil | (apply Vals.cons; rfl))) rfl (by rfl) (by decide) (fun b => ?_)))))
  refine cl (callee := .func 23) rfl (fun w hw => hS A2 (some ⟨b, 0, none⟩) [1, 2, 3] _ _ w (by decide) (hw.rd spL) (hw.rd spL)) rfl rfl ?_
  (repeat' ((show SH _ _ _ _ _ (_ :: _) _ _ _; first | (show SH _ _ _ _ _ (⟨_, _, _, _, _, some _⟩ :: _) _ _ _; (refine gif rfl rfl ?_; refine giFF tbL ?_)) | (show SH _ _ _ _ _ (⟨_, .move _, _, _, _, _⟩ :: _) _ _ _; refine mov evL ?_) | refine neq rfl rfl ?_ | refine slen rfl ?_ | refine bnoT rfl ?_ | (show SH _ _ _ _ _ (⟨_, .pick _ _ _, _, _, _, _⟩ :: _) _ _ _; refine pkf rfl tbL evL ?_) | (show SH _ _ _ _ _ (⟨_, .buildSlice _ _ _, _, _, _, _⟩ :: _) _ _ _; refine bsl (α := Int) rfl rfl (by repeat (first | exact Vals.nil | (apply Vals.cons; rfl))) rfl (by rfl) (by decide) (fun b => ?_)))))
  refine cl (callee := .func 23) rfl (fun w hw => hS A8 (some ⟨b, 0, none⟩) [1, 2] _ _ w (by decide) (hw.rd spL) (hw.rd spL)) rfl rfl ?_
  (repeat' (first | (show VH _ _ _ _ _ _ _; first | refine v_seq ?_ | refine r_seq ?_ | refine v_skip ?_ | refine v_cond_f rfl tbL ?_) | (show SH _ _ _ _ _ (_ :: _) _ _ _; first | (show SH _ _ _ _ _ (⟨_, _, _, _, _, some _⟩ :: _) _ _ _; (refine gif rfl rfl ?_; first | refine giTT tbL ?_ | refine giFF tbL ?_)) | (show SH _ _ _ _ _ (⟨_, .move _, _, _, _, _⟩ :: _) _ _ _; refine mov evL ?_) | (show SH _ _ _ _ _ (⟨_, .binOp .eql _ _ _ _, _, _, _, _⟩ :: _) _ _ _; first | refine eqlT rfl rfl omD ?_ | refine eql rfl rfl ?_) | (show SH _ _ _ _ _ (⟨_, .load _ _, _, _, _, _⟩ :: _) _ _ _; first | refine lbx rfl spL (by rfl) ?_ | refine lrf rfl (fun _ _ => rdX) (by rfl) omL (by rfl) ?_ | refine lrf rfl (fun _ _ => rdX) (by rfl) (by simp only [List.length_cons, List.length_nil]; omega) (by rfl) ?_) | (show SH _ _ _ _ _ (⟨_, .indexAddr _ _ _, _, _, _, _⟩ :: _) _ _ _; first | refine ixi rfl rfl (fun _ _ => rdX) (by rfl) omL omL omL ?_ | refine ixi rfl rfl (fun _ _ => rdX) (by rfl) omL (by first | omega | (simp only [List.length_cons, List.length_nil]; omega)) (by simp only [List.length_cons, List.length_nil]; omega) ?_) | refine slen rfl ?_ | refine bnoT rfl ?_ | (show SH _ _ _ _ _ (⟨_, .pick _ _ _, _, _, _, _⟩ :: _) _ _ _; first | refine pkt rfl tbL evL ?_ | refine pkf rfl tbL evL ?_) | refine fad rfl ?_) | refine s_nil ?_ | refine kh_normal ?_))
  refine ixi (α := Comp) (A := A6) (l := [(⟨1, 16384, -16384, 0, 0⟩ : Comp), ⟨4, 2, 0, 0, 0⟩, ⟨8, 9, 0, 0, 0⟩]) (i := 2) rfl rfl (fun w hw => hw.rd spL) rfl (by omega) (by show (2 : Int) < ((3 : Nat) : Int); omega) (by simp only [List.length_cons, List.length_nil]; omega) ?_
  (repeat' (first | refine v_ret ?_ | (show SH _ _ _ _ _ (_ :: _) _ _ _; first | (show SH _ _ _ _ _ (⟨_, _, _, _, _, some _⟩ :: _) _ _ _; (refine gif rfl rfl ?_; refine giTT tbL ?_)) | (show SH _ _ _ _ _ (⟨_, .assign _, _, _, _, _⟩ :: _) _ _ _; refine asg evL ?_) | refine eql rfl rfl ?_ | (show SH _ _ _ _ _ (⟨_, .load _ _, _, _, _, _⟩ :: _) _ _ _; first | refine lrf rfl (fun _ _ => rdX) (by rfl) omL (by rfl) ?_ | refine lrf rfl (fun _ _ => rdX) (by rfl) (by simp only [List.length_cons, List.length_nil]; omega) (by rfl) ?_) | (show SH _ _ _ _ _ (⟨_, .pick _ _ _, _, _, _, _⟩ :: _) _ _ _; refine pkt rfl tbL evL ?_) | refine fad rfl ?_) | refine s_nil ?_ | refine kh_normal ?_))
  exact rh1 rfl rfl ⟨rfl, rfl⟩ (ent_nil _)
end Go.Proofs.YtjefoecnciepmaaGreatDoor

/- One row out of many, and back. -/
namespace Go.Fw
open Go.RowKit
section
variable {ι : Type} {d : ι} {f : ι → HP} {L : List ι} {k : Nat} {H G : List HP}
theorem ent_all_open (h : k < L.length) : Ent (allH (L.map f) :: G) (f (L.getD k d) :: allH ((L.eraseIdx k).map f) :: G) :=
  (ent_all_out _).trans ((ent_map_open h).trans (ent_cons Split.head (ent_all_in _)))
theorem ent_all_close {x : ι} (h : k < L.length) : Ent (f x :: allH ((L.eraseIdx k).map f) :: G) (allH ((L.set k x).map f) :: G) :=
  (ent_cons Split.head (ent_all_out _)).trans ((ent_map_close h).trans (ent_all_in _))
theorem ent_all_back (h : k < L.length) : Ent (f (L.getD k d) :: allH ((L.eraseIdx k).map f) :: G) (allH (L.map f) :: G) :=
  (ent_cons Split.head (ent_all_out _)).trans ((ent_map_back h).trans (ent_all_in _))
end
end Go.Fw

/- What is read through knowledge of a world. -/
namespace Go.Fw
open Go.RowKit
section
variable {w0 w : World} {H R : List HP} {A B : Option Addr} {L : List EntP} {α : Type} [Flat α] {l : List α}
theorem rd_thru (h : ∀ w, RdW w A L → Rd w B l) (hw : Wd w0 H w) (hs : Split H (knw A L) R) : Rd w B l := h w (hw.kw hs)
theorem rd_thk {Φ : World → Prop} (h : ∀ w, Φ w → Rd w B l) (hw : Wd w0 H w) (hs : Split H (kno Φ) R) : Rd w B l := h w (hw.kn hs)
end
section
variable {H G : List HP} {e ec : TypeId} {A : Option Addr} {c k : Nat} {l : List EntP} {y : EntP}
end
theorem rdY {p : Prop} (h : p := by first | exact rd_thru (by assumption) (by assumption) spL | exact rdX | exact rd_thk (by assumption) (by assumption) spL) : p := h
end Go.Fw

/- Elements are loaded, of which it is known what they are. -/
namespace Go.Fw
open Go.RowKit
section
variable {md : Md} {P : Program} {n : Nat} {Q : HQ} {f : Fr} {w0 : World} {H R : List HP} {ops : Array Oper} {rest : List Oper} {d : Nat} {op : Op} {ty : TypeId} {pos : String} {aft : Array Edge} {v : Value} {x y : Operand}
theorem lrg {α : Type} [F : Flat α] {t : TypeId} {z : Value} {sz off : Nat} {A : Option Addr} {i : Nat} {l : List α} {cs : List Value} [TOne P t z] (hx : ev n f x = .pointer (some (((adr A).add (i * sz)).add off))) (hr : ∀ w, Wd w0 (vis md H) w → Rd w A l) (hsz : sz = F.sz) (h1 : i < l.length) (hg : F.enc (l.getD i F.dflt) = cs) (hv : cs[off]? = some v)
    (k : SH (nx md) P n ops Q rest (upd f d v) w0 H) : SH md P n ops Q (⟨some d, .load t x, ty, pos, aft, none⟩ :: rest) f w0 H := lrf hx hr hsz h1 (by rw [hg]; exact hv) k
theorem lag {α : Type} [F : Flat α] {t : TypeId} {sz : Nat} {z : List Value} {A : Option Addr} {i : Nat} {l : List α} {cs : List Value} [TAgg P t sz z] (hx : ev n f x = .pointer (some ((adr A).add (i * sz)))) (hr : ∀ w, Wd w0 (vis md H) w → Rd w A l) (hsz : sz = F.sz) (h1 : i < l.length) (hg : F.enc (l.getD i F.dflt) = cs)
    (k : SH (nx md) P n ops Q rest (upd f d (.agg cs.toArray)) w0 H) : SH md P n ops Q (⟨some d, .load t x, ty, pos, aft, none⟩ :: rest) f w0 H := lra hx hr hsz h1 (by rw [hg]; exact k)
theorem lgi {t : TypeId} {z : Value} {A : Option Addr} {i : Nat} {l : List Int} {u : Int} [TOne P t z] (hx : ev n f x = .pointer (some ((adr A).add (i * 1)))) (hr : ∀ w, Wd w0 (vis md H) w → Rd w A l) (h1 : i < l.length) (hg : l.getD i 0 = u)
    (k : SH (nx md) P n ops Q rest (upd f d (.int .i64 u)) w0 H) : SH md P n ops Q (⟨some d, .load t x, ty, pos, aft, none⟩ :: rest) f w0 H := lin hx hr h1 (by rw [hg]; exact k)
end
end Go.Fw

