/- Package interest: View. -/
import Derived.Test.YtjefoecnciepmaaDoorZTw
import Derived.Test.YtjefoecnciepmaaDoorZIh
import Derived.Test.YtjefoecnciepmaaDoorZWp
set_option linter.unusedSimpArgs false
set_option linter.unusedVariables false
namespace Go.Proofs.YtjefoecnciepmaaDoor
open Go.Fw Go.RowKit
/-- The row of an entity's components. -/
abbrev rowOf (x : EntP) : HP := orow 42 x.A x.cp x.e.comps
/-- A function value that makes an entity. -/
def PickE (w : World) (fv : Value) (l : List EntP) (y : EntP → Ent1) (b : EntP → Bool) : Prop :=
  ∃ g fst cap, fv = .func (.func g) fst cap ∧ ∀ w', Ext w w' → ∀ x ∈ l, Ret Tryd.prog g (fst.toList ++ [Value.agg (Flat.enc x).toArray] ++ cap.toList).toArray w' (RP w' fun v H' => ∃ A c, v = .tuple #[.agg #[.int .i64 (y x).id, .slice A (y x).comps.length c], .bool (b x)] ∧ H' = [orow 42 A c (y x).comps])
theorem map_snoc_e (L : List EntP) (x : EntP) : (L ++ [x]).map EntP.e = L.map EntP.e ++ [x.e] := by rw [List.map_append]; rfl
set_option maxHeartbeats 2000000 in
set_option maxRecDepth 100000 in
theorem filterE_spec (A : Option Addr) (l : List EntP) (c1 : Nat) (fv : Value) (y : EntP → Ent1) (b : EntP → Bool) (w : World) (hl : l.length ≤ 1000000) (hr : Rd w A l) (hp : PickE w fv l y b) :
    Ret Tryd.prog 30 [.slice A l.length c1, fv].toArray w (RP w fun v H' => ∃ A' c' L, v = .slice A' L.length c' ∧ L.map EntP.e = (l.filter b).map y ∧ H' = [orow 37 A' c' L, allH (L.map rowOf)]) := by
  obtain ⟨g0, fst, cap, rfl, hp⟩ := hp
  refine enterH Tryd.func30 rfl rfl Tryd.ntmps30 rfl (Wd.refl _) ?_
  (repeat' (first | (show VH _ _ _ _ _ _ _; first | refine v_seq ?_ | refine r_seq ?_ | refine v_block ?_) | (show SH _ _ _ _ _ (_ :: _) _ _ _; first | (show SH _ _ _ _ _ (⟨_, .move _, _, _, _, _⟩ :: _) _ _ _; refine mov evL ?_) | (show SH _ _ _ _ _ (⟨_, .assign _, _, _, _, _⟩ :: _) _ _ _; refine asg evL ?_) | refine slen rfl ?_) | refine s_nil ?_ | refine kh_normal ?_))
  refine v_loop [(5,5),(7,9),(12,27)] (fun s : Nat × (Option Addr × Nat) × List EntP => [(12, .int .i64 s.1), (5, .slice s.2.1.1 s.2.2.length s.2.1.2)]) (fun s => [orow 37 s.2.1.1 s.2.1.2 s.2.2, allH (s.2.2.map rowOf)]) (fun s => s.1 ≤ l.length ∧ s.2.2.map EntP.e = ((l.take s.1).filter b).map y) (fun s => l.length - s.1) (0, (none, 0), []) hsL (ent_nilrow (ent_all_nil (ent_nil _))) ⟨Nat.zero_le _, rfl⟩ ?_
  rintro ⟨k, ⟨A1, c2⟩, L⟩ g ⟨hk, hL⟩
  simp only [sets]
  simp only at hk hL
  have hlen : L.length ≤ k := by
    have h1 := congrArg List.length hL
    rw [List.length_map, List.length_map] at h1
    have := List.length_filter_le b (l.take k)
    rw [List.length_take] at this; omega
  by_cases hkl : k < l.length
  · have hp' := fun w he => hp w he (l.getD k Flat.dflt) (getD_mem hkl)
    have hn := filt_next Flat.dflt b y hkl
    generalize y (l.getD k Flat.dflt) = yk at hp' hn
    cases hb : b (l.getD k Flat.dflt) with
    | true =>
      rw [if_pos hb, ← hL] at hn
      simp only [hb] at hp'
      (repeat' (first | (show VH _ _ _ _ _ _ _; first | refine v_seq ?_ | refine r_seq ?_ | refine v_block ?_ | refine v_skip ?_ | refine v_cond_t rfl tbL ?_) | (show SH _ _ _ _ _ (_ :: _) _ _ _; first | (show SH _ _ _ _ _ (⟨_, .move _, _, _, _, _⟩ :: _) _ _ _; refine mov evL ?_) | (show SH _ _ _ _ _ (⟨_, .binOp .lss _ _ _ _, _, _, _, _⟩ :: _) _ _ _; refine lssT rfl rfl omD ?_) | (show SH _ _ _ _ _ (⟨_, .load _ _, _, _, _, _⟩ :: _) _ _ _; first | refine lba rfl spL (by rfl) ?_ | refine lra rfl (fun _ _ => rdX) (by rfl) omL ?_ | refine lra rfl (fun _ _ => rdX) (by rfl) (by simp only [List.length_cons, List.length_nil]; omega) ?_) | (show SH _ _ _ _ _ (⟨_, .indexAddr _ _ _, _, _, _, _⟩ :: _) _ _ _; refine ix rfl rfl (by with_reducible rfl) (fun _ _ => rdX) (by rfl) omL omL ?_) | (show SH _ _ _ _ _ (⟨_, .call ⟨.value (.tmp _), _, _⟩, _, _, _, _⟩ :: _) _ _ _; refine cp (callee := .tmp _) rfl (fun w hw => hp' _ hw.ext) rfl rfl ?_) | refine ala rfl (fun b => ?_) | (show SH _ _ _ _ _ (⟨_, .store _ _ _, _, _, _, _⟩ :: _) _ _ _; refine sta rfl rfl rfl spL (by rfl) (by rfl) (by rfl) kpL ?_)) | refine s_nil ?_ | refine kh_normal ?_))
      rintro _ _ ⟨A3, c3, rfl, rfl⟩
      (repeat' (first | (show VH _ _ _ _ _ _ _; first | refine v_seq ?_ | refine r_seq ?_ | refine v_cond_t rfl tbL ?_) | (show SH _ _ _ _ _ (_ :: _) _ _ _; first | (show SH _ _ _ _ _ (⟨_, .move _, _, _, _, _⟩ :: _) _ _ _; refine mov evL ?_) | (show SH _ _ _ _ _ (⟨_, .assign _, _, _, _, _⟩ :: _) _ _ _; refine asg evL ?_) | (show SH _ _ _ _ _ (⟨_, .load _ _, _, _, _, _⟩ :: _) _ _ _; refine lba rfl spL (by rfl) ?_) | refine extr rfl rfl ?_ | refine ala rfl (fun b => ?_) | (show SH _ _ _ _ _ (⟨_, .store _ _ _, _, _, _, _⟩ :: _) _ _ _; refine sta rfl rfl rfl spL (by rfl) (by rfl) (by rfl) kpL ?_)) | refine s_nil ?_ | refine kh_normal ?_))
      refine bsl (l := [(⟨yk, A3, c3⟩ : EntP)]) rfl rfl (Vals.cons rfl Vals.nil) rfl rfl (by decide) (fun b9 => ?_)
      (repeat' (first | (show VH _ _ _ _ _ _ _; first | refine v_seq ?_ | refine r_seq ?_ | refine r_quiet hmix (by kernel_rfl) ?_ | refine v_block ?_ | refine v_ret ?_ | refine v_skip ?_ | refine v_exit ?_ | refine v_label ?_ | refine v_cond_t rfl tbL ?_ | refine v_cond_f rfl tbL ?_ | refine v_cond_dec rfl (fun h => ?_) (fun h => ?_) | refine v_cond_ndec rfl (fun h => ?_) (fun h => ?_) | refine v_cond rfl (fun h => ?_) (fun h => ?_)) | (show SH _ _ _ _ _ (_ :: _) _ _ _; first | (show SH _ _ _ _ _ (⟨_, .move _, _, _, _, _⟩ :: _) _ _ _; refine mov evL ?_) | (show SH _ _ _ _ _ (⟨_, .assign _, _, _, _, _⟩ :: _) _ _ _; refine asg evL ?_) | (show SH _ _ _ _ _ (⟨_, .binOp .lss _ _ _ _, _, _, _, _⟩ :: _) _ _ _; first | refine lssT rfl rfl omD ?_ | refine lssF rfl rfl omD ?_ | refine lss rfl rfl ?_) | (show SH _ _ _ _ _ (⟨_, .binOp .add _ _ _ _, _, _, _, _⟩ :: _) _ _ _; refine add rfl rfl inL ?_) | (show SH _ _ _ _ _ (⟨_, .load _ _, _, _, _, _⟩ :: _) _ _ _; first | refine lin rfl (fun _ _ => rdX) omL ?_ | refine lbx rfl spL (by rfl) ?_ | refine lba rfl spL (by rfl) ?_ | refine lbi rfl spL omL ?_ | refine lr1 rfl (fun _ _ => rdX) (by rfl) omL (by rfl) ?_ | refine lra rfl (fun _ _ => rdX) (by rfl) omL ?_ | refine lrf rfl (fun _ _ => rdX) (by rfl) omL (by rfl) ?_ | refine lcell rfl (fun w hw => hw.ext.cell (by assumption)) ?_ | refine lrs rfl (fun _ _ => rdX) (by rfl) omL (by rfl) (by rfl) ?_ | refine lbs rfl spL (by rfl) (by rfl) ?_ | refine lca rfl (fun _ _ => rdX) (by rfl) ?_ | refine lcs rfl (fun _ _ => rdX) (by rfl) ?_ | refine lcf rfl (fun _ _ => rdX) (by rfl) ?_ | refine lrf rfl (fun _ _ => rdX) (by rfl) (by simp only [List.length_cons, List.length_nil]; omega) (by rfl) ?_ | refine lra rfl (fun _ _ => rdX) (by rfl) (by simp only [List.length_cons, List.length_nil]; omega) ?_) | (show SH _ _ _ _ _ (⟨_, .indexAddr _ _ _, _, _, _, _⟩ :: _) _ _ _; first | refine ix rfl rfl (by with_reducible rfl) (fun _ _ => rdX) (by rfl) omL omL ?_ | refine ixi rfl rfl (fun _ _ => rdX) (by rfl) omL omL omL ?_ | refine ixb rfl rfl omL ?_ | refine ixq rfl rfl (by assumption) omL omL ?_ | refine ixA _ rfl rfl rfl omL ?_ | refine ixi rfl rfl (fun _ _ => rdX) (by rfl) omL (by first | omega | (simp only [List.length_cons, List.length_nil]; omega)) (by simp only [List.length_cons, List.length_nil]; omega) ?_) | refine slen rfl ?_ | refine extr rfl rfl ?_ | (show SH _ _ _ _ _ (⟨_, .alloc _, _, _, _, _⟩ :: _) _ _ _; first | refine al1 rfl (fun b => ?_) | refine ala rfl (fun b => ?_)) | (show SH _ _ _ _ _ (⟨_, .store _ _ _, _, _, _, _⟩ :: _) _ _ _; first | refine stb rfl rfl evL spL rfl rfl (by first | decide | exact Nat.zero_lt_succ _ | exact of_decide_eq_true rfl) kpL ?_ | refine sta rfl rfl rfl spL (by rfl) (by rfl) (by rfl) kpL ?_ | refine sti rfl rfl rfl spL omL kpL ?_ | refine sbi rfl rfl rfl spL omL kpL ?_ | refine sbs rfl rfl evL spL (by rfl) (by rfl) (of_decide_eq_true rfl) kpL ?_) | (show SH _ _ _ _ _ (⟨_, .buildSlice _ _ _, _, _, _, _⟩ :: _) _ _ _; refine bsl (α := Int) rfl rfl (by repeat (first | exact Vals.nil | (apply Vals.cons; rfl))) rfl (by rfl) (by decide) (fun b => ?_))) | refine s_nil ?_ | refine s_fork ?_ ?_ | refine s_fork3 ?_ ?_ ?_ | refine s_fork4 ?_ ?_ ?_ ?_ | refine kh_normal ?_ | refine kh_ret ?_ | refine kh_exit ?_ | refine bh_normal ?_ | refine bh_ret ?_ | refine bh_exit ?_ | refine bh_exit_ne rfl ?_))
      refine app (l := L) (l2 := [(⟨yk, A3, c3⟩ : EntP)]) rfl rfl rfl spL (fun w hw => hw.rd spL) rfl rfl rfl (by simp only [List.length_cons, List.length_nil]; omega) (by simp only [List.length_cons, List.length_nil]; omega) (fun A4 c4 => ⟨enL, ?_⟩)
      (repeat' (first | refine r_seq ?_ | (show SH _ _ _ _ _ (_ :: _) _ _ _; first | (show SH _ _ _ _ _ (⟨_, .move _, _, _, _, _⟩ :: _) _ _ _; refine mov evL ?_) | (show SH _ _ _ _ _ (⟨_, .assign _, _, _, _, _⟩ :: _) _ _ _; refine asg evL ?_) | (show SH _ _ _ _ _ (⟨_, .binOp .add _ _ _ _, _, _, _, _⟩ :: _) _ _ _; refine add rfl rfl inL ?_)) | refine s_nil ?_ | refine kh_normal ?_ | refine bh_normal ?_))
      refine ⟨agL, (k + 1, (A4, c4), L ++ [⟨yk, A3, c3⟩]), hsL, ?_, ⟨hkl, by rw [hn]; exact map_snoc_e _ _⟩, by show _ - (k + 1) < _ - k; omega⟩
      exact Ent.trans (B := [orow 37 A4 c4 (L ++ [⟨yk, A3, c3⟩]), orow 42 A3 c3 yk.comps, allH (L.map rowOf)]) enL (ent_cons Split.head (ent_all_snoc (f := rowOf) (x := ⟨yk, A3, c3⟩)))
    | false =>
      rw [if_neg (by rw [hb]; simp), List.append_nil, ← hL] at hn
      simp only [hb] at hp'
      (repeat' (first | (show VH _ _ _ _ _ _ _; first | refine v_seq ?_ | refine r_seq ?_ | refine v_block ?_ | refine v_skip ?_ | refine v_cond_t rfl tbL ?_) | (show SH _ _ _ _ _ (_ :: _) _ _ _; first | (show SH _ _ _ _ _ (⟨_, .move _, _, _, _, _⟩ :: _) _ _ _; refine mov evL ?_) | (show SH _ _ _ _ _ (⟨_, .binOp .lss _ _ _ _, _, _, _, _⟩ :: _) _ _ _; refine lssT rfl rfl omD ?_) | (show SH _ _ _ _ _ (⟨_, .load _ _, _, _, _, _⟩ :: _) _ _ _; first | refine lba rfl spL (by rfl) ?_ | refine lra rfl (fun _ _ => rdX) (by rfl) omL ?_ | refine lra rfl (fun _ _ => rdX) (by rfl) (by simp only [List.length_cons, List.length_nil]; omega) ?_) | (show SH _ _ _ _ _ (⟨_, .indexAddr _ _ _, _, _, _, _⟩ :: _) _ _ _; refine ix rfl rfl (by with_reducible rfl) (fun _ _ => rdX) (by rfl) omL omL ?_) | (show SH _ _ _ _ _ (⟨_, .call ⟨.value (.tmp _), _, _⟩, _, _, _, _⟩ :: _) _ _ _; refine cp (callee := .tmp _) rfl (fun w hw => hp' _ hw.ext) rfl rfl ?_) | refine ala rfl (fun b => ?_) | (show SH _ _ _ _ _ (⟨_, .store _ _ _, _, _, _, _⟩ :: _) _ _ _; refine sta rfl rfl rfl spL (by rfl) (by rfl) (by rfl) kpL ?_)) | refine s_nil ?_ | refine kh_normal ?_))
      rintro _ _ ⟨A3, c3, rfl, rfl⟩
      (repeat' (first | (show VH _ _ _ _ _ _ _; first | refine v_seq ?_ | refine r_seq ?_ | refine v_skip ?_ | refine v_cond_f rfl tbL ?_) | (show SH _ _ _ _ _ (_ :: _) _ _ _; first | (show SH _ _ _ _ _ (⟨_, .move _, _, _, _, _⟩ :: _) _ _ _; refine mov evL ?_) | (show SH _ _ _ _ _ (⟨_, .assign _, _, _, _, _⟩ :: _) _ _ _; refine asg evL ?_) | (show SH _ _ _ _ _ (⟨_, .binOp .add _ _ _ _, _, _, _, _⟩ :: _) _ _ _; refine add rfl rfl inL ?_) | refine extr rfl rfl ?_ | refine ala rfl (fun b => ?_) | (show SH _ _ _ _ _ (⟨_, .store _ _ _, _, _, _, _⟩ :: _) _ _ _; refine sta rfl rfl rfl spL (by rfl) (by rfl) (by rfl) kpL ?_)) | refine s_nil ?_ | refine kh_normal ?_ | refine bh_normal ?_))
      exact ⟨agL, (k + 1, (A1, c2), L), hsL, enL, ⟨hkl, hn.symm⟩, by show _ - (k + 1) < _ - k; omega⟩
  · have hke : k = l.length := by omega
    subst hke
    rw [List.take_length] at hL
    (repeat' (first | (show VH _ _ _ _ _ _ _; first | refine v_seq ?_ | refine r_seq ?_ | refine v_ret ?_ | refine v_exit ?_ | refine v_cond_f rfl tbL ?_) | (show SH _ _ _ _ _ (_ :: _) _ _ _; first | (show SH _ _ _ _ _ (⟨_, .move _, _, _, _, _⟩ :: _) _ _ _; refine mov evL ?_) | (show SH _ _ _ _ _ (⟨_, .assign _, _, _, _, _⟩ :: _) _ _ _; refine asg evL ?_) | (show SH _ _ _ _ _ (⟨_, .binOp .lss _ _ _ _, _, _, _, _⟩ :: _) _ _ _; refine lssF rfl rfl omD ?_)) | refine s_nil ?_ | refine kh_normal ?_ | refine kh_exit ?_ | refine bh_exit ?_))
    exact rh1 rfl rfl ⟨A1, c2, L, rfl, hL, rfl⟩ enL
def maskE (ct : Int) (e : Ent1) : Int := if ownsE ct e then 4294967295 else 1310
def viewE (ct : Int) (e : Ent1) : Ent1 := ⟨e.id, partC (maskE ct e) e.comps⟩
def viewL (ct t : Int) (es : List Ent1) : List Ent1 := if OkI ct t es then (es.filter (seesE ct.toNat (ptsE ct es))).map (viewE ct) else []
def viewT (ct t : Int) (es : List Ent1) : Int := if OkI ct t es then t else 0
set_option maxHeartbeats 2000000 in
set_option maxRecDepth 100000 in
theorem viewPick (w : World) (b : Nat) (cn : Nat) (h8 : 1 ≤ cn ∧ cn ≤ 8) (A0 : Option Addr) (ps : List Pt) (c0 : Nat) (x : EntP) (hl : x.e.comps.length ≤ 1000000) (hr : Rd w x.A x.e.comps) (hE : RightE x.e) (hps : Rd w A0 ps) (hin : ∀ q ∈ ps, InC q) (hpl : ps.length ≤ 140737488355328)
    (hk : Rd w (some ⟨b, 0, none⟩) [(⟨cn, A0, ps.length, c0⟩ : EyeV)]) : Ret Tryd.prog 31 [.agg (Flat.enc x).toArray, .pointer (some ⟨b, 0, none⟩)].toArray w
    (RP w fun v H' => ∃ A c, v = .tuple #[.agg #[.int .i64 (viewE cn x.e).id, .slice A (viewE cn x.e).comps.length c], .bool (seesE cn ps x.e)] ∧ H' = [orow 42 A c (viewE cn x.e).comps]) := by
  have hO := fun w' (he : Ext w w') => owns_spec cn A0 ps.length c0 x w' (by omega) (hr.ext he)
  have hS := fun w' (he : Ext w w') => sees_spec cn h8 A0 ps c0 x w' (by omega) (hr.ext he) hE (hps.ext he) hin hpl
  have hP := fun m w' (he : Ext w w') => part_spec x m w' hl (hr.ext he)
  unfold viewE maskE
  unfold OwnR at hP
  generalize seesE cn ps x.e = q at hS ⊢
  generalize ownsE cn x.e = ow at hO ⊢
  obtain ⟨⟨ei, cs⟩, A, c1⟩ := x
  try simp only at hO hS hP ⊢
  rw [show Flat.enc (⟨⟨ei, cs⟩, A, c1⟩ : EntP) = [.int .i64 ei, .slice A cs.length c1] from rfl] at *
  generalize cs.length = m at hO hS hP ⊢
  clear hin hE hps
  cases ow with
  | true =>
    simp only [if_true]
    have hP' := hP 4294967295
    generalize partC 4294967295 cs = P at hP' ⊢
    clear hP
    refine enterH Tryd.func31 rfl rfl Tryd.ntmps31 rfl (Wd.refl _) ?_
    (repeat' (first | (show VH _ _ _ _ _ _ _; first | refine v_seq ?_ | refine r_seq ?_ | refine v_cond_t rfl tbL ?_) | (show SH _ _ _ _ _ (_ :: _) _ _ _; first | (show SH _ _ _ _ _ (⟨_, .assign _, _, _, _, _⟩ :: _) _ _ _; refine asg evL ?_) | (show SH _ _ _ _ _ (⟨_, .load _ _, _, _, _, _⟩ :: _) _ _ _; first | refine lba rfl spL (by rfl) ?_ | refine lca rfl (fun _ _ => rdX) (by rfl) ?_) | (show SH _ _ _ _ _ (⟨_, .call ⟨.value (.func 32), _, _⟩, _, _, _, _⟩ :: _) _ _ _; refine cl (callee := .func 32) rfl (fun w hw => hO _ hw.ext) rfl rfl ?_) | refine ala rfl (fun b => ?_) | (show SH _ _ _ _ _ (⟨_, .box _ _, _, _, _, _⟩ :: _) _ _ _; refine bxx rfl evL rfl (fun b => ?_))) | refine s_nil ?_ | refine kh_normal ?_))
    rename_i b2
    refine r_heldT [bx b2 37 _] (tr [(0, true), (1, true), (3, true), (4, true), (2, false), (5, false), (6, false), (7, false)] .nil) hmix (by kernel_rfl) enL ?_
    (repeat' ((show SH _ _ _ _ _ (_ :: _) _ _ _; first | (show SH _ _ _ _ _ (⟨_, .move _, _, _, _, _⟩ :: _) _ _ _; refine mov evL ?_) | (show SH _ _ _ _ _ (⟨_, .load _ _, _, _, _, _⟩ :: _) _ _ _; first | refine lba rfl spL (by rfl) ?_ | refine lca rfl (fun _ _ => rdX) (by rfl) ?_) | (show SH _ _ _ _ _ (⟨_, .call ⟨.value (.func 33), _, _⟩, _, _, _, _⟩ :: _) _ _ _; refine cp (callee := .func 33) rfl (fun w hw => hP' _ hw.ext) rfl rfl ?_))))
    rintro _ _ ⟨A2, c2, rfl, rfl⟩
    (repeat' (first | refine v_ret ?_ | (show SH _ _ _ _ _ (_ :: _) _ _ _; first | (show SH _ _ _ _ _ (⟨_, .assign _, _, _, _, _⟩ :: _) _ _ _; refine asg evL ?_) | (show SH _ _ _ _ _ (⟨_, .call ⟨.value (.func 29), _, _⟩, _, _, _, _⟩ :: _) _ _ _; refine cl (callee := .func 29) rfl (fun w hw => hS _ hw.ext) rfl rfl ?_) | (show SH _ _ _ _ _ (⟨_, .store _ _ _, _, _, _, _⟩ :: _) _ _ _; refine sta rfl rfl rfl spL (by rfl) (by rfl) (by rfl) kpL ?_)) | refine s_nil ?_ | refine kh_normal ?_))
    exact rhC2 rfl rfl rfl rfl (fun w hw => loadVar_bx hw spL (by rfl)) ⟨A2, c2, rfl, rfl⟩ enL
  | false =>
    simp only [Bool.false_eq_true, if_false]
    have hP' := hP 1310
    generalize partC 1310 cs = P at hP' ⊢
    clear hP
    refine enterH Tryd.func31 rfl rfl Tryd.ntmps31 rfl (Wd.refl _) ?_
    (repeat' (first | (show VH _ _ _ _ _ _ _; first | refine v_seq ?_ | refine r_seq ?_ | refine v_skip ?_ | refine v_cond_f rfl tbL ?_) | (show SH _ _ _ _ _ (_ :: _) _ _ _; first | (show SH _ _ _ _ _ (⟨_, .assign _, _, _, _, _⟩ :: _) _ _ _; refine asg evL ?_) | (show SH _ _ _ _ _ (⟨_, .load _ _, _, _, _, _⟩ :: _) _ _ _; first | refine lba rfl spL (by rfl) ?_ | refine lca rfl (fun _ _ => rdX) (by rfl) ?_) | (show SH _ _ _ _ _ (⟨_, .call ⟨.value (.func 32), _, _⟩, _, _, _, _⟩ :: _) _ _ _; refine cl (callee := .func 32) rfl (fun w hw => hO _ hw.ext) rfl rfl ?_) | refine ala rfl (fun b => ?_) | (show SH _ _ _ _ _ (⟨_, .box _ _, _, _, _, _⟩ :: _) _ _ _; refine bxx rfl evL rfl (fun b => ?_))) | refine s_nil ?_ | refine kh_normal ?_))
    rename_i b2
    refine r_heldT [bx b2 37 _] (tr [(0, true), (1, true), (3, true), (4, true), (2, false), (5, false), (6, false), (7, false)] .nil) hmix (by kernel_rfl) enL ?_
    (repeat' ((show SH _ _ _ _ _ (_ :: _) _ _ _; first | (show SH _ _ _ _ _ (⟨_, .move _, _, _, _, _⟩ :: _) _ _ _; refine mov evL ?_) | (show SH _ _ _ _ _ (⟨_, .load _ _, _, _, _, _⟩ :: _) _ _ _; first | refine lba rfl spL (by rfl) ?_ | refine lca rfl (fun _ _ => rdX) (by rfl) ?_) | (show SH _ _ _ _ _ (⟨_, .call ⟨.value (.func 33), _, _⟩, _, _, _, _⟩ :: _) _ _ _; refine cp (callee := .func 33) rfl (fun w hw => hP' _ hw.ext) rfl rfl ?_))))
    rintro _ _ ⟨A2, c2, rfl, rfl⟩
    (repeat' (first | refine v_ret ?_ | (show SH _ _ _ _ _ (_ :: _) _ _ _; first | (show SH _ _ _ _ _ (⟨_, .assign _, _, _, _, _⟩ :: _) _ _ _; refine asg evL ?_) | (show SH _ _ _ _ _ (⟨_, .call ⟨.value (.func 29), _, _⟩, _, _, _, _⟩ :: _) _ _ _; refine cl (callee := .func 29) rfl (fun w hw => hS _ hw.ext) rfl rfl ?_) | (show SH _ _ _ _ _ (⟨_, .store _ _ _, _, _, _, _⟩ :: _) _ _ _; refine sta rfl rfl rfl spL (by rfl) (by rfl) (by rfl) kpL ?_)) | refine s_nil ?_ | refine kh_normal ?_))
    exact rhC2 rfl rfl rfl rfl (fun w hw => loadVar_bx hw spL (by rfl)) ⟨A2, c2, rfl, rfl⟩ enL
theorem view_ents (b : Ent1 → Bool) (y : Ent1 → Ent1) (l : List EntP) : (l.filter fun x => b x.e).map (fun x => y x.e) = ((ents l).filter b).map y := by
  unfold ents
  rw [List.filter_map, List.map_map]; rfl
set_option maxHeartbeats 2000000 in
set_option maxRecDepth 100000 in
theorem viewI_spec (ct t : Int) (A : Option Addr) (l : List EntP) (c1 : Nat) (w : World) (hG : Glob w) (hs : Sz l) (hse : ∀ x ∈ l, x.e.comps.length ≤ 1000000) (hr : RdW w A l) :
    Ret Tryd.prog 12 [wv t A l c1, .int .i64 ct].toArray w (RP w fun v H' => ∃ A' c' L, v = .tuple #[wv (viewT ct t (ents l)) A' L c', .int .i64 (errI ct t (ents l))] ∧ L.map EntP.e = viewL ct t (ents l) ∧ H' = [orow 37 A' c' L, allH (L.map rowOf)]) := by
  have hO := fun w' (he : Ext w w') => open_spec ct t A l c1 w' (hG.ext he) hs (hr.ext he)
  unfold OpenR at hO
  unfold viewL viewT errI
  by_cases hv : OkI ct t (ents l)
  · simp only [if_pos hv] at hO ⊢
    obtain ⟨⟨hc1, hc8⟩, hV⟩ := hv
    obtain ⟨cn, rfl⟩ : ∃ cn : Nat, ct = (cn : Int) := ⟨ct.toNat, by omega⟩
    rw [Int.toNat_natCast]
    have hl : l.length ≤ 64 := by have := hV.len; rwa [ents_len] at this
    have hin := pts_in (cl := (cn : Int)) hV.right
    have hpl := pts_len (cn : Int) (ents l)
    rw [ents_len] at hpl
    have hRE : ∀ x ∈ l, RightE x.e := fun x hx => hV.right _ (List.mem_map_of_mem hx)
    clear hV
    generalize ptsE (cn : Int) (ents l) = ps at hO hin hpl ⊢
    have hF := fun w' (he : Ext w w') A1 c2 (hps : Rd w' A1 ps) b (hk : Rd w' (some ⟨b, 0, none⟩) [(⟨cn, A1, ps.length, c2⟩ : EyeV)]) => filterE_spec A l c1 (.func (.func 31) #[] #[.pointer (some ⟨b, 0, none⟩)]) (fun x => viewE cn x.e) (fun x => seesE cn ps x.e) w' (by omega) (hr.1.ext he)
      ⟨_, #[], #[.pointer (some ⟨b, 0, none⟩)], rfl, fun w'' he' x hx => by
        have := viewPick w'' b cn (by omega) A1 ps c2 x (hse x hx) ((hr.2 x hx).ext (he.trans he')) (hRE x hx) (hps.ext he') hin (by omega) (hk.ext he')
        simpa using this⟩
    rw [view_ents (seesE cn ps) (viewE cn) l] at hF
    generalize ((ents l).filter (seesE cn ps)).map (viewE cn) = V at hF ⊢
    clear hin hRE
    unfold wv at *
    refine enterH Tryd.func12 rfl rfl Tryd.ntmps12 rfl (Wd.refl _) ?_
    (repeat' (first | (show VH _ _ _ _ _ _ _; first | refine v_seq ?_ | refine r_seq ?_) | (show SH _ _ _ _ _ (_ :: _) _ _ _; first | (show SH _ _ _ _ _ (⟨_, .move _, _, _, _, _⟩ :: _) _ _ _; refine mov evL ?_) | (show SH _ _ _ _ _ (⟨_, .assign _, _, _, _, _⟩ :: _) _ _ _; refine asg evL ?_) | (show SH _ _ _ _ _ (⟨_, .load _ _, _, _, _, _⟩ :: _) _ _ _; refine lba rfl spL (by rfl) ?_) | (show SH _ _ _ _ _ (⟨_, .call ⟨.value (.func 27), _, _⟩, _, _, _, _⟩ :: _) _ _ _; refine cp (callee := .func 27) rfl (fun w hw => hO _ hw.ext) rfl rfl ?_) | refine ala rfl (fun b => ?_) | (show SH _ _ _ _ _ (⟨_, .box _ _, _, _, _, _⟩ :: _) _ _ _; refine bxx rfl evL rfl (fun b => ?_))) | refine s_nil ?_ | refine kh_normal ?_))
    rintro _ _ ⟨A1, c2, rfl, rfl⟩
    (repeat' (first | (show VH _ _ _ _ _ _ _; first | refine v_seq ?_ | refine r_seq ?_ | refine v_skip ?_ | refine v_cond_f rfl tbL ?_) | (show SH _ _ _ _ _ (_ :: _) _ _ _; first | (show SH _ _ _ _ _ (⟨_, .move _, _, _, _, _⟩ :: _) _ _ _; refine mov evL ?_) | (show SH _ _ _ _ _ (⟨_, .assign _, _, _, _, _⟩ :: _) _ _ _; refine asg evL ?_) | (show SH _ _ _ _ _ (⟨_, .binOp .neq _ _ _ _, _, _, _, _⟩ :: _) _ _ _; refine neqF rfl rfl omD ?_) | (show SH _ _ _ _ _ (⟨_, .load _ _, _, _, _, _⟩ :: _) _ _ _; refine lbx rfl spL (by rfl) ?_) | (show SH _ _ _ _ _ (⟨_, .call ⟨.value (.func 30), _, _⟩, _, _, _, _⟩ :: _) _ _ _; refine cp (callee := .func 30) rfl (fun w hw => hF _ hw.ext A1 c2 (hw.rd spL) _ (rd_box hw spL rfl)) rfl rfl ?_) | refine extr rfl rfl ?_ | refine fad rfl ?_ | (show SH _ _ _ _ _ (⟨_, .makeFunc _ _ _, _, _, _, _⟩ :: _) _ _ _; refine mf1 evL ?_) | refine ala rfl (fun b => ?_) | (show SH _ _ _ _ _ (⟨_, .store _ _ _, _, _, _, _⟩ :: _) _ _ _; refine sta rfl rfl rfl spL (by rfl) (by rfl) (by rfl) kpL ?_)) | refine s_nil ?_ | refine kh_normal ?_))
    rintro _ _ ⟨A2, c3, L, rfl, hL, rfl⟩
    (repeat' (first | (show VH _ _ _ _ _ _ _; first | refine v_seq ?_ | refine r_seq ?_ | refine v_ret ?_) | (show SH _ _ _ _ _ (_ :: _) _ _ _; first | (show SH _ _ _ _ _ (⟨_, .move _, _, _, _, _⟩ :: _) _ _ _; refine mov evL ?_) | (show SH _ _ _ _ _ (⟨_, .assign _, _, _, _, _⟩ :: _) _ _ _; refine asg evL ?_) | (show SH _ _ _ _ _ (⟨_, .load _ _, _, _, _, _⟩ :: _) _ _ _; refine lbx rfl spL (by rfl) ?_) | refine fad rfl ?_ | refine bld rfl rfl ?_ | (show SH _ _ _ _ _ (⟨_, .store _ _ _, _, _, _, _⟩ :: _) _ _ _; refine sta rfl rfl rfl spL (by rfl) (by rfl) (by rfl) kpL ?_)) | refine s_nil ?_ | refine kh_normal ?_))
    exact rhC2 rfl rfl rfl rfl (fun w hw => loadVar_bx hw spL (by rfl)) ⟨A2, c3, L, rfl, hL, rfl⟩ enL
  · simp only [if_neg hv] at hO ⊢
    clear hv
    unfold wv at *
    refine enterH Tryd.func12 rfl rfl Tryd.ntmps12 rfl (Wd.refl _) ?_
    (repeat' (first | (show VH _ _ _ _ _ _ _; first | refine v_seq ?_ | refine r_seq ?_) | (show SH _ _ _ _ _ (_ :: _) _ _ _; first | (show SH _ _ _ _ _ (⟨_, .move _, _, _, _, _⟩ :: _) _ _ _; refine mov evL ?_) | (show SH _ _ _ _ _ (⟨_, .assign _, _, _, _, _⟩ :: _) _ _ _; refine asg evL ?_) | (show SH _ _ _ _ _ (⟨_, .load _ _, _, _, _, _⟩ :: _) _ _ _; refine lba rfl spL (by rfl) ?_) | (show SH _ _ _ _ _ (⟨_, .call ⟨.value (.func 27), _, _⟩, _, _, _, _⟩ :: _) _ _ _; refine cp (callee := .func 27) rfl (fun w hw => hO _ hw.ext) rfl rfl ?_) | refine ala rfl (fun b => ?_) | (show SH _ _ _ _ _ (⟨_, .box _ _, _, _, _, _⟩ :: _) _ _ _; refine bxx rfl evL rfl (fun b => ?_))) | refine s_nil ?_ | refine kh_normal ?_))
    rintro _ _ ⟨rfl, rfl⟩
    (repeat' (first | (show VH _ _ _ _ _ _ _; first | refine v_seq ?_ | refine r_seq ?_ | refine v_ret ?_ | refine v_cond_t rfl tbL ?_) | (show SH _ _ _ _ _ (_ :: _) _ _ _; first | (show SH _ _ _ _ _ (⟨_, .move _, _, _, _, _⟩ :: _) _ _ _; refine mov evL ?_) | (show SH _ _ _ _ _ (⟨_, .assign _, _, _, _, _⟩ :: _) _ _ _; refine asg evL ?_) | (show SH _ _ _ _ _ (⟨_, .binOp .neq _ _ _ _, _, _, _, _⟩ :: _) _ _ _; refine neqT rfl rfl omD ?_) | refine extr rfl rfl ?_ | refine bld rfl rfl ?_ | refine ala rfl (fun b => ?_) | (show SH _ _ _ _ _ (⟨_, .store _ _ _, _, _, _, _⟩ :: _) _ _ _; refine sta rfl rfl rfl spL (by rfl) (by rfl) (by rfl) kpL ?_)) | refine s_nil ?_ | refine kh_normal ?_ | refine kh_ret ?_))
    exact rhC2 rfl rfl rfl rfl (fun w hw => loadVar_bx hw spL (by rfl)) ⟨none, 0, [], rfl, rfl, rfl⟩ (ent_nilrow (ent_all_nil (ent_nil _)))
end Go.Proofs.YtjefoecnciepmaaDoor
