/- Package auction: the ways in which an offer changes a lot. -/
import Derived.Test.YtehjdbgijibmcaaZCc
set_option linter.unusedSimpArgs false
set_option linter.unusedVariables false
namespace Go.Proofs.Ytehjdbgijibmcaa
open Go.Fw Go.RowKit
theorem lset_self {l : List Lot} {i : Nat} {x : Lot} (h : i < l.length) : (l.set i x).getD i Flat.dflt = x := by simp [List.getD_eq_getElem?_getD, h]
set_option maxRecDepth 100000 in
theorem offer4_spec (A : Option Addr) (c i : Nat) (lots : List Lot) (bm : Nat) (most : Int) (w0 : World) (H : List HP) (w : World) (hi : i < lots.length)
    (hw : Wd w0 (orow 38 A c lots :: bx bm 3 [.int .i64 most] :: H) w) :
    Ret Try.prog 55 [.pointer (some ((adr A).add (i * 9))), .pointer (some ⟨bm, 0, none⟩)].toArray w
      (RP w0 fun v H' => v = .slice none 0 0 ∧ H' = orow 38 A c (lots.set i { lots.getD i Flat.dflt with price := min (lots.getD i Flat.dflt).most (nextP most) }) :: bx bm 3 [.int .i64 most] :: H) := by
  refine enterH Try.func55 rfl rfl Try.ntmps55 rfl (by assumption) ?_
  (repeat' (first | (show VH _ _ _ _ _ _ _; first | refine v_seq ?_ | refine r_seq ?_) | refine asg evL ?_ | refine s_nil ?_ | refine kh_normal ?_))
  refine r_held [bx bm 3 [.int .i64 most], cellp (((adr A).add (i * 9)).add 7) (.int .i64 (lots.getD i Flat.dflt).most)] [(0, true), (1, true), (2, true), (3, true), (4, true), (5, false), (6, false), (7, false), (8, false), (9, false), (10, false)] hmix (by kernel_rfl) (ent_cons spL (ent_cellp spL (ent_nil _) rfl hi rfl)) ?_
  (repeat' ((show SH _ _ _ _ _ (_ :: _) _ _ _; first | refine mov evL ?_ | refine nlc rfl ?_ | refine fad rfl ?_)))
  refine lcell rfl (fun w hw => hw.cellp spL) ?_
  (repeat' ((show SH _ _ _ _ _ (_ :: _) _ _ _; first | refine lbx rfl spL (by rfl) ?_ | refine bmin rfl rfl ?_ | (show SH _ _ _ _ _ (⟨_, .call ⟨.value (.func 21), _, _⟩, _, _, _, _⟩ :: _) _ _ _; refine cl (callee := .func 21) rfl (fun w hw => next_spec _ w) rfl rfl ?_) | refine nlc rfl ?_ | refine fad rfl ?_)))
  refine stf { lots.getD i Flat.dflt with price := min (lots.getD i Flat.dflt).most (nextP most) } rfl rfl rfl spL rfl hi rfl rfl (by decide) rfl (ent_cons spL (ent_cellp spL (ent_nil _) rfl (by simpa using hi) (by rw [lset_self hi]; rfl))) ?_
  (repeat' (first | (show VH _ _ _ _ _ _ _; first | refine v_seq ?_ | refine r_seq ?_ | refine v_ret ?_) | refine asg evL ?_ | refine s_nil ?_ | refine kh_normal ?_))
  exact rh1 rfl rfl ⟨rfl, rfl⟩ enL
set_option maxHeartbeats 1000000 in
set_option maxRecDepth 100000 in
theorem offer1_spec (A : Option Addr) (c i : Nat) (lots : List Lot) (bw bm : Nat) (who most : Int) (w0 : World) (H : List HP) (w : World) (hi : i < lots.length)
    (hw : Wd w0 (orow 38 A c lots :: bx bw 3 [.int .i64 who] :: bx bm 3 [.int .i64 most] :: H) w) :
    Ret Try.prog 52 [.pointer (some ((adr A).add (i * 9))), .pointer (some ⟨bw, 0, none⟩), .pointer (some ⟨bm, 0, none⟩)].toArray w
      (RP w0 fun v H' => ∃ B d, v = .slice B (movesN [⟨who, 0, 0, most⟩]).length d ∧ H' = orow 36 B d (movesN [⟨who, 0, 0, most⟩]) :: orow 38 A c (lots.set i { lots.getD i Flat.dflt with leader := who, most := most, price := (lots.getD i Flat.dflt).reserve }) :: bx bw 3 [.int .i64 who] :: bx bm 3 [.int .i64 most] :: H) := by
  refine enterH Try.func52 rfl rfl Try.ntmps52 rfl (by assumption) ?_
  (repeat' (first | (show VH _ _ _ _ _ _ _; first | refine v_seq ?_ | refine r_seq ?_) | refine asg evL ?_ | refine s_nil ?_ | refine kh_normal ?_))
  refine r_held [bx bw 3 [.int .i64 who], bx bm 3 [.int .i64 most]] [(0, true), (1, true), (2, true), (3, true), (4, true), (5, false), (6, false), (7, false), (8, false), (9, false), (10, false), (11, false), (12, false), (13, false), (14, false), (15, false), (16, false), (17, false)] hmix (by kernel_rfl) enL ?_
  (repeat' ((show SH _ _ _ _ _ (_ :: _) _ _ _; first | refine mov evL ?_ | (show SH _ _ _ _ _ (⟨_, .load _ _, _, _, _, _⟩ :: _) _ _ _; first | refine lbx rfl spL (by rfl) ?_ | refine lrf rfl (fun _ _ => rdL) (by rfl) omL (by rfl) ?_) | refine nlc rfl ?_ | refine fad rfl ?_)))
  refine stf { lots.getD i Flat.dflt with leader := who } rfl rfl rfl spL rfl hi rfl rfl (by decide) rfl enL ?_
  (repeat' ((show SH _ _ _ _ _ (_ :: _) _ _ _; first | refine nlc rfl ?_ | refine fad rfl ?_)))
  refine stf { lots.getD i Flat.dflt with leader := who, most := most } rfl rfl rfl spL rfl (by simpa using hi) rfl rfl (by decide) (by rw [lset_self hi]; rfl) enL ?_
  rw [List.set_set]
  (repeat' ((show SH _ _ _ _ _ (_ :: _) _ _ _; first | refine nlc rfl ?_ | refine fad rfl ?_)))
  refine stf { lots.getD i Flat.dflt with leader := who, most := most, price := (lots.getD i Flat.dflt).reserve } rfl rfl rfl spL rfl (by simpa using hi) rfl rfl (by decide) (by rw [lset_self hi]; rfl) enL ?_
  rw [List.set_set]
  (repeat' (first | (show VH _ _ _ _ _ _ _; first | refine v_seq ?_ | refine r_seq ?_) | (show SH _ _ _ _ _ (_ :: _) _ _ _; first | refine lbx rfl spL (by rfl) ?_ | refine bld rfl rfl ?_) | refine s_nil ?_ | refine kh_normal ?_))
  refine bsl (l := [(⟨who, 0, 0, most⟩ : Mv)]) rfl rfl (Vals.cons rfl Vals.nil) rfl rfl (by decide) (fun b3 => ?_)
  refine cm rfl (fun w hw => moves_spec (some ⟨b3, 0, none⟩) [(⟨who, 0, 0, most⟩ : Mv)] 1 _ _ w (by simp) hw) rfl rfl ?_
  rintro _ _ ⟨rfl, rfl⟩
  refine ⟨trivial, ?_⟩
  (repeat' (first | refine v_ret ?_ | refine asg evL ?_ | refine s_nil ?_ | refine kh_normal ?_))
  exact rh1 rfl rfl ⟨some ⟨b3, 0, none⟩, 1, rfl, rfl⟩ enL
set_option maxHeartbeats 1000000 in
set_option maxRecDepth 100000 in
theorem offer2_spec (A : Option Addr) (c i : Nat) (lots : List Lot) (bw bm : Nat) (who most : Int) (w0 : World) (H : List HP) (w : World) (hi : i < lots.length)
    (h0 : -10000000000 ≤ most ∧ most ≤ 10000000000) (h1 : -10000000000 ≤ (lots.getD i Flat.dflt).most ∧ (lots.getD i Flat.dflt).most ≤ 10000000000)
    (hw : Wd w0 (orow 38 A c lots :: bx bw 3 [.int .i64 who] :: bx bm 3 [.int .i64 most] :: H) w) :
    Ret Try.prog 53 [.pointer (some ((adr A).add (i * 9))), .pointer (some ⟨bm, 0, none⟩), .pointer (some ⟨bw, 0, none⟩)].toArray w
      (RP w0 fun v H' => ∃ B d, v = .slice B (movesN [⟨who, 0, 0, most - (lots.getD i Flat.dflt).most⟩]).length d ∧ H' = orow 36 B d (movesN [⟨who, 0, 0, most - (lots.getD i Flat.dflt).most⟩]) :: orow 38 A c (lots.set i { lots.getD i Flat.dflt with most := most }) :: bx bw 3 [.int .i64 who] :: bx bm 3 [.int .i64 most] :: H) := by
  refine enterH Try.func53 rfl rfl Try.ntmps53 rfl (by assumption) ?_
  (repeat' (first | (show VH _ _ _ _ _ _ _; first | refine v_seq ?_ | refine r_seq ?_ | refine r_quiet hmix (by kernel_rfl) ?_) | (show SH _ _ _ _ _ (_ :: _) _ _ _; first | refine mov evL ?_ | refine asg evL ?_ | refine sub rfl rfl inL ?_ | (show SH _ _ _ _ _ (⟨_, .load _ _, _, _, _, _⟩ :: _) _ _ _; first | refine lbx rfl spL (by rfl) ?_ | refine lrf rfl (fun _ _ => rdL) (by rfl) omL (by rfl) ?_) | refine nlc rfl ?_ | refine fad rfl ?_) | refine s_nil ?_ | refine kh_normal ?_))
  refine stf { lots.getD i Flat.dflt with most := most } rfl rfl rfl spL rfl hi rfl rfl (by decide) rfl trivial ?_
  (repeat' (first | (show VH _ _ _ _ _ _ _; first | refine v_seq ?_ | refine r_seq ?_) | (show SH _ _ _ _ _ (_ :: _) _ _ _; first | refine mov evL ?_ | refine lbx rfl spL (by rfl) ?_ | refine bld rfl rfl ?_) | refine s_nil ?_ | refine kh_normal ?_))
  refine bsl (l := [(⟨who, 0, 0, most - (lots.getD i Flat.dflt).most⟩ : Mv)]) rfl rfl (Vals.cons rfl Vals.nil) rfl rfl (by decide) (fun b3 => ?_)
  refine cm rfl (fun w hw => moves_spec (some ⟨b3, 0, none⟩) [(⟨who, 0, 0, most - (lots.getD i Flat.dflt).most⟩ : Mv)] 1 _ _ w (by simp) hw) rfl rfl ?_
  rintro _ _ ⟨rfl, rfl⟩
  refine ⟨trivial, ?_⟩
  (repeat' (first | refine v_ret ?_ | refine asg evL ?_ | refine s_nil ?_ | refine kh_normal ?_))
  exact rh1 rfl rfl ⟨some ⟨b3, 0, none⟩, 1, rfl, rfl⟩ enL
set_option maxHeartbeats 1000000 in
set_option maxRecDepth 100000 in
theorem offer3_spec (A : Option Addr) (c i : Nat) (lots : List Lot) (bw bm : Nat) (who most : Int) (w0 : World) (H : List HP) (w : World) (hi : i < lots.length)
    (hw : Wd w0 (orow 38 A c lots :: bx bw 3 [.int .i64 who] :: bx bm 3 [.int .i64 most] :: H) w) :
    Ret Try.prog 54 [.pointer (some ((adr A).add (i * 9))), .pointer (some ⟨bw, 0, none⟩), .pointer (some ⟨bm, 0, none⟩)].toArray w
      (RP w0 fun v H' => ∃ B d, v = .slice B (movesN [⟨who, 0, 0, most⟩, ⟨0, (lots.getD i Flat.dflt).leader, 0, (lots.getD i Flat.dflt).most⟩]).length d ∧ H' = orow 36 B d (movesN [⟨who, 0, 0, most⟩, ⟨0, (lots.getD i Flat.dflt).leader, 0, (lots.getD i Flat.dflt).most⟩]) :: orow 38 A c (lots.set i { lots.getD i Flat.dflt with leader := who, most := most, price := min most (nextP (lots.getD i Flat.dflt).most) }) :: bx bw 3 [.int .i64 who] :: bx bm 3 [.int .i64 most] :: H) := by
  refine enterH Try.func54 rfl rfl Try.ntmps54 rfl (by assumption) ?_
  (repeat' (first | (show VH _ _ _ _ _ _ _; first | refine v_seq ?_ | refine r_seq ?_) | refine asg evL ?_ | refine s_nil ?_ | refine kh_normal ?_))
  refine r_held [orow 38 A c lots] [(0, true), (1, true), (2, true), (3, true), (4, true), (5, true), (6, true), (7, true), (8, true), (9, false), (10, false)] hmix (by kernel_rfl) enL ?_
  (repeat' (first | refine v_seq ?_ | (show SH _ _ _ _ _ (_ :: _) _ _ _; first | refine mov evL ?_ | refine lrf rfl (fun _ _ => rdL) (by rfl) omL (by rfl) ?_ | refine nlc rfl ?_ | refine fad rfl ?_ | refine bld rfl rfl ?_ | refine ala rfl (fun b => ?_) | refine sta rfl rfl rfl spL (by rfl) (by rfl) (by rfl) kpL ?_) | refine s_nil ?_ | refine kh_normal ?_))
  refine r_held [bx bw 3 [.int .i64 who], bx bm 3 [.int .i64 most]] [(0, true), (1, true), (2, true), (3, true), (4, true), (5, true), (6, false), (7, false), (8, false), (9, false), (10, false), (11, true), (12, false), (13, false), (14, false), (15, false), (16, false), (17, false), (18, false), (19, false), (20, false)] hmix (by kernel_rfl) enL ?_
  (repeat' ((show SH _ _ _ _ _ (_ :: _) _ _ _; first | refine mov evL ?_ | (show SH _ _ _ _ _ (⟨_, .load _ _, _, _, _, _⟩ :: _) _ _ _; first | refine lbx rfl spL (by rfl) ?_ | refine lrf rfl (fun _ _ => rdL) (by rfl) omL (by rfl) ?_) | refine bmin rfl rfl ?_ | (show SH _ _ _ _ _ (⟨_, .call ⟨.value (.func 21), _, _⟩, _, _, _, _⟩ :: _) _ _ _; refine cl (callee := .func 21) rfl (fun w hw => next_spec _ w) rfl rfl ?_) | refine nlc rfl ?_ | refine fad rfl ?_)))
  refine stf { lots.getD i Flat.dflt with leader := who } rfl rfl rfl spL rfl hi rfl rfl (by decide) rfl enL ?_
  (repeat' ((show SH _ _ _ _ _ (_ :: _) _ _ _; first | refine nlc rfl ?_ | refine fad rfl ?_)))
  refine stf { lots.getD i Flat.dflt with leader := who, most := most } rfl rfl rfl spL rfl (by simpa using hi) rfl rfl (by decide) (by rw [lset_self hi]; rfl) enL ?_
  rw [List.set_set]
  (repeat' ((show SH _ _ _ _ _ (_ :: _) _ _ _; first | refine nlc rfl ?_ | refine fad rfl ?_)))
  refine stf { lots.getD i Flat.dflt with leader := who, most := most, price := min most (nextP (lots.getD i Flat.dflt).most) } rfl rfl rfl spL rfl (by simpa using hi) rfl rfl (by decide) (by rw [lset_self hi]; rfl) enL ?_
  rw [List.set_set]
  (repeat' (first | (show VH _ _ _ _ _ _ _; first | refine v_seq ?_ | refine r_seq ?_) | (show SH _ _ _ _ _ (_ :: _) _ _ _; first | (show SH _ _ _ _ _ (⟨_, .load _ _, _, _, _, _⟩ :: _) _ _ _; first | refine lbx rfl spL (by rfl) ?_ | refine lba rfl spL (by rfl) ?_) | refine bld rfl rfl ?_) | refine s_nil ?_ | refine kh_normal ?_))
  refine bsl (l := [(⟨who, 0, 0, most⟩ : Mv), ⟨0, (lots.getD i Flat.dflt).leader, 0, (lots.getD i Flat.dflt).most⟩]) rfl rfl (Vals.cons rfl (Vals.cons rfl Vals.nil)) rfl rfl (by decide) (fun b3 => ?_)
  refine cm rfl (fun w hw => moves_spec (some ⟨b3, 0, none⟩) [(⟨who, 0, 0, most⟩ : Mv), ⟨0, (lots.getD i Flat.dflt).leader, 0, (lots.getD i Flat.dflt).most⟩] 2 _ _ w (by simp) hw) rfl rfl ?_
  rintro _ _ ⟨rfl, rfl⟩
  refine ⟨trivial, ?_⟩
  (repeat' (first | refine v_ret ?_ | refine asg evL ?_ | refine s_nil ?_ | refine kh_normal ?_))
  exact rh1 rfl rfl ⟨some ⟨b3, 0, none⟩, 2, rfl, rfl⟩ enL
end Go.Proofs.Ytehjdbgijibmcaa
