/- Rules for slices.Insert and slices.Delete: appends into one's own row, copies, rows with room, appends of zeros. -/
import Derived.Test.YtjefoecnciepmaaGreatDoorYAa
import Derived.Test.YtjefoecnciepmaaGreatDoorYAb
import Derived.Test.YtjefoecnciepmaaGreatDoorYAc
import Derived.Test.YtjefoecnciepmaaGreatDoorYAd
import Derived.Test.YtjefoecnciepmaaGreatDoorYAe
import Derived.Test.YtjefoecnciepmaaGreatDoorYAf
import Derived.Test.YtjefoecnciepmaaGreatDoorYAg
import Derived.Test.YtjefoecnciepmaaGreatDoorYAh
import Derived.Lib.Overlaps
import Derived.Lib.AppendZerosOnto
import Derived.Laws.Externs
set_option linter.unusedSimpArgs false
set_option linter.unusedVariables false
/- The reference of layer 24: what a client sees. -/
namespace Go.Proofs.YtjefoecnciepmaaGreatDoor
open Go.Fw Go.RowKit
set_option maxHeartbeats 1000000 in
set_option maxRecDepth 100000 in
theorem refGet24_spec (x : EntP) (kd : Int) (w : World) (hl : x.e.comps.length ≤ 140737488355328) (hr : Rd w x.A x.e.comps) : Ret Tryz.prog 59 [.agg (Flat.enc x).toArray, .int .u8 kd].toArray w
    (Out w (.tuple #[.agg (Flat.enc (compD (compK kd x.e.comps))).toArray, .bool (compK kd x.e.comps).isSome])) := by
  obtain ⟨⟨ei, l⟩, A, c1⟩ := x
  try simp only at hl hr ⊢
  rw [show Flat.enc (⟨⟨ei, l⟩, A, c1⟩ : EntP) = [.int .i64 ei, .slice A l.length c1] from rfl]
  unfold compK
  refine enterH Tryz.func59 rfl rfl Tryz.ntmps59 rfl (Wd.refl _) ?_
  (repeat' (first | (show VH _ _ _ _ _ _ _; first | refine v_seq ?_ | refine r_seq ?_ | refine v_block ?_) | (show SH _ _ _ _ _ (_ :: _) _ _ _; first | (show SH _ _ _ _ _ (⟨_, .assign _, _, _, _, _⟩ :: _) _ _ _; refine asg evL ?_) | refine ala rfl (fun b => ?_) | (show SH _ _ _ _ _ (⟨_, .box _ _, _, _, _, _⟩ :: _) _ _ _; refine bxx rfl evL rfl (fun b => ?_))) | refine s_nil ?_ | refine kh_normal ?_))
  refine v_loop0 [(5,26)] (fun k : Nat => [(6, .int .i64 k)]) (fun k => k ≤ l.length ∧ ∀ q, q < k → decide ((l.getD q Flat.dflt).kind = kd) = false) (fun k => l.length - k) 0 hsL ⟨Nat.zero_le _, fun q h => absurd h (Nat.not_lt_zero q)⟩ ?_
  rintro k g ⟨hk, hq⟩
  simp only [sets]
  by_cases hkl : k < l.length
  · by_cases he : (l.getD k Flat.dflt).kind = kd
    · rw [find_at Flat.dflt (fun c : Comp => decide (c.kind = kd)) l k hq hkl (decide_eq_true he)]
      clear hq
      (repeat' (first | (show VH _ _ _ _ _ _ _; first | refine v_seq ?_ | refine r_seq ?_ | refine v_block ?_ | refine v_ret ?_ | refine v_skip ?_ | refine v_cond_t rfl tbL ?_) | (show SH _ _ _ _ _ (_ :: _) _ _ _; first | (show SH _ _ _ _ _ (⟨_, .move _, _, _, _, _⟩ :: _) _ _ _; refine mov evL ?_) | (show SH _ _ _ _ _ (⟨_, .assign _, _, _, _, _⟩ :: _) _ _ _; refine asg evL ?_) | (show SH _ _ _ _ _ (⟨_, .binOp .lss _ _ _ _, _, _, _, _⟩ :: _) _ _ _; refine lssT rfl rfl omD ?_) | (show SH _ _ _ _ _ (⟨_, .binOp .eql _ _ _ _, _, _, _, _⟩ :: _) _ _ _; refine eqlT rfl rfl omD ?_) | (show SH _ _ _ _ _ (⟨_, .load _ _, _, _, _, _⟩ :: _) _ _ _; first | refine lbx rfl spL (by rfl) ?_ | refine lra rfl (fun _ _ => rdY) (by rfl) omL ?_ | refine lrf rfl (fun _ _ => rdY) (by rfl) omL (by rfl) ?_ | refine lrf rfl (fun _ _ => rdY) (by rfl) (by simp only [List.length_cons, List.length_nil]; omega) (by rfl) ?_ | refine lra rfl (fun _ _ => rdY) (by rfl) (by simp only [List.length_cons, List.length_nil]; omega) ?_) | (show SH _ _ _ _ _ (⟨_, .indexAddr _ _ _, _, _, _, _⟩ :: _) _ _ _; refine ix rfl rfl (by with_reducible rfl) (fun _ _ => rdY) (by rfl) omL omL ?_) | refine slen rfl ?_ | refine fad rfl ?_ | (show SH _ _ _ _ _ (⟨_, .store _ _ _, _, _, _, _⟩ :: _) _ _ _; refine sta rfl rfl rfl spL (by rfl) (by rfl) (by rfl) kpL ?_)) | refine s_nil ?_ | refine kh_normal ?_ | refine kh_ret ?_ | refine bh_ret ?_))
      exact rhC2 rfl rfl rfl rfl (fun w hw => loadVar_bx hw spL (by rfl)) ⟨rfl, rfl⟩ (ent_nil _)
    · have hn : ∀ q, q < k + 1 → decide ((l.getD q Flat.dflt).kind = kd) = false := fun q h => by
        by_cases e : q = k
        · rw [e]; exact decide_eq_false he
        · exact hq q (by omega)
      clear hq
      (repeat' (first | (show VH _ _ _ _ _ _ _; first | refine v_seq ?_ | refine r_seq ?_ | refine v_block ?_ | refine v_skip ?_ | refine v_cond_t rfl tbL ?_ | refine v_cond_f rfl tbL ?_) | (show SH _ _ _ _ _ (_ :: _) _ _ _; first | (show SH _ _ _ _ _ (⟨_, .move _, _, _, _, _⟩ :: _) _ _ _; refine mov evL ?_) | (show SH _ _ _ _ _ (⟨_, .assign _, _, _, _, _⟩ :: _) _ _ _; refine asg evL ?_) | (show SH _ _ _ _ _ (⟨_, .binOp .lss _ _ _ _, _, _, _, _⟩ :: _) _ _ _; refine lssT rfl rfl omD ?_) | (show SH _ _ _ _ _ (⟨_, .binOp .eql _ _ _ _, _, _, _, _⟩ :: _) _ _ _; refine eqlF rfl rfl omD ?_) | (show SH _ _ _ _ _ (⟨_, .binOp .add _ _ _ _, _, _, _, _⟩ :: _) _ _ _; refine add rfl rfl inL ?_) | (show SH _ _ _ _ _ (⟨_, .load _ _, _, _, _, _⟩ :: _) _ _ _; first | refine lbx rfl spL (by rfl) ?_ | refine lrf rfl (fun _ _ => rdY) (by rfl) omL (by rfl) ?_ | refine lrf rfl (fun _ _ => rdY) (by rfl) (by simp only [List.length_cons, List.length_nil]; omega) (by rfl) ?_) | (show SH _ _ _ _ _ (⟨_, .indexAddr _ _ _, _, _, _, _⟩ :: _) _ _ _; refine ix rfl rfl (by with_reducible rfl) (fun _ _ => rdY) (by rfl) omL omL ?_) | refine slen rfl ?_ | refine fad rfl ?_) | refine s_nil ?_ | refine kh_normal ?_ | refine bh_normal ?_))
      exact ⟨agL, k + 1, hsL, enL, ⟨hkl, hn⟩, by omega⟩
  · rw [find_no Flat.dflt (fun c : Comp => decide (c.kind = kd)) l (fun q h => hq q (by omega))]
    clear hq
    (repeat' (first | (show VH _ _ _ _ _ _ _; first | refine v_seq ?_ | refine r_seq ?_ | refine v_ret ?_ | refine v_exit ?_ | refine v_cond_f rfl tbL ?_) | (show SH _ _ _ _ _ (_ :: _) _ _ _; first | (show SH _ _ _ _ _ (⟨_, .move _, _, _, _, _⟩ :: _) _ _ _; refine mov evL ?_) | (show SH _ _ _ _ _ (⟨_, .assign _, _, _, _, _⟩ :: _) _ _ _; refine asg evL ?_) | (show SH _ _ _ _ _ (⟨_, .binOp .lss _ _ _ _, _, _, _, _⟩ :: _) _ _ _; refine lssF rfl rfl omD ?_) | (show SH _ _ _ _ _ (⟨_, .load _ _, _, _, _, _⟩ :: _) _ _ _; refine lbx rfl spL (by rfl) ?_) | refine slen rfl ?_ | refine fad rfl ?_ | refine bldZN ?_ | (show SH _ _ _ _ _ (⟨_, .store _ _ _, _, _, _, _⟩ :: _) _ _ _; refine sta rfl rfl rfl spL (by rfl) (by rfl) (by rfl) kpL ?_)) | refine s_nil ?_ | refine kh_normal ?_ | refine kh_exit ?_ | refine bh_exit ?_))
    exact rhC2 rfl rfl rfl rfl (fun w hw => loadVar_bx hw spL (by rfl)) ⟨rfl, rfl⟩ (ent_nil _)
theorem enc_comp (c : Comp) : Flat.enc c = [.int .u8 c.kind, .int .i64 c.a, .int .i64 c.b, .int .i64 c.c, .int .i64 c.d] := rfl
set_option maxHeartbeats 1000000 in
set_option maxRecDepth 100000 in
theorem refOwned_spec (x : EntP) (ct : Int) (w : World) (hl : x.e.comps.length ≤ 140737488355328) (hr : Rd w x.A x.e.comps) : Ret Tryz.prog 35 [.agg (Flat.enc x).toArray, .int .i64 ct].toArray w (Out w (.bool (ownsE ct x.e))) := by
  have hg := fun w' (he : Ext w w') => refGet24_spec x 4 w' hl (hr.ext he)
  unfold ownsE
  obtain ⟨⟨ei, l⟩, A, c1⟩ := x
  try simp only at hl hr hg ⊢
  rw [show Flat.enc (⟨⟨ei, l⟩, A, c1⟩ : EntP) = [.int .i64 ei, .slice A l.length c1] from rfl] at hg ⊢
  cases hc : compK 4 l with
  | none =>
    rw [hc] at hg
    simp only [compD, Option.isSome] at hg ⊢
    rw [enc_comp] at hg
    simp only at hg
    refine enterH Tryz.func35 rfl rfl Tryz.ntmps35 rfl (Wd.refl _) ?_
    (repeat' (first | (show VH _ _ _ _ _ _ _; first | refine v_seq ?_ | refine r_seq ?_ | refine v_ret ?_) | (show SH _ _ _ _ _ (_ :: _) _ _ _; first | (show SH _ _ _ _ _ (⟨_, _, _, _, _, some _⟩ :: _) _ _ _; (refine gif rfl rfl ?_; refine giTF tbL ?_)) | (show SH _ _ _ _ _ (⟨_, .move _, _, _, _, _⟩ :: _) _ _ _; refine mov evL ?_) | (show SH _ _ _ _ _ (⟨_, .assign _, _, _, _, _⟩ :: _) _ _ _; refine asg evL ?_) | (show SH _ _ _ _ _ (⟨_, .load _ _, _, _, _, _⟩ :: _) _ _ _; refine lba rfl spL (by rfl) ?_) | (show SH _ _ _ _ _ (⟨_, .call ⟨.value (.func 59), _, _⟩, _, _, _, _⟩ :: _) _ _ _; refine cl (callee := .func 59) rfl (fun w hw => hg w hw.ext) rfl rfl ?_) | (show SH _ _ _ _ _ (⟨_, .pick _ _ _, _, _, _, _⟩ :: _) _ _ _; refine pkf rfl tbL evL ?_) | refine extr rfl rfl ?_ | refine ala rfl (fun b => ?_) | (show SH _ _ _ _ _ (⟨_, .box _ _, _, _, _, _⟩ :: _) _ _ _; refine bxx rfl evL rfl (fun b => ?_)) | (show SH _ _ _ _ _ (⟨_, .store _ _ _, _, _, _, _⟩ :: _) _ _ _; refine sta rfl rfl rfl spL (by rfl) (by rfl) (by rfl) kpL ?_)) | refine s_nil ?_ | refine kh_normal ?_))
    exact rh1 rfl rfl ⟨rfl, rfl⟩ (ent_nil _)
  | some c =>
    rw [hc] at hg
    simp only [compD, Option.isSome] at hg ⊢
    obtain ⟨ck, ca, cb, cc, cd⟩ := c
    rw [enc_comp] at hg
    simp only at hg
    refine enterH Tryz.func35 rfl rfl Tryz.ntmps35 rfl (Wd.refl _) ?_
    (repeat' (first | (show VH _ _ _ _ _ _ _; first | refine v_seq ?_ | refine r_seq ?_ | refine v_ret ?_) | (show SH _ _ _ _ _ (_ :: _) _ _ _; first | (show SH _ _ _ _ _ (⟨_, _, _, _, _, some _⟩ :: _) _ _ _; (refine gif rfl rfl ?_; refine giTT tbL ?_)) | (show SH _ _ _ _ _ (⟨_, .move _, _, _, _, _⟩ :: _) _ _ _; refine mov evL ?_) | (show SH _ _ _ _ _ (⟨_, .assign _, _, _, _, _⟩ :: _) _ _ _; refine asg evL ?_) | refine eql rfl rfl ?_ | (show SH _ _ _ _ _ (⟨_, .load _ _, _, _, _, _⟩ :: _) _ _ _; first | refine lbx rfl spL (by rfl) ?_ | refine lba rfl spL (by rfl) ?_) | (show SH _ _ _ _ _ (⟨_, .indexAddr _ _ _, _, _, _, _⟩ :: _) _ _ _; refine ixA _ rfl rfl rfl omL ?_) | (show SH _ _ _ _ _ (⟨_, .call ⟨.value (.func 59), _, _⟩, _, _, _, _⟩ :: _) _ _ _; refine cl (callee := .func 59) rfl (fun w hw => hg w hw.ext) rfl rfl ?_) | (show SH _ _ _ _ _ (⟨_, .pick _ _ _, _, _, _, _⟩ :: _) _ _ _; refine pkt rfl tbL evL ?_) | refine extr rfl rfl ?_ | refine fad rfl ?_ | refine ala rfl (fun b => ?_) | (show SH _ _ _ _ _ (⟨_, .box _ _, _, _, _, _⟩ :: _) _ _ _; refine bxx rfl evL rfl (fun b => ?_)) | (show SH _ _ _ _ _ (⟨_, .store _ _ _, _, _, _, _⟩ :: _) _ _ _; refine sta rfl rfl rfl spL (by rfl) (by rfl) (by rfl) kpL ?_)) | refine s_nil ?_ | refine kh_normal ?_))
    exact rh1 rfl rfl ⟨rfl, rfl⟩ (ent_nil _)
theorem shr64 (n i : Nat) (hi : i ≤ 64) : ((n : Nat) : Int).fdiv (2 ^ (min ((i : Nat) : Int).toNat IntKind.i64.bits)) = ((n / 2 ^ i : Nat) : Int) := by
  rw [Int.toNat_natCast, show min i IntKind.i64.bits = i from Nat.min_eq_left hi, Int.fdiv_eq_ediv_of_nonneg _ (by exact_mod_cast Nat.zero_le _)]
  exact_mod_cast rfl
set_option maxHeartbeats 1000000 in
set_option maxRecDepth 100000 in
theorem refHidden_spec (x : EntP) (n : Nat) (w : World) (h8 : 1 ≤ n ∧ n ≤ 8) (hE : RightE x.e) (hl : x.e.comps.length ≤ 140737488355328) (hr : Rd w x.A x.e.comps) : Ret Tryz.prog 64 [.agg (Flat.enc x).toArray, .int .i64 n].toArray w (Out w (.bool (hidE n x.e))) := by
  have hg := fun w' (he : Ext w w') => refGet24_spec x 5 w' hl (hr.ext he)
  unfold hidE
  obtain ⟨⟨ei, l⟩, A, c1⟩ := x
  try simp only at hl hr hg ⊢
  rw [show Flat.enc (⟨⟨ei, l⟩, A, c1⟩ : EntP) = [.int .i64 ei, .slice A l.length c1] from rfl] at hg ⊢
  cases hc : compK 5 l with
  | none =>
    rw [hc] at hg
    simp only [compD, Option.isSome] at hg ⊢
    rw [enc_comp] at hg
    simp only at hg
    refine enterH Tryz.func64 rfl rfl Tryz.ntmps64 rfl (Wd.refl _) ?_
    (repeat' (first | (show VH _ _ _ _ _ _ _; first | refine v_seq ?_ | refine r_seq ?_ | refine v_ret ?_) | (show SH _ _ _ _ _ (_ :: _) _ _ _; first | (show SH _ _ _ _ _ (⟨_, _, _, _, _, some _⟩ :: _) _ _ _; (refine gif rfl rfl ?_; refine giTF tbL ?_)) | (show SH _ _ _ _ _ (⟨_, .move _, _, _, _, _⟩ :: _) _ _ _; refine mov evL ?_) | (show SH _ _ _ _ _ (⟨_, .assign _, _, _, _, _⟩ :: _) _ _ _; refine asg evL ?_) | (show SH _ _ _ _ _ (⟨_, .load _ _, _, _, _, _⟩ :: _) _ _ _; refine lba rfl spL (by rfl) ?_) | (show SH _ _ _ _ _ (⟨_, .call ⟨.value (.func 59), _, _⟩, _, _, _, _⟩ :: _) _ _ _; refine cl (callee := .func 59) rfl (fun w hw => hg w hw.ext) rfl rfl ?_) | (show SH _ _ _ _ _ (⟨_, .pick _ _ _, _, _, _, _⟩ :: _) _ _ _; refine pkf rfl tbL evL ?_) | refine extr rfl rfl ?_ | refine ala rfl (fun b => ?_) | (show SH _ _ _ _ _ (⟨_, .box _ _, _, _, _, _⟩ :: _) _ _ _; refine bxx rfl evL rfl (fun b => ?_)) | (show SH _ _ _ _ _ (⟨_, .store _ _ _, _, _, _, _⟩ :: _) _ _ _; refine sta rfl rfl rfl spL (by rfl) (by rfl) (by rfl) kpL ?_)) | refine s_nil ?_ | refine kh_normal ?_))
    exact rh1 rfl rfl ⟨rfl, rfl⟩ (ent_nil _)
  | some c =>
    obtain ⟨hcm, hck⟩ := compK_mem hc
    have hb := fits_hide (hE.fits c hcm) hck
    rw [hc] at hg
    simp only [compD, Option.isSome] at hg ⊢
    obtain ⟨ck, ca, cb, cc, cd⟩ := c
    simp only at hb ⊢
    obtain ⟨m, rfl⟩ : ∃ m : Nat, ca = (m : Int) := ⟨ca.toNat, by omega⟩
    have hs := shr64 m n (by omega)
    rw [Int.toNat_natCast, Nat.testBit_eq_decide_div_mod_eq]
    rw [enc_comp] at hg
    simp only at hg
    generalize m / 2 ^ n = q at hs ⊢
    refine enterH Tryz.func64 rfl rfl Tryz.ntmps64 rfl (Wd.refl _) ?_
    (repeat' (first | (show VH _ _ _ _ _ _ _; first | refine v_seq ?_ | refine r_seq ?_) | (show SH _ _ _ _ _ (_ :: _) _ _ _; first | (show SH _ _ _ _ _ (⟨_, _, _, _, _, some _⟩ :: _) _ _ _; (refine gif rfl rfl ?_; refine giTT tbL ?_)) | (show SH _ _ _ _ _ (⟨_, .move _, _, _, _, _⟩ :: _) _ _ _; refine mov evL ?_) | (show SH _ _ _ _ _ (⟨_, .assign _, _, _, _, _⟩ :: _) _ _ _; refine asg evL ?_) | (show SH _ _ _ _ _ (⟨_, .load _ _, _, _, _, _⟩ :: _) _ _ _; first | refine lbx rfl spL (by rfl) ?_ | refine lba rfl spL (by rfl) ?_) | (show SH _ _ _ _ _ (⟨_, .indexAddr _ _ _, _, _, _, _⟩ :: _) _ _ _; refine ixA _ rfl rfl rfl omL ?_) | (show SH _ _ _ _ _ (⟨_, .call ⟨.value (.func 59), _, _⟩, _, _, _, _⟩ :: _) _ _ _; refine cl (callee := .func 59) rfl (fun w hw => hg w hw.ext) rfl rfl ?_) | refine extr rfl rfl ?_ | refine fad rfl ?_ | refine ala rfl (fun b => ?_) | (show SH _ _ _ _ _ (⟨_, .box _ _, _, _, _, _⟩ :: _) _ _ _; refine bxx rfl evL rfl (fun b => ?_)) | (show SH _ _ _ _ _ (⟨_, .store _ _ _, _, _, _, _⟩ :: _) _ _ _; refine sta rfl rfl rfl spL (by rfl) (by rfl) (by rfl) kpL ?_)) | refine s_nil ?_ | refine kh_normal ?_))
    refine shrw rfl rfl (by omega) _ hs ?_
    (repeat' (first | refine v_ret ?_ | (show SH _ _ _ _ _ (_ :: _) _ _ _; first | (show SH _ _ _ _ _ (⟨_, _, _, _, _, some _⟩ :: _) _ _ _; (refine gif rfl rfl ?_; refine giTT tbL ?_)) | (show SH _ _ _ _ _ (⟨_, .assign _, _, _, _, _⟩ :: _) _ _ _; refine asg evL ?_) | refine eql rfl rfl ?_ | (show SH _ _ _ _ _ (⟨_, .binOp .rem _ _ _ _, _, _, _, _⟩ :: _) _ _ _; refine rem rfl rfl omL omL ?_) | (show SH _ _ _ _ _ (⟨_, .pick _ _ _, _, _, _, _⟩ :: _) _ _ _; refine pkt rfl tbL evL ?_)) | refine s_nil ?_ | refine kh_normal ?_))
    exact rh1 rfl rfl ⟨congrArg Value.bool (decide_eq_decide.2 (by omega)), rfl⟩ (ent_nil _)
/-- Are two entities near each other? -/
def closeE (a b : Ent1) : Bool := match pointE a, pointE b with
  | some p, some q => decide (gapP p q ≤ 16384)
  | _, _ => false
theorem point_comp (e : Ent1) : pointE e = (compK 1 e.comps).map fun c => ⟨c.a, c.b⟩ := rfl
theorem gap_le {p q : Pt} : gapP p q ≤ 16384 ↔ (p.x - q.x ≤ 16384 ∧ -(p.x - q.x) ≤ 16384) ∧ p.y - q.y ≤ 16384 ∧ -(p.y - q.y) ≤ 16384 := by
  unfold gapP; omega
set_option maxHeartbeats 2000000 in
set_option maxRecDepth 100000 in
theorem refClose_spec (x y : EntP) (w : World) (hEx : RightE x.e) (hEy : RightE y.e) (hlx : x.e.comps.length ≤ 140737488355328) (hly : y.e.comps.length ≤ 140737488355328) (hrx : Rd w x.A x.e.comps) (hry : Rd w y.A y.e.comps) :
    Ret Tryz.prog 63 [.agg (Flat.enc x).toArray, .agg (Flat.enc y).toArray].toArray w (Out w (.bool (closeE x.e y.e))) := by
  have hgx := fun w' (he : Ext w w') => refGet24_spec x 1 w' hlx (hrx.ext he)
  have hgy := fun w' (he : Ext w w') => refGet24_spec y 1 w' hly (hry.ext he)
  have hpx := fun p (h : pointE x.e = some p) => point_in hEx h
  have hpy := fun p (h : pointE y.e = some p) => point_in hEy h
  unfold closeE
  rw [point_comp] at hpx hpy
  rw [point_comp, point_comp]
  obtain ⟨⟨xi, xs⟩, Ax, cx⟩ := x
  obtain ⟨⟨yi, ys⟩, Ay, cy⟩ := y
  try simp only at hgx hgy hpx hpy ⊢
  clear hEx hEy hlx hly hrx hry
  rw [show Flat.enc (⟨⟨xi, xs⟩, Ax, cx⟩ : EntP) = [.int .i64 xi, .slice Ax xs.length cx] from rfl] at hgx ⊢
  rw [show Flat.enc (⟨⟨yi, ys⟩, Ay, cy⟩ : EntP) = [.int .i64 yi, .slice Ay ys.length cy] from rfl] at hgy ⊢
  cases hc : compK 1 xs with
  | none =>
    rw [hc] at hgx
    simp only [compD, Option.isSome, Option.map_none] at hgx ⊢
    rw [enc_comp] at hgx
    simp only at hgx
    generalize (compK 1 ys).isSome = z at hgy
    generalize compD (compK 1 ys) = q at hgy
    clear hpx hpy
    refine enterH Tryz.func63 rfl rfl Tryz.ntmps63 rfl (Wd.refl _) ?_
    (repeat' (first | (show VH _ _ _ _ _ _ _; first | refine v_seq ?_ | refine r_seq ?_ | refine v_ret ?_ | refine v_cond_t rfl tbL ?_) | (show SH _ _ _ _ _ (_ :: _) _ _ _; first | (show SH _ _ _ _ _ (⟨_, _, _, _, _, some _⟩ :: _) _ _ _; (refine gif rfl rfl ?_; refine giFT tbL ?_)) | (show SH _ _ _ _ _ (⟨_, .move _, _, _, _, _⟩ :: _) _ _ _; refine mov evL ?_) | (show SH _ _ _ _ _ (⟨_, .assign _, _, _, _, _⟩ :: _) _ _ _; refine asg evL ?_) | (show SH _ _ _ _ _ (⟨_, .load _ _, _, _, _, _⟩ :: _) _ _ _; refine lba rfl spL (by rfl) ?_) | (show SH _ _ _ _ _ (⟨_, .call ⟨.value (.func 59), _, _⟩, _, _, _, _⟩ :: _) _ _ _; refine cl (callee := .func 59) rfl (fun w hw => hgx w hw.ext) rfl rfl ?_) | (show SH _ _ _ _ _ (⟨_, .call ⟨.value (.func 59), _, _⟩, _, _, _, _⟩ :: _) _ _ _; refine cl (callee := .func 59) rfl (fun w hw => hgy w hw.ext) rfl rfl ?_) | refine bnoF rfl ?_ | (show SH _ _ _ _ _ (⟨_, .pick _ _ _, _, _, _, _⟩ :: _) _ _ _; refine pkt rfl tbL evL ?_) | refine extr rfl rfl ?_ | refine ala rfl (fun b => ?_) | (show SH _ _ _ _ _ (⟨_, .box _ _, _, _, _, _⟩ :: _) _ _ _; refine bxx rfl evL rfl (fun b => ?_)) | (show SH _ _ _ _ _ (⟨_, .store _ _ _, _, _, _, _⟩ :: _) _ _ _; refine sta rfl rfl rfl spL (by rfl) (by rfl) (by rfl) kpL ?_)) | refine s_nil ?_ | refine kh_normal ?_ | refine kh_ret ?_))
    exact rh1 rfl rfl ⟨rfl, rfl⟩ (ent_nil _)
  | some c =>
    rw [hc] at hgx hpx
    simp only [compD, Option.isSome, Option.map_some] at hgx hpx ⊢
    obtain ⟨ck, ca, cb, cc, cd⟩ := c
    rw [enc_comp] at hgx
    cases hd : compK 1 ys with
    | none =>
      rw [hd] at hgy
      simp only [compD, Option.isSome, Option.map_none] at hgy ⊢
      rw [enc_comp] at hgy
      simp only at hgy hgx
      clear hpx hpy
      refine enterH Tryz.func63 rfl rfl Tryz.ntmps63 rfl (Wd.refl _) ?_
      (repeat' (first | (show VH _ _ _ _ _ _ _; first | refine v_seq ?_ | refine r_seq ?_ | refine v_ret ?_ | refine v_cond_t rfl tbL ?_) | (show SH _ _ _ _ _ (_ :: _) _ _ _; first | (show SH _ _ _ _ _ (⟨_, _, _, _, _, some _⟩ :: _) _ _ _; (refine gif rfl rfl ?_; refine giFF tbL ?_)) | (show SH _ _ _ _ _ (⟨_, .move _, _, _, _, _⟩ :: _) _ _ _; refine mov evL ?_) | (show SH _ _ _ _ _ (⟨_, .assign _, _, _, _, _⟩ :: _) _ _ _; refine asg evL ?_) | (show SH _ _ _ _ _ (⟨_, .load _ _, _, _, _, _⟩ :: _) _ _ _; refine lba rfl spL (by rfl) ?_) | (show SH _ _ _ _ _ (⟨_, .call ⟨.value (.func 59), _, _⟩, _, _, _, _⟩ :: _) _ _ _; refine cl (callee := .func 59) rfl (fun w hw => hgx w hw.ext) rfl rfl ?_) | (show SH _ _ _ _ _ (⟨_, .call ⟨.value (.func 59), _, _⟩, _, _, _, _⟩ :: _) _ _ _; refine cl (callee := .func 59) rfl (fun w hw => hgy w hw.ext) rfl rfl ?_) | (show SH _ _ _ _ _ (⟨_, .unOp .not _ _, _, _, _, _⟩ :: _) _ _ _; first | refine bnoT rfl ?_ | refine bnoF rfl ?_) | (show SH _ _ _ _ _ (⟨_, .pick _ _ _, _, _, _, _⟩ :: _) _ _ _; refine pkf rfl tbL evL ?_) | refine extr rfl rfl ?_ | refine ala rfl (fun b => ?_) | (show SH _ _ _ _ _ (⟨_, .box _ _, _, _, _, _⟩ :: _) _ _ _; refine bxx rfl evL rfl (fun b => ?_)) | (show SH _ _ _ _ _ (⟨_, .store _ _ _, _, _, _, _⟩ :: _) _ _ _; refine sta rfl rfl rfl spL (by rfl) (by rfl) (by rfl) kpL ?_)) | refine s_nil ?_ | refine kh_normal ?_ | refine kh_ret ?_))
      exact rh1 rfl rfl ⟨rfl, rfl⟩ (ent_nil _)
    | some d =>
      rw [hd] at hgy hpy
      simp only [compD, Option.isSome, Option.map_some] at hgy hpy ⊢
      obtain ⟨dk, da, db, dc, dd⟩ := d
      rw [enc_comp] at hgy
      simp only at hgy hgx
      obtain ⟨h1, h2⟩ := hpx _ rfl
      obtain ⟨h3, h4⟩ := hpy _ rfl
      simp only at h1 h2 h3 h4
      clear hpx hpy
      obtain ⟨u, hu⟩ : ∃ u, ca - da = u := ⟨_, rfl⟩
      obtain ⟨v, hv⟩ : ∃ v, cb - db = v := ⟨_, rfl⟩
      have hgd : decide (gapP (⟨ca, cb⟩ : Pt) ⟨da, db⟩ ≤ 16384) = decide ((u ≤ 16384 ∧ -u ≤ 16384) ∧ v ≤ 16384 ∧ -v ≤ 16384) := by
        rw [decide_eq_decide, gap_le, ← hu, ← hv]
      rw [hgd]
      clear hgd
      by_cases hall : (u ≤ 16384 ∧ -u ≤ 16384) ∧ v ≤ 16384 ∧ -v ≤ 16384
      · rw [decide_eq_true hall]
        obtain ⟨⟨k1, k2⟩, k3, k4⟩ := hall
        refine enterH Tryz.func63 rfl rfl Tryz.ntmps63 rfl (Wd.refl _) ?_
        (repeat' ((fail_if_success (show VH _ _ (.seq (.region 6 _ _) _) _ _ _ _)); first | (show VH _ _ _ _ _ _ _; first | refine v_seq ?_ | refine r_seq ?_ | refine r_quiet hmix (by kernel_rfl) ?_ | refine v_skip ?_ | refine v_cond_f rfl tbL ?_) | (show SH _ _ _ _ _ (_ :: _) _ _ _; first | (show SH _ _ _ _ _ (⟨_, _, _, _, _, some _⟩ :: _) _ _ _; (refine gif rfl rfl ?_; refine giFF tbL ?_)) | (show SH _ _ _ _ _ (⟨_, .move _, _, _, _, _⟩ :: _) _ _ _; refine mov evL ?_) | (show SH _ _ _ _ _ (⟨_, .assign _, _, _, _, _⟩ :: _) _ _ _; refine asg evL ?_) | (show SH _ _ _ _ _ (⟨_, .binOp .sub _ _ _ _, _, _, _, _⟩ :: _) _ _ _; refine sub rfl rfl inL ?_) | (show SH _ _ _ _ _ (⟨_, .load _ _, _, _, _, _⟩ :: _) _ _ _; first | refine lbx rfl spL (by rfl) ?_ | refine lba rfl spL (by rfl) ?_) | (show SH _ _ _ _ _ (⟨_, .indexAddr _ _ _, _, _, _, _⟩ :: _) _ _ _; refine ixA _ rfl rfl rfl omL ?_) | (show SH _ _ _ _ _ (⟨_, .call ⟨.value (.func 59), _, _⟩, _, _, _, _⟩ :: _) _ _ _; refine cl (callee := .func 59) rfl (fun w hw => hgx w hw.ext) rfl rfl ?_) | (show SH _ _ _ _ _ (⟨_, .call ⟨.value (.func 59), _, _⟩, _, _, _, _⟩ :: _) _ _ _; refine cl (callee := .func 59) rfl (fun w hw => hgy w hw.ext) rfl rfl ?_) | refine bnoT rfl ?_ | (show SH _ _ _ _ _ (⟨_, .pick _ _ _, _, _, _, _⟩ :: _) _ _ _; refine pkf rfl tbL evL ?_) | refine extr rfl rfl ?_ | refine fad rfl ?_ | refine ala rfl (fun b => ?_) | (show SH _ _ _ _ _ (⟨_, .box _ _, _, _, _, _⟩ :: _) _ _ _; refine bxx rfl evL rfl (fun b => ?_)) | (show SH _ _ _ _ _ (⟨_, .store _ _ _, _, _, _, _⟩ :: _) _ _ _; refine sta rfl rfl rfl spL (by rfl) (by rfl) (by rfl) kpL ?_)) | refine s_nil ?_ | refine kh_normal ?_))
        rw [hu, hv]
        (repeat' (first | (show VH _ _ _ _ _ _ _; first | refine v_seq ?_ | refine r_seq ?_ | refine v_ret ?_) | (show SH _ _ _ _ _ (_ :: _) _ _ _; first | (show SH _ _ _ _ _ (⟨_, _, _, _, _, some _⟩ :: _) _ _ _; (refine gif rfl rfl ?_; refine giTT tbL ?_)) | (show SH _ _ _ _ _ (⟨_, .move _, _, _, _, _⟩ :: _) _ _ _; refine mov evL ?_) | (show SH _ _ _ _ _ (⟨_, .assign _, _, _, _, _⟩ :: _) _ _ _; refine asg evL ?_) | (show SH _ _ _ _ _ (⟨_, .binOp .leq _ _ _ _, _, _, _, _⟩ :: _) _ _ _; refine leqT rfl rfl omD ?_) | (show SH _ _ _ _ _ (⟨_, .pick _ _ _, _, _, _, _⟩ :: _) _ _ _; refine pkt rfl tbL evL ?_) | (show SH _ _ _ _ _ (⟨_, .unOp .neg _ _, _, _, _, _⟩ :: _) _ _ _; refine neg rfl inL ?_)) | refine s_nil ?_ | refine kh_normal ?_))
        exact rh1 rfl rfl ⟨rfl, rfl⟩ (ent_nil _)
      · rw [decide_eq_false hall]
        rcases (show 16384 < u ∨ (u ≤ 16384 ∧ 16384 < -u) ∨ ((u ≤ 16384 ∧ -u ≤ 16384) ∧ 16384 < v) ∨ ((u ≤ 16384 ∧ -u ≤ 16384) ∧ v ≤ 16384 ∧ 16384 < -v) by omega) with k1 | ⟨k1, k2⟩ | ⟨⟨k1, k2⟩, k3⟩ | ⟨⟨k1, k2⟩, k3, k4⟩
        all_goals
          clear hall
          refine enterH Tryz.func63 rfl rfl Tryz.ntmps63 rfl (Wd.refl _) ?_
          (repeat' ((fail_if_success (show VH _ _ (.seq (.region 6 _ _) _) _ _ _ _)); first | (show VH _ _ _ _ _ _ _; first | refine v_seq ?_ | refine r_seq ?_ | refine r_quiet hmix (by kernel_rfl) ?_ | refine v_skip ?_ | refine v_cond_f rfl tbL ?_) | (show SH _ _ _ _ _ (_ :: _) _ _ _; first | (show SH _ _ _ _ _ (⟨_, _, _, _, _, some _⟩ :: _) _ _ _; (refine gif rfl rfl ?_; refine giFF tbL ?_)) | (show SH _ _ _ _ _ (⟨_, .move _, _, _, _, _⟩ :: _) _ _ _; refine mov evL ?_) | (show SH _ _ _ _ _ (⟨_, .assign _, _, _, _, _⟩ :: _) _ _ _; refine asg evL ?_) | (show SH _ _ _ _ _ (⟨_, .binOp .sub _ _ _ _, _, _, _, _⟩ :: _) _ _ _; refine sub rfl rfl inL ?_) | (show SH _ _ _ _ _ (⟨_, .load _ _, _, _, _, _⟩ :: _) _ _ _; first | refine lbx rfl spL (by rfl) ?_ | refine lba rfl spL (by rfl) ?_) | (show SH _ _ _ _ _ (⟨_, .indexAddr _ _ _, _, _, _, _⟩ :: _) _ _ _; refine ixA _ rfl rfl rfl omL ?_) | (show SH _ _ _ _ _ (⟨_, .call ⟨.value (.func 59), _, _⟩, _, _, _, _⟩ :: _) _ _ _; refine cl (callee := .func 59) rfl (fun w hw => hgx w hw.ext) rfl rfl ?_) | (show SH _ _ _ _ _ (⟨_, .call ⟨.value (.func 59), _, _⟩, _, _, _, _⟩ :: _) _ _ _; refine cl (callee := .func 59) rfl (fun w hw => hgy w hw.ext) rfl rfl ?_) | refine bnoT rfl ?_ | (show SH _ _ _ _ _ (⟨_, .pick _ _ _, _, _, _, _⟩ :: _) _ _ _; refine pkf rfl tbL evL ?_) | refine extr rfl rfl ?_ | refine fad rfl ?_ | refine ala rfl (fun b => ?_) | (show SH _ _ _ _ _ (⟨_, .box _ _, _, _, _, _⟩ :: _) _ _ _; refine bxx rfl evL rfl (fun b => ?_)) | (show SH _ _ _ _ _ (⟨_, .store _ _ _, _, _, _, _⟩ :: _) _ _ _; refine sta rfl rfl rfl spL (by rfl) (by rfl) (by rfl) kpL ?_)) | refine s_nil ?_ | refine kh_normal ?_))
          rw [hu, hv]
          (repeat' (first | (show VH _ _ _ _ _ _ _; first | refine v_seq ?_ | refine r_seq ?_ | refine v_ret ?_) | (show SH _ _ _ _ _ (_ :: _) _ _ _; first | (show SH _ _ _ _ _ (⟨_, _, _, _, _, some _⟩ :: _) _ _ _; (refine gif rfl rfl ?_; first | refine giTT tbL ?_ | refine giTF tbL ?_)) | (show SH _ _ _ _ _ (⟨_, .move _, _, _, _, _⟩ :: _) _ _ _; refine mov evL ?_) | (show SH _ _ _ _ _ (⟨_, .assign _, _, _, _, _⟩ :: _) _ _ _; refine asg evL ?_) | (show SH _ _ _ _ _ (⟨_, .binOp .leq _ _ _ _, _, _, _, _⟩ :: _) _ _ _; first | refine leqT rfl rfl omD ?_ | refine leqF rfl rfl omD ?_) | (show SH _ _ _ _ _ (⟨_, .pick _ _ _, _, _, _, _⟩ :: _) _ _ _; first | refine pkt rfl tbL evL ?_ | refine pkf rfl tbL evL ?_) | (show SH _ _ _ _ _ (⟨_, .unOp .neg _ _, _, _, _, _⟩ :: _) _ _ _; refine neg rfl inL ?_)) | refine s_nil ?_ | refine kh_normal ?_))
          exact rh1 rfl rfl ⟨rfl, rfl⟩ (ent_nil _)
end Go.Proofs.YtjefoecnciepmaaGreatDoor

/- The reference of layer 24: its answers. -/
namespace Go.Proofs.YtjefoecnciepmaaGreatDoor
open Go.Fw Go.RowKit
/-- Is an own entity near? -/
def nearB (ct : Int) (e : Ent1) (y : Ent1) : Bool := ownsE ct y && closeE y e
theorem gap_sym (p q : Pt) : gapP p q = gapP q p := by unfold gapP; omega
theorem near_ref (ct : Int) (es : List Ent1) (e : Ent1) : es.any (nearB ct e) = nearE (ptsE ct es) e := by
  unfold nearE ptsE
  cases hp : pointE e with
  | none =>
    simp only
    rw [List.any_eq_false]
    intro y _
    unfold nearB closeE
    rw [hp]
    cases pointE y <;> simp
  | some a =>
    simp only
    rw [List.any_map, List.any_filter]
    congr 1
    funext y
    unfold nearB closeE
    rw [hp]
    cases hq : pointE y with
    | none => simp [hq]
    | some b => simp [hq, ptD, gap_sym a b]
theorem any_take {α : Type} (d : α) (f : α → Bool) {l : List α} {k : Nat} (h : k < l.length) : (l.take (k + 1)).any f = ((l.take k).any f || f (l.getD k d)) := by
  rw [take_snoc (d := d) h, List.any_append]; simp
set_option maxHeartbeats 2000000 in
set_option maxRecDepth 100000 in
theorem refShown_spec (ct : Nat) (h8 : 1 ≤ ct ∧ ct ≤ 8) (t : Int) (A : Option Addr) (l : List EntP) (c1 : Nat) (x : EntP) (w : World) (hV : ValidW t (ents l)) (hE : RightE x.e) (hs : Sz l) (hl : x.e.comps.length ≤ 1000000) (hr : RdW w A l) (hx : Rd w x.A x.e.comps) :
    Ret Tryz.prog 37 [wv t A l c1, .int .i64 ct, .agg (Flat.enc x).toArray].toArray w (Out w (.bool (seesE ct (ptsE ct (ents l)) x.e))) := by
  have hO := fun w' (he : Ext w w') => refOwned_spec x ct w' (by omega) (hx.ext he)
  have hH := fun w' (he : Ext w w') => refHidden_spec x ct w' h8 hE (by omega) (hx.ext he)
  have hOi := fun i (hi : i < l.length) w' (he : Ext w w') => refOwned_spec (l.getD i Flat.dflt) ct w' (by have := hs.el _ (getD_mem (d := Flat.dflt) hi); omega) ((hr.ext he).at hi)
  have hCi := fun i (hi : i < l.length) w' (he : Ext w w') => refClose_spec (l.getD i Flat.dflt) x w' (hV.right _ (List.mem_map_of_mem (getD_mem hi))) hE (by have := hs.el _ (getD_mem (d := Flat.dflt) hi); omega) (by omega) ((hr.ext he).at hi) (hx.ext he)
  have hl64 : l.length ≤ 64 := by have := hV.len; rwa [ents_len] at this
  unfold seesE
  rw [← near_ref]
  have hat := fun i (hi : i < l.length) => any_take Flat.dflt (fun y : EntP => nearB ct x.e y.e) hi
  have hall : (ents l).any (nearB ct x.e) = l.any fun y => nearB ct x.e y.e := by unfold ents; rw [List.any_map]; rfl
  rw [hall]
  have hnb : ∀ y : EntP, nearB ct x.e y.e = (ownsE ct y.e && closeE y.e x.e) := fun _ => rfl
  generalize hf : (fun y : EntP => nearB ct x.e y.e) = f at hat ⊢
  have hfi : ∀ y : EntP, f y = (ownsE ct y.e && closeE y.e x.e) := fun y => by rw [← hf]; rfl
  have hr1 := hr.1
  clear hall hf hV hE hs hr hnb
  unfold wv
  obtain ⟨⟨ei, xs⟩, Ax, cx⟩ := x
  try simp only at hO hH hl hx hCi hfi ⊢
  rw [show Flat.enc (⟨⟨ei, xs⟩, Ax, cx⟩ : EntP) = [.int .i64 ei, .slice Ax xs.length cx] from rfl] at hO hH hCi ⊢
  generalize ownsE ct ⟨ei, xs⟩ = ow at hO ⊢
  generalize hidE ct ⟨ei, xs⟩ = hd at hH ⊢
  cases ow with
  | true =>
    refine enterH Tryz.func37 rfl rfl Tryz.ntmps37 rfl (Wd.refl _) ?_
    (repeat' (first | (show VH _ _ _ _ _ _ _; first | refine v_seq ?_ | refine r_seq ?_ | refine v_ret ?_ | refine v_cond_t rfl tbL ?_) | (show SH _ _ _ _ _ (_ :: _) _ _ _; first | (show SH _ _ _ _ _ (⟨_, .move _, _, _, _, _⟩ :: _) _ _ _; refine mov evL ?_) | (show SH _ _ _ _ _ (⟨_, .assign _, _, _, _, _⟩ :: _) _ _ _; refine asg evL ?_) | (show SH _ _ _ _ _ (⟨_, .load _ _, _, _, _, _⟩ :: _) _ _ _; refine lba rfl spL (by rfl) ?_) | (show SH _ _ _ _ _ (⟨_, .call ⟨.value (.func 35), _, _⟩, _, _, _, _⟩ :: _) _ _ _; refine cl (callee := .func 35) rfl (fun w hw => hO w hw.ext) rfl rfl ?_) | (show SH _ _ _ _ _ (⟨_, .box _ _, _, _, _, _⟩ :: _) _ _ _; refine bxx rfl evL rfl (fun b => ?_))) | refine s_nil ?_ | refine kh_normal ?_ | refine kh_ret ?_))
    exact rh1 rfl rfl ⟨rfl, rfl⟩ (ent_nil _)
  | false =>
    rw [Bool.false_or]
    refine enterH Tryz.func37 rfl rfl Tryz.ntmps37 rfl (Wd.refl _) ?_
    (repeat' (first | (show VH _ _ _ _ _ _ _; first | refine v_seq ?_ | refine r_seq ?_ | refine v_block ?_ | refine v_skip ?_ | refine v_cond_f rfl tbL ?_) | (show SH _ _ _ _ _ (_ :: _) _ _ _; first | (show SH _ _ _ _ _ (⟨_, .move _, _, _, _, _⟩ :: _) _ _ _; refine mov evL ?_) | (show SH _ _ _ _ _ (⟨_, .assign _, _, _, _, _⟩ :: _) _ _ _; refine asg evL ?_) | (show SH _ _ _ _ _ (⟨_, .load _ _, _, _, _, _⟩ :: _) _ _ _; refine lba rfl spL (by rfl) ?_) | (show SH _ _ _ _ _ (⟨_, .call ⟨.value (.func 35), _, _⟩, _, _, _, _⟩ :: _) _ _ _; refine cl (callee := .func 35) rfl (fun w hw => hO w hw.ext) rfl rfl ?_) | (show SH _ _ _ _ _ (⟨_, .box _ _, _, _, _, _⟩ :: _) _ _ _; refine bxx rfl evL rfl (fun b => ?_))) | refine s_nil ?_ | refine kh_normal ?_))
    refine v_norm [(1,_),(3,_),(5,_),(7,_),(8,_)] heL (fun g => ?_)
    refine v_loop0 [(7,8),(12,34)] (fun i : Nat => [(8, .int .i64 i), (7, .bool ((l.take i).any f))]) (fun i => i ≤ l.length) (fun i => l.length - i) 0 ⟨rfl, rfl, trivial⟩ (Nat.zero_le _) ?_
    rintro i g hi
    simp only [sets]
    by_cases hil : i < l.length
    · have ha : (List.take (i + 1) l).any f = ((List.take i l).any f || (ownsE ct (l.getD i Flat.dflt).e && closeE (l.getD i Flat.dflt).e ⟨ei, xs⟩)) := hat i hil
      have hoi := hOi i hil
      have hci := hCi i hil
      obtain ⟨⟨⟨yi, ys⟩, Ay, cy⟩, hy⟩ : ∃ y, l.getD i Flat.dflt = y := ⟨_, rfl⟩
      have hyE : Flat.enc (l.getD i Flat.dflt) = [.int .i64 yi, .slice Ay ys.length cy] := by rw [hy]; rfl
      rw [hy] at hoi hci ha
      rw [show Flat.enc (⟨⟨yi, ys⟩, Ay, cy⟩ : EntP) = [.int .i64 yi, .slice Ay ys.length cy] from rfl] at hoi hci
      simp only at hoi hci ha
      obtain ⟨zb, hzb⟩ : ∃ zb, (l.take (i + 1)).any f = zb := ⟨_, rfl⟩
      rw [hzb] at ha
      generalize (l.take i).any f = za at ha ⊢
      generalize ownsE ct ⟨yi, ys⟩ = ow2 at hoi ha
      generalize closeE ⟨yi, ys⟩ ⟨ei, xs⟩ = cl2 at hci ha
      clear hOi hCi hat hfi hy
      cases ow2 with
      | false =>
        rw [Bool.false_and, Bool.or_false] at ha
        (repeat' (first | (show VH _ _ _ _ _ _ _; first | refine v_seq ?_ | refine r_seq ?_ | refine r_quiet hmix (by kernel_rfl) ?_ | refine v_block ?_ | refine v_skip ?_ | refine v_cond_t rfl tbL ?_ | refine v_cond_f rfl tbL ?_) | (show SH _ _ _ _ _ (_ :: _) _ _ _; first | (show SH _ _ _ _ _ (⟨_, _, _, _, _, some _⟩ :: _) _ _ _; (refine gif rfl rfl ?_; refine giTF tbL ?_)) | (show SH _ _ _ _ _ (⟨_, .move _, _, _, _, _⟩ :: _) _ _ _; refine mov evL ?_) | (show SH _ _ _ _ _ (⟨_, .assign _, _, _, _, _⟩ :: _) _ _ _; refine asg evL ?_) | (show SH _ _ _ _ _ (⟨_, .binOp .lss _ _ _ _, _, _, _, _⟩ :: _) _ _ _; refine lssT rfl rfl omD ?_) | (show SH _ _ _ _ _ (⟨_, .binOp .add _ _ _ _, _, _, _, _⟩ :: _) _ _ _; refine add rfl rfl inL ?_) | (show SH _ _ _ _ _ (⟨_, .load _ _, _, _, _, _⟩ :: _) _ _ _; first | refine lag rfl (fun _ _ => rdY) (by rfl) omL (by assumption) ?_ | refine lbx rfl spL (by rfl) ?_) | (show SH _ _ _ _ _ (⟨_, .indexAddr _ _ _, _, _, _, _⟩ :: _) _ _ _; refine ix rfl rfl (by with_reducible rfl) (fun _ _ => rdY) (by rfl) omL omL ?_) | refine slen rfl ?_ | (show SH _ _ _ _ _ (⟨_, .call ⟨.value (.func 35), _, _⟩, _, _, _, _⟩ :: _) _ _ _; refine cl (callee := .func 35) rfl (fun w hw => hoi w hw.ext) rfl rfl ?_) | (show SH _ _ _ _ _ (⟨_, .pick _ _ _, _, _, _, _⟩ :: _) _ _ _; refine pkf rfl tbL evL ?_) | refine fad rfl ?_) | refine s_nil ?_ | refine kh_normal ?_ | refine bh_normal ?_))
        exact ⟨agL, i + 1, ⟨rfl, congrArg Value.bool (by rw [hzb, ha]), trivial⟩, enL, by omega, by omega⟩
      | true =>
        rw [Bool.true_and] at ha
        cases cl2 with
        | false =>
          rw [Bool.or_false] at ha
          (repeat' (first | (show VH _ _ _ _ _ _ _; first | refine v_seq ?_ | refine r_seq ?_ | refine r_quiet hmix (by kernel_rfl) ?_ | refine v_block ?_ | refine v_skip ?_ | refine v_cond_t rfl tbL ?_ | refine v_cond_f rfl tbL ?_) | (show SH _ _ _ _ _ (_ :: _) _ _ _; first | (show SH _ _ _ _ _ (⟨_, _, _, _, _, some _⟩ :: _) _ _ _; (refine gif rfl rfl ?_; refine giTT tbL ?_)) | (show SH _ _ _ _ _ (⟨_, .move _, _, _, _, _⟩ :: _) _ _ _; refine mov evL ?_) | (show SH _ _ _ _ _ (⟨_, .assign _, _, _, _, _⟩ :: _) _ _ _; refine asg evL ?_) | (show SH _ _ _ _ _ (⟨_, .binOp .lss _ _ _ _, _, _, _, _⟩ :: _) _ _ _; refine lssT rfl rfl omD ?_) | (show SH _ _ _ _ _ (⟨_, .binOp .add _ _ _ _, _, _, _, _⟩ :: _) _ _ _; refine add rfl rfl inL ?_) | (show SH _ _ _ _ _ (⟨_, .load _ _, _, _, _, _⟩ :: _) _ _ _; first | refine lag rfl (fun _ _ => rdY) (by rfl) omL (by assumption) ?_ | refine lbx rfl spL (by rfl) ?_ | refine lba rfl spL (by rfl) ?_) | (show SH _ _ _ _ _ (⟨_, .indexAddr _ _ _, _, _, _, _⟩ :: _) _ _ _; refine ix rfl rfl (by with_reducible rfl) (fun _ _ => rdY) (by rfl) omL omL ?_) | refine slen rfl ?_ | (show SH _ _ _ _ _ (⟨_, .call ⟨.value (.func 35), _, _⟩, _, _, _, _⟩ :: _) _ _ _; refine cl (callee := .func 35) rfl (fun w hw => hoi w hw.ext) rfl rfl ?_) | (show SH _ _ _ _ _ (⟨_, .call ⟨.value (.func 63), _, _⟩, _, _, _, _⟩ :: _) _ _ _; refine cl (callee := .func 63) rfl (fun w hw => hci w hw.ext) rfl rfl ?_) | (show SH _ _ _ _ _ (⟨_, .pick _ _ _, _, _, _, _⟩ :: _) _ _ _; refine pkt rfl tbL evL ?_) | refine fad rfl ?_) | refine s_nil ?_ | refine kh_normal ?_ | refine bh_normal ?_))
          exact ⟨agL, i + 1, ⟨rfl, congrArg Value.bool (by rw [hzb, ha]), trivial⟩, enL, by omega, by omega⟩
        | true =>
          rw [Bool.or_true] at ha
          (repeat' (first | (show VH _ _ _ _ _ _ _; first | refine v_seq ?_ | refine r_seq ?_ | refine r_quiet hmix (by kernel_rfl) ?_ | refine v_block ?_ | refine v_skip ?_ | refine v_cond_t rfl tbL ?_) | (show SH _ _ _ _ _ (_ :: _) _ _ _; first | (show SH _ _ _ _ _ (⟨_, _, _, _, _, some _⟩ :: _) _ _ _; (refine gif rfl rfl ?_; refine giTT tbL ?_)) | (show SH _ _ _ _ _ (⟨_, .move _, _, _, _, _⟩ :: _) _ _ _; refine mov evL ?_) | (show SH _ _ _ _ _ (⟨_, .assign _, _, _, _, _⟩ :: _) _ _ _; refine asg evL ?_) | (show SH _ _ _ _ _ (⟨_, .binOp .lss _ _ _ _, _, _, _, _⟩ :: _) _ _ _; refine lssT rfl rfl omD ?_) | (show SH _ _ _ _ _ (⟨_, .binOp .add _ _ _ _, _, _, _, _⟩ :: _) _ _ _; refine add rfl rfl inL ?_) | (show SH _ _ _ _ _ (⟨_, .load _ _, _, _, _, _⟩ :: _) _ _ _; first | refine lag rfl (fun _ _ => rdY) (by rfl) omL (by assumption) ?_ | refine lbx rfl spL (by rfl) ?_ | refine lba rfl spL (by rfl) ?_) | (show SH _ _ _ _ _ (⟨_, .indexAddr _ _ _, _, _, _, _⟩ :: _) _ _ _; refine ix rfl rfl (by with_reducible rfl) (fun _ _ => rdY) (by rfl) omL omL ?_) | refine slen rfl ?_ | (show SH _ _ _ _ _ (⟨_, .call ⟨.value (.func 35), _, _⟩, _, _, _, _⟩ :: _) _ _ _; refine cl (callee := .func 35) rfl (fun w hw => hoi w hw.ext) rfl rfl ?_) | (show SH _ _ _ _ _ (⟨_, .call ⟨.value (.func 63), _, _⟩, _, _, _, _⟩ :: _) _ _ _; refine cl (callee := .func 63) rfl (fun w hw => hci w hw.ext) rfl rfl ?_) | (show SH _ _ _ _ _ (⟨_, .pick _ _ _, _, _, _, _⟩ :: _) _ _ _; refine pkt rfl tbL evL ?_) | refine fad rfl ?_) | refine s_nil ?_ | refine kh_normal ?_ | refine bh_normal ?_))
          exact ⟨agL, i + 1, ⟨rfl, congrArg Value.bool (by rw [hzb, ha]), trivial⟩, enL, by omega, by omega⟩
    · obtain rfl : i = l.length := by omega
      rw [List.take_length]
      generalize l.any f = za
      clear hOi hCi hat hfi
      cases za with
      | false =>
        rw [Bool.and_false]
        (repeat' (first | (show VH _ _ _ _ _ _ _; first | refine v_seq ?_ | refine r_seq ?_ | refine v_ret ?_ | refine v_exit ?_ | refine v_cond_f rfl tbL ?_) | (show SH _ _ _ _ _ (_ :: _) _ _ _; first | (show SH _ _ _ _ _ (⟨_, _, _, _, _, some _⟩ :: _) _ _ _; (refine gif rfl rfl ?_; refine giTF tbL ?_)) | (show SH _ _ _ _ _ (⟨_, .move _, _, _, _, _⟩ :: _) _ _ _; refine mov evL ?_) | (show SH _ _ _ _ _ (⟨_, .assign _, _, _, _, _⟩ :: _) _ _ _; refine asg evL ?_) | (show SH _ _ _ _ _ (⟨_, .binOp .lss _ _ _ _, _, _, _, _⟩ :: _) _ _ _; refine lssF rfl rfl omD ?_) | (show SH _ _ _ _ _ (⟨_, .load _ _, _, _, _, _⟩ :: _) _ _ _; refine lbx rfl spL (by rfl) ?_) | refine slen rfl ?_ | (show SH _ _ _ _ _ (⟨_, .pick _ _ _, _, _, _, _⟩ :: _) _ _ _; refine pkf rfl tbL evL ?_) | refine fad rfl ?_) | refine s_nil ?_ | refine kh_normal ?_ | refine kh_exit ?_ | refine bh_exit ?_))
        exact rh1 rfl rfl ⟨rfl, rfl⟩ (ent_nil _)
      | true =>
        rw [Bool.and_true]
        (repeat' (first | (show VH _ _ _ _ _ _ _; first | refine v_seq ?_ | refine r_seq ?_ | refine v_ret ?_ | refine v_exit ?_ | refine v_cond_f rfl tbL ?_) | (show SH _ _ _ _ _ (_ :: _) _ _ _; first | (show SH _ _ _ _ _ (⟨_, _, _, _, _, some _⟩ :: _) _ _ _; (refine gif rfl rfl ?_; refine giTT tbL ?_)) | (show SH _ _ _ _ _ (⟨_, .move _, _, _, _, _⟩ :: _) _ _ _; refine mov evL ?_) | (show SH _ _ _ _ _ (⟨_, .assign _, _, _, _, _⟩ :: _) _ _ _; refine asg evL ?_) | (show SH _ _ _ _ _ (⟨_, .binOp .lss _ _ _ _, _, _, _, _⟩ :: _) _ _ _; refine lssF rfl rfl omD ?_) | (show SH _ _ _ _ _ (⟨_, .load _ _, _, _, _, _⟩ :: _) _ _ _; first | refine lbx rfl spL (by rfl) ?_ | refine lba rfl spL (by rfl) ?_) | refine slen rfl ?_ | (show SH _ _ _ _ _ (⟨_, .call ⟨.value (.func 64), _, _⟩, _, _, _, _⟩ :: _) _ _ _; refine cl (callee := .func 64) rfl (fun w hw => hH w hw.ext) rfl rfl ?_) | refine bnot rfl ?_ | (show SH _ _ _ _ _ (⟨_, .pick _ _ _, _, _, _, _⟩ :: _) _ _ _; refine pkt rfl tbL evL ?_) | refine fad rfl ?_) | refine s_nil ?_ | refine kh_normal ?_ | refine kh_exit ?_ | refine bh_exit ?_))
        exact rh1 rfl rfl ⟨rfl, rfl⟩ (ent_nil _)
set_option maxHeartbeats 1000000 in
set_option maxRecDepth 100000 in
theorem refRight24_spec (t ct : Int) (A : Option Addr) (l : List EntP) (c1 : Nat) (w : World) (hs : Sz l) (hr : RdW w A l) : Ret Tryz.prog 34 [wv t A l c1, .int .i64 ct].toArray w (Out w (.bool (decide (OkI ct t (ents l))))) := by
  have hV := fun w' (he : Ext w w') => refValid_spec t A l c1 w' hs (hr.ext he)
  unfold wv at *
  by_cases hv : ValidW t (ents l)
  · rw [decide_eq_true hv] at hV
    by_cases h1 : 1 ≤ ct
    · by_cases h2 : ct ≤ 8
      · rw [decide_eq_true (show OkI ct t (ents l) from ⟨⟨h1, h2⟩, hv⟩)]
        clear hv
        refine enterH Tryz.func34 rfl rfl Tryz.ntmps34 rfl (Wd.refl _) ?_
        (repeat' (first | (show VH _ _ _ _ _ _ _; first | refine v_seq ?_ | refine r_seq ?_ | refine v_ret ?_) | (show SH _ _ _ _ _ (_ :: _) _ _ _; first | (show SH _ _ _ _ _ (⟨_, _, _, _, _, some _⟩ :: _) _ _ _; (refine gif rfl rfl ?_; refine giTT tbL ?_)) | (show SH _ _ _ _ _ (⟨_, .move _, _, _, _, _⟩ :: _) _ _ _; refine mov evL ?_) | (show SH _ _ _ _ _ (⟨_, .assign _, _, _, _, _⟩ :: _) _ _ _; refine asg evL ?_) | (show SH _ _ _ _ _ (⟨_, .binOp .leq _ _ _ _, _, _, _, _⟩ :: _) _ _ _; refine leqT rfl rfl omD ?_) | (show SH _ _ _ _ _ (⟨_, .binOp .geq _ _ _ _, _, _, _, _⟩ :: _) _ _ _; refine geqT rfl rfl omD ?_) | (show SH _ _ _ _ _ (⟨_, .load _ _, _, _, _, _⟩ :: _) _ _ _; refine lba rfl spL (by rfl) ?_) | (show SH _ _ _ _ _ (⟨_, .call ⟨.value (.func 58), _, _⟩, _, _, _, _⟩ :: _) _ _ _; refine cl (callee := .func 58) rfl (fun w hw => hV w hw.ext) rfl rfl ?_) | (show SH _ _ _ _ _ (⟨_, .pick _ _ _, _, _, _, _⟩ :: _) _ _ _; refine pkt rfl tbL evL ?_) | (show SH _ _ _ _ _ (⟨_, .box _ _, _, _, _, _⟩ :: _) _ _ _; refine bxx rfl evL rfl (fun b => ?_))) | refine s_nil ?_ | refine kh_normal ?_))
        exact rh1 rfl rfl ⟨rfl, rfl⟩ (ent_nil _)
      · rw [decide_eq_false (show ¬OkI ct t (ents l) from fun h => h2 h.1.2)]
        clear hv
        refine enterH Tryz.func34 rfl rfl Tryz.ntmps34 rfl (Wd.refl _) ?_
        (repeat' (first | (show VH _ _ _ _ _ _ _; first | refine v_seq ?_ | refine r_seq ?_ | refine v_ret ?_) | (show SH _ _ _ _ _ (_ :: _) _ _ _; first | (show SH _ _ _ _ _ (⟨_, _, _, _, _, some _⟩ :: _) _ _ _; (refine gif rfl rfl ?_; refine giTT tbL ?_)) | (show SH _ _ _ _ _ (⟨_, .move _, _, _, _, _⟩ :: _) _ _ _; refine mov evL ?_) | (show SH _ _ _ _ _ (⟨_, .assign _, _, _, _, _⟩ :: _) _ _ _; refine asg evL ?_) | (show SH _ _ _ _ _ (⟨_, .binOp .leq _ _ _ _, _, _, _, _⟩ :: _) _ _ _; refine leqF rfl rfl omD ?_) | (show SH _ _ _ _ _ (⟨_, .binOp .geq _ _ _ _, _, _, _, _⟩ :: _) _ _ _; refine geqT rfl rfl omD ?_) | (show SH _ _ _ _ _ (⟨_, .load _ _, _, _, _, _⟩ :: _) _ _ _; refine lba rfl spL (by rfl) ?_) | (show SH _ _ _ _ _ (⟨_, .call ⟨.value (.func 58), _, _⟩, _, _, _, _⟩ :: _) _ _ _; refine cl (callee := .func 58) rfl (fun w hw => hV w hw.ext) rfl rfl ?_) | (show SH _ _ _ _ _ (⟨_, .pick _ _ _, _, _, _, _⟩ :: _) _ _ _; refine pkt rfl tbL evL ?_) | (show SH _ _ _ _ _ (⟨_, .box _ _, _, _, _, _⟩ :: _) _ _ _; refine bxx rfl evL rfl (fun b => ?_))) | refine s_nil ?_ | refine kh_normal ?_))
        exact rh1 rfl rfl ⟨rfl, rfl⟩ (ent_nil _)
    · rw [decide_eq_false (show ¬OkI ct t (ents l) from fun h => h1 h.1.1)]
      clear hv
      refine enterH Tryz.func34 rfl rfl Tryz.ntmps34 rfl (Wd.refl _) ?_
      (repeat' (first | (show VH _ _ _ _ _ _ _; first | refine v_seq ?_ | refine r_seq ?_ | refine v_ret ?_) | (show SH _ _ _ _ _ (_ :: _) _ _ _; first | (show SH _ _ _ _ _ (⟨_, _, _, _, _, some _⟩ :: _) _ _ _; (refine gif rfl rfl ?_; first | refine giTT tbL ?_ | refine giTF tbL ?_)) | (show SH _ _ _ _ _ (⟨_, .move _, _, _, _, _⟩ :: _) _ _ _; refine mov evL ?_) | (show SH _ _ _ _ _ (⟨_, .assign _, _, _, _, _⟩ :: _) _ _ _; refine asg evL ?_) | (show SH _ _ _ _ _ (⟨_, .binOp .geq _ _ _ _, _, _, _, _⟩ :: _) _ _ _; refine geqF rfl rfl omD ?_) | (show SH _ _ _ _ _ (⟨_, .load _ _, _, _, _, _⟩ :: _) _ _ _; refine lba rfl spL (by rfl) ?_) | (show SH _ _ _ _ _ (⟨_, .call ⟨.value (.func 58), _, _⟩, _, _, _, _⟩ :: _) _ _ _; refine cl (callee := .func 58) rfl (fun w hw => hV w hw.ext) rfl rfl ?_) | (show SH _ _ _ _ _ (⟨_, .pick _ _ _, _, _, _, _⟩ :: _) _ _ _; first | refine pkt rfl tbL evL ?_ | refine pkf rfl tbL evL ?_) | (show SH _ _ _ _ _ (⟨_, .box _ _, _, _, _, _⟩ :: _) _ _ _; refine bxx rfl evL rfl (fun b => ?_))) | refine s_nil ?_ | refine kh_normal ?_))
      exact rh1 rfl rfl ⟨rfl, rfl⟩ (ent_nil _)
  · rw [decide_eq_false hv] at hV
    rw [decide_eq_false (show ¬OkI ct t (ents l) from fun h => hv h.2)]
    clear hv
    refine enterH Tryz.func34 rfl rfl Tryz.ntmps34 rfl (Wd.refl _) ?_
    (repeat' (first | (show VH _ _ _ _ _ _ _; first | refine v_seq ?_ | refine r_seq ?_ | refine v_ret ?_) | (show SH _ _ _ _ _ (_ :: _) _ _ _; first | (show SH _ _ _ _ _ (⟨_, _, _, _, _, some _⟩ :: _) _ _ _; (refine gif rfl rfl ?_; refine giTF tbL ?_)) | (show SH _ _ _ _ _ (⟨_, .move _, _, _, _, _⟩ :: _) _ _ _; refine mov evL ?_) | (show SH _ _ _ _ _ (⟨_, .assign _, _, _, _, _⟩ :: _) _ _ _; refine asg evL ?_) | (show SH _ _ _ _ _ (⟨_, .load _ _, _, _, _, _⟩ :: _) _ _ _; refine lba rfl spL (by rfl) ?_) | (show SH _ _ _ _ _ (⟨_, .call ⟨.value (.func 58), _, _⟩, _, _, _, _⟩ :: _) _ _ _; refine cl (callee := .func 58) rfl (fun w hw => hV w hw.ext) rfl rfl ?_) | (show SH _ _ _ _ _ (⟨_, .pick _ _ _, _, _, _, _⟩ :: _) _ _ _; refine pkf rfl tbL evL ?_) | (show SH _ _ _ _ _ (⟨_, .box _ _, _, _, _, _⟩ :: _) _ _ _; refine bxx rfl evL rfl (fun b => ?_))) | refine s_nil ?_ | refine kh_normal ?_))
    exact rh1 rfl rfl ⟨rfl, rfl⟩ (ent_nil _)
end Go.Proofs.YtjefoecnciepmaaGreatDoor

/- The reference of layer 24: Own, Visible. -/
namespace Go.Proofs.YtjefoecnciepmaaGreatDoor
open Go.Fw Go.RowKit
theorem filt_nx {α β : Type} {l : List α} {k : Nat} (d : α) (b : α → Bool) (y : α → β) (hk : k < l.length) : ((l.take (k + 1)).filter b).map y = ((l.take k).filter b).map y ++ (if b (l.getD k d) then [y (l.getD k d)] else []) := by
  rw [take_snoc (d := d) hk, List.filter_append, List.map_append]
  congr 1
  by_cases h : b (l.getD k d) = true
  · rw [if_pos h, List.filter_cons_of_pos h]; rfl
  · rw [if_neg h, List.filter_cons_of_neg h]; rfl
set_option maxHeartbeats 2000000 in
set_option maxRecDepth 100000 in
theorem refOwn_spec (ct t : Int) (A : Option Addr) (l : List EntP) (c1 : Nat) (w : World) (hs : Sz l) (hse : ∀ x ∈ l, x.e.comps.length ≤ 1000000) (hr : RdW w A l) :
    Ret Tryz.prog 14 [wv t A l c1, .int .i64 ct].toArray w (RP w (FreshE 3 (ownL ct t (ents l)) (errI ct t (ents l)))) := by
  have hO := fun w' (he : Ext w w') => refRight24_spec t ct A l c1 w' hs (hr.ext he)
  unfold ownL errI
  by_cases hv : OkI ct t (ents l)
  · rw [if_pos hv, if_pos hv]
    rw [decide_eq_true hv] at hO
    have hl64 : l.length ≤ 64 := by have := hv.2.len; rwa [ents_len] at this
    have hC := fun i (hi : i < l.length) w' (he : Ext w w') => refOwned_spec (l.getD i Flat.dflt) ct w' (by have := hs.el _ (getD_mem (d := Flat.dflt) hi); omega) ((hr.ext he).at hi)
    rw [← ids_ents (ownsE ct) l]
    have hr1 := hr.1
    generalize hf : (fun x : EntP => ownsE ct x.e) = f
    have hfi : ∀ y : EntP, ownsE ct y.e = f y := fun y => by rw [← hf]
    simp only [hfi] at hC
    clear hf hv hs hse hr hfi
    unfold wv at *
    refine enterH Tryz.func14 rfl rfl Tryz.ntmps14 rfl (Wd.refl _) ?_
    (repeat' (first | (show VH _ _ _ _ _ _ _; first | refine v_seq ?_ | refine r_seq ?_ | refine v_block ?_ | refine v_skip ?_ | refine v_cond_f rfl tbL ?_) | (show SH _ _ _ _ _ (_ :: _) _ _ _; first | (show SH _ _ _ _ _ (⟨_, .move _, _, _, _, _⟩ :: _) _ _ _; refine mov evL ?_) | (show SH _ _ _ _ _ (⟨_, .assign _, _, _, _, _⟩ :: _) _ _ _; refine asg evL ?_) | (show SH _ _ _ _ _ (⟨_, .load _ _, _, _, _, _⟩ :: _) _ _ _; refine lba rfl spL (by rfl) ?_) | (show SH _ _ _ _ _ (⟨_, .call ⟨.value (.func 34), _, _⟩, _, _, _, _⟩ :: _) _ _ _; refine cl (callee := .func 34) rfl (fun w hw => hO w hw.ext) rfl rfl ?_) | refine bnoT rfl ?_ | (show SH _ _ _ _ _ (⟨_, .box _ _, _, _, _, _⟩ :: _) _ _ _; refine bxx rfl evL rfl (fun b => ?_))) | refine s_nil ?_ | refine kh_normal ?_))
    revert b
    intro b2
    refine v_norm [(1,_),(2,_),(6,_),(7,_)] heL (fun g => ?_)
    refine v_loop [(6,7),(12,34)] (fun s : Nat × (Option Addr × Nat) => [(7, .int .i64 s.1), (6, .slice s.2.1 (((l.take s.1).filter f).map idE).length s.2.2)]) (fun s => [orow 3 s.2.1 s.2.2 (((l.take s.1).filter f).map idE), bx b2 24 [.int .i64 t, .slice A l.length c1]]) (fun s => s.1 ≤ l.length) (fun s => l.length - s.1) (0, none, 0) ⟨rfl, rfl, trivial⟩ (ent_nilrow enL) (Nat.zero_le _) ?_
    rintro ⟨i, A1, c2⟩ g hi
    simp only [sets]
    simp only at hi
    have hlen : (((l.take i).filter f).map idE).length ≤ i := by
      rw [List.length_map]
      have := List.length_filter_le f (l.take i)
      rw [List.length_take] at this; omega
    by_cases hil : i < l.length
    · have hn := filt_nx Flat.dflt f idE hil
      have hc := hC i hil
      obtain ⟨⟨⟨yi, ys⟩, Ay, cy⟩, hy⟩ : ∃ y, l.getD i Flat.dflt = y := ⟨_, rfl⟩
      have hyE : Flat.enc (l.getD i Flat.dflt) = [.int .i64 yi, .slice Ay ys.length cy] := by rw [hy]; rfl
      rw [hy] at hn hc
      rw [show Flat.enc (⟨⟨yi, ys⟩, Ay, cy⟩ : EntP) = [.int .i64 yi, .slice Ay ys.length cy] from rfl] at hc
      rw [show idE (⟨⟨yi, ys⟩, Ay, cy⟩ : EntP) = yi from rfl] at hn
      generalize f ⟨⟨yi, ys⟩, Ay, cy⟩ = z at hn hc
      clear hC hO hy
      cases z with
      | true =>
        rw [if_pos rfl] at hn
        (repeat' (first | (show VH _ _ _ _ _ _ _; first | refine v_seq ?_ | refine r_seq ?_ | refine v_block ?_ | refine v_skip ?_ | refine v_cond_t rfl tbL ?_) | (show SH _ _ _ _ _ (_ :: _) _ _ _; first | (show SH _ _ _ _ _ (⟨_, .move _, _, _, _, _⟩ :: _) _ _ _; refine mov evL ?_) | (show SH _ _ _ _ _ (⟨_, .binOp .lss _ _ _ _, _, _, _, _⟩ :: _) _ _ _; refine lssT rfl rfl omD ?_) | (show SH _ _ _ _ _ (⟨_, .load _ _, _, _, _, _⟩ :: _) _ _ _; first | refine lag rfl (fun _ _ => rdY) (by rfl) omL (by assumption) ?_ | refine lrg rfl (fun _ _ => rdY) (by rfl) omL (by assumption) (by rfl) ?_ | refine lbx rfl spL (by rfl) ?_) | (show SH _ _ _ _ _ (⟨_, .indexAddr _ _ _, _, _, _, _⟩ :: _) _ _ _; refine ix rfl rfl (by with_reducible rfl) (fun _ _ => rdY) (by rfl) omL omL ?_) | refine slen rfl ?_ | (show SH _ _ _ _ _ (⟨_, .call ⟨.value (.func 35), _, _⟩, _, _, _, _⟩ :: _) _ _ _; refine cl (callee := .func 35) rfl (fun w hw => hc w hw.ext) rfl rfl ?_) | refine fad rfl ?_ | (show SH _ _ _ _ _ (⟨_, .buildSlice _ _ _, _, _, _, _⟩ :: _) _ _ _; refine bsl (α := Int) rfl rfl (by repeat (first | exact Vals.nil | (apply Vals.cons; rfl))) rfl (by rfl) (by decide) (fun b => ?_))) | refine s_nil ?_ | refine kh_normal ?_))
        refine app (l := ((l.take i).filter f).map idE) (l2 := [yi]) rfl rfl rfl spL (fun w hw => hw.rd spL) rfl rfl rfl (by simp only [List.length_cons, List.length_nil]; omega) (by simp only [List.length_cons, List.length_nil]; omega) (fun A4 c4 => ⟨enL, ?_⟩)
        rw [← hn]
        (repeat' (first | refine r_seq ?_ | (show SH _ _ _ _ _ (_ :: _) _ _ _; first | (show SH _ _ _ _ _ (⟨_, .move _, _, _, _, _⟩ :: _) _ _ _; refine mov evL ?_) | (show SH _ _ _ _ _ (⟨_, .assign _, _, _, _, _⟩ :: _) _ _ _; refine asg evL ?_) | (show SH _ _ _ _ _ (⟨_, .binOp .add _ _ _ _, _, _, _, _⟩ :: _) _ _ _; refine add rfl rfl inL ?_)) | refine s_nil ?_ | refine kh_normal ?_ | refine bh_normal ?_))
        exact ⟨agL, (i + 1, A4, c4), hsL, enL, hil, by show _ - (i + 1) < _ - i; omega⟩
      | false =>
        rw [if_neg (by simp), List.append_nil] at hn
        (repeat' (first | (show VH _ _ _ _ _ _ _; first | refine v_seq ?_ | refine r_seq ?_ | refine v_block ?_ | refine v_skip ?_ | refine v_cond_t rfl tbL ?_ | refine v_cond_f rfl tbL ?_) | (show SH _ _ _ _ _ (_ :: _) _ _ _; first | (show SH _ _ _ _ _ (⟨_, .move _, _, _, _, _⟩ :: _) _ _ _; refine mov evL ?_) | (show SH _ _ _ _ _ (⟨_, .assign _, _, _, _, _⟩ :: _) _ _ _; refine asg evL ?_) | (show SH _ _ _ _ _ (⟨_, .binOp .lss _ _ _ _, _, _, _, _⟩ :: _) _ _ _; refine lssT rfl rfl omD ?_) | (show SH _ _ _ _ _ (⟨_, .binOp .add _ _ _ _, _, _, _, _⟩ :: _) _ _ _; refine add rfl rfl inL ?_) | (show SH _ _ _ _ _ (⟨_, .load _ _, _, _, _, _⟩ :: _) _ _ _; first | refine lag rfl (fun _ _ => rdY) (by rfl) omL (by assumption) ?_ | refine lbx rfl spL (by rfl) ?_) | (show SH _ _ _ _ _ (⟨_, .indexAddr _ _ _, _, _, _, _⟩ :: _) _ _ _; refine ix rfl rfl (by with_reducible rfl) (fun _ _ => rdY) (by rfl) omL omL ?_) | refine slen rfl ?_ | (show SH _ _ _ _ _ (⟨_, .call ⟨.value (.func 35), _, _⟩, _, _, _, _⟩ :: _) _ _ _; refine cl (callee := .func 35) rfl (fun w hw => hc w hw.ext) rfl rfl ?_) | refine fad rfl ?_) | refine s_nil ?_ | refine kh_normal ?_ | refine bh_normal ?_))
        exact ⟨agL, (i + 1, A1, c2), ⟨rfl, congrArg (fun L : List Int => Value.slice A1 L.length c2) hn.symm, trivial⟩, by rw [hn]; exact enL, hil, by show _ - (i + 1) < _ - i; omega⟩
    · obtain rfl : i = l.length := by omega
      rw [List.take_length]
      clear hC hO
      (repeat' (first | (show VH _ _ _ _ _ _ _; first | refine v_seq ?_ | refine r_seq ?_ | refine v_ret ?_ | refine v_exit ?_ | refine v_cond_f rfl tbL ?_) | (show SH _ _ _ _ _ (_ :: _) _ _ _; first | (show SH _ _ _ _ _ (⟨_, .move _, _, _, _, _⟩ :: _) _ _ _; refine mov evL ?_) | (show SH _ _ _ _ _ (⟨_, .assign _, _, _, _, _⟩ :: _) _ _ _; refine asg evL ?_) | (show SH _ _ _ _ _ (⟨_, .binOp .lss _ _ _ _, _, _, _, _⟩ :: _) _ _ _; refine lssF rfl rfl omD ?_) | (show SH _ _ _ _ _ (⟨_, .load _ _, _, _, _, _⟩ :: _) _ _ _; refine lbx rfl spL (by rfl) ?_) | refine slen rfl ?_ | refine fad rfl ?_) | refine s_nil ?_ | refine kh_normal ?_ | refine kh_exit ?_ | refine bh_exit ?_))
      exact rh2 rfl rfl rfl ⟨A1, c2, rfl, rfl⟩ enL
  · rw [if_neg hv, if_neg hv]
    rw [decide_eq_false hv] at hO
    clear hv
    unfold wv at *
    refine enterH Tryz.func14 rfl rfl Tryz.ntmps14 rfl (Wd.refl _) ?_
    (repeat' (first | (show VH _ _ _ _ _ _ _; first | refine v_seq ?_ | refine r_seq ?_ | refine v_ret ?_ | refine v_cond_t rfl tbL ?_) | (show SH _ _ _ _ _ (_ :: _) _ _ _; first | (show SH _ _ _ _ _ (⟨_, .move _, _, _, _, _⟩ :: _) _ _ _; refine mov evL ?_) | (show SH _ _ _ _ _ (⟨_, .assign _, _, _, _, _⟩ :: _) _ _ _; refine asg evL ?_) | (show SH _ _ _ _ _ (⟨_, .load _ _, _, _, _, _⟩ :: _) _ _ _; refine lba rfl spL (by rfl) ?_) | (show SH _ _ _ _ _ (⟨_, .call ⟨.value (.func 34), _, _⟩, _, _, _, _⟩ :: _) _ _ _; refine cl (callee := .func 34) rfl (fun w hw => hO w hw.ext) rfl rfl ?_) | refine bnoF rfl ?_ | (show SH _ _ _ _ _ (⟨_, .box _ _, _, _, _, _⟩ :: _) _ _ _; refine bxx rfl evL rfl (fun b => ?_))) | refine s_nil ?_ | refine kh_normal ?_ | refine kh_ret ?_))
    exact rh2 rfl rfl rfl ⟨none, 0, rfl, rfl⟩ (ent_nilrow (ent_nil _))
set_option maxHeartbeats 2000000 in
set_option maxRecDepth 100000 in
theorem refVisible_spec (ct t : Int) (A : Option Addr) (l : List EntP) (c1 : Nat) (w : World) (hs : Sz l) (hse : ∀ x ∈ l, x.e.comps.length ≤ 1000000) (hr : RdW w A l) :
    Ret Tryz.prog 16 [wv t A l c1, .int .i64 ct].toArray w (RP w (FreshE 3 (visL ct t (ents l)) (errI ct t (ents l)))) := by
  have hO := fun w' (he : Ext w w') => refRight24_spec t ct A l c1 w' hs (hr.ext he)
  unfold visL errI
  by_cases hv : OkI ct t (ents l)
  · rw [if_pos hv, if_pos hv]
    rw [decide_eq_true hv] at hO
    have hl64 : l.length ≤ 64 := by have := hv.2.len; rwa [ents_len] at this
    obtain ⟨cn, hcn⟩ : ∃ cn : Nat, ct = (cn : Int) := ⟨ct.toNat, by omega⟩
    have hC := fun i (hi : i < l.length) w' (he : Ext w w') => refShown_spec cn (by omega) t A l c1 (l.getD i Flat.dflt) w' hv.2 (hv.2.right _ (List.mem_map_of_mem (getD_mem hi))) hs (hse _ (getD_mem hi)) (hr.ext he) ((hr.ext he).at hi)
    rw [← hcn, show cn = ct.toNat from by omega] at hC
    rw [← ids_ents (seesE ct.toNat (ptsE ct (ents l))) l]
    have hr1 := hr.1
    generalize hf : (fun x : EntP => seesE ct.toNat (ptsE ct (ents l)) x.e) = f
    have hfi : ∀ y : EntP, seesE ct.toNat (ptsE ct (ents l)) y.e = f y := fun y => by rw [← hf]
    simp only [hfi] at hC
    clear hf hv hs hse hr hfi
    unfold wv at *
    refine enterH Tryz.func16 rfl rfl Tryz.ntmps16 rfl (Wd.refl _) ?_
    (repeat' (first | (show VH _ _ _ _ _ _ _; first | refine v_seq ?_ | refine r_seq ?_ | refine v_block ?_ | refine v_skip ?_ | refine v_cond_f rfl tbL ?_) | (show SH _ _ _ _ _ (_ :: _) _ _ _; first | (show SH _ _ _ _ _ (⟨_, .move _, _, _, _, _⟩ :: _) _ _ _; refine mov evL ?_) | (show SH _ _ _ _ _ (⟨_, .assign _, _, _, _, _⟩ :: _) _ _ _; refine asg evL ?_) | (show SH _ _ _ _ _ (⟨_, .load _ _, _, _, _, _⟩ :: _) _ _ _; refine lba rfl spL (by rfl) ?_) | (show SH _ _ _ _ _ (⟨_, .call ⟨.value (.func 34), _, _⟩, _, _, _, _⟩ :: _) _ _ _; refine cl (callee := .func 34) rfl (fun w hw => hO w hw.ext) rfl rfl ?_) | refine bnoT rfl ?_ | (show SH _ _ _ _ _ (⟨_, .box _ _, _, _, _, _⟩ :: _) _ _ _; refine bxx rfl evL rfl (fun b => ?_))) | refine s_nil ?_ | refine kh_normal ?_))
    revert b
    intro b2
    refine v_norm [(1,_),(2,_),(6,_),(7,_)] heL (fun g => ?_)
    refine v_loop [(6,7),(12,35)] (fun s : Nat × (Option Addr × Nat) => [(7, .int .i64 s.1), (6, .slice s.2.1 (((l.take s.1).filter f).map idE).length s.2.2)]) (fun s => [orow 3 s.2.1 s.2.2 (((l.take s.1).filter f).map idE), bx b2 24 [.int .i64 t, .slice A l.length c1]]) (fun s => s.1 ≤ l.length) (fun s => l.length - s.1) (0, none, 0) ⟨rfl, rfl, trivial⟩ (ent_nilrow enL) (Nat.zero_le _) ?_
    rintro ⟨i, A1, c2⟩ g hi
    simp only [sets]
    simp only at hi
    have hlen : (((l.take i).filter f).map idE).length ≤ i := by
      rw [List.length_map]
      have := List.length_filter_le f (l.take i)
      rw [List.length_take] at this; omega
    by_cases hil : i < l.length
    · have hn := filt_nx Flat.dflt f idE hil
      have hc := hC i hil
      obtain ⟨⟨⟨yi, ys⟩, Ay, cy⟩, hy⟩ : ∃ y, l.getD i Flat.dflt = y := ⟨_, rfl⟩
      have hyE : Flat.enc (l.getD i Flat.dflt) = [.int .i64 yi, .slice Ay ys.length cy] := by rw [hy]; rfl
      rw [hy] at hn hc
      rw [show Flat.enc (⟨⟨yi, ys⟩, Ay, cy⟩ : EntP) = [.int .i64 yi, .slice Ay ys.length cy] from rfl] at hc
      rw [show idE (⟨⟨yi, ys⟩, Ay, cy⟩ : EntP) = yi from rfl] at hn
      generalize f ⟨⟨yi, ys⟩, Ay, cy⟩ = z at hn hc
      clear hC hO hy
      cases z with
      | true =>
        rw [if_pos rfl] at hn
        (repeat' (first | (show VH _ _ _ _ _ _ _; first | refine v_seq ?_ | refine r_seq ?_ | refine r_quiet hmix (by kernel_rfl) ?_ | refine v_block ?_ | refine v_skip ?_ | refine v_cond_t rfl tbL ?_) | (show SH _ _ _ _ _ (_ :: _) _ _ _; first | (show SH _ _ _ _ _ (⟨_, .move _, _, _, _, _⟩ :: _) _ _ _; refine mov evL ?_) | (show SH _ _ _ _ _ (⟨_, .binOp .lss _ _ _ _, _, _, _, _⟩ :: _) _ _ _; refine lssT rfl rfl omD ?_) | (show SH _ _ _ _ _ (⟨_, .load _ _, _, _, _, _⟩ :: _) _ _ _; first | refine lag rfl (fun _ _ => rdY) (by rfl) omL (by assumption) ?_ | refine lrg rfl (fun _ _ => rdY) (by rfl) omL (by assumption) (by rfl) ?_ | refine lbx rfl spL (by rfl) ?_ | refine lba rfl spL (by rfl) ?_) | (show SH _ _ _ _ _ (⟨_, .indexAddr _ _ _, _, _, _, _⟩ :: _) _ _ _; refine ix rfl rfl (by with_reducible rfl) (fun _ _ => rdY) (by rfl) omL omL ?_) | refine slen rfl ?_ | (show SH _ _ _ _ _ (⟨_, .call ⟨.value (.func 37), _, _⟩, _, _, _, _⟩ :: _) _ _ _; refine cl (callee := .func 37) rfl (fun w hw => hc w hw.ext) rfl rfl ?_) | refine fad rfl ?_ | (show SH _ _ _ _ _ (⟨_, .buildSlice _ _ _, _, _, _, _⟩ :: _) _ _ _; refine bsl (α := Int) rfl rfl (by repeat (first | exact Vals.nil | (apply Vals.cons; rfl))) rfl (by rfl) (by decide) (fun b => ?_))) | refine s_nil ?_ | refine kh_normal ?_))
        refine app (l := ((l.take i).filter f).map idE) (l2 := [yi]) rfl rfl rfl spL (fun w hw => hw.rd spL) rfl rfl rfl (by simp only [List.length_cons, List.length_nil]; omega) (by simp only [List.length_cons, List.length_nil]; omega) (fun A4 c4 => ⟨enL, ?_⟩)
        rw [← hn]
        (repeat' (first | refine r_seq ?_ | (show SH _ _ _ _ _ (_ :: _) _ _ _; first | (show SH _ _ _ _ _ (⟨_, .move _, _, _, _, _⟩ :: _) _ _ _; refine mov evL ?_) | (show SH _ _ _ _ _ (⟨_, .assign _, _, _, _, _⟩ :: _) _ _ _; refine asg evL ?_) | (show SH _ _ _ _ _ (⟨_, .binOp .add _ _ _ _, _, _, _, _⟩ :: _) _ _ _; refine add rfl rfl inL ?_)) | refine s_nil ?_ | refine kh_normal ?_ | refine bh_normal ?_))
        exact ⟨agL, (i + 1, A4, c4), hsL, enL, hil, by show _ - (i + 1) < _ - i; omega⟩
      | false =>
        rw [if_neg (by simp), List.append_nil] at hn
        (repeat' (first | (show VH _ _ _ _ _ _ _; first | refine v_seq ?_ | refine r_seq ?_ | refine r_quiet hmix (by kernel_rfl) ?_ | refine v_block ?_ | refine v_skip ?_ | refine v_cond_t rfl tbL ?_ | refine v_cond_f rfl tbL ?_) | (show SH _ _ _ _ _ (_ :: _) _ _ _; first | (show SH _ _ _ _ _ (⟨_, .move _, _, _, _, _⟩ :: _) _ _ _; refine mov evL ?_) | (show SH _ _ _ _ _ (⟨_, .assign _, _, _, _, _⟩ :: _) _ _ _; refine asg evL ?_) | (show SH _ _ _ _ _ (⟨_, .binOp .lss _ _ _ _, _, _, _, _⟩ :: _) _ _ _; refine lssT rfl rfl omD ?_) | (show SH _ _ _ _ _ (⟨_, .binOp .add _ _ _ _, _, _, _, _⟩ :: _) _ _ _; refine add rfl rfl inL ?_) | (show SH _ _ _ _ _ (⟨_, .load _ _, _, _, _, _⟩ :: _) _ _ _; first | refine lag rfl (fun _ _ => rdY) (by rfl) omL (by assumption) ?_ | refine lbx rfl spL (by rfl) ?_ | refine lba rfl spL (by rfl) ?_) | (show SH _ _ _ _ _ (⟨_, .indexAddr _ _ _, _, _, _, _⟩ :: _) _ _ _; refine ix rfl rfl (by with_reducible rfl) (fun _ _ => rdY) (by rfl) omL omL ?_) | refine slen rfl ?_ | (show SH _ _ _ _ _ (⟨_, .call ⟨.value (.func 37), _, _⟩, _, _, _, _⟩ :: _) _ _ _; refine cl (callee := .func 37) rfl (fun w hw => hc w hw.ext) rfl rfl ?_) | refine fad rfl ?_) | refine s_nil ?_ | refine kh_normal ?_ | refine bh_normal ?_))
        exact ⟨agL, (i + 1, A1, c2), ⟨rfl, congrArg (fun L : List Int => Value.slice A1 L.length c2) hn.symm, trivial⟩, by rw [hn]; exact enL, hil, by show _ - (i + 1) < _ - i; omega⟩
    · obtain rfl : i = l.length := by omega
      rw [List.take_length]
      clear hC hO
      (repeat' (first | (show VH _ _ _ _ _ _ _; first | refine v_seq ?_ | refine r_seq ?_ | refine v_ret ?_ | refine v_exit ?_ | refine v_cond_f rfl tbL ?_) | (show SH _ _ _ _ _ (_ :: _) _ _ _; first | (show SH _ _ _ _ _ (⟨_, .move _, _, _, _, _⟩ :: _) _ _ _; refine mov evL ?_) | (show SH _ _ _ _ _ (⟨_, .assign _, _, _, _, _⟩ :: _) _ _ _; refine asg evL ?_) | (show SH _ _ _ _ _ (⟨_, .binOp .lss _ _ _ _, _, _, _, _⟩ :: _) _ _ _; refine lssF rfl rfl omD ?_) | (show SH _ _ _ _ _ (⟨_, .load _ _, _, _, _, _⟩ :: _) _ _ _; refine lbx rfl spL (by rfl) ?_) | refine slen rfl ?_ | refine fad rfl ?_) | refine s_nil ?_ | refine kh_normal ?_ | refine kh_exit ?_ | refine bh_exit ?_))
      exact rh2 rfl rfl rfl ⟨A1, c2, rfl, rfl⟩ enL
  · rw [if_neg hv, if_neg hv]
    rw [decide_eq_false hv] at hO
    clear hv
    unfold wv at *
    refine enterH Tryz.func16 rfl rfl Tryz.ntmps16 rfl (Wd.refl _) ?_
    (repeat' (first | (show VH _ _ _ _ _ _ _; first | refine v_seq ?_ | refine r_seq ?_ | refine v_ret ?_ | refine v_cond_t rfl tbL ?_) | (show SH _ _ _ _ _ (_ :: _) _ _ _; first | (show SH _ _ _ _ _ (⟨_, .move _, _, _, _, _⟩ :: _) _ _ _; refine mov evL ?_) | (show SH _ _ _ _ _ (⟨_, .assign _, _, _, _, _⟩ :: _) _ _ _; refine asg evL ?_) | (show SH _ _ _ _ _ (⟨_, .load _ _, _, _, _, _⟩ :: _) _ _ _; refine lba rfl spL (by rfl) ?_) | (show SH _ _ _ _ _ (⟨_, .call ⟨.value (.func 34), _, _⟩, _, _, _, _⟩ :: _) _ _ _; refine cl (callee := .func 34) rfl (fun w hw => hO w hw.ext) rfl rfl ?_) | refine bnoF rfl ?_ | (show SH _ _ _ _ _ (⟨_, .box _ _, _, _, _, _⟩ :: _) _ _ _; refine bxx rfl evL rfl (fun b => ?_))) | refine s_nil ?_ | refine kh_normal ?_ | refine kh_ret ?_))
    exact rh2 rfl rfl rfl ⟨none, 0, rfl, rfl⟩ (ent_nilrow (ent_nil _))
end Go.Proofs.YtjefoecnciepmaaGreatDoor

/- The reference of layer 24: Sees, Watchers. -/
namespace Go.Proofs.YtjefoecnciepmaaGreatDoor
open Go.Fw Go.RowKit
theorem entOf_at {id : Int} {l : List EntP} {k : Nat} (hq : ∀ q, q < k → (l.getD q Flat.dflt).e.id ≠ id) (hk : k < l.length) (h : (l.getD k Flat.dflt).e.id = id) : entOf id (ents l) = some (l.getD k Flat.dflt).e := by
  unfold entOf
  have := find_at (⟨0, []⟩ : Ent1) (fun e : Ent1 => decide (e.id = id)) (ents l) k (fun q hqk => by rw [ents_at l (by omega)]; exact decide_eq_false (hq q hqk)) (by rw [ents_len]; exact hk) (by rw [ents_at l hk]; exact decide_eq_true h)
  rw [this, ents_at l hk]
theorem entOf_no {id : Int} {l : List EntP} (hq : ∀ q, q < l.length → (l.getD q Flat.dflt).e.id ≠ id) : entOf id (ents l) = none :=
  find_no (⟨0, []⟩ : Ent1) (fun e : Ent1 => decide (e.id = id)) (ents l) (fun q hql => by rw [ents_len] at hql; rw [ents_at l hql]; exact decide_eq_false (hq q hql))
set_option maxHeartbeats 2000000 in
set_option maxRecDepth 100000 in
theorem refSees_spec (ct id t : Int) (A : Option Addr) (l : List EntP) (c1 : Nat) (w : World) (hs : Sz l) (hse : ∀ x ∈ l, x.e.comps.length ≤ 1000000) (hr : RdW w A l) :
    Ret Tryz.prog 18 [wv t A l c1, .int .i64 ct, .int .i64 id].toArray w (Out w (.tuple #[.bool (seeB ct id t (ents l)), .int .i64 (seeErr ct id t (ents l))])) := by
  have hO := fun w' (he : Ext w w') => refRight24_spec t ct A l c1 w' hs (hr.ext he)
  unfold seeB seeErr
  by_cases hv : OkI ct t (ents l)
  · rw [if_pos hv, decide_eq_true hv, Bool.true_and]
    rw [decide_eq_true hv] at hO
    have hl64 : l.length ≤ 64 := by have := hv.2.len; rwa [ents_len] at this
    obtain ⟨cn, hcn⟩ : ∃ cn : Nat, ct = (cn : Int) := ⟨ct.toNat, by omega⟩
    have hC := fun i (hi : i < l.length) w' (he : Ext w w') => refShown_spec cn (by omega) t A l c1 (l.getD i Flat.dflt) w' hv.2 (hv.2.right _ (List.mem_map_of_mem (getD_mem hi))) hs (hse _ (getD_mem hi)) (hr.ext he) ((hr.ext he).at hi)
    rw [← hcn, show cn = ct.toNat from by omega] at hC
    have hr1 := hr.1
    clear hcn hs hse hr hv
    unfold wv at *
    refine enterH Tryz.func18 rfl rfl Tryz.ntmps18 rfl (Wd.refl _) ?_
    (repeat' (first | (show VH _ _ _ _ _ _ _; first | refine v_seq ?_ | refine r_seq ?_ | refine v_block ?_ | refine v_skip ?_ | refine v_cond_f rfl tbL ?_) | (show SH _ _ _ _ _ (_ :: _) _ _ _; first | (show SH _ _ _ _ _ (⟨_, .move _, _, _, _, _⟩ :: _) _ _ _; refine mov evL ?_) | (show SH _ _ _ _ _ (⟨_, .assign _, _, _, _, _⟩ :: _) _ _ _; refine asg evL ?_) | (show SH _ _ _ _ _ (⟨_, .load _ _, _, _, _, _⟩ :: _) _ _ _; refine lba rfl spL (by rfl) ?_) | (show SH _ _ _ _ _ (⟨_, .call ⟨.value (.func 34), _, _⟩, _, _, _, _⟩ :: _) _ _ _; refine cl (callee := .func 34) rfl (fun w hw => hO w hw.ext) rfl rfl ?_) | refine bnoT rfl ?_ | (show SH _ _ _ _ _ (⟨_, .box _ _, _, _, _, _⟩ :: _) _ _ _; refine bxx rfl evL rfl (fun b => ?_))) | refine s_nil ?_ | refine kh_normal ?_))
    refine v_norm [(1,_),(2,_),(3,_),(8,_)] heL (fun g => ?_)
    refine v_loop0 [(6,8),(13,35)] (fun i : Nat => [(8, .int .i64 i)]) (fun i => i ≤ l.length ∧ ∀ q, q < i → (l.getD q Flat.dflt).e.id ≠ id) (fun i => l.length - i) 0 hsL ⟨Nat.zero_le _, fun q h => absurd h (Nat.not_lt_zero q)⟩ ?_
    rintro i g ⟨hi, hq⟩
    simp only [sets]
    by_cases hil : i < l.length
    · by_cases he : (l.getD i Flat.dflt).e.id = id
      · rw [entOf_at hq hil he]
        have hc := hC i hil
        simp only
        obtain ⟨⟨⟨yi, ys⟩, Ay, cy⟩, hy⟩ : ∃ y, l.getD i Flat.dflt = y := ⟨_, rfl⟩
        have hyE : Flat.enc (l.getD i Flat.dflt) = [.int .i64 yi, .slice Ay ys.length cy] := by rw [hy]; rfl
        rw [hy] at hc he
        rw [hy]
        rw [show Flat.enc (⟨⟨yi, ys⟩, Ay, cy⟩ : EntP) = [.int .i64 yi, .slice Ay ys.length cy] from rfl] at hc
        simp only at hc he ⊢
        generalize seesE ct.toNat (ptsE ct (ents l)) ⟨yi, ys⟩ = z at hc ⊢
        clear hC hO hy hq
        (repeat' (first | (show VH _ _ _ _ _ _ _; first | refine v_seq ?_ | refine r_seq ?_ | refine r_quiet hmix (by kernel_rfl) ?_ | refine v_block ?_ | refine v_ret ?_ | refine v_skip ?_ | refine v_cond_t rfl tbL ?_) | (show SH _ _ _ _ _ (_ :: _) _ _ _; first | (show SH _ _ _ _ _ (⟨_, .move _, _, _, _, _⟩ :: _) _ _ _; refine mov evL ?_) | (show SH _ _ _ _ _ (⟨_, .assign _, _, _, _, _⟩ :: _) _ _ _; refine asg evL ?_) | (show SH _ _ _ _ _ (⟨_, .binOp .lss _ _ _ _, _, _, _, _⟩ :: _) _ _ _; refine lssT rfl rfl omD ?_) | (show SH _ _ _ _ _ (⟨_, .binOp .eql _ _ _ _, _, _, _, _⟩ :: _) _ _ _; refine eqlT rfl rfl omD ?_) | (show SH _ _ _ _ _ (⟨_, .load _ _, _, _, _, _⟩ :: _) _ _ _; first | refine lag rfl (fun _ _ => rdY) (by rfl) omL (by assumption) ?_ | refine lrg rfl (fun _ _ => rdY) (by rfl) omL (by assumption) (by rfl) ?_ | refine lbx rfl spL (by rfl) ?_ | refine lba rfl spL (by rfl) ?_) | (show SH _ _ _ _ _ (⟨_, .indexAddr _ _ _, _, _, _, _⟩ :: _) _ _ _; refine ix rfl rfl (by with_reducible rfl) (fun _ _ => rdY) (by rfl) omL omL ?_) | refine slen rfl ?_ | (show SH _ _ _ _ _ (⟨_, .call ⟨.value (.func 37), _, _⟩, _, _, _, _⟩ :: _) _ _ _; refine cl (callee := .func 37) rfl (fun w hw => hc w hw.ext) rfl rfl ?_) | refine fad rfl ?_) | refine s_nil ?_ | refine kh_normal ?_ | refine kh_ret ?_ | refine bh_ret ?_))
        exact rh2 rfl rfl rfl ⟨rfl, rfl⟩ (ent_nil _)
      · have hn : ∀ q, q < i + 1 → (l.getD q Flat.dflt).e.id ≠ id := fun q h => by
          by_cases e : q = i
          · rw [e]; exact he
          · exact hq q (by omega)
        obtain ⟨⟨⟨yi, ys⟩, Ay, cy⟩, hy⟩ : ∃ y, l.getD i Flat.dflt = y := ⟨_, rfl⟩
        have hyE : Flat.enc (l.getD i Flat.dflt) = [.int .i64 yi, .slice Ay ys.length cy] := by rw [hy]; rfl
        rw [hy] at he
        simp only at he
        clear hC hO hy hq
        (repeat' (first | (show VH _ _ _ _ _ _ _; first | refine v_seq ?_ | refine r_seq ?_ | refine v_block ?_ | refine v_skip ?_ | refine v_cond_t rfl tbL ?_ | refine v_cond_f rfl tbL ?_) | (show SH _ _ _ _ _ (_ :: _) _ _ _; first | (show SH _ _ _ _ _ (⟨_, .move _, _, _, _, _⟩ :: _) _ _ _; refine mov evL ?_) | (show SH _ _ _ _ _ (⟨_, .assign _, _, _, _, _⟩ :: _) _ _ _; refine asg evL ?_) | (show SH _ _ _ _ _ (⟨_, .binOp .lss _ _ _ _, _, _, _, _⟩ :: _) _ _ _; refine lssT rfl rfl omD ?_) | (show SH _ _ _ _ _ (⟨_, .binOp .eql _ _ _ _, _, _, _, _⟩ :: _) _ _ _; refine eqlF rfl rfl omD ?_) | (show SH _ _ _ _ _ (⟨_, .binOp .add _ _ _ _, _, _, _, _⟩ :: _) _ _ _; refine add rfl rfl inL ?_) | (show SH _ _ _ _ _ (⟨_, .load _ _, _, _, _, _⟩ :: _) _ _ _; first | refine lrg rfl (fun _ _ => rdY) (by rfl) omL (by assumption) (by rfl) ?_ | refine lbx rfl spL (by rfl) ?_) | (show SH _ _ _ _ _ (⟨_, .indexAddr _ _ _, _, _, _, _⟩ :: _) _ _ _; refine ix rfl rfl (by with_reducible rfl) (fun _ _ => rdY) (by rfl) omL omL ?_) | refine slen rfl ?_ | refine fad rfl ?_) | refine s_nil ?_ | refine kh_normal ?_ | refine bh_normal ?_))
        exact ⟨agL, i + 1, hsL, enL, ⟨hil, hn⟩, by omega⟩
    · rw [entOf_no (fun q hql => hq q (by omega))]
      clear hC hO hq
      (repeat' (first | (show VH _ _ _ _ _ _ _; first | refine v_seq ?_ | refine r_seq ?_ | refine v_ret ?_ | refine v_exit ?_ | refine v_cond_f rfl tbL ?_) | (show SH _ _ _ _ _ (_ :: _) _ _ _; first | (show SH _ _ _ _ _ (⟨_, .move _, _, _, _, _⟩ :: _) _ _ _; refine mov evL ?_) | (show SH _ _ _ _ _ (⟨_, .assign _, _, _, _, _⟩ :: _) _ _ _; refine asg evL ?_) | (show SH _ _ _ _ _ (⟨_, .binOp .lss _ _ _ _, _, _, _, _⟩ :: _) _ _ _; refine lssF rfl rfl omD ?_) | (show SH _ _ _ _ _ (⟨_, .load _ _, _, _, _, _⟩ :: _) _ _ _; refine lbx rfl spL (by rfl) ?_) | refine slen rfl ?_ | refine fad rfl ?_) | refine s_nil ?_ | refine kh_normal ?_ | refine kh_exit ?_ | refine bh_exit ?_))
      exact rh2 rfl rfl rfl ⟨rfl, rfl⟩ (ent_nil _)
  · rw [if_neg hv, decide_eq_false hv, Bool.false_and]
    rw [decide_eq_false hv] at hO
    clear hv
    unfold wv at *
    refine enterH Tryz.func18 rfl rfl Tryz.ntmps18 rfl (Wd.refl _) ?_
    (repeat' (first | (show VH _ _ _ _ _ _ _; first | refine v_seq ?_ | refine r_seq ?_ | refine v_ret ?_ | refine v_cond_t rfl tbL ?_) | (show SH _ _ _ _ _ (_ :: _) _ _ _; first | (show SH _ _ _ _ _ (⟨_, .move _, _, _, _, _⟩ :: _) _ _ _; refine mov evL ?_) | (show SH _ _ _ _ _ (⟨_, .assign _, _, _, _, _⟩ :: _) _ _ _; refine asg evL ?_) | (show SH _ _ _ _ _ (⟨_, .load _ _, _, _, _, _⟩ :: _) _ _ _; refine lba rfl spL (by rfl) ?_) | (show SH _ _ _ _ _ (⟨_, .call ⟨.value (.func 34), _, _⟩, _, _, _, _⟩ :: _) _ _ _; refine cl (callee := .func 34) rfl (fun w hw => hO w hw.ext) rfl rfl ?_) | refine bnoF rfl ?_ | (show SH _ _ _ _ _ (⟨_, .box _ _, _, _, _, _⟩ :: _) _ _ _; refine bxx rfl evL rfl (fun b => ?_))) | refine s_nil ?_ | refine kh_normal ?_ | refine kh_ret ?_))
    exact rh2 rfl rfl rfl ⟨rfl, rfl⟩ (ent_nil _)
set_option maxHeartbeats 2000000 in
set_option maxRecDepth 100000 in
theorem refWatchers_spec (id t : Int) (A : Option Addr) (l : List EntP) (c1 : Nat) (w : World) (hs : Sz l) (hse : ∀ x ∈ l, x.e.comps.length ≤ 1000000) (hr : RdW w A l) :
    Ret Tryz.prog 22 [wv t A l c1, .int .i64 id].toArray w (RP w (FreshE 3 (watL id t (ents l)) (watErr id t (ents l)))) := by
  have hS := fun w' (he : Ext w w') (k : Nat) => refSees_spec ((k : Int) + 1) id t A l c1 w' hs hse (hr.ext he)
  have hE := fun k (hk : k < 8) => seeErr_wat (ct := ((k : Nat) : Int) + 1) (id := id) (t := t) (es := ents l) (by omega)
  have hN := watN_next id t (ents l)
  have hL := watN_len id t (ents l)
  have h0 : watN id t (ents l) 0 = [] := rfl
  unfold watL
  generalize watErr id t (ents l) = er at hE ⊢
  generalize watN id t (ents l) = wn at hN hL h0 ⊢
  clear hs hse hr
  unfold wv at *
  refine enterH Tryz.func22 rfl rfl Tryz.ntmps22 rfl (Wd.refl _) ?_
  (repeat' (first | (show VH _ _ _ _ _ _ _; first | refine v_seq ?_ | refine r_seq ?_ | refine v_block ?_) | (show SH _ _ _ _ _ (_ :: _) _ _ _; first | (show SH _ _ _ _ _ (⟨_, .assign _, _, _, _, _⟩ :: _) _ _ _; refine asg evL ?_) | (show SH _ _ _ _ _ (⟨_, .box _ _, _, _, _, _⟩ :: _) _ _ _; refine bxx rfl evL rfl (fun b => ?_))) | refine s_nil ?_ | refine kh_normal ?_))
  revert b
  intro b2
  refine v_norm [(1,_),(2,_),(6,_),(7,_)] heL (fun g => ?_)
  refine v_loop [(4,28)] (fun s : Nat × (Option Addr × Nat) => [(7, .int .i64 ((s.1 : Int) + 1)), (6, .slice s.2.1 (wn s.1).length s.2.2)]) (fun s => [orow 3 s.2.1 s.2.2 (wn s.1), bx b2 24 [.int .i64 t, .slice A l.length c1]]) (fun s => s.1 ≤ 8 ∧ (0 < s.1 → er = 0)) (fun s => 8 - s.1) (0, none, 0) ⟨rfl, congrArg (fun L : List Int => Value.slice none L.length 0) h0.symm, trivial⟩ (by rw [h0]; exact ent_nilrow enL) ⟨Nat.zero_le _, fun h => absurd h (Nat.lt_irrefl 0)⟩ ?_
  rintro ⟨k, A1, c2⟩ g ⟨hk, her⟩
  simp only [sets]
  simp only at hk her
  by_cases hkl : k < 8
  · have hs := fun w' he => hS w' he k
    have hn := hN k
    have hlen := hL k
    rw [hE k hkl] at hs
    generalize seeB ((k : Int) + 1) id t (ents l) = z at hs hn
    clear hS hN hL hE h0
    by_cases he0 : er = 0
    · cases z with
      | true =>
        rw [if_pos rfl] at hn
        (repeat' (first | (show VH _ _ _ _ _ _ _; first | refine v_seq ?_ | refine r_seq ?_ | refine v_block ?_ | refine v_skip ?_ | refine v_cond_t rfl tbL ?_ | refine v_cond_f rfl tbL ?_) | (show SH _ _ _ _ _ (_ :: _) _ _ _; first | (show SH _ _ _ _ _ (⟨_, .move _, _, _, _, _⟩ :: _) _ _ _; refine mov evL ?_) | (show SH _ _ _ _ _ (⟨_, .assign _, _, _, _, _⟩ :: _) _ _ _; refine asg evL ?_) | (show SH _ _ _ _ _ (⟨_, .binOp .leq _ _ _ _, _, _, _, _⟩ :: _) _ _ _; refine leqT rfl rfl omD ?_) | (show SH _ _ _ _ _ (⟨_, .binOp .neq _ _ _ _, _, _, _, _⟩ :: _) _ _ _; refine neqF rfl rfl omD ?_) | (show SH _ _ _ _ _ (⟨_, .load _ _, _, _, _, _⟩ :: _) _ _ _; refine lba rfl spL (by rfl) ?_) | (show SH _ _ _ _ _ (⟨_, .call ⟨.value (.func 18), _, _⟩, _, _, _, _⟩ :: _) _ _ _; refine cl (callee := .func 18) rfl (fun w hw => hs w hw.ext) rfl rfl ?_) | refine extr rfl rfl ?_ | (show SH _ _ _ _ _ (⟨_, .buildSlice _ _ _, _, _, _, _⟩ :: _) _ _ _; refine bsl (α := Int) rfl rfl (by repeat (first | exact Vals.nil | (apply Vals.cons; rfl))) rfl (by rfl) (by decide) (fun b => ?_))) | refine s_nil ?_ | refine kh_normal ?_))
        refine app (l := wn k) (l2 := [(k : Int) + 1]) rfl rfl rfl spL (fun w hw => hw.rd spL) rfl rfl rfl (by simp only [List.length_cons, List.length_nil]; omega) (by simp only [List.length_cons, List.length_nil]; omega) (fun A4 c4 => ⟨enL, ?_⟩)
        rw [← hn]
        (repeat' (first | refine r_seq ?_ | (show SH _ _ _ _ _ (_ :: _) _ _ _; first | (show SH _ _ _ _ _ (⟨_, .move _, _, _, _, _⟩ :: _) _ _ _; refine mov evL ?_) | (show SH _ _ _ _ _ (⟨_, .assign _, _, _, _, _⟩ :: _) _ _ _; refine asg evL ?_) | (show SH _ _ _ _ _ (⟨_, .binOp .add _ _ _ _, _, _, _, _⟩ :: _) _ _ _; refine add rfl rfl inL ?_)) | refine s_nil ?_ | refine kh_normal ?_ | refine bh_normal ?_))
        exact ⟨agL, (k + 1, A4, c4), ⟨congrArg (Value.int .i64) (by omega), rfl, trivial⟩, enL, ⟨hkl, fun _ => he0⟩, by show _ - (k + 1) < _ - k; omega⟩
      | false =>
        rw [if_neg (by simp), List.append_nil] at hn
        (repeat' (first | (show VH _ _ _ _ _ _ _; first | refine v_seq ?_ | refine r_seq ?_ | refine v_block ?_ | refine v_skip ?_ | refine v_cond_t rfl tbL ?_ | refine v_cond_f rfl tbL ?_) | (show SH _ _ _ _ _ (_ :: _) _ _ _; first | (show SH _ _ _ _ _ (⟨_, .move _, _, _, _, _⟩ :: _) _ _ _; refine mov evL ?_) | (show SH _ _ _ _ _ (⟨_, .assign _, _, _, _, _⟩ :: _) _ _ _; refine asg evL ?_) | (show SH _ _ _ _ _ (⟨_, .binOp .leq _ _ _ _, _, _, _, _⟩ :: _) _ _ _; refine leqT rfl rfl omD ?_) | (show SH _ _ _ _ _ (⟨_, .binOp .neq _ _ _ _, _, _, _, _⟩ :: _) _ _ _; refine neqF rfl rfl omD ?_) | (show SH _ _ _ _ _ (⟨_, .binOp .add _ _ _ _, _, _, _, _⟩ :: _) _ _ _; refine add rfl rfl inL ?_) | (show SH _ _ _ _ _ (⟨_, .load _ _, _, _, _, _⟩ :: _) _ _ _; refine lba rfl spL (by rfl) ?_) | (show SH _ _ _ _ _ (⟨_, .call ⟨.value (.func 18), _, _⟩, _, _, _, _⟩ :: _) _ _ _; refine cl (callee := .func 18) rfl (fun w hw => hs w hw.ext) rfl rfl ?_) | refine extr rfl rfl ?_) | refine s_nil ?_ | refine kh_normal ?_ | refine bh_normal ?_))
        exact ⟨agL, (k + 1, A1, c2), ⟨congrArg (Value.int .i64) (by omega), congrArg (fun L : List Int => Value.slice A1 L.length c2) hn.symm, trivial⟩, by rw [hn]; exact enL, ⟨hkl, fun _ => he0⟩, by show _ - (k + 1) < _ - k; omega⟩
    · rw [if_neg he0]
      (repeat' (first | (show VH _ _ _ _ _ _ _; first | refine v_seq ?_ | refine r_seq ?_ | refine v_block ?_ | refine v_ret ?_ | refine v_skip ?_ | refine v_cond_t rfl tbL ?_) | (show SH _ _ _ _ _ (_ :: _) _ _ _; first | (show SH _ _ _ _ _ (⟨_, .move _, _, _, _, _⟩ :: _) _ _ _; refine mov evL ?_) | (show SH _ _ _ _ _ (⟨_, .assign _, _, _, _, _⟩ :: _) _ _ _; refine asg evL ?_) | (show SH _ _ _ _ _ (⟨_, .binOp .leq _ _ _ _, _, _, _, _⟩ :: _) _ _ _; refine leqT rfl rfl omD ?_) | (show SH _ _ _ _ _ (⟨_, .binOp .neq _ _ _ _, _, _, _, _⟩ :: _) _ _ _; refine neqT rfl rfl omD ?_) | (show SH _ _ _ _ _ (⟨_, .load _ _, _, _, _, _⟩ :: _) _ _ _; refine lba rfl spL (by rfl) ?_) | (show SH _ _ _ _ _ (⟨_, .call ⟨.value (.func 18), _, _⟩, _, _, _, _⟩ :: _) _ _ _; refine cl (callee := .func 18) rfl (fun w hw => hs w hw.ext) rfl rfl ?_) | refine extr rfl rfl ?_) | refine s_nil ?_ | refine kh_normal ?_ | refine kh_ret ?_ | refine bh_ret ?_))
      exact rh2 rfl rfl rfl ⟨none, 0, rfl, rfl⟩ (ent_nilrow (ent_nil _))
  · obtain rfl : k = 8 := by omega
    rw [if_pos (her (by omega)), her (by omega)]
    clear hS hN hE h0
    (repeat' (first | (show VH _ _ _ _ _ _ _; first | refine v_seq ?_ | refine r_seq ?_ | refine v_ret ?_ | refine v_exit ?_ | refine v_cond_f rfl tbL ?_) | (show SH _ _ _ _ _ (_ :: _) _ _ _; first | (show SH _ _ _ _ _ (⟨_, .move _, _, _, _, _⟩ :: _) _ _ _; refine mov evL ?_) | (show SH _ _ _ _ _ (⟨_, .assign _, _, _, _, _⟩ :: _) _ _ _; refine asg evL ?_) | (show SH _ _ _ _ _ (⟨_, .binOp .leq _ _ _ _, _, _, _, _⟩ :: _) _ _ _; refine leqF rfl rfl omD ?_)) | refine s_nil ?_ | refine kh_normal ?_ | refine kh_exit ?_ | refine bh_exit ?_))
    exact rh2 rfl rfl rfl ⟨A1, c2, rfl, rfl⟩ enL
end Go.Proofs.YtjefoecnciepmaaGreatDoor

/- The reference of layer 24: View. -/
namespace Go.Proofs.YtjefoecnciepmaaGreatDoor
open Go.Fw Go.RowKit
theorem view_bit : ∀ k < 11, 1 ≤ k → decide (bandK .u32 (2 ^ k) 4294967295 ≠ 0) = true ∧ decide (bandK .u32 (2 ^ k) 1310 ≠ 0) = decide (1310 / 2 ^ k % 2 = 1) := by decide +kernel
theorem view_in {e : Ent1} {c : Comp} (ct : Int) (h1 : 1 ≤ c.kind) (h2 : c.kind ≤ 10) : inMask (maskE ct e) c = (ownsE ct e || decide (1310 / 2 ^ c.kind.toNat % 2 = 1)) := by
  have hb := view_bit c.kind.toNat (by omega) (by omega)
  unfold inMask maskE bitK
  rw [if_pos ⟨h1, h2⟩]
  cases ownsE ct e with
  | true => rw [if_pos rfl, Bool.true_or]; exact hb.1
  | false => rw [if_neg (by simp), Bool.false_or]; exact hb.2
theorem fits_kind {c : Comp} (h : Fits c) : 1 ≤ c.kind ∧ c.kind ≤ 10 := h.kind
/-- The view of the first entities. -/
def vwN (ct : Int) (p : EntP → Bool) (l : List EntP) (k : Nat) : List Ent1 := ((l.take k).filter p).map fun x => viewE ct x.e
theorem vwN_next (ct : Int) (p : EntP → Bool) {l : List EntP} {k : Nat} (h : k < l.length) : vwN ct p l (k + 1) = vwN ct p l k ++ (if p (l.getD k Flat.dflt) then [viewE ct (l.getD k Flat.dflt).e] else []) := filt_nx Flat.dflt p (fun x => viewE ct x.e) h
theorem part_take (mask : Int) {xs : List Comp} {j : Nat} (h : j < xs.length) : partC mask (xs.take (j + 1)) = partC mask (xs.take j) ++ (if inMask mask (xs.getD j Flat.dflt) then [xs.getD j Flat.dflt] else []) := by
  have := filt_nx Flat.dflt (inMask mask) id h
  simp only [List.map_id_fun, id_eq] at this
  exact this
set_option maxHeartbeats 4000000 in
set_option maxRecDepth 100000 in
theorem refView_spec (ct t : Int) (A : Option Addr) (l : List EntP) (c1 : Nat) (w : World) (hs : Sz l) (hse : ∀ x ∈ l, x.e.comps.length ≤ 1000000) (hr : RdW w A l) :
    Ret Tryz.prog 20 [wv t A l c1, .int .i64 ct].toArray w (RP w fun v H' => ∃ A' c' L, v = .tuple #[wv (viewT ct t (ents l)) A' L c', .int .i64 (errI ct t (ents l))] ∧ L.map EntP.e = viewL ct t (ents l) ∧ H' = [orow 31 A' c' L, allH (L.map rowOf)]) := by
  have hO := fun w' (he : Ext w w') => refRight24_spec t ct A l c1 w' hs (hr.ext he)
  unfold viewL viewT errI
  by_cases hv : OkI ct t (ents l)
  · simp only [if_pos hv]
    rw [decide_eq_true hv] at hO
    have hl64 : l.length ≤ 64 := by have := hv.2.len; rwa [ents_len] at this
    obtain ⟨cn, hcn⟩ : ∃ cn : Nat, ct = (cn : Int) := ⟨ct.toNat, by omega⟩
    have hC := fun i (hi : i < l.length) w' (he : Ext w w') => refShown_spec cn (by omega) t A l c1 (l.getD i Flat.dflt) w' hv.2 (hv.2.right _ (List.mem_map_of_mem (getD_mem hi))) hs (hse _ (getD_mem hi)) (hr.ext he) ((hr.ext he).at hi)
    rw [← hcn, show cn = ct.toNat from by omega] at hC
    have hW := fun i (hi : i < l.length) w' (he : Ext w w') => refOwned_spec (l.getD i Flat.dflt) ct w' (by have := hse _ (getD_mem (d := Flat.dflt) hi); omega) ((hr.ext he).at hi)
    have hK : ∀ i, i < l.length → ∀ c ∈ (l.getD i Flat.dflt).e.comps, 1 ≤ c.kind ∧ c.kind ≤ 10 := fun i hi c hc => fits_kind ((hv.2.right _ (List.mem_map_of_mem (getD_mem hi))).fits c hc)
    rw [← view_ents (seesE ct.toNat (ptsE ct (ents l))) (viewE ct) l]
    have hr1 := hr.1
    have hrc := fun i (hi : i < l.length) w' (he : Ext w w') => (hr.ext he).at hi
    generalize hf : (fun x : EntP => seesE ct.toNat (ptsE ct (ents l)) x.e) = f
    have hfi : ∀ y : EntP, seesE ct.toNat (ptsE ct (ents l)) y.e = f y := fun y => by rw [← hf]
    simp only [hfi] at hC
    have hnx := fun i (hi : i < l.length) => vwN_next ct f hi
    have hend : vwN ct f l l.length = (l.filter f).map fun x => viewE ct x.e := by unfold vwN; rw [List.take_length]
    rw [← hend]
    have h0 : vwN ct f l 0 = [] := rfl
    have hvl : ∀ i, i ≤ l.length → (vwN ct f l i).length ≤ i := fun i hi => by
      unfold vwN
      rw [List.length_map]
      have := List.length_filter_le f (l.take i)
      rw [List.length_take] at this; omega
    have hcl := fun i (hi : i < l.length) => hse _ (getD_mem (d := Flat.dflt) hi)
    generalize vwN ct f l = vn at hnx h0 hvl ⊢
    clear hf hv hs hse hr hfi hcn hend
    unfold wv at *
    refine enterH Tryz.func20 rfl rfl Tryz.ntmps20 rfl (Wd.refl _) ?_
    (repeat' (first | (show VH _ _ _ _ _ _ _; first | refine v_seq ?_ | refine r_seq ?_ | refine v_block ?_ | refine v_skip ?_ | refine v_cond_f rfl tbL ?_) | (show SH _ _ _ _ _ (_ :: _) _ _ _; first | (show SH _ _ _ _ _ (⟨_, .move _, _, _, _, _⟩ :: _) _ _ _; refine mov evL ?_) | (show SH _ _ _ _ _ (⟨_, .assign _, _, _, _, _⟩ :: _) _ _ _; refine asg evL ?_) | (show SH _ _ _ _ _ (⟨_, .load _ _, _, _, _, _⟩ :: _) _ _ _; first | refine lbx rfl spL (by rfl) ?_ | refine lba rfl spL (by rfl) ?_) | (show SH _ _ _ _ _ (⟨_, .call ⟨.value (.func 34), _, _⟩, _, _, _, _⟩ :: _) _ _ _; refine cl (callee := .func 34) rfl (fun w hw => hO w hw.ext) rfl rfl ?_) | refine bnoT rfl ?_ | refine fad rfl ?_ | refine bld rfl rfl ?_ | refine ala rfl (fun b => ?_) | (show SH _ _ _ _ _ (⟨_, .box _ _, _, _, _, _⟩ :: _) _ _ _; refine bxx rfl evL rfl (fun b => ?_)) | (show SH _ _ _ _ _ (⟨_, .store _ _ _, _, _, _, _⟩ :: _) _ _ _; refine sta rfl rfl rfl spL (by rfl) (by rfl) (by rfl) kpL ?_)) | refine s_nil ?_ | refine kh_normal ?_))
    rename_i b2 b4
    revert b
    intro b6
    refine v_loop [(7,10),(19,75)] (fun s : Nat × (Option Addr × Nat) × List EntP => [(7, .int .i64 s.1)]) (fun s => [bx b6 24 [.int .i64 t, .slice s.2.1.1 s.2.2.length s.2.1.2], orow 31 s.2.1.1 s.2.1.2 s.2.2, allH (s.2.2.map rowOf), bx b4 24 [.int .i64 0, .slice none 0 0], bx b2 24 [.int .i64 t, .slice A l.length c1]]) (fun s => s.1 ≤ l.length ∧ s.2.2.map EntP.e = vn s.1) (fun s => l.length - s.1) (0, (none, 0), []) hsL (ent_cons spL (ent_nilrow (ent_all_nil enL))) ⟨Nat.zero_le _, h0.symm⟩ ?_
    rintro ⟨i, ⟨A1, c2⟩, L⟩ g ⟨hi, hL⟩
    simp only [sets]
    simp only at hi hL
    have hlen : L.length ≤ i := by
      have h1 := congrArg List.length hL
      have h2 := hvl i hi
      rw [List.length_map] at h1; omega
    by_cases hil : i < l.length
    · have hn := hnx i hil
      have hc := hC i hil
      have how := hW i hil
      have hk := hK i hil
      have hrd := hrc i hil w (Ext.refl w)
      have hxl := hcl i hil
      obtain ⟨⟨⟨yi, ys⟩, Ay, cy⟩, hy⟩ : ∃ y, l.getD i Flat.dflt = y := ⟨_, rfl⟩
      have hyE : Flat.enc (l.getD i Flat.dflt) = [.int .i64 yi, .slice Ay ys.length cy] := by rw [hy]; rfl
      rw [hy] at hn hc how hk hrd hxl
      rw [show Flat.enc (⟨⟨yi, ys⟩, Ay, cy⟩ : EntP) = [.int .i64 yi, .slice Ay ys.length cy] from rfl] at hc how
      have hin := fun c hcm => view_in (e := ⟨yi, ys⟩) (c := c) ct (hk c hcm).1 (hk c hcm).2
      have hve : viewE ct ⟨yi, ys⟩ = ⟨yi, partC (maskE ct ⟨yi, ys⟩) ys⟩ := rfl
      simp only at hn how hk hrd hxl
      rw [hve, ← hL] at hn
      generalize f ⟨⟨yi, ys⟩, Ay, cy⟩ = z at hn hc
      have hpt := fun j (hj : j < ys.length) => part_take (maskE ct ⟨yi, ys⟩) hj
      generalize maskE ct ⟨yi, ys⟩ = mk at hn hin hpt
      generalize ownsE ct ⟨yi, ys⟩ = ow at how hin
      clear hC hO hy hL hnx hW hK hrc h0 hvl hve hcl
      cases z with
      | false =>
        rw [if_neg (by simp), List.append_nil] at hn
        clear hin hpt hk
        (repeat' (first | (show VH _ _ _ _ _ _ _; first | refine v_seq ?_ | refine r_seq ?_ | refine v_block ?_ | refine v_skip ?_ | refine v_exit ?_ | refine v_cond_t rfl tbL ?_) | (show SH _ _ _ _ _ (_ :: _) _ _ _; first | (show SH _ _ _ _ _ (⟨_, .move _, _, _, _, _⟩ :: _) _ _ _; refine mov evL ?_) | (show SH _ _ _ _ _ (⟨_, .assign _, _, _, _, _⟩ :: _) _ _ _; refine asg evL ?_) | (show SH _ _ _ _ _ (⟨_, .binOp .lss _ _ _ _, _, _, _, _⟩ :: _) _ _ _; refine lssT rfl rfl omD ?_) | (show SH _ _ _ _ _ (⟨_, .binOp .add _ _ _ _, _, _, _, _⟩ :: _) _ _ _; refine add rfl rfl inL ?_) | (show SH _ _ _ _ _ (⟨_, .load _ _, _, _, _, _⟩ :: _) _ _ _; first | refine lag rfl (fun _ _ => rdY) (by rfl) omL (by assumption) ?_ | refine lbx rfl spL (by rfl) ?_ | refine lba rfl spL (by rfl) ?_) | (show SH _ _ _ _ _ (⟨_, .indexAddr _ _ _, _, _, _, _⟩ :: _) _ _ _; refine ix rfl rfl (by with_reducible rfl) (fun _ _ => rdY) (by rfl) omL omL ?_) | refine slen rfl ?_ | (show SH _ _ _ _ _ (⟨_, .call ⟨.value (.func 37), _, _⟩, _, _, _, _⟩ :: _) _ _ _; refine cl (callee := .func 37) rfl (fun w hw => hc w hw.ext) rfl rfl ?_) | refine bnoF rfl ?_ | refine fad rfl ?_ | refine ala rfl (fun b => ?_) | (show SH _ _ _ _ _ (⟨_, .store _ _ _, _, _, _, _⟩ :: _) _ _ _; refine sta rfl rfl rfl spL (by rfl) (by rfl) (by rfl) kpL ?_)) | refine s_nil ?_ | refine kh_normal ?_ | refine kh_exit ?_ | refine bh_exit ?_))
        exact ⟨agL, (i + 1, (A1, c2), L), hsL, enL, ⟨hil, hn.symm⟩, by show _ - (i + 1) < _ - i; omega⟩
      | true =>
        rw [if_pos rfl] at hn
        (repeat' ((fail_if_success (show VH _ _ (.seq (.region 9 _ _) _) _ _ _ _)); first | (show VH _ _ _ _ _ _ _; first | refine v_seq ?_ | refine r_seq ?_ | refine v_block ?_ | refine v_skip ?_ | refine v_cond_t rfl tbL ?_ | refine v_cond_f rfl tbL ?_) | (show SH _ _ _ _ _ (_ :: _) _ _ _; first | (show SH _ _ _ _ _ (⟨_, .move _, _, _, _, _⟩ :: _) _ _ _; refine mov evL ?_) | (show SH _ _ _ _ _ (⟨_, .binOp .lss _ _ _ _, _, _, _, _⟩ :: _) _ _ _; refine lssT rfl rfl omD ?_) | (show SH _ _ _ _ _ (⟨_, .load _ _, _, _, _, _⟩ :: _) _ _ _; first | refine lag rfl (fun _ _ => rdY) (by rfl) omL (by assumption) ?_ | refine lbx rfl spL (by rfl) ?_ | refine lba rfl spL (by rfl) ?_) | (show SH _ _ _ _ _ (⟨_, .indexAddr _ _ _, _, _, _, _⟩ :: _) _ _ _; refine ix rfl rfl (by with_reducible rfl) (fun _ _ => rdY) (by rfl) omL omL ?_) | refine slen rfl ?_ | (show SH _ _ _ _ _ (⟨_, .call ⟨.value (.func 37), _, _⟩, _, _, _, _⟩ :: _) _ _ _; refine cl (callee := .func 37) rfl (fun w hw => hc w hw.ext) rfl rfl ?_) | refine bnoT rfl ?_ | refine fad rfl ?_ | refine ala rfl (fun b => ?_) | (show SH _ _ _ _ _ (⟨_, .store _ _ _, _, _, _, _⟩ :: _) _ _ _; refine sta rfl rfl rfl spL (by rfl) (by rfl) (by rfl) kpL ?_)) | refine s_nil ?_ | refine kh_normal ?_))
        revert b
        intro b8
        (repeat' (first | (show VH _ _ _ _ _ _ _; first | refine v_seq ?_ | refine r_seq ?_ | refine v_block ?_) | (show SH _ _ _ _ _ (_ :: _) _ _ _; first | (show SH _ _ _ _ _ (⟨_, .assign _, _, _, _, _⟩ :: _) _ _ _; refine asg evL ?_) | (show SH _ _ _ _ _ (⟨_, .load _ _, _, _, _, _⟩ :: _) _ _ _; refine lbx rfl spL (by rfl) ?_) | refine fad rfl ?_ | refine bld rfl rfl ?_ | refine ala rfl (fun b => ?_) | (show SH _ _ _ _ _ (⟨_, .store _ _ _, _, _, _, _⟩ :: _) _ _ _; refine sta rfl rfl rfl spL (by rfl) (by rfl) (by rfl) kpL ?_)) | refine s_nil ?_ | refine kh_normal ?_))
        revert b
        intro b9
        clear hc
        refine v_normS [(7,10),(19,75)] _ agL [(7,_),(8,_),(9,_),(10,_)] heL (fun g => ?_)
        refine v_loop [(10,10),(39,69)] (fun s : Nat × (Option Addr × Nat) => [(10, .int .i64 s.1)]) (fun s => [bx b9 31 [.int .i64 yi, .slice s.2.1 (partC mk (ys.take s.1)).length s.2.2], orow 37 s.2.1 s.2.2 (partC mk (ys.take s.1)), bx b8 31 [.int .i64 yi, .slice Ay ys.length cy], bx b6 24 [.int .i64 t, .slice A1 L.length c2], orow 31 A1 c2 L, allH (L.map rowOf), bx b4 24 [.int .i64 0, .slice none 0 0], bx b2 24 [.int .i64 t, .slice A l.length c1]]) (fun s => s.1 ≤ ys.length) (fun s => ys.length - s.1) (0, none, 0) hsL (ent_cons spL (ent_nilrow enL)) (Nat.zero_le _) ?_
        rintro ⟨j, A3, c3⟩ g3 hj
        simp only [sets]
        simp only at hj
        have hpl : (partC mk (ys.take j)).length ≤ j := by
          have := List.length_filter_le (inMask mk) (ys.take j)
          rw [List.length_take] at this
          show ((ys.take j).filter (inMask mk)).length ≤ j
          omega
        by_cases hjl : j < ys.length
        · have hp := hpt j hjl
          have hyc : ys.getD j Flat.dflt ∈ ys := getD_mem hjl
          rw [hin _ hyc] at hp
          obtain ⟨hk1, hk2⟩ := hk _ hyc
          obtain ⟨⟨qk, qa, qb, qc, qd⟩, hq⟩ : ∃ q, ys.getD j Flat.dflt = q := ⟨_, rfl⟩
          have hqE : Flat.enc (ys.getD j Flat.dflt) = [.int .u8 qk, .int .i64 qa, .int .i64 qb, .int .i64 qc, .int .i64 qd] := by rw [hq]; rfl
          rw [hq] at hp hk1 hk2
          simp only at hp hk1 hk2
          obtain ⟨kn, rfl⟩ : ∃ kn : Nat, qk = (kn : Int) := ⟨qk.toNat, by omega⟩
          rw [Int.toNat_natCast] at hp
          have hsh := shr64 1310 kn (by omega)
          rw [show ((1310 : Nat) : Int) = 1310 from rfl] at hsh
          obtain ⟨q, hqq⟩ : ∃ q, 1310 / 2 ^ kn = q := ⟨_, rfl⟩
          rw [hqq] at hp hsh
          clear hin hpt hk hq hyc hqq
          cases ow with
          | true =>
            rw [Bool.true_or, if_pos rfl] at hp
            (repeat' (first | (show VH _ _ _ _ _ _ _; first | refine v_seq ?_ | refine r_seq ?_ | refine v_block ?_ | refine v_skip ?_ | refine v_cond_t rfl tbL ?_) | (show SH _ _ _ _ _ (_ :: _) _ _ _; first | (show SH _ _ _ _ _ (⟨_, _, _, _, _, some _⟩ :: _) _ _ _; (refine gif rfl rfl ?_; refine giFT tbL ?_)) | (show SH _ _ _ _ _ (⟨_, .move _, _, _, _, _⟩ :: _) _ _ _; refine mov evL ?_) | (show SH _ _ _ _ _ (⟨_, .binOp .lss _ _ _ _, _, _, _, _⟩ :: _) _ _ _; refine lssT rfl rfl omD ?_) | (show SH _ _ _ _ _ (⟨_, .load _ _, _, _, _, _⟩ :: _) _ _ _; first | refine lbx rfl spL (by rfl) ?_ | refine lba rfl spL (by rfl) ?_) | refine slen rfl ?_ | (show SH _ _ _ _ _ (⟨_, .call ⟨.value (.func 35), _, _⟩, _, _, _, _⟩ :: _) _ _ _; refine cl (callee := .func 35) rfl (fun w hw => how w hw.ext) rfl rfl ?_) | (show SH _ _ _ _ _ (⟨_, .pick _ _ _, _, _, _, _⟩ :: _) _ _ _; refine pkt rfl tbL evL ?_) | refine fad rfl ?_) | refine s_nil ?_ | refine kh_normal ?_))
            refine r_heldT [bx b8 31 [.int .i64 yi, .slice Ay ys.length cy]] (tr [(0, true), (2, true), (3, true), (4, true), (5, true), (6, true)] (.fork 1 (tr [(7, false), (8, false), (9, false), (10, false)] .nil) 7 (tr [(1, false), (8, false), (9, false), (10, false)] .nil))) hmix (by kernel_rfl) enL ?_
            (repeat' (first | (show SH _ _ _ _ _ (_ :: _) _ _ _; first | (show SH _ _ _ _ _ (⟨_, .move _, _, _, _, _⟩ :: _) _ _ _; refine mov evL ?_) | (show SH _ _ _ _ _ (⟨_, .load _ _, _, _, _, _⟩ :: _) _ _ _; first | refine lag rfl (fun _ _ => rdY) (by rfl) omL (by assumption) ?_ | refine lbx rfl spL (by rfl) ?_) | (show SH _ _ _ _ _ (⟨_, .indexAddr _ _ _, _, _, _, _⟩ :: _) _ _ _; refine ix rfl rfl (by with_reducible rfl) (fun _ _ => rdY) (by rfl) omL omL ?_) | refine fad rfl ?_) | refine s_fork ?_ ?_))
            repeat' (first
              | (refine s_fork3 ?_ ?_ ?_ <;> (repeat' (first | (show VH _ _ _ _ _ _ _; first | refine v_seq ?_ | refine r_seq ?_ | refine r_quiet hmix (by kernel_rfl) ?_ | refine v_block ?_ | refine v_ret ?_ | refine v_skip ?_ | refine v_exit ?_ | refine v_label ?_ | refine v_cond_t rfl tbL ?_ | refine v_cond_f rfl tbL ?_ | refine v_cond_dec rfl (fun h => ?_) (fun h => ?_) | refine v_cond_ndec rfl (fun h => ?_) (fun h => ?_) | refine v_cond rfl (fun h => ?_) (fun h => ?_)) | (show SH _ _ _ _ _ (_ :: _) _ _ _; first | (show SH _ _ _ _ _ (⟨_, _, _, _, _, some _⟩ :: _) _ _ _; first | (refine gif rfl rfl ?_; first | refine giTT tbL ?_ | refine giTF tbL ?_ | refine giFF tbL ?_ | refine giFT tbL ?_ | refine giTd (fun h => ?_) (fun h => ?_) | refine giFd (fun h => ?_) (fun h => ?_) | refine giT (fun h => ?_) (fun h => ?_) | refine giF (fun h => ?_) (fun h => ?_)) | refine gu rfl rfl ?_ | refine grT rfl rfl tbL ?_ | refine grF rfl rfl tbL ?_) | (show SH _ _ _ _ _ (⟨_, .move _, _, _, _, _⟩ :: _) _ _ _; refine mov evL ?_) | (show SH _ _ _ _ _ (⟨_, .assign _, _, _, _, _⟩ :: _) _ _ _; refine asg evL ?_) | (show SH _ _ _ _ _ (⟨_, .binOp .lss _ _ _ _, _, _, _, _⟩ :: _) _ _ _; first | refine lssT rfl rfl omD ?_ | refine lssF rfl rfl omD ?_ | refine lss rfl rfl ?_) | (show SH _ _ _ _ _ (⟨_, .binOp .eql _ _ _ _, _, _, _, _⟩ :: _) _ _ _; first | refine eqlT rfl rfl omD ?_ | refine eqlF rfl rfl omD ?_ | refine eql rfl rfl ?_ | refine eqn rfl rfl ?_ | refine eqb rfl rfl ?_) | (show SH _ _ _ _ _ (⟨_, .binOp .add _ _ _ _, _, _, _, _⟩ :: _) _ _ _; refine add rfl rfl inL ?_) | refine sh1 rfl rfl ?_ | (show SH _ _ _ _ _ (⟨_, .binOp .rem _ _ _ _, _, _, _, _⟩ :: _) _ _ _; refine rem rfl rfl omL omL ?_) | (show SH _ _ _ _ _ (⟨_, .load _ _, _, _, _, _⟩ :: _) _ _ _; first | refine lgi rfl (fun _ _ => rdY) omL (by assumption) ?_ | refine lag rfl (fun _ _ => rdY) (by rfl) omL (by assumption) ?_ | refine lrg rfl (fun _ _ => rdY) (by rfl) omL (by assumption) (by rfl) ?_ | refine lin rfl (fun _ _ => rdY) omL ?_ | refine lbx rfl spL (by rfl) ?_ | refine lba rfl spL (by rfl) ?_ | refine lbi rfl spL omL ?_ | refine lr1 rfl (fun _ _ => rdY) (by rfl) omL (by rfl) ?_ | refine lra rfl (fun _ _ => rdY) (by rfl) omL ?_ | refine lrf rfl (fun _ _ => rdY) (by rfl) omL (by rfl) ?_ | refine lcell rfl (fun w hw => hw.ext.cell (by assumption)) ?_ | refine lrs rfl (fun _ _ => rdY) (by rfl) omL (by rfl) (by rfl) ?_ | refine lbs rfl spL (by rfl) (by rfl) ?_ | refine lca rfl (fun _ _ => rdY) (by rfl) ?_ | refine lcs rfl (fun _ _ => rdY) (by rfl) ?_ | refine lcf rfl (fun _ _ => rdY) (by rfl) ?_ | refine lrf rfl (fun _ _ => rdY) (by rfl) (by simp only [List.length_cons, List.length_nil]; omega) (by rfl) ?_ | refine lra rfl (fun _ _ => rdY) (by rfl) (by simp only [List.length_cons, List.length_nil]; omega) ?_) | (show SH _ _ _ _ _ (⟨_, .indexAddr _ _ _, _, _, _, _⟩ :: _) _ _ _; first | refine ix rfl rfl (by with_reducible rfl) (fun _ _ => rdY) (by rfl) omL omL ?_ | refine ixi rfl rfl (fun _ _ => rdY) (by rfl) omL omL omL ?_ | refine ixb rfl rfl omL ?_ | refine ixq rfl rfl (by assumption) omL omL ?_ | refine ixA _ rfl rfl rfl omL ?_ | refine ixi rfl rfl (fun _ _ => rdY) (by rfl) omL (by first | omega | (simp only [List.length_cons, List.length_nil]; omega)) (by simp only [List.length_cons, List.length_nil]; omega) ?_) | refine slen rfl ?_ | (show SH _ _ _ _ _ (⟨_, .unOp .not _ _, _, _, _, _⟩ :: _) _ _ _; first | refine bnoT rfl ?_ | refine bnoF rfl ?_ | refine bnot rfl ?_) | (show SH _ _ _ _ _ (⟨_, .pick _ _ _, _, _, _, _⟩ :: _) _ _ _; first | refine pkt rfl tbL evL ?_ | refine pkf rfl tbL evL ?_) | refine fad rfl ?_ | (show SH _ _ _ _ _ (⟨_, .build _ _, _, _, _, _⟩ :: _) _ _ _; first | refine bld rfl rfl ?_ | refine bldZ ?_ | refine bldZN ?_) | (show SH _ _ _ _ _ (⟨_, .alloc _, _, _, _, _⟩ :: _) _ _ _; first | refine al1 rfl (fun b => ?_) | refine ala rfl (fun b => ?_)) | (show SH _ _ _ _ _ (⟨_, .box _ _, _, _, _, _⟩ :: _) _ _ _; refine bxx rfl evL rfl (fun b => ?_)) | (show SH _ _ _ _ _ (⟨_, .store _ _ _, _, _, _, _⟩ :: _) _ _ _; first | refine stb rfl rfl evL spL rfl rfl (by first | decide | exact Nat.zero_lt_succ _ | exact of_decide_eq_true rfl) kpL ?_ | refine sta rfl rfl rfl spL (by rfl) (by rfl) (by rfl) kpL ?_ | refine sti rfl rfl rfl spL omL kpL ?_ | refine sbi rfl rfl rfl spL omL kpL ?_ | refine sbs rfl rfl evL spL (by rfl) (by rfl) (of_decide_eq_true rfl) kpL ?_) | (show SH _ _ _ _ _ (⟨_, .buildSlice _ _ _, _, _, _, _⟩ :: _) _ _ _; refine bsl (α := Int) rfl rfl (by repeat (first | exact Vals.nil | (apply Vals.cons; rfl))) rfl (by rfl) (by decide) (fun b => ?_))) | refine s_nil ?_ | refine s_fork ?_ ?_ | refine s_fork3 ?_ ?_ ?_ | refine s_fork4 ?_ ?_ ?_ ?_ | refine kh_normal ?_ | refine kh_ret ?_ | refine kh_exit ?_ | refine bh_normal ?_ | refine bh_ret ?_ | refine bh_exit ?_ | refine bh_exit_ne rfl ?_)))
              | (refine s_fork ?_ ?_ <;> (repeat' (first | (show VH _ _ _ _ _ _ _; first | refine v_seq ?_ | refine r_seq ?_ | refine r_quiet hmix (by kernel_rfl) ?_ | refine v_block ?_ | refine v_ret ?_ | refine v_skip ?_ | refine v_exit ?_ | refine v_label ?_ | refine v_cond_t rfl tbL ?_ | refine v_cond_f rfl tbL ?_ | refine v_cond_dec rfl (fun h => ?_) (fun h => ?_) | refine v_cond_ndec rfl (fun h => ?_) (fun h => ?_) | refine v_cond rfl (fun h => ?_) (fun h => ?_)) | (show SH _ _ _ _ _ (_ :: _) _ _ _; first | (show SH _ _ _ _ _ (⟨_, _, _, _, _, some _⟩ :: _) _ _ _; first | (refine gif rfl rfl ?_; first | refine giTT tbL ?_ | refine giTF tbL ?_ | refine giFF tbL ?_ | refine giFT tbL ?_ | refine giTd (fun h => ?_) (fun h => ?_) | refine giFd (fun h => ?_) (fun h => ?_) | refine giT (fun h => ?_) (fun h => ?_) | refine giF (fun h => ?_) (fun h => ?_)) | refine gu rfl rfl ?_ | refine grT rfl rfl tbL ?_ | refine grF rfl rfl tbL ?_) | (show SH _ _ _ _ _ (⟨_, .move _, _, _, _, _⟩ :: _) _ _ _; refine mov evL ?_) | (show SH _ _ _ _ _ (⟨_, .assign _, _, _, _, _⟩ :: _) _ _ _; refine asg evL ?_) | (show SH _ _ _ _ _ (⟨_, .binOp .lss _ _ _ _, _, _, _, _⟩ :: _) _ _ _; first | refine lssT rfl rfl omD ?_ | refine lssF rfl rfl omD ?_ | refine lss rfl rfl ?_) | (show SH _ _ _ _ _ (⟨_, .binOp .eql _ _ _ _, _, _, _, _⟩ :: _) _ _ _; first | refine eqlT rfl rfl omD ?_ | refine eqlF rfl rfl omD ?_ | refine eql rfl rfl ?_ | refine eqn rfl rfl ?_ | refine eqb rfl rfl ?_) | (show SH _ _ _ _ _ (⟨_, .binOp .add _ _ _ _, _, _, _, _⟩ :: _) _ _ _; refine add rfl rfl inL ?_) | refine sh1 rfl rfl ?_ | (show SH _ _ _ _ _ (⟨_, .binOp .rem _ _ _ _, _, _, _, _⟩ :: _) _ _ _; refine rem rfl rfl omL omL ?_) | (show SH _ _ _ _ _ (⟨_, .load _ _, _, _, _, _⟩ :: _) _ _ _; first | refine lgi rfl (fun _ _ => rdY) omL (by assumption) ?_ | refine lag rfl (fun _ _ => rdY) (by rfl) omL (by assumption) ?_ | refine lrg rfl (fun _ _ => rdY) (by rfl) omL (by assumption) (by rfl) ?_ | refine lin rfl (fun _ _ => rdY) omL ?_ | refine lbx rfl spL (by rfl) ?_ | refine lba rfl spL (by rfl) ?_ | refine lbi rfl spL omL ?_ | refine lr1 rfl (fun _ _ => rdY) (by rfl) omL (by rfl) ?_ | refine lra rfl (fun _ _ => rdY) (by rfl) omL ?_ | refine lrf rfl (fun _ _ => rdY) (by rfl) omL (by rfl) ?_ | refine lcell rfl (fun w hw => hw.ext.cell (by assumption)) ?_ | refine lrs rfl (fun _ _ => rdY) (by rfl) omL (by rfl) (by rfl) ?_ | refine lbs rfl spL (by rfl) (by rfl) ?_ | refine lca rfl (fun _ _ => rdY) (by rfl) ?_ | refine lcs rfl (fun _ _ => rdY) (by rfl) ?_ | refine lcf rfl (fun _ _ => rdY) (by rfl) ?_ | refine lrf rfl (fun _ _ => rdY) (by rfl) (by simp only [List.length_cons, List.length_nil]; omega) (by rfl) ?_ | refine lra rfl (fun _ _ => rdY) (by rfl) (by simp only [List.length_cons, List.length_nil]; omega) ?_) | (show SH _ _ _ _ _ (⟨_, .indexAddr _ _ _, _, _, _, _⟩ :: _) _ _ _; first | refine ix rfl rfl (by with_reducible rfl) (fun _ _ => rdY) (by rfl) omL omL ?_ | refine ixi rfl rfl (fun _ _ => rdY) (by rfl) omL omL omL ?_ | refine ixb rfl rfl omL ?_ | refine ixq rfl rfl (by assumption) omL omL ?_ | refine ixA _ rfl rfl rfl omL ?_ | refine ixi rfl rfl (fun _ _ => rdY) (by rfl) omL (by first | omega | (simp only [List.length_cons, List.length_nil]; omega)) (by simp only [List.length_cons, List.length_nil]; omega) ?_) | refine slen rfl ?_ | (show SH _ _ _ _ _ (⟨_, .unOp .not _ _, _, _, _, _⟩ :: _) _ _ _; first | refine bnoT rfl ?_ | refine bnoF rfl ?_ | refine bnot rfl ?_) | (show SH _ _ _ _ _ (⟨_, .pick _ _ _, _, _, _, _⟩ :: _) _ _ _; first | refine pkt rfl tbL evL ?_ | refine pkf rfl tbL evL ?_) | refine fad rfl ?_ | (show SH _ _ _ _ _ (⟨_, .build _ _, _, _, _, _⟩ :: _) _ _ _; first | refine bld rfl rfl ?_ | refine bldZ ?_ | refine bldZN ?_) | (show SH _ _ _ _ _ (⟨_, .alloc _, _, _, _, _⟩ :: _) _ _ _; first | refine al1 rfl (fun b => ?_) | refine ala rfl (fun b => ?_)) | (show SH _ _ _ _ _ (⟨_, .box _ _, _, _, _, _⟩ :: _) _ _ _; refine bxx rfl evL rfl (fun b => ?_)) | (show SH _ _ _ _ _ (⟨_, .store _ _ _, _, _, _, _⟩ :: _) _ _ _; first | refine stb rfl rfl evL spL rfl rfl (by first | decide | exact Nat.zero_lt_succ _ | exact of_decide_eq_true rfl) kpL ?_ | refine sta rfl rfl rfl spL (by rfl) (by rfl) (by rfl) kpL ?_ | refine sti rfl rfl rfl spL omL kpL ?_ | refine sbi rfl rfl rfl spL omL kpL ?_ | refine sbs rfl rfl evL spL (by rfl) (by rfl) (of_decide_eq_true rfl) kpL ?_) | (show SH _ _ _ _ _ (⟨_, .buildSlice _ _ _, _, _, _, _⟩ :: _) _ _ _; refine bsl (α := Int) rfl rfl (by repeat (first | exact Vals.nil | (apply Vals.cons; rfl))) rfl (by rfl) (by decide) (fun b => ?_))) | refine s_nil ?_ | refine s_fork ?_ ?_ | refine s_fork3 ?_ ?_ ?_ | refine s_fork4 ?_ ?_ ?_ ?_ | refine kh_normal ?_ | refine kh_ret ?_ | refine kh_exit ?_ | refine bh_normal ?_ | refine bh_ret ?_ | refine bh_exit ?_ | refine bh_exit_ne rfl ?_)))
              | (refine bsl (l := [(⟨kn, qa, qb, qc, qd⟩ : Comp)]) rfl rfl (Vals.cons rfl Vals.nil) rfl rfl (by decide) (fun b7 => ?_); (repeat' ((show SH _ _ _ _ _ (_ :: _) _ _ _; (show SH _ _ _ _ _ (⟨_, .load _ _, _, _, _, _⟩ :: _) _ _ _; refine lbx rfl spL (by rfl) ?_)))))
              | (refine app (l := partC mk (ys.take j)) (l2 := [(⟨kn, qa, qb, qc, qd⟩ : Comp)]) rfl rfl rfl spL (fun w hw => hw.rd spL) rfl rfl rfl (by simp only [List.length_cons, List.length_nil]; omega) (by simp only [List.length_cons, List.length_nil]; omega) (fun A7 c7 => ⟨enL, ?_⟩); rw [← hp]; (repeat' (first | refine r_seq ?_ | (show SH _ _ _ _ _ (_ :: _) _ _ _; first | (show SH _ _ _ _ _ (⟨_, .move _, _, _, _, _⟩ :: _) _ _ _; refine mov evL ?_) | (show SH _ _ _ _ _ (⟨_, .assign _, _, _, _, _⟩ :: _) _ _ _; refine asg evL ?_) | (show SH _ _ _ _ _ (⟨_, .binOp .add _ _ _ _, _, _, _, _⟩ :: _) _ _ _; refine add rfl rfl inL ?_) | refine fad rfl ?_ | (show SH _ _ _ _ _ (⟨_, .store _ _ _, _, _, _, _⟩ :: _) _ _ _; refine stb rfl rfl evL spL rfl rfl (by first | decide | exact Nat.zero_lt_succ _ | exact of_decide_eq_true rfl) kpL ?_)) | refine s_nil ?_ | refine kh_normal ?_ | refine bh_normal ?_))))
            all_goals exact ⟨agL, (j + 1, A7, c7), hsL, enL, hjl, by show _ - (j + 1) < _ - j; omega⟩
          | false =>
            rw [Bool.false_or] at hp
            by_cases hq1 : q % 2 = 1
            · rw [decide_eq_true hq1, if_pos rfl] at hp
              (repeat' (first | (show VH _ _ _ _ _ _ _; first | refine v_seq ?_ | refine r_seq ?_ | refine v_block ?_ | refine v_skip ?_ | refine v_cond_t rfl tbL ?_) | (show SH _ _ _ _ _ (_ :: _) _ _ _; first | (show SH _ _ _ _ _ (⟨_, _, _, _, _, some _⟩ :: _) _ _ _; (refine gif rfl rfl ?_; refine giFF tbL ?_)) | (show SH _ _ _ _ _ (⟨_, .move _, _, _, _, _⟩ :: _) _ _ _; refine mov evL ?_) | (show SH _ _ _ _ _ (⟨_, .binOp .lss _ _ _ _, _, _, _, _⟩ :: _) _ _ _; refine lssT rfl rfl omD ?_) | (show SH _ _ _ _ _ (⟨_, .load _ _, _, _, _, _⟩ :: _) _ _ _; first | refine lrg rfl (fun _ _ => rdY) (by rfl) omL (by assumption) (by rfl) ?_ | refine lbx rfl spL (by rfl) ?_ | refine lba rfl spL (by rfl) ?_) | (show SH _ _ _ _ _ (⟨_, .indexAddr _ _ _, _, _, _, _⟩ :: _) _ _ _; refine ix rfl rfl (by with_reducible rfl) (fun _ _ => rdY) (by rfl) omL omL ?_) | refine slen rfl ?_ | (show SH _ _ _ _ _ (⟨_, .call ⟨.value (.func 35), _, _⟩, _, _, _, _⟩ :: _) _ _ _; refine cl (callee := .func 35) rfl (fun w hw => how w hw.ext) rfl rfl ?_) | refine fad rfl ?_) | refine s_nil ?_ | refine kh_normal ?_))
              refine shrw rfl rfl (by omega) _ hsh ?_
              (repeat' (first | refine v_cond_t rfl tbL ?_ | (show SH _ _ _ _ _ (_ :: _) _ _ _; first | (show SH _ _ _ _ _ (⟨_, _, _, _, _, some _⟩ :: _) _ _ _; (refine gif rfl rfl ?_; refine giFF tbL ?_)) | (show SH _ _ _ _ _ (⟨_, .binOp .eql _ _ _ _, _, _, _, _⟩ :: _) _ _ _; refine eqlT rfl rfl omD ?_) | (show SH _ _ _ _ _ (⟨_, .binOp .rem _ _ _ _, _, _, _, _⟩ :: _) _ _ _; refine rem rfl rfl omL omL ?_) | (show SH _ _ _ _ _ (⟨_, .pick _ _ _, _, _, _, _⟩ :: _) _ _ _; refine pkf rfl tbL evL ?_)) | refine s_nil ?_ | refine kh_normal ?_))
              refine r_heldT [bx b8 31 [.int .i64 yi, .slice Ay ys.length cy]] (tr [(0, true), (2, true), (3, true), (4, true), (5, true), (6, true)] (.fork 1 (tr [(7, false), (8, false), (9, false), (10, false)] .nil) 7 (tr [(1, false), (8, false), (9, false), (10, false)] .nil))) hmix (by kernel_rfl) enL ?_
              (repeat' (first | (show SH _ _ _ _ _ (_ :: _) _ _ _; first | (show SH _ _ _ _ _ (⟨_, .move _, _, _, _, _⟩ :: _) _ _ _; refine mov evL ?_) | (show SH _ _ _ _ _ (⟨_, .load _ _, _, _, _, _⟩ :: _) _ _ _; first | refine lag rfl (fun _ _ => rdY) (by rfl) omL (by assumption) ?_ | refine lbx rfl spL (by rfl) ?_) | (show SH _ _ _ _ _ (⟨_, .indexAddr _ _ _, _, _, _, _⟩ :: _) _ _ _; refine ix rfl rfl (by with_reducible rfl) (fun _ _ => rdY) (by rfl) omL omL ?_) | refine fad rfl ?_) | refine s_fork ?_ ?_))
              repeat' (first
                | (refine s_fork3 ?_ ?_ ?_ <;> (repeat' (first | (show VH _ _ _ _ _ _ _; first | refine v_seq ?_ | refine r_seq ?_ | refine r_quiet hmix (by kernel_rfl) ?_ | refine v_block ?_ | refine v_ret ?_ | refine v_skip ?_ | refine v_exit ?_ | refine v_label ?_ | refine v_cond_t rfl tbL ?_ | refine v_cond_f rfl tbL ?_ | refine v_cond_dec rfl (fun h => ?_) (fun h => ?_) | refine v_cond_ndec rfl (fun h => ?_) (fun h => ?_) | refine v_cond rfl (fun h => ?_) (fun h => ?_)) | (show SH _ _ _ _ _ (_ :: _) _ _ _; first | (show SH _ _ _ _ _ (⟨_, _, _, _, _, some _⟩ :: _) _ _ _; first | (refine gif rfl rfl ?_; first | refine giTT tbL ?_ | refine giTF tbL ?_ | refine giFF tbL ?_ | refine giFT tbL ?_ | refine giTd (fun h => ?_) (fun h => ?_) | refine giFd (fun h => ?_) (fun h => ?_) | refine giT (fun h => ?_) (fun h => ?_) | refine giF (fun h => ?_) (fun h => ?_)) | refine gu rfl rfl ?_ | refine grT rfl rfl tbL ?_ | refine grF rfl rfl tbL ?_) | (show SH _ _ _ _ _ (⟨_, .move _, _, _, _, _⟩ :: _) _ _ _; refine mov evL ?_) | (show SH _ _ _ _ _ (⟨_, .assign _, _, _, _, _⟩ :: _) _ _ _; refine asg evL ?_) | (show SH _ _ _ _ _ (⟨_, .binOp .lss _ _ _ _, _, _, _, _⟩ :: _) _ _ _; first | refine lssT rfl rfl omD ?_ | refine lssF rfl rfl omD ?_ | refine lss rfl rfl ?_) | (show SH _ _ _ _ _ (⟨_, .binOp .eql _ _ _ _, _, _, _, _⟩ :: _) _ _ _; first | refine eqlT rfl rfl omD ?_ | refine eqlF rfl rfl omD ?_ | refine eql rfl rfl ?_ | refine eqn rfl rfl ?_ | refine eqb rfl rfl ?_) | (show SH _ _ _ _ _ (⟨_, .binOp .add _ _ _ _, _, _, _, _⟩ :: _) _ _ _; refine add rfl rfl inL ?_) | refine sh1 rfl rfl ?_ | (show SH _ _ _ _ _ (⟨_, .binOp .rem _ _ _ _, _, _, _, _⟩ :: _) _ _ _; refine rem rfl rfl omL omL ?_) | (show SH _ _ _ _ _ (⟨_, .load _ _, _, _, _, _⟩ :: _) _ _ _; first | refine lgi rfl (fun _ _ => rdY) omL (by assumption) ?_ | refine lag rfl (fun _ _ => rdY) (by rfl) omL (by assumption) ?_ | refine lrg rfl (fun _ _ => rdY) (by rfl) omL (by assumption) (by rfl) ?_ | refine lin rfl (fun _ _ => rdY) omL ?_ | refine lbx rfl spL (by rfl) ?_ | refine lba rfl spL (by rfl) ?_ | refine lbi rfl spL omL ?_ | refine lr1 rfl (fun _ _ => rdY) (by rfl) omL (by rfl) ?_ | refine lra rfl (fun _ _ => rdY) (by rfl) omL ?_ | refine lrf rfl (fun _ _ => rdY) (by rfl) omL (by rfl) ?_ | refine lcell rfl (fun w hw => hw.ext.cell (by assumption)) ?_ | refine lrs rfl (fun _ _ => rdY) (by rfl) omL (by rfl) (by rfl) ?_ | refine lbs rfl spL (by rfl) (by rfl) ?_ | refine lca rfl (fun _ _ => rdY) (by rfl) ?_ | refine lcs rfl (fun _ _ => rdY) (by rfl) ?_ | refine lcf rfl (fun _ _ => rdY) (by rfl) ?_ | refine lrf rfl (fun _ _ => rdY) (by rfl) (by simp only [List.length_cons, List.length_nil]; omega) (by rfl) ?_ | refine lra rfl (fun _ _ => rdY) (by rfl) (by simp only [List.length_cons, List.length_nil]; omega) ?_) | (show SH _ _ _ _ _ (⟨_, .indexAddr _ _ _, _, _, _, _⟩ :: _) _ _ _; first | refine ix rfl rfl (by with_reducible rfl) (fun _ _ => rdY) (by rfl) omL omL ?_ | refine ixi rfl rfl (fun _ _ => rdY) (by rfl) omL omL omL ?_ | refine ixb rfl rfl omL ?_ | refine ixq rfl rfl (by assumption) omL omL ?_ | refine ixA _ rfl rfl rfl omL ?_ | refine ixi rfl rfl (fun _ _ => rdY) (by rfl) omL (by first | omega | (simp only [List.length_cons, List.length_nil]; omega)) (by simp only [List.length_cons, List.length_nil]; omega) ?_) | refine slen rfl ?_ | (show SH _ _ _ _ _ (⟨_, .unOp .not _ _, _, _, _, _⟩ :: _) _ _ _; first | refine bnoT rfl ?_ | refine bnoF rfl ?_ | refine bnot rfl ?_) | (show SH _ _ _ _ _ (⟨_, .pick _ _ _, _, _, _, _⟩ :: _) _ _ _; first | refine pkt rfl tbL evL ?_ | refine pkf rfl tbL evL ?_) | refine fad rfl ?_ | (show SH _ _ _ _ _ (⟨_, .build _ _, _, _, _, _⟩ :: _) _ _ _; first | refine bld rfl rfl ?_ | refine bldZ ?_ | refine bldZN ?_) | (show SH _ _ _ _ _ (⟨_, .alloc _, _, _, _, _⟩ :: _) _ _ _; first | refine al1 rfl (fun b => ?_) | refine ala rfl (fun b => ?_)) | (show SH _ _ _ _ _ (⟨_, .box _ _, _, _, _, _⟩ :: _) _ _ _; refine bxx rfl evL rfl (fun b => ?_)) | (show SH _ _ _ _ _ (⟨_, .store _ _ _, _, _, _, _⟩ :: _) _ _ _; first | refine stb rfl rfl evL spL rfl rfl (by first | decide | exact Nat.zero_lt_succ _ | exact of_decide_eq_true rfl) kpL ?_ | refine sta rfl rfl rfl spL (by rfl) (by rfl) (by rfl) kpL ?_ | refine sti rfl rfl rfl spL omL kpL ?_ | refine sbi rfl rfl rfl spL omL kpL ?_ | refine sbs rfl rfl evL spL (by rfl) (by rfl) (of_decide_eq_true rfl) kpL ?_) | (show SH _ _ _ _ _ (⟨_, .buildSlice _ _ _, _, _, _, _⟩ :: _) _ _ _; refine bsl (α := Int) rfl rfl (by repeat (first | exact Vals.nil | (apply Vals.cons; rfl))) rfl (by rfl) (by decide) (fun b => ?_))) | refine s_nil ?_ | refine s_fork ?_ ?_ | refine s_fork3 ?_ ?_ ?_ | refine s_fork4 ?_ ?_ ?_ ?_ | refine kh_normal ?_ | refine kh_ret ?_ | refine kh_exit ?_ | refine bh_normal ?_ | refine bh_ret ?_ | refine bh_exit ?_ | refine bh_exit_ne rfl ?_)))
                | (refine s_fork ?_ ?_ <;> (repeat' (first | (show VH _ _ _ _ _ _ _; first | refine v_seq ?_ | refine r_seq ?_ | refine r_quiet hmix (by kernel_rfl) ?_ | refine v_block ?_ | refine v_ret ?_ | refine v_skip ?_ | refine v_exit ?_ | refine v_label ?_ | refine v_cond_t rfl tbL ?_ | refine v_cond_f rfl tbL ?_ | refine v_cond_dec rfl (fun h => ?_) (fun h => ?_) | refine v_cond_ndec rfl (fun h => ?_) (fun h => ?_) | refine v_cond rfl (fun h => ?_) (fun h => ?_)) | (show SH _ _ _ _ _ (_ :: _) _ _ _; first | (show SH _ _ _ _ _ (⟨_, _, _, _, _, some _⟩ :: _) _ _ _; first | (refine gif rfl rfl ?_; first | refine giTT tbL ?_ | refine giTF tbL ?_ | refine giFF tbL ?_ | refine giFT tbL ?_ | refine giTd (fun h => ?_) (fun h => ?_) | refine giFd (fun h => ?_) (fun h => ?_) | refine giT (fun h => ?_) (fun h => ?_) | refine giF (fun h => ?_) (fun h => ?_)) | refine gu rfl rfl ?_ | refine grT rfl rfl tbL ?_ | refine grF rfl rfl tbL ?_) | (show SH _ _ _ _ _ (⟨_, .move _, _, _, _, _⟩ :: _) _ _ _; refine mov evL ?_) | (show SH _ _ _ _ _ (⟨_, .assign _, _, _, _, _⟩ :: _) _ _ _; refine asg evL ?_) | (show SH _ _ _ _ _ (⟨_, .binOp .lss _ _ _ _, _, _, _, _⟩ :: _) _ _ _; first | refine lssT rfl rfl omD ?_ | refine lssF rfl rfl omD ?_ | refine lss rfl rfl ?_) | (show SH _ _ _ _ _ (⟨_, .binOp .eql _ _ _ _, _, _, _, _⟩ :: _) _ _ _; first | refine eqlT rfl rfl omD ?_ | refine eqlF rfl rfl omD ?_ | refine eql rfl rfl ?_ | refine eqn rfl rfl ?_ | refine eqb rfl rfl ?_) | (show SH _ _ _ _ _ (⟨_, .binOp .add _ _ _ _, _, _, _, _⟩ :: _) _ _ _; refine add rfl rfl inL ?_) | refine sh1 rfl rfl ?_ | (show SH _ _ _ _ _ (⟨_, .binOp .rem _ _ _ _, _, _, _, _⟩ :: _) _ _ _; refine rem rfl rfl omL omL ?_) | (show SH _ _ _ _ _ (⟨_, .load _ _, _, _, _, _⟩ :: _) _ _ _; first | refine lgi rfl (fun _ _ => rdY) omL (by assumption) ?_ | refine lag rfl (fun _ _ => rdY) (by rfl) omL (by assumption) ?_ | refine lrg rfl (fun _ _ => rdY) (by rfl) omL (by assumption) (by rfl) ?_ | refine lin rfl (fun _ _ => rdY) omL ?_ | refine lbx rfl spL (by rfl) ?_ | refine lba rfl spL (by rfl) ?_ | refine lbi rfl spL omL ?_ | refine lr1 rfl (fun _ _ => rdY) (by rfl) omL (by rfl) ?_ | refine lra rfl (fun _ _ => rdY) (by rfl) omL ?_ | refine lrf rfl (fun _ _ => rdY) (by rfl) omL (by rfl) ?_ | refine lcell rfl (fun w hw => hw.ext.cell (by assumption)) ?_ | refine lrs rfl (fun _ _ => rdY) (by rfl) omL (by rfl) (by rfl) ?_ | refine lbs rfl spL (by rfl) (by rfl) ?_ | refine lca rfl (fun _ _ => rdY) (by rfl) ?_ | refine lcs rfl (fun _ _ => rdY) (by rfl) ?_ | refine lcf rfl (fun _ _ => rdY) (by rfl) ?_ | refine lrf rfl (fun _ _ => rdY) (by rfl) (by simp only [List.length_cons, List.length_nil]; omega) (by rfl) ?_ | refine lra rfl (fun _ _ => rdY) (by rfl) (by simp only [List.length_cons, List.length_nil]; omega) ?_) | (show SH _ _ _ _ _ (⟨_, .indexAddr _ _ _, _, _, _, _⟩ :: _) _ _ _; first | refine ix rfl rfl (by with_reducible rfl) (fun _ _ => rdY) (by rfl) omL omL ?_ | refine ixi rfl rfl (fun _ _ => rdY) (by rfl) omL omL omL ?_ | refine ixb rfl rfl omL ?_ | refine ixq rfl rfl (by assumption) omL omL ?_ | refine ixA _ rfl rfl rfl omL ?_ | refine ixi rfl rfl (fun _ _ => rdY) (by rfl) omL (by first | omega | (simp only [List.length_cons, List.length_nil]; omega)) (by simp only [List.length_cons, List.length_nil]; omega) ?_) | refine slen rfl ?_ | (show SH _ _ _ _ _ (⟨_, .unOp .not _ _, _, _, _, _⟩ :: _) _ _ _; first | refine bnoT rfl ?_ | refine bnoF rfl ?_ | refine bnot rfl ?_) | (show SH _ _ _ _ _ (⟨_, .pick _ _ _, _, _, _, _⟩ :: _) _ _ _; first | refine pkt rfl tbL evL ?_ | refine pkf rfl tbL evL ?_) | refine fad rfl ?_ | (show SH _ _ _ _ _ (⟨_, .build _ _, _, _, _, _⟩ :: _) _ _ _; first | refine bld rfl rfl ?_ | refine bldZ ?_ | refine bldZN ?_) | (show SH _ _ _ _ _ (⟨_, .alloc _, _, _, _, _⟩ :: _) _ _ _; first | refine al1 rfl (fun b => ?_) | refine ala rfl (fun b => ?_)) | (show SH _ _ _ _ _ (⟨_, .box _ _, _, _, _, _⟩ :: _) _ _ _; refine bxx rfl evL rfl (fun b => ?_)) | (show SH _ _ _ _ _ (⟨_, .store _ _ _, _, _, _, _⟩ :: _) _ _ _; first | refine stb rfl rfl evL spL rfl rfl (by first | decide | exact Nat.zero_lt_succ _ | exact of_decide_eq_true rfl) kpL ?_ | refine sta rfl rfl rfl spL (by rfl) (by rfl) (by rfl) kpL ?_ | refine sti rfl rfl rfl spL omL kpL ?_ | refine sbi rfl rfl rfl spL omL kpL ?_ | refine sbs rfl rfl evL spL (by rfl) (by rfl) (of_decide_eq_true rfl) kpL ?_) | (show SH _ _ _ _ _ (⟨_, .buildSlice _ _ _, _, _, _, _⟩ :: _) _ _ _; refine bsl (α := Int) rfl rfl (by repeat (first | exact Vals.nil | (apply Vals.cons; rfl))) rfl (by rfl) (by decide) (fun b => ?_))) | refine s_nil ?_ | refine s_fork ?_ ?_ | refine s_fork3 ?_ ?_ ?_ | refine s_fork4 ?_ ?_ ?_ ?_ | refine kh_normal ?_ | refine kh_ret ?_ | refine kh_exit ?_ | refine bh_normal ?_ | refine bh_ret ?_ | refine bh_exit ?_ | refine bh_exit_ne rfl ?_)))
                | (refine bsl (l := [(⟨kn, qa, qb, qc, qd⟩ : Comp)]) rfl rfl (Vals.cons rfl Vals.nil) rfl rfl (by decide) (fun b7 => ?_); (repeat' ((show SH _ _ _ _ _ (_ :: _) _ _ _; (show SH _ _ _ _ _ (⟨_, .load _ _, _, _, _, _⟩ :: _) _ _ _; refine lbx rfl spL (by rfl) ?_)))))
                | (refine app (l := partC mk (ys.take j)) (l2 := [(⟨kn, qa, qb, qc, qd⟩ : Comp)]) rfl rfl rfl spL (fun w hw => hw.rd spL) rfl rfl rfl (by simp only [List.length_cons, List.length_nil]; omega) (by simp only [List.length_cons, List.length_nil]; omega) (fun A7 c7 => ⟨enL, ?_⟩); rw [← hp]; (repeat' (first | refine r_seq ?_ | (show SH _ _ _ _ _ (_ :: _) _ _ _; first | (show SH _ _ _ _ _ (⟨_, .move _, _, _, _, _⟩ :: _) _ _ _; refine mov evL ?_) | (show SH _ _ _ _ _ (⟨_, .assign _, _, _, _, _⟩ :: _) _ _ _; refine asg evL ?_) | (show SH _ _ _ _ _ (⟨_, .binOp .add _ _ _ _, _, _, _, _⟩ :: _) _ _ _; refine add rfl rfl inL ?_) | refine fad rfl ?_ | (show SH _ _ _ _ _ (⟨_, .store _ _ _, _, _, _, _⟩ :: _) _ _ _; refine stb rfl rfl evL spL rfl rfl (by first | decide | exact Nat.zero_lt_succ _ | exact of_decide_eq_true rfl) kpL ?_)) | refine s_nil ?_ | refine kh_normal ?_ | refine bh_normal ?_))))
              all_goals exact ⟨agL, (j + 1, A7, c7), hsL, enL, hjl, by show _ - (j + 1) < _ - j; omega⟩
            · rw [decide_eq_false hq1, if_neg (by simp), List.append_nil] at hp
              (repeat' (first | (show VH _ _ _ _ _ _ _; first | refine v_seq ?_ | refine r_seq ?_ | refine v_block ?_ | refine v_skip ?_ | refine v_cond_t rfl tbL ?_) | (show SH _ _ _ _ _ (_ :: _) _ _ _; first | (show SH _ _ _ _ _ (⟨_, _, _, _, _, some _⟩ :: _) _ _ _; (refine gif rfl rfl ?_; refine giFF tbL ?_)) | (show SH _ _ _ _ _ (⟨_, .move _, _, _, _, _⟩ :: _) _ _ _; refine mov evL ?_) | (show SH _ _ _ _ _ (⟨_, .binOp .lss _ _ _ _, _, _, _, _⟩ :: _) _ _ _; refine lssT rfl rfl omD ?_) | (show SH _ _ _ _ _ (⟨_, .load _ _, _, _, _, _⟩ :: _) _ _ _; first | refine lrg rfl (fun _ _ => rdY) (by rfl) omL (by assumption) (by rfl) ?_ | refine lbx rfl spL (by rfl) ?_ | refine lba rfl spL (by rfl) ?_) | (show SH _ _ _ _ _ (⟨_, .indexAddr _ _ _, _, _, _, _⟩ :: _) _ _ _; refine ix rfl rfl (by with_reducible rfl) (fun _ _ => rdY) (by rfl) omL omL ?_) | refine slen rfl ?_ | (show SH _ _ _ _ _ (⟨_, .call ⟨.value (.func 35), _, _⟩, _, _, _, _⟩ :: _) _ _ _; refine cl (callee := .func 35) rfl (fun w hw => how w hw.ext) rfl rfl ?_) | refine fad rfl ?_) | refine s_nil ?_ | refine kh_normal ?_))
              refine shrw rfl rfl (by omega) _ hsh ?_
              (repeat' (first | (show VH _ _ _ _ _ _ _; first | refine r_seq ?_ | refine v_skip ?_ | refine v_cond_f rfl tbL ?_) | (show SH _ _ _ _ _ (_ :: _) _ _ _; first | (show SH _ _ _ _ _ (⟨_, _, _, _, _, some _⟩ :: _) _ _ _; (refine gif rfl rfl ?_; refine giFF tbL ?_)) | (show SH _ _ _ _ _ (⟨_, .move _, _, _, _, _⟩ :: _) _ _ _; refine mov evL ?_) | (show SH _ _ _ _ _ (⟨_, .assign _, _, _, _, _⟩ :: _) _ _ _; refine asg evL ?_) | (show SH _ _ _ _ _ (⟨_, .binOp .eql _ _ _ _, _, _, _, _⟩ :: _) _ _ _; refine eqlF rfl rfl omD ?_) | (show SH _ _ _ _ _ (⟨_, .binOp .add _ _ _ _, _, _, _, _⟩ :: _) _ _ _; refine add rfl rfl inL ?_) | (show SH _ _ _ _ _ (⟨_, .binOp .rem _ _ _ _, _, _, _, _⟩ :: _) _ _ _; refine rem rfl rfl omL omL ?_) | (show SH _ _ _ _ _ (⟨_, .pick _ _ _, _, _, _, _⟩ :: _) _ _ _; refine pkf rfl tbL evL ?_)) | refine s_nil ?_ | refine kh_normal ?_ | refine bh_normal ?_))
              exact ⟨agL, (j + 1, A3, c3), hsL, by rw [hp]; exact enL, hjl, by show _ - (j + 1) < _ - j; omega⟩
        · obtain rfl : j = ys.length := by omega
          rw [List.take_length] at hpl ⊢
          clear hin hpt hk
          generalize partC mk ys = P at hpl hn
          (repeat' (first | (show VH _ _ _ _ _ _ _; first | refine v_seq ?_ | refine r_seq ?_ | refine v_exit ?_ | refine v_cond_f rfl tbL ?_) | (show SH _ _ _ _ _ (_ :: _) _ _ _; first | (show SH _ _ _ _ _ (⟨_, .move _, _, _, _, _⟩ :: _) _ _ _; refine mov evL ?_) | (show SH _ _ _ _ _ (⟨_, .binOp .lss _ _ _ _, _, _, _, _⟩ :: _) _ _ _; refine lssF rfl rfl omD ?_) | (show SH _ _ _ _ _ (⟨_, .load _ _, _, _, _, _⟩ :: _) _ _ _; first | refine lbx rfl spL (by rfl) ?_ | refine lba rfl spL (by rfl) ?_) | refine slen rfl ?_ | refine fad rfl ?_) | refine s_nil ?_ | refine kh_normal ?_ | refine kh_exit ?_ | refine bh_exit ?_))
          refine bsl (l := [(⟨⟨yi, P⟩, A3, c3⟩ : EntP)]) rfl rfl (Vals.cons rfl Vals.nil) rfl rfl (by decide) (fun b31 => ?_)
          (repeat' (first | (show VH _ _ _ _ _ _ _; first | refine v_seq ?_ | refine r_seq ?_ | refine r_quiet hmix (by kernel_rfl) ?_ | refine v_block ?_ | refine v_ret ?_ | refine v_skip ?_ | refine v_exit ?_ | refine v_label ?_ | refine v_cond_t rfl tbL ?_ | refine v_cond_f rfl tbL ?_ | refine v_cond_dec rfl (fun h => ?_) (fun h => ?_) | refine v_cond_ndec rfl (fun h => ?_) (fun h => ?_) | refine v_cond rfl (fun h => ?_) (fun h => ?_)) | (show SH _ _ _ _ _ (_ :: _) _ _ _; first | (show SH _ _ _ _ _ (⟨_, _, _, _, _, some _⟩ :: _) _ _ _; first | (refine gif rfl rfl ?_; first | refine giTT tbL ?_ | refine giTF tbL ?_ | refine giFF tbL ?_ | refine giFT tbL ?_ | refine giTd (fun h => ?_) (fun h => ?_) | refine giFd (fun h => ?_) (fun h => ?_) | refine giT (fun h => ?_) (fun h => ?_) | refine giF (fun h => ?_) (fun h => ?_)) | refine gu rfl rfl ?_ | refine grT rfl rfl tbL ?_ | refine grF rfl rfl tbL ?_) | (show SH _ _ _ _ _ (⟨_, .move _, _, _, _, _⟩ :: _) _ _ _; refine mov evL ?_) | (show SH _ _ _ _ _ (⟨_, .assign _, _, _, _, _⟩ :: _) _ _ _; refine asg evL ?_) | (show SH _ _ _ _ _ (⟨_, .binOp .lss _ _ _ _, _, _, _, _⟩ :: _) _ _ _; first | refine lssT rfl rfl omD ?_ | refine lssF rfl rfl omD ?_ | refine lss rfl rfl ?_) | (show SH _ _ _ _ _ (⟨_, .binOp .eql _ _ _ _, _, _, _, _⟩ :: _) _ _ _; first | refine eqlT rfl rfl omD ?_ | refine eqlF rfl rfl omD ?_ | refine eql rfl rfl ?_ | refine eqn rfl rfl ?_ | refine eqb rfl rfl ?_) | (show SH _ _ _ _ _ (⟨_, .binOp .add _ _ _ _, _, _, _, _⟩ :: _) _ _ _; refine add rfl rfl inL ?_) | refine sh1 rfl rfl ?_ | (show SH _ _ _ _ _ (⟨_, .binOp .rem _ _ _ _, _, _, _, _⟩ :: _) _ _ _; refine rem rfl rfl omL omL ?_) | (show SH _ _ _ _ _ (⟨_, .load _ _, _, _, _, _⟩ :: _) _ _ _; first | refine lgi rfl (fun _ _ => rdY) omL (by assumption) ?_ | refine lag rfl (fun _ _ => rdY) (by rfl) omL (by assumption) ?_ | refine lrg rfl (fun _ _ => rdY) (by rfl) omL (by assumption) (by rfl) ?_ | refine lin rfl (fun _ _ => rdY) omL ?_ | refine lbx rfl spL (by rfl) ?_ | refine lba rfl spL (by rfl) ?_ | refine lbi rfl spL omL ?_ | refine lr1 rfl (fun _ _ => rdY) (by rfl) omL (by rfl) ?_ | refine lra rfl (fun _ _ => rdY) (by rfl) omL ?_ | refine lrf rfl (fun _ _ => rdY) (by rfl) omL (by rfl) ?_ | refine lcell rfl (fun w hw => hw.ext.cell (by assumption)) ?_ | refine lrs rfl (fun _ _ => rdY) (by rfl) omL (by rfl) (by rfl) ?_ | refine lbs rfl spL (by rfl) (by rfl) ?_ | refine lca rfl (fun _ _ => rdY) (by rfl) ?_ | refine lcs rfl (fun _ _ => rdY) (by rfl) ?_ | refine lcf rfl (fun _ _ => rdY) (by rfl) ?_ | refine lrf rfl (fun _ _ => rdY) (by rfl) (by simp only [List.length_cons, List.length_nil]; omega) (by rfl) ?_ | refine lra rfl (fun _ _ => rdY) (by rfl) (by simp only [List.length_cons, List.length_nil]; omega) ?_) | (show SH _ _ _ _ _ (⟨_, .indexAddr _ _ _, _, _, _, _⟩ :: _) _ _ _; first | refine ix rfl rfl (by with_reducible rfl) (fun _ _ => rdY) (by rfl) omL omL ?_ | refine ixi rfl rfl (fun _ _ => rdY) (by rfl) omL omL omL ?_ | refine ixb rfl rfl omL ?_ | refine ixq rfl rfl (by assumption) omL omL ?_ | refine ixA _ rfl rfl rfl omL ?_ | refine ixi rfl rfl (fun _ _ => rdY) (by rfl) omL (by first | omega | (simp only [List.length_cons, List.length_nil]; omega)) (by simp only [List.length_cons, List.length_nil]; omega) ?_) | refine slen rfl ?_ | (show SH _ _ _ _ _ (⟨_, .unOp .not _ _, _, _, _, _⟩ :: _) _ _ _; first | refine bnoT rfl ?_ | refine bnoF rfl ?_ | refine bnot rfl ?_) | (show SH _ _ _ _ _ (⟨_, .pick _ _ _, _, _, _, _⟩ :: _) _ _ _; first | refine pkt rfl tbL evL ?_ | refine pkf rfl tbL evL ?_) | refine fad rfl ?_ | (show SH _ _ _ _ _ (⟨_, .build _ _, _, _, _, _⟩ :: _) _ _ _; first | refine bld rfl rfl ?_ | refine bldZ ?_ | refine bldZN ?_) | (show SH _ _ _ _ _ (⟨_, .alloc _, _, _, _, _⟩ :: _) _ _ _; first | refine al1 rfl (fun b => ?_) | refine ala rfl (fun b => ?_)) | (show SH _ _ _ _ _ (⟨_, .box _ _, _, _, _, _⟩ :: _) _ _ _; refine bxx rfl evL rfl (fun b => ?_)) | (show SH _ _ _ _ _ (⟨_, .store _ _ _, _, _, _, _⟩ :: _) _ _ _; first | refine stb rfl rfl evL spL rfl rfl (by first | decide | exact Nat.zero_lt_succ _ | exact of_decide_eq_true rfl) kpL ?_ | refine sta rfl rfl rfl spL (by rfl) (by rfl) (by rfl) kpL ?_ | refine sti rfl rfl rfl spL omL kpL ?_ | refine sbi rfl rfl rfl spL omL kpL ?_ | refine sbs rfl rfl evL spL (by rfl) (by rfl) (of_decide_eq_true rfl) kpL ?_) | (show SH _ _ _ _ _ (⟨_, .buildSlice _ _ _, _, _, _, _⟩ :: _) _ _ _; refine bsl (α := Int) rfl rfl (by repeat (first | exact Vals.nil | (apply Vals.cons; rfl))) rfl (by rfl) (by decide) (fun b => ?_))) | refine s_nil ?_ | refine s_fork ?_ ?_ | refine s_fork3 ?_ ?_ ?_ | refine s_fork4 ?_ ?_ ?_ ?_ | refine kh_normal ?_ | refine kh_ret ?_ | refine kh_exit ?_ | refine bh_normal ?_ | refine bh_ret ?_ | refine bh_exit ?_ | refine bh_exit_ne rfl ?_))
          refine app (l := L) (l2 := [(⟨⟨yi, P⟩, A3, c3⟩ : EntP)]) rfl rfl rfl spL (fun w hw => hw.rd spL) rfl rfl rfl (by simp only [List.length_cons, List.length_nil]; omega) (by simp only [List.length_cons, List.length_nil]; omega) (fun A7 c7 => ⟨enL, ?_⟩)
          (repeat' (first | refine r_seq ?_ | (show SH _ _ _ _ _ (_ :: _) _ _ _; first | (show SH _ _ _ _ _ (⟨_, .move _, _, _, _, _⟩ :: _) _ _ _; refine mov evL ?_) | (show SH _ _ _ _ _ (⟨_, .assign _, _, _, _, _⟩ :: _) _ _ _; refine asg evL ?_) | (show SH _ _ _ _ _ (⟨_, .binOp .add _ _ _ _, _, _, _, _⟩ :: _) _ _ _; refine add rfl rfl inL ?_) | refine fad rfl ?_ | (show SH _ _ _ _ _ (⟨_, .store _ _ _, _, _, _, _⟩ :: _) _ _ _; refine stb rfl rfl evL spL rfl rfl (by first | decide | exact Nat.zero_lt_succ _ | exact of_decide_eq_true rfl) kpL ?_)) | refine s_nil ?_ | refine kh_normal ?_ | refine bh_normal ?_))
          refine ⟨agL, (i + 1, (A7, c7), L ++ [(⟨⟨yi, P⟩, A3, c3⟩ : EntP)]), hsL, ?_, ⟨hil, by rw [hn]; exact map_snoc_e _ _⟩, by show _ - (i + 1) < _ - i; omega⟩
          exact Ent.trans (B := [orow 37 A3 c3 P, allH (L.map rowOf), bx b6 24 [.int .i64 t, .slice A7 (L ++ [(⟨⟨yi, P⟩, A3, c3⟩ : EntP)]).length c7], orow 31 A7 c7 (L ++ [(⟨⟨yi, P⟩, A3, c3⟩ : EntP)]), bx b4 24 [.int .i64 0, .slice none 0 0], bx b2 24 [.int .i64 t, .slice A l.length c1]]) enL
            ((ent_all_snoc (f := rowOf) (x := (⟨⟨yi, P⟩, A3, c3⟩ : EntP))).trans enL)
    · obtain rfl : i = l.length := by omega
      clear hC hO hnx hW hK hrc h0 hvl hcl
      (repeat' (first | (show VH _ _ _ _ _ _ _; first | refine v_seq ?_ | refine r_seq ?_ | refine v_ret ?_ | refine v_exit ?_ | refine v_cond_f rfl tbL ?_) | (show SH _ _ _ _ _ (_ :: _) _ _ _; first | (show SH _ _ _ _ _ (⟨_, .move _, _, _, _, _⟩ :: _) _ _ _; refine mov evL ?_) | (show SH _ _ _ _ _ (⟨_, .assign _, _, _, _, _⟩ :: _) _ _ _; refine asg evL ?_) | (show SH _ _ _ _ _ (⟨_, .binOp .lss _ _ _ _, _, _, _, _⟩ :: _) _ _ _; refine lssF rfl rfl omD ?_) | (show SH _ _ _ _ _ (⟨_, .load _ _, _, _, _, _⟩ :: _) _ _ _; first | refine lbx rfl spL (by rfl) ?_ | refine lba rfl spL (by rfl) ?_) | refine slen rfl ?_ | refine fad rfl ?_ | (show SH _ _ _ _ _ (⟨_, .store _ _ _, _, _, _, _⟩ :: _) _ _ _; refine sta rfl rfl rfl spL (by rfl) (by rfl) (by rfl) kpL ?_)) | refine s_nil ?_ | refine kh_normal ?_ | refine kh_exit ?_ | refine bh_exit ?_))
      exact rhC2 rfl rfl rfl rfl (fun w hw => loadVar_bx hw spL (by rfl)) ⟨A1, c2, L, rfl, hL, rfl⟩ enL
  · simp only [if_neg hv]
    rw [decide_eq_false hv] at hO
    clear hv
    unfold wv at *
    refine enterH Tryz.func20 rfl rfl Tryz.ntmps20 rfl (Wd.refl _) ?_
    (repeat' (first | (show VH _ _ _ _ _ _ _; first | refine v_seq ?_ | refine r_seq ?_ | refine v_ret ?_ | refine v_cond_t rfl tbL ?_) | (show SH _ _ _ _ _ (_ :: _) _ _ _; first | (show SH _ _ _ _ _ (⟨_, .move _, _, _, _, _⟩ :: _) _ _ _; refine mov evL ?_) | (show SH _ _ _ _ _ (⟨_, .assign _, _, _, _, _⟩ :: _) _ _ _; refine asg evL ?_) | (show SH _ _ _ _ _ (⟨_, .load _ _, _, _, _, _⟩ :: _) _ _ _; refine lba rfl spL (by rfl) ?_) | (show SH _ _ _ _ _ (⟨_, .call ⟨.value (.func 34), _, _⟩, _, _, _, _⟩ :: _) _ _ _; refine cl (callee := .func 34) rfl (fun w hw => hO w hw.ext) rfl rfl ?_) | refine bnoF rfl ?_ | refine bld rfl rfl ?_ | refine ala rfl (fun b => ?_) | (show SH _ _ _ _ _ (⟨_, .box _ _, _, _, _, _⟩ :: _) _ _ _; refine bxx rfl evL rfl (fun b => ?_)) | (show SH _ _ _ _ _ (⟨_, .store _ _ _, _, _, _, _⟩ :: _) _ _ _; refine sta rfl rfl rfl spL (by rfl) (by rfl) (by rfl) kpL ?_)) | refine s_nil ?_ | refine kh_normal ?_ | refine kh_ret ?_))
    exact rhC2 rfl rfl rfl rfl (fun w hw => loadVar_bx hw spL (by rfl)) ⟨none, 0, [], rfl, rfl, rfl⟩ (ent_nilrow (ent_all_nil (ent_nil _)))
end Go.Proofs.YtjefoecnciepmaaGreatDoor

/- The kit: mark, LentInts, KeptInts. -/
namespace Go.Proofs.YtjefoecnciepmaaGreatDoor
open Go.Fw Go.RowKit
def markI (k i : Int) : Int := 1000003 * (k + 7) + i
theorem mark_spec (k i : Int) (w : World) (hk : -1000000 ≤ k ∧ k ≤ 1000000) (hi : -1000000000000 ≤ i ∧ i ≤ 1000000000000) :
    Ret Tryz.prog 94 [.int .i64 k, .int .i64 i].toArray w (Out w (.int .i64 (markI k i))) := by
  refine enterH Tryz.func94 rfl rfl Tryz.ntmps94 rfl (Wd.refl _) ?_
  (repeat' (first | (show VH _ _ _ _ _ _ _; first | refine v_seq ?_ | refine r_seq ?_ | refine r_quiet hmix (by kernel_rfl) ?_ | refine v_block ?_ | refine v_ret ?_ | refine v_skip ?_ | refine v_exit ?_ | refine v_label ?_ | refine v_cond_t rfl tbL ?_ | refine v_cond_f rfl tbL ?_ | refine v_cond_dec rfl (fun h => ?_) (fun h => ?_) | refine v_cond_ndec rfl (fun h => ?_) (fun h => ?_) | refine v_cond rfl (fun h => ?_) (fun h => ?_)) | (show SH _ _ _ _ _ (_ :: _) _ _ _; first | (show SH _ _ _ _ _ (⟨_, .move _, _, _, _, _⟩ :: _) _ _ _; refine mov evL ?_) | (show SH _ _ _ _ _ (⟨_, .assign _, _, _, _, _⟩ :: _) _ _ _; refine asg evL ?_) | (show SH _ _ _ _ _ (⟨_, .binOp .add _ _ _ _, _, _, _, _⟩ :: _) _ _ _; refine add rfl rfl inL ?_) | (show SH _ _ _ _ _ (⟨_, .binOp .mul _ _ _ _, _, _, _, _⟩ :: _) _ _ _; refine mul rfl rfl inL ?_)) | refine s_nil ?_ | refine s_fork ?_ ?_ | refine s_fork3 ?_ ?_ ?_ | refine s_fork4 ?_ ?_ ?_ ?_ | refine kh_normal ?_ | refine kh_ret ?_ | refine kh_exit ?_ | refine bh_normal ?_ | refine bh_ret ?_ | refine bh_exit ?_ | refine bh_exit_ne rfl ?_))
  exact rh1 rfl rfl ⟨rfl, rfl⟩ (ent_nil _)
def marks (k : Int) (s n : Nat) : List Int := (List.range n).map fun i => markI k ((s + i : Nat) : Int)
end Go.Proofs.YtjefoecnciepmaaGreatDoor

/- The kit: slices that lie side by side. -/
namespace Go.Proofs.YtjefoecnciepmaaGreatDoor
open Go.Fw Go.RowKit
structure RowG (α : Type) where
  A : Option Addr
  cp : Nat
  l : List α
structure TwG (α : Type) where
  A : Option Addr
  cp : Nat
  l : List α
  A' : Option Addr
  cp' : Nat
  L : List α
section
variable {α : Type}
def rowD : RowG α := ⟨none, 0, []⟩
def twD : TwG α := ⟨none, 0, [], none, 0, []⟩
def rowP [Flat α] (e : TypeId) (r : RowG α) : HP := orow e r.A r.cp r.l
def twP [Flat α] (e : TypeId) (t : TwG α) : HP := twin e t.A t.cp t.l t.A' t.cp' t.L
def slv (r : RowG α) : SliceV := ⟨r.A, r.l.length, r.cp⟩
def selfT (r : RowG α) : TwG α := ⟨r.A, r.cp, r.l, r.A, r.cp, r.l⟩
def baseT (t : TwG α) : RowG α := ⟨t.A, t.cp, t.l⟩
end
theorem getD_map' {α β : Type} {f : α → β} {d : α} {e : β} {l : List α} {k : Nat} (h : k < l.length) : (l.map f).getD k e = f (l.getD k d) := by
  simp [List.getD_eq_getElem?_getD, h]
theorem set_map' {α β : Type} {f : α → β} {l : List α} {k : Nat} {d x : α} (h : k < l.length) (hx : f x = f (l.getD k d)) : (l.set k x).map f = l.map f := by
  rw [List.map_set, hx]
  apply List.ext_getElem?
  intro j
  rw [List.getElem?_set]
  by_cases hj : k = j
  · subst hj; simp [h]
  · simp [hj]
theorem getD_set_self' {α : Type} {l : List α} {k : Nat} {d x : α} (h : k < l.length) : (l.set k x).getD k d = x := by simp [List.getD_eq_getElem?_getD, h]
theorem getD_set_ne2 {α : Type} {l : List α} {k j : Nat} {d x : α} (h : k ≠ j) : (l.set k x).getD j d = l.getD j d := by simp [List.getD_eq_getElem?_getD, List.getElem?_set, h]
theorem take_set_snoc {α : Type} (L : List α) (i : Nat) (v : α) (h : i < L.length) : (L.set i v).take (i + 1) = L.take i ++ [v] := by
  rw [List.take_succ_eq_append_getElem (by simpa using h)]
  simp [List.take_set_of_le]
section
variable {α : Type}
/-- n marks from s on. -/
def marksG (mk : Int → Int → α) (k : Int) (s n : Nat) : List α := (List.range n).map fun i => mk k ((s + i : Nat) : Int)
variable {mk : Int → Int → α}
theorem marksG_len (k : Int) (s n : Nat) : (marksG mk k s n).length = n := by simp [marksG]
theorem marksG_zero (k : Int) (s : Nat) : marksG mk k s 0 = [] := rfl
theorem marksG_snoc (k : Int) (s n : Nat) : marksG mk k s (n + 1) = marksG mk k s n ++ [mk k ((s + n : Nat) : Int)] := by
  unfold marksG
  rw [List.range_succ, List.map_append]; rfl
theorem marksG_get {d : α} (k : Int) (s : Nat) {n i : Nat} (h : i < n) : (marksG mk k s n).getD i d = mk k ((s + i : Nat) : Int) := by
  simp [marksG, List.getD_eq_getElem?_getD, h]
theorem marksG_add (k : Int) (n m : Nat) : marksG mk k 0 n ++ marksG mk k n m = marksG mk k 0 (n + m) := by
  unfold marksG
  rw [List.range_add, List.map_append, List.map_map]
  congr 1
  apply List.map_congr_left
  intro i _
  simp
/-- The rows up to k hold their marks. -/
def Marked (mk : Int → Int → α) (rs : List (RowG α)) (k : Nat) : Prop := ∀ j, j < k → (rs.getD j rowD).l = marksG mk j 0 (rs.getD j rowD).l.length
/-- The first k slices have been appended to: what the new ones read as. -/
structure Tw (F : Nat → List α → List α) (rs : List (RowG α)) (k : Nat) (ts : List (TwG α)) (gl : List SliceV) : Prop where
  base : ts.map baseT = rs
  len : gl.length = rs.length
  self : ∀ j, k ≤ j → j < rs.length → ts.getD j twD = selfT (rs.getD j rowD)
  done : ∀ j, j < k → gl.getD j Flat.dflt = ⟨(ts.getD j twD).A', (ts.getD j twD).L.length, (ts.getD j twD).cp'⟩ ∧ (ts.getD j twD).L = F j (ts.getD j twD).l
theorem Tw.tlen {F : Nat → List α → List α} {rs : List (RowG α)} {k : Nat} {ts : List (TwG α)} {gl : List SliceV} (h : Tw F rs k ts gl) : ts.length = rs.length := by rw [← h.base, List.length_map]
theorem tw_start {F : Nat → List α → List α} {rs : List (RowG α)} {gl : List SliceV} (h : gl.length = rs.length) : Tw F rs 0 (rs.map selfT) gl := by
  refine ⟨?_, h, fun j _ hj => getD_map' hj, fun j hj => absurd hj (Nat.not_lt_zero j)⟩
  rw [List.map_map]
  exact List.map_id' rs
theorem Tw.step {F : Nat → List α → List α} {rs : List (RowG α)} {k : Nat} {ts : List (TwG α)} {gl : List SliceV} (h : Tw F rs k ts gl) (hk : k < rs.length) {A1 A' : Option Addr} {c1 cp' : Nat} {l1 L : List α} (hr : rs.getD k rowD = ⟨A1, c1, l1⟩) (hL : L = F k l1) :
    Tw F rs (k + 1) (ts.set k ⟨A1, c1, l1, A', cp', L⟩) (gl.set k ⟨A', L.length, cp'⟩) := by
  have ht := h.tlen
  refine ⟨?_, by rw [List.length_set]; exact h.len, fun j h1 h2 => ?_, fun j hj => ?_⟩
  · rw [set_map' (d := twD) (by omega), h.base]
    rw [h.self k (Nat.le_refl _) hk, hr]; rfl
  · rw [getD_set_ne2 (by omega)]; exact h.self j (by omega) h2
  · by_cases e : j = k
    · subst e
      rw [getD_set_self' (by rw [h.len]; exact hk), getD_set_self' (by omega)]
      exact ⟨rfl, hL⟩
    · rw [getD_set_ne2 (by omega), getD_set_ne2 (by omega)]
      exact h.done j (by omega)
theorem ent_row_selfs [Flat α] {e : TypeId} {H : List HP} (rs : List (RowG α)) : Ent (rs.map (rowP e) ++ H) ((rs.map selfT).map (twP e) ++ H) := by
  rw [List.map_map]
  exact ent_map_imp (fun r G => ent_row_twin Split.head (ent_refl _)) rs
theorem ent_tw_selfs [Flat α] {e : TypeId} {H : List HP} (ts : List (TwG α)) : Ent (ts.map (twP e) ++ H) (((ts.map baseT).map selfT).map (twP e) ++ H) := by
  rw [List.map_map, List.map_map]
  exact ent_map_imp (fun t G => (ent_twin_row Split.head (ent_refl _)).trans (ent_row_twin Split.head (ent_refl _))) ts
end
theorem ent_maps_drop {ι : Type} {f : ι → HP} {H : List HP} : ∀ (L : List ι), Ent (L.map f ++ H) H
  | [] => ent_refl _
  | _ :: L => ent_drop (ent_maps_drop L)
end Go.Proofs.YtjefoecnciepmaaGreatDoor

/- Rules for slices.Insert and slices.Delete: appends into one's own row, copies, rows with room, appends of zeros. -/
namespace Go.Fw
open Go.RowKit
section
variable {P : Program} {n : Nat} {f : Fr} {w w0 : World} {ops : Array Oper} {rest : List Oper} {d : Nat} {ty : TypeId} {pos : String} {aft : Array Edge} {v : Value} {x y : Operand} {md : Md} {Q : HQ} {H R : List HP}
theorem wl_appIn {Q' : Exit → Fr → World → Prop} {t e : TypeId} {sz by_ : Nat} {cs news : List Value} {base : Nat} {A B : Option Addr} {m cp i kk c2 : Nat} [ht : TSl P t e sz by_] (hp : 0 < sz) (ho : Go.Fw.Own w base e sz A m cp cs)
    (hsrc : Src w B news) (hx : ev n f x = .slice A i cp) (hy : ev n f y = .slice B kk c2) (hl : news.length = kk * sz) (h1 : ∀ u ∈ news, u.oneCell' = true) (hik : i + kk ≤ m) (hm : m ≠ 0)
    (k : ∀ w1, Go.Fw.Own w1 base e sz A m cp (cs.take (i * sz) ++ news ++ cs.drop (i * sz + kk * sz)) → w.grownBy w1 (blk A) → WL P n ops Q' rest (upd f d (.slice A (i + kk) cp)) w1) :
    WL P n ops Q' (⟨some d, .call { callee := .builtin .append, args := #[x, y], argTypes := #[t, t] }, ty, pos, aft, none⟩ :: rest) f w := by
  obtain ⟨g, cur, rfl, hg, hh, hc1, hc2, hc3, hc4⟩ := own_some ho (by omega)
  have hsz : ∀ w, (sizeOf e).run P w = .ok sz w := slice_size (P := P) (t := t)
  have hikm : i * sz + kk * sz ≤ m * sz := by rw [← Nat.add_mul]; exact Nat.mul_le_mul_right _ hik
  have hmc : m * sz ≤ cp * sz := Nat.mul_le_mul_right _ hc1
  have hst := run_storeCells_at P g (i * sz) e news 0 cur w hh (by rw [hl, hc3]; omega) h1
  have hload : (Builtin.firstCells sz kk (.slice B kk c2)).run P w = .ok news.toArray w := by
    cases B with
    | none =>
      have : news = [] := by
        cases news with
        | nil => rfl
        | cons u us => exact absurd (hsrc 0 u rfl).1 (by simp)
      subst this
      exact run_firstCells_none w sz kk kk c2
    | some b => exact run_firstCells_some w sz kk b kk c2 news hl fun j u hj => (hsrc j u hj).2
  refine wl_val (v := .slice (some ⟨g, 0, none⟩) (i + kk) cp) (w' := w.setRow g (cur.toList.take (i * sz) ++ news ++ cur.toList.drop (i * sz + news.length)).toArray) ?_ (k _ ?_ ?_)
  · intro d pos aft gg
    simp only [Nat.add_zero] at hst
    simp [execOp, resolve, invoke, builtin, Builtin.append_, hx, hy, run_underlying ht.und, hsz, Builtin.lenOf, show i + kk ≤ cp by omega, hload, Addr.add_lit]
    simp at hst
    rw [hst]
    simp
  · have hlen := ho.1
    refine ⟨by simp only [List.length_append, List.length_take, List.length_drop, hl, hlen]; omega, .inr ⟨g, cp, _, rfl, hg, setRow_heap w g cur _ e _ hh, by omega, hc2, ?_, ?_⟩⟩
    · simp only [List.size_toArray, List.length_append, List.length_take, List.length_drop, hl, Array.length_toList, hc3]; omega
    · have hcl : cur.toList.length = cp * sz := by rw [Array.length_toList, hc3]
      rw [← hc4, List.take_take, Nat.min_eq_left (by omega), hl, List.drop_take, List.append_assoc, List.append_assoc]
      show ((cur.toList.take (i * sz) ++ (news ++ cur.toList.drop (i * sz + kk * sz))).take (m * sz)) = _
      rw [List.take_append, List.take_append, List.length_take, hcl, Nat.min_eq_left (by omega), hl, List.take_of_length_le (by rw [List.length_take]; omega), List.take_of_length_le (l := news) (by omega)]
      congr 3
      omega
  · simpa [blk] using (Wrt.mk' w g _).grown
theorem appIn {α : Type} [F : Flat α] {t e : TypeId} {sz by_ : Nat} {A B : Option Addr} {cp i j kk c2 : Nat} {L : List α} [TSl P t e sz by_] (hsz : sz = F.sz) (hm : addOK md = true) (hx : ev n f x = .slice A i cp) (hy : ev n f y = .slice B kk c2) (hs : Split H (orow e A cp L) R)
    (hB : ∀ w, Wd w0 H w → Rd w B (L.drop j)) (hkk : kk = L.length - j) (hij : i ≤ j) (hj : j ≤ L.length) (hne : 0 < L.length)
    (hk : keeps md (orow e A cp (L.take i ++ L.drop j ++ L.drop (i + kk)) :: R)) (k : SH (nx md) P n ops Q rest (upd f d (.slice A (i + kk) cp)) w0 (orow e A cp (L.take i ++ L.drop j ++ L.drop (i + kk)) :: R)) :
    SH md P n ops Q (⟨some d, .call { callee := .builtin .append, args := #[x, y], argTypes := #[t, t] }, ty, pos, aft, none⟩ :: rest) f w0 H := by
  subst hsz
  have hlen : (L.take i ++ L.drop j ++ L.drop (i + kk)).length = L.length := by
    simp only [List.length_append, List.length_take, List.length_drop]; omega
  refine s_mut hm fun w hw => wl_appIn F.pos (hw.own hs) (hB w hw) hx hy (by rw [encs_len, List.length_drop, hkk]) (encs_one _) (by omega) (by omega) fun w1 ho1 hg => wl_nil ⟨rfl, _, hk, k, hw.row hs hg ?_ (fun k hk => .inl hk)⟩
  rw [encs_take, ← Nat.add_mul, encs_drop, ← encs_append, ← encs_append] at ho1
  rw [hlen]; exact ho1
end

section
variable {w w0 : World} {H R : List HP} {e : TypeId} {sz : Nat} {A : Option Addr} {m cp : Nat} {cs vs : List Value}
theorem Src.drop (h : Src w A cs) (k : Nat) : Src w (A.map (·.add k)) (cs.drop k) := fun j u hj => by
  rw [List.getElem?_drop] at hj
  obtain ⟨h1, h2⟩ := h _ u hj
  rw [h1]
  refine ⟨rfl, ?_⟩
  show w.cell? (((adr A).add k).add j) = _
  rw [add_add]; exact h2
theorem Src.take (h : Src w A cs) (k : Nat) : Src w A (cs.take k) := fun j u hj => by
  rw [List.getElem?_take] at hj
  split at hj
  · exact h j u hj
  · cases hj
end
section
variable {P : Program} {n : Nat} {f : Fr} {w w0 : World} {ops : Array Oper} {rest : List Oper} {d : Nat} {ty : TypeId} {pos : String} {aft : Array Edge} {v : Value} {x y : Operand} {md : Md} {Q : HQ} {H R : List HP}
theorem encs_zero {α : Type} [F : Flat α] (z : Array Value) (hz : z.toList = F.enc F.dflt) : ∀ k : Nat, (Builtin.zeroCells z k).toList = encs (List.replicate k F.dflt)
  | 0 => by simp [Builtin.zeroCells, encs]
  | k + 1 => by
    have ih := encs_zero z hz k
    have hsz : z.size = F.sz := by rw [← Array.length_toList, hz, F.len]
    rw [List.replicate_succ', encs_append, ← ih]
    have he : encs [F.dflt] = z.toList := by rw [hz]; simp [encs]
    rw [he]
    refine List.ext_getElem? fun i => ?_
    have hp : 0 < z.size := by rw [hsz]; exact F.pos
    simp only [Builtin.zeroCells, Array.toList_map, Array.toList_range, List.getElem?_map, List.getElem?_append, List.length_map, List.length_range, Nat.succ_mul]
    by_cases h1 : i < k * z.size
    · rw [if_pos h1, List.getElem?_range (by omega), List.getElem?_range h1]
    · rw [if_neg h1]
      by_cases h2 : i < k * z.size + z.size
      · rw [List.getElem?_range h2]
        have e1 : i % z.size = i - k * z.size := by
          obtain ⟨r, rfl⟩ : ∃ r, i = r + k * z.size := ⟨i - k * z.size, by omega⟩
          rw [Nat.add_mul_mod_self_right, Nat.mod_eq_of_lt (by omega)]; omega
        simp only [Option.map_some, e1]
        rw [getElem!_pos z _ (by omega), List.getElem?_eq_getElem (by rw [Array.length_toList]; omega)]
        simp
      · rw [List.getElem?_eq_none (by rw [List.length_range]; omega), List.getElem?_eq_none (by rw [Array.length_toList]; omega)]; rfl
theorem bcp {t e : TypeId} {sz by_ : Nat} {A : Option Addr} {m cp : Nat} [ht : TSl P t e sz by_] (hx : ev n f x = .slice A m cp) (k : SH (nx md) P n ops Q rest (upd f d (.int .i64 cp)) w0 H) : SH md P n ops Q (⟨some d, .call { callee := .builtin .cap, args := #[x], argTypes := #[t] }, ty, pos, aft, none⟩ :: rest) f w0 H := s_val (fun w _ => by
  intro d pos aft g
  simp [execOp, resolve, invoke, builtin, hx, Builtin.cap_, goInt, run_underlying ht.und]) k
end
end Go.Fw

