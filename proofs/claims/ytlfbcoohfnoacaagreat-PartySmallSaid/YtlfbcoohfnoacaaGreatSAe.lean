/- Package party: drop, leave. -/
import Derived.Test.YtlfbcoohfnoacaaGreatSAa
import Derived.Test.YtlfbcoohfnoacaaGreatSAb
import Derived.Test.YtlfbcoohfnoacaaGreatSAc
import Derived.Test.YtlfbcoohfnoacaaGreatSAd
set_option linter.unusedSimpArgs false
set_option linter.unusedVariables false
/- marcheskit: SameInts, CopyInts, Pick (chapter 36). -/
namespace Go.Proofs.YtlfbcoohfnoacaaGreat
open Go.Fw Go.RowKit
set_option maxRecDepth 100000 in
theorem sameInts_spec (A B : Option Addr) (l m : List Int) (c1 c2 : Nat) (w : World) (hl : l.length ≤ 1000000) (hl2 : m.length ≤ 1000000) (hA : Rd w A l) (hB : Rd w B m) :
    Ret Tryz.prog 21 [.slice A l.length c1, .slice B m.length c2].toArray w (Out w (.bool (decide (l = m)))) := by
  refine enterH Tryz.func21 rfl rfl Tryz.ntmps21 rfl (Wd.refl _) ?_
  (repeat' (first | (show VH _ _ _ _ _ _ _; first | refine v_seq ?_ | refine r_seq ?_ | refine v_block ?_ | refine v_ret ?_ | refine v_skip ?_ | refine v_cond_dec rfl (fun h => ?_) (fun h => ?_)) | (show SH _ _ _ _ _ (_ :: _) _ _ _; first | (show SH _ _ _ _ _ (⟨_, .move _, _, _, _, _⟩ :: _) _ _ _; refine mov evL ?_) | (show SH _ _ _ _ _ (⟨_, .assign _, _, _, _, _⟩ :: _) _ _ _; refine asg evL ?_) | refine neq rfl rfl ?_ | refine slen rfl ?_) | refine s_nil ?_ | refine kh_normal ?_ | refine kh_ret ?_))
  · exact rh1 rfl rfl ⟨congrArg Value.bool (by rw [decide_eq_false]; intro e; rw [e] at h; omega), rfl⟩ (ent_nil _)
  · have hlm : l.length = m.length := by omega
    refine v_loop0 [(4,5),(11,25)] (fun k : Nat => [(5, .int .i64 k)]) (fun k => k ≤ l.length ∧ l.take k = m.take k) (fun k => l.length - k) 0 hsL ⟨Nat.zero_le _, rfl⟩ ?_
    rintro k g ⟨hk, hv⟩
    simp only [sets]
    (repeat' (first | (show VH _ _ _ _ _ _ _; first | refine v_seq ?_ | refine r_seq ?_ | refine r_quiet hmix (by kernel_rfl) ?_ | refine v_block ?_ | refine v_ret ?_ | refine v_skip ?_ | refine v_exit ?_ | refine v_cond_dec rfl (fun h => ?_) (fun h => ?_)) | (show SH _ _ _ _ _ (_ :: _) _ _ _; first | (show SH _ _ _ _ _ (⟨_, .move _, _, _, _, _⟩ :: _) _ _ _; refine mov evL ?_) | (show SH _ _ _ _ _ (⟨_, .assign _, _, _, _, _⟩ :: _) _ _ _; refine asg evL ?_) | refine lss rfl rfl ?_ | refine neq rfl rfl ?_ | (show SH _ _ _ _ _ (⟨_, .binOp .add _ _ _ _, _, _, _, _⟩ :: _) _ _ _; refine add rfl rfl inL ?_) | (show SH _ _ _ _ _ (⟨_, .load _ _, _, _, _, _⟩ :: _) _ _ _; refine lin rfl (fun _ _ => rdP) omL ?_) | (show SH _ _ _ _ _ (⟨_, .indexAddr _ _ _, _, _, _, _⟩ :: _) _ _ _; refine ix rfl rfl (by with_reducible rfl) (fun _ _ => rdP) (by rfl) omL omL ?_) | refine slen rfl ?_) | refine s_nil ?_ | refine kh_normal ?_ | refine kh_ret ?_ | refine kh_exit ?_ | refine bh_normal ?_ | refine bh_ret ?_ | refine bh_exit ?_))
    · exact rh1 rfl rfl ⟨congrArg Value.bool (by rw [decide_eq_false]; intro e; rw [e] at h; exact h rfl), rfl⟩ (ent_nil _)
    · have e : l.getD k 0 = m.getD k 0 := Classical.byContradiction h
      exact ⟨agL, k + 1, hsL, enL, ⟨by omega, by rw [takeI (by omega), takeI (by omega), hv, e]⟩, by omega⟩
    · have e : k = l.length := by omega
      subst e
      rw [List.take_length, hlm, List.take_length] at hv
      exact rh1 rfl rfl ⟨congrArg Value.bool (by rw [decide_eq_true hv]), rfl⟩ (ent_nil _)
set_option maxRecDepth 100000 in
theorem copyInts_spec (A : Option Addr) (l : List Int) (cp : Nat) (w : World) (hl : l.length ≤ 1000000) (hr : Rd w A l) :
    Ret Tryz.prog 62 [.slice A l.length cp].toArray w (RP w (Fresh 3 l)) := by
  refine enterH Tryz.func62 rfl rfl Tryz.ntmps62 rfl (Wd.refl _) ?_
  refine VH.ent (G := [orow 3 none 0 ([] : List Int)]) ?_ (ent_nilrow (ent_nil _))
  (repeat' (first | (show VH _ _ _ _ _ _ _; first | refine v_seq ?_ | refine r_seq ?_) | (show SH _ _ _ _ _ (_ :: _) _ _ _; first | (show SH _ _ _ _ _ (⟨_, .move _, _, _, _, _⟩ :: _) _ _ _; refine mov evL ?_) | (show SH _ _ _ _ _ (⟨_, .assign _, _, _, _, _⟩ :: _) _ _ _; refine asg evL ?_)) | refine s_nil ?_ | refine kh_normal ?_))
  refine app (l := ([] : List Int)) rfl rfl rfl spL (fun _ _ => rdP) rfl rfl rfl (by simp; omega) (by simp; omega) (fun A' cp' => ⟨trivial, ?_⟩)
  (repeat' (first | refine v_ret ?_ | (show SH _ _ _ _ _ (_ :: _) _ _ _; (show SH _ _ _ _ _ (⟨_, .assign _, _, _, _, _⟩ :: _) _ _ _; refine asg evL ?_)) | refine s_nil ?_ | refine kh_normal ?_))
  exact rh1 rfl rfl ⟨A', cp', rfl, rfl⟩ enL
section
variable {md : Md} {P : Program} {n : Nat} {Q : HQ} {f : Fr} {w0 : World} {H R : List HP} {ops : Array Oper} {rest : List Oper} {d : Nat} {op : Op} {ty : TypeId} {pos : String} {aft : Array Edge} {v : Value} {x y : Operand}
theorem remT {a b : Int} {t1 t2 : TypeId} (hx : ev n f x = .int .i64 a) (hy : ev n f y = .int .i64 b) (hb : b ≠ 0) (k : SH (nx md) P n ops Q rest (upd f d (.int .i64 (a.tmod b))) w0 H) : SH md P n ops Q (⟨some d, .binOp .rem t1 x y t2, ty, pos, aft, none⟩ :: rest) f w0 H :=
  s_val (fun w _ => ox_rem hx hy hb) k
end
theorem pick_eq {n k : Int} (hk : 0 < k) : (n.tmod k < 0 → n.tmod k + k = n % k) ∧ (¬ n.tmod k < 0 → n.tmod k = n % k) ∧ -k < n.tmod k ∧ n.tmod k < k := by
  have h1 := Int.emod_nonneg n (show k ≠ 0 by omega)
  have h2 := Int.emod_lt_of_pos n hk
  have h3 := Int.tmod_eq_emod (a := n) (b := k)
  have h4 : (k.natAbs : Int) = k := by omega
  have h5 : ¬ k ∣ n → n % k ≠ 0 := fun h e => h (Int.dvd_of_emod_eq_zero e)
  split at h3
  · omega
  · rename_i h6
    have := h5 (fun h => h6 (.inr h))
    omega
set_option maxRecDepth 100000 in
theorem pick_spec (n k : Int) (w : World) (h1 : 1 ≤ k) (h2 : k ≤ 2000000000000) : Ret Tryz.prog 38 [.int .i64 n, .int .i64 k].toArray w (Out w (.int .i64 (n % k))) := by
  obtain ⟨e1, e2, e3, e4⟩ := pick_eq (n := n) (show 0 < k by omega)
  refine enterH Tryz.func38 rfl rfl Tryz.ntmps38 rfl (Wd.refl _) ?_
  (repeat' (first | (show VH _ _ _ _ _ _ _; first | refine v_seq ?_ | refine r_seq ?_ | refine v_skip ?_ | refine v_cond_f rfl tbL ?_) | (show SH _ _ _ _ _ (_ :: _) _ _ _; first | (show SH _ _ _ _ _ (⟨_, .move _, _, _, _, _⟩ :: _) _ _ _; refine mov evL ?_) | (show SH _ _ _ _ _ (⟨_, .assign _, _, _, _, _⟩ :: _) _ _ _; refine asg evL ?_) | (show SH _ _ _ _ _ (⟨_, .binOp .lss _ _ _ _, _, _, _, _⟩ :: _) _ _ _; refine lssF rfl rfl omD ?_)) | refine s_nil ?_ | refine kh_normal ?_))
  refine remT rfl rfl (by omega) ?_
  generalize n.tmod k = r at e1 e2 e3 e4 ⊢
  (repeat' (first | (show VH _ _ _ _ _ _ _; first | refine v_seq ?_ | refine r_seq ?_ | refine v_ret ?_ | refine v_skip ?_ | refine v_cond_dec rfl (fun h => ?_) (fun h => ?_)) | (show SH _ _ _ _ _ (_ :: _) _ _ _; first | (show SH _ _ _ _ _ (⟨_, .move _, _, _, _, _⟩ :: _) _ _ _; refine mov evL ?_) | (show SH _ _ _ _ _ (⟨_, .assign _, _, _, _, _⟩ :: _) _ _ _; refine asg evL ?_) | refine lss rfl rfl ?_ | (show SH _ _ _ _ _ (⟨_, .binOp .add _ _ _ _, _, _, _, _⟩ :: _) _ _ _; refine add rfl rfl inL ?_)) | refine s_nil ?_ | refine kh_normal ?_))
  · exact rh1 rfl rfl ⟨congrArg (Value.int .i64) (e1 (by omega)), rfl⟩ (ent_nil _)
  · exact rh1 rfl rfl ⟨congrArg (Value.int .i64) (e2 (by omega)), rfl⟩ (ent_nil _)
end Go.Proofs.YtlfbcoohfnoacaaGreat

/- marcheslaw36: small, find, sameParty, Same.  -/
namespace Go.Proofs.YtlfbcoohfnoacaaGreat
open Go.Fw Go.RowKit
/-- A hall that is examined. -/
def SmallP (L : List PtyP) : Prop := L.length ≤ 40 ∧ ∀ x ∈ L, x.p.mem.length ≤ 10 ∧ x.p.inv.length ≤ 10
instance (L : List PtyP) : Decidable (SmallP L) := inferInstanceAs (Decidable (_ ∧ _))
theorem SmallP.sz {L : List PtyP} (h : SmallP L) : SzP L := ⟨by have := h.1; omega, fun x hx => by have := (h.2 x hx).1; omega, fun x hx => by have := (h.2 x hx).2; omega⟩
set_option maxHeartbeats 1000000 in
set_option maxRecDepth 100000 in
theorem sameParty_spec (x y : PtyP) (w : World) (h1 : x.p.mem.length ≤ 1000000) (h2 : x.p.inv.length ≤ 1000000) (h3 : y.p.mem.length ≤ 1000000) (h4 : y.p.inv.length ≤ 1000000) (hxm : Rd w x.A x.p.mem) (hxv : Rd w x.B x.p.inv) (hym : Rd w y.A y.p.mem) (hyv : Rd w y.B y.p.inv) :
    Ret Tryz.prog 35 [.agg (Flat.enc x).toArray, .agg (Flat.enc y).toArray].toArray w (Out w (.bool (decide (x.p = y.p)))) := by
  obtain ⟨⟨xi, xl, xm, xv⟩, xA, xca, xB, xcb⟩ := x
  obtain ⟨⟨yi, yl, ym, yv⟩, yA, yca, yB, ycb⟩ := y
  simp only at *
  rw [show Flat.enc (⟨⟨xi, xl, xm, xv⟩, xA, xca, xB, xcb⟩ : PtyP) = [.int .i64 xi, .int .i64 xl, .slice xA xm.length xca, .slice xB xv.length xcb] from rfl, show Flat.enc (⟨⟨yi, yl, ym, yv⟩, yA, yca, yB, ycb⟩ : PtyP) = [.int .i64 yi, .int .i64 yl, .slice yA ym.length yca, .slice yB yv.length ycb] from rfl]
  have hsm := fun w a b => sameInts_spec xA yA xm ym xca yca w h1 h3 a b
  by_cases hc : xi = yi ∧ xl = yl ∧ xm = ym ∧ xv.length = yv.length
  · obtain ⟨d1_, d2_, d3_, d4_⟩ := hc
    have hgo : decide ((⟨xi, xl, xm, xv⟩ : Pty) = ⟨yi, yl, ym, yv⟩) = decide (xv = yv) := decide_eq_decide.2 ⟨fun h => by injection h, fun h => by rw [d1_, d2_, d3_, h]⟩
    rw [hgo]
    simp only [decide_eq_true d3_] at hsm
    refine enterH Tryz.func35 rfl rfl Tryz.ntmps35 rfl (Wd.refl _) ?_
    (repeat' (first | (show VH _ _ _ _ _ _ _; first | refine v_seq ?_ | refine r_seq ?_ | refine v_block ?_ | refine v_skip ?_ | refine v_cond_f rfl tbL ?_) | (show SH _ _ _ _ _ (_ :: _) _ _ _; first | (show SH _ _ _ _ _ (⟨_, _, _, _, _, some _⟩ :: _) _ _ _; (refine gif rfl rfl ?_; refine giFF tbL ?_)) | (show SH _ _ _ _ _ (⟨_, .move _, _, _, _, _⟩ :: _) _ _ _; refine mov evL ?_) | (show SH _ _ _ _ _ (⟨_, .assign _, _, _, _, _⟩ :: _) _ _ _; refine asg evL ?_) | (show SH _ _ _ _ _ (⟨_, .binOp .neq _ _ _ _, _, _, _, _⟩ :: _) _ _ _; refine neqF rfl rfl omD ?_) | (show SH _ _ _ _ _ (⟨_, .load _ _, _, _, _, _⟩ :: _) _ _ _; refine lbx rfl spL (by rfl) ?_) | refine slen rfl ?_ | (show SH _ _ _ _ _ (⟨_, .call ⟨.value (.func 21), _, _⟩, _, _, _, _⟩ :: _) _ _ _; refine cl (callee := .func 21) rfl (fun w hw => hsm w (hxm.ext hw.ext) (hym.ext hw.ext)) rfl rfl ?_) | refine bnoT rfl ?_ | (show SH _ _ _ _ _ (⟨_, .pick _ _ _, _, _, _, _⟩ :: _) _ _ _; refine pkf rfl tbL evL ?_) | refine fad rfl ?_ | (show SH _ _ _ _ _ (⟨_, .box _ _, _, _, _, _⟩ :: _) _ _ _; refine bxx rfl evL rfl (fun b => ?_))) | refine s_nil ?_ | refine kh_normal ?_))
    rename_i b2
    revert b
    intro b3
    clear hsm hgo
    refine v_norm [(2,_),(3,_),(5,_)] heL (fun g => ?_)
    refine v_loop0 [(4,5),(35,52)] (fun k : Nat => [(5, .int .i64 k)]) (fun k => k ≤ xv.length ∧ xv.take k = yv.take k) (fun k => xv.length - k) 0 hsL ⟨Nat.zero_le _, rfl⟩ ?_
    rintro k g ⟨hk, hok⟩
    simp only [sets]
    by_cases hkl : k < xv.length
    · by_cases he : xv.getD k Flat.dflt = yv.getD k Flat.dflt
      · have hok' : xv.take (k + 1) = yv.take (k + 1) := by rw [take_snoc (d := Flat.dflt) hkl, take_snoc (d := Flat.dflt) (show k < yv.length by omega), hok, he]
        clear hok
        (repeat' (first | (show VH _ _ _ _ _ _ _; first | refine v_seq ?_ | refine r_seq ?_ | refine r_quiet hmix (by kernel_rfl) ?_ | refine v_block ?_ | refine v_skip ?_ | refine v_cond_t rfl tbL ?_) | (show SH _ _ _ _ _ (_ :: _) _ _ _; first | (show SH _ _ _ _ _ (⟨_, .move _, _, _, _, _⟩ :: _) _ _ _; refine mov evL ?_) | (show SH _ _ _ _ _ (⟨_, .binOp .lss _ _ _ _, _, _, _, _⟩ :: _) _ _ _; refine lssT rfl rfl omD ?_) | (show SH _ _ _ _ _ (⟨_, .load _ _, _, _, _, _⟩ :: _) _ _ _; first | refine lbx rfl spL (by rfl) ?_ | refine lra rfl (fun _ _ => rdP) (by rfl) omL ?_ | refine lra rfl (fun _ _ => rdP) (by rfl) (by simp only [List.length_cons, List.length_nil]; omega) ?_) | (show SH _ _ _ _ _ (⟨_, .indexAddr _ _ _, _, _, _, _⟩ :: _) _ _ _; refine ix rfl rfl (by with_reducible rfl) (fun _ _ => rdP) (by rfl) omL omL ?_) | refine slen rfl ?_ | refine fad rfl ?_) | refine s_nil ?_ | refine kh_normal ?_))
        refine nea (xv.getD k Flat.dflt) (yv.getD k Flat.dflt) rfl rfl ?_
        rw [decide_eq_true he]
        (repeat' (first | (show VH _ _ _ _ _ _ _; first | refine r_seq ?_ | refine v_skip ?_ | refine v_cond_f rfl tbL ?_) | (show SH _ _ _ _ _ (_ :: _) _ _ _; first | (show SH _ _ _ _ _ (⟨_, .move _, _, _, _, _⟩ :: _) _ _ _; refine mov evL ?_) | (show SH _ _ _ _ _ (⟨_, .assign _, _, _, _, _⟩ :: _) _ _ _; refine asg evL ?_) | (show SH _ _ _ _ _ (⟨_, .binOp .add _ _ _ _, _, _, _, _⟩ :: _) _ _ _; refine add rfl rfl inL ?_)) | refine s_nil ?_ | refine kh_normal ?_ | refine bh_normal ?_))
        exact ⟨agL, k + 1, hsL, enL, ⟨hkl, hok'⟩, by omega⟩
      · have hne : ¬ xv = yv := fun e => he (by rw [e])
        rw [decide_eq_false hne]
        clear hok hne
        (repeat' (first | (show VH _ _ _ _ _ _ _; first | refine v_seq ?_ | refine r_seq ?_ | refine r_quiet hmix (by kernel_rfl) ?_ | refine v_block ?_ | refine v_skip ?_ | refine v_cond_t rfl tbL ?_) | (show SH _ _ _ _ _ (_ :: _) _ _ _; first | (show SH _ _ _ _ _ (⟨_, .move _, _, _, _, _⟩ :: _) _ _ _; refine mov evL ?_) | (show SH _ _ _ _ _ (⟨_, .binOp .lss _ _ _ _, _, _, _, _⟩ :: _) _ _ _; refine lssT rfl rfl omD ?_) | (show SH _ _ _ _ _ (⟨_, .load _ _, _, _, _, _⟩ :: _) _ _ _; first | refine lbx rfl spL (by rfl) ?_ | refine lra rfl (fun _ _ => rdP) (by rfl) omL ?_ | refine lra rfl (fun _ _ => rdP) (by rfl) (by simp only [List.length_cons, List.length_nil]; omega) ?_) | (show SH _ _ _ _ _ (⟨_, .indexAddr _ _ _, _, _, _, _⟩ :: _) _ _ _; refine ix rfl rfl (by with_reducible rfl) (fun _ _ => rdP) (by rfl) omL omL ?_) | refine slen rfl ?_ | refine fad rfl ?_) | refine s_nil ?_ | refine kh_normal ?_))
        refine nea (xv.getD k Flat.dflt) (yv.getD k Flat.dflt) rfl rfl ?_
        rw [decide_eq_false he]
        (repeat' (first | (show VH _ _ _ _ _ _ _; first | refine v_seq ?_ | refine r_seq ?_ | refine v_ret ?_ | refine v_cond_t rfl tbL ?_) | (show SH _ _ _ _ _ (_ :: _) _ _ _; (show SH _ _ _ _ _ (⟨_, .assign _, _, _, _, _⟩ :: _) _ _ _; refine asg evL ?_)) | refine s_nil ?_ | refine kh_normal ?_ | refine kh_ret ?_ | refine bh_ret ?_))
        exact rh1 rfl rfl ⟨rfl, rfl⟩ (ent_nil _)
    · obtain rfl : k = xv.length := by omega
      rw [List.take_length, d4_, List.take_length] at hok
      rw [decide_eq_true hok]
      clear hok
      (repeat' (first | (show VH _ _ _ _ _ _ _; first | refine v_seq ?_ | refine r_seq ?_ | refine v_ret ?_ | refine v_exit ?_ | refine v_cond_f rfl tbL ?_) | (show SH _ _ _ _ _ (_ :: _) _ _ _; first | (show SH _ _ _ _ _ (⟨_, .move _, _, _, _, _⟩ :: _) _ _ _; refine mov evL ?_) | (show SH _ _ _ _ _ (⟨_, .assign _, _, _, _, _⟩ :: _) _ _ _; refine asg evL ?_) | (show SH _ _ _ _ _ (⟨_, .binOp .lss _ _ _ _, _, _, _, _⟩ :: _) _ _ _; refine lssF rfl rfl omD ?_) | (show SH _ _ _ _ _ (⟨_, .load _ _, _, _, _, _⟩ :: _) _ _ _; refine lbx rfl spL (by rfl) ?_) | refine slen rfl ?_ | refine fad rfl ?_) | refine s_nil ?_ | refine kh_normal ?_ | refine kh_exit ?_ | refine bh_exit ?_))
      exact rh1 rfl rfl ⟨rfl, rfl⟩ (ent_nil _)
  · have hcc : Hid _ := hc
    have hno : ¬ (⟨xi, xl, xm, xv⟩ : Pty) = ⟨yi, yl, ym, yv⟩ := fun h => hc (by injection h with a b c d; exact ⟨a, b, c, by rw [d]⟩)
    rw [decide_eq_false hno]
    clear hc hno
    refine enterH Tryz.func35 rfl rfl Tryz.ntmps35 rfl (Wd.refl _) ?_
    (repeat' (first | (show VH _ _ _ _ _ _ _; first | refine v_seq ?_ | refine r_seq ?_ | refine v_block ?_ | refine v_ret ?_ | refine v_skip ?_ | refine v_cond_t rfl tbL ?_ | refine v_cond_dec rfl (fun h => ?_) (fun h => ?_)) | (show SH _ _ _ _ _ (_ :: _) _ _ _; first | (show SH _ _ _ _ _ (⟨_, _, _, _, _, some _⟩ :: _) _ _ _; (refine gif rfl rfl ?_; first | refine giFF tbL ?_ | refine giFT tbL ?_ | refine giFd (fun h => ?_) (fun h => ?_) | refine giF (fun h => ?_) (fun h => ?_))) | (show SH _ _ _ _ _ (⟨_, .move _, _, _, _, _⟩ :: _) _ _ _; refine mov evL ?_) | (show SH _ _ _ _ _ (⟨_, .assign _, _, _, _, _⟩ :: _) _ _ _; refine asg evL ?_) | refine neq rfl rfl ?_ | (show SH _ _ _ _ _ (⟨_, .load _ _, _, _, _, _⟩ :: _) _ _ _; refine lbx rfl spL (by rfl) ?_) | refine slen rfl ?_ | (show SH _ _ _ _ _ (⟨_, .call ⟨.value (.func 21), _, _⟩, _, _, _, _⟩ :: _) _ _ _; refine cl (callee := .func 21) rfl (fun w hw => hsm w (hxm.ext hw.ext) (hym.ext hw.ext)) rfl rfl ?_) | refine bnot rfl ?_ | (show SH _ _ _ _ _ (⟨_, .pick _ _ _, _, _, _, _⟩ :: _) _ _ _; first | refine pkt rfl tbL evL ?_ | refine pkf rfl tbL evL ?_) | refine fad rfl ?_ | (show SH _ _ _ _ _ (⟨_, .box _ _, _, _, _, _⟩ :: _) _ _ _; refine bxx rfl evL rfl (fun b => ?_))) | refine s_nil ?_ | refine kh_normal ?_ | refine kh_ret ?_))
    all_goals first
      | exact rh1 rfl rfl ⟨rfl, rfl⟩ (ent_nil _)
      | exact absurd ⟨by omega, by omega, by first | assumption | exact of_decide_eq_true (nf36 (by assumption)) | exact Classical.byContradiction (by assumption), by omega⟩ hcc
end Go.Proofs.YtlfbcoohfnoacaaGreat

/- Package party: uninvite. -/
namespace Go.Proofs.YtlfbcoohfnoacaaGreat
open Go.Fw Go.RowKit
/-- A party with the invitations only of which 'is' is false. -/
def unP (is : Pty → Inv → Bool) (x : PtyP) : PtyP := { x with p := { x.p with inv := x.p.inv.filter fun i => !is x.p i } }
theorem ptys_un (is : Pty → Inv → Bool) (L : List PtyP) : ptys (L.map (unP is)) = uninvM is (ptys L) := by
  unfold ptys uninvM
  rw [List.map_map, List.map_map]; rfl
theorem rowM_un (is : Pty → Inv → Bool) (L : List PtyP) : (L.map (unP is)).map rowM = L.map rowM := by
  rw [List.map_map]; rfl
/-- A function of a party and an invitation. -/
def IsFun (w0 : World) (H : List HP) (fv : Value) (is : Pty → Inv → Bool) : Prop :=
  ∃ g fst cap, fv = .func (.func g) fst cap ∧ ∀ w', Wd w0 H w' → ∀ (x : PtyP) (i : Inv), Ret Tryz.prog g (fst.toList ++ [Value.agg (Flat.enc x).toArray, Value.agg (Flat.enc i).toArray] ++ cap.toList).toArray w' (Out w' (.bool (is x.p i)))
set_option maxRecDepth 100000 in
theorem uninv1_spec (x : PtyP) (i : Inv) (g0 : FuncId) (fst cap : Array Value) (z : Bool) (a1 a2 : Addr) (w : World) (h1 : w.cell? a1 = some (.func (.func g0) fst cap)) (h2 : Rd w (some a2) [x])
    (hp : ∀ w', Ext w w' → Ret Tryz.prog g0 (fst.toList ++ [Value.agg (Flat.enc x).toArray, Value.agg (Flat.enc i).toArray] ++ cap.toList).toArray w' (Out w' (.bool z))) :
    Ret Tryz.prog 96 [.agg (Flat.enc i).toArray, .pointer (some a1), .pointer (some a2)].toArray w (Out w (.bool z)) := by
  refine enterH Tryz.func96 rfl rfl Tryz.ntmps96 rfl (Wd.refl _) ?_
  (repeat' (first | (show VH _ _ _ _ _ _ _; first | refine v_seq ?_ | refine r_seq ?_ | refine v_ret ?_) | (show SH _ _ _ _ _ (_ :: _) _ _ _; first | (show SH _ _ _ _ _ (⟨_, .assign _, _, _, _, _⟩ :: _) _ _ _; refine asg evL ?_) | (show SH _ _ _ _ _ (⟨_, .load _ _, _, _, _, _⟩ :: _) _ _ _; first | refine lba rfl spL (by rfl) ?_ | refine lcell rfl (fun w hw => hw.ext.cell (by assumption)) ?_ | refine lca rfl (fun _ _ => rdP) (by rfl) ?_) | (show SH _ _ _ _ _ (⟨_, .call ⟨.value (.tmp _), _, _⟩, _, _, _, _⟩ :: _) _ _ _; refine cl (callee := .tmp _) rfl (fun w hw => hp _ hw.ext) rfl rfl ?_) | (show SH _ _ _ _ _ (⟨_, .box _ _, _, _, _, _⟩ :: _) _ _ _; refine bxx rfl evL rfl (fun b => ?_))) | refine s_nil ?_ | refine kh_normal ?_))
  exact rh1 rfl rfl ⟨rfl, rfl⟩ (ent_nil _)
set_option maxRecDepth 100000 in
theorem withoutIv_spec (A : Option Addr) (l : List Inv) (cp : Nat) (fv : Value) (p : Inv → Bool) (w0 : World) (H : List HP) (w : World) (hl : l.length ≤ 1000000) (hf : AsksHIv w0 H fv p) (hw : Wd w0 (orow 61 A cp l :: H) w) :
    Ret Tryz.prog 95 [.slice A l.length cp, fv].toArray w (RP w0 fun v H' => v = .slice A (l.filter fun x => !p x).length cp ∧ H' = orow 61 A cp (l.filter fun x => !p x) :: H) := by
  refine enterH Tryz.func95 rfl rfl Tryz.ntmps95 rfl (by assumption) ?_
  (repeat' (first | (show VH _ _ _ _ _ _ _; first | refine v_seq ?_ | refine r_seq ?_) | (show SH _ _ _ _ _ (_ :: _) _ _ _; first | (show SH _ _ _ _ _ (⟨_, .move _, _, _, _, _⟩ :: _) _ _ _; refine mov evL ?_) | (show SH _ _ _ _ _ (⟨_, .assign _, _, _, _, _⟩ :: _) _ _ _; refine asg evL ?_)) | refine s_nil ?_ | refine kh_normal ?_))
  refine cm rfl (fun w hw => deleteFuncIv_spec A l cp fv p w0 H w hl hf hw) rfl rfl ?_
  rintro _ _ ⟨rfl, rfl⟩
  refine ⟨trivial, ?_⟩
  (repeat' (first | refine v_ret ?_ | (show SH _ _ _ _ _ (_ :: _) _ _ _; (show SH _ _ _ _ _ (⟨_, .assign _, _, _, _, _⟩ :: _) _ _ _; refine asg evL ?_)) | refine s_nil ?_ | refine kh_normal ?_))
  exact rh1 rfl rfl ⟨rfl, rfl⟩ (ent_refl _)
set_option maxRecDepth 100000 in
theorem without_spec (A : Option Addr) (l : List Int) (cp : Nat) (fv : Value) (p : Int → Bool) (w0 : World) (H : List HP) (w : World) (hl : l.length ≤ 1000000) (hf : AsksH w0 H fv p) (hw : Wd w0 (orow 3 A cp l :: H) w) :
    Ret Tryz.prog 93 [.slice A l.length cp, fv].toArray w (RP w0 fun v H' => v = .slice A (l.filter fun x => !p x).length cp ∧ H' = orow 3 A cp (l.filter fun x => !p x) :: H) := by
  refine enterH Tryz.func93 rfl rfl Tryz.ntmps93 rfl (by assumption) ?_
  (repeat' (first | (show VH _ _ _ _ _ _ _; first | refine v_seq ?_ | refine r_seq ?_) | (show SH _ _ _ _ _ (_ :: _) _ _ _; first | (show SH _ _ _ _ _ (⟨_, .move _, _, _, _, _⟩ :: _) _ _ _; refine mov evL ?_) | (show SH _ _ _ _ _ (⟨_, .assign _, _, _, _, _⟩ :: _) _ _ _; refine asg evL ?_)) | refine s_nil ?_ | refine kh_normal ?_))
  refine cm rfl (fun w hw => deleteFunc_spec A l cp fv p w0 H w hl hf hw) rfl rfl ?_
  rintro _ _ ⟨rfl, rfl⟩
  refine ⟨trivial, ?_⟩
  (repeat' (first | refine v_ret ?_ | (show SH _ _ _ _ _ (_ :: _) _ _ _; (show SH _ _ _ _ _ (⟨_, .assign _, _, _, _, _⟩ :: _) _ _ _; refine asg evL ?_)) | refine s_nil ?_ | refine kh_normal ?_))
  exact rh1 rfl rfl ⟨rfl, rfl⟩ (ent_refl _)
/-- The hall on the way: k parties are done. -/
def unAt (is : Pty → Inv → Bool) (L : List PtyP) (k : Nat) : List PtyP := (L.take k).map (unP is) ++ L.drop k
theorem unAt_len (is : Pty → Inv → Bool) (L : List PtyP) (k : Nat) : (unAt is L k).length = L.length := by
  unfold unAt
  rw [List.length_append, List.length_map, ← List.length_append, List.take_append_drop]
theorem unAt_at {is : Pty → Inv → Bool} {L : List PtyP} {k : Nat} (hk : k < L.length) : (unAt is L k).getD k Flat.dflt = L.getD k Flat.dflt := by
  have hl : ((L.take k).map (unP is)).length = k := by rw [List.length_map, List.length_take]; omega
  unfold unAt
  rw [List.getD_eq_getElem?_getD, List.getElem?_append_right (by omega), List.getElem?_drop, hl, Nat.sub_self, Nat.add_zero, ← List.getD_eq_getElem?_getD]
theorem unAt_next {is : Pty → Inv → Bool} {L : List PtyP} {k : Nat} (hk : k < L.length) : (unAt is L k).set k (unP is (L.getD k Flat.dflt)) = unAt is L (k + 1) := by
  have hl : ((L.take k).map (unP is)).length = k := by rw [List.length_map, List.length_take]; omega
  unfold unAt
  rw [drop_cons (d := Flat.dflt) hk, List.set_append_right _ _ (by omega), hl, Nat.sub_self, List.set_cons_zero, take_snoc (d := Flat.dflt) hk, List.map_append, List.append_assoc]
  rfl
theorem unAt_all (is : Pty → Inv → Bool) (L : List PtyP) : unAt is L L.length = L.map (unP is) := by
  unfold unAt
  rw [List.take_length, List.drop_length, List.append_nil]
set_option maxHeartbeats 1000000 in
set_option maxRecDepth 100000 in
theorem uninv_spec (t la : Int) (A : Option Addr) (L : List PtyP) (c bh : Nat) (fv : Value) (is : Pty → Inv → Bool) (w0 : World) (H : List HP) (w : World) (hz : SzP L) (hf : IsFun w0 H fv is)
    (hw : Wd w0 (hb36 bh t la A L c :: orow 46 A c L :: allH (L.map rowM) :: allH (L.map rowI) :: H) w) :
    Ret Tryz.prog 55 [.pointer (some ⟨bh, 0, none⟩), fv].toArray w
      (RP w0 fun _ H' => H' = hb36 bh t la A (L.map (unP is)) c :: orow 46 A c (L.map (unP is)) :: allH ((L.map (unP is)).map rowM) :: allH ((L.map (unP is)).map rowI) :: H) := by
  have hll := hz.len
  obtain ⟨g0, fst, cap, rfl, hp⟩ := hf
  rw [rowM_un]
  unfold hb36 at hw ⊢
  rw [List.length_map]
  refine enterH Tryz.func55 rfl rfl Tryz.ntmps55 rfl (by assumption) ?_
  (repeat' (first | (show VH _ _ _ _ _ _ _; first | refine v_seq ?_ | refine r_seq ?_ | refine v_block ?_) | (show SH _ _ _ _ _ (_ :: _) _ _ _; first | (show SH _ _ _ _ _ (⟨_, .move _, _, _, _, _⟩ :: _) _ _ _; refine mov evL ?_) | (show SH _ _ _ _ _ (⟨_, .load _ _, _, _, _, _⟩ :: _) _ _ _; refine lbx rfl spL (by rfl) ?_) | refine slen rfl ?_ | refine nlc rfl ?_ | refine fad rfl ?_ | (show SH _ _ _ _ _ (⟨_, .box _ _, _, _, _, _⟩ :: _) _ _ _; refine bxx rfl evL rfl (fun b => ?_))) | refine s_nil ?_ | refine kh_normal ?_))
  revert b
  intro b3
  refine v_norm [(0,_),(3,_),(9,_),(10,_),(11,_)] heL (fun g => ?_)
  refine v_loop [(4,5),(11,27)] (fun k : Nat => [(11, .int .i64 k)]) (fun k => [bx bh 24 [.int .i64 t, .int .i64 la, .slice A L.length c], orow 46 A c (unAt is L k), allH (L.map rowM), allH ((unAt is L k).map rowI), bx b3 92 [.func (.func g0) fst cap]] ++ H) (fun k => k ≤ L.length) (fun k => L.length - k) 0 hsL enL (Nat.zero_le _) ?_
  rintro k g hk
  simp only [sets, List.cons_append, List.nil_append]
  have hDl := unAt_len is L k
  by_cases hkl : k < L.length
  · have hn := unAt_next (is := is) hkl
    have hxg := unAt_at (is := is) hkl
    have hil := hz.ati hkl
    obtain ⟨x, hx⟩ : ∃ x, L.getD k Flat.dflt = x := ⟨_, rfl⟩
    rw [hx] at hn hxg hil
    have hxE := pty_enc hxg
    clear hx hz
    have hop : ∀ G, Ent (allH ((unAt is L k).map rowI) :: G) (rowI x :: allH (((unAt is L k).eraseIdx k).map rowI) :: G) := fun G => by
      have := ent_all_open (f := rowI) (L := unAt is L k) (k := k) (d := Flat.dflt) (G := G) (by omega)
      rw [hxg] at this
      exact this
    have hcl : ∀ G, Ent (rowI (unP is x) :: allH (((unAt is L k).eraseIdx k).map rowI) :: G) (allH (((unAt is L k).set k (unP is x)).map rowI) :: G) := fun G => ent_all_close (by omega)
    generalize unAt is L k = D at hDl hxE hop hcl hn ⊢
    have hp' := fun w' h => hp w' h x
    clear hxg hp
    unfold unP at hcl hn
    unfold rowI at hop hcl
    obtain ⟨⟨xi, xl, xm, xv⟩, xA, xca, xB, xcb⟩ := x
    simp only at hil hxE hop hcl hn
    (repeat' (first | (show VH _ _ _ _ _ _ _; first | refine v_seq ?_ | refine r_seq ?_ | refine v_block ?_ | refine v_skip ?_ | refine v_cond_t rfl tbL ?_) | (show SH _ _ _ _ _ (_ :: _) _ _ _; first | (show SH _ _ _ _ _ (⟨_, .move _, _, _, _, _⟩ :: _) _ _ _; refine mov evL ?_) | (show SH _ _ _ _ _ (⟨_, .assign _, _, _, _, _⟩ :: _) _ _ _; refine asg evL ?_) | (show SH _ _ _ _ _ (⟨_, .binOp .lss _ _ _ _, _, _, _, _⟩ :: _) _ _ _; refine lssT rfl rfl omD ?_) | (show SH _ _ _ _ _ (⟨_, .load _ _, _, _, _, _⟩ :: _) _ _ _; refine lag rfl (fun _ _ => rdP) (by rfl) omL (by assumption) ?_) | (show SH _ _ _ _ _ (⟨_, .indexAddr _ _ _, _, _, _, _⟩ :: _) _ _ _; refine ix rfl rfl (by with_reducible rfl) (fun _ _ => rdP) (by rfl) omL omL ?_) | refine ala rfl (fun b => ?_) | (show SH _ _ _ _ _ (⟨_, .store _ _ _, _, _, _, _⟩ :: _) _ _ _; refine sta rfl rfl rfl spL (by rfl) (by rfl) (by rfl) kpL ?_)) | refine s_nil ?_ | refine kh_normal ?_))
    revert b
    intro b5
    refine VH.ent (G := bx bh 24 [.int .i64 t, .int .i64 la, .slice A L.length c] :: bx b5 46 [.int .i64 xi, .int .i64 xl, .slice xA xm.length xca, .slice xB xv.length xcb] :: orow 61 xB xcb xv :: allH ((D.eraseIdx k).map rowI) :: bx b3 92 [.func (.func g0) fst cap] :: orow 46 A c D :: allH (L.map rowM) :: H) ?_ ?_
    · refine r_heldT [bx bh 24 _, bx b5 46 _] (tr [(0, true), (1, true), (2, true), (3, true), (4, true), (5, true), (6, true), (7, false), (8, false), (9, false), (10, false), (11, false)] .nil) hmix (by kernel_rfl) enL ?_
      (repeat' ((show SH _ _ _ _ _ (_ :: _) _ _ _; first | (show SH _ _ _ _ _ (⟨_, .move _, _, _, _, _⟩ :: _) _ _ _; refine mov evL ?_) | (show SH _ _ _ _ _ (⟨_, .load _ _, _, _, _, _⟩ :: _) _ _ _; refine lbx rfl spL (by rfl) ?_) | refine nlc rfl ?_ | refine fad rfl ?_ | (show SH _ _ _ _ _ (⟨_, .makeFunc _ _ _, _, _, _, _⟩ :: _) _ _ _; refine mf2 evL evL ?_))))
      refine cm rfl (fun w hw => withoutIv_spec xB xv xcb _ (fun i => is ⟨xi, xl, xm, xv⟩ i) _ (bx bh 24 [.int .i64 t, .int .i64 la, .slice A L.length c] :: bx b5 46 [.int .i64 xi, .int .i64 xl, .slice xA xm.length xca, .slice xB xv.length xcb] :: allH ((D.eraseIdx k).map rowI) :: bx b3 92 [.func (.func g0) fst cap] :: orow 46 A c D :: allH (L.map rowM) :: H) w (by omega) ⟨96, #[], #[.pointer (some ⟨b3, 0, none⟩), .pointer (some ⟨b5, 0, none⟩)], rfl, fun w' hw' i _ => uninv1_spec ⟨⟨xi, xl, xm, xv⟩, xA, xca, xB, xcb⟩ i g0 fst cap _ _ _ w' (hw'.cell (cs := [.func (.func g0) fst cap]) spL rfl) (rd_box hw' (u := (⟨⟨xi, xl, xm, xv⟩, xA, xca, xB, xcb⟩ : PtyP)) spL rfl) (fun w2 he => hp' w2 ((Ent.wd enL hw').step he) i)⟩ (Ent.wd enL hw)) rfl rfl ?_
      rintro _ _ ⟨rfl, rfl⟩
      refine ⟨enL, ?_⟩
      (repeat' ((show SH _ _ _ _ _ (_ :: _) _ _ _; first | (show SH _ _ _ _ _ (⟨_, .indexAddr _ _ _, _, _, _, _⟩ :: _) _ _ _; refine ix rfl rfl (by with_reducible rfl) (fun _ _ => rdP) (by rfl) omL omL ?_) | refine fad rfl ?_)))
      refine stf (⟨⟨xi, xl, xm, xv.filter fun i => !is ⟨xi, xl, xm, xv⟩ i⟩, xA, xca, xB, xcb⟩ : PtyP) rfl rfl rfl spL rfl (by omega) rfl rfl (by decide) (by rw [hxE]; rfl) enL ?_
      rw [hn]
      (repeat' (first | refine r_seq ?_ | (show SH _ _ _ _ _ (_ :: _) _ _ _; first | (show SH _ _ _ _ _ (⟨_, .move _, _, _, _, _⟩ :: _) _ _ _; refine mov evL ?_) | (show SH _ _ _ _ _ (⟨_, .binOp .add _ _ _ _, _, _, _, _⟩ :: _) _ _ _; refine add rfl rfl inL ?_)) | refine s_nil ?_ | refine kh_normal ?_ | refine bh_normal ?_))
      refine ⟨agL, k + 1, hsL, ?_, hkl, by show L.length - (k + 1) < L.length - k; omega⟩
      rw [← hn]
      exact Ent.trans (B := orow 61 xB xcb (xv.filter fun i => !is ⟨xi, xl, xm, xv⟩ i) :: allH ((D.eraseIdx k).map rowI) :: bx bh 24 [.int .i64 t, .int .i64 la, .slice A L.length c] :: orow 46 A c (D.set k ⟨⟨xi, xl, xm, xv.filter fun i => !is ⟨xi, xl, xm, xv⟩ i⟩, xA, xca, xB, xcb⟩) :: allH (L.map rowM) :: bx b3 92 [.func (.func g0) fst cap] :: H) enL ((hcl _).trans enL)
    · exact (show Ent _ (allH (D.map rowI) :: bx b5 46 [.int .i64 xi, .int .i64 xl, .slice xA xm.length xca, .slice xB xv.length xcb] :: bx bh 24 [.int .i64 t, .int .i64 la, .slice A L.length c] :: orow 46 A c D :: allH (L.map rowM) :: bx b3 92 [.func (.func g0) fst cap] :: H) from enL).trans ((hop _).trans enL)
  · have hkE : k = L.length := by omega
    subst hkE
    rw [unAt_all]
    (repeat' (first | (show VH _ _ _ _ _ _ _; first | refine v_seq ?_ | refine r_seq ?_ | refine v_exit ?_ | refine v_cond_f rfl tbL ?_) | (show SH _ _ _ _ _ (_ :: _) _ _ _; (show SH _ _ _ _ _ (⟨_, .binOp .lss _ _ _ _, _, _, _, _⟩ :: _) _ _ _; refine lssF rfl rfl omD ?_)) | refine s_nil ?_ | refine kh_normal ?_ | refine kh_exit ?_ | refine bh_exit ?_))
    exact rh0n rfl rfl enL
end Go.Proofs.YtlfbcoohfnoacaaGreat

/- Package party: change, lead. -/
namespace Go.Proofs.YtlfbcoohfnoacaaGreat
open Go.Fw Go.RowKit
theorem szP_of {L M : List PtyP} (h : ptys M = ptys L) (hz : SzP L) : SzP M := by
  have key : ∀ {x : PtyP}, x ∈ M → ∃ y ∈ L, y.p = x.p := fun hx => by
    have : _ ∈ ptys M := List.mem_map_of_mem (f := PtyP.p) hx
    rw [h] at this
    exact List.mem_map.1 this
  refine ⟨?_, fun x hx => ?_, fun x hx => ?_⟩
  · have := congrArg List.length h
    rw [ptys_len, ptys_len] at this
    have := hz.len; omega
  · obtain ⟨y, hy, e⟩ := key hx; rw [← e]; exact hz.mem y hy
  · obtain ⟨y, hy, e⟩ := key hx; rw [← e]; exact hz.inv y hy
/-- A hall of one's own: its block, the rows of its parties, of their members and of their invitations. -/
abbrev hallH (bh : Nat) (t la : Int) (A : Option Addr) (c : Nat) (L : List PtyP) (H : List HP) : List HP := hb36 bh t la A L c :: orow 46 A c L :: allH (L.map rowM) :: allH (L.map rowI) :: H
/-- What a change does. -/
def ActR (r : ResP) (bh : Nat) (H : List HP) (v : Value) (H' : List HP) : Prop := v = .int .i64 r.2 ∧ if r.2 = 0 then ∃ A c L, ptys L = r.1.ps ∧ H' = hallH bh r.1.tick r.1.last A c L H else H' = H
/-- A change, which is made at a hall of its own. -/
def Acts (w : World) (t la : Int) (L0 : List PtyP) (g : FuncId) (fst cap : Array Value) (r : ResP) : Prop :=
  ∀ w' bh A c L H, SzP L → ptys L = ptys L0 → Wd w (hallH bh t la A c L H) w' → Ret Tryz.prog g (fst.toList ++ [Value.pointer (some ⟨bh, 0, none⟩)] ++ cap.toList).toArray w' (RP w (ActR r bh H))
theorem acts_of {w : World} {t la : Int} {L0 : List PtyP} {g : FuncId} {cap : List Value} {r : ResP} (h : ∀ w' bh A c L H, SzP L → ptys L = ptys L0 → Wd w (hallH bh t la A c L H) w' → Ret Tryz.prog g (Value.pointer (some ⟨bh, 0, none⟩) :: cap).toArray w' (RP w (ActR r bh H))) : Acts w t la L0 g #[] cap.toArray r := by
  intro w' bh A c L H hz hp hw
  have := h w' bh A c L H hz hp hw
  simpa using this
/-- A hall that comes out, and an error. -/
def OutH (r : ResP) (v : Value) (H' : List HP) : Prop := ∃ A c L, ptys L = r.1.ps ∧ v = .tuple #[hv36 r.1.tick r.1.last A L c, .int .i64 r.2] ∧ H' = ownR36 A c L
theorem ent_own0 {G : List HP} : Ent G (orow 46 none 0 ([] : List PtyP) :: allH (([] : List PtyP).map rowM) :: allH (([] : List PtyP).map rowI) :: []) := ent_nilrow (ent_all_nil (ent_all_nil (ent_nil _)))
set_option maxHeartbeats 1000000 in
set_option maxRecDepth 100000 in
theorem change_spec (t la : Int) (A : Option Addr) (L : List PtyP) (c : Nat) (g0 : FuncId) (fst cap : Array Value) (r : ResP) (w : World) (hz : SzP L) (hr : RdP w A L) (hr0 : r.2 ≠ 0 → r.1 = hal0) (hf : validHal ⟨t, la, ptys L⟩ = true → Acts w t la L g0 fst cap r) :
    Ret Tryz.prog 51 [hv36 t la A L c, .func (.func g0) fst cap].toArray w (RP w (OutH (if validHal ⟨t, la, ptys L⟩ then r else (hal0, 2)))) := by
  have hv := fun w hr => valid_spec t la A L c w hz hr
  cases hval : validHal ⟨t, la, ptys L⟩ with
  | false =>
    rw [hval] at hv
    refine enterH Tryz.func51 rfl rfl Tryz.ntmps51 rfl (Wd.refl _) ?_
    (repeat' (first | (show VH _ _ _ _ _ _ _; first | refine v_seq ?_ | refine r_seq ?_ | refine v_ret ?_ | refine v_cond_t rfl tbL ?_) | (show SH _ _ _ _ _ (_ :: _) _ _ _; first | (show SH _ _ _ _ _ (⟨_, .assign _, _, _, _, _⟩ :: _) _ _ _; refine asg evL ?_) | (show SH _ _ _ _ _ (⟨_, .load _ _, _, _, _, _⟩ :: _) _ _ _; refine lba rfl spL (by rfl) ?_) | (show SH _ _ _ _ _ (⟨_, .call ⟨.value (.func 8), _, _⟩, _, _, _, _⟩ :: _) _ _ _; refine cl (callee := .func 8) rfl (fun w hw => hv w (hr.ext hw.ext)) rfl rfl ?_) | refine bnoF rfl ?_ | refine bld rfl rfl ?_ | refine ala rfl (fun b => ?_) | (show SH _ _ _ _ _ (⟨_, .box _ _, _, _, _, _⟩ :: _) _ _ _; refine bxx rfl evL rfl (fun b => ?_)) | (show SH _ _ _ _ _ (⟨_, .store _ _ _, _, _, _, _⟩ :: _) _ _ _; refine sta rfl rfl rfl spL (by rfl) (by rfl) (by rfl) kpL ?_)) | refine s_nil ?_ | refine kh_normal ?_ | refine kh_ret ?_))
    exact rhC2 rfl rfl rfl rfl (fun w hw => loadVar_bx hw spL (by rfl)) ⟨none, 0, [], rfl, rfl, rfl⟩ ent_own0
  | true =>
    rw [hval] at hv
    have hf := hf hval
    have ho := fun w hr => ownH_spec t la A L c w hz hr
    rw [if_pos rfl]
    clear hval
    refine enterH Tryz.func51 rfl rfl Tryz.ntmps51 rfl (Wd.refl _) ?_
    (repeat' (first | (show VH _ _ _ _ _ _ _; first | refine v_seq ?_ | refine r_seq ?_ | refine v_skip ?_ | refine v_cond_f rfl tbL ?_) | (show SH _ _ _ _ _ (_ :: _) _ _ _; first | (show SH _ _ _ _ _ (⟨_, .assign _, _, _, _, _⟩ :: _) _ _ _; refine asg evL ?_) | (show SH _ _ _ _ _ (⟨_, .load _ _, _, _, _, _⟩ :: _) _ _ _; refine lba rfl spL (by rfl) ?_) | (show SH _ _ _ _ _ (⟨_, .call ⟨.value (.func 8), _, _⟩, _, _, _, _⟩ :: _) _ _ _; refine cl (callee := .func 8) rfl (fun w hw => hv w (hr.ext hw.ext)) rfl rfl ?_) | (show SH _ _ _ _ _ (⟨_, .call ⟨.value (.func 92), _, _⟩, _, _, _, _⟩ :: _) _ _ _; refine cp (callee := .func 92) rfl (fun w hw => ho w (hr.ext hw.ext)) rfl rfl ?_) | refine bnoT rfl ?_ | refine ala rfl (fun b => ?_) | (show SH _ _ _ _ _ (⟨_, .box _ _, _, _, _, _⟩ :: _) _ _ _; refine bxx rfl evL rfl (fun b => ?_))) | refine s_nil ?_ | refine kh_normal ?_))
    rintro _ _ ⟨A1, c1, L1, hp1, rfl, rfl⟩
    have hz1 := szP_of hp1 hz
    rename_i b2
    revert b
    intro b4
    (repeat' (first | (show VH _ _ _ _ _ _ _; first | refine v_seq ?_ | refine r_seq ?_) | (show SH _ _ _ _ _ (_ :: _) _ _ _; first | (show SH _ _ _ _ _ (⟨_, .move _, _, _, _, _⟩ :: _) _ _ _; refine mov evL ?_) | (show SH _ _ _ _ _ (⟨_, .store _ _ _, _, _, _, _⟩ :: _) _ _ _; refine sta rfl rfl rfl spL (by rfl) (by rfl) (by rfl) kpL ?_)) | refine s_nil ?_ | refine kh_normal ?_))
    refine cm rfl (fun w hw => hf w b2 A1 c1 L1 [bx b4 24 [.int .i64 0, .int .i64 0, .slice none 0 0]] hz1 hp1 (Ent.wd enL hw)) rfl rfl ?_
    rintro _ _ ⟨rfl, hH⟩
    obtain ⟨⟨rt, rl, rp⟩, e⟩ := r
    simp only at hH hr0 ⊢
    by_cases he : e = 0
    · subst he
      rw [if_pos rfl] at hH
      obtain ⟨A2, c2, L2, hp2, rfl⟩ := hH
      refine ⟨trivial, ?_⟩
      (repeat' (first | (show VH _ _ _ _ _ _ _; first | refine v_seq ?_ | refine r_seq ?_ | refine v_ret ?_ | refine v_skip ?_ | refine v_cond_f rfl tbL ?_) | (show SH _ _ _ _ _ (_ :: _) _ _ _; first | (show SH _ _ _ _ _ (⟨_, .move _, _, _, _, _⟩ :: _) _ _ _; refine mov evL ?_) | (show SH _ _ _ _ _ (⟨_, .assign _, _, _, _, _⟩ :: _) _ _ _; refine asg evL ?_) | (show SH _ _ _ _ _ (⟨_, .binOp .neq _ _ _ _, _, _, _, _⟩ :: _) _ _ _; refine neqF rfl rfl omD ?_) | (show SH _ _ _ _ _ (⟨_, .load _ _, _, _, _, _⟩ :: _) _ _ _; refine lba rfl spL (by rfl) ?_) | (show SH _ _ _ _ _ (⟨_, .store _ _ _, _, _, _, _⟩ :: _) _ _ _; refine sta rfl rfl rfl spL (by rfl) (by rfl) (by rfl) kpL ?_)) | refine s_nil ?_ | refine kh_normal ?_))
      exact rhC2 rfl rfl rfl rfl (fun w hw => loadVar_bx hw spL (by rfl)) ⟨A2, c2, L2, hp2, rfl, rfl⟩ enL
    · rw [if_neg he] at hH
      subst hH
      refine ⟨trivial, ?_⟩
      have h0 := hr0 he
      rw [h0]
      (repeat' (first | (show VH _ _ _ _ _ _ _; first | refine v_seq ?_ | refine r_seq ?_ | refine v_ret ?_ | refine v_cond_t rfl tbL ?_) | (show SH _ _ _ _ _ (_ :: _) _ _ _; first | (show SH _ _ _ _ _ (⟨_, .move _, _, _, _, _⟩ :: _) _ _ _; refine mov evL ?_) | (show SH _ _ _ _ _ (⟨_, .assign _, _, _, _, _⟩ :: _) _ _ _; refine asg evL ?_) | (show SH _ _ _ _ _ (⟨_, .binOp .neq _ _ _ _, _, _, _, _⟩ :: _) _ _ _; refine neqT rfl rfl omD ?_) | refine bld rfl rfl ?_ | (show SH _ _ _ _ _ (⟨_, .store _ _ _, _, _, _, _⟩ :: _) _ _ _; refine sta rfl rfl rfl spL (by rfl) (by rfl) (by rfl) kpL ?_)) | refine s_nil ?_ | refine kh_normal ?_ | refine kh_ret ?_))
      exact rhC2 rfl rfl rfl rfl (fun w hw => loadVar_bx hw spL (by rfl)) ⟨none, 0, [], rfl, rfl, rfl⟩ ent_own0
end Go.Proofs.YtlfbcoohfnoacaaGreat

/- Package party: Advance, Create. -/
namespace Go.Proofs.YtlfbcoohfnoacaaGreat
open Go.Fw Go.RowKit
set_option maxRecDepth 100000 in
theorem adv11_spec (x : PtyP) (i : Inv) (tick : Int) (a : Addr) (w : World) (h1 : w.cell? a = some (.int .i64 tick)) : Ret Tryz.prog 58 [.agg (Flat.enc x).toArray, .agg (Flat.enc i).toArray, .pointer (some a)].toArray w (Out w (.bool (decide (i.till ≤ tick)))) := by
  obtain ⟨iw, it⟩ := i
  rw [show Flat.enc (⟨iw, it⟩ : Inv) = [.int .i64 iw, .int .i64 it] from rfl]
  refine enterH Tryz.func58 rfl rfl Tryz.ntmps58 rfl (Wd.refl _) ?_
  (repeat' (first | (show VH _ _ _ _ _ _ _; first | refine v_seq ?_ | refine r_seq ?_ | refine v_ret ?_) | (show SH _ _ _ _ _ (_ :: _) _ _ _; first | (show SH _ _ _ _ _ (⟨_, .assign _, _, _, _, _⟩ :: _) _ _ _; refine asg evL ?_) | refine leq rfl rfl ?_ | (show SH _ _ _ _ _ (⟨_, .load _ _, _, _, _, _⟩ :: _) _ _ _; first | refine lbx rfl spL (by rfl) ?_ | refine lcell rfl (fun w hw => hw.ext.cell (by assumption)) ?_) | refine fad rfl ?_ | (show SH _ _ _ _ _ (⟨_, .box _ _, _, _, _, _⟩ :: _) _ _ _; refine bxx rfl evL rfl (fun b => ?_))) | refine s_nil ?_ | refine kh_normal ?_))
  exact rh1 rfl rfl ⟨rfl, rfl⟩ (ent_nil _)
def advR (t la : Int) (ps : List Pty) (tick : Int) : ResP :=
  if 0 ≤ tick ∧ tick ≤ 1073741824 then if tick < t then (hal0, 360) else (⟨tick, la, uninvM (fun _ i => decide (i.till ≤ tick)) ps⟩, 0) else (hal0, 2)
set_option maxHeartbeats 1000000 in
set_option maxRecDepth 100000 in
theorem adv1_spec (t la : Int) (L0 : List PtyP) (tick : Int) (a : Addr) (w : World) (h1 : w.cell? a = some (.int .i64 tick)) : Acts w t la L0 57 #[] #[.pointer (some a)] (advR t la (ptys L0) tick) := by
  refine acts_of (cap := [.pointer (some a)]) fun w' bh A c L H hz hp hw => ?_
  unfold advR
  by_cases ht : 0 ≤ tick ∧ tick ≤ 1073741824
  · rw [if_pos ht]
    obtain ⟨t1_, t2_⟩ := ht
    by_cases hb : tick < t
    · rw [if_pos hb]
      refine enterH Tryz.func57 rfl rfl Tryz.ntmps57 rfl (by assumption) ?_
      (repeat' (first | (show VH _ _ _ _ _ _ _; first | refine v_seq ?_ | refine r_seq ?_ | refine r_quiet hmix (by kernel_rfl) ?_ | refine v_block ?_ | refine v_ret ?_ | refine v_cond_t rfl tbL ?_ | refine v_cond_f rfl tbL ?_) | (show SH _ _ _ _ _ (_ :: _) _ _ _; first | (show SH _ _ _ _ _ (⟨_, _, _, _, _, some _⟩ :: _) _ _ _; (refine gif rfl rfl ?_; refine giFF tbL ?_)) | (show SH _ _ _ _ _ (⟨_, .move _, _, _, _, _⟩ :: _) _ _ _; refine mov evL ?_) | (show SH _ _ _ _ _ (⟨_, .assign _, _, _, _, _⟩ :: _) _ _ _; refine asg evL ?_) | (show SH _ _ _ _ _ (⟨_, .binOp .lss _ _ _ _, _, _, _, _⟩ :: _) _ _ _; first | refine lssT rfl rfl omD ?_ | refine lssF rfl rfl omD ?_) | (show SH _ _ _ _ _ (⟨_, .binOp .gtr _ _ _ _, _, _, _, _⟩ :: _) _ _ _; refine gtrF rfl rfl omD ?_) | (show SH _ _ _ _ _ (⟨_, .load _ _, _, _, _, _⟩ :: _) _ _ _; first | refine lbx rfl spL (by rfl) ?_ | refine lcell rfl (fun w hw => hw.ext.cell (by assumption)) ?_) | (show SH _ _ _ _ _ (⟨_, .pick _ _ _, _, _, _, _⟩ :: _) _ _ _; refine pkf rfl tbL evL ?_) | refine nlc rfl ?_ | refine fad rfl ?_) | refine s_nil ?_ | refine kh_normal ?_ | refine kh_ret ?_ | refine bh_ret ?_))
      exact rh1 rfl rfl ⟨rfl, rfl⟩ enL
    · rw [if_neg hb]
      refine enterH Tryz.func57 rfl rfl Tryz.ntmps57 rfl (by assumption) ?_
      (repeat' (first | (show VH _ _ _ _ _ _ _; first | refine v_seq ?_ | refine r_seq ?_ | refine r_quiet hmix (by kernel_rfl) ?_ | refine v_block ?_ | refine v_skip ?_ | refine v_cond_f rfl tbL ?_) | (show SH _ _ _ _ _ (_ :: _) _ _ _; first | (show SH _ _ _ _ _ (⟨_, _, _, _, _, some _⟩ :: _) _ _ _; (refine gif rfl rfl ?_; refine giFF tbL ?_)) | (show SH _ _ _ _ _ (⟨_, .move _, _, _, _, _⟩ :: _) _ _ _; refine mov evL ?_) | (show SH _ _ _ _ _ (⟨_, .assign _, _, _, _, _⟩ :: _) _ _ _; refine asg evL ?_) | (show SH _ _ _ _ _ (⟨_, .binOp .lss _ _ _ _, _, _, _, _⟩ :: _) _ _ _; refine lssF rfl rfl omD ?_) | (show SH _ _ _ _ _ (⟨_, .binOp .gtr _ _ _ _, _, _, _, _⟩ :: _) _ _ _; refine gtrF rfl rfl omD ?_) | (show SH _ _ _ _ _ (⟨_, .load _ _, _, _, _, _⟩ :: _) _ _ _; first | refine lbx rfl spL (by rfl) ?_ | refine lcell rfl (fun w hw => hw.ext.cell (by assumption)) ?_) | (show SH _ _ _ _ _ (⟨_, .pick _ _ _, _, _, _, _⟩ :: _) _ _ _; refine pkf rfl tbL evL ?_) | refine nlc rfl ?_ | refine fad rfl ?_ | (show SH _ _ _ _ _ (⟨_, .makeFunc _ _ _, _, _, _, _⟩ :: _) _ _ _; refine mf1 evL ?_) | (show SH _ _ _ _ _ (⟨_, .store _ _ _, _, _, _, _⟩ :: _) _ _ _; refine stb rfl rfl evL spL rfl rfl (by first | decide | exact Nat.zero_lt_succ _ | exact of_decide_eq_true rfl) kpL ?_)) | refine s_nil ?_ | refine kh_normal ?_ | refine bh_normal ?_))
      refine cm rfl (fun w2 hw2 => uninv_spec tick la A L c bh _ (fun _ i => decide (i.till ≤ tick)) w H w2 hz ⟨58, #[], #[.pointer (some a)], rfl, fun w3 hw3 x i => adv11_spec x i tick a w3 (hw3.ext.cell h1)⟩ (Ent.wd enL hw2)) rfl rfl ?_
      rintro _ _ rfl
      refine ⟨trivial, ?_⟩
      (repeat' (first | (show VH _ _ _ _ _ _ _; first | refine v_seq ?_ | refine r_seq ?_ | refine v_ret ?_) | (show SH _ _ _ _ _ (_ :: _) _ _ _; (show SH _ _ _ _ _ (⟨_, .assign _, _, _, _, _⟩ :: _) _ _ _; refine asg evL ?_)) | refine s_nil ?_ | refine kh_normal ?_))
      exact rh1 rfl rfl ⟨rfl, A, c, _, by rw [ptys_un, hp], rfl⟩ (ent_refl _)
  · rw [if_neg ht]
    have hcc : Hid _ := ht
    clear ht
    refine enterH Tryz.func57 rfl rfl Tryz.ntmps57 rfl (by assumption) ?_
    (repeat' (first | (show VH _ _ _ _ _ _ _; first | refine v_seq ?_ | refine r_seq ?_ | refine r_quiet hmix (by kernel_rfl) ?_ | refine v_block ?_ | refine v_ret ?_ | refine v_skip ?_ | refine v_cond_t rfl tbL ?_ | refine v_cond_dec rfl (fun h => ?_) (fun h => ?_)) | (show SH _ _ _ _ _ (_ :: _) _ _ _; first | (show SH _ _ _ _ _ (⟨_, _, _, _, _, some _⟩ :: _) _ _ _; (refine gif rfl rfl ?_; first | refine giFF tbL ?_ | refine giFT tbL ?_ | refine giFd (fun h => ?_) (fun h => ?_))) | (show SH _ _ _ _ _ (⟨_, .move _, _, _, _, _⟩ :: _) _ _ _; refine mov evL ?_) | (show SH _ _ _ _ _ (⟨_, .assign _, _, _, _, _⟩ :: _) _ _ _; refine asg evL ?_) | refine lss rfl rfl ?_ | refine gtr rfl rfl ?_ | (show SH _ _ _ _ _ (⟨_, .load _ _, _, _, _, _⟩ :: _) _ _ _; first | refine lbx rfl spL (by rfl) ?_ | refine lcell rfl (fun w hw => hw.ext.cell (by assumption)) ?_) | (show SH _ _ _ _ _ (⟨_, .pick _ _ _, _, _, _, _⟩ :: _) _ _ _; first | refine pkt rfl tbL evL ?_ | refine pkf rfl tbL evL ?_) | refine nlc rfl ?_ | refine fad rfl ?_ | (show SH _ _ _ _ _ (⟨_, .makeFunc _ _ _, _, _, _, _⟩ :: _) _ _ _; refine mf1 evL ?_) | (show SH _ _ _ _ _ (⟨_, .store _ _ _, _, _, _, _⟩ :: _) _ _ _; refine stb rfl rfl evL spL rfl rfl (by first | decide | exact Nat.zero_lt_succ _ | exact of_decide_eq_true rfl) kpL ?_)) | refine s_nil ?_ | refine kh_normal ?_ | refine kh_ret ?_ | refine bh_normal ?_ | refine bh_ret ?_))
    all_goals first
      | exact rh1 rfl rfl ⟨rfl, rfl⟩ enL
      | exact absurd ⟨by omega, by omega⟩ hcc
theorem advR0 (t la : Int) (ps : List Pty) (tick : Int) : (advR t la ps tick).2 ≠ 0 → (advR t la ps tick).1 = hal0 := by
  unfold advR
  split
  · split
    · intro _; rfl
    · intro h; exact absurd rfl h
  · intro _; rfl
set_option maxHeartbeats 1000000 in
set_option maxRecDepth 100000 in
theorem advance_spec (t la : Int) (A : Option Addr) (L : List PtyP) (c : Nat) (tick : Int) (w : World) (hz : SzP L) (hr : RdP w A L) : Ret Tryz.prog 19 [hv36 t la A L c, .int .i64 tick].toArray w (RP w (OutH (advM ⟨t, la, ptys L⟩ tick))) := by
  rw [show advM ⟨t, la, ptys L⟩ tick = if validHal ⟨t, la, ptys L⟩ then advR t la (ptys L) tick else (hal0, 2) from rfl]
  refine enterH Tryz.func19 rfl rfl Tryz.ntmps19 rfl (Wd.refl _) ?_
  (repeat' (first | (show VH _ _ _ _ _ _ _; first | refine v_seq ?_ | refine r_seq ?_) | (show SH _ _ _ _ _ (_ :: _) _ _ _; first | (show SH _ _ _ _ _ (⟨_, .assign _, _, _, _, _⟩ :: _) _ _ _; refine asg evL ?_) | (show SH _ _ _ _ _ (⟨_, .load _ _, _, _, _, _⟩ :: _) _ _ _; refine lba rfl spL (by rfl) ?_) | (show SH _ _ _ _ _ (⟨_, .makeFunc _ _ _, _, _, _, _⟩ :: _) _ _ _; refine mf1 evL ?_) | refine ala rfl (fun b => ?_) | (show SH _ _ _ _ _ (⟨_, .box _ _, _, _, _, _⟩ :: _) _ _ _; refine bxx rfl evL rfl (fun b => ?_))) | refine s_nil ?_ | refine kh_normal ?_))
  rename_i b2 b3
  refine cp rfl (fun w2 hw => change_spec t la A L c 57 #[] #[.pointer (some ⟨b3, 0, none⟩)] _ w2 hz (hr.ext hw.ext) (advR0 _ _ _ _) (fun _ => adv1_spec t la L tick _ w2 (hw.cell (cs := [.int .i64 tick]) spL rfl))) rfl rfl ?_
  rintro _ _ ⟨A1, c1, L1, hp1, rfl, rfl⟩
  (repeat' (first | refine v_ret ?_ | (show SH _ _ _ _ _ (_ :: _) _ _ _; first | (show SH _ _ _ _ _ (⟨_, .assign _, _, _, _, _⟩ :: _) _ _ _; refine asg evL ?_) | refine extr rfl rfl ?_ | (show SH _ _ _ _ _ (⟨_, .store _ _ _, _, _, _, _⟩ :: _) _ _ _; refine sta rfl rfl rfl spL (by rfl) (by rfl) (by rfl) kpL ?_)) | refine s_nil ?_ | refine kh_normal ?_))
  exact rhC2 rfl rfl rfl rfl (fun w hw => loadVar_bx hw spL (by rfl)) ⟨A1, c1, L1, hp1, rfl, rfl⟩ enL
end Go.Proofs.YtlfbcoohfnoacaaGreat

/- Package party: Create. -/
namespace Go.Proofs.YtlfbcoohfnoacaaGreat
open Go.Fw Go.RowKit
/-- A hall's own rows can be read. -/
theorem rows_rd {w0 w : World} {G : List HP} {A : Option Addr} {c : Nat} {L : List PtyP} (hs : Ent G [orow 46 A c L, allH (L.map rowM), allH (L.map rowI)]) (hw : Wd w0 G w) : RdP w A L :=
  Wd.kp (Ent.wd (hs.trans ent_knp) hw) Split.head
set_option maxRecDepth 100000 in
theorem cre11_spec (x : PtyP) (i : Inv) (who : Int) (a : Addr) (w : World) (h1 : w.cell? a = some (.int .i64 who)) : Ret Tryz.prog 56 [.agg (Flat.enc x).toArray, .agg (Flat.enc i).toArray, .pointer (some a)].toArray w (Out w (.bool (decide (i.who = who)))) := by
  obtain ⟨iw, it⟩ := i
  rw [show Flat.enc (⟨iw, it⟩ : Inv) = [.int .i64 iw, .int .i64 it] from rfl]
  refine enterH Tryz.func56 rfl rfl Tryz.ntmps56 rfl (Wd.refl _) ?_
  (repeat' (first | (show VH _ _ _ _ _ _ _; first | refine v_seq ?_ | refine r_seq ?_ | refine v_ret ?_) | (show SH _ _ _ _ _ (_ :: _) _ _ _; first | (show SH _ _ _ _ _ (⟨_, .assign _, _, _, _, _⟩ :: _) _ _ _; refine asg evL ?_) | refine eql rfl rfl ?_ | (show SH _ _ _ _ _ (⟨_, .load _ _, _, _, _, _⟩ :: _) _ _ _; first | refine lbx rfl spL (by rfl) ?_ | refine lcell rfl (fun w hw => hw.ext.cell (by assumption)) ?_) | refine fad rfl ?_ | (show SH _ _ _ _ _ (⟨_, .box _ _, _, _, _, _⟩ :: _) _ _ _; refine bxx rfl evL rfl (fun b => ?_))) | refine s_nil ?_ | refine kh_normal ?_))
  exact rh1 rfl rfl ⟨rfl, rfl⟩ (ent_nil _)
def creR (t la : Int) (ps : List Pty) (who : Int) : ResP :=
  if isIdB who = true then
    if who ∈ allM ps then (hal0, 361)
    else if ps.length < 32 ∧ la < 1048576 then (⟨t, la + 1, uninvM (fun _ i => decide (i.who = who)) ps ++ [⟨la + 1, who, [who], []⟩]⟩, 0)
    else (hal0, 4)
  else (hal0, 2)
theorem creR0 (t la : Int) (ps : List Pty) (who : Int) : (creR t la ps who).2 ≠ 0 → (creR t la ps who).1 = hal0 := by
  unfold creR
  split
  · split
    · intro _; rfl
    · split
      · intro h; exact absurd rfl h
      · intro _; rfl
  · intro _; rfl
theorem pos_iff (ps : List Pty) (who : Int) : 0 < mget (placesM ps) who ↔ who ∈ allM ps := by simpa using places_pos ps who
set_option maxHeartbeats 1000000 in
set_option maxRecDepth 100000 in
theorem cre1_spec (t la : Int) (L0 : List PtyP) (who : Int) (a : Addr) (w : World) (h0 : 0 ≤ la) (h1 : w.cell? a = some (.int .i64 who)) : Acts w t la L0 54 #[] #[.pointer (some a)] (creR t la (ptys L0) who) := by
  refine acts_of (cap := [.pointer (some a)]) fun w' bh A c L H hz hp hw => ?_
  have hid := fun w => isID_spec who w
  rw [← hp]
  unfold creR
  have hpos := pos_iff (ptys L) who
  by_cases hi : isIdB who = true
  · rw [if_pos hi]
    simp only [hi] at hid
    by_cases hm : who ∈ allM (ptys L)
    · rw [if_pos hm]
      have hpo := hpos.2 hm
      clear hpos
      refine enterH Tryz.func54 rfl rfl Tryz.ntmps54 rfl (by assumption) ?_
      (repeat' (first | (show VH _ _ _ _ _ _ _; first | refine v_seq ?_ | refine r_seq ?_ | refine v_block ?_ | refine v_cond_f rfl tbL ?_) | (show SH _ _ _ _ _ (_ :: _) _ _ _; first | (show SH _ _ _ _ _ (⟨_, .assign _, _, _, _, _⟩ :: _) _ _ _; refine asg evL ?_) | (show SH _ _ _ _ _ (⟨_, .load _ _, _, _, _, _⟩ :: _) _ _ _; refine lcell rfl (fun w hw => hw.ext.cell (by assumption)) ?_) | (show SH _ _ _ _ _ (⟨_, .call ⟨.value (.func 25), _, _⟩, _, _, _, _⟩ :: _) _ _ _; refine cl (callee := .func 25) rfl (fun w hw => hid w) rfl rfl ?_) | refine bnoT rfl ?_) | refine s_nil ?_ | refine kh_normal ?_))
      refine r_heldT [hb36 bh t la A L c] (tr [(0, true), (1, true), (2, true), (4, true), (3, false), (5, false), (6, false), (7, false)] .nil) hmix (by kernel_rfl) enL ?_
      (repeat' ((show SH _ _ _ _ _ (_ :: _) _ _ _; first | (show SH _ _ _ _ _ (⟨_, .move _, _, _, _, _⟩ :: _) _ _ _; refine mov evL ?_) | (show SH _ _ _ _ _ (⟨_, .load _ _, _, _, _, _⟩ :: _) _ _ _; first | refine lba rfl spL (by rfl) ?_ | refine lcell rfl (fun w hw => hw.ext.cell (by assumption)) ?_) | (show SH _ _ _ _ _ (⟨_, .call ⟨.value (.func 23), _, _⟩, _, _, _, _⟩ :: _) _ _ _; refine cp (callee := .func 23) rfl (fun w hw => places_spec t la A L c w hz (rows_rd (c := c) enL hw)) rfl rfl ?_) | refine nlc rfl ?_)))
      rintro _ _ ⟨r, rfl, rfl⟩
      (repeat' (first | (show VH _ _ _ _ _ _ _; first | refine v_seq ?_ | refine r_seq ?_ | refine v_ret ?_ | refine v_cond_t rfl tbL ?_) | (show SH _ _ _ _ _ (_ :: _) _ _ _; first | (show SH _ _ _ _ _ (⟨_, .assign _, _, _, _, _⟩ :: _) _ _ _; refine asg evL ?_) | (show SH _ _ _ _ _ (⟨_, .binOp .gtr _ _ _ _, _, _, _, _⟩ :: _) _ _ _; refine gtrT rfl rfl omD ?_) | (show SH _ _ _ _ _ (⟨_, .lookup _ _ _ false, _, _, _, _⟩ :: _) _ _ _; refine lkm rfl rfl spL ?_)) | refine s_nil ?_ | refine kh_normal ?_ | refine kh_ret ?_ | refine bh_ret ?_))
      exact rh1 rfl rfl ⟨rfl, rfl⟩ enL
    · rw [if_neg hm]
      have hpo : ¬ 0 < mget (placesM (ptys L)) who := fun h => hm (hpos.1 h)
      clear hpos
      rw [ptys_len]
      by_cases hc : L.length < 32 ∧ la < 1048576
      · rw [if_pos hc]
        obtain ⟨c1_, c2_⟩ := hc
        refine enterH Tryz.func54 rfl rfl Tryz.ntmps54 rfl (by assumption) ?_
        (repeat' (first | (show VH _ _ _ _ _ _ _; first | refine v_seq ?_ | refine r_seq ?_ | refine v_block ?_ | refine v_cond_f rfl tbL ?_) | (show SH _ _ _ _ _ (_ :: _) _ _ _; first | (show SH _ _ _ _ _ (⟨_, .assign _, _, _, _, _⟩ :: _) _ _ _; refine asg evL ?_) | (show SH _ _ _ _ _ (⟨_, .load _ _, _, _, _, _⟩ :: _) _ _ _; refine lcell rfl (fun w hw => hw.ext.cell (by assumption)) ?_) | (show SH _ _ _ _ _ (⟨_, .call ⟨.value (.func 25), _, _⟩, _, _, _, _⟩ :: _) _ _ _; refine cl (callee := .func 25) rfl (fun w hw => hid w) rfl rfl ?_) | refine bnoT rfl ?_) | refine s_nil ?_ | refine kh_normal ?_))
        refine r_heldT [hb36 bh t la A L c] (tr [(0, true), (1, true), (2, true), (4, true), (3, false), (5, false), (6, false), (7, false)] .nil) hmix (by kernel_rfl) enL ?_
        (repeat' ((show SH _ _ _ _ _ (_ :: _) _ _ _; first | (show SH _ _ _ _ _ (⟨_, .move _, _, _, _, _⟩ :: _) _ _ _; refine mov evL ?_) | (show SH _ _ _ _ _ (⟨_, .load _ _, _, _, _, _⟩ :: _) _ _ _; first | refine lba rfl spL (by rfl) ?_ | refine lcell rfl (fun w hw => hw.ext.cell (by assumption)) ?_) | (show SH _ _ _ _ _ (⟨_, .call ⟨.value (.func 23), _, _⟩, _, _, _, _⟩ :: _) _ _ _; refine cp (callee := .func 23) rfl (fun w hw => places_spec t la A L c w hz (rows_rd (c := c) enL hw)) rfl rfl ?_) | refine nlc rfl ?_)))
        rintro _ _ ⟨r, rfl, rfl⟩
        (repeat' (first | (show VH _ _ _ _ _ _ _; first | refine v_seq ?_ | refine r_seq ?_ | refine v_skip ?_ | refine v_cond_f rfl tbL ?_) | (show SH _ _ _ _ _ (_ :: _) _ _ _; first | (show SH _ _ _ _ _ (⟨_, _, _, _, _, some _⟩ :: _) _ _ _; (refine gif rfl rfl ?_; refine giFF tbL ?_)) | (show SH _ _ _ _ _ (⟨_, .move _, _, _, _, _⟩ :: _) _ _ _; refine mov evL ?_) | (show SH _ _ _ _ _ (⟨_, .assign _, _, _, _, _⟩ :: _) _ _ _; refine asg evL ?_) | (show SH _ _ _ _ _ (⟨_, .binOp .gtr _ _ _ _, _, _, _, _⟩ :: _) _ _ _; refine gtrF rfl rfl omD ?_) | (show SH _ _ _ _ _ (⟨_, .binOp .geq _ _ _ _, _, _, _, _⟩ :: _) _ _ _; refine geqF rfl rfl omD ?_) | (show SH _ _ _ _ _ (⟨_, .load _ _, _, _, _, _⟩ :: _) _ _ _; refine lbx rfl spL (by rfl) ?_) | refine slen rfl ?_ | (show SH _ _ _ _ _ (⟨_, .lookup _ _ _ false, _, _, _, _⟩ :: _) _ _ _; refine lkm rfl rfl spL ?_) | (show SH _ _ _ _ _ (⟨_, .pick _ _ _, _, _, _, _⟩ :: _) _ _ _; refine pkf rfl tbL evL ?_) | refine nlc rfl ?_ | refine fad rfl ?_ | (show SH _ _ _ _ _ (⟨_, .makeFunc _ _ _, _, _, _, _⟩ :: _) _ _ _; refine mf1 evL ?_)) | refine s_nil ?_ | refine kh_normal ?_ | refine bh_normal ?_))
        refine cm rfl (fun w2 hw2 => uninv_spec t la A L c bh _ (fun _ i => decide (i.who = who)) w H w2 hz ⟨56, #[], #[.pointer (some a)], rfl, fun w3 hw3 x i => cre11_spec x i who a w3 (hw3.ext.cell h1)⟩ (Ent.wd enL hw2)) rfl rfl ?_
        rintro _ _ rfl
        refine ⟨trivial, ?_⟩
        have hul : (L.map (unP fun _ i => decide (i.who = who))).length = L.length := List.length_map ..
        have hup := ptys_un (fun _ i => decide (i.who = who)) L
        generalize L.map (unP fun _ i => decide (i.who = who)) = M at hul hup ⊢
        (repeat' (first | (show VH _ _ _ _ _ _ _; first | refine v_seq ?_ | refine r_seq ?_) | (show SH _ _ _ _ _ (_ :: _) _ _ _; first | (show SH _ _ _ _ _ (⟨_, .move _, _, _, _, _⟩ :: _) _ _ _; refine mov evL ?_) | (show SH _ _ _ _ _ (⟨_, .binOp .add _ _ _ _, _, _, _, _⟩ :: _) _ _ _; refine add rfl rfl inL ?_) | (show SH _ _ _ _ _ (⟨_, .load _ _, _, _, _, _⟩ :: _) _ _ _; refine lbx rfl spL (by rfl) ?_) | refine nlc rfl ?_ | refine fad rfl ?_ | (show SH _ _ _ _ _ (⟨_, .store _ _ _, _, _, _, _⟩ :: _) _ _ _; refine stb rfl rfl evL spL rfl rfl (by first | decide | exact Nat.zero_lt_succ _ | exact of_decide_eq_true rfl) kpL ?_)) | refine s_nil ?_ | refine kh_normal ?_))
        refine r_heldT [] (tr [(0, true), (1, true), (2, true), (3, true), (5, true), (6, true), (7, true), (9, true), (10, true)] (.fork3 4 (tr [] (.fork 8 (tr [(11, false), (12, false), (13, false), (14, false), (15, false), (16, false), (17, false)] .nil) 11 (tr [(8, false), (12, false), (13, false), (14, false), (15, false), (16, false), (17, false)] .nil))) 8 (tr [] (.fork 4 (tr [(11, false), (12, false), (13, false), (14, false), (15, false), (16, false), (17, false)] .nil) 11 (tr [(12, true)] (.fork 4 (tr [(13, false), (14, false), (15, false), (16, false), (17, false)] .nil) 13 (tr [(4, false), (14, false), (15, false), (16, false), (17, false)] .nil))))) 11 (tr [] (.fork 4 (tr [(8, false), (12, false), (13, false), (14, false), (15, false), (16, false), (17, false)] .nil) 8 (tr [(12, true)] (.fork 4 (tr [(13, false), (14, false), (15, false), (16, false), (17, false)] .nil) 13 (tr [(4, false), (14, false), (15, false), (16, false), (17, false)] .nil))))))) hmix (by kernel_rfl) (ent_nil _) ?_
        (repeat' (first | (show SH _ _ _ _ _ (_ :: _) _ _ _; first | (show SH _ _ _ _ _ (⟨_, .move _, _, _, _, _⟩ :: _) _ _ _; refine mov evL ?_) | (show SH _ _ _ _ _ (⟨_, .load _ _, _, _, _, _⟩ :: _) _ _ _; first | refine lbx rfl spL (by rfl) ?_ | refine lcell rfl (fun w hw => hw.ext.cell (by assumption)) ?_) | refine nlc rfl ?_ | refine fad rfl ?_ | refine bld rfl rfl ?_ | (show SH _ _ _ _ _ (⟨_, .buildSlice _ _ _, _, _, _, _⟩ :: _) _ _ _; refine bsl (α := Int) rfl rfl (by repeat (first | exact Vals.nil | (apply Vals.cons; rfl))) rfl (by rfl) (by decide) (fun b => ?_))) | refine s_fork ?_ ?_ | refine s_fork3 ?_ ?_ ?_))
        all_goals
          revert b
          intro bm
          refine bsl (l := [(⟨⟨la + 1, who, [who], []⟩, some ⟨bm, 0, none⟩, 1, none, 0⟩ : PtyP)]) rfl rfl (Vals.cons rfl Vals.nil) rfl rfl (by decide) (fun b9 => ?_)
          (repeat' ((show SH _ _ _ _ _ (_ :: _) _ _ _; (show SH _ _ _ _ _ (⟨_, .load _ _, _, _, _, _⟩ :: _) _ _ _; refine lbx rfl spL (by rfl) ?_))))
          refine app (l := M) (l2 := [(⟨⟨la + 1, who, [who], []⟩, some ⟨bm, 0, none⟩, 1, none, 0⟩ : PtyP)]) rfl rfl rfl spL (fun w hw => hw.rd spL) rfl rfl rfl (by simp only [List.length_singleton]; omega) (by simp only [List.length_singleton]; omega) (fun A4 c4 => ⟨enL, ?_⟩)
          (repeat' (first | (show VH _ _ _ _ _ _ _; first | refine v_seq ?_ | refine r_seq ?_ | refine v_ret ?_) | (show SH _ _ _ _ _ (_ :: _) _ _ _; first | (show SH _ _ _ _ _ (⟨_, .assign _, _, _, _, _⟩ :: _) _ _ _; refine asg evL ?_) | refine nlc rfl ?_ | refine fad rfl ?_ | (show SH _ _ _ _ _ (⟨_, .store _ _ _, _, _, _, _⟩ :: _) _ _ _; refine stb rfl rfl evL spL rfl rfl (by first | decide | exact Nat.zero_lt_succ _ | exact of_decide_eq_true rfl) kpL ?_)) | refine s_nil ?_ | refine kh_normal ?_))
          refine rh1 rfl rfl ⟨rfl, A4, c4, M ++ [(⟨⟨la + 1, who, [who], []⟩, some ⟨bm, 0, none⟩, 1, none, 0⟩ : PtyP)], by rw [ptys_snoc, hup], rfl⟩ ?_
          refine Ent.trans (B := rowM (⟨⟨la + 1, who, [who], []⟩, some ⟨bm, 0, none⟩, 1, none, 0⟩ : PtyP) :: allH (M.map rowM) :: rowI (⟨⟨la + 1, who, [who], []⟩, some ⟨bm, 0, none⟩, 1, none, 0⟩ : PtyP) :: allH (M.map rowI) :: hb36 bh t (la + 1) A4 (M ++ [(⟨⟨la + 1, who, [who], []⟩, some ⟨bm, 0, none⟩, 1, none, 0⟩ : PtyP)]) c4 :: orow 46 A4 c4 (M ++ [(⟨⟨la + 1, who, [who], []⟩, some ⟨bm, 0, none⟩, 1, none, 0⟩ : PtyP)]) :: H) enL ?_
          exact Ent.trans (ent_all_snoc (f := rowM)) (Ent.trans (ent_cons Split.head (ent_all_snoc (f := rowI))) enL)
      · rw [if_neg hc]
        have hcc : Hid _ := hc
        clear hc
        refine enterH Tryz.func54 rfl rfl Tryz.ntmps54 rfl (by assumption) ?_
        (repeat' (first | (show VH _ _ _ _ _ _ _; first | refine v_seq ?_ | refine r_seq ?_ | refine v_block ?_ | refine v_cond_f rfl tbL ?_) | (show SH _ _ _ _ _ (_ :: _) _ _ _; first | (show SH _ _ _ _ _ (⟨_, .assign _, _, _, _, _⟩ :: _) _ _ _; refine asg evL ?_) | (show SH _ _ _ _ _ (⟨_, .load _ _, _, _, _, _⟩ :: _) _ _ _; refine lcell rfl (fun w hw => hw.ext.cell (by assumption)) ?_) | (show SH _ _ _ _ _ (⟨_, .call ⟨.value (.func 25), _, _⟩, _, _, _, _⟩ :: _) _ _ _; refine cl (callee := .func 25) rfl (fun w hw => hid w) rfl rfl ?_) | refine bnoT rfl ?_) | refine s_nil ?_ | refine kh_normal ?_))
        refine r_heldT [hb36 bh t la A L c] (tr [(0, true), (1, true), (2, true), (4, true), (3, false), (5, false), (6, false), (7, false)] .nil) hmix (by kernel_rfl) enL ?_
        (repeat' ((show SH _ _ _ _ _ (_ :: _) _ _ _; first | (show SH _ _ _ _ _ (⟨_, .move _, _, _, _, _⟩ :: _) _ _ _; refine mov evL ?_) | (show SH _ _ _ _ _ (⟨_, .load _ _, _, _, _, _⟩ :: _) _ _ _; first | refine lba rfl spL (by rfl) ?_ | refine lcell rfl (fun w hw => hw.ext.cell (by assumption)) ?_) | (show SH _ _ _ _ _ (⟨_, .call ⟨.value (.func 23), _, _⟩, _, _, _, _⟩ :: _) _ _ _; refine cp (callee := .func 23) rfl (fun w hw => places_spec t la A L c w hz (rows_rd (c := c) enL hw)) rfl rfl ?_) | refine nlc rfl ?_)))
        rintro _ _ ⟨r, rfl, rfl⟩
        (repeat' (first | (show VH _ _ _ _ _ _ _; first | refine v_seq ?_ | refine r_seq ?_ | refine v_ret ?_ | refine v_skip ?_ | refine v_cond_t rfl tbL ?_ | refine v_cond_f rfl tbL ?_ | refine v_cond_dec rfl (fun h => ?_) (fun h => ?_)) | (show SH _ _ _ _ _ (_ :: _) _ _ _; first | (show SH _ _ _ _ _ (⟨_, _, _, _, _, some _⟩ :: _) _ _ _; (refine gif rfl rfl ?_; first | refine giFF tbL ?_ | refine giFT tbL ?_ | refine giFd (fun h => ?_) (fun h => ?_))) | (show SH _ _ _ _ _ (⟨_, .move _, _, _, _, _⟩ :: _) _ _ _; refine mov evL ?_) | (show SH _ _ _ _ _ (⟨_, .assign _, _, _, _, _⟩ :: _) _ _ _; refine asg evL ?_) | (show SH _ _ _ _ _ (⟨_, .binOp .gtr _ _ _ _, _, _, _, _⟩ :: _) _ _ _; refine gtrF rfl rfl omD ?_) | refine geq rfl rfl ?_ | (show SH _ _ _ _ _ (⟨_, .load _ _, _, _, _, _⟩ :: _) _ _ _; refine lbx rfl spL (by rfl) ?_) | refine slen rfl ?_ | (show SH _ _ _ _ _ (⟨_, .lookup _ _ _ false, _, _, _, _⟩ :: _) _ _ _; refine lkm rfl rfl spL ?_) | (show SH _ _ _ _ _ (⟨_, .pick _ _ _, _, _, _, _⟩ :: _) _ _ _; first | refine pkt rfl tbL evL ?_ | refine pkf rfl tbL evL ?_) | refine nlc rfl ?_ | refine fad rfl ?_ | (show SH _ _ _ _ _ (⟨_, .makeFunc _ _ _, _, _, _, _⟩ :: _) _ _ _; refine mf1 evL ?_)) | refine s_nil ?_ | refine kh_normal ?_ | refine kh_ret ?_ | refine bh_normal ?_ | refine bh_ret ?_))
        all_goals first
          | exact rh1 rfl rfl ⟨rfl, rfl⟩ enL
          | exact absurd ⟨by omega, by omega⟩ hcc
  · rw [if_neg hi]
    simp only [Bool.eq_false_iff.2 hi] at hid
    clear hpos
    refine enterH Tryz.func54 rfl rfl Tryz.ntmps54 rfl (by assumption) ?_
    (repeat' (first | (show VH _ _ _ _ _ _ _; first | refine v_seq ?_ | refine r_seq ?_ | refine v_block ?_ | refine v_ret ?_ | refine v_cond_t rfl tbL ?_) | (show SH _ _ _ _ _ (_ :: _) _ _ _; first | (show SH _ _ _ _ _ (⟨_, .assign _, _, _, _, _⟩ :: _) _ _ _; refine asg evL ?_) | (show SH _ _ _ _ _ (⟨_, .load _ _, _, _, _, _⟩ :: _) _ _ _; refine lcell rfl (fun w hw => hw.ext.cell (by assumption)) ?_) | (show SH _ _ _ _ _ (⟨_, .call ⟨.value (.func 25), _, _⟩, _, _, _, _⟩ :: _) _ _ _; refine cl (callee := .func 25) rfl (fun w hw => hid w) rfl rfl ?_) | refine bnoF rfl ?_) | refine s_nil ?_ | refine kh_normal ?_ | refine kh_ret ?_ | refine bh_ret ?_))
    exact rh1 rfl rfl ⟨rfl, rfl⟩ enL
end Go.Proofs.YtlfbcoohfnoacaaGreat

/- Package party: Create, lead. -/
namespace Go.Proofs.YtlfbcoohfnoacaaGreat
open Go.Fw Go.RowKit
set_option maxHeartbeats 1000000 in
set_option maxRecDepth 100000 in
theorem create_spec (t la : Int) (A : Option Addr) (L : List PtyP) (c : Nat) (who : Int) (w : World) (hz : SzP L) (hr : RdP w A L) : Ret Tryz.prog 18 [hv36 t la A L c, .int .i64 who].toArray w (RP w (OutH (createM ⟨t, la, ptys L⟩ who))) := by
  rw [show createM ⟨t, la, ptys L⟩ who = if validHal ⟨t, la, ptys L⟩ then creR t la (ptys L) who else (hal0, 2) from rfl]
  refine enterH Tryz.func18 rfl rfl Tryz.ntmps18 rfl (Wd.refl _) ?_
  (repeat' (first | (show VH _ _ _ _ _ _ _; first | refine v_seq ?_ | refine r_seq ?_) | (show SH _ _ _ _ _ (_ :: _) _ _ _; first | (show SH _ _ _ _ _ (⟨_, .assign _, _, _, _, _⟩ :: _) _ _ _; refine asg evL ?_) | (show SH _ _ _ _ _ (⟨_, .load _ _, _, _, _, _⟩ :: _) _ _ _; refine lba rfl spL (by rfl) ?_) | (show SH _ _ _ _ _ (⟨_, .makeFunc _ _ _, _, _, _, _⟩ :: _) _ _ _; refine mf1 evL ?_) | refine ala rfl (fun b => ?_) | (show SH _ _ _ _ _ (⟨_, .box _ _, _, _, _, _⟩ :: _) _ _ _; refine bxx rfl evL rfl (fun b => ?_))) | refine s_nil ?_ | refine kh_normal ?_))
  rename_i b2 b3
  refine cp rfl (fun w2 hw => change_spec t la A L c 54 #[] #[.pointer (some ⟨b3, 0, none⟩)] _ w2 hz (hr.ext hw.ext) (creR0 _ _ _ _) (fun hv => cre1_spec t la L who _ w2 (valid_iff.1 hv).l0 (hw.cell (cs := [.int .i64 who]) spL rfl))) rfl rfl ?_
  rintro _ _ ⟨A1, c1, L1, hp1, rfl, rfl⟩
  (repeat' (first | refine v_ret ?_ | (show SH _ _ _ _ _ (_ :: _) _ _ _; first | (show SH _ _ _ _ _ (⟨_, .assign _, _, _, _, _⟩ :: _) _ _ _; refine asg evL ?_) | refine extr rfl rfl ?_ | (show SH _ _ _ _ _ (⟨_, .store _ _ _, _, _, _, _⟩ :: _) _ _ _; refine sta rfl rfl rfl spL (by rfl) (by rfl) (by rfl) kpL ?_)) | refine s_nil ?_ | refine kh_normal ?_))
  exact rhC2 rfl rfl rfl rfl (fun w hw => loadVar_bx hw spL (by rfl)) ⟨A1, c1, L1, hp1, rfl, rfl⟩ enL
/-- A leader's change. -/
def ActsL (w : World) (t la : Int) (L0 : List PtyP) (k : Nat) (g : FuncId) (fst cap : Array Value) (r : ResP) : Prop :=
  ∀ w' bh A c L H, SzP L → ptys L = ptys L0 → Wd w (hallH bh t la A c L H) w' → Ret Tryz.prog g (fst.toList ++ [Value.pointer (some ⟨bh, 0, none⟩), Value.int .i64 k] ++ cap.toList).toArray w' (RP w (ActR r bh H))
theorem actsL_of {w : World} {t la : Int} {L0 : List PtyP} {k : Nat} {g : FuncId} {cap : List Value} {r : ResP} (h : ∀ w' bh A c L H, SzP L → ptys L = ptys L0 → Wd w (hallH bh t la A c L H) w' → Ret Tryz.prog g (Value.pointer (some ⟨bh, 0, none⟩) :: Value.int .i64 k :: cap).toArray w' (RP w (ActR r bh H))) : ActsL w t la L0 k g #[] cap.toArray r := by
  intro w' bh A c L H hz hp hw
  have := h w' bh A c L H hz hp hw
  simpa using this
def leadR (ps : List Pty) (by' : Int) (r : Nat → ResP) : ResP :=
  match findM by' ps with
  | none => (hal0, 6)
  | some k => if (ps.getD k pty0).leader = by' then r k else (hal0, 362)
theorem leadR0 {ps : List Pty} {by' : Int} {r : Nat → ResP} (h : ∀ k, findM by' ps = some k → (r k).2 ≠ 0 → (r k).1 = hal0) : (leadR ps by' r).2 ≠ 0 → (leadR ps by' r).1 = hal0 := by
  unfold leadR
  cases hf : findM by' ps with
  | none => intro _; rfl
  | some k =>
    simp only
    split
    · exact h k hf
    · intro _; rfl
set_option maxHeartbeats 1000000 in
set_option maxRecDepth 100000 in
theorem lead1_spec (t la : Int) (L0 : List PtyP) (by' : Int) (a1 a2 : Addr) (g0 : FuncId) (fst cap : Array Value) (r : Nat → ResP) (w : World) (hn : (allM (ptys L0)).Nodup) (h1 : w.cell? a1 = some (.int .i64 by')) (h2 : w.cell? a2 = some (.func (.func g0) fst cap))
    (hf : ∀ k, findM by' (ptys L0) = some k → ((ptys L0).getD k pty0).leader = by' → ActsL w t la L0 k g0 fst cap (r k)) : Acts w t la L0 86 #[] #[.pointer (some a1), .pointer (some a2)] (leadR (ptys L0) by' r) := by
  refine acts_of (cap := [.pointer (some a1), .pointer (some a2)]) fun w' bh A c L H hz hp hw => ?_
  have hg := places_find (ptys L0) by' hn
  rw [← hp] at hg
  unfold leadR
  cases hfd : findM by' (ptys L0) with
  | none =>
    rw [hp, hfd, ← hp] at hg
    simp only at hg ⊢
    refine enterH Tryz.func86 rfl rfl Tryz.ntmps86 rfl (by assumption) ?_
    (repeat' (first | (show VH _ _ _ _ _ _ _; first | refine v_seq ?_ | refine r_seq ?_) | (show SH _ _ _ _ _ (_ :: _) _ _ _; (show SH _ _ _ _ _ (⟨_, .assign _, _, _, _, _⟩ :: _) _ _ _; refine asg evL ?_)) | refine s_nil ?_ | refine kh_normal ?_))
    refine r_heldT [hb36 bh t la A L c] (tr [(0, true), (1, true), (2, true), (4, true), (3, false), (5, false), (6, false)] .nil) hmix (by kernel_rfl) enL ?_
    (repeat' ((show SH _ _ _ _ _ (_ :: _) _ _ _; first | (show SH _ _ _ _ _ (⟨_, .move _, _, _, _, _⟩ :: _) _ _ _; refine mov evL ?_) | (show SH _ _ _ _ _ (⟨_, .load _ _, _, _, _, _⟩ :: _) _ _ _; first | refine lba rfl spL (by rfl) ?_ | refine lcell rfl (fun w hw => hw.ext.cell (by assumption)) ?_) | (show SH _ _ _ _ _ (⟨_, .call ⟨.value (.func 23), _, _⟩, _, _, _, _⟩ :: _) _ _ _; refine cp (callee := .func 23) rfl (fun w hw => places_spec t la A L c w hz (rows_rd (c := c) enL hw)) rfl rfl ?_) | refine nlc rfl ?_)))
    rintro _ _ ⟨r, rfl, rfl⟩
    (repeat' (first | (show VH _ _ _ _ _ _ _; first | refine v_seq ?_ | refine r_seq ?_ | refine v_block ?_ | refine v_ret ?_ | refine v_cond_t rfl tbL ?_) | (show SH _ _ _ _ _ (_ :: _) _ _ _; first | (show SH _ _ _ _ _ (⟨_, .move _, _, _, _, _⟩ :: _) _ _ _; refine mov evL ?_) | (show SH _ _ _ _ _ (⟨_, .assign _, _, _, _, _⟩ :: _) _ _ _; refine asg evL ?_) | (show SH _ _ _ _ _ (⟨_, .binOp .eql _ _ _ _, _, _, _, _⟩ :: _) _ _ _; refine eqlT rfl rfl omD ?_) | (show SH _ _ _ _ _ (⟨_, .lookup _ _ _ false, _, _, _, _⟩ :: _) _ _ _; refine lkm rfl rfl spL ?_)) | refine s_nil ?_ | refine kh_normal ?_ | refine kh_ret ?_ | refine bh_ret ?_))
    exact rh1 rfl rfl ⟨rfl, rfl⟩ enL
  | some k =>
    rw [hp, hfd, ← hp] at hg
    simp only at hg ⊢
    have hk := (findM_some _ hfd).1
    rw [← hp, ptys_len] at hk
    have hpk := ptys_at hk
    have hkk : ((k : Int) + 1 - 1).toNat = k := by omega
    have hll := hz.len
    have hf' := hf k hfd
    rw [← hp] at hf' ⊢
    rw [hpk] at hf' ⊢
    by_cases hl : (L.getD k Flat.dflt).p.leader = by'
    · rw [if_pos hl]
      have hf2 := hf' hl
      have hld : (L.getD ((k : Int) + 1 - 1).toNat Flat.dflt).p.leader = by' := by rw [hkk]; exact hl
      clear hf hf' hl
      refine enterH Tryz.func86 rfl rfl Tryz.ntmps86 rfl (by assumption) ?_
      (repeat' (first | (show VH _ _ _ _ _ _ _; first | refine v_seq ?_ | refine r_seq ?_) | (show SH _ _ _ _ _ (_ :: _) _ _ _; (show SH _ _ _ _ _ (⟨_, .assign _, _, _, _, _⟩ :: _) _ _ _; refine asg evL ?_)) | refine s_nil ?_ | refine kh_normal ?_))
      refine r_heldT [hb36 bh t la A L c] (tr [(0, true), (1, true), (2, true), (4, true), (3, false), (5, false), (6, false)] .nil) hmix (by kernel_rfl) enL ?_
      (repeat' ((show SH _ _ _ _ _ (_ :: _) _ _ _; first | (show SH _ _ _ _ _ (⟨_, .move _, _, _, _, _⟩ :: _) _ _ _; refine mov evL ?_) | (show SH _ _ _ _ _ (⟨_, .load _ _, _, _, _, _⟩ :: _) _ _ _; first | refine lba rfl spL (by rfl) ?_ | refine lcell rfl (fun w hw => hw.ext.cell (by assumption)) ?_) | (show SH _ _ _ _ _ (⟨_, .call ⟨.value (.func 23), _, _⟩, _, _, _, _⟩ :: _) _ _ _; refine cp (callee := .func 23) rfl (fun w hw => places_spec t la A L c w hz (rows_rd (c := c) enL hw)) rfl rfl ?_) | refine nlc rfl ?_)))
      rintro _ _ ⟨rm, rfl, rfl⟩
      generalize placesM (ptys L) = M at hg ⊢
      (repeat' ((fail_if_success (show VH _ _ (.seq (.region 2 _ _) _) _ _ _ _)); first | (show VH _ _ _ _ _ _ _; first | refine v_seq ?_ | refine v_block ?_) | (show SH _ _ _ _ _ (_ :: _) _ _ _; first | (show SH _ _ _ _ _ (⟨_, .assign _, _, _, _, _⟩ :: _) _ _ _; refine asg evL ?_) | (show SH _ _ _ _ _ (⟨_, .lookup _ _ _ false, _, _, _, _⟩ :: _) _ _ _; refine lkm rfl rfl spL ?_)) | refine s_nil ?_ | refine kh_normal ?_))
      rw [hg]
      (repeat' (first | (show VH _ _ _ _ _ _ _; first | refine v_seq ?_ | refine r_seq ?_ | refine r_quiet hmix (by kernel_rfl) ?_ | refine v_skip ?_ | refine v_cond_f rfl tbL ?_) | (show SH _ _ _ _ _ (_ :: _) _ _ _; first | (show SH _ _ _ _ _ (⟨_, .move _, _, _, _, _⟩ :: _) _ _ _; refine mov evL ?_) | (show SH _ _ _ _ _ (⟨_, .assign _, _, _, _, _⟩ :: _) _ _ _; refine asg evL ?_) | (show SH _ _ _ _ _ (⟨_, .binOp .eql _ _ _ _, _, _, _, _⟩ :: _) _ _ _; refine eqlF rfl rfl omD ?_) | (show SH _ _ _ _ _ (⟨_, .binOp .neq _ _ _ _, _, _, _, _⟩ :: _) _ _ _; refine neqF rfl rfl omD ?_) | (show SH _ _ _ _ _ (⟨_, .binOp .sub _ _ _ _, _, _, _, _⟩ :: _) _ _ _; refine sub rfl rfl inL ?_) | (show SH _ _ _ _ _ (⟨_, .load _ _, _, _, _, _⟩ :: _) _ _ _; first | refine lbx rfl spL (by rfl) ?_ | refine lrf rfl (fun _ _ => rdP) (by rfl) omL (by rfl) ?_ | refine lcell rfl (fun w hw => hw.ext.cell (by assumption)) ?_ | refine lrf rfl (fun _ _ => rdP) (by rfl) (by simp only [List.length_cons, List.length_nil]; omega) (by rfl) ?_) | (show SH _ _ _ _ _ (⟨_, .indexAddr _ _ _, _, _, _, _⟩ :: _) _ _ _; first | refine ixi rfl rfl (fun _ _ => rdP) (by rfl) omL omL omL ?_ | refine ixi rfl rfl (fun _ _ => rdP) (by rfl) omL (by first | omega | (simp only [List.length_cons, List.length_nil]; omega)) (by simp only [List.length_cons, List.length_nil]; omega) ?_) | refine nlc rfl ?_ | refine fad rfl ?_) | refine s_nil ?_ | refine kh_normal ?_ | refine bh_normal ?_))
      rw [show (k : Int) + 1 - 1 = k by omega]
      refine cm rfl (fun w2 hw2 => hf2 w2 bh A c L H hz hp (Ent.wd enL hw2)) rfl rfl ?_
      rintro _ _ ⟨rfl, hH⟩
      refine ⟨trivial, ?_⟩
      (repeat' (first | refine v_ret ?_ | (show SH _ _ _ _ _ (_ :: _) _ _ _; (show SH _ _ _ _ _ (⟨_, .assign _, _, _, _, _⟩ :: _) _ _ _; refine asg evL ?_)) | refine s_nil ?_ | refine kh_normal ?_))
      exact rh1 rfl rfl ⟨rfl, hH⟩ (ent_refl _)
    · rw [if_neg hl]
      have hld : ¬ (L.getD ((k : Int) + 1 - 1).toNat Flat.dflt).p.leader = by' := by rw [hkk]; exact hl
      clear hf hf' hl
      refine enterH Tryz.func86 rfl rfl Tryz.ntmps86 rfl (by assumption) ?_
      (repeat' (first | (show VH _ _ _ _ _ _ _; first | refine v_seq ?_ | refine r_seq ?_) | (show SH _ _ _ _ _ (_ :: _) _ _ _; (show SH _ _ _ _ _ (⟨_, .assign _, _, _, _, _⟩ :: _) _ _ _; refine asg evL ?_)) | refine s_nil ?_ | refine kh_normal ?_))
      refine r_heldT [hb36 bh t la A L c] (tr [(0, true), (1, true), (2, true), (4, true), (3, false), (5, false), (6, false)] .nil) hmix (by kernel_rfl) enL ?_
      (repeat' ((show SH _ _ _ _ _ (_ :: _) _ _ _; first | (show SH _ _ _ _ _ (⟨_, .move _, _, _, _, _⟩ :: _) _ _ _; refine mov evL ?_) | (show SH _ _ _ _ _ (⟨_, .load _ _, _, _, _, _⟩ :: _) _ _ _; first | refine lba rfl spL (by rfl) ?_ | refine lcell rfl (fun w hw => hw.ext.cell (by assumption)) ?_) | (show SH _ _ _ _ _ (⟨_, .call ⟨.value (.func 23), _, _⟩, _, _, _, _⟩ :: _) _ _ _; refine cp (callee := .func 23) rfl (fun w hw => places_spec t la A L c w hz (rows_rd (c := c) enL hw)) rfl rfl ?_) | refine nlc rfl ?_)))
      rintro _ _ ⟨rm, rfl, rfl⟩
      generalize placesM (ptys L) = M at hg ⊢
      (repeat' ((fail_if_success (show VH _ _ (.seq (.region 2 _ _) _) _ _ _ _)); first | (show VH _ _ _ _ _ _ _; first | refine v_seq ?_ | refine v_block ?_) | (show SH _ _ _ _ _ (_ :: _) _ _ _; first | (show SH _ _ _ _ _ (⟨_, .assign _, _, _, _, _⟩ :: _) _ _ _; refine asg evL ?_) | (show SH _ _ _ _ _ (⟨_, .lookup _ _ _ false, _, _, _, _⟩ :: _) _ _ _; refine lkm rfl rfl spL ?_)) | refine s_nil ?_ | refine kh_normal ?_))
      rw [hg]
      (repeat' (first | (show VH _ _ _ _ _ _ _; first | refine v_seq ?_ | refine r_seq ?_ | refine r_quiet hmix (by kernel_rfl) ?_ | refine v_ret ?_ | refine v_cond_t rfl tbL ?_ | refine v_cond_f rfl tbL ?_) | (show SH _ _ _ _ _ (_ :: _) _ _ _; first | (show SH _ _ _ _ _ (⟨_, .move _, _, _, _, _⟩ :: _) _ _ _; refine mov evL ?_) | (show SH _ _ _ _ _ (⟨_, .assign _, _, _, _, _⟩ :: _) _ _ _; refine asg evL ?_) | (show SH _ _ _ _ _ (⟨_, .binOp .eql _ _ _ _, _, _, _, _⟩ :: _) _ _ _; refine eqlF rfl rfl omD ?_) | (show SH _ _ _ _ _ (⟨_, .binOp .neq _ _ _ _, _, _, _, _⟩ :: _) _ _ _; refine neqT rfl rfl omD ?_) | (show SH _ _ _ _ _ (⟨_, .binOp .sub _ _ _ _, _, _, _, _⟩ :: _) _ _ _; refine sub rfl rfl inL ?_) | (show SH _ _ _ _ _ (⟨_, .load _ _, _, _, _, _⟩ :: _) _ _ _; first | refine lbx rfl spL (by rfl) ?_ | refine lrf rfl (fun _ _ => rdP) (by rfl) omL (by rfl) ?_ | refine lcell rfl (fun w hw => hw.ext.cell (by assumption)) ?_ | refine lrf rfl (fun _ _ => rdP) (by rfl) (by simp only [List.length_cons, List.length_nil]; omega) (by rfl) ?_) | (show SH _ _ _ _ _ (⟨_, .indexAddr _ _ _, _, _, _, _⟩ :: _) _ _ _; first | refine ixi rfl rfl (fun _ _ => rdP) (by rfl) omL omL omL ?_ | refine ixi rfl rfl (fun _ _ => rdP) (by rfl) omL (by first | omega | (simp only [List.length_cons, List.length_nil]; omega)) (by simp only [List.length_cons, List.length_nil]; omega) ?_) | refine nlc rfl ?_ | refine fad rfl ?_) | refine s_nil ?_ | refine kh_normal ?_ | refine kh_ret ?_ | refine bh_ret ?_))
      exact rh1 rfl rfl ⟨rfl, rfl⟩ enL
set_option maxHeartbeats 1000000 in
set_option maxRecDepth 100000 in
theorem lead_spec (t la : Int) (A : Option Addr) (L : List PtyP) (c : Nat) (by' : Int) (g0 : FuncId) (fst cap : Array Value) (r : Nat → ResP) (w : World) (hz : SzP L) (hr : RdP w A L) (hr0 : ∀ k, findM by' (ptys L) = some k → (r k).2 ≠ 0 → (r k).1 = hal0)
    (hf : ∀ w2, Ext w w2 → validHal ⟨t, la, ptys L⟩ = true → ∀ k, findM by' (ptys L) = some k → ((ptys L).getD k pty0).leader = by' → ActsL w2 t la L k g0 fst cap (r k)) :
    Ret Tryz.prog 44 [hv36 t la A L c, .int .i64 by', .func (.func g0) fst cap].toArray w (RP w (OutH (if validHal ⟨t, la, ptys L⟩ then leadR (ptys L) by' r else (hal0, 2)))) := by
  refine enterH Tryz.func44 rfl rfl Tryz.ntmps44 rfl (Wd.refl _) ?_
  (repeat' (first | (show VH _ _ _ _ _ _ _; first | refine v_seq ?_ | refine r_seq ?_) | (show SH _ _ _ _ _ (_ :: _) _ _ _; first | (show SH _ _ _ _ _ (⟨_, .assign _, _, _, _, _⟩ :: _) _ _ _; refine asg evL ?_) | (show SH _ _ _ _ _ (⟨_, .load _ _, _, _, _, _⟩ :: _) _ _ _; refine lba rfl spL (by rfl) ?_) | (show SH _ _ _ _ _ (⟨_, .makeFunc _ _ _, _, _, _, _⟩ :: _) _ _ _; refine mf2 evL evL ?_) | refine ala rfl (fun b => ?_) | (show SH _ _ _ _ _ (⟨_, .box _ _, _, _, _, _⟩ :: _) _ _ _; refine bxx rfl evL rfl (fun b => ?_))) | refine s_nil ?_ | refine kh_normal ?_))
  rename_i b3 b4 b5
  refine cp rfl (fun w2 hw => change_spec t la A L c 86 #[] #[.pointer (some ⟨b4, 0, none⟩), .pointer (some ⟨b5, 0, none⟩)] _ w2 hz (hr.ext hw.ext) (leadR0 hr0) (fun hv => lead1_spec t la L by' _ _ g0 fst cap r w2 (valid_iff.1 hv).nd (hw.cell (cs := [.int .i64 by']) spL rfl) (hw.cell (cs := [.func (.func g0) fst cap]) spL rfl) (hf w2 hw.ext hv))) rfl rfl ?_
  rintro _ _ ⟨A1, c1, L1, hp1, rfl, rfl⟩
  (repeat' (first | refine v_ret ?_ | (show SH _ _ _ _ _ (_ :: _) _ _ _; first | (show SH _ _ _ _ _ (⟨_, .assign _, _, _, _, _⟩ :: _) _ _ _; refine asg evL ?_) | refine extr rfl rfl ?_ | (show SH _ _ _ _ _ (⟨_, .store _ _ _, _, _, _, _⟩ :: _) _ _ _; refine sta rfl rfl rfl spL (by rfl) (by rfl) (by rfl) kpL ?_)) | refine s_nil ?_ | refine kh_normal ?_))
  exact rhC2 rfl rfl rfl rfl (fun w hw => loadVar_bx hw spL (by rfl)) ⟨A1, c1, L1, hp1, rfl, rfl⟩ enL
end Go.Proofs.YtlfbcoohfnoacaaGreat

/- Package slices: binary search, Insert at invitations; Delete at parties (printed by gen_usb.py). -/
namespace Go.Proofs.YtlfbcoohfnoacaaGreat
open Go.Fw Go.RowKit
def Rising {α : Type} (key : α → Int) (l : List α) : Prop := l.Pairwise fun a b => key a < key b
theorem rising_at {α : Type} (d : α) {key : α → Int} {l : List α} (h : Rising key l) {i j : Nat} (hij : i < j) (hj : j < l.length) : key (l.getD i d) < key (l.getD j d) := by
  have := List.pairwise_iff_getElem.1 h i j (by omega) hj hij
  simpa [List.getD_eq_getElem?_getD, hj, show i < l.length by omega] using this
/-- How many elements lie ahead of the key k. -/
def lbK {α : Type} (key : α → Int) (k : Int) (l : List α) : Nat := (l.takeWhile fun x => decide (key x < k)).length
def hasK {α : Type} [Flat α] (key : α → Int) (k : Int) (l : List α) : Bool := decide (lbK key k l < l.length) && decide (key (l.getD (lbK key k l) Flat.dflt) = k)
theorem lbK_eq {α : Type} (d : α) (key : α → Int) (k : Int) : ∀ (l : List α) (i : Nat), i ≤ l.length → (∀ q, q < i → key (l.getD q d) < k) → (i < l.length → ¬ key (l.getD i d) < k) → lbK key k l = i
  | [], i, hi, _, _ => by simp at hi; subst hi; rfl
  | x :: l, 0, _, _, h2 => by
    have := h2 (by simp)
    unfold lbK
    rw [List.takeWhile_cons_of_neg (by simpa using this)]; rfl
  | x :: l, i + 1, hi, h1, h2 => by
    have h0 := h1 0 (by omega)
    have ih := lbK_eq d key k l i (by simpa using hi) (fun q hq => by simpa using h1 (q + 1) (by omega)) (fun h => by simpa using h2 (by simpa using h))
    unfold lbK at ih ⊢
    rw [List.takeWhile_cons_of_pos (by simpa using h0), List.length_cons, ih]
set_option maxHeartbeats 2000000 in
set_option maxRecDepth 100000 in
theorem binSearchI_spec (A : Option Addr) (l : List Inv) (c1 : Nat) (k : Int) (g0 : FuncId) (fst cap : Array Value) (key : Inv → Int) (w : World) (hl : l.length ≤ 140737488355328) (hr : Rd w A l) (hR : Rising key l)
    (hp : ∀ w', Ext w w' → ∀ x ∈ l, Ret Tryz.prog g0 (fst.toList ++ [Value.agg (Flat.enc x).toArray, Value.int .i64 k] ++ cap.toList).toArray w' (Out w' (.int .i64 (cmpI (key x) k)))) :
    Ret Tryz.prog 46 [.slice A l.length c1, .int .i64 k, .func (.func g0) fst cap].toArray w (Out w (.tuple #[.int .i64 (lbK key k l), .bool (hasK key k l)])) := by
  refine enterH Tryz.func46 rfl rfl Tryz.ntmps46 rfl (Wd.refl _) ?_
  (repeat' (first | (show VH _ _ _ _ _ _ _; first | refine v_seq ?_ | refine r_seq ?_ | refine v_block ?_) | (show SH _ _ _ _ _ (_ :: _) _ _ _; first | (show SH _ _ _ _ _ (⟨_, .move _, _, _, _, _⟩ :: _) _ _ _; refine mov evL ?_) | (show SH _ _ _ _ _ (⟨_, .assign _, _, _, _, _⟩ :: _) _ _ _; refine asg evL ?_) | refine slen rfl ?_) | refine s_nil ?_ | refine kh_normal ?_))
  refine v_loop0 [(9,11),(15,34)] (fun s : Nat × Nat => [(9, .int .i64 s.1), (10, .int .i64 s.2)]) (fun s => s.1 ≤ s.2 ∧ s.2 ≤ l.length ∧ (∀ q, q < s.1 → key (l.getD q Flat.dflt) < k) ∧ (∀ q, s.2 ≤ q → q < l.length → ¬ key (l.getD q Flat.dflt) < k)) (fun s => s.2 - s.1) (0, l.length) hsL ⟨Nat.zero_le _, Nat.le_refl _, fun q h => absurd h (Nat.not_lt_zero q), fun q h1 h2 => by have : l.length ≤ q := h1; omega⟩ ?_
  rintro ⟨i, j⟩ g ⟨hij, hj, h1, h2⟩
  simp only [sets]
  simp only at hij hj h1 h2
  by_cases hlt : i < j
  · obtain ⟨m, hm⟩ : ∃ m : Nat, ((i : Int) + (j : Int)) / 2 = (m : Int) := ⟨(i + j) / 2, by omega⟩
    have hmi : i ≤ m ∧ m < j := by omega
    have hp' := fun w he => hp w he (l.getD m Flat.dflt) (getD_mem (by omega))
    have hcm : cmpI (key (l.getD m Flat.dflt)) k < 0 ↔ key (l.getD m Flat.dflt) < k := by unfold cmpI; split <;> (try split) <;> omega
    by_cases hk : key (l.getD m Flat.dflt) < k
    · have hneg := hcm.2 hk
      have h1' : ∀ q, q < m + 1 → key (l.getD q Flat.dflt) < k := fun q hq => by
        by_cases e : q = m
        · rw [e]; exact hk
        · have := rising_at Flat.dflt hR (show q < m by omega) (by omega); omega
      clear h1 hcm hR hk
      (repeat' ((fail_if_success (show VH _ _ (.seq (.region 5 _ _) _) _ _ _ _)); first | (show VH _ _ _ _ _ _ _; first | refine v_seq ?_ | refine r_seq ?_ | refine v_block ?_ | refine v_skip ?_ | refine v_cond_t rfl tbL ?_) | (show SH _ _ _ _ _ (_ :: _) _ _ _; first | (show SH _ _ _ _ _ (⟨_, .move _, _, _, _, _⟩ :: _) _ _ _; refine mov evL ?_) | (show SH _ _ _ _ _ (⟨_, .assign _, _, _, _, _⟩ :: _) _ _ _; refine asg evL ?_) | (show SH _ _ _ _ _ (⟨_, .binOp .lss _ _ _ _, _, _, _, _⟩ :: _) _ _ _; refine lssT rfl rfl omD ?_) | (show SH _ _ _ _ _ (⟨_, .binOp .add _ _ _ _, _, _, _, _⟩ :: _) _ _ _; refine add rfl rfl inL ?_) | refine sh1 rfl rfl ?_ | (show SH _ _ _ _ _ (⟨_, .convert _ _ _, _, _, _, _⟩ :: _) _ _ _; first | refine c64 rfl inL ?_ | refine cu64 rfl omL omL ?_)) | refine s_nil ?_ | refine kh_normal ?_))
      rw [hm]
      (repeat' (first | (show VH _ _ _ _ _ _ _; first | refine v_seq ?_ | refine r_seq ?_ | refine v_cond_t rfl tbL ?_) | (show SH _ _ _ _ _ (_ :: _) _ _ _; first | (show SH _ _ _ _ _ (⟨_, .move _, _, _, _, _⟩ :: _) _ _ _; refine mov evL ?_) | (show SH _ _ _ _ _ (⟨_, .assign _, _, _, _, _⟩ :: _) _ _ _; refine asg evL ?_) | (show SH _ _ _ _ _ (⟨_, .binOp .lss _ _ _ _, _, _, _, _⟩ :: _) _ _ _; refine lssT rfl rfl omD ?_) | (show SH _ _ _ _ _ (⟨_, .binOp .add _ _ _ _, _, _, _, _⟩ :: _) _ _ _; refine add rfl rfl inL ?_) | (show SH _ _ _ _ _ (⟨_, .load _ _, _, _, _, _⟩ :: _) _ _ _; first | refine lra rfl (fun _ _ => rdP) (by rfl) omL ?_ | refine lra rfl (fun _ _ => rdP) (by rfl) (by simp only [List.length_cons, List.length_nil]; omega) ?_) | (show SH _ _ _ _ _ (⟨_, .indexAddr _ _ _, _, _, _, _⟩ :: _) _ _ _; refine ix rfl rfl (by with_reducible rfl) (fun _ _ => rdP) (by rfl) omL omL ?_) | (show SH _ _ _ _ _ (⟨_, .call ⟨.value (.tmp _), _, _⟩, _, _, _, _⟩ :: _) _ _ _; refine cl (callee := .tmp _) rfl (fun w hw => hp' _ hw.ext) rfl rfl ?_)) | refine s_nil ?_ | refine kh_normal ?_ | refine bh_normal ?_))
      exact ⟨agL, (m + 1, j), hsL, enL, ⟨by show m + 1 ≤ j; omega, hj, h1', h2⟩, by show j - (m + 1) < j - i; omega⟩
    · have hneg : ¬ cmpI (key (l.getD m Flat.dflt)) k < 0 := fun h => hk (hcm.1 h)
      have h2' : ∀ q, m ≤ q → q < l.length → ¬ key (l.getD q Flat.dflt) < k := fun q hq hql => by
        by_cases e : q = m
        · rw [e]; exact hk
        · have := rising_at Flat.dflt hR (show m < q by omega) hql; omega
      clear h2 hcm hR hk
      (repeat' ((fail_if_success (show VH _ _ (.seq (.region 5 _ _) _) _ _ _ _)); first | (show VH _ _ _ _ _ _ _; first | refine v_seq ?_ | refine r_seq ?_ | refine v_block ?_ | refine v_skip ?_ | refine v_cond_t rfl tbL ?_) | (show SH _ _ _ _ _ (_ :: _) _ _ _; first | (show SH _ _ _ _ _ (⟨_, .move _, _, _, _, _⟩ :: _) _ _ _; refine mov evL ?_) | (show SH _ _ _ _ _ (⟨_, .assign _, _, _, _, _⟩ :: _) _ _ _; refine asg evL ?_) | (show SH _ _ _ _ _ (⟨_, .binOp .lss _ _ _ _, _, _, _, _⟩ :: _) _ _ _; refine lssT rfl rfl omD ?_) | (show SH _ _ _ _ _ (⟨_, .binOp .add _ _ _ _, _, _, _, _⟩ :: _) _ _ _; refine add rfl rfl inL ?_) | refine sh1 rfl rfl ?_ | (show SH _ _ _ _ _ (⟨_, .convert _ _ _, _, _, _, _⟩ :: _) _ _ _; first | refine c64 rfl inL ?_ | refine cu64 rfl omL omL ?_)) | refine s_nil ?_ | refine kh_normal ?_))
      rw [hm]
      (repeat' (first | (show VH _ _ _ _ _ _ _; first | refine v_seq ?_ | refine r_seq ?_ | refine v_cond_f rfl tbL ?_) | (show SH _ _ _ _ _ (_ :: _) _ _ _; first | (show SH _ _ _ _ _ (⟨_, .move _, _, _, _, _⟩ :: _) _ _ _; refine mov evL ?_) | (show SH _ _ _ _ _ (⟨_, .assign _, _, _, _, _⟩ :: _) _ _ _; refine asg evL ?_) | (show SH _ _ _ _ _ (⟨_, .binOp .lss _ _ _ _, _, _, _, _⟩ :: _) _ _ _; refine lssF rfl rfl omD ?_) | (show SH _ _ _ _ _ (⟨_, .load _ _, _, _, _, _⟩ :: _) _ _ _; first | refine lra rfl (fun _ _ => rdP) (by rfl) omL ?_ | refine lra rfl (fun _ _ => rdP) (by rfl) (by simp only [List.length_cons, List.length_nil]; omega) ?_) | (show SH _ _ _ _ _ (⟨_, .indexAddr _ _ _, _, _, _, _⟩ :: _) _ _ _; refine ix rfl rfl (by with_reducible rfl) (fun _ _ => rdP) (by rfl) omL omL ?_) | (show SH _ _ _ _ _ (⟨_, .call ⟨.value (.tmp _), _, _⟩, _, _, _, _⟩ :: _) _ _ _; refine cl (callee := .tmp _) rfl (fun w hw => hp' _ hw.ext) rfl rfl ?_)) | refine s_nil ?_ | refine kh_normal ?_ | refine bh_normal ?_))
      exact ⟨agL, (i, m), hsL, enL, ⟨by show i ≤ m; omega, by show m ≤ _; omega, h1, h2'⟩, by show m - i < j - i; omega⟩
  · have hji : i = j := by omega
    subst hji
    have hlb : lbK key k l = i := lbK_eq Flat.dflt key k l i hj h1 (fun h => h2 i (Nat.le_refl _) h)
    unfold hasK
    rw [hlb]
    clear hlb h1 h2 hR
    by_cases hil : i < l.length
    · have hp' := fun w he => hp w he (l.getD i Flat.dflt) (getD_mem hil)
      have hcm : cmpI (key (l.getD i Flat.dflt)) k = 0 ↔ key (l.getD i Flat.dflt) = k := by unfold cmpI; split <;> (try split) <;> omega
      rw [decide_eq_true hil, Bool.true_and]
      by_cases hk : key (l.getD i Flat.dflt) = k
      · have h0 := hcm.2 hk
        rw [decide_eq_true hk]
        clear hcm hk
        (repeat' (first | (show VH _ _ _ _ _ _ _; first | refine v_seq ?_ | refine r_seq ?_ | refine v_ret ?_ | refine v_exit ?_ | refine v_cond_f rfl tbL ?_) | (show SH _ _ _ _ _ (_ :: _) _ _ _; first | (show SH _ _ _ _ _ (⟨_, _, _, _, _, some _⟩ :: _) _ _ _; (refine gif rfl rfl ?_; refine giTT tbL ?_)) | (show SH _ _ _ _ _ (⟨_, .move _, _, _, _, _⟩ :: _) _ _ _; refine mov evL ?_) | (show SH _ _ _ _ _ (⟨_, .assign _, _, _, _, _⟩ :: _) _ _ _; refine asg evL ?_) | (show SH _ _ _ _ _ (⟨_, .binOp .lss _ _ _ _, _, _, _, _⟩ :: _) _ _ _; first | refine lssT rfl rfl omD ?_ | refine lssF rfl rfl omD ?_) | (show SH _ _ _ _ _ (⟨_, .binOp .eql _ _ _ _, _, _, _, _⟩ :: _) _ _ _; refine eqlT rfl rfl omD ?_) | (show SH _ _ _ _ _ (⟨_, .load _ _, _, _, _, _⟩ :: _) _ _ _; first | refine lra rfl (fun _ _ => rdP) (by rfl) omL ?_ | refine lra rfl (fun _ _ => rdP) (by rfl) (by simp only [List.length_cons, List.length_nil]; omega) ?_) | (show SH _ _ _ _ _ (⟨_, .indexAddr _ _ _, _, _, _, _⟩ :: _) _ _ _; refine ix rfl rfl (by with_reducible rfl) (fun _ _ => rdP) (by rfl) omL omL ?_) | (show SH _ _ _ _ _ (⟨_, .call ⟨.value (.tmp _), _, _⟩, _, _, _, _⟩ :: _) _ _ _; refine cl (callee := .tmp _) rfl (fun w hw => hp' _ hw.ext) rfl rfl ?_) | (show SH _ _ _ _ _ (⟨_, .pick _ _ _, _, _, _, _⟩ :: _) _ _ _; refine pkt rfl tbL evL ?_)) | refine s_nil ?_ | refine kh_normal ?_ | refine kh_exit ?_ | refine bh_exit ?_))
        exact rh2 rfl rfl rfl ⟨rfl, rfl⟩ (ent_nil _)
      · have h0 : ¬ cmpI (key (l.getD i Flat.dflt)) k = 0 := fun h => hk (hcm.1 h)
        rw [decide_eq_false hk]
        clear hcm hk
        (repeat' (first | (show VH _ _ _ _ _ _ _; first | refine v_seq ?_ | refine r_seq ?_ | refine v_ret ?_ | refine v_exit ?_ | refine v_cond_f rfl tbL ?_) | (show SH _ _ _ _ _ (_ :: _) _ _ _; first | (show SH _ _ _ _ _ (⟨_, _, _, _, _, some _⟩ :: _) _ _ _; (refine gif rfl rfl ?_; refine giTT tbL ?_)) | (show SH _ _ _ _ _ (⟨_, .move _, _, _, _, _⟩ :: _) _ _ _; refine mov evL ?_) | (show SH _ _ _ _ _ (⟨_, .assign _, _, _, _, _⟩ :: _) _ _ _; refine asg evL ?_) | (show SH _ _ _ _ _ (⟨_, .binOp .lss _ _ _ _, _, _, _, _⟩ :: _) _ _ _; first | refine lssT rfl rfl omD ?_ | refine lssF rfl rfl omD ?_) | (show SH _ _ _ _ _ (⟨_, .binOp .eql _ _ _ _, _, _, _, _⟩ :: _) _ _ _; refine eqlF rfl rfl omD ?_) | (show SH _ _ _ _ _ (⟨_, .load _ _, _, _, _, _⟩ :: _) _ _ _; first | refine lra rfl (fun _ _ => rdP) (by rfl) omL ?_ | refine lra rfl (fun _ _ => rdP) (by rfl) (by simp only [List.length_cons, List.length_nil]; omega) ?_) | (show SH _ _ _ _ _ (⟨_, .indexAddr _ _ _, _, _, _, _⟩ :: _) _ _ _; refine ix rfl rfl (by with_reducible rfl) (fun _ _ => rdP) (by rfl) omL omL ?_) | (show SH _ _ _ _ _ (⟨_, .call ⟨.value (.tmp _), _, _⟩, _, _, _, _⟩ :: _) _ _ _; refine cl (callee := .tmp _) rfl (fun w hw => hp' _ hw.ext) rfl rfl ?_) | (show SH _ _ _ _ _ (⟨_, .pick _ _ _, _, _, _, _⟩ :: _) _ _ _; refine pkt rfl tbL evL ?_)) | refine s_nil ?_ | refine kh_normal ?_ | refine kh_exit ?_ | refine bh_exit ?_))
        exact rh2 rfl rfl rfl ⟨rfl, rfl⟩ (ent_nil _)
    · rw [decide_eq_false hil, Bool.false_and]
      (repeat' (first | (show VH _ _ _ _ _ _ _; first | refine v_seq ?_ | refine r_seq ?_ | refine v_ret ?_ | refine v_exit ?_ | refine v_cond_f rfl tbL ?_) | (show SH _ _ _ _ _ (_ :: _) _ _ _; first | (show SH _ _ _ _ _ (⟨_, _, _, _, _, some _⟩ :: _) _ _ _; (refine gif rfl rfl ?_; refine giTF tbL ?_)) | (show SH _ _ _ _ _ (⟨_, .move _, _, _, _, _⟩ :: _) _ _ _; refine mov evL ?_) | (show SH _ _ _ _ _ (⟨_, .assign _, _, _, _, _⟩ :: _) _ _ _; refine asg evL ?_) | (show SH _ _ _ _ _ (⟨_, .binOp .lss _ _ _ _, _, _, _, _⟩ :: _) _ _ _; refine lssF rfl rfl omD ?_) | (show SH _ _ _ _ _ (⟨_, .pick _ _ _, _, _, _, _⟩ :: _) _ _ _; refine pkf rfl tbL evL ?_)) | refine s_nil ?_ | refine kh_normal ?_ | refine kh_exit ?_ | refine bh_exit ?_))
      exact rh2 rfl rfl rfl ⟨rfl, rfl⟩ (ent_nil _)
set_option maxHeartbeats 1000000 in
set_option maxRecDepth 100000 in
theorem deleteP_spec (A : Option Addr) (l : List PtyP) (cp i : Nat) (w0 : World) (H : List HP) (w : World) (hi : i < l.length) (hl : l.length ≤ 1000000) (hw : Wd w0 (orow 46 A cp l :: H) w) :
    Ret Tryz.prog 106 [.slice A l.length cp, .int .i64 i, .int .i64 (i + 1)].toArray w (RP w0 fun v H' => v = .slice A (l.eraseIdx i).length cp ∧ H' = orow 46 A cp (l.eraseIdx i) :: H) := by
  refine enterH Tryz.func106 rfl rfl Tryz.ntmps106 rfl (by assumption) ?_
  refine v_cap (l := l) spL (fun hc => ?_)
  (repeat' (first | (show VH _ _ _ _ _ _ _; first | refine v_seq ?_ | refine r_seq ?_) | (show SH _ _ _ _ _ (_ :: _) _ _ _; first | (show SH _ _ _ _ _ (⟨_, .move _, _, _, _, _⟩ :: _) _ _ _; refine mov evL ?_) | (show SH _ _ _ _ _ (⟨_, .assign _, _, _, _, _⟩ :: _) _ _ _; refine asg evL ?_) | refine slen rfl ?_) | refine s_nil ?_ | refine kh_normal ?_))
  refine sl3 rfl rfl rfl rfl (by omega) (by omega) (by omega) (by omega) ?_
  (repeat' (first | (show VH _ _ _ _ _ _ _; first | refine v_seq ?_ | refine r_seq ?_ | refine v_skip ?_ | refine v_cond_f rfl tbL ?_) | (show SH _ _ _ _ _ (_ :: _) _ _ _; first | (show SH _ _ _ _ _ (⟨_, .move _, _, _, _, _⟩ :: _) _ _ _; refine mov evL ?_) | (show SH _ _ _ _ _ (⟨_, .assign _, _, _, _, _⟩ :: _) _ _ _; refine asg evL ?_) | (show SH _ _ _ _ _ (⟨_, .binOp .eql _ _ _ _, _, _, _, _⟩ :: _) _ _ _; refine eqlF rfl rfl omD ?_) | refine slen rfl ?_) | refine s_nil ?_ | refine kh_normal ?_))
  refine r_held [] [(0, true), (1, true), (2, true), (3, true), (4, false), (5, false), (6, false), (7, false)] hmix (by kernel_rfl) enL ?_
  (repeat' ((show SH _ _ _ _ _ (_ :: _) _ _ _; first | (show SH _ _ _ _ _ (⟨_, .move _, _, _, _, _⟩ :: _) _ _ _; refine mov evL ?_) | (show SH _ _ _ _ _ (⟨_, .slice _ _ _ _ _, _, _, _, _⟩ :: _) _ _ _; first | refine slh rfl rfl omL omL ?_ | refine sll rfl rfl omL omL ?_))))
  refine appIn (L := l) (i := i) (j := i + 1) (kk := l.length - (i + 1)) rfl rfl rfl rfl spL (fun w hw => Rd.from (hw.rd spL) (i + 1) hc) rfl (by omega) (by omega) (by omega) (ent_nil _) ?_
  have hL : (l.take i ++ l.drop (i + 1) ++ l.drop (i + (l.length - (i + 1)))).length = l.length := by
    simp only [List.length_append, List.length_take, List.length_drop]; omega
  have hE : (l.take i ++ l.drop (i + 1) ++ l.drop (i + (l.length - (i + 1)))).take (i + (l.length - (i + 1))) = l.eraseIdx i := by
    rw [List.eraseIdx_eq_take_drop_succ, List.take_left' (by simp only [List.length_append, List.length_take, List.length_drop]; omega)]
  have hEl : (l.eraseIdx i).length = i + (l.length - (i + 1)) := by rw [← hE, List.length_take, hL]; omega
  generalize l.take i ++ l.drop (i + 1) ++ l.drop (i + (l.length - (i + 1))) = L at hL hE ⊢
  (repeat' (first | (show VH _ _ _ _ _ _ _; first | refine v_seq ?_ | refine r_seq ?_) | (show SH _ _ _ _ _ (_ :: _) _ _ _; first | (show SH _ _ _ _ _ (⟨_, .move _, _, _, _, _⟩ :: _) _ _ _; refine mov evL ?_) | (show SH _ _ _ _ _ (⟨_, .assign _, _, _, _, _⟩ :: _) _ _ _; refine asg evL ?_) | refine slen rfl ?_) | refine s_nil ?_ | refine kh_normal ?_))
  refine sl2 rfl rfl rfl (by omega) (by omega) (by omega) ?_
  (repeat' (first | (show VH _ _ _ _ _ _ _; first | refine v_seq ?_ | refine r_seq ?_ | refine r_quiet hmix (by kernel_rfl) ?_ | refine v_block ?_ | refine v_ret ?_ | refine v_skip ?_ | refine v_exit ?_ | refine v_label ?_ | refine v_cond_t rfl tbL ?_ | refine v_cond_f rfl tbL ?_ | refine v_cond_dec rfl (fun h => ?_) (fun h => ?_) | refine v_cond_ndec rfl (fun h => ?_) (fun h => ?_) | refine v_cond rfl (fun h => ?_) (fun h => ?_)) | (show SH _ _ _ _ _ (_ :: _) _ _ _; first | (show SH _ _ _ _ _ (⟨_, .move _, _, _, _, _⟩ :: _) _ _ _; refine mov evL ?_) | (show SH _ _ _ _ _ (⟨_, .assign _, _, _, _, _⟩ :: _) _ _ _; refine asg evL ?_) | (show SH _ _ _ _ _ (⟨_, .binOp .eql _ _ _ _, _, _, _, _⟩ :: _) _ _ _; first | refine eqlT rfl rfl omD ?_ | refine eqlF rfl rfl omD ?_ | refine eql rfl rfl ?_ | refine eqn rfl rfl ?_ | refine eqb rfl rfl ?_) | refine slen rfl ?_ | (show SH _ _ _ _ _ (⟨_, .slice _ _ _ _ _, _, _, _, _⟩ :: _) _ _ _; first | refine sla rfl rfl omL omL ?_ | refine slh rfl rfl omL omL ?_ | refine sll rfl rfl omL omL ?_)) | refine s_nil ?_ | refine s_fork ?_ ?_ | refine s_fork3 ?_ ?_ ?_ | refine s_fork4 ?_ ?_ ?_ ?_ | refine kh_normal ?_ | refine kh_ret ?_ | refine kh_exit ?_ | refine bh_normal ?_ | refine bh_ret ?_ | refine bh_exit ?_ | refine bh_exit_ne rfl ?_))
  refine clrG (α := PtyP) (by rfl) (by rfl) (by rfl) rfl rfl spL (j := i + (l.length - (i + 1))) (by rfl) (by rw [hL]; rfl) (by omega) trivial ?_
  rw [hE]
  (repeat' (first | (show VH _ _ _ _ _ _ _; first | refine v_seq ?_ | refine r_seq ?_ | refine v_ret ?_) | (show SH _ _ _ _ _ (_ :: _) _ _ _; first | (show SH _ _ _ _ _ (⟨_, .move _, _, _, _, _⟩ :: _) _ _ _; refine mov evL ?_) | (show SH _ _ _ _ _ (⟨_, .assign _, _, _, _, _⟩ :: _) _ _ _; refine asg evL ?_)) | refine s_nil ?_ | refine kh_normal ?_))
  exact rh1 rfl rfl ⟨congrArg (fun m => Value.slice A m cp) hEl.symm, rfl⟩ (ent_refl _)
set_option maxHeartbeats 2000000 in
set_option maxRecDepth 100000 in
theorem insertI_spec (A : Option Addr) (l : List Inv) (cp i bv : Nat) (c : Inv) (w0 : World) (H : List HP) (w : World) (hi : i ≤ l.length) (hl : l.length ≤ 1000000) (hw : Wd w0 (orow 61 A cp l :: orow 61 (some ⟨bv, 0, none⟩) 1 [c] :: H) w) :
    Ret Tryz.prog 49 [.slice A l.length cp, .int .i64 i, .slice (some ⟨bv, 0, none⟩) 1 1].toArray w (RP w0 fun v H' => ∃ A' cp', v = .slice A' (l.take i ++ c :: l.drop i).length cp' ∧ H' = orow 61 A' cp' (l.take i ++ c :: l.drop i) :: H) := by
  have hLn : (l.take i ++ c :: l.drop i).length = l.length + 1 := by
    simp only [List.length_append, List.length_cons, List.length_take, List.length_drop]; omega
  refine enterH Tryz.func49 rfl rfl Tryz.ntmps49 rfl (by assumption) ?_
  refine v_cap (l := l) spL (fun hc => ?_)
  by_cases hin : i = l.length
  · have hE : l.take i ++ c :: l.drop i = l ++ [c] := by rw [hin]; simp
    rw [hE]
    clear hE hLn
    (repeat' (first | (show VH _ _ _ _ _ _ _; first | refine v_seq ?_ | refine r_seq ?_ | refine v_skip ?_ | refine v_cond_t rfl tbL ?_ | refine v_cond_f rfl tbL ?_) | (show SH _ _ _ _ _ (_ :: _) _ _ _; first | (show SH _ _ _ _ _ (⟨_, .move _, _, _, _, _⟩ :: _) _ _ _; refine mov evL ?_) | (show SH _ _ _ _ _ (⟨_, .assign _, _, _, _, _⟩ :: _) _ _ _; refine asg evL ?_) | (show SH _ _ _ _ _ (⟨_, .binOp .eql _ _ _ _, _, _, _, _⟩ :: _) _ _ _; first | refine eqlT rfl rfl omD ?_ | refine eqlF rfl rfl omD ?_) | refine slen rfl ?_ | (show SH _ _ _ _ _ (⟨_, .slice _ _ _ _ _, _, _, _, _⟩ :: _) _ _ _; refine sll rfl rfl omL omL ?_)) | refine s_nil ?_ | refine kh_normal ?_))
    refine app (l := l) (l2 := [c]) rfl rfl rfl spL (fun w hw => hw.rd spL) rfl rfl rfl (by simp only [List.length_cons, List.length_nil]; omega) (by simp only [List.length_cons, List.length_nil]; omega) (fun A' c' => ⟨trivial, ?_⟩)
    (repeat' (first | refine v_ret ?_ | (show SH _ _ _ _ _ (_ :: _) _ _ _; (show SH _ _ _ _ _ (⟨_, .assign _, _, _, _, _⟩ :: _) _ _ _; refine asg evL ?_)) | refine s_nil ?_ | refine kh_normal ?_ | refine kh_ret ?_))
    exact rh1 rfl rfl ⟨A', c', rfl, rfl⟩ (ent_cons Split.head (ent_drop (ent_refl _)))
  · by_cases hg : cp < l.length + 1
    · (repeat' (first | (show VH _ _ _ _ _ _ _; first | refine v_seq ?_ | refine r_seq ?_ | refine v_skip ?_ | refine v_cond_f rfl tbL ?_) | (show SH _ _ _ _ _ (_ :: _) _ _ _; first | (show SH _ _ _ _ _ (⟨_, .move _, _, _, _, _⟩ :: _) _ _ _; refine mov evL ?_) | (show SH _ _ _ _ _ (⟨_, .assign _, _, _, _, _⟩ :: _) _ _ _; refine asg evL ?_) | (show SH _ _ _ _ _ (⟨_, .binOp .eql _ _ _ _, _, _, _, _⟩ :: _) _ _ _; refine eqlF rfl rfl omD ?_) | (show SH _ _ _ _ _ (⟨_, .binOp .add _ _ _ _, _, _, _, _⟩ :: _) _ _ _; refine add rfl rfl inL ?_) | refine slen rfl ?_ | (show SH _ _ _ _ _ (⟨_, .slice _ _ _ _ _, _, _, _, _⟩ :: _) _ _ _; refine sll rfl rfl omL omL ?_)) | refine s_nil ?_ | refine kh_normal ?_))
      refine bcp rfl ?_
      (repeat' (first | (show VH _ _ _ _ _ _ _; first | refine v_seq ?_ | refine r_seq ?_ | refine v_cond_t rfl tbL ?_) | (show SH _ _ _ _ _ (_ :: _) _ _ _; first | (show SH _ _ _ _ _ (⟨_, .move _, _, _, _, _⟩ :: _) _ _ _; refine mov evL ?_) | (show SH _ _ _ _ _ (⟨_, .binOp .gtr _ _ _ _, _, _, _, _⟩ :: _) _ _ _; refine gtrT rfl rfl omD ?_) | (show SH _ _ _ _ _ (⟨_, .binOp .add _ _ _ _, _, _, _, _⟩ :: _) _ _ _; refine add rfl rfl inL ?_) | (show SH _ _ _ _ _ (⟨_, .binOp .sub _ _ _ _, _, _, _, _⟩ :: _) _ _ _; refine sub rfl rfl inL ?_) | (show SH _ _ _ _ _ (⟨_, .slice _ _ _ _ _, _, _, _, _⟩ :: _) _ _ _; refine slh rfl rfl omL omL ?_)) | refine s_nil ?_ | refine kh_normal ?_))
      refine appz (α := Inv) (i := i) (k := l.length + 1 - i) (l := l.take i) (z := .agg #[.int .i64 0, .int .i64 0]) rfl rfl (congrArg (Value.int .i64) (by omega)) (fun w hw => (hw.rd spL).take i) (by rw [List.length_take]; omega) (by kernel_rfl) rfl rfl (by omega) (by omega) (by omega) (by omega) (by omega) (by omega) (fun A2 cp2 => ?_)
      (repeat' ((fail_if_success (show VH _ _ (.seq (.region 10 _ _) _) _ _ _ _)); first | (show SH _ _ _ _ _ (_ :: _) _ _ _; (show SH _ _ _ _ _ (⟨_, .assign _, _, _, _, _⟩ :: _) _ _ _; refine asg evL ?_)) | refine s_nil ?_ | refine kh_normal ?_))
      refine v_cap (A := A2) spL (fun hc2 => ?_)
      have hLr : (l.take i ++ List.replicate (l.length + 1 - i) (Flat.dflt : Inv)).length = l.length + 1 := by
        simp only [List.length_append, List.length_take, List.length_replicate]; omega
      obtain ⟨L, hL⟩ : ∃ L, l.take i ++ List.replicate (l.length + 1 - i) (Flat.dflt : Inv) = L := ⟨_, rfl⟩
      have hLt : L.take i = l.take i := by rw [← hL, List.take_left' (by rw [List.length_take]; omega)]
      rw [hL] at hLr hc2 ⊢
      clear hL
      (repeat' (first | (show VH _ _ _ _ _ _ _; first | refine v_seq ?_ | refine r_seq ?_) | (show SH _ _ _ _ _ (_ :: _) _ _ _; first | (show SH _ _ _ _ _ (⟨_, .move _, _, _, _, _⟩ :: _) _ _ _; refine mov evL ?_) | (show SH _ _ _ _ _ (⟨_, .slice _ _ _ _ _, _, _, _, _⟩ :: _) _ _ _; refine sll rfl rfl omL omL ?_))))
      refine cpyL (A := A2) (o := i) (V := [c]) (kk := 1) rfl rfl rfl rfl spL (if_neg (by omega)) (fun w hw => hw.rd spL) (by omega) rfl (by omega) (by omega) trivial ?_
      rw [hLt]
      have hM : (l.take i ++ [c] ++ L.drop (i + 1)).length = l.length + 1 := by
        simp only [List.length_append, List.length_take, List.length_drop, List.length_cons, List.length_nil]; omega
      have hMt : (l.take i ++ [c] ++ L.drop (i + 1)).take (i + 1) = l.take i ++ [c] := List.take_left' (by simp only [List.length_append, List.length_take, List.length_cons, List.length_nil]; omega)
      obtain ⟨M, hMM⟩ : ∃ M, l.take i ++ [c] ++ L.drop (i + 1) = M := ⟨_, rfl⟩
      rw [hMM] at hM hMt ⊢
      clear hMM hLt
      (repeat' (first | refine v_seq ?_ | refine s_nil ?_ | refine kh_normal ?_))
      refine r_held [] [(0, true), (1, true), (2, true), (3, true), (4, true), (5, true), (6, false), (7, false), (8, false)] hmix (by kernel_rfl) (ent_nil _) ?_
      (repeat' ((show SH _ _ _ _ _ (_ :: _) _ _ _; first | (show SH _ _ _ _ _ (⟨_, .move _, _, _, _, _⟩ :: _) _ _ _; refine mov evL ?_) | (show SH _ _ _ _ _ (⟨_, .binOp .add _ _ _ _, _, _, _, _⟩ :: _) _ _ _; refine add rfl rfl inL ?_) | (show SH _ _ _ _ _ (⟨_, .slice _ _ _ _ _, _, _, _, _⟩ :: _) _ _ _; refine sll rfl rfl omL omL ?_))))
      refine cpyL (A := A2) (o := i + 1) (V := l.drop i) (kk := l.length - i) rfl rfl rfl rfl spL (if_neg (by omega)) (fun w hw => Rd.from (hw.rd spL) i hc) (by omega) (by rw [List.length_drop]) (by omega) (by omega) (ent_nil _) ?_
      have hE : M.take (i + 1) ++ l.drop i ++ M.drop (i + 1 + (l.length - i)) = l.take i ++ c :: l.drop i := by
        have hMd : M.drop (i + 1 + (l.length - i)) = [] := List.drop_of_length_le (by omega)
        rw [hMt, hMd]; simp
      rw [hE]
      (repeat' (first | (show VH _ _ _ _ _ _ _; first | refine v_seq ?_ | refine r_seq ?_ | refine v_ret ?_) | (show SH _ _ _ _ _ (_ :: _) _ _ _; first | (show SH _ _ _ _ _ (⟨_, .move _, _, _, _, _⟩ :: _) _ _ _; refine mov evL ?_) | (show SH _ _ _ _ _ (⟨_, .assign _, _, _, _, _⟩ :: _) _ _ _; refine asg evL ?_)) | refine s_nil ?_ | refine kh_normal ?_ | refine kh_ret ?_))
      exact rh1 rfl rfl ⟨A2, cp2, congrArg (fun m => Value.slice A2 m cp2) (by omega), rfl⟩ (ent_cons Split.head (ent_drop (ent_drop (ent_refl _))))
    · have hil : i < l.length := by omega
      (repeat' (first | (show VH _ _ _ _ _ _ _; first | refine v_seq ?_ | refine r_seq ?_ | refine v_skip ?_ | refine v_cond_f rfl tbL ?_) | (show SH _ _ _ _ _ (_ :: _) _ _ _; first | (show SH _ _ _ _ _ (⟨_, .move _, _, _, _, _⟩ :: _) _ _ _; refine mov evL ?_) | (show SH _ _ _ _ _ (⟨_, .assign _, _, _, _, _⟩ :: _) _ _ _; refine asg evL ?_) | (show SH _ _ _ _ _ (⟨_, .binOp .eql _ _ _ _, _, _, _, _⟩ :: _) _ _ _; refine eqlF rfl rfl omD ?_) | (show SH _ _ _ _ _ (⟨_, .binOp .add _ _ _ _, _, _, _, _⟩ :: _) _ _ _; refine add rfl rfl inL ?_) | refine slen rfl ?_ | (show SH _ _ _ _ _ (⟨_, .slice _ _ _ _ _, _, _, _, _⟩ :: _) _ _ _; refine sll rfl rfl omL omL ?_)) | refine s_nil ?_ | refine kh_normal ?_))
      refine bcp rfl ?_
      (repeat' ((fail_if_success (show VH _ _ (.seq (.region 13 _ _) _) _ _ _ _)); first | (show VH _ _ _ _ _ _ _; first | refine v_skip ?_ | refine v_cond_f rfl tbL ?_) | (show SH _ _ _ _ _ (_ :: _) _ _ _; (show SH _ _ _ _ _ (⟨_, .binOp .gtr _ _ _ _, _, _, _, _⟩ :: _) _ _ _; refine gtrF rfl rfl omD ?_)) | refine s_nil ?_ | refine kh_normal ?_))
      refine v_room (l := l) spL (by omega) (fun xs hxs => ?_)
      (repeat' ((fail_if_success (show VH _ _ (.seq (.region 15 _ _) _) _ _ _ _)); first | (show VH _ _ _ _ _ _ _; first | refine v_seq ?_ | refine r_seq ?_) | (show SH _ _ _ _ _ (_ :: _) _ _ _; first | (show SH _ _ _ _ _ (⟨_, .move _, _, _, _, _⟩ :: _) _ _ _; refine mov evL ?_) | (show SH _ _ _ _ _ (⟨_, .assign _, _, _, _, _⟩ :: _) _ _ _; refine asg evL ?_) | (show SH _ _ _ _ _ (⟨_, .binOp .add _ _ _ _, _, _, _, _⟩ :: _) _ _ _; refine add rfl rfl inL ?_) | (show SH _ _ _ _ _ (⟨_, .slice _ _ _ _ _, _, _, _, _⟩ :: _) _ _ _; first | refine slh rfl rfl omL omL ?_ | refine sll rfl rfl omL omL ?_)) | refine s_nil ?_ | refine kh_normal ?_))
      refine ovl (t := 44) (tR := 4) (by decide) Tryz.func88 (by kernel_rfl) (by kernel_rfl) (by kernel_rfl) (by kernel_rfl) rfl rfl (if_neg (by omega)) Split.head Split.head (by omega) ?_
      (repeat' (first | (show VH _ _ _ _ _ _ _; first | refine v_seq ?_ | refine v_cond_t rfl tbL ?_) | refine bnoF rfl ?_ | refine s_nil ?_ | refine kh_normal ?_))
      refine r_held [] [(0, true), (1, true), (2, true), (3, true), (4, true), (5, true), (6, false), (7, false), (8, false)] hmix (by kernel_rfl) (ent_nil _) ?_
      (repeat' ((show SH _ _ _ _ _ (_ :: _) _ _ _; first | (show SH _ _ _ _ _ (⟨_, .move _, _, _, _, _⟩ :: _) _ _ _; refine mov evL ?_) | (show SH _ _ _ _ _ (⟨_, .binOp .add _ _ _ _, _, _, _, _⟩ :: _) _ _ _; refine add rfl rfl inL ?_) | (show SH _ _ _ _ _ (⟨_, .slice _ _ _ _ _, _, _, _, _⟩ :: _) _ _ _; refine sll rfl rfl omL omL ?_))))
      refine cpyS (l := l) (i := i) rfl rfl rfl rfl Split.head hxs hil (if_neg (by omega)) (if_neg (by omega)) (by omega) (ent_nil _) ?_
      have hM : (l.take (i + 1) ++ l.drop i).length = l.length + 1 := by
        simp only [List.length_append, List.length_take, List.length_drop]; omega
      have hMt : (l.take (i + 1) ++ l.drop i).take i = l.take i := by
        rw [List.take_append_of_le_length (by rw [List.length_take]; omega), List.take_take, Nat.min_eq_left (by omega)]
      have hMd : (l.take (i + 1) ++ l.drop i).drop (i + 1) = l.drop i := List.drop_left' (by rw [List.length_take]; omega)
      obtain ⟨M, hMM⟩ : ∃ M, l.take (i + 1) ++ l.drop i = M := ⟨_, rfl⟩
      rw [hMM] at hM hMt hMd ⊢
      clear hMM
      (repeat' (first | (show VH _ _ _ _ _ _ _; first | refine v_seq ?_ | refine r_seq ?_) | (show SH _ _ _ _ _ (_ :: _) _ _ _; first | (show SH _ _ _ _ _ (⟨_, .move _, _, _, _, _⟩ :: _) _ _ _; refine mov evL ?_) | (show SH _ _ _ _ _ (⟨_, .slice _ _ _ _ _, _, _, _, _⟩ :: _) _ _ _; refine sll rfl rfl omL omL ?_)) | refine s_nil ?_ | refine kh_normal ?_))
      refine cpyL (A := A) (L := M) (o := i) (V := [c]) (kk := 1) rfl rfl rfl rfl spL (if_neg (by omega)) (fun w hw => hw.rd spL) (by omega) rfl (by omega) (by omega) trivial ?_
      have hE : M.take i ++ [c] ++ M.drop (i + 1) = l.take i ++ c :: l.drop i := by
        rw [hMt, hMd]; simp
      rw [hE]
      (repeat' (first | (show VH _ _ _ _ _ _ _; first | refine v_seq ?_ | refine r_seq ?_ | refine v_ret ?_) | (show SH _ _ _ _ _ (_ :: _) _ _ _; first | (show SH _ _ _ _ _ (⟨_, .move _, _, _, _, _⟩ :: _) _ _ _; refine mov evL ?_) | (show SH _ _ _ _ _ (⟨_, .assign _, _, _, _, _⟩ :: _) _ _ _; refine asg evL ?_)) | refine s_nil ?_ | refine kh_normal ?_ | refine kh_ret ?_))
      exact rh1 rfl rfl ⟨A, cp, congrArg (fun m => Value.slice A m cp) (by omega), rfl⟩ (ent_cons Split.head (ent_drop (ent_refl _)))
end Go.Proofs.YtlfbcoohfnoacaaGreat

/- Package party: drop, leave. -/
namespace Go.Proofs.YtlfbcoohfnoacaaGreat
open Go.Fw Go.RowKit
theorem ent_all_erase {f : PtyP → HP} {L : List PtyP} {k : Nat} {G : List HP} (h : k < L.length) : Ent (allH (L.map f) :: G) (allH ((L.eraseIdx k).map f) :: G) := (ent_all_open (d := Flat.dflt) h).trans (ent_drop (ent_refl _))
set_option maxHeartbeats 1000000 in
set_option maxRecDepth 100000 in
theorem drop_spec (t la : Int) (A : Option Addr) (L : List PtyP) (c bh k : Nat) (w0 : World) (H : List HP) (w : World) (hk : k < L.length) (hz : L.length ≤ 1000) (hw : Wd w0 (hallH bh t la A c L H) w) :
    Ret Tryz.prog 80 [.pointer (some ⟨bh, 0, none⟩), .int .i64 k].toArray w (RP w0 fun _ H' => H' = hallH bh t la A c (L.eraseIdx k) H) := by
  refine enterH Tryz.func80 rfl rfl Tryz.ntmps80 rfl (by assumption) ?_
  (repeat' (first | refine r_seq ?_ | (show SH _ _ _ _ _ (_ :: _) _ _ _; first | (show SH _ _ _ _ _ (⟨_, .move _, _, _, _, _⟩ :: _) _ _ _; refine mov evL ?_) | (show SH _ _ _ _ _ (⟨_, .binOp .add _ _ _ _, _, _, _, _⟩ :: _) _ _ _; refine add rfl rfl inL ?_) | (show SH _ _ _ _ _ (⟨_, .load _ _, _, _, _, _⟩ :: _) _ _ _; refine lbx rfl spL (by rfl) ?_) | refine nlc rfl ?_ | refine fad rfl ?_)))
  refine cm rfl (fun w hw => deleteP_spec A L c k w0 (hb36 bh t la A L c :: allH (L.map rowM) :: allH (L.map rowI) :: H) w hk (by omega) (Ent.wd enL hw)) rfl rfl ?_
  rintro _ _ ⟨rfl, rfl⟩
  refine ⟨trivial, ?_⟩
  (repeat' (first | (show SH _ _ _ _ _ (_ :: _) _ _ _; first | refine nlc rfl ?_ | refine fad rfl ?_ | (show SH _ _ _ _ _ (⟨_, .store _ _ _, _, _, _, _⟩ :: _) _ _ _; refine stb rfl rfl evL spL rfl rfl (by first | decide | exact Nat.zero_lt_succ _ | exact of_decide_eq_true rfl) kpL ?_)) | refine s_nil ?_))
  refine rh0n rfl rfl ?_
  refine Ent.trans (B := allH (L.map rowM) :: allH (L.map rowI) :: hb36 bh t la A (L.eraseIdx k) c :: orow 46 A c (L.eraseIdx k) :: H) enL ?_
  exact Ent.trans (ent_all_erase hk) (Ent.trans (ent_cons Split.head (ent_all_erase hk)) enL)
set_option maxRecDepth 100000 in
theorem leave1_spec (n who : Int) (a : Addr) (w : World) (h1 : w.cell? a = some (.int .i64 who)) : Ret Tryz.prog 94 [.int .i64 n, .pointer (some a)].toArray w (Out w (.bool (decide (n = who)))) := by
  refine enterH Tryz.func94 rfl rfl Tryz.ntmps94 rfl (Wd.refl _) ?_
  (repeat' (first | (show VH _ _ _ _ _ _ _; first | refine v_seq ?_ | refine r_seq ?_ | refine v_ret ?_) | (show SH _ _ _ _ _ (_ :: _) _ _ _; first | (show SH _ _ _ _ _ (⟨_, .move _, _, _, _, _⟩ :: _) _ _ _; refine mov evL ?_) | (show SH _ _ _ _ _ (⟨_, .assign _, _, _, _, _⟩ :: _) _ _ _; refine asg evL ?_) | refine eql rfl rfl ?_ | (show SH _ _ _ _ _ (⟨_, .load _ _, _, _, _, _⟩ :: _) _ _ _; refine lcell rfl (fun w hw => hw.ext.cell (by assumption)) ?_)) | refine s_nil ?_ | refine kh_normal ?_))
  exact rh1 rfl rfl ⟨rfl, rfl⟩ (ent_nil _)
theorem set_same {α β : Type} {f : α → β} {L : List α} {k : Nat} {d : α} (hk : k < L.length) : (L.map f).set k (f (L.getD k d)) = L.map f := by
  apply List.ext_getElem (by simp)
  intro i h1 h2
  rw [List.getElem_set]
  split
  · rename_i e; subst e; simp [List.getD_eq_getElem?_getD, hk]
  · rfl
theorem erase_set {α : Type} (L : List α) (k : Nat) (x : α) : (L.set k x).eraseIdx k = L.eraseIdx k := by
  rw [List.eraseIdx_eq_take_drop_succ, List.eraseIdx_eq_take_drop_succ, List.take_set_of_le (Nat.le_refl k), List.drop_set_of_lt (by omega)]
def leaveP (ps : List Pty) (k : Nat) (who : Int) : List Pty :=
  match leftM who (ps.getD k pty0) with
  | none => ps.eraseIdx k
  | some p => ps.set k p
theorem leaveAt_eq (h : Hal) (k : Nat) (who : Int) : leaveAt h k who = ⟨h.tick, h.last, leaveP h.ps k who⟩ := by
  unfold leaveAt leaveP
  cases leftM who (h.ps.getD k pty0) <;> rfl
theorem set_get {L : List PtyP} {k : Nat} (hk : k < L.length) (x : PtyP) : (L.set k x).getD k Flat.dflt = x := by
  rw [List.getD_eq_getElem?_getD, List.getElem?_set_self hk]; rfl
theorem ptys_erase (L : List PtyP) (k : Nat) : ptys (L.eraseIdx k) = (ptys L).eraseIdx k := by
  unfold ptys
  rw [List.eraseIdx_eq_take_drop_succ, List.eraseIdx_eq_take_drop_succ, List.map_append, List.map_take, List.map_drop]
set_option maxHeartbeats 2000000 in
set_option maxRecDepth 100000 in
theorem leave_spec (t la : Int) (A : Option Addr) (L : List PtyP) (c bh k : Nat) (who : Int) (w0 : World) (H : List HP) (w : World) (hk : k < L.length) (hz : SzP L) (hw : Wd w0 (hallH bh t la A c L H) w) :
    Ret Tryz.prog 53 [.pointer (some ⟨bh, 0, none⟩), .int .i64 k, .int .i64 who].toArray w (RP w0 fun _ H' => ∃ L', ptys L' = leaveP (ptys L) k who ∧ H' = hallH bh t la A c L' H) := by
  have hll := hz.len
  have hpk := ptys_at hk
  unfold leaveP leftM
  rw [hpk]
  have hml := hz.atm hk
  obtain ⟨x, hx⟩ : ∃ x, L.getD k Flat.dflt = x := ⟨_, rfl⟩
  have hxE := pty_enc hx
  have hopM : ∀ G, Ent (allH (L.map rowM) :: G) (rowM x :: allH ((L.eraseIdx k).map rowM) :: G) := fun G => by
    have := ent_all_open (f := rowM) (L := L) (k := k) (d := Flat.dflt) (G := G) hk
    rw [hx] at this
    exact this
  have hcM : ∀ y G, Ent (rowM y :: allH ((L.eraseIdx k).map rowM) :: G) (allH ((L.set k y).map rowM) :: G) := fun y G => ent_all_close hk
  have hcI : ∀ y : PtyP, rowI y = rowI x → (L.set k y).map rowI = L.map rowI := fun y hy => by
    rw [List.map_set, hy, ← hx]
    exact set_same (f := rowI) hk
  rw [hx] at hml ⊢
  have hpe := ptys_erase L k
  have hps := ptys_set L k
  clear hx hpk
  obtain ⟨⟨xi, xl, xm, xv⟩, xA, xca, xB, xcb⟩ := x
  simp only at hml hxE hopM hcI ⊢
  unfold rowM at hopM
  obtain ⟨F, hF⟩ : ∃ F, xm.filter (fun n => !decide (n = who)) = F := ⟨_, rfl⟩
  have hFl : F.length ≤ xm.length := by rw [← hF]; exact List.length_filter_le ..
  rw [hF]
  refine enterH Tryz.func53 rfl rfl Tryz.ntmps53 rfl (by assumption) ?_
  (repeat' (first | (show VH _ _ _ _ _ _ _; first | refine v_seq ?_ | refine r_seq ?_) | (show SH _ _ _ _ _ (_ :: _) _ _ _; first | (show SH _ _ _ _ _ (⟨_, .move _, _, _, _, _⟩ :: _) _ _ _; refine mov evL ?_) | (show SH _ _ _ _ _ (⟨_, .assign _, _, _, _, _⟩ :: _) _ _ _; refine asg evL ?_) | (show SH _ _ _ _ _ (⟨_, .load _ _, _, _, _, _⟩ :: _) _ _ _; first | refine lbx rfl spL (by rfl) ?_ | refine lrg rfl (fun _ _ => rdP) (by rfl) omL (by assumption) (by rfl) ?_) | (show SH _ _ _ _ _ (⟨_, .indexAddr _ _ _, _, _, _, _⟩ :: _) _ _ _; refine ix rfl rfl (by with_reducible rfl) (fun _ _ => rdP) (by rfl) omL omL ?_) | refine nlc rfl ?_ | refine fad rfl ?_ | (show SH _ _ _ _ _ (⟨_, .makeFunc _ _ _, _, _, _, _⟩ :: _) _ _ _; refine mf1 evL ?_) | (show SH _ _ _ _ _ (⟨_, .box _ _, _, _, _, _⟩ :: _) _ _ _; refine bxx rfl evL rfl (fun b => ?_))) | refine s_nil ?_ | refine kh_normal ?_))
  revert b
  intro b5
  refine cm rfl (fun w2 hw2 => without_spec xA xm xca _ (fun n => decide (n = who)) w0 (bx b5 3 [.int .i64 who] :: hb36 bh t la A L c :: allH ((L.eraseIdx k).map rowM) :: orow 46 A c L :: allH (L.map rowI) :: H) w2 (by omega) ⟨94, #[], #[.pointer (some ⟨b5, 0, none⟩)], rfl, fun w' hw' n _ => leave1_spec n who _ w' (hw'.cell (cs := [.int .i64 who]) spL rfl)⟩ (Ent.wd ((show Ent _ (allH (L.map rowM) :: bx b5 3 [.int .i64 who] :: hb36 bh t la A L c :: orow 46 A c L :: allH (L.map rowI) :: H) from enL).trans ((hopM _).trans enL)) hw2)) rfl rfl ?_
  rintro _ _ ⟨rfl, rfl⟩
  refine ⟨trivial, ?_⟩
  rw [hF]
  (repeat' ((show SH _ _ _ _ _ (_ :: _) _ _ _; first | refine nlc rfl ?_ | refine fad rfl ?_)))
  refine stf (⟨⟨xi, xl, F, xv⟩, xA, xca, xB, xcb⟩ : PtyP) rfl rfl rfl spL rfl (by omega) rfl rfl (by decide) (by rw [hxE]; rfl) trivial ?_
  have hset := set_get hk (⟨⟨xi, xl, F, xv⟩, xA, xca, xB, xcb⟩ : PtyP)
  have hDE := pty_enc hset
  have hDl : (L.set k (⟨⟨xi, xl, F, xv⟩, xA, xca, xB, xcb⟩ : PtyP)).length = L.length := List.length_set ..
  have hDe : (L.set k (⟨⟨xi, xl, F, xv⟩, xA, xca, xB, xcb⟩ : PtyP)).eraseIdx k = L.eraseIdx k := erase_set ..
  have hDs : ∀ y : PtyP, (L.set k (⟨⟨xi, xl, F, xv⟩, xA, xca, xB, xcb⟩ : PtyP)).set k y = L.set k y := fun y => List.set_set ..
  have hcM1 := hcM (⟨⟨xi, xl, F, xv⟩, xA, xca, xB, xcb⟩ : PtyP)
  have hcI1 := hcI (⟨⟨xi, xl, F, xv⟩, xA, xca, xB, xcb⟩ : PtyP) rfl
  have hps1 := hps (⟨⟨xi, xl, F, xv⟩, xA, xca, xB, xcb⟩ : PtyP)
  generalize L.set k (⟨⟨xi, xl, F, xv⟩, xA, xca, xB, xcb⟩ : PtyP) = D at hDE hDl hDe hDs hcM1 hcI1 hps1 ⊢
  clear hset hxE hopM
  simp only at hDE hps1
  rw [show hb36 bh t la A L c = hb36 bh t la A D c by unfold hb36; rw [hDl]]
  have hend : ∀ G, Ent (orow 3 xA xca F :: allH ((L.eraseIdx k).map rowM) :: hb36 bh t la A D c :: orow 46 A c D :: allH (L.map rowI) :: G) (hallH bh t la A c D G) := fun G => (hcM1 _).trans (by rw [← hcI1]; exact enL)
  clear hcM1 hcI1
  cases F with
  | nil =>
    simp only [List.length_nil] at hDE
    (repeat' (first | (show VH _ _ _ _ _ _ _; first | refine v_seq ?_ | refine r_seq ?_ | refine v_block ?_ | refine v_cond_t rfl tbL ?_) | (show SH _ _ _ _ _ (_ :: _) _ _ _; first | (show SH _ _ _ _ _ (⟨_, .move _, _, _, _, _⟩ :: _) _ _ _; refine mov evL ?_) | (show SH _ _ _ _ _ (⟨_, .assign _, _, _, _, _⟩ :: _) _ _ _; refine asg evL ?_) | (show SH _ _ _ _ _ (⟨_, .binOp .eql _ _ _ _, _, _, _, _⟩ :: _) _ _ _; refine eqlT rfl rfl omD ?_) | (show SH _ _ _ _ _ (⟨_, .load _ _, _, _, _, _⟩ :: _) _ _ _; refine lrg rfl (fun _ _ => rdP) (by rfl) omL (by assumption) (by rfl) ?_) | refine slen rfl ?_ | refine nlc rfl ?_ | refine fad rfl ?_) | refine s_nil ?_ | refine kh_normal ?_))
    refine cm rfl (fun w2 hw2 => drop_spec t la A D c bh k w0 H w2 (by omega) (by omega) (Ent.wd (Ent.trans enL (hend H)) hw2)) rfl rfl ?_
    rintro _ _ rfl
    refine ⟨trivial, ?_⟩
    (repeat' (first | refine s_nil ?_ | refine bh_normal ?_))
    exact rh0n rfl ⟨D.eraseIdx k, by rw [hDe]; exact hpe, rfl⟩ enL
  | cons y F =>
    simp only [List.length_cons] at hDE
    by_cases hl : xl = who
    · (repeat' (first | (show VH _ _ _ _ _ _ _; first | refine v_seq ?_ | refine r_seq ?_ | refine r_quiet hmix (by kernel_rfl) ?_ | refine v_block ?_ | refine v_cond_t rfl tbL ?_ | refine v_cond_f rfl tbL ?_) | (show SH _ _ _ _ _ (_ :: _) _ _ _; first | (show SH _ _ _ _ _ (⟨_, .move _, _, _, _, _⟩ :: _) _ _ _; refine mov evL ?_) | (show SH _ _ _ _ _ (⟨_, .assign _, _, _, _, _⟩ :: _) _ _ _; refine asg evL ?_) | (show SH _ _ _ _ _ (⟨_, .binOp .eql _ _ _ _, _, _, _, _⟩ :: _) _ _ _; first | refine eqlT rfl rfl omD ?_ | refine eqlF rfl rfl omD ?_) | (show SH _ _ _ _ _ (⟨_, .load _ _, _, _, _, _⟩ :: _) _ _ _; first | refine lbx rfl spL (by rfl) ?_ | refine lrg rfl (fun _ _ => rdP) (by rfl) omL (by assumption) (by rfl) ?_) | (show SH _ _ _ _ _ (⟨_, .indexAddr _ _ _, _, _, _, _⟩ :: _) _ _ _; first | refine ixi rfl rfl (fun _ _ => rdP) (by rfl) omL omL omL ?_ | refine ixi rfl rfl (fun _ _ => rdP) (by rfl) omL (by first | omega | (simp only [List.length_cons, List.length_nil]; omega)) (by simp only [List.length_cons, List.length_nil]; omega) ?_) | refine slen rfl ?_ | refine nlc rfl ?_ | refine fad rfl ?_) | refine s_nil ?_ | refine kh_normal ?_))
      refine lin (l := y :: F) rfl (fun w hw => hw.rd spL) (Nat.zero_lt_succ _) ?_
      (repeat' ((show SH _ _ _ _ _ (_ :: _) _ _ _; first | refine nlc rfl ?_ | refine fad rfl ?_)))
      refine stf (⟨⟨xi, y, y :: F, xv⟩, xA, xca, xB, xcb⟩ : PtyP) rfl rfl rfl spL rfl (by omega) rfl rfl (by decide) (by rw [hDE]; rfl) trivial ?_
      rw [hDs]
      (repeat' (first | refine s_nil ?_ | refine bh_normal ?_))
      refine rh0n rfl ⟨L.set k (⟨⟨xi, y, y :: F, xv⟩, xA, xca, xB, xcb⟩ : PtyP), by show _ = (ptys L).set k ⟨xi, if xl = who then y else xl, y :: F, xv⟩; rw [if_pos hl]; exact hps _, rfl⟩ ?_
      rw [hallH, hcI (⟨⟨xi, y, y :: F, xv⟩, xA, xca, xB, xcb⟩ : PtyP) rfl]
      refine Ent.trans (B := rowM (⟨⟨xi, y, y :: F, xv⟩, xA, xca, xB, xcb⟩ : PtyP) :: allH ((L.eraseIdx k).map rowM) :: hb36 bh t la A D c :: orow 46 A c (L.set k (⟨⟨xi, y, y :: F, xv⟩, xA, xca, xB, xcb⟩ : PtyP)) :: allH (L.map rowI) :: H) enL ((hcM _ _).trans ?_)
      rw [show hb36 bh t la A D c = hb36 bh t la A (L.set k (⟨⟨xi, y, y :: F, xv⟩, xA, xca, xB, xcb⟩ : PtyP)) c by unfold hb36; rw [hDl, List.length_set]]
      exact enL
    · (repeat' (first | (show VH _ _ _ _ _ _ _; first | refine v_seq ?_ | refine r_seq ?_ | refine r_quiet hmix (by kernel_rfl) ?_ | refine v_block ?_ | refine v_skip ?_ | refine v_cond_f rfl tbL ?_) | (show SH _ _ _ _ _ (_ :: _) _ _ _; first | (show SH _ _ _ _ _ (⟨_, .move _, _, _, _, _⟩ :: _) _ _ _; refine mov evL ?_) | (show SH _ _ _ _ _ (⟨_, .assign _, _, _, _, _⟩ :: _) _ _ _; refine asg evL ?_) | (show SH _ _ _ _ _ (⟨_, .binOp .eql _ _ _ _, _, _, _, _⟩ :: _) _ _ _; refine eqlF rfl rfl omD ?_) | (show SH _ _ _ _ _ (⟨_, .load _ _, _, _, _, _⟩ :: _) _ _ _; first | refine lbx rfl spL (by rfl) ?_ | refine lrg rfl (fun _ _ => rdP) (by rfl) omL (by assumption) (by rfl) ?_) | refine slen rfl ?_ | refine nlc rfl ?_ | refine fad rfl ?_) | refine s_nil ?_ | refine kh_normal ?_ | refine bh_normal ?_))
      exact rh0n rfl ⟨D, by show _ = (ptys L).set k ⟨xi, if xl = who then y else xl, y :: F, xv⟩; rw [if_neg hl]; exact hps1, rfl⟩ (Ent.trans enL (hend H))
end Go.Proofs.YtlfbcoohfnoacaaGreat

