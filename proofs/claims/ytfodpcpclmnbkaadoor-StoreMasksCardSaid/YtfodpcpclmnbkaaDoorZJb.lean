/- The law's package of layer 15: comparisons. -/
import Derived.Test.YtfodpcpclmnbkaaDoorZTw
import Derived.Test.YtfodpcpclmnbkaaDoorZQb
import Derived.Test.YtfodpcpclmnbkaaDoorZWz
import Derived.ChangeKeysEq
set_option linter.unusedSimpArgs false
set_option linter.unusedVariables false
namespace Go.Proofs.YtfodpcpclmnbkaaDoor
open Go.Fw Go.RowKit
instance : TCmp Tryd.prog 42 Comp := ⟨by kernel_rfl, fun x y w => by
  rw [show (10000 : Nat) = 9999 + 1 from rfl, run_equalIn_agg w 9999 _ _ _ (by kernel_rfl) (by kernel_rfl)]
  have ha8 : ∀ w, (isAgg 5).run Tryd.prog w = .ok false w := fun w => by kernel_rfl
  have ha4 : ∀ w, (isAgg 40).run Tryd.prog w = .ok true w := fun w => by kernel_rfl
  have hs4 : ∀ w, (sizeOf 40).run Tryd.prog w = .ok 4 w := fun w => by kernel_rfl
  have hu : Tryd.prog.underlying 40 = some (.array 4 3) := by kernel_rfl
  obtain ⟨i, hi⟩ : ∃ i, Tryd.prog.info? 3 = some i := Option.isSome_iff_exists.1 (by kernel_rfl)
  have hc : Tryd.prog.cellsOf 3 = 1 := by kernel_rfl
  have ha : ∀ w, (isAgg 3).run Tryd.prog w = .ok false w := fun w => by kernel_rfl
  have hr : List.range 4 = [0, 1, 2, 3] := rfl
  have key : ∀ a0 a1 a2 a3 b0 b1 b2 b3 w, (Op.equalIn 9999 40 (.agg #[.int .i64 a0, .int .i64 a1, .int .i64 a2, .int .i64 a3]) (.agg #[.int .i64 b0, .int .i64 b1, .int .i64 b2, .int .i64 b3])).run Tryd.prog w = .ok (decide (a0 = b0 ∧ a1 = b1 ∧ a2 = b2 ∧ a3 = b3)) w := fun a0 a1 a2 a3 b0 b1 b2 b3 w => by
    rw [show (9999 : Nat) = 9998 + 1 from rfl, run_equalIn_array w 9998 _ _ hu hi, hc]
    rw [hr]
    simp only [Op.eqItems, part, ha, Sem.run_bind, Result.andThen_ok]
    by_cases h0 : a0 = b0
    case neg => simp [ha, run_equalIn_int w 9997 _ .i64 .i64 _ _ Tryd.underlying3, h0]
    by_cases h1 : a1 = b1
    case neg => simp [ha, run_equalIn_int w 9997 _ .i64 .i64 _ _ Tryd.underlying3, h1]
    by_cases h2 : a2 = b2
    case neg => simp [ha, run_equalIn_int w 9997 _ .i64 .i64 _ _ Tryd.underlying3, h2]
    by_cases h3 : a3 = b3
    case neg => simp [ha, run_equalIn_int w 9997 _ .i64 .i64 _ _ Tryd.underlying3, h3]
    simp [ha, run_equalIn_int w 9997 _ .i64 .i64 _ _ Tryd.underlying3, h0, h1, h2, h3]
  obtain ⟨a0, a1, a2, a3, a4⟩ := x
  obtain ⟨b0, b1, b2, b3, b4⟩ := y
  simp only [Program.fieldsOf, Tryd.underlying42, Op.eqFields, part, ha8, ha4, hs4, Sem.run_bind, Result.andThen_ok]
  by_cases h0 : a0 = b0
  case neg => simp [Flat.enc, ha8, run_equalIn_int w 9998 _ .u8 .u8 _ _ Tryd.underlying5, h0]
  simp [Flat.enc, ha8, run_equalIn_int w 9998 _ .u8 .u8 _ _ Tryd.underlying5, h0, key]
  by_cases h1 : a1 = b1 <;> by_cases h2 : a2 = b2 <;> by_cases h3 : a3 = b3 <;> by_cases h4 : a4 = b4 <;> simp [h1, h2, h3, h4]⟩
theorem getD_of_mem {α : Type} (d : α) {l : List α} {x : α} (h : x ∈ l) : ∃ i, i < l.length ∧ l.getD i d = x := by
  obtain ⟨i, hi, rfl⟩ := List.getElem_of_mem h
  exact ⟨i, hi, by simp [List.getD_eq_getElem?_getD, hi]⟩
theorem take_ne {α : Type} {l1 l2 : List α} {k : Nat} (d : α) (h : l1.getD k d ≠ l2.getD k d) : l1 ≠ l2 := fun e => h (by rw [e])
theorem take_next {α : Type} {l1 l2 : List α} {k : Nat} (d : α) (hl : l1.length = l2.length) (hk : k < l1.length) (ht : l1.take k = l2.take k) (h : l1.getD k d = l2.getD k d) : l1.take (k + 1) = l2.take (k + 1) := by
  rw [take_snoc (d := d) hk, take_snoc (d := d) (by omega), ht, h]
set_option maxHeartbeats 1000000 in
set_option maxRecDepth 100000 in
theorem ints_spec (A1 A2 : Option Addr) (l1 l2 : List Int) (c1 c2 : Nat) (w : World) (hr1 : Rd w A1 l1) (hr2 : Rd w A2 l2) (hl : l1.length ≤ 140737488355328) :
    Ret Tryd.prog 34 [.slice A1 l1.length c1, .slice A2 l2.length c2].toArray w (Out w (.bool (decide (l1 = l2)))) := by
  by_cases hlen : l1.length = l2.length
  case neg =>
    rw [decide_eq_false (fun e => hlen (by rw [e]))]
    refine enterH Tryd.func34 rfl rfl Tryd.ntmps34 rfl (Wd.refl _) ?_
    (repeat' (first | (show VH _ _ _ _ _ _ _; first | refine v_seq ?_ | refine r_seq ?_ | refine v_ret ?_ | refine v_cond_t rfl tbL ?_) | (show SH _ _ _ _ _ (_ :: _) _ _ _; first | (show SH _ _ _ _ _ (⟨_, .move _, _, _, _, _⟩ :: _) _ _ _; refine mov evL ?_) | (show SH _ _ _ _ _ (⟨_, .assign _, _, _, _, _⟩ :: _) _ _ _; refine asg evL ?_) | (show SH _ _ _ _ _ (⟨_, .binOp .neq _ _ _ _, _, _, _, _⟩ :: _) _ _ _; refine neqT rfl rfl omD ?_) | refine slen rfl ?_) | refine s_nil ?_ | refine kh_normal ?_ | refine kh_ret ?_))
    exact rh1 rfl rfl ⟨rfl, rfl⟩ (ent_nil _)
  refine enterH Tryd.func34 rfl rfl Tryd.ntmps34 rfl (Wd.refl _) ?_
  (repeat' (first | (show VH _ _ _ _ _ _ _; first | refine v_seq ?_ | refine r_seq ?_ | refine v_block ?_ | refine v_skip ?_ | refine v_cond_f rfl tbL ?_) | (show SH _ _ _ _ _ (_ :: _) _ _ _; first | (show SH _ _ _ _ _ (⟨_, .move _, _, _, _, _⟩ :: _) _ _ _; refine mov evL ?_) | (show SH _ _ _ _ _ (⟨_, .assign _, _, _, _, _⟩ :: _) _ _ _; refine asg evL ?_) | (show SH _ _ _ _ _ (⟨_, .binOp .neq _ _ _ _, _, _, _, _⟩ :: _) _ _ _; refine neqF rfl rfl omD ?_) | refine slen rfl ?_) | refine s_nil ?_ | refine kh_normal ?_))
  refine v_loop0 [(4,5),(13,25)] (fun k : Nat => [(13, .int .i64 k)]) (fun k => k ≤ l1.length ∧ l1.take k = l2.take k) (fun k => l1.length - k) 0 hsL ⟨Nat.zero_le _, rfl⟩ ?_
  rintro k g ⟨hk, ht⟩
  simp only [sets]
  by_cases hkl : k < l1.length
  · by_cases he : l1.getD k 0 = l2.getD k 0
    · have hn := take_next 0 hlen hkl ht he
      clear ht
      (repeat' (first | (show VH _ _ _ _ _ _ _; first | refine v_seq ?_ | refine r_seq ?_ | refine r_quiet hmix (by kernel_rfl) ?_ | refine v_block ?_ | refine v_skip ?_ | refine v_cond_t rfl tbL ?_ | refine v_cond_f rfl tbL ?_) | (show SH _ _ _ _ _ (_ :: _) _ _ _; first | (show SH _ _ _ _ _ (⟨_, .move _, _, _, _, _⟩ :: _) _ _ _; refine mov evL ?_) | (show SH _ _ _ _ _ (⟨_, .assign _, _, _, _, _⟩ :: _) _ _ _; refine asg evL ?_) | (show SH _ _ _ _ _ (⟨_, .binOp .lss _ _ _ _, _, _, _, _⟩ :: _) _ _ _; refine lssT rfl rfl omD ?_) | (show SH _ _ _ _ _ (⟨_, .binOp .neq _ _ _ _, _, _, _, _⟩ :: _) _ _ _; refine neqF rfl rfl omD ?_) | (show SH _ _ _ _ _ (⟨_, .binOp .add _ _ _ _, _, _, _, _⟩ :: _) _ _ _; refine add rfl rfl inL ?_) | (show SH _ _ _ _ _ (⟨_, .load _ _, _, _, _, _⟩ :: _) _ _ _; first | refine lgi rfl (fun _ _ => rdY) omL (by assumption) ?_ | refine lin rfl (fun _ _ => rdY) omL ?_) | (show SH _ _ _ _ _ (⟨_, .indexAddr _ _ _, _, _, _, _⟩ :: _) _ _ _; refine ix rfl rfl (by with_reducible rfl) (fun _ _ => rdY) (by rfl) omL omL ?_)) | refine s_nil ?_ | refine kh_normal ?_ | refine bh_normal ?_))
      exact ⟨agL, k + 1, hsL, enL, ⟨hkl, hn⟩, by omega⟩
    · rw [decide_eq_false (take_ne _ he)]
      clear ht
      (repeat' (first | (show VH _ _ _ _ _ _ _; first | refine v_seq ?_ | refine r_seq ?_ | refine r_quiet hmix (by kernel_rfl) ?_ | refine v_block ?_ | refine v_ret ?_ | refine v_skip ?_ | refine v_cond_t rfl tbL ?_) | (show SH _ _ _ _ _ (_ :: _) _ _ _; first | (show SH _ _ _ _ _ (⟨_, .move _, _, _, _, _⟩ :: _) _ _ _; refine mov evL ?_) | (show SH _ _ _ _ _ (⟨_, .assign _, _, _, _, _⟩ :: _) _ _ _; refine asg evL ?_) | (show SH _ _ _ _ _ (⟨_, .binOp .lss _ _ _ _, _, _, _, _⟩ :: _) _ _ _; refine lssT rfl rfl omD ?_) | (show SH _ _ _ _ _ (⟨_, .binOp .neq _ _ _ _, _, _, _, _⟩ :: _) _ _ _; refine neqT rfl rfl omD ?_) | (show SH _ _ _ _ _ (⟨_, .load _ _, _, _, _, _⟩ :: _) _ _ _; refine lin rfl (fun _ _ => rdY) omL ?_) | (show SH _ _ _ _ _ (⟨_, .indexAddr _ _ _, _, _, _, _⟩ :: _) _ _ _; refine ix rfl rfl (by with_reducible rfl) (fun _ _ => rdY) (by rfl) omL omL ?_)) | refine s_nil ?_ | refine kh_normal ?_ | refine kh_ret ?_ | refine bh_ret ?_))
      exact rh1 rfl rfl ⟨rfl, rfl⟩ (ent_nil _)
  · have : l1 = l2 := by rw [List.take_of_length_le (by omega), List.take_of_length_le (by omega)] at ht; exact ht
    rw [decide_eq_true this]
    clear ht this
    (repeat' (first | (show VH _ _ _ _ _ _ _; first | refine v_seq ?_ | refine r_seq ?_ | refine v_ret ?_ | refine v_exit ?_ | refine v_cond_f rfl tbL ?_) | (show SH _ _ _ _ _ (_ :: _) _ _ _; first | (show SH _ _ _ _ _ (⟨_, .assign _, _, _, _, _⟩ :: _) _ _ _; refine asg evL ?_) | (show SH _ _ _ _ _ (⟨_, .binOp .lss _ _ _ _, _, _, _, _⟩ :: _) _ _ _; refine lssF rfl rfl omD ?_)) | refine s_nil ?_ | refine kh_normal ?_ | refine kh_exit ?_ | refine bh_exit ?_))
    exact rh1 rfl rfl ⟨rfl, rfl⟩ (ent_nil _)
set_option maxHeartbeats 1000000 in
set_option maxRecDepth 100000 in
theorem sameE_spec (x y : EntP) (w : World) (hr1 : Rd w x.A x.e.comps) (hr2 : Rd w y.A y.e.comps) (hl : x.e.comps.length ≤ 140737488355328) :
    Ret Tryd.prog 23 [.agg (Flat.enc x).toArray, .agg (Flat.enc y).toArray].toArray w (Out w (.bool (decide (x.e = y.e)))) := by
  obtain ⟨⟨i1, l1⟩, A1, c1⟩ := x
  obtain ⟨⟨i2, l2⟩, A2, c2⟩ := y
  simp only at hr1 hr2 hl ⊢
  rw [show Flat.enc (⟨⟨i1, l1⟩, A1, c1⟩ : EntP) = [.int .i64 i1, .slice A1 l1.length c1] from rfl, show Flat.enc (⟨⟨i2, l2⟩, A2, c2⟩ : EntP) = [.int .i64 i2, .slice A2 l2.length c2] from rfl]
  by_cases hi : i1 = i2
  case neg =>
    rw [decide_eq_false (fun e => hi (congrArg Ent1.id e))]
    refine enterH Tryd.func23 rfl rfl Tryd.ntmps23 rfl (Wd.refl _) ?_
    (repeat' (first | (show VH _ _ _ _ _ _ _; first | refine v_seq ?_ | refine r_seq ?_ | refine v_ret ?_ | refine v_cond_t rfl tbL ?_) | (show SH _ _ _ _ _ (_ :: _) _ _ _; first | (show SH _ _ _ _ _ (⟨_, _, _, _, _, some _⟩ :: _) _ _ _; (refine gif rfl rfl ?_; refine giFT tbL ?_)) | (show SH _ _ _ _ _ (⟨_, .move _, _, _, _, _⟩ :: _) _ _ _; refine mov evL ?_) | (show SH _ _ _ _ _ (⟨_, .assign _, _, _, _, _⟩ :: _) _ _ _; refine asg evL ?_) | (show SH _ _ _ _ _ (⟨_, .binOp .neq _ _ _ _, _, _, _, _⟩ :: _) _ _ _; refine neqT rfl rfl omD ?_) | (show SH _ _ _ _ _ (⟨_, .load _ _, _, _, _, _⟩ :: _) _ _ _; refine lbx rfl spL (by rfl) ?_) | (show SH _ _ _ _ _ (⟨_, .pick _ _ _, _, _, _, _⟩ :: _) _ _ _; refine pkt rfl tbL evL ?_) | refine fad rfl ?_ | (show SH _ _ _ _ _ (⟨_, .box _ _, _, _, _, _⟩ :: _) _ _ _; refine bxx rfl evL rfl (fun b => ?_))) | refine s_nil ?_ | refine kh_normal ?_ | refine kh_ret ?_))
    exact rh1 rfl rfl ⟨rfl, rfl⟩ (ent_nil _)
  have e : decide ((⟨i1, l1⟩ : Ent1) = ⟨i2, l2⟩) = decide (l1 = l2) := decide_eq_decide.2 (by simp [hi])
  rw [e]
  clear e
  by_cases hlen : l1.length = l2.length
  case neg =>
    rw [decide_eq_false (fun e => hlen (by rw [e]))]
    refine enterH Tryd.func23 rfl rfl Tryd.ntmps23 rfl (Wd.refl _) ?_
    (repeat' (first | (show VH _ _ _ _ _ _ _; first | refine v_seq ?_ | refine r_seq ?_ | refine v_ret ?_ | refine v_cond_t rfl tbL ?_) | (show SH _ _ _ _ _ (_ :: _) _ _ _; first | (show SH _ _ _ _ _ (⟨_, _, _, _, _, some _⟩ :: _) _ _ _; (refine gif rfl rfl ?_; refine giFF tbL ?_)) | (show SH _ _ _ _ _ (⟨_, .move _, _, _, _, _⟩ :: _) _ _ _; refine mov evL ?_) | (show SH _ _ _ _ _ (⟨_, .assign _, _, _, _, _⟩ :: _) _ _ _; refine asg evL ?_) | (show SH _ _ _ _ _ (⟨_, .binOp .neq _ _ _ _, _, _, _, _⟩ :: _) _ _ _; first | refine neqT rfl rfl omD ?_ | refine neqF rfl rfl omD ?_) | (show SH _ _ _ _ _ (⟨_, .load _ _, _, _, _, _⟩ :: _) _ _ _; refine lbx rfl spL (by rfl) ?_) | refine slen rfl ?_ | (show SH _ _ _ _ _ (⟨_, .pick _ _ _, _, _, _, _⟩ :: _) _ _ _; refine pkf rfl tbL evL ?_) | refine fad rfl ?_ | (show SH _ _ _ _ _ (⟨_, .box _ _, _, _, _, _⟩ :: _) _ _ _; refine bxx rfl evL rfl (fun b => ?_))) | refine s_nil ?_ | refine kh_normal ?_ | refine kh_ret ?_))
    exact rh1 rfl rfl ⟨rfl, rfl⟩ (ent_nil _)
  refine enterH Tryd.func23 rfl rfl Tryd.ntmps23 rfl (Wd.refl _) ?_
  (repeat' (first | (show VH _ _ _ _ _ _ _; first | refine v_seq ?_ | refine r_seq ?_ | refine v_block ?_ | refine v_skip ?_ | refine v_cond_f rfl tbL ?_) | (show SH _ _ _ _ _ (_ :: _) _ _ _; first | (show SH _ _ _ _ _ (⟨_, _, _, _, _, some _⟩ :: _) _ _ _; (refine gif rfl rfl ?_; refine giFF tbL ?_)) | (show SH _ _ _ _ _ (⟨_, .move _, _, _, _, _⟩ :: _) _ _ _; refine mov evL ?_) | (show SH _ _ _ _ _ (⟨_, .assign _, _, _, _, _⟩ :: _) _ _ _; refine asg evL ?_) | (show SH _ _ _ _ _ (⟨_, .binOp .neq _ _ _ _, _, _, _, _⟩ :: _) _ _ _; refine neqF rfl rfl omD ?_) | (show SH _ _ _ _ _ (⟨_, .load _ _, _, _, _, _⟩ :: _) _ _ _; refine lbx rfl spL (by rfl) ?_) | refine slen rfl ?_ | (show SH _ _ _ _ _ (⟨_, .pick _ _ _, _, _, _, _⟩ :: _) _ _ _; refine pkf rfl tbL evL ?_) | refine fad rfl ?_ | (show SH _ _ _ _ _ (⟨_, .box _ _, _, _, _, _⟩ :: _) _ _ _; refine bxx rfl evL rfl (fun b => ?_))) | refine s_nil ?_ | refine kh_normal ?_))
  refine v_loop0 [(4,5),(23,37)] (fun k : Nat => [(23, .int .i64 k)]) (fun k => k ≤ l1.length ∧ l1.take k = l2.take k) (fun k => l1.length - k) 0 hsL ⟨Nat.zero_le _, rfl⟩ ?_
  rintro k g ⟨hk, ht⟩
  simp only [sets]
  by_cases hkl : k < l1.length
  · by_cases he : l1.getD k Flat.dflt = l2.getD k Flat.dflt
    · have hn := take_next Flat.dflt hlen hkl ht he
      clear ht
      (repeat' (first | (show VH _ _ _ _ _ _ _; first | refine v_seq ?_ | refine r_seq ?_ | refine v_block ?_ | refine v_skip ?_ | refine v_cond_t rfl tbL ?_) | (show SH _ _ _ _ _ (_ :: _) _ _ _; first | (show SH _ _ _ _ _ (⟨_, .move _, _, _, _, _⟩ :: _) _ _ _; refine mov evL ?_) | (show SH _ _ _ _ _ (⟨_, .assign _, _, _, _, _⟩ :: _) _ _ _; refine asg evL ?_) | (show SH _ _ _ _ _ (⟨_, .binOp .lss _ _ _ _, _, _, _, _⟩ :: _) _ _ _; refine lssT rfl rfl omD ?_)) | refine s_nil ?_ | refine kh_normal ?_))
      refine r_quiet hmix (by kernel_rfl) ?_
      (repeat' ((show SH _ _ _ _ _ (_ :: _) _ _ _; first | (show SH _ _ _ _ _ (⟨_, .move _, _, _, _, _⟩ :: _) _ _ _; refine mov evL ?_) | (show SH _ _ _ _ _ (⟨_, .load _ _, _, _, _, _⟩ :: _) _ _ _; first | refine lbx rfl spL (by rfl) ?_ | refine lra rfl (fun _ _ => rdY) (by rfl) omL ?_ | refine lra rfl (fun _ _ => rdY) (by rfl) (by simp only [List.length_cons, List.length_nil]; omega) ?_) | (show SH _ _ _ _ _ (⟨_, .indexAddr _ _ _, _, _, _, _⟩ :: _) _ _ _; refine ix rfl rfl (by with_reducible rfl) (fun _ _ => rdY) (by rfl) omL omL ?_) | refine fad rfl ?_)))
      refine nea (l1.getD k Flat.dflt) (l2.getD k Flat.dflt) rfl rfl ?_
      rw [decide_eq_true he]
      (repeat' (first | (show VH _ _ _ _ _ _ _; first | refine r_seq ?_ | refine v_skip ?_ | refine v_cond_f rfl tbL ?_) | (show SH _ _ _ _ _ (_ :: _) _ _ _; first | (show SH _ _ _ _ _ (⟨_, .move _, _, _, _, _⟩ :: _) _ _ _; refine mov evL ?_) | (show SH _ _ _ _ _ (⟨_, .binOp .add _ _ _ _, _, _, _, _⟩ :: _) _ _ _; refine add rfl rfl inL ?_)) | refine s_nil ?_ | refine kh_normal ?_ | refine bh_normal ?_))
      exact ⟨agL, k + 1, hsL, enL, ⟨hkl, hn⟩, by omega⟩
    · rw [decide_eq_false (take_ne _ he)]
      clear ht
      (repeat' (first | (show VH _ _ _ _ _ _ _; first | refine v_seq ?_ | refine r_seq ?_ | refine v_block ?_ | refine v_skip ?_ | refine v_cond_t rfl tbL ?_) | (show SH _ _ _ _ _ (_ :: _) _ _ _; first | (show SH _ _ _ _ _ (⟨_, .move _, _, _, _, _⟩ :: _) _ _ _; refine mov evL ?_) | (show SH _ _ _ _ _ (⟨_, .assign _, _, _, _, _⟩ :: _) _ _ _; refine asg evL ?_) | (show SH _ _ _ _ _ (⟨_, .binOp .lss _ _ _ _, _, _, _, _⟩ :: _) _ _ _; refine lssT rfl rfl omD ?_)) | refine s_nil ?_ | refine kh_normal ?_))
      refine r_quiet hmix (by kernel_rfl) ?_
      (repeat' ((show SH _ _ _ _ _ (_ :: _) _ _ _; first | (show SH _ _ _ _ _ (⟨_, .move _, _, _, _, _⟩ :: _) _ _ _; refine mov evL ?_) | (show SH _ _ _ _ _ (⟨_, .load _ _, _, _, _, _⟩ :: _) _ _ _; first | refine lbx rfl spL (by rfl) ?_ | refine lra rfl (fun _ _ => rdY) (by rfl) omL ?_ | refine lra rfl (fun _ _ => rdY) (by rfl) (by simp only [List.length_cons, List.length_nil]; omega) ?_) | (show SH _ _ _ _ _ (⟨_, .indexAddr _ _ _, _, _, _, _⟩ :: _) _ _ _; refine ix rfl rfl (by with_reducible rfl) (fun _ _ => rdY) (by rfl) omL omL ?_) | refine fad rfl ?_)))
      refine nea (l1.getD k Flat.dflt) (l2.getD k Flat.dflt) rfl rfl ?_
      rw [decide_eq_false he]
      (repeat' (first | (show VH _ _ _ _ _ _ _; first | refine v_seq ?_ | refine r_seq ?_ | refine v_ret ?_ | refine v_cond_t rfl tbL ?_) | (show SH _ _ _ _ _ (_ :: _) _ _ _; (show SH _ _ _ _ _ (⟨_, .assign _, _, _, _, _⟩ :: _) _ _ _; refine asg evL ?_)) | refine s_nil ?_ | refine kh_normal ?_ | refine kh_ret ?_ | refine bh_ret ?_))
      exact rh1 rfl rfl ⟨rfl, rfl⟩ (ent_nil _)
  · have : l1 = l2 := by rw [List.take_of_length_le (by omega), List.take_of_length_le (by omega)] at ht; exact ht
    rw [decide_eq_true this]
    clear ht this
    (repeat' (first | (show VH _ _ _ _ _ _ _; first | refine v_seq ?_ | refine r_seq ?_ | refine v_ret ?_ | refine v_exit ?_ | refine v_cond_f rfl tbL ?_) | (show SH _ _ _ _ _ (_ :: _) _ _ _; first | (show SH _ _ _ _ _ (⟨_, .assign _, _, _, _, _⟩ :: _) _ _ _; refine asg evL ?_) | (show SH _ _ _ _ _ (⟨_, .binOp .lss _ _ _ _, _, _, _, _⟩ :: _) _ _ _; refine lssF rfl rfl omD ?_)) | refine s_nil ?_ | refine kh_normal ?_ | refine kh_exit ?_ | refine bh_exit ?_))
    exact rh1 rfl rfl ⟨rfl, rfl⟩ (ent_nil _)
theorem ents_at (l : List EntP) {k : Nat} (hk : k < l.length) : (ents l).getD k ⟨0, []⟩ = (l.getD k Flat.dflt).e := by
  simp [ents, List.getD_eq_getElem?_getD, hk]
set_option maxHeartbeats 1000000 in
set_option maxRecDepth 100000 in
theorem same_spec (t1 t2 : Int) (A1 A2 : Option Addr) (l1 l2 : List EntP) (c1 c2 : Nat) (w : World) (hr1 : RdW w A1 l1) (hr2 : RdW w A2 l2) (hs : Sz l1) :
    Ret Tryd.prog 18 [wv t1 A1 l1 c1, wv t2 A2 l2 c2].toArray w (Out w (.bool (decide (t1 = t2 ∧ ents l1 = ents l2)))) := by
  have hl := hs.len
  unfold wv
  by_cases hi : t1 = t2
  case neg =>
    rw [decide_eq_false (fun e => hi e.1)]
    refine enterH Tryd.func18 rfl rfl Tryd.ntmps18 rfl (Wd.refl _) ?_
    (repeat' (first | (show VH _ _ _ _ _ _ _; first | refine v_seq ?_ | refine r_seq ?_ | refine v_ret ?_ | refine v_cond_t rfl tbL ?_) | (show SH _ _ _ _ _ (_ :: _) _ _ _; first | (show SH _ _ _ _ _ (⟨_, _, _, _, _, some _⟩ :: _) _ _ _; (refine gif rfl rfl ?_; refine giFT tbL ?_)) | (show SH _ _ _ _ _ (⟨_, .move _, _, _, _, _⟩ :: _) _ _ _; refine mov evL ?_) | (show SH _ _ _ _ _ (⟨_, .assign _, _, _, _, _⟩ :: _) _ _ _; refine asg evL ?_) | (show SH _ _ _ _ _ (⟨_, .binOp .neq _ _ _ _, _, _, _, _⟩ :: _) _ _ _; refine neqT rfl rfl omD ?_) | (show SH _ _ _ _ _ (⟨_, .load _ _, _, _, _, _⟩ :: _) _ _ _; refine lbx rfl spL (by rfl) ?_) | (show SH _ _ _ _ _ (⟨_, .pick _ _ _, _, _, _, _⟩ :: _) _ _ _; refine pkt rfl tbL evL ?_) | refine fad rfl ?_ | (show SH _ _ _ _ _ (⟨_, .box _ _, _, _, _, _⟩ :: _) _ _ _; refine bxx rfl evL rfl (fun b => ?_))) | refine s_nil ?_ | refine kh_normal ?_ | refine kh_ret ?_))
    exact rh1 rfl rfl ⟨rfl, rfl⟩ (ent_nil _)
  have e : decide (t1 = t2 ∧ ents l1 = ents l2) = decide (ents l1 = ents l2) := decide_eq_decide.2 (by simp [hi])
  rw [e]
  clear e
  by_cases hlen : l1.length = l2.length
  case neg =>
    rw [decide_eq_false (fun e => hlen (by rw [← ents_len l1, ← ents_len l2, e]))]
    refine enterH Tryd.func18 rfl rfl Tryd.ntmps18 rfl (Wd.refl _) ?_
    (repeat' (first | (show VH _ _ _ _ _ _ _; first | refine v_seq ?_ | refine r_seq ?_ | refine v_ret ?_ | refine v_cond_t rfl tbL ?_) | (show SH _ _ _ _ _ (_ :: _) _ _ _; first | (show SH _ _ _ _ _ (⟨_, _, _, _, _, some _⟩ :: _) _ _ _; (refine gif rfl rfl ?_; refine giFF tbL ?_)) | (show SH _ _ _ _ _ (⟨_, .move _, _, _, _, _⟩ :: _) _ _ _; refine mov evL ?_) | (show SH _ _ _ _ _ (⟨_, .assign _, _, _, _, _⟩ :: _) _ _ _; refine asg evL ?_) | (show SH _ _ _ _ _ (⟨_, .binOp .neq _ _ _ _, _, _, _, _⟩ :: _) _ _ _; first | refine neqT rfl rfl omD ?_ | refine neqF rfl rfl omD ?_) | (show SH _ _ _ _ _ (⟨_, .load _ _, _, _, _, _⟩ :: _) _ _ _; refine lbx rfl spL (by rfl) ?_) | refine slen rfl ?_ | (show SH _ _ _ _ _ (⟨_, .pick _ _ _, _, _, _, _⟩ :: _) _ _ _; refine pkf rfl tbL evL ?_) | refine fad rfl ?_ | (show SH _ _ _ _ _ (⟨_, .box _ _, _, _, _, _⟩ :: _) _ _ _; refine bxx rfl evL rfl (fun b => ?_))) | refine s_nil ?_ | refine kh_normal ?_ | refine kh_ret ?_))
    exact rh1 rfl rfl ⟨rfl, rfl⟩ (ent_nil _)
  have hrd1 := hr1.1
  have hrd2 := hr2.1
  refine enterH Tryd.func18 rfl rfl Tryd.ntmps18 rfl (Wd.refl _) ?_
  (repeat' (first | (show VH _ _ _ _ _ _ _; first | refine v_seq ?_ | refine r_seq ?_ | refine v_block ?_ | refine v_skip ?_ | refine v_cond_f rfl tbL ?_) | (show SH _ _ _ _ _ (_ :: _) _ _ _; first | (show SH _ _ _ _ _ (⟨_, _, _, _, _, some _⟩ :: _) _ _ _; (refine gif rfl rfl ?_; refine giFF tbL ?_)) | (show SH _ _ _ _ _ (⟨_, .move _, _, _, _, _⟩ :: _) _ _ _; refine mov evL ?_) | (show SH _ _ _ _ _ (⟨_, .assign _, _, _, _, _⟩ :: _) _ _ _; refine asg evL ?_) | (show SH _ _ _ _ _ (⟨_, .binOp .neq _ _ _ _, _, _, _, _⟩ :: _) _ _ _; refine neqF rfl rfl omD ?_) | (show SH _ _ _ _ _ (⟨_, .load _ _, _, _, _, _⟩ :: _) _ _ _; refine lbx rfl spL (by rfl) ?_) | refine slen rfl ?_ | (show SH _ _ _ _ _ (⟨_, .pick _ _ _, _, _, _, _⟩ :: _) _ _ _; refine pkf rfl tbL evL ?_) | refine fad rfl ?_ | (show SH _ _ _ _ _ (⟨_, .box _ _, _, _, _, _⟩ :: _) _ _ _; refine bxx rfl evL rfl (fun b => ?_))) | refine s_nil ?_ | refine kh_normal ?_))
  refine v_loop0 [(4,5),(23,38)] (fun k : Nat => [(23, .int .i64 k)]) (fun k => k ≤ l1.length ∧ (ents l1).take k = (ents l2).take k) (fun k => l1.length - k) 0 hsL ⟨Nat.zero_le _, rfl⟩ ?_
  rintro k g ⟨hk, ht⟩
  simp only [sets]
  by_cases hkl : k < l1.length
  · have hx := getD_mem (d := Flat.dflt) hkl
    have hy := getD_mem (d := Flat.dflt) (show k < l2.length by omega)
    have hC := fun w' (he : Ext w w') => sameE_spec (l1.getD k Flat.dflt) (l2.getD k Flat.dflt) w' ((hr1.2 _ hx).ext he) ((hr2.2 _ hy).ext he) (hs.el _ hx)
    by_cases he : (l1.getD k Flat.dflt).e = (l2.getD k Flat.dflt).e
    · have hn : (ents l1).take (k + 1) = (ents l2).take (k + 1) := take_next ⟨0, []⟩ (by rw [ents_len, ents_len]; exact hlen) (by rw [ents_len]; exact hkl) ht (by rw [ents_at l1 hkl, ents_at l2 (by omega)]; exact he)
      rw [decide_eq_true he] at hC
      clear ht he hx hy
      (repeat' (first | (show VH _ _ _ _ _ _ _; first | refine v_seq ?_ | refine r_seq ?_ | refine r_quiet hmix (by kernel_rfl) ?_ | refine v_block ?_ | refine v_skip ?_ | refine v_cond_t rfl tbL ?_ | refine v_cond_f rfl tbL ?_) | (show SH _ _ _ _ _ (_ :: _) _ _ _; first | (show SH _ _ _ _ _ (⟨_, .move _, _, _, _, _⟩ :: _) _ _ _; refine mov evL ?_) | (show SH _ _ _ _ _ (⟨_, .assign _, _, _, _, _⟩ :: _) _ _ _; refine asg evL ?_) | (show SH _ _ _ _ _ (⟨_, .binOp .lss _ _ _ _, _, _, _, _⟩ :: _) _ _ _; refine lssT rfl rfl omD ?_) | (show SH _ _ _ _ _ (⟨_, .binOp .add _ _ _ _, _, _, _, _⟩ :: _) _ _ _; refine add rfl rfl inL ?_) | (show SH _ _ _ _ _ (⟨_, .load _ _, _, _, _, _⟩ :: _) _ _ _; first | refine lbx rfl spL (by rfl) ?_ | refine lra rfl (fun _ _ => rdY) (by rfl) omL ?_ | refine lra rfl (fun _ _ => rdY) (by rfl) (by simp only [List.length_cons, List.length_nil]; omega) ?_) | (show SH _ _ _ _ _ (⟨_, .indexAddr _ _ _, _, _, _, _⟩ :: _) _ _ _; refine ix rfl rfl (by with_reducible rfl) (fun _ _ => rdY) (by rfl) omL omL ?_) | (show SH _ _ _ _ _ (⟨_, .call ⟨.value (.func 23), _, _⟩, _, _, _, _⟩ :: _) _ _ _; refine cl (callee := .func 23) rfl (fun w hw => hC _ hw.ext) rfl rfl ?_) | refine bnoT rfl ?_ | refine fad rfl ?_) | refine s_nil ?_ | refine kh_normal ?_ | refine bh_normal ?_))
      exact ⟨agL, k + 1, hsL, enL, ⟨hkl, hn⟩, by omega⟩
    · have hne : ents l1 ≠ ents l2 := fun e => he (by rw [← ents_at l1 hkl, ← ents_at l2 (by omega), e])
      rw [decide_eq_false hne]
      rw [decide_eq_false he] at hC
      clear ht he hx hy hne
      (repeat' (first | (show VH _ _ _ _ _ _ _; first | refine v_seq ?_ | refine r_seq ?_ | refine r_quiet hmix (by kernel_rfl) ?_ | refine v_block ?_ | refine v_ret ?_ | refine v_skip ?_ | refine v_cond_t rfl tbL ?_) | (show SH _ _ _ _ _ (_ :: _) _ _ _; first | (show SH _ _ _ _ _ (⟨_, .move _, _, _, _, _⟩ :: _) _ _ _; refine mov evL ?_) | (show SH _ _ _ _ _ (⟨_, .assign _, _, _, _, _⟩ :: _) _ _ _; refine asg evL ?_) | (show SH _ _ _ _ _ (⟨_, .binOp .lss _ _ _ _, _, _, _, _⟩ :: _) _ _ _; refine lssT rfl rfl omD ?_) | (show SH _ _ _ _ _ (⟨_, .load _ _, _, _, _, _⟩ :: _) _ _ _; first | refine lbx rfl spL (by rfl) ?_ | refine lra rfl (fun _ _ => rdY) (by rfl) omL ?_ | refine lra rfl (fun _ _ => rdY) (by rfl) (by simp only [List.length_cons, List.length_nil]; omega) ?_) | (show SH _ _ _ _ _ (⟨_, .indexAddr _ _ _, _, _, _, _⟩ :: _) _ _ _; refine ix rfl rfl (by with_reducible rfl) (fun _ _ => rdY) (by rfl) omL omL ?_) | (show SH _ _ _ _ _ (⟨_, .call ⟨.value (.func 23), _, _⟩, _, _, _, _⟩ :: _) _ _ _; refine cl (callee := .func 23) rfl (fun w hw => hC _ hw.ext) rfl rfl ?_) | refine bnoF rfl ?_ | refine fad rfl ?_) | refine s_nil ?_ | refine kh_normal ?_ | refine kh_ret ?_ | refine bh_ret ?_))
      exact rh1 rfl rfl ⟨rfl, rfl⟩ (ent_nil _)
  · have : ents l1 = ents l2 := by rw [List.take_of_length_le (by rw [ents_len]; omega), List.take_of_length_le (by rw [ents_len]; omega)] at ht; exact ht
    rw [decide_eq_true this]
    clear ht this
    (repeat' (first | (show VH _ _ _ _ _ _ _; first | refine v_seq ?_ | refine r_seq ?_ | refine v_ret ?_ | refine v_exit ?_ | refine v_cond_f rfl tbL ?_) | (show SH _ _ _ _ _ (_ :: _) _ _ _; first | (show SH _ _ _ _ _ (⟨_, .assign _, _, _, _, _⟩ :: _) _ _ _; refine asg evL ?_) | (show SH _ _ _ _ _ (⟨_, .binOp .lss _ _ _ _, _, _, _, _⟩ :: _) _ _ _; refine lssF rfl rfl omD ?_)) | refine s_nil ?_ | refine kh_normal ?_ | refine kh_exit ?_ | refine bh_exit ?_))
    exact rh1 rfl rfl ⟨rfl, rfl⟩ (ent_nil _)
def fewW (l : List EntP) : Bool := decide (l.length ≤ 70) && l.all fun x => decide (x.e.comps.length ≤ 14)
set_option maxHeartbeats 1000000 in
set_option maxRecDepth 100000 in
theorem few15_spec (t : Int) (A : Option Addr) (l : List EntP) (c1 : Nat) (w : World) (hr : Rd w A l) : Ret Tryd.prog 24 [wv t A l c1].toArray w (Out w (.bool (fewW l))) := by
  unfold wv fewW
  by_cases hl : l.length ≤ 70
  case neg =>
    rw [decide_eq_false hl, Bool.false_and]
    refine enterH Tryd.func24 rfl rfl Tryd.ntmps24 rfl (Wd.refl _) ?_
    (repeat' (first | (show VH _ _ _ _ _ _ _; first | refine v_seq ?_ | refine r_seq ?_ | refine v_ret ?_ | refine v_cond_t rfl tbL ?_) | (show SH _ _ _ _ _ (_ :: _) _ _ _; first | (show SH _ _ _ _ _ (⟨_, .assign _, _, _, _, _⟩ :: _) _ _ _; refine asg evL ?_) | (show SH _ _ _ _ _ (⟨_, .binOp .gtr _ _ _ _, _, _, _, _⟩ :: _) _ _ _; refine gtrT rfl rfl omD ?_) | (show SH _ _ _ _ _ (⟨_, .load _ _, _, _, _, _⟩ :: _) _ _ _; refine lbx rfl spL (by rfl) ?_) | refine slen rfl ?_ | refine fad rfl ?_ | (show SH _ _ _ _ _ (⟨_, .box _ _, _, _, _, _⟩ :: _) _ _ _; refine bxx rfl evL rfl (fun b => ?_))) | refine s_nil ?_ | refine kh_normal ?_ | refine kh_ret ?_))
    exact rh1 rfl rfl ⟨rfl, rfl⟩ (ent_nil _)
  rw [decide_eq_true hl, Bool.true_and]
  refine enterH Tryd.func24 rfl rfl Tryd.ntmps24 rfl (Wd.refl _) ?_
  (repeat' (first | (show VH _ _ _ _ _ _ _; first | refine v_seq ?_ | refine r_seq ?_ | refine v_block ?_ | refine v_skip ?_ | refine v_cond_f rfl tbL ?_) | (show SH _ _ _ _ _ (_ :: _) _ _ _; first | (show SH _ _ _ _ _ (⟨_, .move _, _, _, _, _⟩ :: _) _ _ _; refine mov evL ?_) | (show SH _ _ _ _ _ (⟨_, .assign _, _, _, _, _⟩ :: _) _ _ _; refine asg evL ?_) | (show SH _ _ _ _ _ (⟨_, .binOp .gtr _ _ _ _, _, _, _, _⟩ :: _) _ _ _; refine gtrF rfl rfl omD ?_) | (show SH _ _ _ _ _ (⟨_, .load _ _, _, _, _, _⟩ :: _) _ _ _; refine lbx rfl spL (by rfl) ?_) | refine slen rfl ?_ | refine fad rfl ?_ | (show SH _ _ _ _ _ (⟨_, .box _ _, _, _, _, _⟩ :: _) _ _ _; refine bxx rfl evL rfl (fun b => ?_))) | refine s_nil ?_ | refine kh_normal ?_))
  refine v_norm [(1,_),(2,_),(10,_),(11,_),(12,_)] heL (fun g => ?_)
  refine v_loop0 [(2,2),(4,4),(12,20)] (fun k : Nat => [(12, .int .i64 k)]) (fun k => k ≤ l.length ∧ ∀ q, q < k → (l.getD q Flat.dflt).e.comps.length ≤ 14) (fun k => l.length - k) 0 hsL ⟨Nat.zero_le _, fun q h => absurd h (Nat.not_lt_zero q)⟩ ?_
  rintro k g ⟨hk, hq⟩
  simp only [sets]
  by_cases hkl : k < l.length
  · obtain ⟨⟨⟨ei, cs⟩, Ax, cx⟩, hx⟩ : ∃ x, l.getD k Flat.dflt = x := ⟨_, rfl⟩
    have hxE : Flat.enc (l.getD k Flat.dflt) = [.int .i64 ei, .slice Ax cs.length cx] := by rw [hx]; rfl
    have hm := getD_mem (d := Flat.dflt) hkl
    rw [hx] at hm
    by_cases h14 : cs.length ≤ 14
    · have hq' : ∀ q, q < k + 1 → (l.getD q Flat.dflt).e.comps.length ≤ 14 := fun q hq2 => by
        by_cases e : q = k
        · rw [e, hx]; exact h14
        · exact hq q (by omega)
      clear hq hx hm
      (repeat' (first | (show VH _ _ _ _ _ _ _; first | refine v_seq ?_ | refine r_seq ?_ | refine v_block ?_ | refine v_skip ?_ | refine v_cond_t rfl tbL ?_ | refine v_cond_f rfl tbL ?_) | (show SH _ _ _ _ _ (_ :: _) _ _ _; first | (show SH _ _ _ _ _ (⟨_, .move _, _, _, _, _⟩ :: _) _ _ _; refine mov evL ?_) | (show SH _ _ _ _ _ (⟨_, .binOp .lss _ _ _ _, _, _, _, _⟩ :: _) _ _ _; refine lssT rfl rfl omD ?_) | (show SH _ _ _ _ _ (⟨_, .binOp .gtr _ _ _ _, _, _, _, _⟩ :: _) _ _ _; refine gtrF rfl rfl omD ?_) | (show SH _ _ _ _ _ (⟨_, .binOp .add _ _ _ _, _, _, _, _⟩ :: _) _ _ _; refine add rfl rfl inL ?_) | (show SH _ _ _ _ _ (⟨_, .load _ _, _, _, _, _⟩ :: _) _ _ _; first | refine lag rfl (fun _ _ => rdY) (by rfl) omL (by assumption) ?_ | refine lbx rfl spL (by rfl) ?_) | (show SH _ _ _ _ _ (⟨_, .indexAddr _ _ _, _, _, _, _⟩ :: _) _ _ _; refine ix rfl rfl (by with_reducible rfl) (fun _ _ => rdY) (by rfl) omL omL ?_) | refine slen rfl ?_ | refine fad rfl ?_ | refine ala rfl (fun b => ?_) | (show SH _ _ _ _ _ (⟨_, .store _ _ _, _, _, _, _⟩ :: _) _ _ _; refine sta rfl rfl rfl spL (by rfl) (by rfl) (by rfl) kpL ?_)) | refine s_nil ?_ | refine kh_normal ?_ | refine bh_normal ?_))
      exact ⟨agL, k + 1, hsL, enL, ⟨hkl, hq'⟩, by omega⟩
    · have hf : (l.all fun x => decide (x.e.comps.length ≤ 14)) = false := by
        rw [List.all_eq_false]
        exact ⟨_, hm, by simpa using h14⟩
      rw [hf]
      clear hq hx hm hf
      (repeat' (first | (show VH _ _ _ _ _ _ _; first | refine v_seq ?_ | refine r_seq ?_ | refine v_block ?_ | refine v_ret ?_ | refine v_skip ?_ | refine v_cond_t rfl tbL ?_) | (show SH _ _ _ _ _ (_ :: _) _ _ _; first | (show SH _ _ _ _ _ (⟨_, .assign _, _, _, _, _⟩ :: _) _ _ _; refine asg evL ?_) | (show SH _ _ _ _ _ (⟨_, .binOp .lss _ _ _ _, _, _, _, _⟩ :: _) _ _ _; refine lssT rfl rfl omD ?_) | (show SH _ _ _ _ _ (⟨_, .binOp .gtr _ _ _ _, _, _, _, _⟩ :: _) _ _ _; refine gtrT rfl rfl omD ?_) | (show SH _ _ _ _ _ (⟨_, .load _ _, _, _, _, _⟩ :: _) _ _ _; first | refine lag rfl (fun _ _ => rdY) (by rfl) omL (by assumption) ?_ | refine lbx rfl spL (by rfl) ?_) | (show SH _ _ _ _ _ (⟨_, .indexAddr _ _ _, _, _, _, _⟩ :: _) _ _ _; refine ix rfl rfl (by with_reducible rfl) (fun _ _ => rdY) (by rfl) omL omL ?_) | refine slen rfl ?_ | refine fad rfl ?_ | refine ala rfl (fun b => ?_) | (show SH _ _ _ _ _ (⟨_, .store _ _ _, _, _, _, _⟩ :: _) _ _ _; refine sta rfl rfl rfl spL (by rfl) (by rfl) (by rfl) kpL ?_)) | refine s_nil ?_ | refine kh_normal ?_ | refine kh_ret ?_ | refine bh_ret ?_))
      exact rh1 rfl rfl ⟨rfl, rfl⟩ (ent_nil _)
  · have hke : k = l.length := by omega
    have ht : (l.all fun x => decide (x.e.comps.length ≤ 14)) = true := by
      rw [List.all_eq_true]
      intro x hx
      obtain ⟨q, hq1, rfl⟩ := getD_of_mem Flat.dflt hx
      have := hq q (by omega)
      simpa using this
    rw [ht]
    clear hq ht
    (repeat' (first | (show VH _ _ _ _ _ _ _; first | refine v_seq ?_ | refine r_seq ?_ | refine v_ret ?_ | refine v_exit ?_ | refine v_cond_f rfl tbL ?_) | (show SH _ _ _ _ _ (_ :: _) _ _ _; first | (show SH _ _ _ _ _ (⟨_, .assign _, _, _, _, _⟩ :: _) _ _ _; refine asg evL ?_) | (show SH _ _ _ _ _ (⟨_, .binOp .lss _ _ _ _, _, _, _, _⟩ :: _) _ _ _; refine lssF rfl rfl omD ?_)) | refine s_nil ?_ | refine kh_normal ?_ | refine kh_exit ?_ | refine bh_exit ?_))
    exact rh1 rfl rfl ⟨rfl, rfl⟩ (ent_nil _)
end Go.Proofs.YtfodpcpclmnbkaaDoor
