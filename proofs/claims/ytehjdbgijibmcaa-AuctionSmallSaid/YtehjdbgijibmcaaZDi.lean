/- Arrays of four numbers; two lists of moves, two houses are compared. -/
import Derived.Test.YtehjdbgijibmcaaZDh
import Derived.ChangeKeysEq
set_option linter.unusedSimpArgs false
set_option linter.unusedVariables false
namespace Go.Proofs.Ytehjdbgijibmcaa
open Go.Fw Go.RowKit
structure Q4 where
  a : Int
  b : Int
  c : Int
  d : Int
  deriving DecidableEq
instance : Flat Q4 := ⟨4, fun x => [.int .i64 x.a, .int .i64 x.b, .int .i64 x.c, .int .i64 x.d], ⟨0, 0, 0, 0⟩, fun _ => rfl, fun x v hv => by simp at hv; rcases hv with rfl | rfl | rfl | rfl <;> rfl, by omega⟩
instance : TCmp Try.prog 66 Q4 := ⟨by kernel_rfl, fun x y w => by
  have hu : Try.prog.underlying 66 = some (.array 4 3) := by kernel_rfl
  obtain ⟨i, hi⟩ : ∃ i, Try.prog.info? 3 = some i := Option.isSome_iff_exists.1 (by kernel_rfl)
  have hc : Try.prog.cellsOf 3 = 1 := by kernel_rfl
  rw [show (10000 : Nat) = 9999 + 1 from rfl, run_equalIn_array w 9999 _ _ hu hi, hc]
  have ha : ∀ w, (isAgg 3).run Try.prog w = .ok false w := fun w => by kernel_rfl
  have hr : List.range 4 = [0, 1, 2, 3] := rfl
  rw [hr]
  simp only [Op.eqItems, part, ha, Sem.run_bind, Result.andThen_ok]
  obtain ⟨a0, a1, a2, a3⟩ := x
  obtain ⟨b0, b1, b2, b3⟩ := y
  by_cases h0 : a0 = b0
  case neg => simp [Flat.enc, ha, run_equalIn_int w 9998 _ .i64 .i64 _ _ Try.underlying3, h0]
  by_cases h1 : a1 = b1
  case neg => simp [Flat.enc, ha, run_equalIn_int w 9998 _ .i64 .i64 _ _ Try.underlying3, h1]
  by_cases h2 : a2 = b2
  case neg => simp [Flat.enc, ha, run_equalIn_int w 9998 _ .i64 .i64 _ _ Try.underlying3, h2]
  by_cases h3 : a3 = b3
  case neg => simp [Flat.enc, ha, run_equalIn_int w 9998 _ .i64 .i64 _ _ Try.underlying3, h3]
  simp [Flat.enc, ha, run_equalIn_int w 9998 _ .i64 .i64 _ _ Try.underlying3, h0, h1, h2, h3]⟩
section
variable {md : Md} {n : Nat} {Q : HQ} {f : Fr} {w0 : World} {H R : List HP} {ops : Array Oper} {rest : List Oper} {d : Nat} {op : Op} {ty : TypeId} {pos : String} {aft : Array Edge} {v : Value} {x0 x1 x2 x3 : Operand}
theorem ox_quad {w : World} {a b c e : Int} (h0 : ev n f x0 = .int .i64 a) (h1 : ev n f x1 = .int .i64 b) (h2 : ev n f x2 = .int .i64 c) (h3 : ev n f x3 = .int .i64 e) :
    OX Try.prog n f (.build 66 #[(0, x0), (1, x1), (2, x2), (3, x3)]) ty w (.agg (Flat.enc (⟨a, b, c, e⟩ : Q4)).toArray) w := by
  intro d pos aft g
  have hz : ∀ w, (zeroValue 66).run Try.prog w = .ok (.agg #[.int .i64 0, .int .i64 0, .int .i64 0, .int .i64 0]) w := fun w => by kernel_rfl
  have hu : Try.prog.underlying 66 = some (.array 4 3) := by kernel_rfl
  have hs : ∀ w, (sizeOf 3).run Try.prog w = .ok 1 w := fun w => by kernel_rfl
  simp [execOp, Instr.build, hz, run_underlying hu, hs, h0, h1, h2, h3, Value.cells, Instr.fill, Flat.enc]
theorem bldQ {a b c e : Int} (h0 : ev n f x0 = .int .i64 a) (h1 : ev n f x1 = .int .i64 b) (h2 : ev n f x2 = .int .i64 c) (h3 : ev n f x3 = .int .i64 e)
    (k : SH (nx md) Try.prog n ops Q rest (upd f d (.agg (Flat.enc (⟨a, b, c, e⟩ : Q4)).toArray)) w0 H) : SH md Try.prog n ops Q (⟨some d, .build 66 #[(0, x0), (1, x1), (2, x2), (3, x3)], ty, pos, aft, none⟩ :: rest) f w0 H := s_val (fun _ _ => ox_quad h0 h1 h2 h3) k
theorem ox_quad0 {w : World} : OX Try.prog n f (.build 66 #[]) ty w (.agg (Flat.enc (⟨0, 0, 0, 0⟩ : Q4)).toArray) w := by
  intro d pos aft g
  have hz : ∀ w, (zeroValue 66).run Try.prog w = .ok (.agg #[.int .i64 0, .int .i64 0, .int .i64 0, .int .i64 0]) w := fun w => by kernel_rfl
  have hu : Try.prog.underlying 66 = some (.array 4 3) := by kernel_rfl
  have hs : ∀ w, (sizeOf 3).run Try.prog w = .ok 1 w := fun w => by kernel_rfl
  simp [execOp, Instr.build, hz, run_underlying hu, hs, Value.cells, Instr.fill, Flat.enc]
theorem bldQ0 (k : SH (nx md) Try.prog n ops Q rest (upd f d (.agg (Flat.enc (⟨0, 0, 0, 0⟩ : Q4)).toArray)) w0 H) : SH md Try.prog n ops Q (⟨some d, .build 66 #[], ty, pos, aft, none⟩ :: rest) f w0 H := s_val (fun _ _ => ox_quad0) k
end
theorem mv_spec (a b c d : Int) (w : World) : Ret Try.prog 17 [.int .i64 a, .int .i64 b, .int .i64 c, .int .i64 d].toArray w (Out w (.agg (Flat.enc (⟨a, b, c, d⟩ : Mv)).toArray)) := by
  refine enterH Try.func17 rfl rfl Try.ntmps17 rfl (Wd.refl _) ?_
  (repeat' (first | (show VH _ _ _ _ _ _ _; first | refine v_seq ?_ | refine r_seq ?_ | refine v_ret ?_) | (show SH _ _ _ _ _ (_ :: _) _ _ _; first | refine mov evL ?_ | refine bld rfl rfl ?_ | refine ala rfl (fun b => ?_) | refine sta rfl rfl rfl spL (by rfl) (by rfl) (by rfl) kpL ?_) | refine s_nil ?_ | refine kh_normal ?_))
  exact rhC rfl rfl rfl (fun w hw => loadVar_bx hw spL (by rfl)) ⟨rfl, rfl⟩ (ent_nil _)
theorem take_ne {α : Type} {l1 l2 : List α} {k : Nat} (d : α) (h : l1.getD k d ≠ l2.getD k d) : l1 ≠ l2 := fun e => h (by rw [e])
theorem take_next {α : Type} {l1 l2 : List α} {k : Nat} (d : α) (hl : l1.length = l2.length) (hk : k < l1.length) (ht : l1.take k = l2.take k) (h : l1.getD k d = l2.getD k d) : l1.take (k + 1) = l2.take (k + 1) := by
  rw [take_snoc (d := d) hk, take_snoc (d := d) (by omega), ht, h]
set_option maxHeartbeats 1000000 in
set_option maxRecDepth 100000 in
theorem sameMoves_spec (A1 A2 : Option Addr) (l1 l2 : List Mv) (m1 m2 c1 c2 : Nat) (w : World) (hr1 : Rd w A1 l1) (hr2 : Rd w A2 l2) (hm1 : m1 = l1.length) (hm2 : m2 = l2.length) (hl : l1.length ≤ 1000000) :
    Ret Try.prog 20 [.slice A1 m1 c1, .slice A2 m2 c2].toArray w (Out w (.bool (decide (l1 = l2)))) := by
  subst hm1 hm2
  refine enterH Try.func20 rfl rfl Try.ntmps20 rfl (Wd.refl _) ?_
  by_cases hlen : l1.length = l2.length
  · (repeat' (first | (show VH _ _ _ _ _ _ _; first | refine v_seq ?_ | refine r_seq ?_ | refine v_block ?_ | refine v_skip ?_ | refine v_cond_f rfl tbL ?_) | (show SH _ _ _ _ _ (_ :: _) _ _ _; first | refine mov evL ?_ | refine asg evL ?_ | refine neq rfl rfl ?_ | refine slen rfl ?_) | refine s_nil ?_ | refine kh_normal ?_))
    refine v_loop0 [(4,5),(11,25)] (fun k : Nat => [(5, .int .i64 k)]) (fun k => k ≤ l1.length ∧ l1.take k = l2.take k) (fun k => l1.length - k) 0 hsL ⟨Nat.zero_le _, rfl⟩ ?_
    rintro k g ⟨hk, ht⟩
    simp only [sets]
    by_cases hkl : k < l1.length
    · by_cases he : l1.getD k Flat.dflt = l2.getD k Flat.dflt
      · (repeat' (first | (show VH _ _ _ _ _ _ _; first | refine v_seq ?_ | refine r_seq ?_ | refine v_block ?_ | refine v_skip ?_ | refine v_cond_t rfl tbL ?_) | (show SH _ _ _ _ _ (_ :: _) _ _ _; first | refine mov evL ?_ | refine lss rfl rfl ?_ | refine slen rfl ?_) | refine s_nil ?_ | refine kh_normal ?_))
        refine r_quiet hmix (by kernel_rfl) ?_
        (repeat' ((show SH _ _ _ _ _ (_ :: _) _ _ _; first | refine mov evL ?_ | refine lra rfl (fun _ _ => rdL) (by rfl) omL ?_ | refine ix rfl rfl (by with_reducible rfl) (fun _ _ => rdL) (by rfl) omL omL ?_)))
        refine nea (l1.getD k Flat.dflt) (l2.getD k Flat.dflt) rfl rfl ?_
        rw [decide_eq_true he]
        (repeat' (first | (show VH _ _ _ _ _ _ _; first | refine r_seq ?_ | refine v_skip ?_ | refine v_cond_f rfl tbL ?_) | (show SH _ _ _ _ _ (_ :: _) _ _ _; first | refine mov evL ?_ | refine asg evL ?_ | refine add rfl rfl inL ?_) | refine s_nil ?_ | refine kh_normal ?_ | refine bh_normal ?_))
        exact ⟨agL, k + 1, hsL, enL, ⟨hkl, take_next Flat.dflt hlen hkl ht he⟩, by omega⟩
      · (repeat' (first | (show VH _ _ _ _ _ _ _; first | refine v_seq ?_ | refine r_seq ?_ | refine v_block ?_ | refine v_skip ?_ | refine v_cond_t rfl tbL ?_) | (show SH _ _ _ _ _ (_ :: _) _ _ _; first | refine mov evL ?_ | refine lss rfl rfl ?_ | refine slen rfl ?_) | refine s_nil ?_ | refine kh_normal ?_))
        refine r_quiet hmix (by kernel_rfl) ?_
        (repeat' ((show SH _ _ _ _ _ (_ :: _) _ _ _; first | refine mov evL ?_ | refine lra rfl (fun _ _ => rdL) (by rfl) omL ?_ | refine ix rfl rfl (by with_reducible rfl) (fun _ _ => rdL) (by rfl) omL omL ?_)))
        refine nea (l1.getD k Flat.dflt) (l2.getD k Flat.dflt) rfl rfl ?_
        rw [decide_eq_false he]
        (repeat' (first | (show VH _ _ _ _ _ _ _; first | refine v_seq ?_ | refine r_seq ?_ | refine v_ret ?_ | refine v_cond_t rfl tbL ?_) | refine asg evL ?_ | refine s_nil ?_ | refine kh_normal ?_ | refine kh_ret ?_ | refine bh_ret ?_))
        exact rh1 rfl rfl ⟨congrArg Value.bool (decide_eq_false (take_ne Flat.dflt he)).symm, rfl⟩ (ent_nil _)
    · (repeat' (first | (show VH _ _ _ _ _ _ _; first | refine v_seq ?_ | refine r_seq ?_ | refine v_ret ?_ | refine v_exit ?_ | refine v_cond_f rfl tbL ?_) | (show SH _ _ _ _ _ (_ :: _) _ _ _; first | refine mov evL ?_ | refine asg evL ?_ | refine lss rfl rfl ?_ | refine slen rfl ?_) | refine s_nil ?_ | refine kh_normal ?_ | refine kh_exit ?_ | refine bh_exit ?_))
      exact rh1 rfl rfl ⟨congrArg Value.bool (decide_eq_true (by rw [List.take_of_length_le (by omega), List.take_of_length_le (by omega)] at ht; exact ht)).symm, rfl⟩ (ent_nil _)
  · (repeat' (first | (show VH _ _ _ _ _ _ _; first | refine v_seq ?_ | refine r_seq ?_ | refine v_ret ?_ | refine v_cond_t rfl tbL ?_) | (show SH _ _ _ _ _ (_ :: _) _ _ _; first | refine mov evL ?_ | refine asg evL ?_ | refine neq rfl rfl ?_ | refine slen rfl ?_) | refine s_nil ?_ | refine kh_normal ?_ | refine kh_ret ?_))
    all_goals first
      | exact rh1 rfl rfl ⟨congrArg Value.bool (decide_eq_false (fun e => hlen (by rw [e]))).symm, rfl⟩ (ent_nil _)
      | (exfalso; omega)
set_option maxHeartbeats 1000000 in
set_option maxRecDepth 100000 in
theorem sameH_spec (A1 A2 : Option Addr) (c1 c2 : Nat) (h1 h2 : House) (w : World) (hr1 : Rd w A1 h1.lots) (hr2 : Rd w A2 h2.lots) (hl : h1.lots.length ≤ 1000000) :
    Ret Try.prog 19 [hv A1 c1 h1, hv A2 c2 h2].toArray w (Out w (.bool (decide (h1 = h2)))) := by
  obtain ⟨t1, s1, l1⟩ := h1
  obtain ⟨t2, s2, l2⟩ := h2
  unfold hv
  simp only at hr1 hr2 hl ⊢
  refine enterH Try.func19 rfl rfl Try.ntmps19 rfl (Wd.refl _) ?_
  by_cases ht : t1 = t2
  case neg =>
    (repeat' (first | (show VH _ _ _ _ _ _ _; first | refine v_seq ?_ | refine r_seq ?_ | refine v_ret ?_ | refine v_cond_t rfl tbL ?_) | (show SH _ _ _ _ _ (_ :: _) _ _ _; first | (refine gif rfl rfl ?_; refine giFT tbL ?_) | refine mov evL ?_ | refine asg evL ?_ | refine neq rfl rfl ?_ | refine lbx rfl spL (by rfl) ?_ | refine pkt rfl tbL evL ?_ | refine fad rfl ?_ | refine bxx rfl evL rfl (fun b => ?_)) | refine s_nil ?_ | refine kh_normal ?_ | refine kh_ret ?_))
    all_goals first
      | exact rh1 rfl rfl ⟨congrArg Value.bool (decide_eq_false (fun e => ht (congrArg House.tick e))).symm, rfl⟩ (ent_nil _)
      | (exfalso; omega)
  by_cases hs : s1 = s2
  case neg =>
    (repeat' (first | (show VH _ _ _ _ _ _ _; first | refine v_seq ?_ | refine r_seq ?_ | refine v_ret ?_ | refine v_cond_t rfl tbL ?_) | (show SH _ _ _ _ _ (_ :: _) _ _ _; first | (refine gif rfl rfl ?_; first | refine giFF tbL ?_ | refine giFT tbL ?_) | refine mov evL ?_ | refine asg evL ?_ | refine neq rfl rfl ?_ | refine lbx rfl spL (by rfl) ?_ | refine pkt rfl tbL evL ?_ | refine pkf rfl tbL evL ?_ | refine fad rfl ?_ | refine bxx rfl evL rfl (fun b => ?_)) | refine s_nil ?_ | refine kh_normal ?_ | refine kh_ret ?_))
    all_goals first
      | exact rh1 rfl rfl ⟨congrArg Value.bool (decide_eq_false (fun e => hs (congrArg House.last e))).symm, rfl⟩ (ent_nil _)
      | (exfalso; omega)
  by_cases hlen : l1.length = l2.length
  case neg =>
    (repeat' (first | (show VH _ _ _ _ _ _ _; first | refine v_seq ?_ | refine r_seq ?_ | refine v_ret ?_ | refine v_cond_t rfl tbL ?_) | (show SH _ _ _ _ _ (_ :: _) _ _ _; first | (refine gif rfl rfl ?_; refine giFF tbL ?_) | refine mov evL ?_ | refine asg evL ?_ | refine neq rfl rfl ?_ | refine lbx rfl spL (by rfl) ?_ | refine slen rfl ?_ | refine pkf rfl tbL evL ?_ | refine fad rfl ?_ | refine bxx rfl evL rfl (fun b => ?_)) | refine s_nil ?_ | refine kh_normal ?_ | refine kh_ret ?_))
    all_goals first
      | exact rh1 rfl rfl ⟨congrArg Value.bool (decide_eq_false (fun e => hlen (congrArg (fun h => h.lots.length) e))).symm, rfl⟩ (ent_nil _)
      | (exfalso; omega)
  subst ht hs
  (repeat' (first | (show VH _ _ _ _ _ _ _; first | refine v_seq ?_ | refine r_seq ?_ | refine v_block ?_ | refine v_skip ?_ | refine v_cond_f rfl tbL ?_) | (show SH _ _ _ _ _ (_ :: _) _ _ _; first | (refine gif rfl rfl ?_; refine giFF tbL ?_) | refine mov evL ?_ | refine asg evL ?_ | refine neq rfl rfl ?_ | refine lbx rfl spL (by rfl) ?_ | refine slen rfl ?_ | refine pkf rfl tbL evL ?_ | refine fad rfl ?_ | refine bxx rfl evL rfl (fun b => ?_)) | refine s_nil ?_ | refine kh_normal ?_))
  refine v_loop0 [(4,5),(27,44)] (fun k : Nat => [(5, .int .i64 k)]) (fun k => k ≤ l1.length ∧ l1.take k = l2.take k) (fun k => l1.length - k) 0 hsL ⟨Nat.zero_le _, rfl⟩ ?_
  rintro k g ⟨hk, ht⟩
  simp only [sets]
  by_cases hkl : k < l1.length
  · by_cases he : l1.getD k Flat.dflt = l2.getD k Flat.dflt
    · (repeat' (first | (show VH _ _ _ _ _ _ _; first | refine v_seq ?_ | refine r_seq ?_ | refine v_block ?_ | refine v_skip ?_ | refine v_cond_t rfl tbL ?_) | (show SH _ _ _ _ _ (_ :: _) _ _ _; first | refine mov evL ?_ | refine lss rfl rfl ?_ | refine lbx rfl spL (by rfl) ?_ | refine slen rfl ?_ | refine fad rfl ?_) | refine s_nil ?_ | refine kh_normal ?_))
      refine r_quiet hmix (by kernel_rfl) ?_
      (repeat' ((show SH _ _ _ _ _ (_ :: _) _ _ _; first | refine mov evL ?_ | (show SH _ _ _ _ _ (⟨_, .load _ _, _, _, _, _⟩ :: _) _ _ _; first | refine lbx rfl spL (by rfl) ?_ | refine lra rfl (fun _ _ => rdL) (by rfl) omL ?_) | refine ix rfl rfl (by with_reducible rfl) (fun _ _ => rdL) (by rfl) omL omL ?_ | refine fad rfl ?_)))
      refine nea (l1.getD k Flat.dflt) (l2.getD k Flat.dflt) rfl rfl ?_
      rw [decide_eq_true he]
      (repeat' (first | (show VH _ _ _ _ _ _ _; first | refine r_seq ?_ | refine v_skip ?_ | refine v_cond_f rfl tbL ?_) | (show SH _ _ _ _ _ (_ :: _) _ _ _; first | refine mov evL ?_ | refine asg evL ?_ | refine add rfl rfl inL ?_) | refine s_nil ?_ | refine kh_normal ?_ | refine bh_normal ?_))
      exact ⟨agL, k + 1, hsL, enL, ⟨hkl, take_next Flat.dflt hlen hkl ht he⟩, by omega⟩
    · (repeat' (first | (show VH _ _ _ _ _ _ _; first | refine v_seq ?_ | refine r_seq ?_ | refine v_block ?_ | refine v_skip ?_ | refine v_cond_t rfl tbL ?_) | (show SH _ _ _ _ _ (_ :: _) _ _ _; first | refine mov evL ?_ | refine lss rfl rfl ?_ | refine lbx rfl spL (by rfl) ?_ | refine slen rfl ?_ | refine fad rfl ?_) | refine s_nil ?_ | refine kh_normal ?_))
      refine r_quiet hmix (by kernel_rfl) ?_
      (repeat' ((show SH _ _ _ _ _ (_ :: _) _ _ _; first | refine mov evL ?_ | (show SH _ _ _ _ _ (⟨_, .load _ _, _, _, _, _⟩ :: _) _ _ _; first | refine lbx rfl spL (by rfl) ?_ | refine lra rfl (fun _ _ => rdL) (by rfl) omL ?_) | refine ix rfl rfl (by with_reducible rfl) (fun _ _ => rdL) (by rfl) omL omL ?_ | refine fad rfl ?_)))
      refine nea (l1.getD k Flat.dflt) (l2.getD k Flat.dflt) rfl rfl ?_
      rw [decide_eq_false he]
      (repeat' (first | (show VH _ _ _ _ _ _ _; first | refine v_seq ?_ | refine r_seq ?_ | refine v_ret ?_ | refine v_cond_t rfl tbL ?_) | refine asg evL ?_ | refine s_nil ?_ | refine kh_normal ?_ | refine kh_ret ?_ | refine bh_ret ?_))
      exact rh1 rfl rfl ⟨congrArg Value.bool (decide_eq_false (fun e => take_ne Flat.dflt he (congrArg House.lots e))).symm, rfl⟩ (ent_nil _)
  · (repeat' (first | (show VH _ _ _ _ _ _ _; first | refine v_seq ?_ | refine r_seq ?_ | refine v_ret ?_ | refine v_exit ?_ | refine v_cond_f rfl tbL ?_) | (show SH _ _ _ _ _ (_ :: _) _ _ _; first | refine mov evL ?_ | refine asg evL ?_ | refine lss rfl rfl ?_ | refine lbx rfl spL (by rfl) ?_ | refine slen rfl ?_ | refine fad rfl ?_) | refine s_nil ?_ | refine kh_normal ?_ | refine kh_exit ?_ | refine bh_exit ?_))
    have : l1 = l2 := by rw [List.take_of_length_le (by omega), List.take_of_length_le (by omega)] at ht; exact ht
    subst this
    exact rh1 rfl rfl ⟨congrArg Value.bool (decide_eq_true rfl).symm, rfl⟩ (ent_nil _)
end Go.Proofs.Ytehjdbgijibmcaa
