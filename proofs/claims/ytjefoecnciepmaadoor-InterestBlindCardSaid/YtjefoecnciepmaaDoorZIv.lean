/- Package vec: the distance of two points. -/
import Derived.Test.YtjefoecnciepmaaDoorZTw
import Derived.Test.YtjefoecnciepmaaDoorZSv
set_option linter.unusedSimpArgs false
set_option linter.unusedVariables false
namespace Go.Proofs.YtjefoecnciepmaaDoor
open Go.Fw Go.RowKit
theorem wrapU {n : Int} (h0 : 0 ≤ n) (h1 : n < 18446744073709551616) : IntKind.u64.wrap n = n := by
  simp only [IntKind.wrap, IntKind.bits, IntKind.signed, Bool.false_and]
  rw [if_neg (by simp)]
  exact Int.emod_eq_of_lt h0 (by simpa using h1)
theorem wrapU_sub {a b : Int} (h0 : 0 ≤ b - a) (h1 : b - a < 18446744073709551616) : IntKind.u64.wrap (IntKind.u64.wrap b - IntKind.u64.wrap a) = b - a := by
  simp only [IntKind.wrap, IntKind.bits, IntKind.signed, Bool.false_and]
  simp only [Bool.false_eq_true, if_false, Int.sub_emod_emod, Int.emod_sub_emod]
  exact Int.emod_eq_of_lt h0 (by simpa using h1)
theorem wrapI {n : Int} (h0 : -9223372036854775808 ≤ n) (h1 : n ≤ 9223372036854775807) : IntKind.i64.wrap n = n := wrap_in ⟨h0, h1⟩
/-- A size of 128 bits; a number of 128 bits and a sign. -/
structure SzU where
  hi : Int
  lo : Int
  deriving DecidableEq
instance : Flat SzU := ⟨2, fun p => [.int .u64 p.hi, .int .u64 p.lo], ⟨0, 0⟩, fun _ => rfl, fun x v hv => by simp at hv; rcases hv with rfl | rfl <;> rfl, by omega⟩
instance : TCmp Tryd.prog 110 SzU := ⟨by kernel_rfl, fun x y w => by
  rw [show (10000 : Nat) = 9999 + 1 from rfl, run_equalIn_agg w 9999 _ _ _ (by kernel_rfl) (by kernel_rfl)]
  have ha : ∀ w, (isAgg 108).run Tryd.prog w = .ok false w := fun w => by kernel_rfl
  simp only [Program.fieldsOf, Tryd.underlying110, Op.eqFields, part, ha, Sem.run_bind, Result.andThen_ok]
  obtain ⟨a0, a1⟩ := x
  obtain ⟨b0, b1⟩ := y
  by_cases h0 : a0 = b0
  case neg => simp [Flat.enc, ha, run_equalIn_int w 9998 _ .u64 .u64 _ _ Tryd.underlying108, h0]
  by_cases h1 : a1 = b1
  case neg => simp [Flat.enc, ha, run_equalIn_int w 9998 _ .u64 .u64 _ _ Tryd.underlying108, h1]
  simp [Flat.enc, ha, run_equalIn_int w 9998 _ .u64 .u64 _ _ Tryd.underlying108, h0, h1]⟩
section
variable {md : Md} {n : Nat} {Q : HQ} {f : Fr} {w0 : World} {H R : List HP} {ops : Array Oper} {rest : List Oper} {d : Nat} {ty : TypeId} {pos : String} {aft : Array Edge} {x y : Operand}
theorem bldI {a b : Int} {s : Bool} (h0 : ev n f x = .agg #[.int .u64 a, .int .u64 b]) (h1 : ev n f y = .bool s) (k : SH (nx md) Tryd.prog n ops Q rest (upd f d (.agg [.int .u64 a, .int .u64 b, .bool s].toArray)) w0 H) :
    SH md Tryd.prog n ops Q (⟨some d, .build 112 #[(0, x), (1, y)], ty, pos, aft, none⟩ :: rest) f w0 H :=
  bldN (parts := [(0, x), (1, y)]) (cs := [.int .u64 a, .int .u64 b, .bool s]) (by simp [Instr.fill, h0, h1, Value.cells]) k
theorem bldI1 {a b : Int} (h0 : ev n f x = .agg #[.int .u64 a, .int .u64 b]) (k : SH (nx md) Tryd.prog n ops Q rest (upd f d (.agg [.int .u64 a, .int .u64 b, .bool false].toArray)) w0 H) :
    SH md Tryd.prog n ops Q (⟨some d, .build 112 #[(0, x)], ty, pos, aft, none⟩ :: rest) f w0 H :=
  bldN (parts := [(0, x)]) (cs := [.int .u64 a, .int .u64 b, .bool false]) (by simp [Instr.fill, h0, Value.cells]) k
end
set_option maxHeartbeats 1000000 in
set_option maxRecDepth 100000 in
theorem made_spec (lo : Int) (s : Bool) (w : World) : Ret Tryd.prog 76 [.agg #[.int .u64 0, .int .u64 lo], .bool s].toArray w (Out w (.agg #[.int .u64 0, .int .u64 lo, .bool (s && decide (lo ≠ 0))])) := by
  refine enterH Tryd.func76 rfl rfl Tryd.ntmps76 rfl (Wd.refl _) ?_
  (repeat' (first | (show VH _ _ _ _ _ _ _; first | refine v_seq ?_ | refine r_seq ?_) | (show SH _ _ _ _ _ (_ :: _) _ _ _; first | refine ala rfl (fun b => ?_) | (show SH _ _ _ _ _ (⟨_, .box _ _, _, _, _, _⟩ :: _) _ _ _; refine bxx rfl evL rfl (fun b => ?_))) | refine s_nil ?_ | refine kh_normal ?_))
  rename_i b2
  refine r_heldT [bx b2 110 _] (tr [(0, true), (1, false), (2, false), (3, true), (4, false), (5, false), (6, false), (7, false), (8, false)] .nil) hmix (by kernel_rfl) enL ?_
  cases s with
  | false =>
    (repeat' ((show SH _ _ _ _ _ (_ :: _) _ _ _; first | (show SH _ _ _ _ _ (⟨_, _, _, _, _, some _⟩ :: _) _ _ _; (refine gif rfl rfl ?_; refine giTF tbL ?_)) | (show SH _ _ _ _ _ (⟨_, .move _, _, _, _, _⟩ :: _) _ _ _; refine mov evL ?_) | (show SH _ _ _ _ _ (⟨_, .load _ _, _, _, _, _⟩ :: _) _ _ _; refine lba rfl spL (by rfl) ?_) | (show SH _ _ _ _ _ (⟨_, .pick _ _ _, _, _, _, _⟩ :: _) _ _ _; refine pkf rfl tbL evL ?_))))
    refine bldI rfl rfl ?_
    (repeat' (first | refine v_ret ?_ | (show SH _ _ _ _ _ (_ :: _) _ _ _; (show SH _ _ _ _ _ (⟨_, .store _ _ _, _, _, _, _⟩ :: _) _ _ _; refine sta rfl rfl rfl spL (by rfl) (by rfl) (by rfl) kpL ?_)) | refine s_nil ?_ | refine kh_normal ?_))
    exact rhC rfl rfl rfl (fun w hw => loadVar_bx hw spL (by rfl)) ⟨rfl, rfl⟩ (ent_nil _)
  | true =>
    (repeat' ((show SH _ _ _ _ _ (_ :: _) _ _ _; first | (show SH _ _ _ _ _ (⟨_, _, _, _, _, some _⟩ :: _) _ _ _; (refine gif rfl rfl ?_; refine giTT tbL ?_)) | (show SH _ _ _ _ _ (⟨_, .move _, _, _, _, _⟩ :: _) _ _ _; refine mov evL ?_) | (show SH _ _ _ _ _ (⟨_, .load _ _, _, _, _, _⟩ :: _) _ _ _; refine lba rfl spL (by rfl) ?_) | refine bld rfl rfl ?_)))
    refine nea (⟨0, lo⟩ : SzU) ⟨0, 0⟩ rfl rfl ?_
    (repeat' ((show SH _ _ _ _ _ (_ :: _) _ _ _; (show SH _ _ _ _ _ (⟨_, .pick _ _ _, _, _, _, _⟩ :: _) _ _ _; refine pkt rfl tbL evL ?_))))
    refine bldI rfl rfl ?_
    (repeat' (first | refine v_ret ?_ | (show SH _ _ _ _ _ (_ :: _) _ _ _; (show SH _ _ _ _ _ (⟨_, .store _ _ _, _, _, _, _⟩ :: _) _ _ _; refine sta rfl rfl rfl spL (by rfl) (by rfl) (by rfl) kpL ?_)) | refine s_nil ?_ | refine kh_normal ?_))
    exact rhC rfl rfl rfl (fun w hw => loadVar_bx hw spL (by rfl)) ⟨by simp, rfl⟩ (ent_nil _)
set_option maxHeartbeats 1000000 in
set_option maxRecDepth 100000 in
theorem diff_spec (a b : Int) (w : World) (h : a - b < 9223372036854775808 ∧ b - a < 9223372036854775808) : Ret Tryd.prog 71 [.int .i64 a, .int .i64 b].toArray w (Out w (.agg #[.int .u64 0, .int .u64 (max (a - b) (b - a)), .bool (decide (a < b))])) := by
  refine enterH Tryd.func71 rfl rfl Tryd.ntmps71 rfl (Wd.refl _) ?_
  by_cases hab : a < b
  · have e1 := wrapU_sub (a := a) (b := b) (by omega) (by omega)
    have e2 : (true && decide (b - a ≠ 0)) = true := by simp; omega
    have hm := fun w => made_spec (b - a) true w
    rw [e2] at hm
    rw [decide_eq_true hab, show max (a - b) (b - a) = b - a by omega]
    clear e2
    (repeat' (first | (show VH _ _ _ _ _ _ _; first | refine v_seq ?_ | refine r_seq ?_ | refine v_cond_t rfl tbL ?_) | (show SH _ _ _ _ _ (_ :: _) _ _ _; first | (show SH _ _ _ _ _ (⟨_, .move _, _, _, _, _⟩ :: _) _ _ _; refine mov evL ?_) | (show SH _ _ _ _ _ (⟨_, .binOp .lss _ _ _ _, _, _, _, _⟩ :: _) _ _ _; refine lssT rfl rfl omD ?_) | refine cnv rfl ?_ | refine ala rfl (fun b => ?_)) | refine s_nil ?_ | refine kh_normal ?_))
    refine subw rfl rfl _ e1 ?_
    (repeat' (first | refine v_ret ?_ | (show SH _ _ _ _ _ (_ :: _) _ _ _; first | (show SH _ _ _ _ _ (⟨_, .call ⟨.value (.func 76), _, _⟩, _, _, _, _⟩ :: _) _ _ _; refine cl (callee := .func 76) rfl (fun w hw => hm w) rfl rfl ?_) | refine bld rfl rfl ?_ | (show SH _ _ _ _ _ (⟨_, .store _ _ _, _, _, _, _⟩ :: _) _ _ _; refine sta rfl rfl rfl spL (by rfl) (by rfl) (by rfl) kpL ?_)) | refine s_nil ?_ | refine kh_normal ?_ | refine kh_ret ?_))
    exact rhC rfl rfl rfl (fun w hw => loadVar_bx hw spL (by rfl)) ⟨rfl, rfl⟩ (ent_nil _)
  · have e1 := wrapU_sub (a := b) (b := a) (by omega) (by omega)
    have hm := fun w => made_spec (a - b) false w
    rw [Bool.false_and] at hm
    rw [decide_eq_false hab, show max (a - b) (b - a) = a - b by omega]
    (repeat' (first | (show VH _ _ _ _ _ _ _; first | refine v_seq ?_ | refine r_seq ?_ | refine v_skip ?_ | refine v_cond_f rfl tbL ?_) | (show SH _ _ _ _ _ (_ :: _) _ _ _; first | (show SH _ _ _ _ _ (⟨_, .move _, _, _, _, _⟩ :: _) _ _ _; refine mov evL ?_) | (show SH _ _ _ _ _ (⟨_, .binOp .lss _ _ _ _, _, _, _, _⟩ :: _) _ _ _; refine lssF rfl rfl omD ?_) | refine cnv rfl ?_ | refine ala rfl (fun b => ?_)) | refine s_nil ?_ | refine kh_normal ?_))
    refine subw rfl rfl _ e1 ?_
    (repeat' (first | refine v_ret ?_ | (show SH _ _ _ _ _ (_ :: _) _ _ _; first | (show SH _ _ _ _ _ (⟨_, .call ⟨.value (.func 76), _, _⟩, _, _, _, _⟩ :: _) _ _ _; refine cl (callee := .func 76) rfl (fun w hw => hm w) rfl rfl ?_) | refine bld rfl rfl ?_ | (show SH _ _ _ _ _ (⟨_, .store _ _ _, _, _, _, _⟩ :: _) _ _ _; refine sta rfl rfl rfl spL (by rfl) (by rfl) (by rfl) kpL ?_)) | refine s_nil ?_ | refine kh_normal ?_))
    exact rhC rfl rfl rfl (fun w hw => loadVar_bx hw spL (by rfl)) ⟨rfl, rfl⟩ (ent_nil _)
set_option maxHeartbeats 1000000 in
set_option maxRecDepth 100000 in
theorem less_spec (a b : Int) (w : World) : Ret Tryd.prog 72 [.agg #[.int .u64 0, .int .u64 a], .agg #[.int .u64 0, .int .u64 b]].toArray w (Out w (.bool (decide (a < b)))) := by
  refine enterH Tryd.func72 rfl rfl Tryd.ntmps72 rfl (Wd.refl _) ?_
  (repeat' (first | (show VH _ _ _ _ _ _ _; first | refine v_seq ?_ | refine r_seq ?_ | refine v_ret ?_) | (show SH _ _ _ _ _ (_ :: _) _ _ _; first | (show SH _ _ _ _ _ (⟨_, _, _, _, _, some _⟩ :: _) _ _ _; (refine gif rfl rfl ?_; first | refine giTT tbL ?_ | refine giFF tbL ?_)) | (show SH _ _ _ _ _ (⟨_, .move _, _, _, _, _⟩ :: _) _ _ _; refine mov evL ?_) | (show SH _ _ _ _ _ (⟨_, .assign _, _, _, _, _⟩ :: _) _ _ _; refine asg evL ?_) | (show SH _ _ _ _ _ (⟨_, .binOp .lss _ _ _ _, _, _, _, _⟩ :: _) _ _ _; first | refine lssF rfl rfl omD ?_ | refine lss rfl rfl ?_) | (show SH _ _ _ _ _ (⟨_, .binOp .eql _ _ _ _, _, _, _, _⟩ :: _) _ _ _; refine eqlT rfl rfl omD ?_) | (show SH _ _ _ _ _ (⟨_, .load _ _, _, _, _, _⟩ :: _) _ _ _; refine lbx rfl spL (by rfl) ?_) | (show SH _ _ _ _ _ (⟨_, .pick _ _ _, _, _, _, _⟩ :: _) _ _ _; first | refine pkt rfl tbL evL ?_ | refine pkf rfl tbL evL ?_) | refine fad rfl ?_ | (show SH _ _ _ _ _ (⟨_, .box _ _, _, _, _, _⟩ :: _) _ _ _; refine bxx rfl evL rfl (fun b => ?_))) | refine s_nil ?_ | refine kh_normal ?_))
  exact rh1 rfl rfl ⟨rfl, rfl⟩ (ent_nil _)
set_option maxHeartbeats 1000000 in
set_option maxRecDepth 100000 in
theorem sat_spec (a : Int) (w : World) (h : 0 ≤ a ∧ a < 9223372036854775808) : Ret Tryd.prog 61 [.agg #[.int .u64 0, .int .u64 a, .bool false]].toArray w (Out w (.int .i64 a)) := by
  refine enterH Tryd.func61 rfl rfl Tryd.ntmps61 rfl (Wd.refl _) ?_
  (repeat' (first | (show VH _ _ _ _ _ _ _; first | refine v_seq ?_ | refine r_seq ?_ | refine v_block ?_ | refine v_ret ?_ | refine v_skip ?_ | refine v_cond_f rfl tbL ?_) | (show SH _ _ _ _ _ (_ :: _) _ _ _; first | (show SH _ _ _ _ _ (⟨_, _, _, _, _, some _⟩ :: _) _ _ _; first | (refine gif rfl rfl ?_; first | refine giTF tbL ?_ | refine giFF tbL ?_) | refine gu rfl rfl ?_) | (show SH _ _ _ _ _ (⟨_, .move _, _, _, _, _⟩ :: _) _ _ _; refine mov evL ?_) | (show SH _ _ _ _ _ (⟨_, .assign _, _, _, _, _⟩ :: _) _ _ _; refine asg evL ?_) | (show SH _ _ _ _ _ (⟨_, .binOp .gtr _ _ _ _, _, _, _, _⟩ :: _) _ _ _; refine gtrF rfl rfl omD ?_) | (show SH _ _ _ _ _ (⟨_, .binOp .geq _ _ _ _, _, _, _, _⟩ :: _) _ _ _; refine geqF rfl rfl omD ?_) | (show SH _ _ _ _ _ (⟨_, .load _ _, _, _, _, _⟩ :: _) _ _ _; refine lbx rfl spL (by rfl) ?_) | (show SH _ _ _ _ _ (⟨_, .pick _ _ _, _, _, _, _⟩ :: _) _ _ _; refine pkf rfl tbL evL ?_) | refine fad rfl ?_ | (show SH _ _ _ _ _ (⟨_, .convert _ _ _, _, _, _, _⟩ :: _) _ _ _; refine c64 rfl inL ?_) | (show SH _ _ _ _ _ (⟨_, .box _ _, _, _, _, _⟩ :: _) _ _ _; refine bxx rfl evL rfl (fun b => ?_))) | refine s_nil ?_ | refine kh_normal ?_ | refine bh_normal ?_))
  exact rh1 rfl rfl ⟨rfl, rfl⟩ (ent_nil _)
def gapP (p q : Pt) : Int := max (max (q.x - p.x) (p.x - q.x)) (max (q.y - p.y) (p.y - q.y))
def InC (p : Pt) : Prop := (-1048576 ≤ p.x ∧ p.x ≤ 1048576) ∧ (-1048576 ≤ p.y ∧ p.y ≤ 1048576)
set_option maxHeartbeats 1000000 in
set_option maxRecDepth 100000 in
theorem way_spec (p q : Pt) (w : World) (hp : InC p) (hq : InC q) : Ret Tryd.prog 60 [.agg (Flat.enc p).toArray, .agg (Flat.enc q).toArray].toArray w
    (RP w fun v H' => (∃ x1 x2 y1 y2, v = .tuple #[.agg #[.int .u64 0, .int .u64 x1, .bool x2], .agg #[.int .u64 0, .int .u64 y1, .bool y2], .agg #[.int .u64 0, .int .u64 (gapP p q), .bool false]]) ∧ H' = []) := by
  obtain ⟨px, py⟩ := p
  obtain ⟨qx, qy⟩ := q
  unfold InC gapP at *
  simp only at hp hq ⊢
  have hx := fun w => diff_spec qx px w (by omega)
  have hy := fun w => diff_spec qy py w (by omega)
  have hl := fun w => less_spec (max (qx - px) (px - qx)) (max (qy - py) (py - qy)) w
  generalize max (qx - px) (px - qx) = X at hx hl ⊢
  generalize max (qy - py) (py - qy) = Y at hy hl ⊢
  generalize decide (qx < px) = sx at hx
  generalize decide (qy < py) = sy at hy
  refine enterH Tryd.func60 rfl rfl Tryd.ntmps60 rfl (Wd.refl _) ?_
  (repeat' (first | (show VH _ _ _ _ _ _ _; first | refine v_seq ?_ | refine r_seq ?_) | (show SH _ _ _ _ _ (_ :: _) _ _ _; first | refine ala rfl (fun b => ?_) | (show SH _ _ _ _ _ (⟨_, .box _ _, _, _, _, _⟩ :: _) _ _ _; refine bxx rfl evL rfl (fun b => ?_))) | refine s_nil ?_ | refine kh_normal ?_))
  rename_i b2 b3 b4 b5
  revert b
  intro b6
  refine r_heldT [bx b3 87 [.int .i64 qx, .int .i64 qy], bx b2 87 [.int .i64 px, .int .i64 py]] (tr [(0, true), (1, true), (2, true), (3, true), (5, true), (6, true), (7, true), (8, true), (4, false), (9, false), (10, false), (11, false)] .nil) hmix (by kernel_rfl) enL ?_
  by_cases hXY : X < Y
  · rw [show max X Y = Y by omega]
    (repeat' (first | (show VH _ _ _ _ _ _ _; first | refine v_seq ?_ | refine r_seq ?_) | (show SH _ _ _ _ _ (_ :: _) _ _ _; first | (show SH _ _ _ _ _ (⟨_, .load _ _, _, _, _, _⟩ :: _) _ _ _; first | refine lbx rfl spL (by rfl) ?_ | refine lbs rfl spL (by rfl) (by rfl) ?_) | (show SH _ _ _ _ _ (⟨_, .call ⟨.value (.func 71), _, _⟩, _, _, _, _⟩ :: _) _ _ _; refine cl (callee := .func 71) rfl (fun w hw => hx w) rfl rfl ?_) | (show SH _ _ _ _ _ (⟨_, .call ⟨.value (.func 71), _, _⟩, _, _, _, _⟩ :: _) _ _ _; refine cl (callee := .func 71) rfl (fun w hw => hy w) rfl rfl ?_) | refine fad rfl ?_ | (show SH _ _ _ _ _ (⟨_, .store _ _ _, _, _, _, _⟩ :: _) _ _ _; refine sta rfl rfl rfl spL (by rfl) (by rfl) (by rfl) kpL ?_)) | refine s_nil ?_ | refine kh_normal ?_))
    refine bldI1 rfl ?_
    (repeat' (first | (show VH _ _ _ _ _ _ _; first | refine v_seq ?_ | refine r_seq ?_ | refine v_cond_t rfl tbL ?_) | (show SH _ _ _ _ _ (_ :: _) _ _ _; first | (show SH _ _ _ _ _ (⟨_, .load _ _, _, _, _, _⟩ :: _) _ _ _; refine lbs rfl spL (by rfl) (by rfl) ?_) | (show SH _ _ _ _ _ (⟨_, .call ⟨.value (.func 72), _, _⟩, _, _, _, _⟩ :: _) _ _ _; refine cl (callee := .func 72) rfl (fun w hw => hl w) rfl rfl ?_) | refine fad rfl ?_ | (show SH _ _ _ _ _ (⟨_, .store _ _ _, _, _, _, _⟩ :: _) _ _ _; first | refine sta rfl rfl rfl spL (by rfl) (by rfl) (by rfl) kpL ?_ | refine sbs rfl rfl evL spL (by rfl) (by rfl) (of_decide_eq_true rfl) kpL ?_)) | refine s_nil ?_ | refine kh_normal ?_))
    refine r_heldT [bx b4 112 _, bx b5 112 _, bx b6 112 _] (tr [(0, true), (1, true), (2, true), (3, false), (4, false), (5, false)] .nil) hmix (by kernel_rfl) enL ?_
    (repeat' (first | refine v_ret ?_ | (show SH _ _ _ _ _ (_ :: _) _ _ _; first | (show SH _ _ _ _ _ (⟨_, .load _ _, _, _, _, _⟩ :: _) _ _ _; refine lba rfl spL (by rfl) ?_) | (show SH _ _ _ _ _ (⟨_, .store _ _ _, _, _, _, _⟩ :: _) _ _ _; refine sta rfl rfl rfl spL (by rfl) (by rfl) (by rfl) kpL ?_)) | refine s_nil ?_ | refine kh_normal ?_))
    exact rhCCC rfl rfl rfl rfl rfl rfl rfl (fun w hw => loadVar_bx hw spL (by rfl)) (fun w hw => loadVar_bx hw spL (by rfl)) (fun w hw => loadVar_bx hw spL (by rfl)) ⟨⟨_, _, _, _, rfl⟩, rfl⟩ (ent_nil _)
  · rw [show max X Y = X by omega]
    (repeat' (first | (show VH _ _ _ _ _ _ _; first | refine v_seq ?_ | refine r_seq ?_) | (show SH _ _ _ _ _ (_ :: _) _ _ _; first | (show SH _ _ _ _ _ (⟨_, .load _ _, _, _, _, _⟩ :: _) _ _ _; first | refine lbx rfl spL (by rfl) ?_ | refine lbs rfl spL (by rfl) (by rfl) ?_) | (show SH _ _ _ _ _ (⟨_, .call ⟨.value (.func 71), _, _⟩, _, _, _, _⟩ :: _) _ _ _; refine cl (callee := .func 71) rfl (fun w hw => hx w) rfl rfl ?_) | (show SH _ _ _ _ _ (⟨_, .call ⟨.value (.func 71), _, _⟩, _, _, _, _⟩ :: _) _ _ _; refine cl (callee := .func 71) rfl (fun w hw => hy w) rfl rfl ?_) | refine fad rfl ?_ | (show SH _ _ _ _ _ (⟨_, .store _ _ _, _, _, _, _⟩ :: _) _ _ _; refine sta rfl rfl rfl spL (by rfl) (by rfl) (by rfl) kpL ?_)) | refine s_nil ?_ | refine kh_normal ?_))
    refine bldI1 rfl ?_
    (repeat' (first | (show VH _ _ _ _ _ _ _; first | refine v_seq ?_ | refine r_seq ?_ | refine v_skip ?_ | refine v_cond_f rfl tbL ?_) | (show SH _ _ _ _ _ (_ :: _) _ _ _; first | (show SH _ _ _ _ _ (⟨_, .load _ _, _, _, _, _⟩ :: _) _ _ _; refine lbs rfl spL (by rfl) (by rfl) ?_) | (show SH _ _ _ _ _ (⟨_, .call ⟨.value (.func 72), _, _⟩, _, _, _, _⟩ :: _) _ _ _; refine cl (callee := .func 72) rfl (fun w hw => hl w) rfl rfl ?_) | refine fad rfl ?_ | (show SH _ _ _ _ _ (⟨_, .store _ _ _, _, _, _, _⟩ :: _) _ _ _; refine sta rfl rfl rfl spL (by rfl) (by rfl) (by rfl) kpL ?_)) | refine s_nil ?_ | refine kh_normal ?_))
    refine r_heldT [bx b4 112 _, bx b5 112 _, bx b6 112 _] (tr [(0, true), (1, true), (2, true), (3, false), (4, false), (5, false)] .nil) hmix (by kernel_rfl) enL ?_
    (repeat' (first | refine v_ret ?_ | (show SH _ _ _ _ _ (_ :: _) _ _ _; first | (show SH _ _ _ _ _ (⟨_, .load _ _, _, _, _, _⟩ :: _) _ _ _; refine lba rfl spL (by rfl) ?_) | (show SH _ _ _ _ _ (⟨_, .store _ _ _, _, _, _, _⟩ :: _) _ _ _; refine sta rfl rfl rfl spL (by rfl) (by rfl) (by rfl) kpL ?_)) | refine s_nil ?_ | refine kh_normal ?_))
    exact rhCCC rfl rfl rfl rfl rfl rfl rfl (fun w hw => loadVar_bx hw spL (by rfl)) (fun w hw => loadVar_bx hw spL (by rfl)) (fun w hw => loadVar_bx hw spL (by rfl)) ⟨⟨_, _, _, _, rfl⟩, rfl⟩ (ent_nil _)
set_option maxHeartbeats 1000000 in
set_option maxRecDepth 100000 in
theorem dist_spec (p q : Pt) (w : World) (hp : InC p) (hq : InC q) : Ret Tryd.prog 47 [.agg (Flat.enc p).toArray, .agg (Flat.enc q).toArray].toArray w (Out w (.int .i64 (gapP p q))) := by
  have hg : 0 ≤ gapP p q ∧ gapP p q ≤ 2097152 := by unfold gapP; unfold InC at hp hq; omega
  have hw' := fun w => way_spec p q w hp hq
  have hS := fun w => sat_spec (gapP p q) w (by omega)
  generalize gapP p q = G at hw' hS hg ⊢
  obtain ⟨px, py⟩ := p
  obtain ⟨qx, qy⟩ := q
  rw [show Flat.enc (⟨px, py⟩ : Pt) = [.int .i64 px, .int .i64 py] from rfl, show Flat.enc (⟨qx, qy⟩ : Pt) = [.int .i64 qx, .int .i64 qy] from rfl] at *
  refine enterH Tryd.func47 rfl rfl Tryd.ntmps47 rfl (Wd.refl _) ?_
  (repeat' (first | (show VH _ _ _ _ _ _ _; first | refine v_seq ?_ | refine r_seq ?_) | (show SH _ _ _ _ _ (_ :: _) _ _ _; first | (show SH _ _ _ _ _ (⟨_, .assign _, _, _, _, _⟩ :: _) _ _ _; refine asg evL ?_) | (show SH _ _ _ _ _ (⟨_, .load _ _, _, _, _, _⟩ :: _) _ _ _; refine lba rfl spL (by rfl) ?_) | (show SH _ _ _ _ _ (⟨_, .call ⟨.value (.func 60), _, _⟩, _, _, _, _⟩ :: _) _ _ _; refine cp (callee := .func 60) rfl (fun w hw => hw' w) rfl rfl ?_) | (show SH _ _ _ _ _ (⟨_, .box _ _, _, _, _, _⟩ :: _) _ _ _; refine bxx rfl evL rfl (fun b => ?_))) | refine s_nil ?_ | refine kh_normal ?_))
  rintro _ _ ⟨⟨x1, x2, y1, y2, rfl⟩, rfl⟩
  (repeat' (first | (show VH _ _ _ _ _ _ _; first | refine v_seq ?_ | refine r_seq ?_ | refine v_ret ?_) | (show SH _ _ _ _ _ (_ :: _) _ _ _; first | (show SH _ _ _ _ _ (⟨_, .move _, _, _, _, _⟩ :: _) _ _ _; refine mov evL ?_) | (show SH _ _ _ _ _ (⟨_, .assign _, _, _, _, _⟩ :: _) _ _ _; refine asg evL ?_) | (show SH _ _ _ _ _ (⟨_, .load _ _, _, _, _, _⟩ :: _) _ _ _; refine lba rfl spL (by rfl) ?_) | (show SH _ _ _ _ _ (⟨_, .call ⟨.value (.func 61), _, _⟩, _, _, _, _⟩ :: _) _ _ _; refine cl (callee := .func 61) rfl (fun w hw => hS w) rfl rfl ?_) | refine extr rfl rfl ?_ | refine ala rfl (fun b => ?_) | (show SH _ _ _ _ _ (⟨_, .store _ _ _, _, _, _, _⟩ :: _) _ _ _; refine sta rfl rfl rfl spL (by rfl) (by rfl) (by rfl) kpL ?_)) | refine s_nil ?_ | refine kh_normal ?_))
  exact rh1 rfl rfl ⟨rfl, rfl⟩ (ent_nil _)
end Go.Proofs.YtjefoecnciepmaaDoor
