/- A rule for each kind of operation. -/
import Derived.Test.YtehjdbgijibmcaaVs
import Derived.Laws.StructEq
set_option linter.unusedSimpArgs false
set_option linter.unusedVariables false
namespace Go.Fw
open Go.RowKit
/-- Values of the type t, which are data of the type α, are compared. -/
class TCmp (P : Program) (t : TypeId) (α : outParam Type) [F : outParam (Flat α)] [outParam (DecidableEq α)] : Prop where
  grd : P.eqGuardType P.depth t = false
  cmp : ∀ (x y : α) w, (Op.equalIn 10000 t (.agg (F.enc x).toArray) (.agg (F.enc y).toArray)).run P w = .ok (decide (x = y)) w
theorem ox_eqa {α : Type} [F : Flat α] [DecidableEq α] {P : Program} {n : Nat} {f : Fr} {w : World} {ty t1 t2 : TypeId} {x y : Operand} (x' y' : α) [h : TCmp P t1 α] (hx : ev n f x = .agg (F.enc x').toArray) (hy : ev n f y = .agg (F.enc y').toArray) :
    OX P n f (.binOp .eql t1 x y t2) ty w (.bool (decide (x' = y'))) w := by
  intro d pos aft g
  simp [execOp, hx, hy, run_eqGuard_agg w, h.grd, run_eql_struct, h.cmp]
theorem ox_nea {α : Type} [F : Flat α] [DecidableEq α] {P : Program} {n : Nat} {f : Fr} {w : World} {ty t1 t2 : TypeId} {x y : Operand} (x' y' : α) [h : TCmp P t1 α] (hx : ev n f x = .agg (F.enc x').toArray) (hy : ev n f y = .agg (F.enc y').toArray) :
    OX P n f (.binOp .neq t1 x y t2) ty w (.bool (!decide (x' = y'))) w := by
  intro d pos aft g
  simp [execOp, hx, hy, run_eqGuard_agg w, h.grd, run_neq_struct, h.cmp]
/-- No order other than the text's is to be thought of, or all operations only read. -/
def plain : Md → Bool
  | .seq => true
  | .quiet => true
  | _ => false
theorem dt {p : Prop} [Decidable p] (h : p) : decide p = true := decide_eq_true h
theorem df {p : Prop} [Decidable p] (h : ¬ p) : decide p = false := decide_eq_false h
theorem nt {b : Bool} (h : b = false) : (!b) = true := by rw [h]; rfl
theorem nf {b : Bool} (h : b = true) : (!b) = false := by rw [h]; rfl
section
variable {md : Md} {P : Program} {n : Nat} {Q : HQ} {f : Fr} {w0 : World} {H R : List HP} {ops : Array Oper} {rest : List Oper} {d : Nat} {od : Option Nat} {op : Op} {ty : TypeId} {pos : String} {aft : Array Edge} {v : Value} {x y c : Operand}
section
variable {j : Nat} {b : Bool}
theorem g_run {want : Bool} (hm : plain md = true) (hy : yld n ops f j = .bool b) (hb : b = want) (h : SH md P n ops Q (⟨od, op, ty, pos, aft, none⟩ :: rest) f w0 H) : SH md P n ops Q (⟨od, op, ty, pos, aft, some (j, want)⟩ :: rest) f w0 H := ⟨by
  cases md with
  | seq => exact fun hd w hw => wi_free (wanted_yes hy hb) (h.out hd w hw)
  | quiet => exact fun w hw => wq_run hy hb (h.out w hw)
  | held => cases hm
  | pick => cases hm⟩
theorem g_pass {want : Bool} (hm : plain md = true) (hy : yld n ops f j = .bool b) (hb : b = !want) (h : SH (nx md) P n ops Q rest (upd f d undef) w0 H) : SH md P n ops Q (⟨some d, op, ty, pos, aft, some (j, want)⟩ :: rest) f w0 H := ⟨by
  cases md with
  | seq => exact fun hd w hw => wi_off (wanted_no hy hb) (h.out (noDef_tail hd) w hw)
  | quiet => exact fun w hw => wq_pass hy hb (h.out w hw)
  | held => cases hm
  | pick => cases hm⟩
theorem gu {want : Bool} (hm : plain md = true) (hy : yld n ops f j = undef) (h : SH (nx md) P n ops Q rest (upd f d undef) w0 H) : SH md P n ops Q (⟨some d, op, ty, pos, aft, some (j, want)⟩ :: rest) f w0 H := ⟨by
  cases md with
  | seq => exact fun hd w hw => wi_off (wanted_undef hy) (h.out (noDef_tail hd) w hw)
  | quiet => exact fun w hw => wq_pass_undef hy (h.out w hw)
  | held => cases hm
  | pick => cases hm⟩
theorem grT (hm : plain md = true) (hy : yld n ops f j = .bool b) (hb : b = true) (h : SH md P n ops Q (⟨od, op, ty, pos, aft, none⟩ :: rest) f w0 H) : SH md P n ops Q (⟨od, op, ty, pos, aft, some (j, true)⟩ :: rest) f w0 H := g_run hm hy hb h
theorem grF (hm : plain md = true) (hy : yld n ops f j = .bool b) (hb : b = false) (h : SH md P n ops Q (⟨od, op, ty, pos, aft, none⟩ :: rest) f w0 H) : SH md P n ops Q (⟨od, op, ty, pos, aft, some (j, false)⟩ :: rest) f w0 H := g_run hm hy hb h
theorem gpT (hm : plain md = true) (hy : yld n ops f j = .bool b) (hb : b = false) (h : SH (nx md) P n ops Q rest (upd f d undef) w0 H) : SH md P n ops Q (⟨some d, op, ty, pos, aft, some (j, true)⟩ :: rest) f w0 H := g_pass hm hy hb h
theorem gpF (hm : plain md = true) (hy : yld n ops f j = .bool b) (hb : b = true) (h : SH (nx md) P n ops Q rest (upd f d undef) w0 H) : SH md P n ops Q (⟨some d, op, ty, pos, aft, some (j, false)⟩ :: rest) f w0 H := g_pass hm hy hb h
theorem gt (hm : plain md = true) (hy : yld n ops f j = .bool b) (h1 : b = true → SH md P n ops Q (⟨some d, op, ty, pos, aft, none⟩ :: rest) f w0 H) (h2 : b = false → SH (nx md) P n ops Q rest (upd f d undef) w0 H) :
    SH md P n ops Q (⟨some d, op, ty, pos, aft, some (j, true)⟩ :: rest) f w0 H := by
  cases b with
  | true => exact grT hm hy rfl (h1 rfl)
  | false => exact gpT hm hy rfl (h2 rfl)
theorem gf (hm : plain md = true) (hy : yld n ops f j = .bool b) (h1 : b = false → SH md P n ops Q (⟨some d, op, ty, pos, aft, none⟩ :: rest) f w0 H) (h2 : b = true → SH (nx md) P n ops Q rest (upd f d undef) w0 H) :
    SH md P n ops Q (⟨some d, op, ty, pos, aft, some (j, false)⟩ :: rest) f w0 H := by
  cases b with
  | true => exact gpF hm hy rfl (h2 rfl)
  | false => exact grF hm hy rfl (h1 rfl)
theorem gtd {p : Prop} [Decidable p] (hm : plain md = true) (hy : yld n ops f j = .bool (decide p)) (h1 : p → SH md P n ops Q (⟨some d, op, ty, pos, aft, none⟩ :: rest) f w0 H) (h2 : ¬ p → SH (nx md) P n ops Q rest (upd f d undef) w0 H) :
    SH md P n ops Q (⟨some d, op, ty, pos, aft, some (j, true)⟩ :: rest) f w0 H := gt hm hy (fun h => h1 (of_decide_eq_true h)) (fun h => h2 (of_decide_eq_false h))
theorem gfd {p : Prop} [Decidable p] (hm : plain md = true) (hy : yld n ops f j = .bool (decide p)) (h1 : ¬ p → SH md P n ops Q (⟨some d, op, ty, pos, aft, none⟩ :: rest) f w0 H) (h2 : p → SH (nx md) P n ops Q rest (upd f d undef) w0 H) :
    SH md P n ops Q (⟨some d, op, ty, pos, aft, some (j, false)⟩ :: rest) f w0 H := gf hm hy (fun h => h1 (of_decide_eq_false h)) (fun h => h2 (of_decide_eq_true h))
/-- A guard that is looked at once. -/
structure GI (b want : Bool) (A B : Prop) : Prop where
  run : b = want → A
  pass : b = !want → B
theorem gif {want : Bool} (hm : plain md = true) (hy : yld n ops f j = .bool b) (h : GI b want (SH md P n ops Q (⟨some d, op, ty, pos, aft, none⟩ :: rest) f w0 H) (SH (nx md) P n ops Q rest (upd f d undef) w0 H)) :
    SH md P n ops Q (⟨some d, op, ty, pos, aft, some (j, want)⟩ :: rest) f w0 H := by
  by_cases hb : b = want
  · exact g_run hm hy hb (h.run hb)
  · have : b = !want := by cases b <;> cases want <;> simp_all
    exact g_pass hm hy this (h.pass this)
theorem giTT {A B : Prop} (hb : b = true) (h : A) : GI b true A B := ⟨fun _ => h, fun e => by rw [hb] at e; cases e⟩
theorem giTF {A B : Prop} (hb : b = false) (h : B) : GI b true A B := ⟨fun e => (by rw [hb] at e; cases e), fun _ => h⟩
theorem giFF {A B : Prop} (hb : b = false) (h : A) : GI b false A B := ⟨fun _ => h, fun e => by rw [hb] at e; cases e⟩
theorem giFT {A B : Prop} (hb : b = true) (h : B) : GI b false A B := ⟨fun e => (by rw [hb] at e; cases e), fun _ => h⟩
theorem giTd {A B p : Prop} [Decidable p] (h1 : p → A) (h2 : ¬ p → B) : GI (decide p) true A B := ⟨fun e => h1 (of_decide_eq_true e), fun e => h2 (of_decide_eq_false e)⟩
theorem giFd {A B p : Prop} [Decidable p] (h1 : ¬ p → A) (h2 : p → B) : GI (decide p) false A B := ⟨fun e => h1 (of_decide_eq_false e), fun e => h2 (of_decide_eq_true e)⟩
theorem giT {A B : Prop} (h1 : b = true → A) (h2 : b = false → B) : GI b true A B := ⟨h1, h2⟩
theorem giF {A B : Prop} (h1 : b = false → A) (h2 : b = true → B) : GI b false A B := ⟨h1, h2⟩
end
theorem mov (h : ev n f x = v) (k : SH (nx md) P n ops Q rest (upd f d v) w0 H) : SH md P n ops Q (⟨some d, .move x, ty, pos, aft, none⟩ :: rest) f w0 H := s_val (fun w hw => ox_move h) k
theorem asg (h : ev n f x = v) (k : SH (nx md) P n ops Q rest (upd f d v) w0 H) : SH md P n ops Q (⟨some d, .assign x, ty, pos, aft, none⟩ :: rest) f w0 H := s_val (fun w hw => ox_assign h) k
theorem pkt {t : Bool} (hc : ev n f c = .bool t) (ht : t = true) (h : ev n f x = v) (k : SH (nx md) P n ops Q rest (upd f d v) w0 H) : SH md P n ops Q (⟨some d, .pick c x y, ty, pos, aft, none⟩ :: rest) f w0 H := s_val (fun w hw => ox_pick_t hc ht h) k
theorem pkf {t : Bool} (hc : ev n f c = .bool t) (ht : t = false) (h : ev n f y = v) (k : SH (nx md) P n ops Q rest (upd f d v) w0 H) : SH md P n ops Q (⟨some d, .pick c x y, ty, pos, aft, none⟩ :: rest) f w0 H := s_val (fun w hw => ox_pick_f hc ht h) k
theorem add {a b : Int} {t1 t2 : TypeId} (hx : ev n f x = .int .i64 a) (hy : ev n f y = .int .i64 b) (h : In64 (a + b)) (k : SH (nx md) P n ops Q rest (upd f d (.int .i64 (a + b))) w0 H) : SH md P n ops Q (⟨some d, .binOp .add t1 x y t2, ty, pos, aft, none⟩ :: rest) f w0 H := s_val (fun w hw => ox_add64 hx hy h) k
theorem sub {a b : Int} {t1 t2 : TypeId} (hx : ev n f x = .int .i64 a) (hy : ev n f y = .int .i64 b) (h : In64 (a - b)) (k : SH (nx md) P n ops Q rest (upd f d (.int .i64 (a - b))) w0 H) : SH md P n ops Q (⟨some d, .binOp .sub t1 x y t2, ty, pos, aft, none⟩ :: rest) f w0 H := s_val (fun w hw => ox_sub64 hx hy h) k
theorem mul {a b : Int} {t1 t2 : TypeId} (hx : ev n f x = .int .i64 a) (hy : ev n f y = .int .i64 b) (h : In64 (a * b)) (k : SH (nx md) P n ops Q rest (upd f d (.int .i64 (a * b))) w0 H) : SH md P n ops Q (⟨some d, .binOp .mul t1 x y t2, ty, pos, aft, none⟩ :: rest) f w0 H := s_val (fun w hw => ox_mul64 hx hy h) k
theorem quo {a b : Int} {t1 t2 : TypeId} (hx : ev n f x = .int .i64 a) (hy : ev n f y = .int .i64 b) (h0 : 0 ≤ a) (h1 : a ≤ 9223372036854775807) (hb : 0 < b) (k : SH (nx md) P n ops Q rest (upd f d (.int .i64 (a / b))) w0 H) : SH md P n ops Q (⟨some d, .binOp .quo t1 x y t2, ty, pos, aft, none⟩ :: rest) f w0 H := s_val (fun w hw => ox_quoN (k := .i64) hx hy h0 h1 hb) k
theorem rem {a b : Int} {K : IntKind} {t1 t2 : TypeId} (hx : ev n f x = .int K a) (hy : ev n f y = .int K b) (h0 : 0 ≤ a) (hb : 0 < b) (k : SH (nx md) P n ops Q rest (upd f d (.int K (a % b))) w0 H) : SH md P n ops Q (⟨some d, .binOp .rem t1 x y t2, ty, pos, aft, none⟩ :: rest) f w0 H := s_val (fun w hw => ox_remN hx hy h0 hb) k
theorem lss {a b : Int} {K : IntKind} {t1 t2 : TypeId} (hx : ev n f x = .int K a) (hy : ev n f y = .int K b) (k : SH (nx md) P n ops Q rest (upd f d (.bool (decide (a < b)))) w0 H) : SH md P n ops Q (⟨some d, .binOp .lss t1 x y t2, ty, pos, aft, none⟩ :: rest) f w0 H := s_val (fun w hw => ox_lss hx hy) k
theorem leq {a b : Int} {K : IntKind} {t1 t2 : TypeId} (hx : ev n f x = .int K a) (hy : ev n f y = .int K b) (k : SH (nx md) P n ops Q rest (upd f d (.bool (decide (a ≤ b)))) w0 H) : SH md P n ops Q (⟨some d, .binOp .leq t1 x y t2, ty, pos, aft, none⟩ :: rest) f w0 H := s_val (fun w hw => ox_leq hx hy) k
theorem gtr {a b : Int} {K : IntKind} {t1 t2 : TypeId} (hx : ev n f x = .int K a) (hy : ev n f y = .int K b) (k : SH (nx md) P n ops Q rest (upd f d (.bool (decide (b < a)))) w0 H) : SH md P n ops Q (⟨some d, .binOp .gtr t1 x y t2, ty, pos, aft, none⟩ :: rest) f w0 H := s_val (fun w hw => ox_gtr hx hy) k
theorem geq {a b : Int} {K : IntKind} {t1 t2 : TypeId} (hx : ev n f x = .int K a) (hy : ev n f y = .int K b) (k : SH (nx md) P n ops Q rest (upd f d (.bool (decide (b ≤ a)))) w0 H) : SH md P n ops Q (⟨some d, .binOp .geq t1 x y t2, ty, pos, aft, none⟩ :: rest) f w0 H := s_val (fun w hw => ox_geq hx hy) k
theorem eql {a b : Int} {K : IntKind} {t1 t2 : TypeId} (hx : ev n f x = .int K a) (hy : ev n f y = .int K b) (k : SH (nx md) P n ops Q rest (upd f d (.bool (decide (a = b)))) w0 H) : SH md P n ops Q (⟨some d, .binOp .eql t1 x y t2, ty, pos, aft, none⟩ :: rest) f w0 H := s_val (fun w hw => ox_eql hx hy) k
theorem neq {a b : Int} {K : IntKind} {t1 t2 : TypeId} (hx : ev n f x = .int K a) (hy : ev n f y = .int K b) (k : SH (nx md) P n ops Q rest (upd f d (.bool (decide (a ≠ b)))) w0 H) : SH md P n ops Q (⟨some d, .binOp .neq t1 x y t2, ty, pos, aft, none⟩ :: rest) f w0 H := s_val (fun w hw => ox_neq hx hy) k
theorem eqn {t1 t2 e : TypeId} {sz by_ : Nat} {A : Option Addr} {m cp : Nat} [TSl P t1 e sz by_] (hx : ev n f x = .slice A m cp) (hy : ev n f y = .slice none 0 0) (k : SH (nx md) P n ops Q rest (upd f d (.bool A.isNone)) w0 H) : SH md P n ops Q (⟨some d, .binOp .eql t1 x y t2, ty, pos, aft, none⟩ :: rest) f w0 H := s_val (fun w hw => ox_eqnil hx hy) k
theorem nen {t1 t2 e : TypeId} {sz by_ : Nat} {A : Option Addr} {m cp : Nat} [TSl P t1 e sz by_] (hx : ev n f x = .slice A m cp) (hy : ev n f y = .slice none 0 0) (k : SH (nx md) P n ops Q rest (upd f d (.bool A.isSome)) w0 H) : SH md P n ops Q (⟨some d, .binOp .neq t1 x y t2, ty, pos, aft, none⟩ :: rest) f w0 H := s_val (fun w hw => ox_nenil hx hy) k
theorem eqb {a b : Bool} {t1 t2 : TypeId} [TBool P t1] (hx : ev n f x = .bool a) (hy : ev n f y = .bool b) (k : SH (nx md) P n ops Q rest (upd f d (.bool (a == b))) w0 H) : SH md P n ops Q (⟨some d, .binOp .eql t1 x y t2, ty, pos, aft, none⟩ :: rest) f w0 H := s_val (fun w hw => ox_eqlb hx hy) k
theorem neb {a b : Bool} {t1 t2 : TypeId} [TBool P t1] (hx : ev n f x = .bool a) (hy : ev n f y = .bool b) (k : SH (nx md) P n ops Q rest (upd f d (.bool (!(a == b)))) w0 H) : SH md P n ops Q (⟨some d, .binOp .neq t1 x y t2, ty, pos, aft, none⟩ :: rest) f w0 H := s_val (fun w hw => ox_neqb hx hy) k
theorem eqa {α : Type} [F : Flat α] [DecidableEq α] {t1 t2 : TypeId} (x' y' : α) [TCmp P t1 α] (hx : ev n f x = .agg (F.enc x').toArray) (hy : ev n f y = .agg (F.enc y').toArray) (k : SH (nx md) P n ops Q rest (upd f d (.bool (decide (x' = y')))) w0 H) : SH md P n ops Q (⟨some d, .binOp .eql t1 x y t2, ty, pos, aft, none⟩ :: rest) f w0 H := s_val (fun w hw => ox_eqa x' y' hx hy) k
theorem nea {α : Type} [F : Flat α] [DecidableEq α] {t1 t2 : TypeId} (x' y' : α) [TCmp P t1 α] (hx : ev n f x = .agg (F.enc x').toArray) (hy : ev n f y = .agg (F.enc y').toArray) (k : SH (nx md) P n ops Q rest (upd f d (.bool (!decide (x' = y')))) w0 H) : SH md P n ops Q (⟨some d, .binOp .neq t1 x y t2, ty, pos, aft, none⟩ :: rest) f w0 H := s_val (fun w hw => ox_nea x' y' hx hy) k
theorem bnot {b : Bool} {t1 : TypeId} (hx : ev n f x = .bool b) (k : SH (nx md) P n ops Q rest (upd f d (.bool !b)) w0 H) : SH md P n ops Q (⟨some d, .unOp .not t1 x, ty, pos, aft, none⟩ :: rest) f w0 H := s_val (fun w hw => ox_not hx) k
theorem neg {a : Int} {t1 : TypeId} (hx : ev n f x = .int .i64 a) (h : In64 (-a)) (k : SH (nx md) P n ops Q rest (upd f d (.int .i64 (-a))) w0 H) : SH md P n ops Q (⟨some d, .unOp .neg t1 x, ty, pos, aft, none⟩ :: rest) f w0 H := s_val (fun w hw => ox_neg64 hx h) k
theorem extr {vs : List Value} {i : Nat} (hx : ev n f x = .tuple vs.toArray) (hk : vs[i]? = some v) (k : SH (nx md) P n ops Q rest (upd f d v) w0 H) : SH md P n ops Q (⟨some d, .extract x i, ty, pos, aft, none⟩ :: rest) f w0 H := s_val (fun w hw => ox_extract hx hk) k
theorem fad {s : TypeId} {i off : Nat} {a : Addr} [TFld P s i off] (hx : ev n f x = .pointer (some a)) (k : SH (nx md) P n ops Q rest (upd f d (.pointer (some (a.add off)))) w0 H) : SH md P n ops Q (⟨some d, .fieldAddr s x i, ty, pos, aft, none⟩ :: rest) f w0 H := s_val (fun w hw => ox_field hx) k
theorem fvl {s : TypeId} {i off : Nat} {cs : List Value} [TFlv P s i off] (hx : ev n f x = .agg cs.toArray) (hc : cs[off]? = some v) (k : SH (nx md) P n ops Q rest (upd f d v) w0 H) : SH md P n ops Q (⟨some d, .field s x i, ty, pos, aft, none⟩ :: rest) f w0 H := s_val (fun w hw => ox_fieldv hx hc) k
theorem c64 {s t : TypeId} {ks k0 : IntKind} {a : Int} [TInt P s ks] [TInt P t .i64] (hx : ev n f x = .int k0 a) (h : In64 a) (k : SH (nx md) P n ops Q rest (upd f d (.int .i64 a)) w0 H) : SH md P n ops Q (⟨some d, .convert s t x, ty, pos, aft, none⟩ :: rest) f w0 H := s_val (fun w hw => ox_conv64 hx h) k
theorem cu64 {s t : TypeId} {ks k0 : IntKind} {a : Int} [TInt P s ks] [TInt P t .u64] (hx : ev n f x = .int k0 a) (h0 : 0 ≤ a) (h1 : a ≤ 9223372036854775807) (k : SH (nx md) P n ops Q rest (upd f d (.int .u64 a)) w0 H) : SH md P n ops Q (⟨some d, .convert s t x, ty, pos, aft, none⟩ :: rest) f w0 H := s_val (fun w hw => ox_convU64 hx h0 h1) k
theorem cnv {s t : TypeId} {ks k0 : IntKind} {a : Int} [TInt P s ks] {K : IntKind} [TInt P t K] (hx : ev n f x = .int k0 a) (k : SH (nx md) P n ops Q rest (upd f d (.int K (K.wrap a))) w0 H) : SH md P n ops Q (⟨some d, .convert s t x, ty, pos, aft, none⟩ :: rest) f w0 H := s_val (fun w hw => ox_conv hx) k
theorem sh1 {kk : IntKind} {a : Int} {t1 t2 : TypeId} (hx : ev n f x = .int .u64 a) (hy : ev n f y = .int kk 1) (k : SH (nx md) P n ops Q rest (upd f d (.int .u64 (a / 2))) w0 H) : SH md P n ops Q (⟨some d, .binOp .shr t1 x y t2, ty, pos, aft, none⟩ :: rest) f w0 H := s_val (fun w hw => ox_shr1 hx hy) k
theorem slen {t e : TypeId} {sz by_ : Nat} {A : Option Addr} {m cp : Nat} [TSl P t e sz by_] (hx : ev n f x = .slice A m cp) (k : SH (nx md) P n ops Q rest (upd f d (.int .i64 m)) w0 H) : SH md P n ops Q (⟨some d, .call { callee := .builtin .len, args := #[x], argTypes := #[t] }, ty, pos, aft, none⟩ :: rest) f w0 H := s_val (fun w hw => ox_len hx) k
theorem bmax {K : IntKind} {a b : Int} {at_ : Array TypeId} (hx : ev n f x = .int K a) (hy : ev n f y = .int K b) (k : SH (nx md) P n ops Q rest (upd f d (.int K (max a b))) w0 H) : SH md P n ops Q (⟨some d, .call { callee := .builtin .max, args := #[x, y], argTypes := at_ }, ty, pos, aft, none⟩ :: rest) f w0 H := s_val (fun w hw => ox_max2 hx hy) k
theorem bmin {K : IntKind} {a b : Int} {at_ : Array TypeId} (hx : ev n f x = .int K a) (hy : ev n f y = .int K b) (k : SH (nx md) P n ops Q rest (upd f d (.int K (min a b))) w0 H) : SH md P n ops Q (⟨some d, .call { callee := .builtin .min, args := #[x, y], argTypes := at_ }, ty, pos, aft, none⟩ :: rest) f w0 H := s_val (fun w hw => ox_min2 hx hy) k
theorem ix {α : Type} [F : Flat α] {t e : TypeId} {sz by_ : Nat} {A : Option Addr} {m cp : Nat} {K : IntKind} {i : Nat} {l : List α} [TSl P t e sz by_] (hx : ev n f x = .slice A m cp) {j : Int} (hy : ev n f y = .int K j) (hj : j = (i : Int)) (hr : ∀ w, Wd w0 (vis md H) w → Rd w A l) (hsz : sz = F.sz) (h1 : i < m) (h2 : i < l.length) (k : SH (nx md) P n ops Q rest (upd f d (.pointer (some ((adr A).add (i * sz))))) w0 H) : SH md P n ops Q (⟨some d, .indexAddr t x y, ty, pos, aft, none⟩ :: rest) f w0 H := s_val (fun w hw => ox_indexR (hr w hw) hx (hy.trans (by rw [hj])) hsz h1 h2) k
theorem ixi {α : Type} [F : Flat α] {t e : TypeId} {sz by_ : Nat} {A : Option Addr} {m cp : Nat} {K : IntKind} {i : Int} {l : List α} [TSl P t e sz by_] (hx : ev n f x = .slice A m cp) (hy : ev n f y = .int K i) (hr : ∀ w, Wd w0 (vis md H) w → Rd w A l) (hsz : sz = F.sz) (h0 : 0 ≤ i) (h1 : i < m) (h2 : i < l.length) (k : SH (nx md) P n ops Q rest (upd f d (.pointer (some ((adr A).add (i.toNat * sz))))) w0 H) : SH md P n ops Q (⟨some d, .indexAddr t x y, ty, pos, aft, none⟩ :: rest) f w0 H := s_val (fun w hw => ox_indexRI (hr w hw) hx hy hsz h0 h1 h2) k
theorem ixb {t e : TypeId} {len : Nat} {b i : Nat} {K : IntKind} [TArr P t len e 1] (hx : ev n f x = .pointer (some ⟨b, 0, none⟩)) (hy : ev n f y = .int K i) (h1 : i < len) (k : SH (nx md) P n ops Q rest (upd f d (.pointer (some ⟨b, i, none⟩))) w0 H) : SH md P n ops Q (⟨some d, .indexAddr t x y, ty, pos, aft, none⟩ :: rest) f w0 H := s_val (fun w hw => ox_indexB hx hy h1) k
theorem sla {t e : TypeId} {len sz : Nat} {a : Addr} {K : IntKind} {hi : Int} [TArr P t len e sz] (hx : ev n f x = .pointer (some a)) (hy : ev n f y = .int K hi) (h0 : 0 ≤ hi) (h1 : hi ≤ len) (k : SH (nx md) P n ops Q rest (upd f d (.slice (some a) hi.toNat len)) w0 H) : SH md P n ops Q (⟨some d, .slice t x none (some y) none, ty, pos, aft, none⟩ :: rest) f w0 H := s_val (fun w hw => ox_slice_arr hx hy h0 h1) k
theorem slh {t e : TypeId} {sz by_ : Nat} {A : Option Addr} {m cp : Nat} {K : IntKind} {hi : Int} [TSl P t e sz by_] (hx : ev n f x = .slice A m cp) (hy : ev n f y = .int K hi) (h0 : 0 ≤ hi) (h1 : hi ≤ cp) (k : SH (nx md) P n ops Q rest (upd f d (.slice A hi.toNat cp)) w0 H) : SH md P n ops Q (⟨some d, .slice t x none (some y) none, ty, pos, aft, none⟩ :: rest) f w0 H := s_val (fun w hw => ox_slice_hi hx hy h0 h1) k
theorem sll {t e : TypeId} {sz by_ : Nat} {A : Option Addr} {m cp : Nat} {K : IntKind} {lo : Int} [TSl P t e sz by_] (hx : ev n f x = .slice A m cp) (hy : ev n f y = .int K lo) (h0 : 0 ≤ lo) (h1 : lo ≤ m) (k : SH (nx md) P n ops Q rest (upd f d (.slice (if cp = lo.toNat then A else A.map (·.add (lo.toNat * sz))) (m - lo.toNat) (cp - lo.toNat))) w0 H) : SH md P n ops Q (⟨some d, .slice t x (some y) none none, ty, pos, aft, none⟩ :: rest) f w0 H := s_val (fun w hw => ox_slice_lo hx hy h0 h1) k
theorem lbx {t te : TypeId} {z : Value} {b off : Nat} {cs : List Value} [TOne P t z] (hx : ev n f x = .pointer (some ⟨b, off, none⟩)) (hs : Split (vis md H) (bx b te cs) R) (hv : cs[off]? = some v) (k : SH (nx md) P n ops Q rest (upd f d v) w0 H) : SH md P n ops Q (⟨some d, .load t x, ty, pos, aft, none⟩ :: rest) f w0 H := s_val (fun w hw => ox_loadBx hw hx hs hv) k
theorem lba {t te : TypeId} {sz : Nat} {z : List Value} {b : Nat} {cs : List Value} [TAgg P t sz z] (hx : ev n f x = .pointer (some ⟨b, 0, none⟩)) (hs : Split (vis md H) (bx b te cs) R) (hl : cs.length = sz) (k : SH (nx md) P n ops Q rest (upd f d (.agg cs.toArray)) w0 H) : SH md P n ops Q (⟨some d, .load t x, ty, pos, aft, none⟩ :: rest) f w0 H := s_val (fun w hw => ox_loadBxA hw hx hs hl) k
theorem lbi {t te : TypeId} {z : Value} {b i : Nat} {L : List Int} [TOne P t z] (hx : ev n f x = .pointer (some ⟨b, i, none⟩)) (hs : Split (vis md H) (bx b te (ints L)) R) (hi : i < L.length) (k : SH (nx md) P n ops Q rest (upd f d (.int .i64 (L.getD i 0))) w0 H) : SH md P n ops Q (⟨some d, .load t x, ty, pos, aft, none⟩ :: rest) f w0 H := s_val (fun w hw => ox_loadBx hw hx hs (ints_get hi)) k
theorem lin {t : TypeId} {z : Value} {A : Option Addr} {i : Nat} {l : List Int} [TOne P t z] (hx : ev n f x = .pointer (some ((adr A).add (i * 1)))) (hr : ∀ w, Wd w0 (vis md H) w → Rd w A l) (h1 : i < l.length) (k : SH (nx md) P n ops Q rest (upd f d (.int .i64 (l.getD i 0))) w0 H) : SH md P n ops Q (⟨some d, .load t x, ty, pos, aft, none⟩ :: rest) f w0 H := s_val (fun w hw => ox_loadRi (hr w hw) hx h1) k
theorem lr1 {α : Type} [F : Flat α] {t : TypeId} {z : Value} {sz : Nat} {A : Option Addr} {i : Nat} {l : List α} [TOne P t z] (hx : ev n f x = .pointer (some ((adr A).add (i * sz)))) (hr : ∀ w, Wd w0 (vis md H) w → Rd w A l) (hsz : sz = F.sz) (h1 : i < l.length) (hv : F.enc (l.getD i F.dflt) = [v]) (k : SH (nx md) P n ops Q rest (upd f d v) w0 H) : SH md P n ops Q (⟨some d, .load t x, ty, pos, aft, none⟩ :: rest) f w0 H := s_val (fun w hw => ox_loadR1 (hr w hw) hx hsz h1 hv) k
theorem lra {α : Type} [F : Flat α] {t : TypeId} {sz : Nat} {z : List Value} {A : Option Addr} {i : Nat} {l : List α} [TAgg P t sz z] (hx : ev n f x = .pointer (some ((adr A).add (i * sz)))) (hr : ∀ w, Wd w0 (vis md H) w → Rd w A l) (hsz : sz = F.sz) (h1 : i < l.length) (k : SH (nx md) P n ops Q rest (upd f d (.agg (F.enc (l.getD i F.dflt)).toArray)) w0 H) : SH md P n ops Q (⟨some d, .load t x, ty, pos, aft, none⟩ :: rest) f w0 H := s_val (fun w hw => ox_loadRA (hr w hw) hx hsz h1) k
theorem lrf {α : Type} [F : Flat α] {t : TypeId} {z : Value} {sz off : Nat} {A : Option Addr} {i : Nat} {l : List α} [TOne P t z] (hx : ev n f x = .pointer (some (((adr A).add (i * sz)).add off))) (hr : ∀ w, Wd w0 (vis md H) w → Rd w A l) (hsz : sz = F.sz) (h1 : i < l.length) (hv : (F.enc (l.getD i F.dflt))[off]? = some v) (k : SH (nx md) P n ops Q rest (upd f d v) w0 H) : SH md P n ops Q (⟨some d, .load t x, ty, pos, aft, none⟩ :: rest) f w0 H := s_val (fun w hw => ox_loadRf (hr w hw) hx hsz h1 hv) k
theorem lcell {t : TypeId} {z : Value} {a : Addr} [TOne P t z] (hx : ev n f x = .pointer (some a)) (hc : ∀ w, Wd w0 (vis md H) w → w.cell? a = some v) (k : SH (nx md) P n ops Q rest (upd f d v) w0 H) : SH md P n ops Q (⟨some d, .load t x, ty, pos, aft, none⟩ :: rest) f w0 H := s_val (fun w hw => ox_load hx (hc w hw)) k
theorem mf0 {fn : Fn} (k : SH (nx md) P n ops Q rest (upd f d (.func fn #[] #[])) w0 H) : SH md P n ops Q (⟨some d, .makeFunc fn #[] #[], ty, pos, aft, none⟩ :: rest) f w0 H := s_val (fun w hw => ox_makeFunc0) k
theorem mf1 {fn : Fn} {c0 : Operand} {v0 : Value} (h0 : ev n f c0 = v0) (k : SH (nx md) P n ops Q rest (upd f d (.func fn #[] #[v0])) w0 H) : SH md P n ops Q (⟨some d, .makeFunc fn #[] #[c0], ty, pos, aft, none⟩ :: rest) f w0 H := s_val (fun w hw => ox_makeFunc1 h0) k
theorem mf2 {fn : Fn} {c0 c1 : Operand} {v0 v1 : Value} (h0 : ev n f c0 = v0) (h1 : ev n f c1 = v1) (k : SH (nx md) P n ops Q rest (upd f d (.func fn #[] #[v0, v1])) w0 H) : SH md P n ops Q (⟨some d, .makeFunc fn #[] #[c0, c1], ty, pos, aft, none⟩ :: rest) f w0 H := s_val (fun w hw => ox_makeFunc2 h0 h1) k
theorem mf3 {fn : Fn} {c0 c1 c2 : Operand} {v0 v1 v2 : Value} (h0 : ev n f c0 = v0) (h1 : ev n f c1 = v1) (h2 : ev n f c2 = v2) (k : SH (nx md) P n ops Q rest (upd f d (.func fn #[] #[v0, v1, v2])) w0 H) : SH md P n ops Q (⟨some d, .makeFunc fn #[] #[c0, c1, c2], ty, pos, aft, none⟩ :: rest) f w0 H := s_val (fun w hw => ox_makeFunc3 h0 h1 h2) k
theorem mfb {fn : Fn} {c0 : Operand} {v0 : Value} (h0 : ev n f c0 = v0) (k : SH (nx md) P n ops Q rest (upd f d (.func fn #[v0] #[])) w0 H) : SH md P n ops Q (⟨some d, .makeFunc fn #[c0] #[], ty, pos, aft, none⟩ :: rest) f w0 H := s_val (fun w hw => ox_makeBound h0) k
theorem bld {t : TypeId} {sz : Nat} {zs : List Value} {parts : List (Nat × Operand)} {ps : List (Nat × Value)} [TSt P t sz zs] (hp : parts.map (fun p => (p.1, ev n f p.2)) = ps) (h1 : (ps.all fun p => Nat.blt p.1 sz && p.2.oneCell') = true) (k : SH (nx md) P n ops Q rest (upd f d (.agg (setAt zs ps).toArray)) w0 H) : SH md P n ops Q (⟨some d, .build t parts.toArray, ty, pos, aft, none⟩ :: rest) f w0 H := s_val (fun w hw => ox_build1 hp h1) k

theorem al1 {t : TypeId} {z : Value} [TOne P t z] (hm : addOK md = true) (k : ∀ b, SH (nx md) P n ops Q rest (upd f d (.pointer (some ⟨b, 0, none⟩))) w0 (bx b t [z] :: H)) : SH md P n ops Q (⟨some d, .alloc t, ty, pos, aft, none⟩ :: rest) f w0 H :=
  s_add hm fun _ hw => wl_alloc1 fun _ b hn => wl_nil ⟨rfl, hn.ext, _, k b, hw.new hn⟩
theorem ala {t : TypeId} {sz : Nat} {z : List Value} [TAgg P t sz z] (hm : addOK md = true) (k : ∀ b, SH (nx md) P n ops Q rest (upd f d (.pointer (some ⟨b, 0, none⟩))) w0 (bx b t z :: H)) : SH md P n ops Q (⟨some d, .alloc t, ty, pos, aft, none⟩ :: rest) f w0 H :=
  s_add hm fun _ hw => wl_allocA fun _ b hn => wl_nil ⟨rfl, hn.ext, _, k b, hw.new hn⟩
theorem bxx {t : TypeId} {cs : List Value} (hm : addOK md = true) (hx : ev n f x = v) (hv : v.cells.toList = cs) (k : ∀ b, SH (nx md) P n ops Q rest (upd f d (.pointer (some ⟨b, 0, none⟩))) w0 (bx b t cs :: H)) : SH md P n ops Q (⟨some d, .box t x, ty, pos, aft, none⟩ :: rest) f w0 H :=
  s_add hm fun _ hw => wl_box hx (cs := cs.toArray) (by rw [← hv]) fun _ b hn => wl_nil ⟨rfl, hn.ext, _, k b, hw.new hn⟩
theorem stb {t te : TypeId} {z : Value} {b off : Nat} {cs : List Value} [h : TOne P t z] (hm : addOK md = true) (hx : ev n f x = .pointer (some ⟨b, off, none⟩)) (hy : ev n f y = v) (hs : Split H (bx b te cs) R) (hv : v.cells = #[v]) (hone : v.oneCell' = true) (hoff : off < cs.length)
    (hk : keeps md (bx b te (cs.set off v) :: R)) (k : SH (nx md) P n ops Q rest f w0 (bx b te (cs.set off v) :: R)) : SH md P n ops Q (⟨none, .store t x y, ty, pos, aft, none⟩ :: rest) f w0 H :=
  s_mut hm fun w hw => wl_store (cs := [v]) hx rfl hy (by rw [hv]) (fun w => h.siz w) (by simp [hone]) (hw.box hs).1 (by simp; omega) fun w1 hw1 hb => wl_nil ⟨rfl, _, hk, k, hw.setBox hs hw1 (by
    rw [hb]; congr 3
    rw [List.set_eq_take_append_cons_drop, if_pos hoff]
    simp)⟩
theorem sta {t te : TypeId} {sz b : Nat} {z cur cs : List Value} [h : TAgg P t sz z] (hm : addOK md = true) (hx : ev n f x = .pointer (some ⟨b, 0, none⟩)) (hy : ev n f y = .agg cs.toArray) (hs : Split H (bx b te cur) R) (hc : cur.length = sz) (hl : cs.length = sz) (hone : cs.all (·.oneCell') = true)
    (hk : keeps md (bx b te cs :: R)) (k : SH (nx md) P n ops Q rest f w0 (bx b te cs :: R)) : SH md P n ops Q (⟨none, .store t x y, ty, pos, aft, none⟩ :: rest) f w0 H :=
  s_mut hm fun w hw => wl_storeV (hw.box hs).1 hc hx hy hl hone fun w1 hw1 hb => wl_nil ⟨rfl, _, hk, k, hw.setBox hs hw1 hb⟩
theorem sbi {t te : TypeId} {z : Value} {b i : Nat} {L : List Int} {u : Int} [h : TOne P t z] (hm : addOK md = true) (hx : ev n f x = .pointer (some ⟨b, i, none⟩)) (hy : ev n f y = .int .i64 u) (hs : Split H (bx b te (ints L)) R) (hi : i < L.length)
    (hk : keeps md (bx b te (ints (L.set i u)) :: R)) (k : SH (nx md) P n ops Q rest f w0 (bx b te (ints (L.set i u)) :: R)) : SH md P n ops Q (⟨none, .store t x y, ty, pos, aft, none⟩ :: rest) f w0 H :=
  s_mut hm fun w hw => wl_storeB (hw.box hs).1 hx hy hi fun w1 hw1 hb => wl_nil ⟨rfl, _, hk, k, hw.setBox hs hw1 hb⟩
/-- A rule that is stated for the text's order, by itself. -/
theorem s_one {o : Oper} {K : Fr → List HP → Prop} (h : WH P n ops (fun e f' H' => e = .normal ∧ K f' H') [o] f w0 H) (w : World) (hw : Wd w0 H w) : WL P n ops (postK fun f' w' => ∃ H', K f' H' ∧ Wd w0 H' w') [o] f w := by
  have := h.out w hw
  exact op1_seq (K := fun f' w' => ∃ H', K f' H' ∧ Wd w0 H' w') (rest := []) (Q := _) (by
    have := this
    exact ⟨by
      have h := this.out
      unfold wpList at *
      split
      · rename_i hw
        rw [if_pos hw] at h
        have hp : ∀ c a w, ¬ lift n f.c.ro (low w0 fun e f' H' => e = .normal ∧ K f' H') (.panic c) a w := fun c a w ⟨_, _, _, _, _, ⟨h, _⟩, _⟩ => by cases h
        rcases h with h | ⟨_, h⟩
        · exact .inl (opwp_any hp lift_out (fun a w ⟨he, f', ha, hr, H', ⟨_, h1⟩, h2⟩ => ⟨Exit.noConfusion, f', ha, hr, rfl, H', h1, h2⟩) h)
        · exact (lift_out h).elim
      · rename_i hw
        rw [if_neg hw] at h
        obtain ⟨he, f', ha, hr, H', ⟨_, h1⟩, h2⟩ := h
        exact ⟨Exit.noConfusion, f', ha, hr, rfl, H', h1, h2⟩⟩) (fun f w h => wl_nil ⟨rfl, h⟩)
theorem s_wh {o : Oper} (hm : addOK md = true) (h : WH P n ops (fun e f' H' => e = .normal ∧ keeps md H' ∧ SH (nx md) P n ops Q rest f' w0 H') [o] f w0 H) : SH md P n ops Q (o :: rest) f w0 H :=
  s_mut hm fun w hw => (by
    have := s_one h w hw
    exact op1_seq (rest := []) this fun f' w' ⟨H', ⟨h1, h2⟩, h3⟩ => wl_nil ⟨rfl, H', h1, h2, h3⟩)
theorem sti {t e : TypeId} {z : Value} {A : Option Addr} {cp i : Nat} {l : List Int} {u : Int} [h : TOne P t z] (hm : addOK md = true) (hx : ev n f x = .pointer (some ((adr A).add (i * 1)))) (hy : ev n f y = .int .i64 u) (hs : Split H (orow e A cp l) R) (hi : i < l.length)
    (hk : keeps md (orow e A cp (l.set i u) :: R)) (k : SH (nx md) P n ops Q rest f w0 (orow e A cp (l.set i u) :: R)) : SH md P n ops Q (⟨none, .store t x y, ty, pos, aft, none⟩ :: rest) f w0 H :=
  s_wh hm (wh_setI hx hy hs hi (wh_nil ⟨rfl, hk, k⟩))
theorem ints_encs (l : List Int) : ints l = encs l := by
  induction l with
  | nil => rfl
  | cons x l ih => rw [encs_cons, ← ih]; rfl
theorem clr {t e : TypeId} {by_ : Nat} {A A' : Option Addr} {m' cp cp' j : Nat} {L : List Int} [TSl P t e 1 by_] [TOne P e (.int .i64 0)] (hm : addOK md = true) (hx : ev n f x = .slice A' m' cp') (hs : Split H (orow e A cp L) R)
    (hA : A' = (if cp = j then A else A.map (·.add (j * 1)))) (hm' : m' = L.length - j) (hj : j ≤ L.length)
    (hk : keeps md (orow e A cp (L.take j) :: R)) (k : SH (nx md) P n ops Q rest f w0 (orow e A cp (L.take j) :: R)) :
    SH md P n ops Q (⟨none, .call { callee := .builtin .clear, args := #[x], argTypes := #[t] }, ty, pos, aft, none⟩ :: rest) f w0 H :=
  s_mut hm fun w hw => by
    have ho := hw.own hs
    have e1 : encs L = ints L := (ints_encs L).symm
    rw [e1] at ho
    refine wl_clear ho hx hA hm' hj fun w1 ho1 hg _ => wl_nil ⟨rfl, _, hk, k, hw.row hs hg ?_ (fun k hk => .inl hk)⟩
    rw [ints_encs] at ho1
    have : (L.take j).length = j := by rw [List.length_take]; omega
    rw [this]; exact ho1
section
variable {α : Type} [F : Flat α]
theorem stf {t e : TypeId} {z : Value} {sz off : Nat} {A : Option Addr} {cp i : Nat} {l : List α} (x' : α) [h : TOne P t z] (hm : addOK md = true) (hx : ev n f x = .pointer (some (((adr A).add (i * sz)).add off))) (hy : ev n f y = v) (hs : Split H (orow e A cp l) R) (hsz : sz = F.sz) (hi : i < l.length) (hv : v.cells = #[v]) (hone : v.oneCell' = true) (hoff : off < sz)
    (hx' : F.enc x' = (F.enc (l.getD i F.dflt)).set off v) (hk : keeps md (orow e A cp (l.set i x') :: R)) (k : SH (nx md) P n ops Q rest f w0 (orow e A cp (l.set i x') :: R)) : SH md P n ops Q (⟨none, .store t x y, ty, pos, aft, none⟩ :: rest) f w0 H :=
  s_wh hm (wh_setR (off := off) (cs := [v]) (x' := x') (by rw [hx, add_add]) hy hs hsz hi (by rw [hv]) (fun w => h.siz w) (by simp [hone]) (by simp; omega) (by
    rw [hx', List.set_eq_take_append_cons_drop, if_pos (by rw [F.len]; omega)]; simp) (wh_nil ⟨rfl, hk, k⟩))
theorem stv {t e : TypeId} {sz : Nat} {z : List Value} {A : Option Addr} {cp i : Nat} {l : List α} (x' : α) [h : TAgg P t sz z] (hm : addOK md = true) (hx : ev n f x = .pointer (some ((adr A).add (i * sz)))) (hy : ev n f y = v) (hs : Split H (orow e A cp l) R) (hsz : sz = F.sz) (hi : i < l.length) (hv : v.cells.toList = F.enc x')
    (hk : keeps md (orow e A cp (l.set i x') :: R)) (k : SH (nx md) P n ops Q rest f w0 (orow e A cp (l.set i x') :: R)) : SH md P n ops Q (⟨none, .store t x y, ty, pos, aft, none⟩ :: rest) f w0 H :=
  s_wh hm (wh_setR (off := 0) (cs := F.enc x') (x' := x') hx hy hs hsz hi hv (fun w => by rw [F.len, ← hsz]; exact h.siz w) (List.all_eq_true.2 (F.one x')) (by rw [F.len]; omega) (by simp [F.len, List.drop_of_length_le]) (wh_nil ⟨rfl, hk, k⟩))
theorem app {t e : TypeId} {sz by_ : Nat} {A B : Option Addr} {m cp kk c2 : Nat} {l l2 : List α} [TSl P t e sz by_] [TEl P e sz by_] (hm : addOK md = true)
    (hx : ev n f x = .slice A m cp) (hy : ev n f y = .slice B kk c2) (hs : Split H (orow e A cp l) R) (hsrc : ∀ w, Wd w0 H w → Rd w B l2) (hsz : sz = F.sz) (hml : m = l.length) (hkl : kk = l2.length)
    (hbig : (l.length + l2.length) * by_ ≤ 140737488355328) (h63 : l.length + l2.length ≤ 140737488355328)
    (k : ∀ A' cp', keeps md (orow e A' cp' (l ++ l2) :: R) ∧ SH (nx md) P n ops Q rest (upd f d (.slice A' (l ++ l2).length cp')) w0 (orow e A' cp' (l ++ l2) :: R)) :
    SH md P n ops Q (⟨some d, .call { callee := .builtin .append, args := #[x, y], argTypes := #[t, t] }, ty, pos, aft, none⟩ :: rest) f w0 H :=
  s_wh hm (wh_append hx hy hs hsrc hsz hml hkl hbig h63 fun A' cp' => wh_nil ⟨rfl, k A' cp'⟩)
theorem numbered_of (g : Operand → Value) : ∀ (parts : List (Nat × Operand)) (k : Nat), parts.map (·.1) = List.range' k parts.length → parts.map (fun p => (p.1, g p.2)) = numbered k (parts.map fun p => g p.2)
  | [], _, _ => rfl
  | p :: ps, k, h => by
    simp only [List.map_cons, List.length_cons, List.range'_succ, List.cons.injEq] at h
    simp only [List.map_cons, numbered, h.1, numbered_of g ps (k + 1) h.2]
theorem bsl {t e : TypeId} {sz by_ : Nat} {parts : List (Nat × Operand)} {l : List α} {len : Nat} [TSl P t e sz by_] [TEl P e sz by_] (hm : addOK md = true)
    (hp : parts.map (·.1) = List.range' 0 parts.length) (hl : Vals (parts.map fun p => ev n f p.2) l) (hsz : sz = F.sz) (hlen : l.length = len) (hsmall : len * sz ≤ 16777216)
    (k : ∀ b, SH (nx md) P n ops Q rest (upd f d (.slice (some ⟨b, 0, none⟩) len len)) w0 (orow e (some ⟨b, 0, none⟩) len l :: H)) :
    SH md P n ops Q (⟨some d, .buildSlice t len parts.toArray, ty, pos, aft, none⟩ :: rest) f w0 H := by
  subst hsz hlen
  obtain ⟨h1, h2, h3⟩ := hl.flat
  refine s_add hm fun w hw => wl_bslice l.length (numbered_of (ev n f) parts 0 hp) h2 h3 hsmall fun w1 b hn ho => wl_nil ⟨rfl, hn.ext, _, k b, hw.newRow hn.ext ?_⟩
  rw [h1] at ho
  have := hn.num
  exact own_base ho (by omega)
theorem mk0 {t e : TypeId} {sz by_ : Nat} {k1 k2 : IntKind} {cp : Int} [TSl P t e sz by_] [TEl P e sz by_] (hm : addOK md = true) (hx : ev n f x = .int k1 0) (hy : ev n f y = .int k2 cp) (hsz : sz = F.sz)
    (h1 : 0 ≤ cp) (hbig : cp * by_ ≤ 140737488355328) (h63 : cp ≤ 140737488355328)
    (k : ∀ b, SH (nx md) P n ops Q rest (upd f d (.slice (some ⟨b, 0, none⟩) 0 cp.toNat)) w0 (orow e (some ⟨b, 0, none⟩) cp.toNat ([] : List α) :: H)) :
    SH md P n ops Q (⟨some d, .makeSlice t x y, ty, pos, aft, none⟩ :: rest) f w0 H := by
  subst hsz
  refine s_add hm fun w hw => wl_make hx hy (Int.le_refl _) h1 hbig h63 fun w1 b he hb _ ⟨cs, hcl, ho⟩ => wl_nil ⟨rfl, he, _, k b, hw.newRow he ?_⟩
  have : cs = [] := List.eq_nil_of_length_eq_zero (by simpa using hcl)
  subst this
  exact own_base ho (by omega)
end
section calls
variable {callee : Operand} {xs : List Operand} {at_ : Array TypeId} {g : FuncId} {fst cap : Array Value} {vs : List Value} {R : Value → List HP → Prop}
/-- A call that leaves what is there as it is, and adds pieces. -/
theorem cp (hm : addOK md = true) (h : ∀ w, Wd w0 H w → Ret P g vs.toArray w (RP w R)) (hc : ev n f callee = .func (.func g) fst cap) (hv : fst.toList ++ xs.map (ev n f) ++ cap.toList = vs)
    (k : ∀ v H', R v H' → SH (nx md) P n ops Q rest (upd f d v) w0 (H' ++ H)) : SH md P n ops Q (⟨some d, .call { callee := .value callee, args := xs.toArray, argTypes := at_ }, ty, pos, aft, none⟩ :: rest) f w0 H :=
  s_add hm fun w hw => wl_call (h w hw) hc hv fun v w' ⟨H', h1, h2⟩ => wl_nil ⟨rfl, h2.1, _, k v H' h1, hw.over h2⟩
/-- A call that may change pieces. -/
theorem cm (hm : addOK md = true) (h : ∀ w, Wd w0 H w → Ret P g vs.toArray w (RP w0 R)) (hc : ev n f callee = .func (.func g) fst cap) (hv : fst.toList ++ xs.map (ev n f) ++ cap.toList = vs)
    (k : ∀ v H', R v H' → keeps md H' ∧ SH (nx md) P n ops Q rest (upd f d v) w0 H') : SH md P n ops Q (⟨some d, .call { callee := .value callee, args := xs.toArray, argTypes := at_ }, ty, pos, aft, none⟩ :: rest) f w0 H :=
  s_mut hm fun w hw => wl_call (h w hw) hc hv fun v w' ⟨H', h1, h2⟩ => wl_nil ⟨rfl, H', (k v H' h1).1, (k v H' h1).2, h2⟩
theorem cm0 (hm : addOK md = true) (h : ∀ w, Wd w0 H w → Ret P g vs.toArray w (RP w0 R)) (hc : ev n f callee = .func (.func g) fst cap) (hv : fst.toList ++ xs.map (ev n f) ++ cap.toList = vs)
    (k : ∀ v H', R v H' → keeps md H' ∧ SH (nx md) P n ops Q rest f w0 H') : SH md P n ops Q (⟨none, .call { callee := .value callee, args := xs.toArray, argTypes := at_ }, ty, pos, aft, none⟩ :: rest) f w0 H :=
  s_mut hm fun w hw => wl_call0' (h w hw) hc hv fun v w' ⟨H', h1, h2⟩ => wl_nil ⟨rfl, H', (k v H' h1).1, (k v H' h1).2, h2⟩
def notTaken : Md → Bool
  | .held _ (.op _ false _) _ => true
  | .held _ _ _ => false
  | _ => true
/-- A call that gives the value v. -/
theorem cl (hm : notTaken md = true) (h : ∀ w, Wd w0 H w → Ret P g vs.toArray w (Out w v)) (hc : ev n f callee = .func (.func g) fst cap) (hv : fst.toList ++ xs.map (ev n f) ++ cap.toList = vs)
    (k : SH (nx md) P n ops Q rest (upd f d v) w0 H) : SH md P n ops Q (⟨some d, .call { callee := .value callee, args := xs.toArray, argTypes := at_ }, ty, pos, aft, none⟩ :: rest) f w0 H := by
  by_cases ha : addOK md = true
  · exact cp ha h hc hv fun u H' ⟨h1, h2⟩ => by subst h1 h2; exact k
  · cases md with
    | seq => exact (ha rfl).elim
    | quiet => exact ⟨fun w hw => wq_call (fun w' he => (h w' (hw.step he)).mono fun u w'' ⟨_, ⟨h1, _⟩, h3⟩ => ⟨h1, h3.1⟩) hc hv (k.out w hw)⟩
    | pick => exact (ha rfl).elim
    | held HS t L =>
      cases t with
      | nil => cases hm
      | fork => cases hm
      | op i b t =>
        cases b with
        | true => cases hm
        | false => exact (ha rfl).elim
end calls
end
/-- A slice in memory of its own, which reads as l. -/
def Fresh {α : Type} [Flat α] (e : TypeId) (l : List α) (v : Value) (H : List HP) : Prop := ∃ A cp, v = .slice A l.length cp ∧ H = [orow e A cp l]
/-- The same, and an error code. -/
def FreshE {α : Type} [Flat α] (e : TypeId) (l : List α) (err : Int) (v : Value) (H : List HP) : Prop := ∃ A cp, v = .tuple #[.slice A l.length cp, .int .i64 err] ∧ H = [orow e A cp l]
/-- A function value that answers at x, wherever the pieces H are. -/
def FunH {α : Type} (P : Program) (w0 : World) (H : List HP) (fv : Value) (arg : α → Value) (res : α → Value) (ok : α → Prop) : Prop :=
  ∃ g fst cap, fv = .func (.func g) fst cap ∧ ∀ w', Wd w0 H w' → ∀ x, ok x → Ret P g (fst.toList ++ [arg x] ++ cap.toList).toArray w' (Out w' (res x))
theorem FunH.fun1 {α : Type} {P : Program} {w0 w : World} {H : List HP} {fv : Value} {arg res : α → Value} {ok : α → Prop} (h : FunH P w0 H fv arg res ok) (hw : Wd w0 H w) : Fun1 P w fv arg res ok :=
  let ⟨g, fst, cap, h1, h2⟩ := h; ⟨g, fst, cap, h1, fun w' he x hx => h2 w' (hw.step he) x hx⟩
end Go.Fw
