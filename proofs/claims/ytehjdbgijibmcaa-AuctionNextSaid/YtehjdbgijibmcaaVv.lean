/- More operations that only compute. -/
import Derived.Test.YtehjdbgijibmcaaVm
set_option linter.unusedSimpArgs false
set_option linter.unusedVariables false
namespace Go.Fw
open Go.RowKit
class TBool (P : Program) (t : TypeId) : Prop where
  und : P.underlying t = some .bool
section
variable {P : Program} {n : Nat} {f : Fr} {w : World} {ty : TypeId} {v : Value} {x y : Operand} {t1 t2 : TypeId}
theorem equalIn_bool {a b : Bool} (d : Nat) (h : P.underlying t1 = some .bool) (w : World) : (Op.equalIn (d + 1) t1 (.bool a) (.bool b)).run P w = .ok (a == b) w := by
  simp [Op.equalIn, run_underlying h]
theorem equal_bool {a b : Bool} (h : P.underlying t1 = some .bool) (w : World) : (Op.equal t1 (.bool a) (.bool b)).run P w = .ok (a == b) w := equalIn_bool 9999 h w
theorem ox_eqlb {a b : Bool} [h : TBool P t1] (hx : ev n f x = .bool a) (hy : ev n f y = .bool b) : OX P n f (.binOp .eql t1 x y t2) ty w (.bool (a == b)) w := by
  intro d pos aft g; simp [execOp, hx, hy, eqGuard, binOp, equal_bool h.und]
theorem ox_neqb {a b : Bool} [h : TBool P t1] (hx : ev n f x = .bool a) (hy : ev n f y = .bool b) : OX P n f (.binOp .neq t1 x y t2) ty w (.bool (!(a == b))) w := by
  intro d pos aft g; simp [execOp, hx, hy, eqGuard, binOp, equal_bool h.und]
theorem ox_nenil {e : TypeId} {sz by_ : Nat} {A : Option Addr} {m cp : Nat} [h : TSl P t1 e sz by_] (hx : ev n f x = .slice A m cp) (hy : ev n f y = .slice none 0 0) :
    OX P n f (.binOp .neq t1 x y t2) ty w (.bool A.isSome) w := by
  intro d pos aft g
  have := run_neq_slice_nil_any (P := P) w t1 e A m cp 0 0 h.und
  simp [execOp, hx, hy, eqGuard, this]
theorem ox_quoN {a b : Int} {k : IntKind} (hx : ev n f x = .int .i64 a) (hy : ev n f y = .int .i64 b) (h0 : 0 ≤ a) (h1 : a ≤ 9223372036854775807) (hb : 0 < b) : OX P n f (.binOp .quo t1 x y t2) ty w (.int .i64 (a / b)) w := by
  have := ox_quo (P := P) (w := w) (ty := ty) (t1 := t1) (t2 := t2) hx hy (by omega)
  rw [Int.tdiv_eq_ediv_of_nonneg h0, wrap_in] at this
  · exact this
  · have h2 : 0 ≤ a / b := Int.ediv_nonneg h0 (by omega)
    have h3 : a / b ≤ a := Int.ediv_le_self b h0
    constructor <;> omega
theorem oneCell_cells {v : Value} (h : v.oneCell' = true) : v.cells = #[v] := by
  cases v <;> first | rfl | cases h
theorem ox_build1 {t : TypeId} {sz : Nat} {zs : List Value} {parts : List (Nat × Operand)} {ps : List (Nat × Value)} [h : TSt P t sz zs] (hp : parts.map (fun p => (p.1, ev n f p.2)) = ps) (h1 : (ps.all fun p => Nat.blt p.1 sz && p.2.oneCell') = true) :
    OX P n f (.build t parts.toArray) ty w (.agg (setAt zs ps).toArray) w :=
  ox_build hp fun p hp => by
    have := List.all_eq_true.1 h1 p hp
    simp only [Bool.and_eq_true, Nat.blt_eq] at this
    exact ⟨this.1, oneCell_cells this.2⟩
theorem kindBound {k : IntKind} : True := trivial
/-- A conversion between kinds of integers that keeps the number. -/
theorem ox_convS {s t : TypeId} {ks k k0 : IntKind} {a : Int} [hs : TInt P s ks] [ht : TInt P t k] (hx : ev n f x = .int k0 a) : OX P n f (.convert s t x) ty w (.int k (k.wrap a)) w := ox_conv hx
end
end Go.Fw
namespace Go.Fw
/-- The call gives the value v, and leaves what was there as it was. -/
abbrev Out (w : World) (v : Value) : Value → World → Prop := RP w (Sc v)
theorem drop_cons {α : Type} {l : List α} {k : Nat} {d : α} (h : k < l.length) : l.drop k = l.getD k d :: l.drop (k + 1) := by
  rw [List.drop_eq_getElem_cons h]; simp [h]
theorem dropI {l : List Int} {k : Nat} (h : k < l.length) : l.drop k = l.getD k 0 :: l.drop (k + 1) := drop_cons h
theorem take_snoc {α : Type} {l : List α} {k : Nat} {d : α} (h : k < l.length) : l.take (k + 1) = l.take k ++ [l.getD k d] := by
  rw [List.take_succ_eq_append_getElem h]; simp [h]
theorem takeI {l : List Int} {k : Nat} (h : k < l.length) : l.take (k + 1) = l.take k ++ [l.getD k 0] := take_snoc h
theorem cong2 {α β γ : Type} (f : α → β → γ) {a a' : α} {b b' : β} (h : a = a') (k : b = b') : f a b = f a' b' := by subst h k; rfl
/-- All numbers of the list are of type int. -/
def All64 (l : List Int) : Prop := ∀ x ∈ l, In64 x
theorem All64.at {l : List Int} (h : All64 l) (k : Nat) : In64 (l.getD k 0) := by
  by_cases hk : k < l.length
  · have e : l.getD k 0 = l[k] := by simp [hk]
    rw [e]; exact h _ (List.getElem_mem hk)
  · have e : l.getD k 0 = 0 := by simp [List.getElem?_eq_none (Nat.le_of_not_lt hk)]
    rw [e]; constructor <;> omega
/-- A function value that answers p x at x, and leaves what was there as it was. -/
def Fun1 {α : Type} (P : Program) (w : World) (fv : Value) (arg : α → Value) (res : α → Value) (ok : α → Prop) : Prop :=
  ∃ g fst cap, fv = .func (.func g) fst cap ∧ ∀ w', Ext w w' → ∀ x, ok x → Ret P g (fst.toList ++ [arg x] ++ cap.toList).toArray w' (Out w' (res x))
theorem Fun1.ext {α : Type} {P : Program} {w w' : World} {fv : Value} {arg res : α → Value} {ok : α → Prop} (h : Fun1 P w fv arg res ok) (he : Ext w w') : Fun1 P w' fv arg res ok :=
  let ⟨g, fst, cap, h1, h2⟩ := h; ⟨g, fst, cap, h1, fun w'' he' x hx => h2 w'' (he.trans he') x hx⟩
def idxFrom {α : Type} (p : α → Bool) (k : Int) : List α → Int
  | [] => -1
  | x :: l => if p x then k else idxFrom p (k + 1) l
def idxOf {α : Type} (p : α → Bool) (l : List α) : Int := idxFrom p 0 l
theorem idxFrom_any {α : Type} (p : α → Bool) : ∀ (l : List α) (k : Int), 0 ≤ k → (decide (0 ≤ idxFrom p k l)) = l.any p
  | [], k, _ => by simp [idxFrom]
  | x :: l, k, hk => by
    simp only [idxFrom, List.any_cons]
    by_cases h : p x
    · simp [h, hk]
    · simp only [h, Bool.false_or]; exact idxFrom_any p l (k + 1) (by omega)
theorem getD_mem {α : Type} {l : List α} {k : Nat} {d : α} (h : k < l.length) : l.getD k d ∈ l := by
  have e : l.getD k d = l[k] := by simp [h]
  rw [e]; exact List.getElem_mem h
end Go.Fw
