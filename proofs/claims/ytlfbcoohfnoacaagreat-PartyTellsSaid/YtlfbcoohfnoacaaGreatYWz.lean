/- Elements are loaded, of which it is known what they are. -/
import Derived.Test.YtlfbcoohfnoacaaGreatYWy
import Derived.Test.YtlfbcoohfnoacaaGreatYVn
set_option linter.unusedSimpArgs false
set_option linter.unusedVariables false
namespace Go.Fw
open Go.RowKit
section
variable {md : Md} {P : Program} {n : Nat} {Q : HQ} {f : Fr} {w0 : World} {H R : List HP} {ops : Array Oper} {rest : List Oper} {d : Nat} {op : Op} {ty : TypeId} {pos : String} {aft : Array Edge} {v : Value} {x y : Operand}
theorem lrg {α : Type} [F : Flat α] {t : TypeId} {z : Value} {sz off : Nat} {A : Option Addr} {i : Nat} {l : List α} {cs : List Value} [TOne P t z] (hx : ev n f x = .pointer (some (((adr A).add (i * sz)).add off))) (hr : ∀ w, Wd w0 (vis md H) w → Rd w A l) (hsz : sz = F.sz) (h1 : i < l.length) (hg : F.enc (l.getD i F.dflt) = cs) (hv : cs[off]? = some v)
    (k : SH (nx md) P n ops Q rest (upd f d v) w0 H) : SH md P n ops Q (⟨some d, .load t x, ty, pos, aft, none⟩ :: rest) f w0 H := lrf hx hr hsz h1 (by rw [hg]; exact hv) k
theorem lag {α : Type} [F : Flat α] {t : TypeId} {sz : Nat} {z : List Value} {A : Option Addr} {i : Nat} {l : List α} {cs : List Value} [TAgg P t sz z] (hx : ev n f x = .pointer (some ((adr A).add (i * sz)))) (hr : ∀ w, Wd w0 (vis md H) w → Rd w A l) (hsz : sz = F.sz) (h1 : i < l.length) (hg : F.enc (l.getD i F.dflt) = cs)
    (k : SH (nx md) P n ops Q rest (upd f d (.agg cs.toArray)) w0 H) : SH md P n ops Q (⟨some d, .load t x, ty, pos, aft, none⟩ :: rest) f w0 H := lra hx hr hsz h1 (by rw [hg]; exact k)
theorem lgi {t : TypeId} {z : Value} {A : Option Addr} {i : Nat} {l : List Int} {u : Int} [TOne P t z] (hx : ev n f x = .pointer (some ((adr A).add (i * 1)))) (hr : ∀ w, Wd w0 (vis md H) w → Rd w A l) (h1 : i < l.length) (hg : l.getD i 0 = u)
    (k : SH (nx md) P n ops Q rest (upd f d (.int .i64 u)) w0 H) : SH md P n ops Q (⟨some d, .load t x, ty, pos, aft, none⟩ :: rest) f w0 H := lin hx hr h1 (by rw [hg]; exact k)
end
end Go.Fw
