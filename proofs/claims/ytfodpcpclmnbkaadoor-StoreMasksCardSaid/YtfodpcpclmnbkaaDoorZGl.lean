/- The row's condition on the package variable: the table reads as RNG. -/
import Derived.Test.YtfodpcpclmnbkaaDoorZSt
import Derived.Test.YtfodpcpclmnbkaaDoorRows
import Derived.ProofKit
import Derived.LaidMore
import Derived.OpenShut
import Derived.Stop.Joined
set_option linter.unusedSimpArgs false
set_option linter.unusedVariables false
namespace Go.Proofs.YtfodpcpclmnbkaaDoor
open Go.Fw Go.RowKit Go.ChangeShapes Go.WideShapes Go.ChangeAt
section
variable {H : Type} {enc : TypeId × Value → H} {P : Program} {w : World} {base : Nat} {spare : Nat → Bool} {held : Bool}
def und1 : DataW H → List Int
  | .agg [.lit (.int _ a), .lit (.int _ b)] => [a, b]
  | _ => []
def undA (u : DataW H → List Int) : DataW H → List Int
  | .agg l => l.flatMap u
  | _ => []
theorem ints_append (a b : List Int) : ints (a ++ b) = ints a ++ ints b := by rw [ints_encs, ints_encs, ints_encs, encs_append]
theorem chunks (c : Nat) (u : DataW H → List Int) : ∀ (xs : List (DataW H × List MemPlace)) (cs : List Value), cs.length = xs.length * c → (∀ i y, xs[i]? = some y → (cs.drop (i * c)).take c = ints (u y.1)) → cs = ints (xs.flatMap fun y => u y.1)
  | [], cs, hl, _ => by
    have : cs = [] := List.eq_nil_of_length_eq_zero (by simpa using hl)
    rw [this]; rfl
  | y :: xs, cs, hl, h => by
    have h0 := h 0 y rfl
    rw [Nat.zero_mul, List.drop_zero] at h0
    have ih := chunks c u xs (cs.drop c) (by rw [List.length_drop, hl, List.length_cons, Nat.succ_mul]; omega) (fun i z hz => by
      rw [List.drop_drop, show c + i * c = (i + 1) * c by rw [Nat.succ_mul]; omega]
      exact h (i + 1) z (by simpa using hz))
    rw [List.flatMap_cons, ints_append, ← h0, ← ih, List.take_append_drop]
theorem trod_arr {n : Nat} {t e : TypeId} {fuel : Nat} {cs : List Value} {x : DataW H × List MemPlace} (u : DataW H → List Int) (ht : P.underlying t = some (.array n e)) (hc : P.cellsOf t = n * P.cellsOf e)
    (he : ∀ m cs' y, DataW.trod enc P w base spare held m e cs' = some y → cs' = ints (u y.1)) (h : DataW.trod enc P w base spare held fuel t cs = some x) : cs = ints (undA u x.1) := by
  obtain ⟨xs, m, _, rfl, hl, hxl, hf⟩ := DataW.trod_array ht h
  have := chunks (P.cellsOf e) u xs cs (by rw [hl, hc, hxl]) (fun i y hy => by
    have hi : i < n := by rw [← hxl]; exact (List.getElem?_eq_some_iff.1 hy).1
    have hx := hf i hi
    rw [hy] at hx
    exact he _ _ _ hx)
  rw [this]
  unfold undA
  simp only [List.flatMap_map]
theorem trod_span {t : TypeId} {fuel : Nat} {cs : List Value} {x : DataW H × List MemPlace} {f0 f1 : Field} (ht : P.underlying t = some (.struct #[f0, f1])) (hc : P.cellsOf t = 2) (h0 : f0.offset = 0) (h1 : f1.offset = 1) (c0 : P.cellsOf f0.type = 1) (c1 : P.cellsOf f1.type = 1) (u0 : P.underlying f0.type = some (.int .i64)) (u1 : P.underlying f1.type = some (.int .i64))
    (h : DataW.trod enc P w base spare held fuel t cs = some x) : cs = ints (und1 x.1) := by
  obtain ⟨xs, m, _, rfl, hl, hxl, hf⟩ := DataW.trod_struct ht h
  rw [hc] at hl
  match cs, hl with
  | [a, b], _ =>
    match xs, hxl with
    | [y0, y1], _ =>
      have e0 := hf 0 f0 rfl
      have e1 := hf 1 f1 rfl
      rw [h0, c0] at e0
      rw [h1, c1] at e1
      simp only [List.drop_zero, List.take_succ_cons, List.take_zero, List.getElem?_cons_zero, List.drop_succ_cons, List.getElem?_cons_succ] at e0 e1
      obtain ⟨m0, hm0, hx0, _⟩ := DataW.trod_int u0 e0
      obtain ⟨m1, hm1, hx1, _⟩ := DataW.trod_int u1 e1
      simp only [List.cons.injEq, and_true] at hm0 hm1
      subst hm0 hm1
      simp only [List.map_cons, List.map_nil, und1]
      rw [hx0, hx1]
      rfl
end
theorem gRanges : Tryd.prog.globalNamed "marches/store.ranges" = some 0 := by kernel_rfl
theorem tRanges : (Tryd.prog.globals[0]?).map (·.type) = some 91 := by kernel_rfl
def laidR : List (String × DataW Unit) := [("marches/store.ranges", Rows.laid_marches_store_ranges)]
theorem glob_of {W : World} (h : laidMetH Tryd.prog laidR W) : Glob W := by
  rw [MakeChecks.laidMetH_plain _ _ _ (by kernel_rfl)] at h
  obtain ⟨ps, ⟨g0, t0, cs0, f0, p0, q0, hg0, ht0, hv0, hd0, _, _⟩, _, _⟩ := h
  obtain rfl := Option.some.inj (gRanges.symm.trans hg0)
  obtain rfl := Option.some.inj (tRanges.symm.trans ht0)
  have hcs := trod_arr (undA und1) (by kernel_rfl : Tryd.prog.underlying 91 = some (.array 11 90)) (by kernel_rfl)
    (fun m cs' y hy => trod_arr und1 (by kernel_rfl : Tryd.prog.underlying 90 = some (.array 4 89)) (by kernel_rfl)
      (fun m cs' y hy => trod_span Tryd.underlying89 (by kernel_rfl) rfl rfl (by kernel_rfl) (by kernel_rfl) Tryd.underlying3 Tryd.underlying3 hy) hy) hd0
  intro j u hj
  refine ⟨rfl, ?_⟩
  have hc := World.var?_cell hg0 hv0 j
  have e : encs RNG = cs0.toList := by rw [hcs]; rfl
  rw [e] at hj
  have e2 : (adr (some (⟨0, 0, none⟩ : Addr))).add j = ⟨0, j, none⟩ := by
    show (⟨0, 0, none⟩ : Addr).add j = _
    by_cases hj0 : j = 0
    · subst hj0; simp [Addr.add]
    · simp [Addr.add, hj0]
  rw [e2, hc]
  simpa using hj
end Go.Proofs.YtfodpcpclmnbkaaDoor
