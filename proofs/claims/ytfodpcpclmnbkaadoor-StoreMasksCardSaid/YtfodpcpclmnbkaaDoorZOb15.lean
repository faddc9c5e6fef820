/- Arguments of chapter 15 that come in. -/
import Derived.Test.YtfodpcpclmnbkaaDoorZSq
import Derived.Test.YtfodpcpclmnbkaaDoorZOa
import Derived.Test.YtfodpcpclmnbkaaDoorZPu15
set_option linter.unusedSimpArgs false
set_option linter.unusedVariables false
namespace Go.Proofs.YtfodpcpclmnbkaaDoor
open Go.Fw Go.RowKit Go.ChangeShapes Go.WideShapes Go.ChangeAt
section
variable {H : Type} {enc : TypeId × Value → H} {P : Program}
/-- A slice of numbers that came in. -/
theorem open_numc {t e : TypeId} {k : IntKind} {W : World} {base : Nat} {v : Value} {d : DataW H} {p : List MemPlace} (ht : P.underlying t = some (.slice e)) (he : P.underlying e = some (.int k)) (hc : P.cellsOf e = 1)
    (hv : Value.okWide P W .any base t v) (h : DataW.Trod enc P W 0 (fun _ => true) true t v d p) : ∃ A cp, ∃ l : List (NumK k), v = .slice A l.length cp ∧ Rd W A l ∧ (∀ x ∈ l, (Lit.int k x.n).wf = true) ∧ l.length ≤ maxLen ∧ l.length ≤ cp := by
  obtain ⟨A, m, cp, rfl⟩ := okWide_slice ht hv
  obtain ⟨fuel, h⟩ := h
  rcases open_ints ht he hc h with ⟨hcs, _⟩ | ⟨a, len, cap, zs, hcs, _, hl, hm, hz, _, hcell, hwf⟩
  · simp [Value.cells] at hcs
    obtain ⟨rfl, rfl, rfl⟩ := hcs
    exact ⟨none, 0, [], rfl, Rd.nil _ _, fun _ h => by simp at h, by simp, by simp⟩
  · simp [Value.cells] at hcs
    obtain ⟨rfl, rfl, rfl⟩ := hcs
    simp only [if_true] at hz
    have hlen : ((zs.take m).map fun n => (⟨n⟩ : NumK k)).length = m := by rw [List.length_map, List.length_take]; omega
    refine ⟨some a, cp, (zs.take m).map fun n => ⟨n⟩, by rw [hlen], fun j u hj => ⟨rfl, ?_⟩, fun x hx => ?_, by rw [hlen]; omega, by rw [hlen]; omega⟩
    · have e1 : encs ((zs.take m).map fun n => (⟨n⟩ : NumK k)) = (zs.take m).map fun n => Value.int k n := by
        generalize zs.take m = l
        induction l with
        | nil => rfl
        | cons x l ih => rw [List.map_cons, encs_cons, ih]; rfl
      rw [e1, List.getElem?_map, List.getElem?_take] at hj
      split at hj
      · rename_i hjm
        have hjl : j < zs.length := by omega
        have hc := hcell j hjl
        rw [List.getElem?_eq_getElem hjl] at hj
        simp only [Option.map_some, Option.some.injEq] at hj
        rw [← hj]
        show W.cell? (a.add j) = _
        rw [hc]
        simp [hjl]
      · cases hj
    · obtain ⟨n, hn, rfl⟩ := List.mem_map.1 hx
      exact hwf n (List.mem_of_mem_take hn)
end
theorem r16_of {l : List U16} (h : ∀ x ∈ l, (Lit.int .u16 x.n).wf = true) : R16 l := fun x hx => by
  simpa [Lit.wf, IntKind.min, IntKind.max, IntKind.signed, IntKind.bits] using h x hx
theorem u32_of {n : Int} (h : (Lit.int .u32 n).wf = true) : 0 ≤ n ∧ n ≤ 4294967295 := by
  simpa [Lit.wf, IntKind.min, IntKind.max, IntKind.signed, IntKind.bits] using h
end Go.Proofs.YtfodpcpclmnbkaaDoor
