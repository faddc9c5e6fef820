/- Components, entities, worlds that come in as arguments. -/
import Derived.Test.YtfodpcpclmnbkaaDoorZOa
import Derived.Test.YtfodpcpclmnbkaaDoorZSq
import Derived.Test.YtfodpcpclmnbkaaDoorZSv
set_option linter.unusedSimpArgs false
set_option linter.unusedVariables false
namespace Go.Proofs.YtfodpcpclmnbkaaDoor
open Go.Fw Go.RowKit Go.ChangeShapes Go.WideShapes Go.ChangeAt
section
variable {H : Type} {enc : TypeId × Value → H} {P : Program} {w : World} {base : Nat} {spare : Nat → Bool} {held : Bool} {fuel : Nat} {t e : TypeId} {cs : List Value} {x : DataW H × List MemPlace}
/-- A structure of two fields. -/
theorem two_open {f0 f1 : Field} {n0 n1 : Nat} (ht : P.underlying t = some (.struct #[f0, f1])) (hc : P.cellsOf t = n0 + n1) (h0 : f0.offset = 0) (h1 : f1.offset = n0) (c0 : P.cellsOf f0.type = n0) (c1 : P.cellsOf f1.type = n1) (h : DataW.trod enc P w base spare held fuel t cs = some x) :
    ∃ m y0 y1, DataW.trod enc P w base spare held m f0.type (cs.take n0) = some y0 ∧ DataW.trod enc P w base spare held m f1.type (cs.drop n0) = some y1 ∧ cs.length = n0 + n1 := by
  obtain ⟨xs, m, _, _, hl, hxl, hf⟩ := DataW.trod_struct ht h
  rw [hc] at hl
  match xs, hxl with
  | [y0, y1], _ =>
    have e0 := hf 0 f0 rfl
    have e1 := hf 1 f1 rfl
    rw [h0, c0, List.drop_zero] at e0
    rw [h1, c1, List.take_of_length_le (by rw [List.length_drop]; omega)] at e1
    exact ⟨m, y0, y1, e0, e1, hl⟩
/-- A slice of elements of which each is opened. -/
theorem list_open {α : Type} [F : Flat α] (Ok : α → Prop) (he : ∀ n cs y, DataW.trod enc P w base spare held n e cs = some y → ∃ z : α, cs = F.enc z ∧ Ok z) (ht : P.underlying t = some (.slice e)) (hC : P.cellsOf e = F.sz) (h : DataW.trod enc P w base spare held fuel t cs = some x) :
    ∃ A cp, ∃ l : List α, cs = [.slice A l.length cp] ∧ Rd w A l ∧ (∀ y ∈ l, Ok y) ∧ l.length ≤ maxLen ∧ l.length ≤ cp := by
  rcases Go.Deep.open_slice ht h with ⟨rfl, _⟩ | ⟨a, len, cap, m, n, D, Pl, rfl, hb, hl, hm, hmm, rfl, hx⟩
  · exact ⟨none, 0, [], rfl, Rd.nil _ _, fun _ h => by simp at h, by simp, by simp⟩
  · have hlm : len ≤ m := by rw [hmm]; split <;> omega
    have key : ∀ i, i < len → ∃ z : α, Ok z ∧ ∀ r, r < F.sz → w.cell? (a.add (i * F.sz + r)) = (F.enc z)[r]? := fun i hi => by
      obtain ⟨cs', h1, h2⟩ := hx i (by omega)
      obtain ⟨z, rfl, hz⟩ := he _ _ _ h2
      obtain ⟨_, hlen, hc⟩ := World.cells?_some h1
      refine ⟨z, hz, fun r hr => ?_⟩
      have := hc r (by omega)
      rw [hC, Addr.add_add] at this
      exact this
    have hex : ∀ i, ∃ z : α, i < len → Ok z ∧ ∀ r, r < F.sz → w.cell? (a.add (i * F.sz + r)) = (F.enc z)[r]? := fun i => by
      by_cases hi : i < len
      · obtain ⟨z, h1⟩ := key i hi; exact ⟨z, fun _ => h1⟩
      · exact ⟨F.dflt, fun h => absurd h hi⟩
    let V := fun i => Classical.choose (hex i)
    have hV : ∀ i, i < len → Ok (V i) ∧ ∀ r, r < F.sz → w.cell? (a.add (i * F.sz + r)) = (F.enc (V i))[r]? := fun i => Classical.choose_spec (hex i)
    have hll : ((List.range len).map V).length = len := by simp
    refine ⟨some a, cap, (List.range len).map V, by rw [hll], rd_rows _ fun i hi r hr => ?_, fun y hy => ?_, by rw [hll]; omega, by rw [hll]; omega⟩
    · rw [hll] at hi
      obtain ⟨h1, h2⟩ := hV i hi
      rw [h2 r hr]
      have : ((List.range len).map V).getD i F.dflt = V i := by simp [List.getD_eq_getElem?_getD, hi]
      rw [this]
    · obtain ⟨i, hi, rfl⟩ := List.mem_map.1 hy
      exact (hV i (by simpa using hi)).1
end
section
variable {H : Type} {enc : TypeId × Value → H} {W : World} {base : Nat} {spare : Nat → Bool} {held : Bool}
/-- A component's numbers are such as their types have. -/
structure CompOk (q : Comp) : Prop where
  kind : 0 ≤ q.kind ∧ q.kind ≤ 255
  a : -9223372036854775808 ≤ q.a ∧ q.a ≤ 9223372036854775807
  b : -9223372036854775808 ≤ q.b ∧ q.b ≤ 9223372036854775807
  c : -9223372036854775808 ≤ q.c ∧ q.c ≤ 9223372036854775807
  d : -9223372036854775808 ≤ q.d ∧ q.d ≤ 9223372036854775807
/-- An entity whose components can be read. -/
structure EntOk (W : World) (x : EntP) : Prop where
  id : -9223372036854775808 ≤ x.e.id ∧ x.e.id ≤ 9223372036854775807
  rd : Rd W x.A x.e.comps
  comps : ∀ c ∈ x.e.comps, CompOk c
  len : x.e.comps.length ≤ maxLen
set_option maxRecDepth 100000 in
theorem comp_open {n : Nat} {cs : List Value} {y : DataW H × List MemPlace} (h : DataW.trod enc Tryd.prog W base spare held n 42 cs = some y) : ∃ z : Comp, cs = Flat.enc z ∧ CompOk z := by
  obtain ⟨m, y0, y1, e0, e1, hl⟩ := two_open (n0 := 1) (n1 := 4) Tryd.underlying42 (by kernel_rfl) rfl rfl (by kernel_rfl) (by kernel_rfl) h
  obtain ⟨k, hk, _, hw⟩ := DataW.trod_int Tryd.underlying5 e0
  obtain ⟨ns, hn, hw2⟩ := flat_open (ks := [.i64, .i64, .i64, .i64]) (by kernel_rfl) (by kernel_rfl) e1
  have hln := hw2.len
  match ns, hln with
  | [a, b, c, d], _ =>
    refine ⟨⟨k, a, b, c, d⟩, ?_, ⟨u8_of hw, i64_of hw2.1, i64_of hw2.2.1, i64_of hw2.2.2.1, i64_of hw2.2.2.2.1⟩⟩
    rw [← List.take_append_drop 1 cs, hk, hn]; rfl
set_option maxRecDepth 100000 in
theorem ent_open {n : Nat} {cs : List Value} {y : DataW H × List MemPlace} (h : DataW.trod enc Tryd.prog W base spare held n 32 cs = some y) : ∃ z : EntP, cs = Flat.enc z ∧ EntOk W z := by
  obtain ⟨m, y0, y1, e0, e1, hl⟩ := two_open (n0 := 1) (n1 := 1) Tryd.underlying32 (by kernel_rfl) rfl rfl (by kernel_rfl) (by kernel_rfl) h
  obtain ⟨k, hk, _, hw⟩ := DataW.trod_int Tryd.underlying3 e0
  obtain ⟨A, cp, l, hc, hr, hb, hll, _⟩ := list_open CompOk (fun n cs y h => comp_open h) Tryd.underlying30 (by kernel_rfl) e1
  refine ⟨⟨⟨k, l⟩, A, cp⟩, ?_, ⟨i64_of hw, hr, hb, hll⟩⟩
  rw [← List.take_append_drop 1 cs, hk, hc]; rfl
set_option maxRecDepth 100000 in
theorem open_comp {v : Value} {d : DataW H} {p : List MemPlace} (hv0 : Value.okWide Tryd.prog W .any base 42 v) (h : DataW.Trod enc Tryd.prog W 0 (fun _ => true) true 42 v d p) :
    ∃ x : Comp, v = .agg (Flat.enc x).toArray ∧ CompOk x := by
  obtain ⟨cs, rfl, hsz⟩ := okWide_struct Tryd.underlying42 hv0
  obtain ⟨fuel, hf⟩ := h
  obtain ⟨z, hc, hw⟩ := comp_open hf
  refine ⟨z, ?_, hw⟩
  rw [← hc]; simp [Value.cells]
set_option maxRecDepth 100000 in
theorem open_entity {v : Value} {d : DataW H} {p : List MemPlace} (hv0 : Value.okWide Tryd.prog W .any base 32 v) (h : DataW.Trod enc Tryd.prog W 0 (fun _ => true) true 32 v d p) :
    ∃ x : EntP, v = .agg (Flat.enc x).toArray ∧ EntOk W x := by
  obtain ⟨cs, rfl, hsz⟩ := okWide_struct Tryd.underlying32 hv0
  obtain ⟨fuel, hf⟩ := h
  obtain ⟨z, hc, hw⟩ := ent_open hf
  refine ⟨z, ?_, hw⟩
  rw [← hc]; simp [Value.cells]
set_option maxRecDepth 100000 in
theorem open_world {v : Value} {d : DataW H} {p : List MemPlace} (hv0 : Value.okWide Tryd.prog W .any base 25 v) (h : DataW.Trod enc Tryd.prog W 0 (fun _ => true) true 25 v d p) :
    ∃ t A l c, v = wv t A l c ∧ (-9223372036854775808 ≤ t ∧ t ≤ 9223372036854775807) ∧ Rd W A l ∧ (∀ x ∈ l, EntOk W x) ∧ l.length ≤ maxLen := by
  obtain ⟨cs, rfl, hsz⟩ := okWide_struct Tryd.underlying25 hv0
  obtain ⟨fuel, hf⟩ := h
  obtain ⟨m, y0, y1, e0, e1, hl⟩ := two_open (n0 := 1) (n1 := 1) Tryd.underlying25 (by kernel_rfl) rfl rfl (by kernel_rfl) (by kernel_rfl) hf
  obtain ⟨k, hk, _, hw⟩ := DataW.trod_int Tryd.underlying3 e0
  obtain ⟨A, cp, l, hc, hr, hb, hll, _⟩ := list_open (EntOk W) (fun n cs y h => ent_open h) Tryd.underlying23 (by kernel_rfl) e1
  refine ⟨k, A, l, cp, ?_, i64_of hw, hr, hb, hll⟩
  have : cs.toList = [.int .i64 k, .slice A l.length cp] := by
    have h2 : (Value.agg cs).cells.toList = cs.toList := by simp [Value.cells]
    rw [h2] at hk hc
    rw [← List.take_append_drop 1 cs.toList, hk, hc]; rfl
  unfold wv
  rw [← this]
end
end Go.Proofs.YtfodpcpclmnbkaaDoor
