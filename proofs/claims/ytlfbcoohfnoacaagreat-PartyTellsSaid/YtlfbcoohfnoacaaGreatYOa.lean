/- Arguments are opened: structures of numbers, slices of these. -/
import Derived.Test.YtlfbcoohfnoacaaGreatYVa
import Derived.ProofKit
import Derived.Carry
import Derived.Deep.Slices
import Derived.Lib.SmallJoins
import Derived.OpenShut
set_option linter.unusedSimpArgs false
set_option linter.unusedVariables false
namespace Go.Fw
open Go.RowKit
/-- Numbers of the kinds ks, each a cell. -/
def cellsK : List IntKind → List Int → List Value
  | k :: ks, n :: ns => .int k n :: cellsK ks ns
  | _, _ => []
def WfK : List IntKind → List Int → Prop
  | k :: ks, n :: ns => (Lit.int k n).wf = true ∧ WfK ks ns
  | [], [] => True
  | _, _ => False
def kindB (P : Program) (t : TypeId) (k : IntKind) : Bool := match P.underlying t with | some (.int k') => decide (k' = k) | _ => false
theorem kindB_of {P : Program} {t : TypeId} {k : IntKind} (h : kindB P t k = true) : P.underlying t = some (.int k) := by
  unfold kindB at h
  split at h
  · rename_i k' hu; rw [hu, of_decide_eq_true h]
  · cases h
/-- The type t is a structure of numbers of the kinds ks, each at its place. -/
def flatB (P : Program) (t : TypeId) (ks : List IntKind) : Bool :=
  match P.underlying t with
  | some (.struct fs) => Nat.beq fs.size ks.length && (List.range ks.length).all fun i => match fs[i]?, ks[i]? with
    | some f, some k => Nat.beq f.offset i && (Nat.beq (P.cellsOf f.type) 1 && kindB P f.type k)
    | _, _ => false
  | some (.array n e) => Nat.beq n ks.length && (Nat.beq (P.cellsOf e) 1 && ks.all fun k => kindB P e k)
  | _ => false
theorem cellsK_of : ∀ (ks : List IntKind) (cs : List Value), cs.length = ks.length → (∀ (i : Nat) (k : IntKind), ks[i]? = some k → ∃ n, cs[i]? = some (.int k n) ∧ (Lit.int k n).wf = true) → ∃ ns : List Int, cs = cellsK ks ns ∧ WfK ks ns
  | [], [], _, _ => ⟨[], rfl, trivial⟩
  | [], _ :: _, h, _ => by simp at h
  | _ :: _, [], h, _ => by simp at h
  | k :: ks, c :: cs, h, hi => by
    obtain ⟨n, h1, h2⟩ := hi 0 k rfl
    simp only [List.getElem?_cons_zero, Option.some.injEq] at h1
    obtain ⟨ns, h3, h4⟩ := cellsK_of ks cs (by simpa using h) fun i k' hk => hi (i + 1) k' (by simpa using hk)
    exact ⟨n :: ns, by rw [h1, h3]; rfl, h2, h4⟩
theorem WfK.len : ∀ {ks : List IntKind} {ns : List Int}, WfK ks ns → ns.length = ks.length
  | [], [], _ => rfl
  | [], _ :: _, h => h.elim
  | _ :: _, [], h => h.elim
  | _ :: ks, _ :: ns, h => by rw [List.length_cons, List.length_cons, WfK.len h.2]
theorem cellsK_len : ∀ {ks : List IntKind} {ns : List Int}, WfK ks ns → (cellsK ks ns).length = ks.length
  | [], [], _ => rfl
  | [], _ :: _, h => h.elim
  | _ :: _, [], h => h.elim
  | _ :: ks, _ :: ns, h => by rw [cellsK, List.length_cons, List.length_cons, cellsK_len h.2]
section
variable {H : Type} {enc : TypeId × Value → H} {P : Program} {w : World} {base : Nat} {spare : Nat → Bool} {held : Bool} {fuel : Nat} {t e : TypeId} {cs : List Value} {x : DataW H × List MemPlace} {ks : List IntKind}
theorem flat_open (hB : flatB P t ks = true) (hC : P.cellsOf t = ks.length) (h : DataW.trod enc P w base spare held fuel t cs = some x) : ∃ ns : List Int, cs = cellsK ks ns ∧ WfK ks ns := by
  unfold flatB at hB
  split at hB
  · rename_i fs hu
    simp only [Bool.and_eq_true, Nat.beq_eq, List.all_eq_true, List.mem_range] at hB
    obtain ⟨hs, hB⟩ := hB
    obtain ⟨xs, n, _, _, hl, hxl, hf⟩ := DataW.trod_struct hu h
    refine cellsK_of ks cs (hl.trans hC) fun i k hk => ?_
    have hi : i < ks.length := (List.getElem?_eq_some_iff.1 hk).1
    have hb := hB i hi
    cases hfi : fs[i]? with
    | none => rw [hfi] at hb; simp at hb
    | some f =>
      rw [hfi, hk] at hb
      simp only [Bool.and_eq_true, Nat.beq_eq] at hb
      obtain ⟨ho, hc1, hu0⟩ := hb
      have hu1 := kindB_of hu0
      have hx := hf i f hfi
      rw [ho, hc1] at hx
      have hxi : ∃ y, xs[i]? = some y := ⟨xs[i]'(by omega), List.getElem?_eq_getElem (by omega)⟩
      obtain ⟨y, hy⟩ := hxi
      rw [hy] at hx
      obtain ⟨m, hm, _, hwf⟩ := DataW.trod_int hu1 hx
      refine ⟨m, ?_, hwf⟩
      have : (cs.drop i)[0]? = some (.int k m) := by
        have := congrArg (fun l : List Value => l[0]?) hm
        simpa [List.getElem?_take] using this
      simpa using this
  · rename_i n e hu
    simp only [Bool.and_eq_true, Nat.beq_eq, List.all_eq_true] at hB
    obtain ⟨hs, hc1, hB⟩ := hB
    obtain ⟨xs, m, _, _, hl, hxl, hf⟩ := DataW.trod_array hu h
    refine cellsK_of ks cs (hl.trans hC) fun i k hk => ?_
    have hi : i < ks.length := (List.getElem?_eq_some_iff.1 hk).1
    have hu1 := kindB_of (hB k (List.mem_of_getElem? hk))
    have hx := hf i (by omega)
    rw [hc1, Nat.mul_one] at hx
    have hxi : ∃ y, xs[i]? = some y := ⟨xs[i]'(by omega), List.getElem?_eq_getElem (by omega)⟩
    obtain ⟨y, hy⟩ := hxi
    rw [hy] at hx
    obtain ⟨m, hm, _, hwf⟩ := DataW.trod_int hu1 hx
    refine ⟨m, ?_, hwf⟩
    have : (cs.drop i)[0]? = some (.int k m) := by
      have := congrArg (fun l : List Value => l[0]?) hm
      simpa [List.getElem?_take] using this
    simpa using this
  · cases hB
/-- Rows of cells, side by side. -/
theorem rd_rows {α : Type} [F : Flat α] {a : Addr} : ∀ (l : List α), (∀ i, i < l.length → ∀ r, r < F.sz → w.cell? (a.add (i * F.sz + r)) = (F.enc (l.getD i F.dflt))[r]?) → Rd w (some a) l := fun l h j u hj => by
  have hp := F.pos
  have hjl : j < l.length * F.sz := by
    have := (List.getElem?_eq_some_iff.1 hj).1
    rwa [encs_len] at this
  have hi : j / F.sz < l.length := (Nat.div_lt_iff_lt_mul hp).2 hjl
  have hr : j % F.sz < F.sz := Nat.mod_lt _ hp
  have hc := h _ hi _ hr
  have hdm : j / F.sz * F.sz + j % F.sz = j := by rw [Nat.mul_comm]; exact Nat.div_add_mod j F.sz
  rw [hdm] at hc
  refine ⟨rfl, ?_⟩
  show w.cell? (a.add j) = some u
  rw [hc]
  have hlen : j % F.sz < (F.enc (l.getD (j / F.sz) F.dflt)).length := by rw [F.len]; exact hr
  have := encs_get hi (List.getElem?_eq_getElem hlen)
  rw [hdm, hj] at this
  rw [List.getElem?_eq_getElem hlen, this]
/-- A slice of structures of numbers. -/
theorem flats_open {α : Type} [F : Flat α] (of : List Int → α) (hof : ∀ ns, WfK ks ns → F.enc (of ns) = cellsK ks ns) (ht : P.underlying t = some (.slice e)) (hB : flatB P e ks = true) (hC : P.cellsOf e = ks.length) (hsz : ks.length = F.sz)
    (h : DataW.trod enc P w base spare held fuel t cs = some x) : ∃ A cp, ∃ l : List α, cs = [.slice A l.length cp] ∧ Rd w A l ∧ (∀ y ∈ l, ∃ ns, WfK ks ns ∧ y = of ns) ∧ l.length ≤ maxLen := by
  rcases Go.Deep.open_slice ht h with ⟨rfl, _⟩ | ⟨a, len, cap, m, n, D, Pl, rfl, hb, hl, hm, hmm, rfl, hx⟩
  · exact ⟨none, 0, [], rfl, Rd.nil _ _, fun _ h => by simp at h, by simp⟩
  · have hlm : len ≤ m := by rw [hmm]; split <;> omega
    have key : ∀ i, i < len → ∃ ns : List Int, WfK ks ns ∧ ∀ r, r < ks.length → w.cell? (a.add (i * ks.length + r)) = (cellsK ks ns)[r]? := fun i hi => by
      obtain ⟨cs', h1, h2⟩ := hx i (by omega)
      obtain ⟨ns, rfl, hw⟩ := flat_open hB hC h2
      obtain ⟨_, hlen, hc⟩ := World.cells?_some h1
      refine ⟨ns, hw, fun r hr => ?_⟩
      have := hc r (by omega)
      rw [hC, Addr.add_add] at this
      exact this
    have hex : ∀ i, ∃ ns : List Int, i < len → WfK ks ns ∧ ∀ r, r < ks.length → w.cell? (a.add (i * ks.length + r)) = (cellsK ks ns)[r]? := fun i => by
      by_cases hi : i < len
      · obtain ⟨ns, h1⟩ := key i hi; exact ⟨ns, fun _ => h1⟩
      · exact ⟨[], fun h => absurd h hi⟩
    let V := fun i => Classical.choose (hex i)
    have hV : ∀ i, i < len → WfK ks (V i) ∧ ∀ r, r < ks.length → w.cell? (a.add (i * ks.length + r)) = (cellsK ks (V i))[r]? := fun i => Classical.choose_spec (hex i)
    have hll : ((List.range len).map fun i => of (V i)).length = len := by simp
    refine ⟨some a, cap, (List.range len).map fun i => of (V i), by rw [hll], rd_rows _ fun i hi r hr => ?_, fun y hy => ?_, by rw [hll]; omega⟩
    · rw [hll] at hi
      obtain ⟨h1, h2⟩ := hV i hi
      rw [← hsz] at hr ⊢
      rw [h2 r hr]
      have : ((List.range len).map fun i => of (V i)).getD i F.dflt = of (V i) := by simp [List.getD_eq_getElem?_getD, hi]
      rw [this, hof _ h1]
    · obtain ⟨i, hi, rfl⟩ := List.mem_map.1 hy
      exact ⟨V i, (hV i (by simpa using hi)).1, rfl⟩
end
end Go.Fw
