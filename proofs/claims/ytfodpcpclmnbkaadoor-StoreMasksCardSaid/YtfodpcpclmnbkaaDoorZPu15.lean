/- Layer 15: the worlds that Built makes. Plain Lean. -/
import Derived.Test.YtfodpcpclmnbkaaDoorZQb
set_option linter.unusedSimpArgs false
set_option linter.unusedVariables false
namespace Go.Proofs.YtfodpcpclmnbkaaDoor
open Go.Fw Go.RowKit
abbrev U16 := NumK .u16
def bComp (n k : Nat) : Comp :=
  if k = 4 then ⟨4, 1 + ((n / 2048 % 8 : Nat) : Int), 0, 0, 0⟩ else if k = 3 then ⟨3, 1 + ((n / 2048 % 8 : Nat) : Int), 1 + ((n / 2048 % 8 : Nat) : Int), ((n / 16384 % 2 : Nat) : Int), 0⟩ else ⟨k, 2 * ((n / 2048 % 4 : Nat) : Int), 0, 0, 0⟩
def bComps (n j : Nat) : List Comp := ((List.range j).filter fun i => n.testBit i).map fun i => bComp n (i + 1)
theorem bComps_next (n j : Nat) : bComps n (j + 1) = bComps n j ++ (if n.testBit j then [bComp n (j + 1)] else []) := by
  unfold bComps
  rw [List.range_succ, List.filter_append, List.map_append]
  congr 1
  by_cases h : n.testBit j = true
  · rw [if_pos h, List.filter_cons_of_pos (by simpa using h)]; rfl
  · rw [if_neg h, List.filter_cons_of_neg (by simpa using h)]; rfl
theorem bComps_len (n j : Nat) : (bComps n j).length ≤ j := by
  unfold bComps
  rw [List.length_map]
  have := List.length_filter_le (fun i => n.testBit i) (List.range j)
  rwa [List.length_range] at this
def bEnt (i n : Nat) : Ent1 := ⟨3 * (i : Int) + 1 + ((n / 32768 : Nat) : Int), bComps n 10⟩
def builtN (l : List U16) (k : Nat) : List Ent1 := (List.range k).map fun i => bEnt i (l.getD i Flat.dflt).n.toNat
def builtL (l : List U16) : List Ent1 := builtN l (min l.length 20)
theorem builtN_next (l : List U16) (k : Nat) : builtN l (k + 1) = builtN l k ++ [bEnt k (l.getD k Flat.dflt).n.toNat] := by
  unfold builtN
  rw [List.range_succ, List.map_append]; rfl
theorem builtN_len (l : List U16) (k : Nat) : (builtN l k).length = k := by unfold builtN; simp
def R16 (l : List U16) : Prop := ∀ x ∈ l, 0 ≤ x.n ∧ x.n ≤ 65535
theorem R16.at {l : List U16} (h : R16 l) (k : Nat) : ∃ n : Nat, (l.getD k Flat.dflt).n = n ∧ n ≤ 65535 := by
  by_cases hk : k < l.length
  · have := h _ (getD_mem (d := Flat.dflt) hk)
    exact ⟨(l.getD k Flat.dflt).n.toNat, by omega, by omega⟩
  · refine ⟨0, ?_, by omega⟩
    simp only [List.getD_eq_getElem?_getD, List.getElem?_eq_none (Nat.le_of_not_lt hk), Option.getD_none]
    rfl
theorem bComp_kind (n : Nat) {k : Nat} : (bComp n k).kind = k := by
  unfold bComp
  split
  · rename_i h; rw [h]; rfl
  · split
    · rename_i h; rw [h]; rfl
    · rfl
theorem bComp_fits (n : Nat) {k : Nat} (h : 1 ≤ k ∧ k ≤ 10) : Fits (bComp n k) := by
  have e : bComp n k = bComp n k := rfl
  obtain ⟨h1, h2⟩ := h
  have h8 : n / 2048 % 8 < 8 := Nat.mod_lt _ (by omega)
  have h4 : n / 2048 % 4 < 4 := Nat.mod_lt _ (by omega)
  have h22 : n / 16384 % 2 < 2 := Nat.mod_lt _ (by omega)
  unfold bComp
  generalize n / 2048 % 8 = a at *
  generalize n / 2048 % 4 = b at *
  generalize n / 16384 % 2 = d at *
  have ha : ∀ a < 8, Fits ⟨4, 1 + ((a : Nat) : Int), 0, 0, 0⟩ := by decide
  have hb : ∀ a < 8, ∀ d < 2, Fits ⟨3, 1 + ((a : Nat) : Int), 1 + ((a : Nat) : Int), ((d : Nat) : Int), 0⟩ := by decide
  have hc : ∀ b < 4, ∀ k < 11, (1 ≤ k ∧ k ≠ 3 ∧ k ≠ 4) → Fits ⟨((k : Nat) : Int), 2 * ((b : Nat) : Int), 0, 0, 0⟩ := by decide
  split
  · exact ha a h8
  · split
    · exact hb a h8 d h22
    · rename_i h3' h4'
      exact hc b h4 k (by omega) ⟨h1, h4', h3'⟩
theorem bComps_up (n j : Nat) : Rising kindC (bComps n j) := by
  unfold bComps Rising
  rw [List.pairwise_map]
  refine List.Pairwise.filter _ ?_
  refine List.Pairwise.imp ?_ List.pairwise_lt_range
  intro a b h
  show (bComp n (a + 1)).kind < (bComp n (b + 1)).kind
  rw [bComp_kind, bComp_kind]
  omega
theorem bEnt_right {i n : Nat} (hi : i < 20) (hn : n ≤ 65535) : RightE (bEnt i n) := by
  have : n / 32768 ≤ 1 := by omega
  refine ⟨by show 1 ≤ 3 * (i : Int) + 1 + ((n / 32768 : Nat) : Int) ∧ 3 * (i : Int) + 1 + ((n / 32768 : Nat) : Int) ≤ 65536; omega, bComps_up n 10, fun c hc => ?_⟩
  obtain ⟨j, hj, rfl⟩ := List.mem_map.1 hc
  have := List.mem_range.1 (List.mem_filter.1 hj).1
  exact bComp_fits n (by omega)
theorem built_mem {l : List U16} {k : Nat} {e : Ent1} (h : e ∈ builtN l k) : ∃ i, i < k ∧ e = bEnt i (l.getD i Flat.dflt).n.toNat := by
  obtain ⟨i, hi, rfl⟩ := List.mem_map.1 h
  exact ⟨i, List.mem_range.1 hi, rfl⟩
theorem built_valid {l : List U16} (h : R16 l) : ValidW 5 (builtL l) := by
  refine ⟨by omega, by unfold builtL; rw [builtN_len]; omega, ?_, fun e he => ?_⟩
  · unfold builtL builtN Rising
    rw [List.pairwise_map]
    refine List.Pairwise.imp ?_ List.pairwise_lt_range
    intro a b hab
    obtain ⟨m, h1, h2⟩ := h.at a
    have e1 : (l.getD a Flat.dflt).n.toNat / 32768 ≤ 1 := by omega
    show 3 * (a : Int) + 1 + (((l.getD a Flat.dflt).n.toNat / 32768 : Nat) : Int) < 3 * (b : Int) + 1 + (((l.getD b Flat.dflt).n.toNat / 32768 : Nat) : Int)
    omega
  · obtain ⟨i, hi, rfl⟩ := built_mem he
    obtain ⟨m, h1, h2⟩ := h.at i
    exact bEnt_right (by omega) (by omega)
theorem built_comps {l : List U16} {e : Ent1} (h : e ∈ builtL l) : e.comps.length ≤ 10 := by
  obtain ⟨i, hi, rfl⟩ := built_mem h
  exact bComps_len _ 10
theorem built_sz {L : List EntP} {es : List Ent1} {m : Nat} (h : ents L = es) (hn : es.length ≤ 100) (hc : ∀ e ∈ es, e.comps.length ≤ m) (hm : m ≤ 1000) : Sz L ∧ L.length ≤ 1000000 ∧ (∀ x ∈ L, x.e.comps.length ≤ 100000) ∧ ∀ x ∈ L, x.e.comps.length ≤ 1000000 := by
  have hl : L.length = es.length := by rw [← ents_len, h]
  have hx : ∀ x ∈ L, x.e.comps.length ≤ m := fun x hx => hc _ (by rw [← h]; exact List.mem_map_of_mem hx)
  exact ⟨⟨by omega, fun x h => by have := hx x h; omega⟩, by omega, fun x h => by have := hx x h; omega, fun x h => by have := hx x h; omega⟩
end Go.Proofs.YtfodpcpclmnbkaaDoor
