/- Bits of masks of kinds. Plain Lean. -/
import Derived.Test.YtfodpcpclmnbkaaDoorZPq
set_option linter.unusedSimpArgs false
set_option linter.unusedVariables false
namespace Go.Proofs.YtfodpcpclmnbkaaDoor
open Go.Fw Go.RowKit
theorem wrap32 {n : Nat} (h : n < 4294967296) : IntKind.u32.wrap (n : Int) = n := by
  have : IntKind.u32.wrap (n : Int) = (n : Int) % 4294967296 := rfl
  rw [this]; omega
theorem bor32 {a b : Nat} (ha : a < 4294967296) (hb : b < 4294967296) : borK .u32 (a : Int) (b : Int) = ((a ||| b : Nat) : Int) := by
  unfold borK
  have h1 : (BitVec.ofInt IntKind.u32.bits (a : Int) ||| BitVec.ofInt IntKind.u32.bits (b : Int)).toNat = a ||| b := by
    show (BitVec.ofInt 32 (a : Int) ||| BitVec.ofInt 32 (b : Int)).toNat = a ||| b
    rw [BitVec.toNat_or]
    have e1 : (BitVec.ofInt 32 (a : Int)).toNat = a := by simp; omega
    have e2 : (BitVec.ofInt 32 (b : Int)).toNat = b := by simp; omega
    rw [e1, e2]
  rw [h1]
  exact wrap32 (Nat.or_lt_two_pow (n := 32) ha hb)
theorem band32 {a b : Nat} (ha : a < 4294967296) (hb : b < 4294967296) : bandK .u32 (a : Int) (b : Int) = ((a &&& b : Nat) : Int) := by
  unfold bandK
  have h1 : (BitVec.ofInt IntKind.u32.bits (a : Int) &&& BitVec.ofInt IntKind.u32.bits (b : Int)).toNat = a &&& b := by
    show (BitVec.ofInt 32 (a : Int) &&& BitVec.ofInt 32 (b : Int)).toNat = a &&& b
    rw [BitVec.toNat_and]
    have e1 : (BitVec.ofInt 32 (a : Int)).toNat = a := by simp; omega
    have e2 : (BitVec.ofInt 32 (b : Int)).toNat = b := by simp; omega
    rw [e1, e2]
  rw [h1]
  exact wrap32 (Nat.lt_of_le_of_lt Nat.and_le_left ha)
theorem shr32 (n i : Nat) (hi : i ≤ 32) : ((n : Nat) : Int).fdiv (2 ^ (min ((i : Nat) : Int).toNat IntKind.u32.bits)) = ((n / 2 ^ i : Nat) : Int) := by
  rw [show min ((i : Nat) : Int).toNat IntKind.u32.bits = i from by
    rw [Int.toNat_natCast]; show min i 32 = i; omega]
  rw [Int.fdiv_eq_ediv_of_nonneg _ (by exact Int.le_of_lt (Int.pow_pos (by decide)))]
  rw [Int.natCast_ediv, Int.natCast_pow]; rfl
theorem shl32 (c : Nat) (h : c < 11) : IntKind.u32.wrap (1 * 2 ^ (min ((c : Nat) : Int).toNat IntKind.u32.bits)) = ((2 ^ c : Nat) : Int) := by
  rw [shl_bit32 c h, Int.natCast_pow]; rfl
/-- The bit of a kind, as a natural number. -/
def bitN (k : Int) : Nat := if 1 ≤ k ∧ k ≤ 10 then 2 ^ k.toNat else 0
theorem bitK_N (k : Int) : bitK k = (bitN k : Int) := by
  unfold bitK bitN
  split
  · rw [Int.natCast_pow]; rfl
  · rfl
theorem bitN_lt (k : Int) : bitN k < 2048 := by
  unfold bitN
  split
  · exact Nat.lt_of_le_of_lt (Nat.pow_le_pow_right (by decide) (show k.toNat ≤ 10 by omega)) (by decide)
  · decide
theorem bitN_bit (k : Int) (j : Nat) : (bitN k).testBit j = decide (1 ≤ k ∧ k ≤ 10 ∧ k = (j : Int)) := by
  unfold bitN
  split
  · rename_i h
    rw [Nat.testBit_two_pow]
    exact decide_eq_decide.2 (by omega)
  · rw [Nat.zero_testBit]
    exact (decide_eq_false (by omega)).symm
/-- Whether the kind is in the mask. -/
def inM (k : Int) (m : Nat) : Prop := 1 ≤ k ∧ k ≤ 10 ∧ m / 2 ^ k.toNat % 2 = 1
instance (k : Int) (m : Nat) : Decidable (inM k m) := by unfold inM; infer_instance
theorem inMask_iff {m : Nat} (hm : m < 4294967296) (c : Comp) : inMask (m : Int) c = decide (inM c.kind m) := by
  unfold inMask inM
  rw [bitK_N, band32 (Nat.lt_trans (bitN_lt _) (by decide)) hm]
  refine decide_eq_decide.2 ⟨fun h => ?_, fun ⟨h1, h2, h3⟩ h => ?_⟩
  · obtain ⟨i, hi⟩ := Nat.exists_testBit_of_ne_zero (x := bitN c.kind &&& m) (fun e => h (by rw [e]; rfl))
    rw [Nat.testBit_and, bitN_bit, Bool.and_eq_true, decide_eq_true_eq] at hi
    obtain ⟨⟨h1, h2, h3⟩, h4⟩ := hi
    refine ⟨h1, h2, ?_⟩
    rw [Nat.testBit_eq_decide_div_mod_eq, decide_eq_true_eq] at h4
    rw [h3, Int.toNat_natCast]; exact h4
  · have h0 : bitN c.kind &&& m = 0 := by exact_mod_cast h
    have hb : (bitN c.kind &&& m).testBit c.kind.toNat = true := by
      rw [Nat.testBit_and, bitN_bit, Nat.testBit_eq_decide_div_mod_eq, decide_eq_true h3, decide_eq_true (by omega)]; rfl
    rw [h0, Nat.zero_testBit] at hb
    cases hb
/-- The mask of an entity, as a natural number. -/
def maskN (cs : List Comp) : Nat := cs.foldl (fun m c => m ||| bitN c.kind) 0
theorem maskG (cs : List Comp) : ∀ a : Nat, a < 2048 → cs.foldl (fun m c => borK .u32 m (bitK c.kind)) (a : Int) = ((cs.foldl (fun m c => m ||| bitN c.kind) a : Nat) : Int) ∧ cs.foldl (fun m c => m ||| bitN c.kind) a < 2048 ∧
    ∀ j, (cs.foldl (fun m c => m ||| bitN c.kind) a).testBit j = (a.testBit j || cs.any fun c => decide (1 ≤ c.kind ∧ c.kind ≤ 10 ∧ c.kind = (j : Int))) := by
  induction cs with
  | nil => exact fun a ha => ⟨rfl, ha, fun j => by simp⟩
  | cons c cs ih =>
    intro a ha
    have h2 : a ||| bitN c.kind < 2048 := Nat.or_lt_two_pow (n := 11) ha (bitN_lt _)
    have hi := ih (a ||| bitN c.kind) h2
    rw [List.foldl_cons, List.foldl_cons, bitK_N, bor32 (Nat.lt_trans ha (by decide)) (Nat.lt_trans (bitN_lt _) (by decide))]
    refine ⟨hi.1, hi.2.1, fun j => ?_⟩
    rw [hi.2.2 j, Nat.testBit_or, bitN_bit, List.any_cons, Bool.or_assoc]
theorem maskC_N (cs : List Comp) : maskC cs = (maskN cs : Int) := (maskG cs 0 (by decide)).1
theorem maskN_lt (cs : List Comp) : maskN cs < 2048 := (maskG cs 0 (by decide)).2.1
theorem maskN_bit (cs : List Comp) (j : Nat) : (maskN cs).testBit j = cs.any fun c => decide (1 ≤ c.kind ∧ c.kind ≤ 10 ∧ c.kind = (j : Int)) := by
  have h := (maskG cs 0 (by decide)).2.2 j
  rw [Nat.zero_testBit, Bool.false_or] at h
  exact h
def anyK (cs : List Comp) (k : Nat) : Bool := cs.any fun c => decide (c.kind = (k : Int))
/-- The bits of the kinds up to one. -/
def sumN (cs : List Comp) : Nat → Nat
  | 0 => 0
  | n + 1 => sumN cs n + if anyK cs (n + 1) then 2 ^ (n + 1) else 0
theorem sumN_lt (cs : List Comp) : ∀ n, sumN cs n < 2 ^ (n + 1)
  | 0 => show 0 < 2 by omega
  | n + 1 => by
    have := sumN_lt cs n
    have e : 2 ^ (n + 1 + 1) = 2 * 2 ^ (n + 1) := by rw [Nat.pow_succ (n := 2) (m := n + 1)]; omega
    unfold sumN
    split <;> omega
theorem sumN_bit (cs : List Comp) (j : Nat) : ∀ n, (sumN cs n).testBit j = (decide (1 ≤ j ∧ j ≤ n) && anyK cs j)
  | 0 => by
    rw [decide_eq_false (by omega)]
    exact Nat.zero_testBit j
  | n + 1 => by
    have ih := sumN_bit cs j n
    unfold sumN
    by_cases ha : anyK cs (n + 1) = true
    · rw [if_pos ha, Nat.add_comm]
      by_cases h1 : j < n + 1
      · rw [Nat.testBit_two_pow_add_gt h1, ih]
        congr 1
        exact decide_eq_decide.2 (by omega)
      · by_cases h2 : j = n + 1
        · subst h2
          rw [Nat.testBit_two_pow_add_eq, ih, ha, decide_eq_false (by omega), decide_eq_true (by omega)]; rfl
        · rw [decide_eq_false (by omega), Bool.false_and]
          refine Nat.testBit_lt_two_pow (Nat.lt_of_lt_of_le (?_ : _ < 2 ^ (n + 1 + 1)) (Nat.pow_le_pow_right (by decide) (by omega)))
          have := sumN_lt cs n
          have e : 2 ^ (n + 1 + 1) = 2 * 2 ^ (n + 1) := by rw [Nat.pow_succ (n := 2) (m := n + 1)]; omega
          omega
    · rw [if_neg ha, Nat.add_zero, ih]
      by_cases h2 : j = n + 1
      · subst h2
        rw [Bool.not_eq_true] at ha
        rw [ha, Bool.and_false, Bool.and_false]
      · congr 1
        exact decide_eq_decide.2 (by omega)
theorem mask_sum (cs : List Comp) : maskN cs = sumN cs 10 := by
  refine Nat.eq_of_testBit_eq fun j => ?_
  rw [maskN_bit, sumN_bit]
  unfold anyK
  by_cases h : 1 ≤ j ∧ j ≤ 10
  · rw [decide_eq_true h, Bool.true_and]
    congr 1
    funext c
    exact decide_eq_decide.2 (by omega)
  · rw [decide_eq_false h, Bool.false_and, List.any_eq_false]
    intro c _
    rw [decide_eq_true_eq]
    omega
theorem mask_all {m : Nat} (hm : m < 4294967296) (cs : List Comp) : bandK .u32 (maskC cs) (m : Int) = (m : Int) ↔ ∀ i, i < 32 → ¬(m / 2 ^ i % 2 = 1 ∧ maskN cs / 2 ^ i % 2 = 0) := by
  rw [maskC_N, band32 (Nat.lt_trans (maskN_lt cs) (by decide)) hm]
  constructor
  · rintro h i hi ⟨h1, h2⟩
    have h : maskN cs &&& m = m := by exact_mod_cast h
    have hb : (maskN cs &&& m).testBit i = m.testBit i := by rw [h]
    rw [Nat.testBit_and, Nat.testBit_eq_decide_div_mod_eq (x := m), decide_eq_true h1, Nat.testBit_eq_decide_div_mod_eq, decide_eq_false (by omega)] at hb
    cases hb
  · intro h
    have : maskN cs &&& m = m := by
      refine Nat.eq_of_testBit_eq fun i => ?_
      rw [Nat.testBit_and]
      by_cases hi : i < 32
      · rw [Nat.testBit_eq_decide_div_mod_eq, Nat.testBit_eq_decide_div_mod_eq]
        have := h i hi
        by_cases h1 : m / 2 ^ i % 2 = 1
        · rw [decide_eq_true h1, decide_eq_true (by have := Nat.mod_two_eq_zero_or_one (maskN cs / 2 ^ i); omega)]; rfl
        · rw [decide_eq_false h1, Bool.and_false]
      · rw [Nat.testBit_lt_two_pow (x := m) (Nat.lt_of_lt_of_le hm (Nat.pow_le_pow_right (n := 2) (by decide) (show 32 ≤ i by omega))), Bool.and_false]
    rw [this]
end Go.Proofs.YtfodpcpclmnbkaaDoor
