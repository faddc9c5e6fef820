/- Bits of small numbers. Plain Lean. -/
import Derived.Test.YtjefoecnciepmaaDoorZVn
set_option linter.unusedSimpArgs false
set_option linter.unusedVariables false
namespace Go.Fw
open Go.RowKit
theorem wrap16 {n : Nat} (h : n < 65536) : IntKind.u16.wrap (n : Int) = n := by
  have : IntKind.u16.wrap (n : Int) = (n : Int) % 65536 := rfl
  rw [this]; omega
theorem bor16 {a b : Nat} (ha : a < 65536) (hb : b < 65536) : borK .u16 (a : Int) (b : Int) = ((a ||| b : Nat) : Int) := by
  unfold borK
  have h1 : (BitVec.ofInt IntKind.u16.bits (a : Int) ||| BitVec.ofInt IntKind.u16.bits (b : Int)).toNat = a ||| b := by
    show (BitVec.ofInt 16 (a : Int) ||| BitVec.ofInt 16 (b : Int)).toNat = a ||| b
    rw [BitVec.toNat_or]
    have e1 : (BitVec.ofInt 16 (a : Int)).toNat = a := by simp; omega
    have e2 : (BitVec.ofInt 16 (b : Int)).toNat = b := by simp; omega
    rw [e1, e2]
  rw [h1]
  exact wrap16 (Nat.or_lt_two_pow (n := 16) ha hb)
theorem band16 {a b : Nat} (ha : a < 65536) (hb : b < 65536) : bandK .u16 (a : Int) (b : Int) = ((a &&& b : Nat) : Int) := by
  unfold bandK
  have h1 : (BitVec.ofInt IntKind.u16.bits (a : Int) &&& BitVec.ofInt IntKind.u16.bits (b : Int)).toNat = a &&& b := by
    show (BitVec.ofInt 16 (a : Int) &&& BitVec.ofInt 16 (b : Int)).toNat = a &&& b
    rw [BitVec.toNat_and]
    have e1 : (BitVec.ofInt 16 (a : Int)).toNat = a := by simp; omega
    have e2 : (BitVec.ofInt 16 (b : Int)).toNat = b := by simp; omega
    rw [e1, e2]
  rw [h1]
  exact wrap16 (Nat.lt_of_le_of_lt Nat.and_le_left ha)
theorem bit_shl : ∀ c < 8, IntKind.u8.wrap (1 * 2 ^ (min ((c : Nat) : Int).toNat IntKind.u8.bits)) = 2 ^ c := by decide +kernel
theorem bclr8_in : ∀ a < 256, ∀ c < 8, 0 ≤ bclrK .u8 ((a : Nat) : Int) (2 ^ c) ∧ bclrK .u8 ((a : Nat) : Int) (2 ^ c) ≤ 255 := by decide +kernel
theorem bor8_in : ∀ a < 256, ∀ c < 8, 0 ≤ borK .u8 ((a : Nat) : Int) (2 ^ c) ∧ borK .u8 ((a : Nat) : Int) (2 ^ c) ≤ 255 := by decide +kernel
theorem bclr8_bit : ∀ a < 256, ∀ c < 8, ∀ w < 9, (2 * bclrK .u8 ((a : Nat) : Int) (2 ^ c)).toNat.testBit w = (decide (w ≠ c + 1) && (2 * ((a : Nat) : Int)).toNat.testBit w) := by decide +kernel
theorem bor8_bit : ∀ a < 256, ∀ c < 8, ∀ w < 9, (2 * borK .u8 ((a : Nat) : Int) (2 ^ c)).toNat.testBit w = (decide (w = c + 1) || (2 * ((a : Nat) : Int)).toNat.testBit w) := by decide +kernel
end Go.Fw
