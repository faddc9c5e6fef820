/- Layer 24: the entities that stand in the places of those that are not seen. Plain Lean. -/
import Derived.Test.YtjefoecnciepmaaDoorZPy24
set_option linter.unusedSimpArgs false
set_option linter.unusedVariables false
namespace Go.Proofs.YtjefoecnciepmaaDoor
open Go.Fw Go.RowKit
theorem bclr16_bit {a : Nat} (ha : a < 65536) (i : Nat) (hi : i < 16) : (bclrK .u16 (a : Int) 8).toNat.testBit i = (a.testBit i && decide (i ≠ 3)) := by
  unfold bclrK
  have hb : (BitVec.ofInt IntKind.u16.bits (a : Int) &&& ~~~(BitVec.ofInt IntKind.u16.bits 8)).toNat < 65536 := (BitVec.ofInt 16 (a : Int) &&& ~~~(BitVec.ofInt 16 8)).isLt
  rw [wrap16 hb, Int.toNat_natCast]
  show (BitVec.ofInt 16 (a : Int) &&& ~~~(BitVec.ofInt 16 8)).toNat.testBit i = _
  rw [BitVec.testBit_toNat, BitVec.getLsbD_and, BitVec.getLsbD_not, ← BitVec.testBit_toNat, ← BitVec.testBit_toNat]
  have e1 : (BitVec.ofInt 16 (a : Int)).toNat = a := by simp; omega
  have e2 : (BitVec.ofInt 16 (8 : Int)).toNat = 2 ^ 3 := by decide
  rw [e1, e2, Nat.testBit_two_pow, decide_eq_true hi, Bool.true_and]
  congr 1
  by_cases h : i = 3
  · subst h; rfl
  · rw [decide_eq_true h, decide_eq_false (fun e => h e.symm)]; rfl
theorem bclr16_in {a : Nat} : 0 ≤ bclrK .u16 (a : Int) 8 ∧ bclrK .u16 (a : Int) 8 ≤ 65535 := by
  unfold bclrK
  have hb : (BitVec.ofInt IntKind.u16.bits (a : Int) &&& ~~~(BitVec.ofInt IntKind.u16.bits 8)).toNat < 65536 := (BitVec.ofInt 16 (a : Int) &&& ~~~(BitVec.ofInt 16 8)).isLt
  rw [wrap16 hb]
  omega
/-- Nobody's form, which a client does not see. -/
def othF (cn : Nat) (f : Form) : Form :=
  if (bclrK .u16 f.bits 8).toNat.testBit 0 then ⟨borK .u16 (bclrK .u16 f.bits 8) 16, f.x, f.y, f.owner, borK .u8 f.hide (2 ^ cn), f.n⟩ else ⟨bclrK .u16 f.bits 8, f.x, f.y, f.owner, f.hide, f.n⟩
section
variable {cn : Nat} {f : Form} {id : Int}
theorem othF_ok (hf : f.Ok) (hc : cn < 8) : (othF cn f).Ok := by
  obtain ⟨a, ha⟩ : ∃ a : Nat, f.bits = a := ⟨f.bits.toNat, by have := hf.bits; omega⟩
  have hb := bclr16_in (a := a)
  rw [← ha] at hb
  unfold othF
  split
  · refine ⟨or_bits_in (m := 16) hb (by omega), hf.x, hf.y, hf.owner, ?_, hf.n⟩
    obtain ⟨h, hh⟩ : ∃ h : Nat, f.hide = h := ⟨f.hide.toNat, by have := hf.hide; omega⟩
    show 0 ≤ borK .u8 f.hide (2 ^ cn) ∧ borK .u8 f.hide (2 ^ cn) ≤ 255
    rw [hh]
    exact bor8_in h (by have := hf.hide; omega) cn hc
  · exact ⟨hb, hf.x, hf.y, hf.owner, hf.hide, hf.n⟩
theorem othF_owns (hf : f.Ok) (ct : Int) : ownsE ct (formE id (othF cn f)) = false := by
  obtain ⟨a, ha⟩ : ∃ a : Nat, f.bits = a := ⟨f.bits.toNat, by have := hf.bits; omega⟩
  have hb := bclr16_in (a := a)
  have h3 := bclr16_bit (a := a) (by have := hf.bits; omega) 3 (by omega)
  rw [← ha] at hb h3
  rw [formE_owns]
  have : hasBit (othF cn f) 3 = false := by
    unfold hasBit othF
    split
    · simp only
      rw [show borK .u16 (bclrK .u16 f.bits 8) 16 = (((bclrK .u16 f.bits 8).toNat ||| 16 : Nat) : Int) from or_bits (m := 16) hb (by omega), Int.toNat_natCast, Nat.testBit_or, h3, show (16 : Nat) = 2 ^ 4 from rfl, Nat.testBit_two_pow]
      simp
    · simp only
      rw [h3]; simp
  rw [this]; rfl
/-- It is not seen: it has no place, or it is hidden. -/
theorem othF_sees (hf : f.Ok) (hc : cn < 8) (ps : List Pt) : seesE (cn + 1) ps (formE id (othF cn f)) = false := by
  obtain ⟨a, ha⟩ : ∃ a : Nat, f.bits = a := ⟨f.bits.toNat, by have := hf.bits; omega⟩
  have hb := bclr16_in (a := a)
  rw [← ha] at hb
  unfold seesE
  rw [othF_owns hf, Bool.false_or]
  by_cases h0 : (bclrK .u16 f.bits 8).toNat.testBit 0 = true
  · have : hidE (cn + 1) (formE id (othF cn f)) = true := by
      rw [formE_hid]
      unfold othF
      rw [if_pos h0]
      unfold hasBit
      simp only
      obtain ⟨h, hh⟩ : ∃ h : Nat, f.hide = h := ⟨f.hide.toNat, by have := hf.hide; omega⟩
      have h8 := bor8_bit h (by have := hf.hide; omega) cn hc (cn + 1) (by omega)
      rw [hh, h8, show borK .u16 (bclrK .u16 f.bits 8) 16 = (((bclrK .u16 f.bits 8).toNat ||| 16 : Nat) : Int) from or_bits (m := 16) hb (by omega), Int.toNat_natCast, Nat.testBit_or, show (16 : Nat) = 2 ^ 4 from rfl, Nat.testBit_two_pow]
      simp
    rw [this]; rfl
  · have : pointE (formE id (othF cn f)) = none := by
      rw [formE_point]
      unfold othF
      rw [if_neg h0]
      unfold hasBit
      simp only
      rw [if_neg h0]
    unfold nearE
    rw [this]; simp
end
end Go.Proofs.YtjefoecnciepmaaDoor
