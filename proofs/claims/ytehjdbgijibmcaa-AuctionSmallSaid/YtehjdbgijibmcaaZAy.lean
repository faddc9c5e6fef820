/- Layer 34 (auction): a lot is opened, removed, bid for. Plain Lean. -/
import Derived.Test.YtehjdbgijibmcaaZAt
set_option linter.unusedSimpArgs false
set_option linter.unusedVariables false
namespace Go.Proofs.Ytehjdbgijibmcaa
open Go.Fw Go.RowKit
structure Opened (h : House) (a b c d e : Int) (nl led : List Lot) (ml : List Mv) : Prop where
  len : nl.length = h.lots.length + 1
  len2 : nl.length ≤ 32
  len3 : led.length ≤ 33
  at_ : nl.getD h.lots.length Flat.dflt = ⟨h.last + 1, a, b, c, d, h.tick + e, 0, 0, 0⟩
  opens : openH h a b c d e = (⟨h.tick, h.last + 1, nl⟩, [⟨a, 0, b, c⟩], 0)
  back : cancelH ⟨h.tick, h.last + 1, nl⟩ (h.last + 1) a = (⟨h.tick, h.last + 1, h.lots⟩, [⟨0, a, b, c⟩], 0)
  other : ∀ o, o ≠ a → cancelH ⟨h.tick, h.last + 1, nl⟩ (h.last + 1) o = (house0, [], 344)
  gone : cancelH ⟨h.tick, h.last + 1, h.lots⟩ (h.last + 1) a = (house0, [], 6)
  bids : bidH ⟨h.tick, h.last + 1, nl⟩ (h.last + 1) (1 + a % 65536) d = (⟨h.tick, h.last + 1, led⟩, ml, 0)
  own : bidH ⟨h.tick, h.last + 1, nl⟩ (h.last + 1) a d = (house0, [], 340)
  led_ : cancelH ⟨h.tick, h.last + 1, led⟩ (h.last + 1) a = (house0, [], 343)
  low : bidH ⟨h.tick, h.last + 1, nl⟩ (h.last + 1) (1 + a % 65536) (d - 1) = (house0, [], if d = 1 then 2 else 341)
  ha : 1 ≤ a ∧ a ≤ 65536
  hd : 1 ≤ d ∧ d ≤ 2147483647
  he : 1 ≤ e ∧ e ≤ 10000
  hc : 1 ≤ c ∧ c ≤ 1000
def ledOf (h : House) (a b c d e : Int) : Lot := ⟨h.last + 1, a, b, c, d, max (h.tick + e) (h.tick + 20), 1 + a % 65536, d, d⟩
theorem opened {h : House} {a b c d e : Int} (he : (openH h a b c d e).2.2 = 0) : ∃ nl led ml, Opened h a b c d e nl led ml := by
  obtain ⟨hV, hticks, hR, hn, hl, hz⟩ := open_ok he
  have hVn := valid_iff.2 (open_valid hV hR rfl hn hl)
  have hids : ∀ y ∈ h.lots, y.id ≠ (newLot h a b c d e).id := fun y hy => by
    have := hV.lot y hy
    have e : (newLot h a b c d e).id = h.last + 1 := rfl
    omega
  have hVb : validH ⟨h.tick, h.last + 1, h.lots⟩ = true := valid_iff.2 ⟨hV.tick, by have := hV.last; show 0 ≤ h.last + 1 ∧ h.last + 1 ≤ _; omega, hV.len, fun y hy => by have := hV.lot y hy; exact ⟨this.1, by show y.id ≤ h.last + 1; omega, this.2.2⟩, hV.inc⟩
  have hsel : 1 ≤ a ∧ a ≤ 65536 := hR.seller
  have hcnt : 1 ≤ c ∧ c ≤ 1000 := hR.count
  have hres : 1 ≤ d ∧ d ≤ 2147483647 := hR.reserve
  have hw1 : 1 ≤ 1 + a % 65536 ∧ 1 + a % 65536 ≤ 65536 ∧ a ≠ 1 + a % 65536 := by omega
  have hmv : movesN [⟨0, a, b, c⟩] = [⟨0, a, b, c⟩] := by
    have : c ≠ 0 := by omega
    simp [movesN, this]
  have i1 : inB (1 + a % 65536) 1 65536 = true := inB_iff.2 ⟨hw1.1, hw1.2.1⟩
  have i2 : inB d 1 2147483647 = true := inB_iff.2 hres
  have i3 : inB a 1 65536 = true := inB_iff.2 hsel
  have r4 := bid_last hVn hids (1 + a % 65536) d
  have hb1 : bidLot (newLot h a b c d e) (1 + a % 65536) d = some ({ newLot h a b c d e with leader := 1 + a % 65536, most := d, price := d }, movesN [⟨1 + a % 65536, 0, 0, d⟩]) := by
    unfold bidLot
    rw [if_pos (by rfl), if_neg (by show ¬ d < d; omega)]; rfl
  rw [if_pos (by rw [i1, i2]; rfl), if_neg (by exact hw1.2.2), hb1] at r4
  simp only at r4
  have hid : (newLot h a b c d e).id = h.last + 1 := rfl
  have hVl := (kept_bid (by rw [r4]) (valid_iff.1 hVn)).valid
  rw [r4] at hVl
  have hids2 : ∀ y ∈ h.lots, y.id ≠ (ledOf h a b c d e).id := hids
  have hc := cancel_last (valid_iff.2 hVl) hids2 a
  have hld0 : ¬ (1 + a % 65536 = 0) := by omega
  refine ⟨h.lots ++ [newLot h a b c d e], h.lots ++ [ledOf h a b c d e], movesN [⟨1 + a % 65536, 0, 0, d⟩],
    ⟨by simp, by simp; omega, by simp; omega, by rw [getD_last]; rfl, hz, ?_, fun o ho => ?_, cancel_none hVb (fun y hy => by have := hids y hy; rw [hid] at this; exact this) a, r4, ?_, ?_, ?_, hsel, hres, hticks, hcnt⟩⟩
  · have := cancel_last hVn hids a
    rw [if_pos (by rfl), if_pos (by rfl)] at this
    rw [← hmv]
    exact this
  · have := cancel_last hVn hids o
    rw [if_neg (by exact fun e => ho e.symm)] at this
    exact this
  · have := bid_last hVn hids a d
    rw [if_pos (by rw [i3, i2]; rfl), if_pos (by rfl)] at this
    exact this
  · rw [if_pos (by rfl), if_neg (by exact hld0)] at hc
    exact hc
  · have := bid_last hVn hids (1 + a % 65536) (d - 1)
    rw [hid] at this
    rw [this]
    by_cases hd1 : d = 1
    · rw [if_neg (by rw [i1]; simp [inB]; omega), if_pos hd1]
    · have i4 : inB (d - 1) 1 2147483647 = true := inB_iff.2 (by omega)
      rw [if_pos (by rw [i1, i4]; rfl), if_neg (by exact hw1.2.2), if_neg hd1]
      have : bidLot (newLot h a b c d e) (1 + a % 65536) (d - 1) = none := by
        unfold bidLot
        rw [if_pos (by rfl), if_pos (by show d - 1 < d; omega)]
      rw [this]
end Go.Proofs.Ytehjdbgijibmcaa
