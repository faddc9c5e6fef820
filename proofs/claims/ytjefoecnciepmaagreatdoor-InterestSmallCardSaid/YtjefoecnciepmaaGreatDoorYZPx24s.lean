/- InterestSmall answers true, whatever the input; store.ranges reads as the program's text lays it (the tied card). -/
import Derived.Test.YtjefoecnciepmaaGreatDoorYAa
import Derived.Test.YtjefoecnciepmaaGreatDoorYAb
import Derived.Test.YtjefoecnciepmaaGreatDoorYAc
import Derived.Test.YtjefoecnciepmaaGreatDoorYAd
import Derived.Test.YtjefoecnciepmaaGreatDoorYAe
import Derived.Test.YtjefoecnciepmaaGreatDoorYAf
import Derived.Test.YtjefoecnciepmaaGreatDoorYAg
import Derived.Test.YtjefoecnciepmaaGreatDoorYAh
import Derived.Test.YtjefoecnciepmaaGreatDoorYAi
import Derived.Test.YtjefoecnciepmaaGreatDoorYAj
import Derived.Test.YtjefoecnciepmaaGreatDoorYAk
import Derived.Test.YtjefoecnciepmaaGreatDoorYAl
import Derived.Test.YtjefoecnciepmaaGreatDoorCards
import Derived.Test.YtjefoecnciepmaaGreatDoorTie
import Derived.ProofKit
import Derived.LaidMore
import Derived.OpenShut
import Derived.SevenTiedAt
set_option linter.unusedSimpArgs false
set_option linter.unusedVariables false
/- InterestSmall answers true, whatever the input; store.ranges reads as the program's text lays it (the tied card). -/
namespace Go.Proofs.YtjefoecnciepmaaGreatDoor
open Go.Fw Go.RowKit Go.ChangeShapes Go.WideShapes Go.ChangeAt
theorem small_door (os : Os) (args : Array Value) : laidMetH Tryz.prog laidR ((World.doorLaid Tryz.prog 400 os).forCall (fun _ _ => 0) ⟨#[], args, []⟩).memory :=
  laidMetH_of_parts3 (fuel := 8) (laidMet_of_run' 8 (by kernel_rfl) (by kernel_rfl)) (by kernel_rfl) (by kernel_rfl)
set_option maxRecDepth 100000 in
theorem small_lifted (os : Os) (started : os.Started) (H : Type) (enc : TypeId × Value → H) :
    ReturnsInHanded {} Tryz.checked os 4 .any (fun w args => (Rows.interestSmallSpec.pre enc Tryz.prog Tryz.f4 [] false w args ∧ laidMetH Tryz.prog laidR w) ∧ sizedMet enc Tryz.prog Tryz.f4 (OpenSpec.ofChange Rows.interestSmallSpec) false w args)
      (Rows.interestSmallSpec.post enc Tryz.prog Tryz.f4 false true false false) := by
  refine returnsInHanded_of_change_and (C := Tryz.checked) (X := fun w _ => laidMetH Tryz.prog laidR w) (fun _ _ _ hh h => h.of_heap hh) ownK started (by kernel_rfl) Tryz.func4
    (ChangeSpec.witness_shaped (enc := enc) (C := Tryz.checked) (os := os) (X := fun w _ => laidMetH Tryz.prog laidR w) false (World.doorLaid Tryz.prog 400 os) #[] 8 rfl (World.shaped_of_RefB (by kernel_rfl) (by kernel_rfl)) (by kernel_rfl) (by kernel_rfl) (by kernel_rfl) (small_door os _)) ?_
  intro W base args ds gs before hval0 hW _ _ hL _
  have hG := glob_of hL
  have hval : ∀ (j : Nat) t v, Tryz.f4.params[j]? = some t → args[j]? = some v → Value.okWide Tryz.prog W .any base t v := hval0
  have hW' := hW
  obtain ⟨p, q, hA0, hV, rfl, _, _⟩ := hW
  have hA : DataW.TrodAll enc Tryz.prog W 0 (fun _ => true) true Tryz.f4.params.toList args.toList ds p := hA0
  rw [Tryz.params4] at hA hval
  obtain ⟨h1, rfl, rfl⟩ := trodAll_nil hA
  obtain rfl : args = #[] := by cases args; simp_all
  refine ((smallLaw W hG).2).mono fun e W' ⟨v, he, hR, ⟨hv, _⟩, hext⟩ => ?_
  subst hv
  exact ⟨_, he, law_post (P := Tryz.prog) (tb := 4) laidK (by kernel_rfl) rfl Tryz.underlying4 rfl ⟨rfl, rfl, rfl⟩ hW' hext.ext⟩
theorem small_said : Rows.InterestSmallSaid :=
  OpenClaim.holds_of_wide 4 Tryz.f4 rfl rfl rfl rfl rfl rfl rfl ⟨rfl, rfl, rfl, rfl, rfl⟩ rfl rfl rfl rfl rfl (by kernel_rfl) Tryz.func4 (by kernel_rfl)
    (of_decide_eq_true (by kernel_rfl)) (by unfold Func.isWrapper; first | (rw [if_pos (by decide +kernel)]; kernel_rfl) | (rw [if_neg (by decide +kernel)]; exact ⟨rfl, rfl⟩))
    (fun os started H enc _ => small_lifted os started H enc)
theorem small_holds : Rows.InterestSmallCardSaid :=
  Claim7.holds_tied_plain_at .later [] [.data] true (true, "0482b422069a9a34dbdb0c296f5b58092532491fc7c0a61cf399d3dba1acda25") false
    small_said (fun _ h => by cases h) (by kernel_rfl) (fun _ h => by cases h) interestSmall_row_tie rfl ⟨rfl, rfl⟩ (by kernel_rfl) rfl
    (fun f fn hf hfn => by
      obtain rfl : f = 4 := Option.some.inj ((show Tryz.prog.funcNamed "marches/marcheslaw24.InterestSmall" = some 4 by kernel_rfl).symm.trans hf) |>.symm
      obtain rfl : fn = Tryz.f4 := (Option.some.inj (Tryz.func4.symm.trans hfn)).symm
      exact ⟨by kernel_rfl, fun j t ht => by
        rw [Tryz.params4] at ht
        exact absurd ht (by simp)⟩)
    (by kernel_rfl)
end Go.Proofs.YtjefoecnciepmaaGreatDoor

