/- PartySmall answers true, whatever the input; no condition. -/
import Derived.Test.YtlfbcoohfnoacaaGreatSAa
import Derived.Test.YtlfbcoohfnoacaaGreatSAb
import Derived.Test.YtlfbcoohfnoacaaGreatSAc
import Derived.Test.YtlfbcoohfnoacaaGreatSAd
import Derived.Test.YtlfbcoohfnoacaaGreatSAe
import Derived.Test.YtlfbcoohfnoacaaGreatSAf
import Derived.Test.YtlfbcoohfnoacaaGreatSAg
import Derived.Test.YtlfbcoohfnoacaaGreatSAh
import Derived.Test.YtlfbcoohfnoacaaGreatSAi
import Derived.Test.YtlfbcoohfnoacaaGreatSAj
import Derived.Test.YtlfbcoohfnoacaaGreatSAk
set_option linter.unusedSimpArgs false
set_option linter.unusedVariables false
/- PartySmall answers true, whatever the input; no condition. -/
namespace Go.Proofs.YtlfbcoohfnoacaaGreat
open Go.Fw Go.RowKit Go.ChangeShapes Go.WideShapes Go.ChangeAt
set_option maxRecDepth 100000 in
theorem small_lifted (os : Os) (started : os.Started) (H : Type) (enc : TypeId × Value → H) :
    ReturnsInHanded {} Tryz.checked os 4 .any (Rows.partySmallSpec.pre6 enc Tryz.prog Tryz.f4 Rows.partySmallRow.domain false) (Rows.partySmallSpec.post enc Tryz.prog Tryz.f4 false true false false) := by
  refine returnsInHanded_of_change (C := Tryz.checked) ownK started (by kernel_rfl) Tryz.func4
    (ChangeSpec.witness6 (enc := enc) (C := Tryz.checked) false ⟨#[], #[], []⟩ 8 (by kernel_rfl) (by kernel_rfl) (by kernel_rfl) (by kernel_rfl)) ?_
  intro W base args ds gs before hval0 hW _ _
  have hval : ∀ (j : Nat) t v, Tryz.f4.params[j]? = some t → args[j]? = some v → Value.okWide Tryz.prog W .any base t v := hval0
  have hW' := hW
  obtain ⟨p, q, hA0, hV, rfl, _, _⟩ := hW
  have hA : DataW.TrodAll enc Tryz.prog W 0 (fun _ => true) true Tryz.f4.params.toList args.toList ds p := hA0
  rw [Tryz.params4] at hA
  obtain ⟨h1, rfl, rfl⟩ := trodAll_nil hA
  obtain rfl : args = #[] := by cases args; simp_all
  refine ((smallLaw W).2).mono fun e W' ⟨v, he, hR, ⟨hv, _⟩, hext⟩ => ?_
  subst hv
  exact ⟨_, he, law_post (P := Tryz.prog) (tb := 4) laidK (by kernel_rfl) rfl Tryz.underlying4 rfl ⟨rfl, rfl, rfl⟩ hW' hext.ext⟩
theorem small_holds : Rows.PartySmallSaid :=
  OpenClaim.holds_of_wide 4 Tryz.f4 rfl rfl rfl rfl rfl rfl rfl ⟨rfl, rfl, rfl, rfl, rfl⟩ rfl rfl rfl rfl rfl (by kernel_rfl) Tryz.func4 (by kernel_rfl)
    (of_decide_eq_true (by kernel_rfl)) (by unfold Func.isWrapper; first | (rw [if_pos (by decide +kernel)]; kernel_rfl) | (rw [if_neg (by decide +kernel)]; exact ⟨rfl, rfl⟩))
    (fun os started H enc _ => small_lifted os started H enc)
end Go.Proofs.YtlfbcoohfnoacaaGreat

