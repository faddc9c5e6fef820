/- The reference of layer 41: the search for a border's place. Plain mathematics. -/
import Derived.Test.YtdlpnjofdpcjjaaGreatE4
namespace Go.Proofs.YtdlpnjofdpcjjaaGreat
open Go.Fw Go.RowKit
/-- The places that the search has come to: all nearer than d, and n of the two at d. -/
def Seen (b d : Int) (n : Nat) (q : Int) : Prop := absI (q - b) < d ∨ (1 ≤ n ∧ q = b - d) ∨ (2 ≤ n ∧ q = b + d)
structure Best (near : List Int) (lo hi b d : Int) (n : Nat) (best : Int) : Prop where
  inr : lo ≤ best ∧ best ≤ hi
  seen : Seen b d n best
  all : ∀ q, lo ≤ q → q ≤ hi → Seen b d n q → ¬ ltS b (spotAt near q) (spotAt near best)
theorem best_start {near : List Int} {lo hi b : Int} (h : lo ≤ b ∧ b ≤ hi) : Best near lo hi b 1 0 b := by
  refine ⟨h, .inl (by unfold absI; omega), fun q _ _ hs => ?_⟩
  rcases hs with hs | hs | hs
  · have : q = b := by unfold absI at hs; omega
    subst this; exact ltS_irr
  · omega
  · omega
theorem best_yes {near : List Int} {lo hi b d best p : Int} {n : Nat} (h : Best near lo hi b d n best) (hd : 1 ≤ d) (hn : n < 2) (hp : p = b - d + 2 * d * n) (h1 : lo ≤ p) (h2 : p ≤ hi) (hlt : diffAt near p < diffAt near best) : Best near lo hi b d (n + 1) p := by
  have hpn : (n = 0 ∧ p = b - d) ∨ (n = 1 ∧ p = b + d) := by
    rcases (by omega : n = 0 ∨ n = 1) with rfl | rfl
    · left; refine ⟨rfl, ?_⟩; simp at hp; omega
    · right; refine ⟨rfl, ?_⟩; simp at hp; omega
  refine ⟨⟨h1, h2⟩, ?_, fun q q1 q2 hs => ?_⟩
  · rcases hpn with ⟨rfl, e⟩ | ⟨rfl, e⟩
    · exact .inr (.inl ⟨by omega, e⟩)
    · exact .inr (.inr ⟨by omega, e⟩)
  · by_cases he : Seen b d n q
    · have := h.all q q1 q2 he
      unfold ltS at *
      simp only [spotAt] at *
      omega
    · have : q = p := by
        unfold Seen at he hs
        rcases hpn with ⟨rfl, e⟩ | ⟨rfl, e⟩ <;> omega
      subst this; exact ltS_irr
theorem best_no {near : List Int} {lo hi b d best p : Int} {n : Nat} (h : Best near lo hi b d n best) (hd : 1 ≤ d) (hn : n < 2) (hp : p = b - d + 2 * d * n) (hlt : lo ≤ p → p ≤ hi → ¬ diffAt near p < diffAt near best) : Best near lo hi b d (n + 1) best := by
  have hpn : (n = 0 ∧ p = b - d) ∨ (n = 1 ∧ p = b + d) := by
    rcases (by omega : n = 0 ∨ n = 1) with rfl | rfl
    · left; refine ⟨rfl, ?_⟩; simp at hp; omega
    · right; refine ⟨rfl, ?_⟩; simp at hp; omega
  refine ⟨h.inr, ?_, fun q q1 q2 hs => ?_⟩
  · rcases h.seen with e | e | e
    · exact .inl e
    · exact .inr (.inl ⟨by omega, e.2⟩)
    · exact .inr (.inr ⟨by omega, e.2⟩)
  · by_cases he : Seen b d n q
    · exact h.all q q1 q2 he
    · have : q = p := by
        unfold Seen at he hs
        rcases hpn with ⟨rfl, e⟩ | ⟨rfl, e⟩ <;> omega
      subst this
      have h3 := hlt q1 q2
      have h4 := h.seen
      unfold ltS Seen absI at *
      simp only [spotAt] at *
      rcases hpn with ⟨rfl, e⟩ | ⟨rfl, e⟩ <;> omega
theorem best_next {near : List Int} {lo hi b d best : Int} (h : Best near lo hi b d 2 best) (hd : 1 ≤ d) : Best near lo hi b (d + 1) 0 best := by
  refine ⟨h.inr, ?_, fun q q1 q2 hs => h.all q q1 q2 ?_⟩
  · have := h.seen; unfold Seen absI at *; omega
  · unfold Seen absI at *; omega
theorem best_end {bs ps : List Int} {i : Nat} {step slack best : Int} (h1 : loB bs i ≤ bs.getD i 0) (h2 : bs.getD i 0 ≤ hiB bs i) (hs : 0 ≤ step) (hd : slack < diffAt (nearOf bs ps i) (bs.getD i 0))
    (h : Best (nearOf bs ps i) (loB bs i) (hiB bs i) (bs.getD i 0) (step + 1) 0 best) : newAt bs ps i step slack = best := by
  have hr := newAt_rng (ps := ps) (slack := slack) h1 h2 hs
  have ha := h.all _ hr.1 hr.2.1 (.inl (by unfold absI; omega))
  have hb := newAt_best h1 h2 hs hd (q := best) h.inr (by have := h.seen; unfold Seen absI at this; omega)
  unfold ltS at ha hb
  simp only [spotAt] at ha hb
  omega
end Go.Proofs.YtdlpnjofdpcjjaaGreat
