/- Borders and points that are all shifted: plain mathematics. -/
import Derived.Test.YtdlpnjofdpcjjaaGreatZp
namespace Go.Proofs.YtdlpnjofdpcjjaaGreat
open Go.Fw Go.RowKit
def sh (s : Int) (l : List Int) : List Int := l.map (· + s)
theorem sh_len (s : Int) (l : List Int) : (sh s l).length = l.length := List.length_map ..
theorem sh_getD (s : Int) (l : List Int) {i : Nat} (h : i < l.length) : (sh s l).getD i 0 = l.getD i 0 + s := by simp [sh, h]
theorem sh_set (s : Int) (l : List Int) (i : Nat) (v : Int) : (sh s l).set i (v + s) = sh s (l.set i v) := by simp [sh, List.map_set]
theorem sh_inj {s : Int} {l m : List Int} (h : sh s l = sh s m) : l = m := by
  have h1 := congrArg (List.map (· - s)) h
  simpa [sh, List.map_map, Function.comp_def, Int.add_sub_cancel] using h1
theorem between_sh (lo hi s : Int) (l : List Int) : between (lo + s) (hi + s) (sh s l) = sh s (between lo hi l) := by
  unfold between sh
  rw [List.filter_map]
  congr 1
  exact List.filter_congr fun x _ => by
    simp only [Function.comp_apply, offB]
    rw [show decide (x + s < lo + s) = decide (x < lo) by simp, show decide (hi + s < x + s) = decide (hi < x) by simp]
theorem cntLt_sh (x s : Int) (l : List Int) : cntLt (sh s l) (x + s) = cntLt l x := by
  unfold cntLt sh
  rw [List.filter_map, List.length_map]
  congr 1
  exact List.filter_congr fun y _ => by simp
theorem diffAt_sh (x s : Int) (l : List Int) : diffAt (sh s l) (x + s) = diffAt l x := by
  unfold diffAt cntB
  rw [cntLt_sh, sh_len]
def shS (s : Int) (x : Spot) : Spot := ⟨x.at_ + s, x.diff⟩
theorem spotAt_sh (x s : Int) (l : List Int) : spotAt (sh s l) (x + s) = shS s (spotAt l x) := by
  unfold spotAt shS
  rw [diffAt_sh]
theorem cmpSpot_sh (b s : Int) (x y : Spot) : cmpSpot (b + s) (shS s x) (shS s y) = cmpSpot b x y := by
  unfold cmpSpot shS
  simp only
  rw [show x.at_ + s - (b + s) = x.at_ - b by omega, show y.at_ + s - (b + s) = y.at_ - b by omega]
  congr 1
  have : cmpI (x.at_ + s) (y.at_ + s) = cmpI x.at_ y.at_ := by unfold cmpI; split <;> split <;> (try split) <;> (try split) <;> omega
  rw [this]
theorem minF_sh (b s : Int) : ∀ (l : List Spot) (m : Spot), minF (cmpSpot (b + s)) (shS s m) (l.map (shS s)) = shS s (minF (cmpSpot b) m l)
  | [], m => rfl
  | x :: l, m => by
    simp only [minF, List.map_cons, List.foldl_cons, cmpSpot_sh]
    have := minF_sh b s l (if cmpSpot b x m < 0 then x else m)
    unfold minF at this
    rw [← this]
    split <;> rfl
theorem bestOf_sh (b s : Int) {l : List Spot} (h : 0 < l.length) : bestOf (b + s) (l.map (shS s)) = shS s (bestOf b l) := by
  cases l with
  | nil => simp at h
  | cons x l =>
    unfold bestOf
    simp only [List.map_cons, List.getD_cons_zero, List.drop_succ_cons, List.drop_zero]
    exact minF_sh b s l x
theorem placesOf_sh (lo hi b s : Int) (near : List Int) : placesOf (lo + s) (hi + s) (b + s) (sh s near) = sh s (placesOf lo hi b near) := by
  unfold placesOf twoOf
  have h1 : between (lo + s) (hi + s) [b + s, lo + s, hi + s] = sh s (between lo hi [b, lo, hi]) := between_sh lo hi s [b, lo, hi]
  rw [h1]
  unfold sh
  rw [List.map_append]
  congr 1
  induction near with
  | nil => rfl
  | cons x l ih =>
    rw [List.map_cons, List.flatMap_cons, List.flatMap_cons, List.map_append, ih]
    congr 1
    have := between_sh lo hi s [x, x + 1]
    simp only [sh, List.map_cons, List.map_nil] at this
    rw [← this, show x + s + 1 = x + 1 + s by omega]
/-- All points, and all borders, lie far from the ends. -/
def Far (m : Int) (l : List Int) : Prop := ∀ x ∈ l, -m ≤ x ∧ x ≤ m
theorem Far.at {m : Int} {l : List Int} (h : Far m l) {i : Nat} (hi : i < l.length) : -m ≤ l.getD i 0 ∧ l.getD i 0 ≤ m := h _ (getD_mem hi)
theorem between_all {lo hi : Int} {l : List Int} (h : ∀ x ∈ l, lo ≤ x ∧ x ≤ hi) : between lo hi l = l := by
  unfold between
  rw [List.filter_eq_self]
  intro x hx
  have := h x hx
  simp only [offB, Bool.not_eq_true', Bool.or_eq_false_iff, decide_eq_false_iff_not]
  omega
theorem between_both (lo hi : Int) (l : List Int) : between lo hi l = l.filter fun x => decide (lo ≤ x) && decide (x ≤ hi) := by
  unfold between
  exact List.filter_congr fun x _ => by
    simp only [offB]
    by_cases h1 : x < lo <;> by_cases h2 : hi < x <;> simp [h1, h2] <;> omega
theorem near_sh {bs ps : List Int} {i : Nat} {s : Int} (hi : i < bs.length) (hs : -40000 ≤ s ∧ s ≤ 40000) (hp : Far 200000 ps) : nearOf (sh s bs) (sh s ps) i = sh s (nearOf bs ps i) := by
  unfold nearOf
  rw [between_both, between_both]
  unfold sh
  rw [List.filter_map]
  congr 1
  apply List.filter_congr
  intro x hx
  obtain ⟨p1, p2⟩ := hp x hx
  simp only [Function.comp_apply]
  have e1 : decide (leastOf (sh s bs) i ≤ x + s) = decide (leastOf bs i ≤ x) := by
    unfold leastOf
    split
    · rw [sh_getD s bs (by omega)]; simp
    · rw [decide_eq_true (by omega), decide_eq_true (by omega)]
  have e2 : decide (x + s ≤ mostOf (sh s bs) i - 1) = decide (x ≤ mostOf bs i - 1) := by
    unfold mostOf
    rw [sh_len]
    split
    · rw [sh_getD s bs (by omega)]
      by_cases h : x ≤ bs.getD (i + 1) 0 - 1
      · rw [decide_eq_true h, decide_eq_true (by omega)]
      · rw [decide_eq_false h, decide_eq_false (by omega)]
    · rw [decide_eq_true (by omega), decide_eq_true (by omega)]
  unfold sh at e1 e2
  rw [e1, e2]
theorem newAt_sh {bs ps : List Int} {i : Nat} {s step slack : Int} (hi : i < bs.length) (hg : Good bs) (hs : -40000 ≤ s ∧ s ≤ 40000) (hp : Far 200000 ps) (hb : Far 900000 bs) (h0 : 0 ≤ step) (h1 : step ≤ 4096) :
    newAt (sh s bs) (sh s ps) i step slack = newAt bs ps i step slack + s := by
  obtain ⟨g1, g2⟩ := hg i hi
  have hbi := hb.at hi
  unfold newAt
  rw [near_sh hi hs hp, sh_getD s bs hi, diffAt_sh]
  split
  · rfl
  · have elo : max (loB (sh s bs) i) (bs.getD i 0 + s - step) = max (loB bs i) (bs.getD i 0 - step) + s := by
      unfold loB
      split
      · rw [sh_getD s bs (by omega)]; omega
      · omega
    have ehi : min (hiB (sh s bs) i) (bs.getD i 0 + s + step) = min (hiB bs i) (bs.getD i 0 + step) + s := by
      unfold hiB
      rw [sh_len]
      split
      · rw [sh_getD s bs (by omega)]; omega
      · omega
    rw [elo, ehi, placesOf_sh]
    have hpos := placesOf_pos (lo := max (loB bs i) (bs.getD i 0 - step)) (hi := min (hiB bs i) (bs.getD i 0 + step)) (b := bs.getD i 0) (near := nearOf bs ps i) (by omega) (by omega)
    generalize placesOf (max (loB bs i) (bs.getD i 0 - step)) (min (hiB bs i) (bs.getD i 0 + step)) (bs.getD i 0) (nearOf bs ps i) = pl at hpos ⊢
    have e : (sh s pl).map (spotAt (sh s (nearOf bs ps i))) = (pl.map (spotAt (nearOf bs ps i))).map (shS s) := by
      unfold sh
      rw [List.map_map, List.map_map]
      apply List.map_congr_left
      intro x _
      have := spotAt_sh x s (nearOf bs ps i)
      unfold sh at this
      simpa using this
    rw [e, bestOf_sh _ _ (by rw [List.length_map]; exact hpos)]
    rfl
theorem far_set {m : Int} {l : List Int} (h : Far m l) {i : Nat} {v : Int} (hv : -m ≤ v ∧ v ≤ m) : Far m (l.set i v) := fun x hx => by
  rcases List.mem_or_eq_of_mem_set hx with hx | hx
  · exact h x hx
  · rw [hx]; exact hv
theorem Far.mono {m n : Int} {l : List Int} (h : Far m l) (hmn : m ≤ n) : Far n l := fun x hx => by have := h x hx; omega
theorem roundTo_sh {bs ps : List Int} {s step slack m : Int} (hg : Good bs) (hs : -40000 ≤ s ∧ s ≤ 40000) (hp : Far 200000 ps) (hb : Far m bs) (hm : m + step ≤ 900000) (h0 : 0 ≤ step) (h1 : step ≤ 4096) : ∀ k, k ≤ bs.length →
    roundTo (sh s bs) (sh s ps) step slack k = sh s (roundTo bs ps step slack k) ∧ Far (m + step) (roundTo bs ps step slack k) ∧ ∀ j, k ≤ j → (roundTo bs ps step slack k).getD j 0 = bs.getD j 0
  | 0, _ => ⟨rfl, hb.mono (by omega), fun _ _ => rfl⟩
  | k + 1, hk => by
    obtain ⟨e1, e2, e3⟩ := roundTo_sh (slack := slack) hg hs hp hb hm h0 h1 k (by omega)
    have hgk := roundTo_good (ps := ps) (slack := slack) hg h0 k (by omega)
    have hlk := roundTo_len bs ps step slack k
    have hkl : k < (roundTo bs ps step slack k).length := by omega
    have hrng := newAt_rng (ps := ps) (step := step) (slack := slack) (hgk k hkl).1 (hgk k hkl).2 h0
    have hbk := hb.at (i := k) (by omega)
    have e3k := e3 k (Nat.le_refl _)
    refine ⟨?_, ?_, fun j hj => ?_⟩
    · simp only [roundTo]
      rw [e1, newAt_sh hkl hgk hs hp (e2.mono hm) h0 h1, sh_set]
    · simp only [roundTo]
      exact far_set e2 (by omega)
    · simp only [roundTo]
      rw [getD_set_ne' _ _ _ _ (by omega)]
      exact e3 j (by omega)
theorem roundL_sh {bs ps : List Int} {s step slack m : Int} (hg : Good bs) (hs : -40000 ≤ s ∧ s ≤ 40000) (hp : Far 200000 ps) (hb : Far m bs) (hm : m + step ≤ 900000) (h0 : 0 ≤ step) (h1 : step ≤ 4096) :
    roundL (sh s bs) (sh s ps) step slack = sh s (roundL bs ps step slack) ∧ Far (m + step) (roundL bs ps step slack) := by
  have := roundTo_sh (slack := slack) hg hs hp hb hm h0 h1 bs.length (Nat.le_refl _)
  unfold roundL
  rw [sh_len]
  exact ⟨this.1, this.2.1⟩
theorem settleN_sh {ps : List Int} {s step slack : Int} (hs : -40000 ≤ s ∧ s ≤ 40000) (hp : Far 200000 ps) (h0 : 0 ≤ step) (h1 : step ≤ 4096) : ∀ (n : Nat) (bs : List Int) (m : Int), Good bs → Far m bs → m + step * n ≤ 900000 →
    settleN (sh s ps) step slack n (sh s bs) = (sh s (settleN ps step slack n bs).1, (settleN ps step slack n bs).2)
  | 0, bs, m, _, _, _ => rfl
  | n + 1, bs, m, hg, hb, hm => by
    have hmul : step * ((n + 1 : Nat) : Int) = step * n + step := by rw [Int.natCast_add, Int.mul_add]; simp
    have hn0 : 0 ≤ step * (n : Int) := Int.mul_nonneg h0 (Int.natCast_nonneg n)
    rw [hmul] at hm
    obtain ⟨e1, e2⟩ := roundL_sh (slack := slack) hg hs hp hb (by omega) h0 h1
    simp only [settleN, e1]
    by_cases h : bs = roundL bs ps step slack
    · rw [if_pos h, if_pos (congrArg (sh s) h)]
    · rw [if_neg h, if_neg (fun e => h (sh_inj e))]
      have ih := settleN_sh (slack := slack) hs hp h0 h1 n (roundL bs ps step slack) (m + step) (roundL_good hg h0) e2 (by omega)
      rw [ih]
end Go.Proofs.YtdlpnjofdpcjjaaGreat
