/- What a round does to the loads: plain mathematics. -/
import Derived.Test.YtdlpnjofdpcjjaaGreatZp
namespace Go.Proofs.YtdlpnjofdpcjjaaGreat
open Go.Fw Go.RowKit
/-! the best place -/
def ltS (b : Int) (x y : Spot) : Prop := x.diff < y.diff ∨ x.diff = y.diff ∧ (absI (x.at_ - b) < absI (y.at_ - b) ∨ absI (x.at_ - b) = absI (y.at_ - b) ∧ x.at_ < y.at_)
theorem cmpI_neg (x y : Int) : cmpI x y < 0 ↔ x < y := by unfold cmpI; split <;> (try split) <;> omega
theorem cmpI_zero (x y : Int) : cmpI x y = 0 ↔ x = y := by unfold cmpI; split <;> (try split) <;> omega
theorem cmpSpot_neg (b : Int) (x y : Spot) : cmpSpot b x y < 0 ↔ ltS b x y := by
  unfold cmpSpot ltS
  have h1 := cmpI_neg x.diff y.diff
  have h2 := cmpI_zero x.diff y.diff
  have h3 := cmpI_neg (absI (x.at_ - b)) (absI (y.at_ - b))
  have h4 := cmpI_zero (absI (x.at_ - b)) (absI (y.at_ - b))
  have h5 := cmpI_neg x.at_ y.at_
  have h6 := cmpI_zero x.at_ y.at_
  simp only [orI]
  split
  · omega
  · split
    · omega
    · split <;> omega
theorem ltS_trans {b : Int} {x y z : Spot} (h : ltS b x y) (k : ltS b y z) : ltS b x z := by unfold ltS at *; omega
theorem ltS_irr {b : Int} {x : Spot} : ¬ ltS b x x := by unfold ltS; omega
theorem minF_best (b : Int) : ∀ (l : List Spot) (m : Spot), ∀ x, x = m ∨ x ∈ l → ¬ ltS b x (minF (cmpSpot b) m l)
  | [], m, x, h => by
    rcases h with rfl | h
    · exact ltS_irr
    · simp at h
  | y :: l, m, x, h => by
    simp only [minF, List.foldl_cons]
    by_cases hc : cmpSpot b y m < 0
    · rw [if_pos hc]
      have hym := (cmpSpot_neg b y m).1 hc
      have hy := minF_best b l y y (.inl rfl)
      rcases h with rfl | h
      · intro hx
        exact hy (ltS_trans hym hx)
      · rcases List.mem_cons.1 h with rfl | h
        · exact hy
        · exact minF_best b l y x (.inr h)
    · rw [if_neg hc]
      have hym : ¬ ltS b y m := fun h => hc ((cmpSpot_neg b y m).2 h)
      rcases h with rfl | h
      · exact minF_best b l x x (.inl rfl)
      · rcases List.mem_cons.1 h with rfl | h
        · intro hx
          have hm := minF_best b l m m (.inl rfl)
          unfold ltS minF at *
          omega
        · exact minF_best b l m x (.inr h)
theorem bestOf_best (b : Int) (l : List Spot) (x : Spot) (hx : x ∈ l) : ¬ ltS b x (bestOf b l) := by
  cases l with
  | nil => simp at hx
  | cons y l =>
    rcases List.mem_cons.1 hx with rfl | h
    · exact minF_best b l _ _ (.inl rfl)
    · exact minF_best b l y x (.inr h)
/-- The border stays, or comes to a place with a lesser difference. -/
theorem newAt_less (bs ps : List Int) (i : Nat) (step slack : Int) (h1 : loB bs i ≤ bs.getD i 0) (h2 : bs.getD i 0 ≤ hiB bs i) (hs : 0 ≤ step) :
    newAt bs ps i step slack = bs.getD i 0 ∨ diffAt (nearOf bs ps i) (newAt bs ps i step slack) < diffAt (nearOf bs ps i) (bs.getD i 0) := by
  unfold newAt
  split
  · exact .inl rfl
  · generalize nearOf bs ps i = near
    generalize hlo : max (loB bs i) (bs.getD i 0 - step) = lo
    generalize hhi : min (hiB bs i) (bs.getD i 0 + step) = hi
    generalize hb : bs.getD i 0 = b at *
    have hmem : spotAt near b ∈ (placesOf lo hi b near).map (spotAt near) := List.mem_map.2 ⟨b, List.mem_append_left _ (mem_between (by simp) (by omega) (by omega)), rfl⟩
    have hbest := bestOf_best b _ _ hmem
    have hin := bestOf_mem b ((placesOf lo hi b near).map (spotAt near)) (List.length_pos_of_mem hmem)
    obtain ⟨x, _, hx⟩ := List.mem_map.1 hin
    rw [← hx] at hbest ⊢
    simp only [spotAt, ltS, absI] at hbest ⊢
    omega

/-! the loads of the zones -/
def lowOf (bs : List Int) (z : Nat) : Int := if 0 < z then bs.getD (z - 1) 0 else -1048576
def upOf (bs : List Int) (z : Nat) : Int := if z < bs.length then bs.getD z 0 else 1048577
theorem zone_iff {bs : List Int} (hi : Inc bs) {p : Int} (hp : In20 p) {z : Nat} (hz : z ≤ bs.length) : zoneOf bs p = z ↔ lowOf bs z ≤ p ∧ p < upOf bs z := by
  obtain ⟨h1, h2⟩ := zone_props p bs hi
  have hle := zoneOf_le bs p
  obtain ⟨hp1, hp2⟩ := hp
  constructor
  · rintro rfl
    unfold lowOf upOf
    constructor
    · split
      · exact h1 (by assumption)
      · exact hp1
    · split
      · exact h2 (by assumption)
      · omega
  · rintro ⟨k1, k2⟩
    unfold lowOf at k1
    unfold upOf at k2
    rcases Nat.lt_trichotomy (zoneOf bs p) z with hlt | heq | hgt
    · exfalso
      rw [if_pos (by omega)] at k1
      have h3 := h2 (by omega)
      by_cases he : zoneOf bs p = z - 1
      · rw [he] at h3; omega
      · have := hi (zoneOf bs p) (z - 1) (by omega) (by omega)
        omega
    · exact heq
    · exfalso
      rw [if_pos (by omega)] at k2
      have h3 := h1 (by omega)
      by_cases he : zoneOf bs p - 1 = z
      · rw [he] at h3; omega
      · have := hi z (zoneOf bs p - 1) (by omega) (by omega)
        omega
def load (bs ps : List Int) (z : Nat) : Int := (ps.filter fun p => decide (zoneOf bs p = z)).length
theorem foldl_load (bs : List Int) : ∀ (ps L : List Int) (z : Nat), z < L.length → (ps.foldl (fun L x => bump L (zoneOf bs x)) L).getD z 0 = L.getD z 0 + load bs ps z
  | [], L, z, _ => by simp [load]
  | p :: ps, L, z, hz => by
    rw [List.foldl_cons, foldl_load bs ps _ z (by rw [bump_len]; exact hz), bump_get]
    by_cases h : zoneOf bs p = z
    · rw [if_pos ⟨h, hz⟩]; simp only [load, List.filter_cons, h, decide_true, if_true, List.length_cons]; omega
    · rw [if_neg (fun e => h e.1)]; simp only [load, List.filter_cons, h, decide_false]; simp
theorem loads_map (bs ps : List Int) (hb : bs.length ≤ 5) : (loadsL bs ps).take (bs.length + 1) = (List.range (bs.length + 1)).map (load bs ps) := by
  apply List.ext_getElem?
  intro z
  by_cases hz : z < bs.length + 1
  · rw [List.getElem?_take_of_lt hz, List.getElem?_map, List.getElem?_range hz]
    have hl := loadsL_len bs ps
    have h := foldl_load bs ps (List.replicate 6 0) z (by simp; omega)
    have h0 : (List.replicate 6 (0 : Int)).getD z 0 = 0 := by rcases z with _ | _ | _ | _ | _ | _ | z <;> simp
    rw [h0] at h
    have hg : (loadsL bs ps)[z]? = some ((loadsL bs ps).getD z 0) := by
      rw [List.getD_eq_getElem?_getD, List.getElem?_eq_getElem (by omega)]; rfl
    rw [hg]
    show some ((loadsL bs ps).getD z 0) = some (load bs ps z)
    rw [loadsL, h]; simp
  · rw [List.getElem?_eq_none (by rw [List.length_take, loadsL_len]; omega), List.getElem?_eq_none (by simp; omega)]
theorem filter_congr' {α : Type} {p q : α → Bool} : ∀ (l : List α), (∀ x ∈ l, p x = q x) → l.filter p = l.filter q
  | [], _ => rfl
  | x :: l, h => by rw [List.filter_cons, List.filter_cons, h x (by simp), filter_congr' l fun y hy => h y (by simp [hy])]
theorem load_eq {bs ps : List Int} (hi : Inc bs) (hp : ∀ p ∈ ps, In20 p) {z : Nat} (hz : z ≤ bs.length) : load bs ps z = (ps.filter fun p => decide (lowOf bs z ≤ p) && decide (p < upOf bs z)).length := by
  unfold load
  rw [filter_congr' ps fun p h => show decide (zoneOf bs p = z) = (decide (lowOf bs z ≤ p) && decide (p < upOf bs z)) by
    have := zone_iff hi (hp p h) hz
    by_cases h1 : lowOf bs z ≤ p <;> by_cases h2 : p < upOf bs z <;> simp [this, h1, h2]]
theorem inc_of_good {bs : List Int} (h : Good bs) : Inc bs := by
  intro i j hij hj
  induction j with
  | zero => omega
  | succ j ih =>
    have h1 := (h (j + 1) hj).1
    simp only [loB, Nat.zero_lt_succ, if_true, Nat.add_sub_cancel] at h1
    by_cases he : i = j
    · subst he; omega
    · have := ih (by omega) (by omega); omega
theorem cnt_split (a x b : Int) (h : x ≤ b) (hax : a ≤ x) : ∀ (ps : List Int), ((ps.filter fun p => decide (a ≤ p) && decide (p < x)).length : Int) = cntLt (between a (b - 1) ps) x ∧
    ((ps.filter fun p => decide (x ≤ p) && decide (p < b)).length : Int) = (between a (b - 1) ps).length - cntLt (between a (b - 1) ps) x
  | [] => by simp [between, cntLt]
  | p :: ps => by
    obtain ⟨h1, h2⟩ := cnt_split a x b h hax ps
    unfold between offB cntLt at *
    simp only [List.filter_cons]
    by_cases c1 : a ≤ p <;> by_cases c2 : p < x <;> by_cases c3 : x ≤ p <;> by_cases c4 : p < b <;> by_cases c5 : p < a <;> by_cases c6 : b - 1 < p <;>
      first
        | (exfalso; omega)
        | (simp only [c1, c2, c3, c4, c5, c6, decide_true, decide_false, Bool.and_true, Bool.and_false, Bool.true_and, Bool.false_and, Bool.or_true, Bool.or_false, Bool.true_or, Bool.false_or, Bool.not_true, Bool.not_false, if_true, if_false, List.filter_cons, List.length_cons, Bool.false_eq_true] ; omega)
/-- The loads of the two zones at a border. -/
theorem loads_at {bs ps : List Int} (hg : Good bs) (hp : ∀ p ∈ ps, In20 p) {i : Nat} (hi : i < bs.length) :
    load bs ps i = cntB (nearOf bs ps i) (bs.getD i 0) ∧ load bs ps (i + 1) = (nearOf bs ps i).length - cntB (nearOf bs ps i) (bs.getD i 0) := by
  have hinc := inc_of_good hg
  obtain ⟨g1, g2⟩ := hg i hi
  have hr := good_rng hg hi
  have e1 : lowOf bs i = leastOf bs i := rfl
  have e2 : upOf bs i = bs.getD i 0 := by rw [upOf, if_pos hi]
  have e3 : lowOf bs (i + 1) = bs.getD i 0 := by rw [lowOf, if_pos (by omega), Nat.add_sub_cancel]
  have e4 : upOf bs (i + 1) = mostOf bs i := rfl
  have hle : bs.getD i 0 ≤ mostOf bs i := by
    unfold mostOf hiB at *
    split at g2 <;> rename_i h <;> simp only [h, if_true, if_false] <;> omega
  have hge : leastOf bs i ≤ bs.getD i 0 := by
    unfold leastOf loB at *
    split at g1 <;> rename_i h <;> simp only [h, if_true, if_false] <;> omega
  obtain ⟨c1, c2⟩ := cnt_split (leastOf bs i) (bs.getD i 0) (mostOf bs i) hle hge ps
  rw [load_eq hinc hp (by omega), load_eq hinc hp (by omega), e1, e2, e3, e4]
  exact ⟨c1, c2⟩
theorem load_other {bs ps : List Int} (hg : Good bs) (hp : ∀ p ∈ ps, In20 p) {i z : Nat} {v : Int} (hg' : Good (bs.set i v)) (hz : z ≤ bs.length) (h1 : z ≠ i) (h2 : z ≠ i + 1) : load (bs.set i v) ps z = load bs ps z := by
  rw [load_eq (inc_of_good hg) hp hz, load_eq (inc_of_good hg') hp (by rw [List.length_set]; exact hz)]
  have e1 : lowOf (bs.set i v) z = lowOf bs z := by
    unfold lowOf; split
    · rw [getD_set_ne' _ _ _ _ (by omega)]
    · rfl
  have e2 : upOf (bs.set i v) z = upOf bs z := by
    unfold upOf
    rw [List.length_set]
    split
    · rw [getD_set_ne' _ _ _ _ (by omega)]
    · rfl
  rw [e1, e2]
theorem near_set (bs ps : List Int) (i : Nat) (v : Int) : nearOf (bs.set i v) ps i = nearOf bs ps i := by
  unfold nearOf leastOf mostOf
  rw [List.length_set]
  congr 1
  · split
    · rw [getD_set_ne' _ _ _ _ (by omega)]
    · rfl
  · split
    · rw [getD_set_ne' _ _ _ _ (by omega)]
    · rfl
end Go.Proofs.YtdlpnjofdpcjjaaGreat
