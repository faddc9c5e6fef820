/- BalanceSmall: where one border comes to among the points from 1 to 512. Plain mathematics. -/
import Derived.Test.YtdlpnjofdpcjjaaGreatR6
import Derived.Test.YtdlpnjofdpcjjaaGreatE3
namespace Go.Proofs.YtdlpnjofdpcjjaaGreat
open Go.Fw Go.RowKit
def manyL : List Int := (List.range 513).map fun (i : Nat) => (i : Int)
theorem many_len : manyL.length = 513 := by simp [manyL]
def pts (n : Nat) : List Int := (List.range n).map fun (i : Nat) => (i : Int) + 1
theorem pts_len (n : Nat) : (pts n).length = n := by simp [pts]
theorem many_drop : manyL.drop 1 = pts 512 := by
  unfold manyL pts
  rw [show 513 = 512 + 1 from rfl, List.range_succ_eq_map, List.map_cons, List.drop_succ_cons, List.drop_zero, List.map_map]
  apply List.map_congr_left
  intro i _
  simp
theorem pts_cnt (x : Int) : ∀ n : Nat, cntB (pts n) x = max 0 (min (n : Int) (x - 1))
  | 0 => by simp [cntB, cntLt, pts]; omega
  | n + 1 => by
    have ih := pts_cnt x n
    have e : pts (n + 1) = pts n ++ [(n : Int) + 1] := by simp [pts, List.range_succ]
    rw [e, cntB_snoc, ih]
    split <;> omega
theorem pts_near (b : Int) : nearOf [b] (pts 512) 0 = pts 512 := by
  unfold nearOf
  refine between_all fun x hx => ?_
  simp only [leastOf, mostOf, Nat.lt_irrefl, if_false, List.length_singleton, Nat.zero_add, Nat.lt_irrefl]
  obtain ⟨i, hi, rfl⟩ := List.mem_map.1 hx
  rw [List.mem_range] at hi
  omega
theorem newAt_uniq {bs ps : List Int} {i : Nat} {step slack q : Int} (h1 : loB bs i ≤ bs.getD i 0) (h2 : bs.getD i 0 ≤ hiB bs i) (hs : 0 ≤ step) (hd : slack < diffAt (nearOf bs ps i) (bs.getD i 0)) (hq1 : loB bs i ≤ q ∧ q ≤ hiB bs i) (hq2 : bs.getD i 0 - step ≤ q ∧ q ≤ bs.getD i 0 + step)
    (h : ∀ p, bs.getD i 0 - step ≤ p → p ≤ bs.getD i 0 + step → p ≠ q → diffAt (nearOf bs ps i) q < diffAt (nearOf bs ps i) p) : newAt bs ps i step slack = q := by
  refine Classical.byContradiction fun hne => ?_
  have hr := newAt_rng (ps := ps) (slack := slack) h1 h2 hs
  exact newAt_best h1 h2 hs hd hq1 hq2 (.inl (h _ hr.2.2.1 hr.2.2.2 hne))
theorem pts_diff (x : Int) : diffAt (pts 512) x = max (2 * max 0 (min 512 (x - 1)) - 512) (-(2 * max 0 (min 512 (x - 1)) - 512)) := by
  unfold diffAt
  rw [pts_cnt, pts_len]; rfl
theorem far1 : newAt [-4000] (pts 512) 0 4096 0 = 96 := by
  have e1 : loB [-4000] 0 = -1032192 := rfl
  have e2 : hiB [-4000] 0 = 1032192 := rfl
  have e3 : ([-4000] : List Int).getD 0 0 = -4000 := rfl
  refine newAt_uniq ?_ ?_ ?_ ?_ ?_ ?_ fun p h1 h2 h3 => ?_
  all_goals simp only [pts_near, pts_diff, e1, e2, e3] at *
  all_goals omega
theorem far2 : newAt [96] (pts 512) 0 4096 0 = 257 := by
  have e1 : loB [96] 0 = -1032192 := rfl
  have e2 : hiB [96] 0 = 1032192 := rfl
  have e3 : ([96] : List Int).getD 0 0 = 96 := rfl
  refine newAt_uniq ?_ ?_ ?_ ?_ ?_ ?_ fun p h1 h2 h3 => ?_
  all_goals simp only [pts_near, pts_diff, e1, e2, e3] at *
  all_goals omega
theorem far3 : newAt [257] (pts 512) 0 4096 0 = 257 := by
  unfold newAt
  rw [pts_near, show ([257] : List Int).getD 0 0 = 257 from rfl, pts_diff]
  exact if_pos (by omega)
theorem round1 (b v : Int) (h : newAt [b] (pts 512) 0 4096 0 = v) : roundL [b] (pts 512) 4096 0 = [v] := by
  show ([b] : List Int).set 0 (newAt [b] (pts 512) 0 4096 0) = [v]
  rw [h]; rfl
theorem pts_right : rightB (pts 512) = true := by
  simp only [rightB, Bool.and_eq_true, decide_eq_true_eq, Bool.not_eq_true', List.any_eq_false]
  refine ⟨by rw [pts_len]; omega, fun x hx => ?_⟩
  obtain ⟨i, hi, rfl⟩ := List.mem_map.1 hx
  rw [List.mem_range] at hi
  simp only [outP, Bool.or_eq_true, decide_eq_true_eq]
  omega
theorem settleN_far (n : Nat) : settleN (pts 512) 4096 0 (n + 1 + 1 + 1) [-4000] = ([257], 2) := by
  have r1 := round1 _ _ far1
  have r2 := round1 _ _ far2
  have r3 := round1 _ _ far3
  generalize pts 512 = ps at *
  rw [settleN, r1, if_neg (by simp), settleN, r2, if_neg (by simp), settleN, r3, if_pos rfl]
theorem settle_ok : settleB [-4000] (pts 512) 4096 0 1000 = true := by
  have hr := pts_right
  generalize pts 512 = ps at *
  simp only [settleB, fitsB, hr]
  decide
theorem settle_far : settleOut [-4000] (manyL.drop 1) 4096 0 1000 = ([257], 2) ∧ settleB [-4000] (manyL.drop 1) 4096 0 1000 = true := by
  rw [many_drop]
  have h2 := settleN_far 997
  have h1 := settle_ok
  generalize pts 512 = ps at *
  refine ⟨?_, h1⟩
  unfold settleOut
  rw [if_pos h1]
  exact h2
end Go.Proofs.YtdlpnjofdpcjjaaGreat
