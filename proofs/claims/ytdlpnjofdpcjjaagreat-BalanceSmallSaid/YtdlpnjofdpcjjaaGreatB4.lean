/- Package balance: where a border is moved. -/
import Derived.Test.YtdlpnjofdpcjjaaGreatB3
namespace Go.Proofs.YtdlpnjofdpcjjaaGreat
open Go.Fw Go.RowKit

def loB (bs : List Int) (i : Nat) : Int := if 0 < i then bs.getD (i - 1) 0 + 16384 else -1032192
def hiB (bs : List Int) (i : Nat) : Int := if i + 1 < bs.length then bs.getD (i + 1) 0 - 16384 else 1032192
def leastOf (bs : List Int) (i : Nat) : Int := if 0 < i then bs.getD (i - 1) 0 else -1048576
def mostOf (bs : List Int) (i : Nat) : Int := if i + 1 < bs.length then bs.getD (i + 1) 0 else 1048577
def nearOf (bs ps : List Int) (i : Nat) : List Int := between (leastOf bs i) (mostOf bs i - 1) ps
def twoOf (lo hi x : Int) : List Int := between lo hi [x, x + 1]
def placesOf (lo hi b : Int) (near : List Int) : List Int := between lo hi [b, lo, hi] ++ near.flatMap (twoOf lo hi)
def bestOf (b : Int) (l : List Spot) : Spot := minF (cmpSpot b) (l.getD 0 Flat.dflt) (l.drop 1)
def newAt (bs ps : List Int) (i : Nat) (step slack : Int) : Int :=
  if diffAt (nearOf bs ps i) (bs.getD i 0) ≤ slack then bs.getD i 0
  else (bestOf (bs.getD i 0) ((placesOf (max (loB bs i) (bs.getD i 0 - step)) (min (hiB bs i) (bs.getD i 0 + step)) (bs.getD i 0) (nearOf bs ps i)).map (spotAt (nearOf bs ps i)))).at_
/-- The borders keep their distances. -/
def Good (bs : List Int) : Prop := ∀ i, i < bs.length → loB bs i ≤ bs.getD i 0 ∧ bs.getD i 0 ≤ hiB bs i

theorem good_lo {bs : List Int} (h : Good bs) : ∀ i, i < bs.length → -1032192 ≤ bs.getD i 0
  | 0, hi => by have := (h 0 hi).1; simpa [loB] using this
  | i + 1, hi => by
    have h1 := (h (i + 1) hi).1
    have h2 := good_lo h i (by omega)
    simp only [loB, Nat.zero_lt_succ, if_true, Nat.add_sub_cancel] at h1
    omega
theorem good_hi {bs : List Int} (h : Good bs) : ∀ n i, i < bs.length → bs.length - i = n → bs.getD i 0 ≤ 1032192
  | 0, i, hi, hn => by omega
  | n + 1, i, hi, hn => by
    have h1 := (h i hi).2
    unfold hiB at h1
    split at h1
    · have h2 := good_hi h n (i + 1) (by omega) (by omega)
      omega
    · exact h1
theorem good_rng {bs : List Int} (h : Good bs) {i : Nat} (hi : i < bs.length) : -1032192 ≤ bs.getD i 0 ∧ bs.getD i 0 ≤ 1032192 := ⟨good_lo h i hi, good_hi h _ i hi rfl⟩
theorem getD_set_self (l : List Int) (i : Nat) (v : Int) (h : i < l.length) : (l.set i v).getD i 0 = v := by simp [h]
theorem getD_set_ne' (l : List Int) (i j : Nat) (v : Int) (h : i ≠ j) : (l.set i v).getD j 0 = l.getD j 0 := by simp [List.getElem?_set_ne h]
theorem good_set {bs : List Int} (h : Good bs) {i : Nat} (hi : i < bs.length) {v : Int} (h1 : loB bs i ≤ v) (h2 : v ≤ hiB bs i) : Good (bs.set i v) := by
  intro j hj
  rw [List.length_set] at hj
  have hg := h j hj
  unfold loB hiB at *
  rw [List.length_set]
  by_cases hij : i = j
  · subst hij
    rw [getD_set_self _ _ _ hi, getD_set_ne' bs i (i + 1) v (by omega)]
    refine ⟨?_, h2⟩
    by_cases h0 : 0 < i
    · rw [if_pos h0] at h1 ⊢
      rw [getD_set_ne' bs i (i - 1) v (by omega)]; exact h1
    · rw [if_neg h0] at h1 ⊢; exact h1
  · rw [getD_set_ne' _ _ _ _ hij]
    by_cases h3 : j = i + 1
    · subst h3
      simp only [Nat.zero_lt_succ, if_true, Nat.add_sub_cancel] at hg ⊢
      rw [getD_set_self _ _ _ hi, getD_set_ne' bs i (i + 1 + 1) v (by omega)]
      rw [if_pos hj] at h2
      exact ⟨by omega, hg.2⟩
    · by_cases h4 : j + 1 = i
      · subst h4
        rw [getD_set_self _ _ _ hi]
        simp only [Nat.zero_lt_succ, if_true, Nat.add_sub_cancel, if_pos hi] at h1 hg ⊢
        refine ⟨?_, by omega⟩
        by_cases h0 : 0 < j
        · rw [if_pos h0] at hg ⊢
          rw [getD_set_ne' bs (j + 1) (j - 1) v (by omega)]; exact hg.1
        · rw [if_neg h0] at hg ⊢; exact hg.1
      · rw [getD_set_ne' _ _ _ _ (show i ≠ j - 1 by omega), getD_set_ne' _ _ _ _ (show i ≠ j + 1 by omega)]
        exact hg
theorem minF_mem {α : Type} (c : α → α → Int) : ∀ (l : List α) (m : α), minF c m l = m ∨ minF c m l ∈ l
  | [], m => .inl rfl
  | x :: l, m => by
    simp only [minF, List.foldl_cons]
    rcases minF_mem c l (if c x m < 0 then x else m) with h | h
    · unfold minF at h
      rw [h]
      split
      · exact .inr (by simp)
      · exact .inl rfl
    · exact .inr (List.mem_cons_of_mem _ h)
theorem bestOf_mem (b : Int) (l : List Spot) (h : 0 < l.length) : bestOf b l ∈ l := by
  unfold bestOf
  rcases minF_mem (cmpSpot b) (l.drop 1) (l.getD 0 Flat.dflt) with h' | h'
  · rw [h']; exact getD_mem h
  · exact List.mem_of_mem_drop h'
theorem between_mem {lo hi x : Int} {l : List Int} (h : x ∈ between lo hi l) : lo ≤ x ∧ x ≤ hi ∧ x ∈ l := by
  unfold between offB at h
  rw [List.mem_filter] at h
  have := h.2
  simp only [Bool.not_eq_true', Bool.or_eq_false_iff, decide_eq_false_iff_not] at this
  exact ⟨by omega, by omega, h.1⟩
theorem mem_between {lo hi x : Int} {l : List Int} (h : x ∈ l) (h1 : lo ≤ x) (h2 : x ≤ hi) : x ∈ between lo hi l := by
  unfold between offB
  rw [List.mem_filter]
  refine ⟨h, ?_⟩
  simp only [Bool.not_eq_true', Bool.or_eq_false_iff, decide_eq_false_iff_not]
  omega
theorem between_len (lo hi : Int) (l : List Int) : (between lo hi l).length ≤ l.length := List.length_filter_le _ _
theorem placesOf_mem {lo hi b x : Int} {near : List Int} (h : x ∈ placesOf lo hi b near) : lo ≤ x ∧ x ≤ hi := by
  unfold placesOf twoOf at h
  rcases List.mem_append.1 h with h | h
  · exact ⟨(between_mem h).1, (between_mem h).2.1⟩
  · obtain ⟨_, _, h⟩ := List.mem_flatMap.1 h
    exact ⟨(between_mem h).1, (between_mem h).2.1⟩
theorem placesOf_pos {lo hi b : Int} {near : List Int} (h1 : lo ≤ b) (h2 : b ≤ hi) : 0 < (placesOf lo hi b near).length :=
  List.length_pos_of_mem (List.mem_append_left _ (mem_between (by simp) h1 h2))
theorem placesOf_len (lo hi b : Int) (near : List Int) : (placesOf lo hi b near).length ≤ 3 + 2 * near.length := by
  unfold placesOf
  have h1 := between_len lo hi [b, lo, hi]
  have h2 : (near.flatMap (twoOf lo hi)).length ≤ 2 * near.length := by
    induction near with
    | nil => simp
    | cons x l ih =>
      rw [List.flatMap_cons, List.length_append, List.length_cons]
      have := between_len lo hi [x, x + 1]
      unfold twoOf at *
      simp only [List.length_cons, List.length_nil] at this
      omega
  rw [List.length_append]
  simp only [List.length_cons, List.length_nil] at h1
  omega
theorem newAt_rng {bs ps : List Int} {i : Nat} {step slack : Int} (h1 : loB bs i ≤ bs.getD i 0) (h2 : bs.getD i 0 ≤ hiB bs i) (hs : 0 ≤ step) :
    loB bs i ≤ newAt bs ps i step slack ∧ newAt bs ps i step slack ≤ hiB bs i ∧ bs.getD i 0 - step ≤ newAt bs ps i step slack ∧ newAt bs ps i step slack ≤ bs.getD i 0 + step := by
  unfold newAt
  split
  · omega
  · have hp := placesOf_pos (lo := max (loB bs i) (bs.getD i 0 - step)) (hi := min (hiB bs i) (bs.getD i 0 + step)) (b := bs.getD i 0) (near := nearOf bs ps i) (by omega) (by omega)
    have hm := bestOf_mem (bs.getD i 0) ((placesOf (max (loB bs i) (bs.getD i 0 - step)) (min (hiB bs i) (bs.getD i 0 + step)) (bs.getD i 0) (nearOf bs ps i)).map (spotAt (nearOf bs ps i))) (by simpa using hp)
    obtain ⟨x, hx, he⟩ := List.mem_map.1 hm
    have := placesOf_mem hx
    rw [← he]
    simp only [spotAt]
    omega

theorem placesOf_snoc (lo hi b x : Int) (l : List Int) : placesOf lo hi b (l ++ [x]) = placesOf lo hi b l ++ between lo hi [x, x + 1] := by
  unfold placesOf twoOf
  rw [List.flatMap_append, List.append_assoc]
  simp
theorem placesOf_nil (lo hi b : Int) (l : List Int) : placesOf lo hi b (l.take 0) = between lo hi [b, lo, hi] := by
  unfold placesOf; simp
def In20 (x : Int) : Prop := -1048576 ≤ x ∧ x ≤ 1048576
set_option maxHeartbeats 1000000 in
set_option maxRecDepth 100000 in
theorem move_spec (A B : Option Addr) (bs ps : List Int) (c1 c2 i : Nat) (step slack : Int) (w0 : World) (H : List HP) (w : World) (hlen : bs.length ≤ 5) (hi : i < bs.length) (hps : ps.length ≤ 512)
    (hg : Good bs) (hpb : ∀ x ∈ ps, In20 x) (hs0 : 0 ≤ step) (hs1 : step ≤ 4096) (hB : Rd w0 B ps) (hw : Wd w0 (orow 3 A c1 bs :: H) w) :
    Ret Tryz.prog 35 [.slice A bs.length c1, .slice B ps.length c2, .int .i64 i, .int .i64 step, .int .i64 slack].toArray w
      (RP w0 fun v H' => v = .tuple #[] ∧ H' = orow 3 A c1 (bs.set i (newAt bs ps i step slack)) :: H) := by
  obtain ⟨hb1, hb2⟩ := good_rng hg hi
  obtain ⟨hg1, hg2⟩ := hg i hi
  refine enterH Tryz.func35 rfl rfl Tryz.ntmps35 rfl (by assumption) ?_
  (repeat (first | (show VH _ _ _ _ _ _ _; first | refine v_seq ?_ | refine r_seq ?_ | refine r_quiet hmix (by kernel_rfl) ?_ | refine v_block ?_ | refine v_ret ?_ | refine v_skip ?_ | refine v_exit ?_ | refine v_label ?_) | (show SH _ _ _ _ _ (_ :: _) _ _ _; first | (show SH _ _ _ _ _ (⟨_, .move _, _, _, _, _⟩ :: _) _ _ _; first | refine mov evL ?_) | (show SH _ _ _ _ _ (⟨_, .assign _, _, _, _, _⟩ :: _) _ _ _; first | refine asg evL ?_) | (show SH _ _ _ _ _ (⟨_, .binOp _ _ _ _ _, _, _, _, _⟩ :: _) _ _ _; first | refine add rfl rfl inL ?_ | refine sub rfl rfl inL ?_ | refine lss rfl rfl ?_ | refine leq rfl rfl ?_ | refine gtr rfl rfl ?_) | (show SH _ _ _ _ _ (⟨_, .load _ _, _, _, _, _⟩ :: _) _ _ _; first | refine lsl rfl (fun _ _ => rdL) omL (by assumption) ?_ | refine lin rfl (fun _ _ => rdL) omL ?_ | refine lbx rfl spL (by rfl) ?_ | refine lba rfl spL (by rfl) ?_ | refine lbi rfl spL omL ?_ | refine lr1 rfl (fun _ _ => rdL) (by rfl) omL (by rfl) ?_ | refine lra rfl (fun _ _ => rdL) (by rfl) omL ?_ | refine lrf rfl (fun _ _ => rdL) (by rfl) omL (by rfl) ?_ | refine lcell rfl (fun w hw => hw.ext.cell (by assumption)) ?_) | (show SH _ _ _ _ _ (⟨_, .indexAddr _ _ _, _, _, _, _⟩ :: _) _ _ _; first | refine ix rfl rfl (by with_reducible rfl) (fun _ _ => rdL) (by rfl) omL omL ?_ | refine ixi rfl rfl (fun _ _ => rdL) (by rfl) omL omL omL ?_ | refine ixb rfl rfl omL ?_) | (show SH _ _ _ _ _ (⟨_, .call ⟨.builtin _, _, _⟩, _, _, _, _⟩ :: _) _ _ _; first | refine slen rfl ?_ | refine bmax rfl rfl ?_ | refine bmin rfl rfl ?_) | refine fvl rfl rfl ?_ | refine mf0 ?_ | refine mf1 evL ?_ | refine mf2 evL evL ?_ | refine mf3 evL evL evL ?_ | refine mfb evL ?_ | refine al1 rfl (fun b => ?_) | refine ala rfl (fun b => ?_) | refine stb rfl rfl evL spL rfl rfl (by first | decide | exact Nat.zero_lt_succ _ | exact of_decide_eq_true rfl) kpL ?_ | refine sta rfl rfl rfl spL (by rfl) (by rfl) (by rfl) kpL ?_ | refine sti rfl rfl rfl spL omL kpL ?_ | refine sbi rfl rfl rfl spL omL kpL ?_ | refine bsl (α := Int) rfl rfl (by repeat (first | exact Vals.nil | (apply Vals.cons; rfl))) rfl (by rfl) (by decide) (fun b => ?_)) | refine s_nil ?_ | refine kh_normal ?_ | refine kh_ret ?_ | refine kh_exit ?_ | refine bh_normal ?_ | refine bh_ret ?_ | refine bh_exit ?_ | refine bh_exit_ne rfl ?_))
  refine v_cut0 [(11, 11), (13, 13), (29, 39)] (fun y : Int × Int => [(11, .int .i64 y.1), (13, .int .i64 y.2)]) (fun y => y = (loB bs i, leastOf bs i)) ?_ ?_ ent_vh
  · by_cases h0 : 0 < i
    · have := good_rng hg (i := i - 1) (by omega)
      have hq : ((i : Int) - 1).toNat = i - 1 := by omega
      have hqb : -1032192 ≤ bs.getD ((i : Int) - 1).toNat 0 ∧ bs.getD ((i : Int) - 1).toNat 0 ≤ 1032192 := by rw [hq]; exact this
      (repeat' (first | (show VH _ _ _ _ _ _ _; first | refine v_seq ?_ | refine r_seq ?_ | refine r_quiet hmix (by kernel_rfl) ?_ | refine v_block ?_ | refine v_ret ?_ | refine v_skip ?_ | refine v_exit ?_ | refine v_label ?_ | refine v_cond_t rfl tbL ?_ | refine v_cond_f rfl tbL ?_ | refine v_cond_dec rfl (fun h => ?_) (fun h => ?_) | refine v_cond_ndec rfl (fun h => ?_) (fun h => ?_) | refine v_cond rfl (fun h => ?_) (fun h => ?_)) | (show SH _ _ _ _ _ (_ :: _) _ _ _; first | (show SH _ _ _ _ _ (⟨_, .move _, _, _, _, _⟩ :: _) _ _ _; first | refine mov evL ?_) | (show SH _ _ _ _ _ (⟨_, .assign _, _, _, _, _⟩ :: _) _ _ _; first | refine asg evL ?_) | (show SH _ _ _ _ _ (⟨_, .binOp _ _ _ _ _, _, _, _, _⟩ :: _) _ _ _; first | refine add rfl rfl inL ?_ | refine sub rfl rfl inL ?_ | refine lss rfl rfl ?_ | refine leq rfl rfl ?_ | refine gtr rfl rfl ?_) | (show SH _ _ _ _ _ (⟨_, .load _ _, _, _, _, _⟩ :: _) _ _ _; first | refine lsl rfl (fun _ _ => rdL) omL (by assumption) ?_ | refine lin rfl (fun _ _ => rdL) omL ?_ | refine lbx rfl spL (by rfl) ?_ | refine lba rfl spL (by rfl) ?_ | refine lbi rfl spL omL ?_ | refine lr1 rfl (fun _ _ => rdL) (by rfl) omL (by rfl) ?_ | refine lra rfl (fun _ _ => rdL) (by rfl) omL ?_ | refine lrf rfl (fun _ _ => rdL) (by rfl) omL (by rfl) ?_ | refine lcell rfl (fun w hw => hw.ext.cell (by assumption)) ?_) | (show SH _ _ _ _ _ (⟨_, .indexAddr _ _ _, _, _, _, _⟩ :: _) _ _ _; first | refine ix rfl rfl (by with_reducible rfl) (fun _ _ => rdL) (by rfl) omL omL ?_ | refine ixi rfl rfl (fun _ _ => rdL) (by rfl) omL omL omL ?_ | refine ixb rfl rfl omL ?_) | (show SH _ _ _ _ _ (⟨_, .call ⟨.builtin _, _, _⟩, _, _, _, _⟩ :: _) _ _ _; first | refine slen rfl ?_ | refine bmax rfl rfl ?_ | refine bmin rfl rfl ?_) | refine fvl rfl rfl ?_ | refine mf0 ?_ | refine mf1 evL ?_ | refine mf2 evL evL ?_ | refine mf3 evL evL evL ?_ | refine mfb evL ?_ | refine al1 rfl (fun b => ?_) | refine ala rfl (fun b => ?_) | refine stb rfl rfl evL spL rfl rfl (by first | decide | exact Nat.zero_lt_succ _ | exact of_decide_eq_true rfl) kpL ?_ | refine sta rfl rfl rfl spL (by rfl) (by rfl) (by rfl) kpL ?_ | refine sti rfl rfl rfl spL omL kpL ?_ | refine sbi rfl rfl rfl spL omL kpL ?_ | refine bsl (α := Int) rfl rfl (by repeat (first | exact Vals.nil | (apply Vals.cons; rfl))) rfl (by rfl) (by decide) (fun b => ?_)) | refine s_nil ?_ | refine kh_normal ?_ | refine kh_ret ?_ | refine kh_exit ?_ | refine bh_normal ?_ | refine bh_ret ?_ | refine bh_exit ?_ | refine bh_exit_ne rfl ?_))
      refine ⟨agL, (loB bs i, leastOf bs i), ⟨?_, ?_, trivial⟩, ent_refl _, rfl⟩
      · exact congrArg (Value.int .i64) (by simp only [loB, h0, if_true, hq])
      · exact congrArg (Value.int .i64) (by simp only [leastOf, h0, if_true, hq])
    · (repeat' (first | (show VH _ _ _ _ _ _ _; first | refine v_seq ?_ | refine r_seq ?_ | refine r_quiet hmix (by kernel_rfl) ?_ | refine v_block ?_ | refine v_ret ?_ | refine v_skip ?_ | refine v_exit ?_ | refine v_label ?_ | refine v_cond_t rfl tbL ?_ | refine v_cond_f rfl tbL ?_ | refine v_cond_dec rfl (fun h => ?_) (fun h => ?_) | refine v_cond_ndec rfl (fun h => ?_) (fun h => ?_) | refine v_cond rfl (fun h => ?_) (fun h => ?_)) | (show SH _ _ _ _ _ (_ :: _) _ _ _; first | (show SH _ _ _ _ _ (⟨_, .move _, _, _, _, _⟩ :: _) _ _ _; first | refine mov evL ?_) | (show SH _ _ _ _ _ (⟨_, .assign _, _, _, _, _⟩ :: _) _ _ _; first | refine asg evL ?_) | (show SH _ _ _ _ _ (⟨_, .binOp _ _ _ _ _, _, _, _, _⟩ :: _) _ _ _; first | refine add rfl rfl inL ?_ | refine sub rfl rfl inL ?_ | refine lss rfl rfl ?_ | refine leq rfl rfl ?_ | refine gtr rfl rfl ?_) | (show SH _ _ _ _ _ (⟨_, .load _ _, _, _, _, _⟩ :: _) _ _ _; first | refine lsl rfl (fun _ _ => rdL) omL (by assumption) ?_ | refine lin rfl (fun _ _ => rdL) omL ?_ | refine lbx rfl spL (by rfl) ?_ | refine lba rfl spL (by rfl) ?_ | refine lbi rfl spL omL ?_ | refine lr1 rfl (fun _ _ => rdL) (by rfl) omL (by rfl) ?_ | refine lra rfl (fun _ _ => rdL) (by rfl) omL ?_ | refine lrf rfl (fun _ _ => rdL) (by rfl) omL (by rfl) ?_ | refine lcell rfl (fun w hw => hw.ext.cell (by assumption)) ?_) | (show SH _ _ _ _ _ (⟨_, .indexAddr _ _ _, _, _, _, _⟩ :: _) _ _ _; first | refine ix rfl rfl (by with_reducible rfl) (fun _ _ => rdL) (by rfl) omL omL ?_ | refine ixi rfl rfl (fun _ _ => rdL) (by rfl) omL omL omL ?_ | refine ixb rfl rfl omL ?_) | (show SH _ _ _ _ _ (⟨_, .call ⟨.builtin _, _, _⟩, _, _, _, _⟩ :: _) _ _ _; first | refine slen rfl ?_ | refine bmax rfl rfl ?_ | refine bmin rfl rfl ?_) | refine fvl rfl rfl ?_ | refine mf0 ?_ | refine mf1 evL ?_ | refine mf2 evL evL ?_ | refine mf3 evL evL evL ?_ | refine mfb evL ?_ | refine al1 rfl (fun b => ?_) | refine ala rfl (fun b => ?_) | refine stb rfl rfl evL spL rfl rfl (by first | decide | exact Nat.zero_lt_succ _ | exact of_decide_eq_true rfl) kpL ?_ | refine sta rfl rfl rfl spL (by rfl) (by rfl) (by rfl) kpL ?_ | refine sti rfl rfl rfl spL omL kpL ?_ | refine sbi rfl rfl rfl spL omL kpL ?_ | refine bsl (α := Int) rfl rfl (by repeat (first | exact Vals.nil | (apply Vals.cons; rfl))) rfl (by rfl) (by decide) (fun b => ?_)) | refine s_nil ?_ | refine kh_normal ?_ | refine kh_ret ?_ | refine kh_exit ?_ | refine bh_normal ?_ | refine bh_ret ?_ | refine bh_exit ?_ | refine bh_exit_ne rfl ?_))
      refine ⟨agL, (loB bs i, leastOf bs i), ⟨?_, ?_, trivial⟩, ent_refl _, rfl⟩
      · exact congrArg (Value.int .i64) (by simp only [loB, h0, if_false])
      · exact congrArg (Value.int .i64) (by simp only [leastOf, h0, if_false])
  rintro _ g rfl
  refine v_norm [(0,_),(1,_),(2,_),(3,_),(4,_),(10,_),(11,_),(12,_),(13,_),(14,_)] heL (fun g => ?_)
  simp only [sets]
  (repeat (first | (show VH _ _ _ _ _ _ _; first | refine v_seq ?_ | refine r_seq ?_ | refine r_quiet hmix (by kernel_rfl) ?_ | refine v_block ?_ | refine v_ret ?_ | refine v_skip ?_ | refine v_exit ?_ | refine v_label ?_) | (show SH _ _ _ _ _ (_ :: _) _ _ _; first | (show SH _ _ _ _ _ (⟨_, .move _, _, _, _, _⟩ :: _) _ _ _; first | refine mov evL ?_) | (show SH _ _ _ _ _ (⟨_, .assign _, _, _, _, _⟩ :: _) _ _ _; first | refine asg evL ?_) | (show SH _ _ _ _ _ (⟨_, .binOp _ _ _ _ _, _, _, _, _⟩ :: _) _ _ _; first | refine add rfl rfl inL ?_ | refine sub rfl rfl inL ?_ | refine lss rfl rfl ?_ | refine leq rfl rfl ?_ | refine gtr rfl rfl ?_) | (show SH _ _ _ _ _ (⟨_, .load _ _, _, _, _, _⟩ :: _) _ _ _; first | refine lsl rfl (fun _ _ => rdL) omL (by assumption) ?_ | refine lin rfl (fun _ _ => rdL) omL ?_ | refine lbx rfl spL (by rfl) ?_ | refine lba rfl spL (by rfl) ?_ | refine lbi rfl spL omL ?_ | refine lr1 rfl (fun _ _ => rdL) (by rfl) omL (by rfl) ?_ | refine lra rfl (fun _ _ => rdL) (by rfl) omL ?_ | refine lrf rfl (fun _ _ => rdL) (by rfl) omL (by rfl) ?_ | refine lcell rfl (fun w hw => hw.ext.cell (by assumption)) ?_) | (show SH _ _ _ _ _ (⟨_, .indexAddr _ _ _, _, _, _, _⟩ :: _) _ _ _; first | refine ix rfl rfl (by with_reducible rfl) (fun _ _ => rdL) (by rfl) omL omL ?_ | refine ixi rfl rfl (fun _ _ => rdL) (by rfl) omL omL omL ?_ | refine ixb rfl rfl omL ?_) | (show SH _ _ _ _ _ (⟨_, .call ⟨.builtin _, _, _⟩, _, _, _, _⟩ :: _) _ _ _; first | refine slen rfl ?_ | refine bmax rfl rfl ?_ | refine bmin rfl rfl ?_) | refine fvl rfl rfl ?_ | refine mf0 ?_ | refine mf1 evL ?_ | refine mf2 evL evL ?_ | refine mf3 evL evL evL ?_ | refine mfb evL ?_ | refine al1 rfl (fun b => ?_) | refine ala rfl (fun b => ?_) | refine stb rfl rfl evL spL rfl rfl (by first | decide | exact Nat.zero_lt_succ _ | exact of_decide_eq_true rfl) kpL ?_ | refine sta rfl rfl rfl spL (by rfl) (by rfl) (by rfl) kpL ?_ | refine sti rfl rfl rfl spL omL kpL ?_ | refine sbi rfl rfl rfl spL omL kpL ?_ | refine bsl (α := Int) rfl rfl (by repeat (first | exact Vals.nil | (apply Vals.cons; rfl))) rfl (by rfl) (by decide) (fun b => ?_)) | refine s_nil ?_ | refine kh_normal ?_ | refine kh_ret ?_ | refine kh_exit ?_ | refine bh_normal ?_ | refine bh_ret ?_ | refine bh_exit ?_ | refine bh_exit_ne rfl ?_))
  refine v_cut0 [(12, 12), (14, 14), (45, 55)] (fun y : Int × Int => [(12, .int .i64 y.1), (14, .int .i64 y.2)]) (fun y => y = (hiB bs i, mostOf bs i)) ?_ ?_ ent_vh
  · by_cases h0 : i + 1 < bs.length
    · have := good_rng hg (i := i + 1) h0
      have hq : ((i : Int) + 1).toNat = i + 1 := by omega
      have hqb : -1032192 ≤ bs.getD ((i : Int) + 1).toNat 0 ∧ bs.getD ((i : Int) + 1).toNat 0 ≤ 1032192 := by rw [hq]; exact this
      (repeat' (first | (show VH _ _ _ _ _ _ _; first | refine v_seq ?_ | refine r_seq ?_ | refine r_quiet hmix (by kernel_rfl) ?_ | refine v_block ?_ | refine v_ret ?_ | refine v_skip ?_ | refine v_exit ?_ | refine v_label ?_ | refine v_cond_t rfl tbL ?_ | refine v_cond_f rfl tbL ?_ | refine v_cond_dec rfl (fun h => ?_) (fun h => ?_) | refine v_cond_ndec rfl (fun h => ?_) (fun h => ?_) | refine v_cond rfl (fun h => ?_) (fun h => ?_)) | (show SH _ _ _ _ _ (_ :: _) _ _ _; first | (show SH _ _ _ _ _ (⟨_, .move _, _, _, _, _⟩ :: _) _ _ _; first | refine mov evL ?_) | (show SH _ _ _ _ _ (⟨_, .assign _, _, _, _, _⟩ :: _) _ _ _; first | refine asg evL ?_) | (show SH _ _ _ _ _ (⟨_, .binOp _ _ _ _ _, _, _, _, _⟩ :: _) _ _ _; first | refine add rfl rfl inL ?_ | refine sub rfl rfl inL ?_ | refine lss rfl rfl ?_ | refine leq rfl rfl ?_ | refine gtr rfl rfl ?_) | (show SH _ _ _ _ _ (⟨_, .load _ _, _, _, _, _⟩ :: _) _ _ _; first | refine lsl rfl (fun _ _ => rdL) omL (by assumption) ?_ | refine lin rfl (fun _ _ => rdL) omL ?_ | refine lbx rfl spL (by rfl) ?_ | refine lba rfl spL (by rfl) ?_ | refine lbi rfl spL omL ?_ | refine lr1 rfl (fun _ _ => rdL) (by rfl) omL (by rfl) ?_ | refine lra rfl (fun _ _ => rdL) (by rfl) omL ?_ | refine lrf rfl (fun _ _ => rdL) (by rfl) omL (by rfl) ?_ | refine lcell rfl (fun w hw => hw.ext.cell (by assumption)) ?_) | (show SH _ _ _ _ _ (⟨_, .indexAddr _ _ _, _, _, _, _⟩ :: _) _ _ _; first | refine ix rfl rfl (by with_reducible rfl) (fun _ _ => rdL) (by rfl) omL omL ?_ | refine ixi rfl rfl (fun _ _ => rdL) (by rfl) omL omL omL ?_ | refine ixb rfl rfl omL ?_) | (show SH _ _ _ _ _ (⟨_, .call ⟨.builtin _, _, _⟩, _, _, _, _⟩ :: _) _ _ _; first | refine slen rfl ?_ | refine bmax rfl rfl ?_ | refine bmin rfl rfl ?_) | refine fvl rfl rfl ?_ | refine mf0 ?_ | refine mf1 evL ?_ | refine mf2 evL evL ?_ | refine mf3 evL evL evL ?_ | refine mfb evL ?_ | refine al1 rfl (fun b => ?_) | refine ala rfl (fun b => ?_) | refine stb rfl rfl evL spL rfl rfl (by first | decide | exact Nat.zero_lt_succ _ | exact of_decide_eq_true rfl) kpL ?_ | refine sta rfl rfl rfl spL (by rfl) (by rfl) (by rfl) kpL ?_ | refine sti rfl rfl rfl spL omL kpL ?_ | refine sbi rfl rfl rfl spL omL kpL ?_ | refine bsl (α := Int) rfl rfl (by repeat (first | exact Vals.nil | (apply Vals.cons; rfl))) rfl (by rfl) (by decide) (fun b => ?_)) | refine s_nil ?_ | refine kh_normal ?_ | refine kh_ret ?_ | refine kh_exit ?_ | refine bh_normal ?_ | refine bh_ret ?_ | refine bh_exit ?_ | refine bh_exit_ne rfl ?_))
      refine ⟨agL, (hiB bs i, mostOf bs i), ⟨?_, ?_, trivial⟩, ent_refl _, rfl⟩
      · exact congrArg (Value.int .i64) (by simp only [hiB, h0, if_true, hq])
      · exact congrArg (Value.int .i64) (by simp only [mostOf, h0, if_true, hq])
    · (repeat' (first | (show VH _ _ _ _ _ _ _; first | refine v_seq ?_ | refine r_seq ?_ | refine r_quiet hmix (by kernel_rfl) ?_ | refine v_block ?_ | refine v_ret ?_ | refine v_skip ?_ | refine v_exit ?_ | refine v_label ?_ | refine v_cond_t rfl tbL ?_ | refine v_cond_f rfl tbL ?_ | refine v_cond_dec rfl (fun h => ?_) (fun h => ?_) | refine v_cond_ndec rfl (fun h => ?_) (fun h => ?_) | refine v_cond rfl (fun h => ?_) (fun h => ?_)) | (show SH _ _ _ _ _ (_ :: _) _ _ _; first | (show SH _ _ _ _ _ (⟨_, .move _, _, _, _, _⟩ :: _) _ _ _; first | refine mov evL ?_) | (show SH _ _ _ _ _ (⟨_, .assign _, _, _, _, _⟩ :: _) _ _ _; first | refine asg evL ?_) | (show SH _ _ _ _ _ (⟨_, .binOp _ _ _ _ _, _, _, _, _⟩ :: _) _ _ _; first | refine add rfl rfl inL ?_ | refine sub rfl rfl inL ?_ | refine lss rfl rfl ?_ | refine leq rfl rfl ?_ | refine gtr rfl rfl ?_) | (show SH _ _ _ _ _ (⟨_, .load _ _, _, _, _, _⟩ :: _) _ _ _; first | refine lsl rfl (fun _ _ => rdL) omL (by assumption) ?_ | refine lin rfl (fun _ _ => rdL) omL ?_ | refine lbx rfl spL (by rfl) ?_ | refine lba rfl spL (by rfl) ?_ | refine lbi rfl spL omL ?_ | refine lr1 rfl (fun _ _ => rdL) (by rfl) omL (by rfl) ?_ | refine lra rfl (fun _ _ => rdL) (by rfl) omL ?_ | refine lrf rfl (fun _ _ => rdL) (by rfl) omL (by rfl) ?_ | refine lcell rfl (fun w hw => hw.ext.cell (by assumption)) ?_) | (show SH _ _ _ _ _ (⟨_, .indexAddr _ _ _, _, _, _, _⟩ :: _) _ _ _; first | refine ix rfl rfl (by with_reducible rfl) (fun _ _ => rdL) (by rfl) omL omL ?_ | refine ixi rfl rfl (fun _ _ => rdL) (by rfl) omL omL omL ?_ | refine ixb rfl rfl omL ?_) | (show SH _ _ _ _ _ (⟨_, .call ⟨.builtin _, _, _⟩, _, _, _, _⟩ :: _) _ _ _; first | refine slen rfl ?_ | refine bmax rfl rfl ?_ | refine bmin rfl rfl ?_) | refine fvl rfl rfl ?_ | refine mf0 ?_ | refine mf1 evL ?_ | refine mf2 evL evL ?_ | refine mf3 evL evL evL ?_ | refine mfb evL ?_ | refine al1 rfl (fun b => ?_) | refine ala rfl (fun b => ?_) | refine stb rfl rfl evL spL rfl rfl (by first | decide | exact Nat.zero_lt_succ _ | exact of_decide_eq_true rfl) kpL ?_ | refine sta rfl rfl rfl spL (by rfl) (by rfl) (by rfl) kpL ?_ | refine sti rfl rfl rfl spL omL kpL ?_ | refine sbi rfl rfl rfl spL omL kpL ?_ | refine bsl (α := Int) rfl rfl (by repeat (first | exact Vals.nil | (apply Vals.cons; rfl))) rfl (by rfl) (by decide) (fun b => ?_)) | refine s_nil ?_ | refine kh_normal ?_ | refine kh_ret ?_ | refine kh_exit ?_ | refine bh_normal ?_ | refine bh_ret ?_ | refine bh_exit ?_ | refine bh_exit_ne rfl ?_))
      refine ⟨agL, (hiB bs i, mostOf bs i), ⟨?_, ?_, trivial⟩, ent_refl _, rfl⟩
      · exact congrArg (Value.int .i64) (by simp only [hiB, h0, if_false])
      · exact congrArg (Value.int .i64) (by simp only [mostOf, h0, if_false])
  rintro _ g2 rfl
  refine v_norm [(0,_),(1,_),(2,_),(3,_),(4,_),(10,_),(11,_),(12,_),(13,_),(14,_)] heL (fun g => ?_)
  simp only [sets]
  have hlb : -1048576 ≤ loB bs i ∧ loB bs i ≤ 1048576 := by
    unfold loB; split
    · have := good_rng hg (i := i - 1) (by omega); omega
    · omega
  have hhb : -1048576 ≤ hiB bs i ∧ hiB bs i ≤ 1048576 := by
    unfold hiB; split
    · have := good_rng hg (i := i + 1) (by omega); omega
    · omega
  have hmb : -1048576 ≤ mostOf bs i ∧ mostOf bs i ≤ 1048577 := by
    unfold mostOf; split
    · have := good_rng hg (i := i + 1) (by omega); omega
    · omega
  (repeat' (first | (show VH _ _ _ _ _ _ _; first | refine v_seq ?_ | refine r_seq ?_ | refine r_quiet hmix (by kernel_rfl) ?_ | refine v_block ?_ | refine v_ret ?_ | refine v_skip ?_ | refine v_exit ?_ | refine v_label ?_ | refine v_cond_t rfl tbL ?_ | refine v_cond_f rfl tbL ?_ | refine v_cond_dec rfl (fun h => ?_) (fun h => ?_) | refine v_cond_ndec rfl (fun h => ?_) (fun h => ?_) | refine v_cond rfl (fun h => ?_) (fun h => ?_)) | (show SH _ _ _ _ _ (_ :: _) _ _ _; first | (show SH _ _ _ _ _ (⟨_, .move _, _, _, _, _⟩ :: _) _ _ _; first | refine mov evL ?_) | (show SH _ _ _ _ _ (⟨_, .assign _, _, _, _, _⟩ :: _) _ _ _; first | refine asg evL ?_) | (show SH _ _ _ _ _ (⟨_, .binOp _ _ _ _ _, _, _, _, _⟩ :: _) _ _ _; first | refine add rfl rfl inL ?_ | refine sub rfl rfl inL ?_ | refine lss rfl rfl ?_ | refine leq rfl rfl ?_ | refine gtr rfl rfl ?_) | (show SH _ _ _ _ _ (⟨_, .load _ _, _, _, _, _⟩ :: _) _ _ _; first | refine lsl rfl (fun _ _ => rdL) omL (by assumption) ?_ | refine lin rfl (fun _ _ => rdL) omL ?_ | refine lbx rfl spL (by rfl) ?_ | refine lba rfl spL (by rfl) ?_ | refine lbi rfl spL omL ?_ | refine lr1 rfl (fun _ _ => rdL) (by rfl) omL (by rfl) ?_ | refine lra rfl (fun _ _ => rdL) (by rfl) omL ?_ | refine lrf rfl (fun _ _ => rdL) (by rfl) omL (by rfl) ?_ | refine lcell rfl (fun w hw => hw.ext.cell (by assumption)) ?_) | (show SH _ _ _ _ _ (⟨_, .indexAddr _ _ _, _, _, _, _⟩ :: _) _ _ _; first | refine ix rfl rfl (by with_reducible rfl) (fun _ _ => rdL) (by rfl) omL omL ?_ | refine ixi rfl rfl (fun _ _ => rdL) (by rfl) omL omL omL ?_ | refine ixb rfl rfl omL ?_) | (show SH _ _ _ _ _ (⟨_, .call ⟨.builtin _, _, _⟩, _, _, _, _⟩ :: _) _ _ _; first | refine slen rfl ?_ | refine bmax rfl rfl ?_ | refine bmin rfl rfl ?_) | (show SH _ _ _ _ _ (⟨_, .call ⟨.value (.func 24), _, _⟩, _, _, _, _⟩ :: _) _ _ _; refine cp (callee := .func 24) rfl (fun w hw => clone_spec B ps c2 w (by omega) (hB.ext hw.ext)) rfl rfl ?_) | refine fvl rfl rfl ?_ | refine mf0 ?_ | refine mf1 evL ?_ | refine mf2 evL evL ?_ | refine mf3 evL evL evL ?_ | refine mfb evL ?_ | refine al1 rfl (fun b => ?_) | refine ala rfl (fun b => ?_) | refine stb rfl rfl evL spL rfl rfl (by first | decide | exact Nat.zero_lt_succ _ | exact of_decide_eq_true rfl) kpL ?_ | refine sta rfl rfl rfl spL (by rfl) (by rfl) (by rfl) kpL ?_ | refine sti rfl rfl rfl spL omL kpL ?_ | refine sbi rfl rfl rfl spL omL kpL ?_ | refine bsl (α := Int) rfl rfl (by repeat (first | exact Vals.nil | (apply Vals.cons; rfl))) rfl (by rfl) (by decide) (fun b => ?_)) | refine s_nil ?_ | refine kh_normal ?_ | refine kh_ret ?_ | refine kh_exit ?_ | refine bh_normal ?_ | refine bh_ret ?_ | refine bh_exit ?_ | refine bh_exit_ne rfl ?_))
  rintro _ _ ⟨A1, cp1, rfl, rfl⟩
  (repeat' (first | (show VH _ _ _ _ _ _ _; first | refine v_seq ?_ | refine r_seq ?_ | refine r_quiet hmix (by kernel_rfl) ?_ | refine v_block ?_ | refine v_ret ?_ | refine v_skip ?_ | refine v_exit ?_ | refine v_label ?_ | refine v_cond_t rfl tbL ?_ | refine v_cond_f rfl tbL ?_ | refine v_cond_dec rfl (fun h => ?_) (fun h => ?_) | refine v_cond_ndec rfl (fun h => ?_) (fun h => ?_) | refine v_cond rfl (fun h => ?_) (fun h => ?_)) | (show SH _ _ _ _ _ (_ :: _) _ _ _; first | (show SH _ _ _ _ _ (⟨_, .move _, _, _, _, _⟩ :: _) _ _ _; first | refine mov evL ?_) | (show SH _ _ _ _ _ (⟨_, .assign _, _, _, _, _⟩ :: _) _ _ _; first | refine asg evL ?_) | (show SH _ _ _ _ _ (⟨_, .binOp _ _ _ _ _, _, _, _, _⟩ :: _) _ _ _; first | refine add rfl rfl inL ?_ | refine sub rfl rfl inL ?_ | refine lss rfl rfl ?_ | refine leq rfl rfl ?_ | refine gtr rfl rfl ?_) | (show SH _ _ _ _ _ (⟨_, .load _ _, _, _, _, _⟩ :: _) _ _ _; first | refine lsl rfl (fun _ _ => rdL) omL (by assumption) ?_ | refine lin rfl (fun _ _ => rdL) omL ?_ | refine lbx rfl spL (by rfl) ?_ | refine lba rfl spL (by rfl) ?_ | refine lbi rfl spL omL ?_ | refine lr1 rfl (fun _ _ => rdL) (by rfl) omL (by rfl) ?_ | refine lra rfl (fun _ _ => rdL) (by rfl) omL ?_ | refine lrf rfl (fun _ _ => rdL) (by rfl) omL (by rfl) ?_ | refine lcell rfl (fun w hw => hw.ext.cell (by assumption)) ?_) | (show SH _ _ _ _ _ (⟨_, .indexAddr _ _ _, _, _, _, _⟩ :: _) _ _ _; first | refine ix rfl rfl (by with_reducible rfl) (fun _ _ => rdL) (by rfl) omL omL ?_ | refine ixi rfl rfl (fun _ _ => rdL) (by rfl) omL omL omL ?_ | refine ixb rfl rfl omL ?_) | (show SH _ _ _ _ _ (⟨_, .call ⟨.builtin _, _, _⟩, _, _, _, _⟩ :: _) _ _ _; first | refine slen rfl ?_ | refine bmax rfl rfl ?_ | refine bmin rfl rfl ?_) | (show SH _ _ _ _ _ (⟨_, .call ⟨.value (.func 61), _, _⟩, _, _, _, _⟩ :: _) _ _ _; refine cm (callee := .func 61) rfl (fun w hw => ways_spec _ _ A1 ps cp1 w0 _ w (by omega) hw) rfl rfl ?_) | refine fvl rfl rfl ?_ | refine mf0 ?_ | refine mf1 evL ?_ | refine mf2 evL evL ?_ | refine mf3 evL evL evL ?_ | refine mfb evL ?_ | refine al1 rfl (fun b => ?_) | refine ala rfl (fun b => ?_) | refine stb rfl rfl evL spL rfl rfl (by first | decide | exact Nat.zero_lt_succ _ | exact of_decide_eq_true rfl) kpL ?_ | refine sta rfl rfl rfl spL (by rfl) (by rfl) (by rfl) kpL ?_ | refine sti rfl rfl rfl spL omL kpL ?_ | refine sbi rfl rfl rfl spL omL kpL ?_ | refine bsl (α := Int) rfl rfl (by repeat (first | exact Vals.nil | (apply Vals.cons; rfl))) rfl (by rfl) (by decide) (fun b => ?_)) | refine s_nil ?_ | refine kh_normal ?_ | refine kh_ret ?_ | refine kh_exit ?_ | refine bh_normal ?_ | refine bh_ret ?_ | refine bh_exit ?_ | refine bh_exit_ne rfl ?_))
  rintro _ _ ⟨rfl, rfl⟩
  refine ⟨trivial, ?_⟩
  rw [show between (leastOf bs i) (mostOf bs i - 1) ps = nearOf bs ps i from rfl]
  have hnl : (nearOf bs ps i).length ≤ 512 := Nat.le_trans (between_len _ _ _) hps
  have hnr : ∀ k, -1048576 ≤ (nearOf bs ps i).getD k 0 ∧ (nearOf bs ps i).getD k 0 ≤ 1048576 := fun k => by
    by_cases hk : k < (nearOf bs ps i).length
    · exact hpb _ (between_mem (getD_mem (d := 0) hk)).2.2
    · simp [List.getElem?_eq_none (Nat.le_of_not_lt hk)]
  generalize hNR : nearOf bs ps i = near at hnl hnr ⊢
  (repeat' (first | (show VH _ _ _ _ _ _ _; first | refine v_seq ?_ | refine r_seq ?_ | refine r_quiet hmix (by kernel_rfl) ?_ | refine v_block ?_ | refine v_ret ?_ | refine v_skip ?_ | refine v_exit ?_ | refine v_label ?_ | refine v_cond_t rfl tbL ?_ | refine v_cond_f rfl tbL ?_ | refine v_cond_dec rfl (fun h => ?_) (fun h => ?_) | refine v_cond_ndec rfl (fun h => ?_) (fun h => ?_) | refine v_cond rfl (fun h => ?_) (fun h => ?_)) | (show SH _ _ _ _ _ (_ :: _) _ _ _; first | (show SH _ _ _ _ _ (⟨_, .move _, _, _, _, _⟩ :: _) _ _ _; first | refine mov evL ?_) | (show SH _ _ _ _ _ (⟨_, .assign _, _, _, _, _⟩ :: _) _ _ _; first | refine asg evL ?_) | (show SH _ _ _ _ _ (⟨_, .binOp _ _ _ _ _, _, _, _, _⟩ :: _) _ _ _; first | refine add rfl rfl inL ?_ | refine sub rfl rfl inL ?_ | refine lss rfl rfl ?_ | refine leq rfl rfl ?_ | refine gtr rfl rfl ?_) | (show SH _ _ _ _ _ (⟨_, .load _ _, _, _, _, _⟩ :: _) _ _ _; first | refine lsl rfl (fun _ _ => rdL) omL (by assumption) ?_ | refine lin rfl (fun _ _ => rdL) omL ?_ | refine lbx rfl spL (by rfl) ?_ | refine lba rfl spL (by rfl) ?_ | refine lbi rfl spL omL ?_ | refine lr1 rfl (fun _ _ => rdL) (by rfl) omL (by rfl) ?_ | refine lra rfl (fun _ _ => rdL) (by rfl) omL ?_ | refine lrf rfl (fun _ _ => rdL) (by rfl) omL (by rfl) ?_ | refine lcell rfl (fun w hw => hw.ext.cell (by assumption)) ?_) | (show SH _ _ _ _ _ (⟨_, .indexAddr _ _ _, _, _, _, _⟩ :: _) _ _ _; first | refine ix rfl rfl (by with_reducible rfl) (fun _ _ => rdL) (by rfl) omL omL ?_ | refine ixi rfl rfl (fun _ _ => rdL) (by rfl) omL omL omL ?_ | refine ixb rfl rfl omL ?_) | (show SH _ _ _ _ _ (⟨_, .call ⟨.builtin _, _, _⟩, _, _, _, _⟩ :: _) _ _ _; first | refine slen rfl ?_ | refine bmax rfl rfl ?_ | refine bmin rfl rfl ?_) | (show SH _ _ _ _ _ (⟨_, .call ⟨.value (.tmp _), _, _⟩, _, _, _, _⟩ :: _) _ _ _; refine cl (callee := .tmp _) rfl (fun w hw => measure_spec near _ _ A1 cp1 w (by omega) (hw.cell spL rfl) (hw.rd spL)) rfl rfl ?_) | refine fvl rfl rfl ?_ | refine mf0 ?_ | refine mf1 evL ?_ | refine mf2 evL evL ?_ | refine mf3 evL evL evL ?_ | refine mfb evL ?_ | refine al1 rfl (fun b => ?_) | refine ala rfl (fun b => ?_) | refine stb rfl rfl evL spL rfl rfl (by first | decide | exact Nat.zero_lt_succ _ | exact of_decide_eq_true rfl) kpL ?_ | refine sta rfl rfl rfl spL (by rfl) (by rfl) (by rfl) kpL ?_ | refine sti rfl rfl rfl spL omL kpL ?_ | refine sbi rfl rfl rfl spL omL kpL ?_ | refine bsl (α := Int) rfl rfl (by repeat (first | exact Vals.nil | (apply Vals.cons; rfl))) rfl (by rfl) (by decide) (fun b => ?_)) | refine s_nil ?_ | refine kh_normal ?_ | refine kh_ret ?_ | refine kh_exit ?_ | refine bh_normal ?_ | refine bh_ret ?_ | refine bh_exit ?_ | refine bh_exit_ne rfl ?_))
  · have hn : bs.set i (newAt bs ps i step slack) = bs := by
      unfold newAt; rw [hNR, if_pos h]
      apply List.ext_getElem?
      intro j
      rw [List.getElem?_set]
      by_cases hij : i = j
      · subst hij; simp [hi]
      · simp [hij]
    exact rh0 rfl ⟨rfl, rfl⟩ (by rw [hn]; (repeat (first | exact ent_refl _ | exact ent_nil _ | refine ent_nilrow ?_ | refine ent_cons spL ?_ | refine ent_drop ?_)))
  · rename_i b10 _ _ b15
    have hlh : max (loB bs i) (bs.getD i 0 - step) ≤ bs.getD i 0 ∧ bs.getD i 0 ≤ min (hiB bs i) (bs.getD i 0 + step) := by omega
    have hLO : -1100000 ≤ max (loB bs i) (bs.getD i 0 - step) ∧ max (loB bs i) (bs.getD i 0 - step) ≤ 1100000 := by omega
    have hHI : -1100000 ≤ min (hiB bs i) (bs.getD i 0 + step) ∧ min (hiB bs i) (bs.getD i 0 + step) ≤ 1100000 := by omega
    have hnew : newAt bs ps i step slack = (bestOf (bs.getD i 0) ((placesOf (max (loB bs i) (bs.getD i 0 - step)) (min (hiB bs i) (bs.getD i 0 + step)) (bs.getD i 0) near).map (spotAt near))).at_ := by unfold newAt; rw [hNR, if_neg h]
    generalize max (loB bs i) (bs.getD i 0 - step) = lo at hlh hLO hnew ⊢
    generalize min (hiB bs i) (bs.getD i 0 + step) = hi at hlh hHI hnew ⊢
    have hp0 := placesOf_nil lo hi (bs.getD i 0) near
    clear hpb hg hlb hhb hmb
    refine cm rfl (fun w hw => ways_spec _ _ _ [bs.getD i 0, lo, hi] _ w0 _ w (by simp) hw) rfl rfl ?_
    rintro _ _ ⟨rfl, rfl⟩
    refine ⟨trivial, ?_⟩
    (repeat (first | (show VH _ _ _ _ _ _ _; first | refine v_seq ?_ | refine r_seq ?_ | refine r_quiet hmix (by kernel_rfl) ?_ | refine v_block ?_ | refine v_ret ?_ | refine v_skip ?_ | refine v_exit ?_ | refine v_label ?_) | (show SH _ _ _ _ _ (_ :: _) _ _ _; first | (show SH _ _ _ _ _ (⟨_, .move _, _, _, _, _⟩ :: _) _ _ _; first | refine mov evL ?_) | (show SH _ _ _ _ _ (⟨_, .assign _, _, _, _, _⟩ :: _) _ _ _; first | refine asg evL ?_) | (show SH _ _ _ _ _ (⟨_, .binOp _ _ _ _ _, _, _, _, _⟩ :: _) _ _ _; first | refine add rfl rfl inL ?_ | refine sub rfl rfl inL ?_ | refine lss rfl rfl ?_ | refine leq rfl rfl ?_ | refine gtr rfl rfl ?_) | (show SH _ _ _ _ _ (⟨_, .load _ _, _, _, _, _⟩ :: _) _ _ _; first | refine lsl rfl (fun _ _ => rdL) omL (by assumption) ?_ | refine lin rfl (fun _ _ => rdL) omL ?_ | refine lbx rfl spL (by rfl) ?_ | refine lba rfl spL (by rfl) ?_ | refine lbi rfl spL omL ?_ | refine lr1 rfl (fun _ _ => rdL) (by rfl) omL (by rfl) ?_ | refine lra rfl (fun _ _ => rdL) (by rfl) omL ?_ | refine lrf rfl (fun _ _ => rdL) (by rfl) omL (by rfl) ?_ | refine lcell rfl (fun w hw => hw.ext.cell (by assumption)) ?_) | (show SH _ _ _ _ _ (⟨_, .indexAddr _ _ _, _, _, _, _⟩ :: _) _ _ _; first | refine ix rfl rfl (by with_reducible rfl) (fun _ _ => rdL) (by rfl) omL omL ?_ | refine ixi rfl rfl (fun _ _ => rdL) (by rfl) omL omL omL ?_ | refine ixb rfl rfl omL ?_) | (show SH _ _ _ _ _ (⟨_, .call ⟨.builtin _, _, _⟩, _, _, _, _⟩ :: _) _ _ _; first | refine slen rfl ?_ | refine bmax rfl rfl ?_ | refine bmin rfl rfl ?_) | refine fvl rfl rfl ?_ | refine mf0 ?_ | refine mf1 evL ?_ | refine mf2 evL evL ?_ | refine mf3 evL evL evL ?_ | refine mfb evL ?_ | refine al1 rfl (fun b => ?_) | refine ala rfl (fun b => ?_) | refine stb rfl rfl evL spL rfl rfl (by first | decide | exact Nat.zero_lt_succ _ | exact of_decide_eq_true rfl) kpL ?_ | refine sta rfl rfl rfl spL (by rfl) (by rfl) (by rfl) kpL ?_ | refine sti rfl rfl rfl spL omL kpL ?_ | refine sbi rfl rfl rfl spL omL kpL ?_ | refine bsl (α := Int) rfl rfl (by repeat (first | exact Vals.nil | (apply Vals.cons; rfl))) rfl (by rfl) (by decide) (fun b => ?_)) | refine s_nil ?_ | refine kh_normal ?_ | refine kh_ret ?_ | refine kh_exit ?_ | refine bh_normal ?_ | refine bh_ret ?_ | refine bh_exit ?_ | refine bh_exit_ne rfl ?_))
    refine v_norm [(0,_),(2,_),(10,_),(11,_),(12,_),(15,_),(16,_),(17,_),(86,_),(87,_),(88,_)] heL (fun g => ?_)
    refine v_loop [(17,17),(19,19),(88,101)] (fun y : Nat × (Option Addr × Nat) => [(88, .int .i64 y.1), (17, .slice y.2.1 (placesOf lo hi (bs.getD i 0) (near.take y.1)).length y.2.2)])
      (fun y => orow 3 y.2.1 y.2.2 (placesOf lo hi (bs.getD i 0) (near.take y.1)) :: bx b15 22 [.slice A1 near.length cp1] :: orow 3 A1 cp1 near :: bx b10 3 [.int .i64 (bs.getD i 0)] :: orow 3 A c1 bs :: H) (fun y => y.1 ≤ near.length) (fun y => near.length - y.1) (0, (some ⟨b, 0, none⟩, 3)) ⟨rfl, congrArg (fun L : List Int => Value.slice (some ⟨b, 0, none⟩) L.length 3) hp0.symm, trivial⟩ (by rw [hp0]; (repeat (first | exact ent_refl _ | exact ent_nil _ | refine ent_nilrow ?_ | refine ent_cons spL ?_ | refine ent_drop ?_))) (Nat.zero_le _) ?_
    · rintro ⟨k, A2, cp2⟩ g3 hk
      simp only [sets]
      simp only at hk
      have hxb := hnr k
      have hpl := placesOf_len lo hi (bs.getD i 0) (near.take k)
      have htl : (near.take k).length ≤ near.length := by rw [List.length_take]; omega
      (repeat' (first | (show VH _ _ _ _ _ _ _; first | refine v_seq ?_ | refine r_seq ?_ | refine r_quiet hmix (by kernel_rfl) ?_ | refine v_block ?_ | refine v_ret ?_ | refine v_skip ?_ | refine v_exit ?_ | refine v_label ?_ | refine v_cond_t rfl tbL ?_ | refine v_cond_f rfl tbL ?_ | refine v_cond_dec rfl (fun h => ?_) (fun h => ?_) | refine v_cond_ndec rfl (fun h => ?_) (fun h => ?_) | refine v_cond rfl (fun h => ?_) (fun h => ?_)) | (show SH _ _ _ _ _ (_ :: _) _ _ _; first | (show SH _ _ _ _ _ (⟨_, .move _, _, _, _, _⟩ :: _) _ _ _; first | refine mov evL ?_) | (show SH _ _ _ _ _ (⟨_, .assign _, _, _, _, _⟩ :: _) _ _ _; first | refine asg evL ?_) | (show SH _ _ _ _ _ (⟨_, .binOp _ _ _ _ _, _, _, _, _⟩ :: _) _ _ _; first | refine add rfl rfl inL ?_ | refine sub rfl rfl inL ?_ | refine lss rfl rfl ?_ | refine leq rfl rfl ?_ | refine gtr rfl rfl ?_) | (show SH _ _ _ _ _ (⟨_, .load _ _, _, _, _, _⟩ :: _) _ _ _; first | refine lsl rfl (fun _ _ => rdL) omL (by assumption) ?_ | refine lin rfl (fun _ _ => rdL) omL ?_ | refine lbx rfl spL (by rfl) ?_ | refine lba rfl spL (by rfl) ?_ | refine lbi rfl spL omL ?_ | refine lr1 rfl (fun _ _ => rdL) (by rfl) omL (by rfl) ?_ | refine lra rfl (fun _ _ => rdL) (by rfl) omL ?_ | refine lrf rfl (fun _ _ => rdL) (by rfl) omL (by rfl) ?_ | refine lcell rfl (fun w hw => hw.ext.cell (by assumption)) ?_) | (show SH _ _ _ _ _ (⟨_, .indexAddr _ _ _, _, _, _, _⟩ :: _) _ _ _; first | refine ix rfl rfl (by with_reducible rfl) (fun _ _ => rdL) (by rfl) omL omL ?_ | refine ixi rfl rfl (fun _ _ => rdL) (by rfl) omL omL omL ?_ | refine ixb rfl rfl omL ?_) | (show SH _ _ _ _ _ (⟨_, .call ⟨.builtin _, _, _⟩, _, _, _, _⟩ :: _) _ _ _; first | refine slen rfl ?_ | refine bmax rfl rfl ?_ | refine bmin rfl rfl ?_) | refine fvl rfl rfl ?_ | refine mf0 ?_ | refine mf1 evL ?_ | refine mf2 evL evL ?_ | refine mf3 evL evL evL ?_ | refine mfb evL ?_ | refine al1 rfl (fun b => ?_) | refine ala rfl (fun b => ?_) | refine stb rfl rfl evL spL rfl rfl (by first | decide | exact Nat.zero_lt_succ _ | exact of_decide_eq_true rfl) kpL ?_ | refine sta rfl rfl rfl spL (by rfl) (by rfl) (by rfl) kpL ?_ | refine sti rfl rfl rfl spL omL kpL ?_ | refine sbi rfl rfl rfl spL omL kpL ?_ | refine bsl (α := Int) rfl rfl (by repeat (first | exact Vals.nil | (apply Vals.cons; rfl))) rfl (by rfl) (by decide) (fun b => ?_)) | refine s_nil ?_ | refine kh_normal ?_ | refine kh_ret ?_ | refine kh_exit ?_ | refine bh_normal ?_ | refine bh_ret ?_ | refine bh_exit ?_ | refine bh_exit_ne rfl ?_))
      · refine cm rfl (fun w hw => ways_spec _ _ _ [near.getD k 0, near.getD k 0 + 1] _ w0 _ w (by simp) hw) rfl rfl ?_
        rintro _ _ ⟨rfl, rfl⟩
        refine ⟨trivial, ?_⟩
        have hbl := between_len lo hi [near.getD k 0, near.getD k 0 + 1]
        simp only [List.length_cons, List.length_nil] at hbl
        refine app rfl rfl rfl spL (fun w hw => hw.rd spL) rfl rfl rfl (by omega) (by omega) (fun A3 cp3 => ⟨trivial, ?_⟩)
        have hsn := placesOf_snoc lo hi (bs.getD i 0) (near.getD k 0) (near.take k)
        rw [← takeI (by omega)] at hsn
        (repeat' (first | (show VH _ _ _ _ _ _ _; first | refine v_seq ?_ | refine r_seq ?_ | refine r_quiet hmix (by kernel_rfl) ?_ | refine v_block ?_ | refine v_ret ?_ | refine v_skip ?_ | refine v_exit ?_ | refine v_label ?_ | refine v_cond_t rfl tbL ?_ | refine v_cond_f rfl tbL ?_ | refine v_cond_dec rfl (fun h => ?_) (fun h => ?_) | refine v_cond_ndec rfl (fun h => ?_) (fun h => ?_) | refine v_cond rfl (fun h => ?_) (fun h => ?_)) | (show SH _ _ _ _ _ (_ :: _) _ _ _; first | (show SH _ _ _ _ _ (⟨_, .move _, _, _, _, _⟩ :: _) _ _ _; first | refine mov evL ?_) | (show SH _ _ _ _ _ (⟨_, .assign _, _, _, _, _⟩ :: _) _ _ _; first | refine asg evL ?_) | (show SH _ _ _ _ _ (⟨_, .binOp _ _ _ _ _, _, _, _, _⟩ :: _) _ _ _; first | refine add rfl rfl inL ?_ | refine sub rfl rfl inL ?_ | refine lss rfl rfl ?_ | refine leq rfl rfl ?_ | refine gtr rfl rfl ?_) | (show SH _ _ _ _ _ (⟨_, .load _ _, _, _, _, _⟩ :: _) _ _ _; first | refine lsl rfl (fun _ _ => rdL) omL (by assumption) ?_ | refine lin rfl (fun _ _ => rdL) omL ?_ | refine lbx rfl spL (by rfl) ?_ | refine lba rfl spL (by rfl) ?_ | refine lbi rfl spL omL ?_ | refine lr1 rfl (fun _ _ => rdL) (by rfl) omL (by rfl) ?_ | refine lra rfl (fun _ _ => rdL) (by rfl) omL ?_ | refine lrf rfl (fun _ _ => rdL) (by rfl) omL (by rfl) ?_ | refine lcell rfl (fun w hw => hw.ext.cell (by assumption)) ?_) | (show SH _ _ _ _ _ (⟨_, .indexAddr _ _ _, _, _, _, _⟩ :: _) _ _ _; first | refine ix rfl rfl (by with_reducible rfl) (fun _ _ => rdL) (by rfl) omL omL ?_ | refine ixi rfl rfl (fun _ _ => rdL) (by rfl) omL omL omL ?_ | refine ixb rfl rfl omL ?_) | (show SH _ _ _ _ _ (⟨_, .call ⟨.builtin _, _, _⟩, _, _, _, _⟩ :: _) _ _ _; first | refine slen rfl ?_ | refine bmax rfl rfl ?_ | refine bmin rfl rfl ?_) | refine fvl rfl rfl ?_ | refine mf0 ?_ | refine mf1 evL ?_ | refine mf2 evL evL ?_ | refine mf3 evL evL evL ?_ | refine mfb evL ?_ | refine al1 rfl (fun b => ?_) | refine ala rfl (fun b => ?_) | refine stb rfl rfl evL spL rfl rfl (by first | decide | exact Nat.zero_lt_succ _ | exact of_decide_eq_true rfl) kpL ?_ | refine sta rfl rfl rfl spL (by rfl) (by rfl) (by rfl) kpL ?_ | refine sti rfl rfl rfl spL omL kpL ?_ | refine sbi rfl rfl rfl spL omL kpL ?_ | refine bsl (α := Int) rfl rfl (by repeat (first | exact Vals.nil | (apply Vals.cons; rfl))) rfl (by rfl) (by decide) (fun b => ?_)) | refine s_nil ?_ | refine kh_normal ?_ | refine kh_ret ?_ | refine kh_exit ?_ | refine bh_normal ?_ | refine bh_ret ?_ | refine bh_exit ?_ | refine bh_exit_ne rfl ?_))
        refine ⟨agL, (k + 1, (A3, cp3)), ⟨rfl, congrArg (fun L : List Int => Value.slice A3 L.length cp3) hsn.symm, trivial⟩, ?_, by show k + 1 ≤ _; omega, by show _ - (k + 1) < _ - k; omega⟩
        show Ent _ (orow _ A3 cp3 (placesOf _ _ _ (near.take (k + 1))) :: _)
        rw [hsn]
        (repeat (first | exact ent_refl _ | exact ent_nil _ | refine ent_nilrow ?_ | refine ent_cons spL ?_ | refine ent_drop ?_))
      · have hkl : k = near.length := by omega
        subst hkl
        rw [List.take_length]
        have hpl2 := placesOf_len lo hi (bs.getD i 0) near
        have hpp := placesOf_pos (near := near) hlh.1 hlh.2
        have hpm : ∀ x ∈ placesOf lo hi (bs.getD i 0) near, -1100000 ≤ x ∧ x ≤ 1100000 := fun x hx => by have := placesOf_mem hx; omega
        generalize placesOf lo hi (bs.getD i 0) near = pl at hpl2 hpp hpm hnew ⊢
        refine v_norm [(0,_),(2,_),(10,_),(16,_),(17,_),(20,_),(102,_),(103,_),(104,_)] heL (fun g => ?_)
        refine v_loop [(20,20),(22,22),(104,114)] (fun y : Nat × (Option Addr × Nat) => [(104, .int .i64 y.1), (20, .slice y.2.1 ((pl.take y.1).map (spotAt near)).length y.2.2)])
          (fun y => orow 104 y.2.1 y.2.2 ((pl.take y.1).map (spotAt near)) :: orow 3 A2 cp2 pl :: bx b15 22 [.slice A1 near.length cp1] :: orow 3 A1 cp1 near :: bx b10 3 [.int .i64 (bs.getD i 0)] :: orow 3 A c1 bs :: H) (fun y => y.1 ≤ pl.length) (fun y => pl.length - y.1) (0, (none, 0)) hsL enL (Nat.zero_le _) ?_
        rintro ⟨k, A3, cp3⟩ g4 hk
        simp only [sets]
        simp only at hk
        have htl2 : ((pl.take k).map (spotAt near)).length ≤ pl.length := by rw [List.length_map, List.length_take]; omega
        (repeat' (first | (show VH _ _ _ _ _ _ _; first | refine v_seq ?_ | refine r_seq ?_ | refine r_quiet hmix (by kernel_rfl) ?_ | refine v_block ?_ | refine v_ret ?_ | refine v_skip ?_ | refine v_exit ?_ | refine v_label ?_ | refine v_cond_t rfl tbL ?_ | refine v_cond_f rfl tbL ?_ | refine v_cond_dec rfl (fun h => ?_) (fun h => ?_) | refine v_cond_ndec rfl (fun h => ?_) (fun h => ?_) | refine v_cond rfl (fun h => ?_) (fun h => ?_)) | (show SH _ _ _ _ _ (_ :: _) _ _ _; first | (show SH _ _ _ _ _ (⟨_, .move _, _, _, _, _⟩ :: _) _ _ _; first | refine mov evL ?_) | (show SH _ _ _ _ _ (⟨_, .assign _, _, _, _, _⟩ :: _) _ _ _; first | refine asg evL ?_) | (show SH _ _ _ _ _ (⟨_, .binOp _ _ _ _ _, _, _, _, _⟩ :: _) _ _ _; first | refine add rfl rfl inL ?_ | refine sub rfl rfl inL ?_ | refine lss rfl rfl ?_ | refine leq rfl rfl ?_ | refine gtr rfl rfl ?_) | (show SH _ _ _ _ _ (⟨_, .load _ _, _, _, _, _⟩ :: _) _ _ _; first | refine lsl rfl (fun _ _ => rdL) omL (by assumption) ?_ | refine lin rfl (fun _ _ => rdL) omL ?_ | refine lbx rfl spL (by rfl) ?_ | refine lba rfl spL (by rfl) ?_ | refine lbi rfl spL omL ?_ | refine lr1 rfl (fun _ _ => rdL) (by rfl) omL (by rfl) ?_ | refine lra rfl (fun _ _ => rdL) (by rfl) omL ?_ | refine lrf rfl (fun _ _ => rdL) (by rfl) omL (by rfl) ?_ | refine lcell rfl (fun w hw => hw.ext.cell (by assumption)) ?_) | (show SH _ _ _ _ _ (⟨_, .indexAddr _ _ _, _, _, _, _⟩ :: _) _ _ _; first | refine ix rfl rfl (by with_reducible rfl) (fun _ _ => rdL) (by rfl) omL omL ?_ | refine ixi rfl rfl (fun _ _ => rdL) (by rfl) omL omL omL ?_ | refine ixb rfl rfl omL ?_) | (show SH _ _ _ _ _ (⟨_, .call ⟨.builtin _, _, _⟩, _, _, _, _⟩ :: _) _ _ _; first | refine slen rfl ?_ | refine bmax rfl rfl ?_ | refine bmin rfl rfl ?_) | (show SH _ _ _ _ _ (⟨_, .call ⟨.value (.tmp _), _, _⟩, _, _, _, _⟩ :: _) _ _ _; refine cl (callee := .tmp _) rfl (fun w hw => measure_spec near _ _ A1 cp1 w (by omega) (hw.cell spL rfl) (hw.rd spL)) rfl rfl ?_) | refine fvl rfl rfl ?_ | refine mf0 ?_ | refine mf1 evL ?_ | refine mf2 evL evL ?_ | refine mf3 evL evL evL ?_ | refine mfb evL ?_ | refine al1 rfl (fun b => ?_) | refine ala rfl (fun b => ?_) | refine stb rfl rfl evL spL rfl rfl (by first | decide | exact Nat.zero_lt_succ _ | exact of_decide_eq_true rfl) kpL ?_ | refine sta rfl rfl rfl spL (by rfl) (by rfl) (by rfl) kpL ?_ | refine sti rfl rfl rfl spL omL kpL ?_ | refine sbi rfl rfl rfl spL omL kpL ?_ | refine bsl (α := Int) rfl rfl (by repeat (first | exact Vals.nil | (apply Vals.cons; rfl))) rfl (by rfl) (by decide) (fun b => ?_)) | refine s_nil ?_ | refine kh_normal ?_ | refine kh_ret ?_ | refine kh_exit ?_ | refine bh_normal ?_ | refine bh_ret ?_ | refine bh_exit ?_ | refine bh_exit_ne rfl ?_))
        · refine bsl (l := [spotAt near (pl.getD k 0)]) rfl rfl (Vals.cons rfl Vals.nil) rfl rfl (by decide) (fun b => ?_)
          refine app rfl rfl rfl spL (fun w hw => hw.rd spL) rfl rfl rfl (by simp only [List.length_cons, List.length_nil]; omega) (by simp only [List.length_cons, List.length_nil]; omega) (fun A4 cp4 => ⟨trivial, ?_⟩)
          have hsn : (pl.take (k + 1)).map (spotAt near) = (pl.take k).map (spotAt near) ++ [spotAt near (pl.getD k 0)] := by rw [takeI (by omega), List.map_append]; rfl
          (repeat' (first | (show VH _ _ _ _ _ _ _; first | refine v_seq ?_ | refine r_seq ?_ | refine r_quiet hmix (by kernel_rfl) ?_ | refine v_block ?_ | refine v_ret ?_ | refine v_skip ?_ | refine v_exit ?_ | refine v_label ?_ | refine v_cond_t rfl tbL ?_ | refine v_cond_f rfl tbL ?_ | refine v_cond_dec rfl (fun h => ?_) (fun h => ?_) | refine v_cond_ndec rfl (fun h => ?_) (fun h => ?_) | refine v_cond rfl (fun h => ?_) (fun h => ?_)) | (show SH _ _ _ _ _ (_ :: _) _ _ _; first | (show SH _ _ _ _ _ (⟨_, .move _, _, _, _, _⟩ :: _) _ _ _; first | refine mov evL ?_) | (show SH _ _ _ _ _ (⟨_, .assign _, _, _, _, _⟩ :: _) _ _ _; first | refine asg evL ?_) | (show SH _ _ _ _ _ (⟨_, .binOp _ _ _ _ _, _, _, _, _⟩ :: _) _ _ _; first | refine add rfl rfl inL ?_ | refine sub rfl rfl inL ?_ | refine lss rfl rfl ?_ | refine leq rfl rfl ?_ | refine gtr rfl rfl ?_) | (show SH _ _ _ _ _ (⟨_, .load _ _, _, _, _, _⟩ :: _) _ _ _; first | refine lsl rfl (fun _ _ => rdL) omL (by assumption) ?_ | refine lin rfl (fun _ _ => rdL) omL ?_ | refine lbx rfl spL (by rfl) ?_ | refine lba rfl spL (by rfl) ?_ | refine lbi rfl spL omL ?_ | refine lr1 rfl (fun _ _ => rdL) (by rfl) omL (by rfl) ?_ | refine lra rfl (fun _ _ => rdL) (by rfl) omL ?_ | refine lrf rfl (fun _ _ => rdL) (by rfl) omL (by rfl) ?_ | refine lcell rfl (fun w hw => hw.ext.cell (by assumption)) ?_) | (show SH _ _ _ _ _ (⟨_, .indexAddr _ _ _, _, _, _, _⟩ :: _) _ _ _; first | refine ix rfl rfl (by with_reducible rfl) (fun _ _ => rdL) (by rfl) omL omL ?_ | refine ixi rfl rfl (fun _ _ => rdL) (by rfl) omL omL omL ?_ | refine ixb rfl rfl omL ?_) | (show SH _ _ _ _ _ (⟨_, .call ⟨.builtin _, _, _⟩, _, _, _, _⟩ :: _) _ _ _; first | refine slen rfl ?_ | refine bmax rfl rfl ?_ | refine bmin rfl rfl ?_) | refine fvl rfl rfl ?_ | refine mf0 ?_ | refine mf1 evL ?_ | refine mf2 evL evL ?_ | refine mf3 evL evL evL ?_ | refine mfb evL ?_ | refine al1 rfl (fun b => ?_) | refine ala rfl (fun b => ?_) | refine stb rfl rfl evL spL rfl rfl (by first | decide | exact Nat.zero_lt_succ _ | exact of_decide_eq_true rfl) kpL ?_ | refine sta rfl rfl rfl spL (by rfl) (by rfl) (by rfl) kpL ?_ | refine sti rfl rfl rfl spL omL kpL ?_ | refine sbi rfl rfl rfl spL omL kpL ?_ | refine bsl (α := Int) rfl rfl (by repeat (first | exact Vals.nil | (apply Vals.cons; rfl))) rfl (by rfl) (by decide) (fun b => ?_)) | refine s_nil ?_ | refine kh_normal ?_ | refine kh_ret ?_ | refine kh_exit ?_ | refine bh_normal ?_ | refine bh_ret ?_ | refine bh_exit ?_ | refine bh_exit_ne rfl ?_))
          refine ⟨agL, (k + 1, (A4, cp4)), ⟨rfl, congrArg (fun L : List Spot => Value.slice A4 L.length cp4) hsn.symm, trivial⟩, ?_, by show k + 1 ≤ _; omega, by show _ - (k + 1) < _ - k; omega⟩
          show Ent _ (orow _ A4 cp4 ((pl.take (k + 1)).map (spotAt near)) :: _)
          rw [hsn]
          (repeat (first | exact ent_refl _ | exact ent_nil _ | refine ent_nilrow ?_ | refine ent_cons spL ?_ | refine ent_drop ?_))
        · have hkl : k = pl.length := by omega
          rw [hkl, List.take_length]
          have hcmp : ∀ w, w.cell? ⟨b10, 0, none⟩ = some (.int .i64 (bs.getD i 0)) → CmpF w (.func (.func 65) #[] #[.pointer (some ⟨b10, 0, none⟩)]) (cmpSpot (bs.getD i 0)) (fun s => Near s.at_) := fun w hc =>
            ⟨65, #[], #[.pointer (some ⟨b10, 0, none⟩)], rfl, fun w' he x y hx hy => cmp_spec (bs.getD i 0) x y ⟨b10, 0, none⟩ w' ⟨by omega, by omega⟩ hx hy (he.cell hc)⟩
          have hnr2 : ∀ s ∈ pl.map (spotAt near), Near s.at_ := fun s hs => by obtain ⟨x, hx, rfl⟩ := List.mem_map.1 hs; have := hpm x hx; exact ⟨by simp only [spotAt]; omega, by simp only [spotAt]; omega⟩
          refine cl rfl (fun w hw => minFunc_spec A3 (pl.map (spotAt near)) cp3 (.func (.func 65) #[] #[.pointer (some ⟨b10, 0, none⟩)]) (cmpSpot (bs.getD i 0)) (fun s => Near s.at_) w (by rw [List.length_map]; omega) (by rw [List.length_map]; exact hpp) (hw.rd spL) hnr2 (hcmp w (hw.cell spL rfl))) rfl rfl ?_
          (repeat' (first | (show VH _ _ _ _ _ _ _; first | refine v_seq ?_ | refine r_seq ?_ | refine r_quiet hmix (by kernel_rfl) ?_ | refine v_block ?_ | refine v_ret ?_ | refine v_skip ?_ | refine v_exit ?_ | refine v_label ?_ | refine v_cond_t rfl tbL ?_ | refine v_cond_f rfl tbL ?_ | refine v_cond_dec rfl (fun h => ?_) (fun h => ?_) | refine v_cond_ndec rfl (fun h => ?_) (fun h => ?_) | refine v_cond rfl (fun h => ?_) (fun h => ?_)) | (show SH _ _ _ _ _ (_ :: _) _ _ _; first | (show SH _ _ _ _ _ (⟨_, .move _, _, _, _, _⟩ :: _) _ _ _; first | refine mov evL ?_) | (show SH _ _ _ _ _ (⟨_, .assign _, _, _, _, _⟩ :: _) _ _ _; first | refine asg evL ?_) | (show SH _ _ _ _ _ (⟨_, .binOp _ _ _ _ _, _, _, _, _⟩ :: _) _ _ _; first | refine add rfl rfl inL ?_ | refine sub rfl rfl inL ?_ | refine lss rfl rfl ?_ | refine leq rfl rfl ?_ | refine gtr rfl rfl ?_) | (show SH _ _ _ _ _ (⟨_, .load _ _, _, _, _, _⟩ :: _) _ _ _; first | refine lsl rfl (fun _ _ => rdL) omL (by assumption) ?_ | refine lin rfl (fun _ _ => rdL) omL ?_ | refine lbx rfl spL (by rfl) ?_ | refine lba rfl spL (by rfl) ?_ | refine lbi rfl spL omL ?_ | refine lr1 rfl (fun _ _ => rdL) (by rfl) omL (by rfl) ?_ | refine lra rfl (fun _ _ => rdL) (by rfl) omL ?_ | refine lrf rfl (fun _ _ => rdL) (by rfl) omL (by rfl) ?_ | refine lcell rfl (fun w hw => hw.ext.cell (by assumption)) ?_) | (show SH _ _ _ _ _ (⟨_, .indexAddr _ _ _, _, _, _, _⟩ :: _) _ _ _; first | refine ix rfl rfl (by with_reducible rfl) (fun _ _ => rdL) (by rfl) omL omL ?_ | refine ixi rfl rfl (fun _ _ => rdL) (by rfl) omL omL omL ?_ | refine ixb rfl rfl omL ?_) | (show SH _ _ _ _ _ (⟨_, .call ⟨.builtin _, _, _⟩, _, _, _, _⟩ :: _) _ _ _; first | refine slen rfl ?_ | refine bmax rfl rfl ?_ | refine bmin rfl rfl ?_) | refine fvl rfl rfl ?_ | refine mf0 ?_ | refine mf1 evL ?_ | refine mf2 evL evL ?_ | refine mf3 evL evL evL ?_ | refine mfb evL ?_ | refine al1 rfl (fun b => ?_) | refine ala rfl (fun b => ?_) | refine stb rfl rfl evL spL rfl rfl (by first | decide | exact Nat.zero_lt_succ _ | exact of_decide_eq_true rfl) kpL ?_ | refine sta rfl rfl rfl spL (by rfl) (by rfl) (by rfl) kpL ?_ | refine sti rfl rfl rfl spL omL kpL ?_ | refine sbi rfl rfl rfl spL omL kpL ?_ | refine bsl (α := Int) rfl rfl (by repeat (first | exact Vals.nil | (apply Vals.cons; rfl))) rfl (by rfl) (by decide) (fun b => ?_)) | refine s_nil ?_ | refine kh_normal ?_ | refine kh_ret ?_ | refine kh_exit ?_ | refine bh_normal ?_ | refine bh_ret ?_ | refine bh_exit ?_ | refine bh_exit_ne rfl ?_))
          exact rh0n rfl ⟨rfl, rfl⟩ (by rw [hnew]; (repeat (first | exact ent_refl _ | exact ent_nil _ | refine ent_nilrow ?_ | refine ent_cons spL ?_ | refine ent_drop ?_)))
end Go.Proofs.YtdlpnjofdpcjjaaGreat
