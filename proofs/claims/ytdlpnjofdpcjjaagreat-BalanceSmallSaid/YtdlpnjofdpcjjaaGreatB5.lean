/- Package balance: rounds, Plan, Settle, Moves. -/
import Derived.Test.YtdlpnjofdpcjjaaGreatB4
namespace Go.Proofs.YtdlpnjofdpcjjaaGreat
open Go.Fw Go.RowKit

theorem validFrom_iff : ∀ (l : List Int) (least : Int), validFrom least l = true ↔ ((0 < l.length → least ≤ l.getD 0 0) ∧ (∀ i, i < l.length → l.getD i 0 ≤ 1032192) ∧ ∀ i, i + 1 < l.length → l.getD i 0 + 16384 ≤ l.getD (i + 1) 0)
  | [], least => by simp [validFrom]
  | b :: l, least => by
    have ih := validFrom_iff l (b + 16384)
    simp only [validFrom]
    split
    · rename_i h
      constructor
      · intro h; cases h
      · rintro ⟨h1, h2, _⟩
        have h1 := h1 (by simp)
        have h2 := h2 0 (by simp)
        simp only [List.getD_cons_zero] at h1 h2
        omega
    · rename_i h
      rw [ih]
      constructor
      · rintro ⟨h1, h2, h3⟩
        refine ⟨fun _ => by simp only [List.getD_cons_zero]; omega, fun i hi => ?_, fun i hi => ?_⟩
        · cases i with
          | zero => simp only [List.getD_cons_zero]; omega
          | succ i => exact h2 i (by simpa using hi)
        · cases i with
          | zero => exact h1 (by simpa using hi)
          | succ i => exact h3 i (by simpa using hi)
      · rintro ⟨h1, h2, h3⟩
        refine ⟨fun hl => h3 0 (by simpa using hl), fun i hi => h2 (i + 1) (by simpa using hi), fun i hi => h3 (i + 1) (by simpa using hi)⟩
theorem good_of_valid {bs : List Int} (h : validB bs = true) : Good bs := by
  simp only [validB, Bool.and_eq_true, decide_eq_true_eq] at h
  obtain ⟨h1, h2, h3⟩ := (validFrom_iff _ _).1 h.2
  intro i hi
  unfold loB hiB
  refine ⟨?_, ?_⟩
  · split
    · have := h3 (i - 1) (by omega)
      rwa [show i - 1 + 1 = i by omega] at this
    · obtain rfl : i = 0 := by omega
      exact h1 hi
  · split
    · have := h3 i (by omega); omega
    · exact h2 i hi
theorem valid_of_good {bs : List Int} (h : Good bs) (hl : bs.length < 6) : validB bs = true := by
  simp only [validB, Bool.and_eq_true, decide_eq_true_eq]
  refine ⟨hl, (validFrom_iff _ _).2 ⟨fun h0 => (good_rng h h0).1, fun i hi => (good_rng h hi).2, fun i hi => ?_⟩⟩
  have := (h (i + 1) hi).1
  simpa [loB] using this
theorem right_of {ps : List Int} (h : rightB ps = true) : ps.length ≤ 512 ∧ ∀ x ∈ ps, In20 x := by
  simp only [rightB, Bool.and_eq_true, decide_eq_true_eq, Bool.not_eq_true', List.any_eq_false] at h
  refine ⟨h.1, fun x hx => ?_⟩
  have := h.2 x hx
  simp only [outP, Bool.or_eq_true, decide_eq_true_eq, not_or] at this
  exact ⟨by omega, by omega⟩

/-! slices.Equal -/
set_option maxRecDepth 100000 in
theorem equal_spec (A B : Option Addr) (l m : List Int) (c1 c2 : Nat) (w : World) (hl : l.length ≤ 1000000) (hl2 : m.length ≤ 1000000) (hA : Rd w A l) (hB : Rd w B m) :
    Ret Tryz.prog 36 [.slice A l.length c1, .slice B m.length c2].toArray w (Out w (.bool (decide (l = m)))) := by
  refine enterH Tryz.func36 rfl rfl Tryz.ntmps36 rfl (Wd.refl _) ?_
  (repeat' (first | (show VH _ _ _ _ _ _ _; first | refine v_seq ?_ | refine r_seq ?_ | refine r_quiet hmix (by kernel_rfl) ?_ | refine v_block ?_ | refine v_ret ?_ | refine v_skip ?_ | refine v_exit ?_ | refine v_label ?_ | refine v_cond_t rfl tbL ?_ | refine v_cond_f rfl tbL ?_ | refine v_cond_dec rfl (fun h => ?_) (fun h => ?_) | refine v_cond_ndec rfl (fun h => ?_) (fun h => ?_) | refine v_cond rfl (fun h => ?_) (fun h => ?_)) | (show SH _ _ _ _ _ (_ :: _) _ _ _; first | (show SH _ _ _ _ _ (⟨_, .move _, _, _, _, _⟩ :: _) _ _ _; first | refine mov evL ?_) | (show SH _ _ _ _ _ (⟨_, .assign _, _, _, _, _⟩ :: _) _ _ _; first | refine asg evL ?_) | (show SH _ _ _ _ _ (⟨_, .binOp _ _ _ _ _, _, _, _, _⟩ :: _) _ _ _; first | refine add rfl rfl inL ?_ | refine lss rfl rfl ?_ | refine neq rfl rfl ?_ | refine nen rfl rfl ?_ | refine neb rfl rfl ?_) | (show SH _ _ _ _ _ (⟨_, .load _ _, _, _, _, _⟩ :: _) _ _ _; first | refine lsl rfl (fun _ _ => rdL) omL (by assumption) ?_ | refine lin rfl (fun _ _ => rdL) omL ?_ | refine lbx rfl spL (by rfl) ?_ | refine lba rfl spL (by rfl) ?_ | refine lbi rfl spL omL ?_ | refine lr1 rfl (fun _ _ => rdL) (by rfl) omL (by rfl) ?_ | refine lra rfl (fun _ _ => rdL) (by rfl) omL ?_ | refine lrf rfl (fun _ _ => rdL) (by rfl) omL (by rfl) ?_ | refine lcell rfl (fun w hw => hw.ext.cell (by assumption)) ?_) | (show SH _ _ _ _ _ (⟨_, .indexAddr _ _ _, _, _, _, _⟩ :: _) _ _ _; first | refine ix rfl rfl (by with_reducible rfl) (fun _ _ => rdL) (by rfl) omL omL ?_ | refine ixi rfl rfl (fun _ _ => rdL) (by rfl) omL omL omL ?_ | refine ixb rfl rfl omL ?_) | (show SH _ _ _ _ _ (⟨_, .call ⟨.builtin _, _, _⟩, _, _, _, _⟩ :: _) _ _ _; first | refine slen rfl ?_)) | refine s_nil ?_ | refine kh_normal ?_ | refine kh_ret ?_ | refine kh_exit ?_ | refine bh_normal ?_ | refine bh_ret ?_ | refine bh_exit ?_ | refine bh_exit_ne rfl ?_))
  · exact rh1 rfl rfl ⟨congrArg Value.bool (by rw [decide_eq_false]; intro e; rw [e] at h; omega), rfl⟩ (ent_nil _)
  · have hlm : l.length = m.length := by omega
    refine v_loop0 [(4,5),(13,25)] (fun k : Nat => [(13, .int .i64 k)]) (fun k => k ≤ l.length ∧ l.take k = m.take k) (fun k => l.length - k) 0 hsL ⟨Nat.zero_le _, rfl⟩ ?_
    rintro k g ⟨hk, hv⟩
    simp only [sets]
    (repeat' (first | (show VH _ _ _ _ _ _ _; first | refine v_seq ?_ | refine r_seq ?_ | refine r_quiet hmix (by kernel_rfl) ?_ | refine v_block ?_ | refine v_ret ?_ | refine v_skip ?_ | refine v_exit ?_ | refine v_label ?_ | refine v_cond_t rfl tbL ?_ | refine v_cond_f rfl tbL ?_ | refine v_cond_dec rfl (fun h => ?_) (fun h => ?_) | refine v_cond_ndec rfl (fun h => ?_) (fun h => ?_) | refine v_cond rfl (fun h => ?_) (fun h => ?_)) | (show SH _ _ _ _ _ (_ :: _) _ _ _; first | (show SH _ _ _ _ _ (⟨_, .move _, _, _, _, _⟩ :: _) _ _ _; first | refine mov evL ?_) | (show SH _ _ _ _ _ (⟨_, .assign _, _, _, _, _⟩ :: _) _ _ _; first | refine asg evL ?_) | (show SH _ _ _ _ _ (⟨_, .binOp _ _ _ _ _, _, _, _, _⟩ :: _) _ _ _; first | refine add rfl rfl inL ?_ | refine lss rfl rfl ?_ | refine neq rfl rfl ?_ | refine nen rfl rfl ?_ | refine neb rfl rfl ?_) | (show SH _ _ _ _ _ (⟨_, .load _ _, _, _, _, _⟩ :: _) _ _ _; first | refine lsl rfl (fun _ _ => rdL) omL (by assumption) ?_ | refine lin rfl (fun _ _ => rdL) omL ?_ | refine lbx rfl spL (by rfl) ?_ | refine lba rfl spL (by rfl) ?_ | refine lbi rfl spL omL ?_ | refine lr1 rfl (fun _ _ => rdL) (by rfl) omL (by rfl) ?_ | refine lra rfl (fun _ _ => rdL) (by rfl) omL ?_ | refine lrf rfl (fun _ _ => rdL) (by rfl) omL (by rfl) ?_ | refine lcell rfl (fun w hw => hw.ext.cell (by assumption)) ?_) | (show SH _ _ _ _ _ (⟨_, .indexAddr _ _ _, _, _, _, _⟩ :: _) _ _ _; first | refine ix rfl rfl (by with_reducible rfl) (fun _ _ => rdL) (by rfl) omL omL ?_ | refine ixi rfl rfl (fun _ _ => rdL) (by rfl) omL omL omL ?_ | refine ixb rfl rfl omL ?_) | (show SH _ _ _ _ _ (⟨_, .call ⟨.builtin _, _, _⟩, _, _, _, _⟩ :: _) _ _ _; first | refine slen rfl ?_)) | refine s_nil ?_ | refine kh_normal ?_ | refine kh_ret ?_ | refine kh_exit ?_ | refine bh_normal ?_ | refine bh_ret ?_ | refine bh_exit ?_ | refine bh_exit_ne rfl ?_))
    · exact rh1 rfl rfl ⟨congrArg Value.bool (by rw [decide_eq_false]; intro e; rw [e] at h; exact h rfl), rfl⟩ (ent_nil _)
    · have e : l.getD k 0 = m.getD k 0 := Classical.byContradiction h
      exact ⟨agL, k + 1, hsL, enL, ⟨by omega, by rw [takeI (by omega), takeI (by omega), hv, e]⟩, by omega⟩
    · have e : k = l.length := by omega
      subst e
      rw [List.take_length, hlm, List.take_length] at hv
      exact rh1 rfl rfl ⟨congrArg Value.bool (by rw [decide_eq_true hv]), rfl⟩ (ent_nil _)

/-! a round -/
def roundTo (bs ps : List Int) (step slack : Int) : Nat → List Int
  | 0 => bs
  | k + 1 => (roundTo bs ps step slack k).set k (newAt (roundTo bs ps step slack k) ps k step slack)
def roundL (bs ps : List Int) (step slack : Int) : List Int := roundTo bs ps step slack bs.length
theorem roundTo_len (bs ps : List Int) (step slack : Int) : ∀ k, (roundTo bs ps step slack k).length = bs.length
  | 0 => rfl
  | k + 1 => by rw [roundTo, List.length_set, roundTo_len bs ps step slack k]
theorem roundTo_good {bs ps : List Int} {step slack : Int} (hg : Good bs) (hs : 0 ≤ step) : ∀ k, k ≤ bs.length → Good (roundTo bs ps step slack k)
  | 0, _ => hg
  | k + 1, hk => by
    have ih := roundTo_good (ps := ps) (slack := slack) hg hs k (by omega)
    have hl : k < (roundTo bs ps step slack k).length := by rw [roundTo_len]; omega
    have hr := newAt_rng (ps := ps) (step := step) (slack := slack) (ih k hl).1 (ih k hl).2 hs
    exact good_set ih hl hr.1 hr.2.1
theorem roundL_len (bs ps : List Int) (step slack : Int) : (roundL bs ps step slack).length = bs.length := roundTo_len ..
theorem roundL_good {bs ps : List Int} {step slack : Int} (hg : Good bs) (hs : 0 ≤ step) : Good (roundL bs ps step slack) := roundTo_good hg hs _ (Nat.le_refl _)
set_option maxRecDepth 100000 in
theorem round_spec (A B : Option Addr) (bs ps : List Int) (c1 c2 : Nat) (step slack : Int) (w0 : World) (H : List HP) (w : World) (hlen : bs.length ≤ 5) (hps : ps.length ≤ 512)
    (hg : Good bs) (hpb : ∀ x ∈ ps, In20 x) (hs0 : 0 ≤ step) (hs1 : step ≤ 4096) (hB : Rd w0 B ps) (hw : Wd w0 (orow 3 A c1 bs :: H) w) :
    Ret Tryz.prog 25 [.slice A bs.length c1, .slice B ps.length c2, .int .i64 step, .int .i64 slack].toArray w
      (RP w0 fun v H' => v = .bool (!decide (bs = roundL bs ps step slack)) ∧ H' = orow 3 A c1 (roundL bs ps step slack) :: H) := by
  refine enterH Tryz.func25 rfl rfl Tryz.ntmps25 rfl (by assumption) ?_
  (repeat' (first | (show VH _ _ _ _ _ _ _; first | refine v_seq ?_ | refine r_seq ?_ | refine r_quiet hmix (by kernel_rfl) ?_ | refine v_block ?_ | refine v_ret ?_ | refine v_skip ?_ | refine v_exit ?_ | refine v_label ?_ | refine v_cond_t rfl tbL ?_ | refine v_cond_f rfl tbL ?_ | refine v_cond_dec rfl (fun h => ?_) (fun h => ?_) | refine v_cond_ndec rfl (fun h => ?_) (fun h => ?_) | refine v_cond rfl (fun h => ?_) (fun h => ?_)) | (show SH _ _ _ _ _ (_ :: _) _ _ _; first | (show SH _ _ _ _ _ (⟨_, .move _, _, _, _, _⟩ :: _) _ _ _; first | refine mov evL ?_) | (show SH _ _ _ _ _ (⟨_, .assign _, _, _, _, _⟩ :: _) _ _ _; first | refine asg evL ?_) | (show SH _ _ _ _ _ (⟨_, .binOp _ _ _ _ _, _, _, _, _⟩ :: _) _ _ _; first | refine add rfl rfl inL ?_ | refine lss rfl rfl ?_) | (show SH _ _ _ _ _ (⟨_, .call ⟨.builtin _, _, _⟩, _, _, _, _⟩ :: _) _ _ _; first | refine slen rfl ?_) | (show SH _ _ _ _ _ (⟨_, .call ⟨.value (.func 24), _, _⟩, _, _, _, _⟩ :: _) _ _ _; refine cp (callee := .func 24) rfl (fun w hw => clone_spec A bs c1 w (by omega) (hw.rd spL)) rfl rfl ?_) | refine bnot rfl ?_) | refine s_nil ?_ | refine kh_normal ?_ | refine kh_ret ?_ | refine kh_exit ?_ | refine bh_normal ?_ | refine bh_ret ?_ | refine bh_exit ?_ | refine bh_exit_ne rfl ?_))
  rintro _ _ ⟨A1, cp1, rfl, rfl⟩
  (repeat' (first | (show VH _ _ _ _ _ _ _; first | refine v_seq ?_ | refine r_seq ?_ | refine r_quiet hmix (by kernel_rfl) ?_ | refine v_block ?_ | refine v_ret ?_ | refine v_skip ?_ | refine v_exit ?_ | refine v_label ?_ | refine v_cond_t rfl tbL ?_ | refine v_cond_f rfl tbL ?_ | refine v_cond_dec rfl (fun h => ?_) (fun h => ?_) | refine v_cond_ndec rfl (fun h => ?_) (fun h => ?_) | refine v_cond rfl (fun h => ?_) (fun h => ?_)) | (show SH _ _ _ _ _ (_ :: _) _ _ _; first | (show SH _ _ _ _ _ (⟨_, .move _, _, _, _, _⟩ :: _) _ _ _; first | refine mov evL ?_) | (show SH _ _ _ _ _ (⟨_, .assign _, _, _, _, _⟩ :: _) _ _ _; first | refine asg evL ?_) | (show SH _ _ _ _ _ (⟨_, .binOp _ _ _ _ _, _, _, _, _⟩ :: _) _ _ _; first | refine add rfl rfl inL ?_ | refine lss rfl rfl ?_) | (show SH _ _ _ _ _ (⟨_, .call ⟨.builtin _, _, _⟩, _, _, _, _⟩ :: _) _ _ _; first | refine slen rfl ?_) | refine bnot rfl ?_) | refine s_nil ?_ | refine kh_normal ?_ | refine kh_ret ?_ | refine kh_exit ?_ | refine bh_normal ?_ | refine bh_ret ?_ | refine bh_exit ?_ | refine bh_exit_ne rfl ?_))
  refine v_loop [(10,10),(15,24)] (fun k : Nat => [(15, .int .i64 k)]) (fun k => orow 3 A c1 (roundTo bs ps step slack k) :: orow 3 A1 cp1 bs :: H) (fun k => k ≤ bs.length) (fun k => bs.length - k) 0 hsL enL (Nat.zero_le _) ?_
  rintro k g hk
  simp only [sets]
  (repeat' (first | (show VH _ _ _ _ _ _ _; first | refine v_seq ?_ | refine r_seq ?_ | refine r_quiet hmix (by kernel_rfl) ?_ | refine v_block ?_ | refine v_ret ?_ | refine v_skip ?_ | refine v_exit ?_ | refine v_label ?_ | refine v_cond_t rfl tbL ?_ | refine v_cond_f rfl tbL ?_ | refine v_cond_dec rfl (fun h => ?_) (fun h => ?_) | refine v_cond_ndec rfl (fun h => ?_) (fun h => ?_) | refine v_cond rfl (fun h => ?_) (fun h => ?_)) | (show SH _ _ _ _ _ (_ :: _) _ _ _; first | (show SH _ _ _ _ _ (⟨_, .move _, _, _, _, _⟩ :: _) _ _ _; first | refine mov evL ?_) | (show SH _ _ _ _ _ (⟨_, .assign _, _, _, _, _⟩ :: _) _ _ _; first | refine asg evL ?_) | (show SH _ _ _ _ _ (⟨_, .binOp _ _ _ _ _, _, _, _, _⟩ :: _) _ _ _; first | refine add rfl rfl inL ?_ | refine lss rfl rfl ?_) | (show SH _ _ _ _ _ (⟨_, .call ⟨.builtin _, _, _⟩, _, _, _, _⟩ :: _) _ _ _; first | refine slen rfl ?_) | refine bnot rfl ?_) | refine s_nil ?_ | refine kh_normal ?_ | refine kh_ret ?_ | refine kh_exit ?_ | refine bh_normal ?_ | refine bh_ret ?_ | refine bh_exit ?_ | refine bh_exit_ne rfl ?_))
  · have hL := roundTo_len bs ps step slack k
    have hG := roundTo_good (ps := ps) (slack := slack) hg hs0 k hk
    have hm := fun w hw => move_spec A B (roundTo bs ps step slack k) ps c1 c2 k step slack w0 (orow 3 A1 cp1 bs :: H) w (by omega) (by omega) hps hG hpb hs0 hs1 hB hw
    rw [hL] at hm
    refine cm rfl hm rfl rfl ?_
    rintro _ _ ⟨rfl, rfl⟩
    refine ⟨trivial, ?_⟩
    (repeat' (first | (show VH _ _ _ _ _ _ _; first | refine v_seq ?_ | refine r_seq ?_ | refine r_quiet hmix (by kernel_rfl) ?_ | refine v_block ?_ | refine v_ret ?_ | refine v_skip ?_ | refine v_exit ?_ | refine v_label ?_ | refine v_cond_t rfl tbL ?_ | refine v_cond_f rfl tbL ?_ | refine v_cond_dec rfl (fun h => ?_) (fun h => ?_) | refine v_cond_ndec rfl (fun h => ?_) (fun h => ?_) | refine v_cond rfl (fun h => ?_) (fun h => ?_)) | (show SH _ _ _ _ _ (_ :: _) _ _ _; first | (show SH _ _ _ _ _ (⟨_, .move _, _, _, _, _⟩ :: _) _ _ _; first | refine mov evL ?_) | (show SH _ _ _ _ _ (⟨_, .assign _, _, _, _, _⟩ :: _) _ _ _; first | refine asg evL ?_) | (show SH _ _ _ _ _ (⟨_, .binOp _ _ _ _ _, _, _, _, _⟩ :: _) _ _ _; first | refine add rfl rfl inL ?_ | refine lss rfl rfl ?_) | (show SH _ _ _ _ _ (⟨_, .call ⟨.builtin _, _, _⟩, _, _, _, _⟩ :: _) _ _ _; first | refine slen rfl ?_) | refine bnot rfl ?_) | refine s_nil ?_ | refine kh_normal ?_ | refine kh_ret ?_ | refine kh_exit ?_ | refine bh_normal ?_ | refine bh_ret ?_ | refine bh_exit ?_ | refine bh_exit_ne rfl ?_))
    exact ⟨agL, k + 1, hsL, ent_refl _, by omega, by omega⟩
  · have hkl : k = bs.length := by omega
    subst hkl
    have hL := roundL_len bs ps step slack
    have he := fun w hA hB => equal_spec A1 A bs (roundL bs ps step slack) cp1 c1 w (by omega) (by omega) hA hB
    rw [hL] at he
    (repeat' (first | (show VH _ _ _ _ _ _ _; first | refine v_seq ?_ | refine r_seq ?_ | refine r_quiet hmix (by kernel_rfl) ?_ | refine v_block ?_ | refine v_ret ?_ | refine v_skip ?_ | refine v_exit ?_ | refine v_label ?_ | refine v_cond_t rfl tbL ?_ | refine v_cond_f rfl tbL ?_ | refine v_cond_dec rfl (fun h => ?_) (fun h => ?_) | refine v_cond_ndec rfl (fun h => ?_) (fun h => ?_) | refine v_cond rfl (fun h => ?_) (fun h => ?_)) | (show SH _ _ _ _ _ (_ :: _) _ _ _; first | (show SH _ _ _ _ _ (⟨_, .move _, _, _, _, _⟩ :: _) _ _ _; first | refine mov evL ?_) | (show SH _ _ _ _ _ (⟨_, .assign _, _, _, _, _⟩ :: _) _ _ _; first | refine asg evL ?_) | (show SH _ _ _ _ _ (⟨_, .binOp _ _ _ _ _, _, _, _, _⟩ :: _) _ _ _; first | refine add rfl rfl inL ?_ | refine lss rfl rfl ?_) | (show SH _ _ _ _ _ (⟨_, .call ⟨.builtin _, _, _⟩, _, _, _, _⟩ :: _) _ _ _; first | refine slen rfl ?_) | (show SH _ _ _ _ _ (⟨_, .call ⟨.value (.func 36), _, _⟩, _, _, _, _⟩ :: _) _ _ _; refine cl (callee := .func 36) rfl (fun w hw => he w (hw.rd spL) (hw.rd spL)) rfl rfl ?_) | refine bnot rfl ?_) | refine s_nil ?_ | refine kh_normal ?_ | refine kh_ret ?_ | refine kh_exit ?_ | refine bh_normal ?_ | refine bh_ret ?_ | refine bh_exit ?_ | refine bh_exit_ne rfl ?_))
    exact rh1 rfl rfl ⟨rfl, rfl⟩ enL

/-! Plan -/
def fitsB (bs ps : List Int) (step slack : Int) : Bool := validB bs && (rightB ps && (decide (0 ≤ step) && (decide (step ≤ 4096) && decide (0 ≤ slack))))
theorem fits_spec (A B : Option Addr) (bs ps : List Int) (c1 c2 : Nat) (step slack : Int) (w : World) (hl : bs.length ≤ 1000000) (hl2 : ps.length ≤ 1000000) (hA : Rd w A bs) (hB : Rd w B ps) :
    Ret Tryz.prog 23 [.slice A bs.length c1, .slice B ps.length c2, .int .i64 step, .int .i64 slack].toArray w (Out w (.bool (fitsB bs ps step slack))) := by
  refine enterH Tryz.func23 rfl rfl Tryz.ntmps23 rfl (Wd.refl _) ?_
  have hvs := fun w h => valid_spec A bs c1 w hl h
  have hrs := fun w h => right_spec B ps c2 w hl2 h
  unfold fitsB
  generalize validB bs = v1 at hvs ⊢
  generalize rightB ps = v2 at hrs ⊢
  cases v1 with
  | false =>
    (repeat' (first | (show VH _ _ _ _ _ _ _; first | refine v_seq ?_ | refine r_seq ?_ | refine r_quiet hmix (by kernel_rfl) ?_ | refine v_block ?_ | refine v_ret ?_ | refine v_skip ?_ | refine v_exit ?_ | refine v_label ?_ | refine v_cond_t rfl tbL ?_ | refine v_cond_f rfl tbL ?_ | refine v_cond_dec rfl (fun h => ?_) (fun h => ?_) | refine v_cond_ndec rfl (fun h => ?_) (fun h => ?_) | refine v_cond rfl (fun h => ?_) (fun h => ?_)) | (show SH _ _ _ _ _ (_ :: _) _ _ _; first | (show SH _ _ _ _ _ (⟨_, _, _, _, _, some _⟩ :: _) _ _ _; first | refine grT rfl rfl tbL ?_ | refine gpT rfl rfl tbL ?_ | refine grF rfl rfl tbL ?_ | refine gpF rfl rfl tbL ?_ | refine gu rfl rfl ?_ | refine gtd rfl rfl (fun h => ?_) (fun h => ?_) | refine gfd rfl rfl (fun h => ?_) (fun h => ?_) | refine gt rfl rfl (fun h => ?_) (fun h => ?_) | refine gf rfl rfl (fun h => ?_) (fun h => ?_)) | (show SH _ _ _ _ _ (⟨_, .move _, _, _, _, _⟩ :: _) _ _ _; first | refine mov evL ?_) | (show SH _ _ _ _ _ (⟨_, .assign _, _, _, _, _⟩ :: _) _ _ _; first | refine asg evL ?_) | (show SH _ _ _ _ _ (⟨_, .binOp _ _ _ _ _, _, _, _, _⟩ :: _) _ _ _; first | refine leq rfl rfl ?_ | refine geq rfl rfl ?_) | (show SH _ _ _ _ _ (⟨_, .call ⟨.value (.func 14), _, _⟩, _, _, _, _⟩ :: _) _ _ _; refine cl (callee := .func 14) rfl (fun w hw => hvs _ (hA.ext hw.ext)) rfl rfl ?_) | refine pkt rfl tbL evL ?_ | refine pkf rfl tbL evL ?_) | refine s_nil ?_ | refine kh_normal ?_ | refine kh_ret ?_ | refine kh_exit ?_ | refine bh_normal ?_ | refine bh_ret ?_ | refine bh_exit ?_ | refine bh_exit_ne rfl ?_))
    exact rh1 rfl rfl ⟨rfl, rfl⟩ (ent_nil _)
  | true =>
    cases v2 with
    | false =>
      (repeat' (first | (show VH _ _ _ _ _ _ _; first | refine v_seq ?_ | refine r_seq ?_ | refine r_quiet hmix (by kernel_rfl) ?_ | refine v_block ?_ | refine v_ret ?_ | refine v_skip ?_ | refine v_exit ?_ | refine v_label ?_ | refine v_cond_t rfl tbL ?_ | refine v_cond_f rfl tbL ?_ | refine v_cond_dec rfl (fun h => ?_) (fun h => ?_) | refine v_cond_ndec rfl (fun h => ?_) (fun h => ?_) | refine v_cond rfl (fun h => ?_) (fun h => ?_)) | (show SH _ _ _ _ _ (_ :: _) _ _ _; first | (show SH _ _ _ _ _ (⟨_, _, _, _, _, some _⟩ :: _) _ _ _; first | refine grT rfl rfl tbL ?_ | refine gpT rfl rfl tbL ?_ | refine grF rfl rfl tbL ?_ | refine gpF rfl rfl tbL ?_ | refine gu rfl rfl ?_ | refine gtd rfl rfl (fun h => ?_) (fun h => ?_) | refine gfd rfl rfl (fun h => ?_) (fun h => ?_) | refine gt rfl rfl (fun h => ?_) (fun h => ?_) | refine gf rfl rfl (fun h => ?_) (fun h => ?_)) | (show SH _ _ _ _ _ (⟨_, .move _, _, _, _, _⟩ :: _) _ _ _; first | refine mov evL ?_) | (show SH _ _ _ _ _ (⟨_, .assign _, _, _, _, _⟩ :: _) _ _ _; first | refine asg evL ?_) | (show SH _ _ _ _ _ (⟨_, .binOp _ _ _ _ _, _, _, _, _⟩ :: _) _ _ _; first | refine leq rfl rfl ?_ | refine geq rfl rfl ?_) | (show SH _ _ _ _ _ (⟨_, .call ⟨.value (.func 14), _, _⟩, _, _, _, _⟩ :: _) _ _ _; refine cl (callee := .func 14) rfl (fun w hw => hvs _ (hA.ext hw.ext)) rfl rfl ?_) | (show SH _ _ _ _ _ (⟨_, .call ⟨.value (.func 27), _, _⟩, _, _, _, _⟩ :: _) _ _ _; refine cl (callee := .func 27) rfl (fun w hw => hrs _ (hB.ext hw.ext)) rfl rfl ?_) | refine pkt rfl tbL evL ?_ | refine pkf rfl tbL evL ?_) | refine s_nil ?_ | refine kh_normal ?_ | refine kh_ret ?_ | refine kh_exit ?_ | refine bh_normal ?_ | refine bh_ret ?_ | refine bh_exit ?_ | refine bh_exit_ne rfl ?_))
      exact rh1 rfl rfl ⟨rfl, rfl⟩ (ent_nil _)
    | true =>
      (repeat' (first | (show VH _ _ _ _ _ _ _; first | refine v_seq ?_ | refine r_seq ?_ | refine r_quiet hmix (by kernel_rfl) ?_ | refine v_block ?_ | refine v_ret ?_ | refine v_skip ?_ | refine v_exit ?_ | refine v_label ?_ | refine v_cond_t rfl tbL ?_ | refine v_cond_f rfl tbL ?_ | refine v_cond_dec rfl (fun h => ?_) (fun h => ?_) | refine v_cond_ndec rfl (fun h => ?_) (fun h => ?_) | refine v_cond rfl (fun h => ?_) (fun h => ?_)) | (show SH _ _ _ _ _ (_ :: _) _ _ _; first | (show SH _ _ _ _ _ (⟨_, _, _, _, _, some _⟩ :: _) _ _ _; first | refine grT rfl rfl tbL ?_ | refine gpT rfl rfl tbL ?_ | refine grF rfl rfl tbL ?_ | refine gpF rfl rfl tbL ?_ | refine gu rfl rfl ?_ | refine gtd rfl rfl (fun h => ?_) (fun h => ?_) | refine gfd rfl rfl (fun h => ?_) (fun h => ?_) | refine gt rfl rfl (fun h => ?_) (fun h => ?_) | refine gf rfl rfl (fun h => ?_) (fun h => ?_)) | (show SH _ _ _ _ _ (⟨_, .move _, _, _, _, _⟩ :: _) _ _ _; first | refine mov evL ?_) | (show SH _ _ _ _ _ (⟨_, .assign _, _, _, _, _⟩ :: _) _ _ _; first | refine asg evL ?_) | (show SH _ _ _ _ _ (⟨_, .binOp _ _ _ _ _, _, _, _, _⟩ :: _) _ _ _; first | refine leq rfl rfl ?_ | refine geq rfl rfl ?_) | (show SH _ _ _ _ _ (⟨_, .call ⟨.value (.func 14), _, _⟩, _, _, _, _⟩ :: _) _ _ _; refine cl (callee := .func 14) rfl (fun w hw => hvs _ (hA.ext hw.ext)) rfl rfl ?_) | (show SH _ _ _ _ _ (⟨_, .call ⟨.value (.func 27), _, _⟩, _, _, _, _⟩ :: _) _ _ _; refine cl (callee := .func 27) rfl (fun w hw => hrs _ (hB.ext hw.ext)) rfl rfl ?_) | refine pkt rfl tbL evL ?_ | refine pkf rfl tbL evL ?_) | refine s_nil ?_ | refine kh_normal ?_ | refine kh_ret ?_ | refine kh_exit ?_ | refine bh_normal ?_ | refine bh_ret ?_ | refine bh_exit ?_ | refine bh_exit_ne rfl ?_))
      all_goals exact rh1 rfl rfl ⟨congrArg Value.bool (by simp [*]; try omega), rfl⟩ (ent_nil _)
theorem fits_of {bs ps : List Int} {step slack : Int} (h : fitsB bs ps step slack = true) : validB bs = true ∧ rightB ps = true ∧ 0 ≤ step ∧ step ≤ 4096 ∧ 0 ≤ slack := by
  simpa [fitsB] using h
def planOut (bs ps : List Int) (step slack : Int) : List Int := if fitsB bs ps step slack then roundL bs ps step slack else []
theorem Plan_spec (A B : Option Addr) (bs ps : List Int) (c1 c2 : Nat) (step slack : Int) (w : World) (hl : bs.length ≤ 1000000) (hl2 : ps.length ≤ 1000000) (hA : Rd w A bs) (hB : Rd w B ps) :
    Ret Tryz.prog 11 [.slice A bs.length c1, .slice B ps.length c2, .int .i64 step, .int .i64 slack].toArray w (RP w (FreshE 3 (planOut bs ps step slack) (errOf (fitsB bs ps step slack)))) := by
  refine enterH Tryz.func11 rfl rfl Tryz.ntmps11 rfl (Wd.refl _) ?_
  have hfs := fun w h1 h2 => fits_spec A B bs ps c1 c2 step slack w hl hl2 h1 h2
  unfold planOut
  cases hf : fitsB bs ps step slack with
  | false =>
    rw [hf] at hfs
    (repeat' (first | (show VH _ _ _ _ _ _ _; first | refine v_seq ?_ | refine r_seq ?_ | refine r_quiet hmix (by kernel_rfl) ?_ | refine v_block ?_ | refine v_ret ?_ | refine v_skip ?_ | refine v_exit ?_ | refine v_label ?_ | refine v_cond_t rfl tbL ?_ | refine v_cond_f rfl tbL ?_ | refine v_cond_dec rfl (fun h => ?_) (fun h => ?_) | refine v_cond_ndec rfl (fun h => ?_) (fun h => ?_) | refine v_cond rfl (fun h => ?_) (fun h => ?_)) | (show SH _ _ _ _ _ (_ :: _) _ _ _; first | (show SH _ _ _ _ _ (⟨_, .move _, _, _, _, _⟩ :: _) _ _ _; first | refine mov evL ?_) | (show SH _ _ _ _ _ (⟨_, .assign _, _, _, _, _⟩ :: _) _ _ _; first | refine asg evL ?_) | (show SH _ _ _ _ _ (⟨_, .call ⟨.value (.func 23), _, _⟩, _, _, _, _⟩ :: _) _ _ _; refine cl (callee := .func 23) rfl (fun w hw => hfs _ (hA.ext hw.ext) (hB.ext hw.ext)) rfl rfl ?_) | refine bnot rfl ?_) | refine s_nil ?_ | refine kh_normal ?_ | refine kh_ret ?_ | refine kh_exit ?_ | refine bh_normal ?_ | refine bh_ret ?_ | refine bh_exit ?_ | refine bh_exit_ne rfl ?_))
    exact rh2 rfl rfl rfl ⟨none, 0, rfl, rfl⟩ (ent_nilrow (ent_nil _))
  | true =>
    rw [hf] at hfs
    obtain ⟨h1, h2, h3, h4, h5⟩ := fits_of hf
    obtain ⟨h6, h7⟩ := right_of h2
    have h8 := (validB_inc h1).2.1
    (repeat' (first | (show VH _ _ _ _ _ _ _; first | refine v_seq ?_ | refine r_seq ?_ | refine r_quiet hmix (by kernel_rfl) ?_ | refine v_block ?_ | refine v_ret ?_ | refine v_skip ?_ | refine v_exit ?_ | refine v_label ?_ | refine v_cond_t rfl tbL ?_ | refine v_cond_f rfl tbL ?_ | refine v_cond_dec rfl (fun h => ?_) (fun h => ?_) | refine v_cond_ndec rfl (fun h => ?_) (fun h => ?_) | refine v_cond rfl (fun h => ?_) (fun h => ?_)) | (show SH _ _ _ _ _ (_ :: _) _ _ _; first | (show SH _ _ _ _ _ (⟨_, .move _, _, _, _, _⟩ :: _) _ _ _; first | refine mov evL ?_) | (show SH _ _ _ _ _ (⟨_, .assign _, _, _, _, _⟩ :: _) _ _ _; first | refine asg evL ?_) | (show SH _ _ _ _ _ (⟨_, .call ⟨.value (.func 23), _, _⟩, _, _, _, _⟩ :: _) _ _ _; refine cl (callee := .func 23) rfl (fun w hw => hfs _ (hA.ext hw.ext) (hB.ext hw.ext)) rfl rfl ?_) | (show SH _ _ _ _ _ (⟨_, .call ⟨.value (.func 24), _, _⟩, _, _, _, _⟩ :: _) _ _ _; refine cp (callee := .func 24) rfl (fun w hw => clone_spec A bs c1 w hl (hA.ext hw.ext)) rfl rfl ?_) | refine bnot rfl ?_) | refine s_nil ?_ | refine kh_normal ?_ | refine kh_ret ?_ | refine kh_exit ?_ | refine bh_normal ?_ | refine bh_ret ?_ | refine bh_exit ?_ | refine bh_exit_ne rfl ?_))
    rintro _ _ ⟨A1, cp1, rfl, rfl⟩
    (repeat' (first | (show VH _ _ _ _ _ _ _; first | refine v_seq ?_ | refine r_seq ?_ | refine r_quiet hmix (by kernel_rfl) ?_ | refine v_block ?_ | refine v_ret ?_ | refine v_skip ?_ | refine v_exit ?_ | refine v_label ?_ | refine v_cond_t rfl tbL ?_ | refine v_cond_f rfl tbL ?_ | refine v_cond_dec rfl (fun h => ?_) (fun h => ?_) | refine v_cond_ndec rfl (fun h => ?_) (fun h => ?_) | refine v_cond rfl (fun h => ?_) (fun h => ?_)) | (show SH _ _ _ _ _ (_ :: _) _ _ _; first | (show SH _ _ _ _ _ (⟨_, .move _, _, _, _, _⟩ :: _) _ _ _; first | refine mov evL ?_) | (show SH _ _ _ _ _ (⟨_, .assign _, _, _, _, _⟩ :: _) _ _ _; first | refine asg evL ?_) | (show SH _ _ _ _ _ (⟨_, .call ⟨.value (.func 25), _, _⟩, _, _, _, _⟩ :: _) _ _ _; refine cm (callee := .func 25) rfl (fun w hw => round_spec A1 B bs ps cp1 c2 step slack _ _ w h8 h6 (good_of_valid h1) h7 h3 h4 hB hw) rfl rfl ?_) | refine bnot rfl ?_) | refine s_nil ?_ | refine kh_normal ?_ | refine kh_ret ?_ | refine kh_exit ?_ | refine bh_normal ?_ | refine bh_ret ?_ | refine bh_exit ?_ | refine bh_exit_ne rfl ?_))
    rintro _ _ ⟨rfl, rfl⟩
    refine ⟨trivial, ?_⟩
    (repeat' (first | (show VH _ _ _ _ _ _ _; first | refine v_seq ?_ | refine r_seq ?_ | refine r_quiet hmix (by kernel_rfl) ?_ | refine v_block ?_ | refine v_ret ?_ | refine v_skip ?_ | refine v_exit ?_ | refine v_label ?_ | refine v_cond_t rfl tbL ?_ | refine v_cond_f rfl tbL ?_ | refine v_cond_dec rfl (fun h => ?_) (fun h => ?_) | refine v_cond_ndec rfl (fun h => ?_) (fun h => ?_) | refine v_cond rfl (fun h => ?_) (fun h => ?_)) | (show SH _ _ _ _ _ (_ :: _) _ _ _; first | (show SH _ _ _ _ _ (⟨_, .move _, _, _, _, _⟩ :: _) _ _ _; first | refine mov evL ?_) | (show SH _ _ _ _ _ (⟨_, .assign _, _, _, _, _⟩ :: _) _ _ _; first | refine asg evL ?_) | refine bnot rfl ?_) | refine s_nil ?_ | refine kh_normal ?_ | refine kh_ret ?_ | refine kh_exit ?_ | refine bh_normal ?_ | refine bh_ret ?_ | refine bh_exit ?_ | refine bh_exit_ne rfl ?_))
    have hL := roundL_len bs ps step slack
    exact rh2 rfl rfl rfl ⟨A1, cp1, by rw [if_pos rfl, hL]; rfl, by rw [if_pos rfl]⟩ enL

/-! Settle -/
def settleN (ps : List Int) (step slack : Int) : Nat → List Int → List Int × Nat
  | 0, bs => (bs, 0)
  | n + 1, bs => if bs = roundL bs ps step slack then (bs, 0) else ((settleN ps step slack n (roundL bs ps step slack)).1, (settleN ps step slack n (roundL bs ps step slack)).2 + 1)
theorem settleN_len (ps : List Int) (step slack : Int) : ∀ (n : Nat) (bs : List Int), (settleN ps step slack n bs).1.length = bs.length
  | 0, bs => rfl
  | n + 1, bs => by
    simp only [settleN]
    split
    · rfl
    · rw [settleN_len ps step slack n, roundL_len]
theorem settleN_le (ps : List Int) (step slack : Int) : ∀ (n : Nat) (bs : List Int), (settleN ps step slack n bs).2 ≤ n
  | 0, bs => Nat.le_refl _
  | n + 1, bs => by
    simp only [settleN]
    split
    · exact Nat.zero_le _
    · have := settleN_le ps step slack n (roundL bs ps step slack); simp only; omega
def settleB (bs ps : List Int) (step slack rounds : Int) : Bool := fitsB bs ps step slack && (decide (0 ≤ rounds) && decide (rounds ≤ 1000))
def settleOut (bs ps : List Int) (step slack rounds : Int) : List Int × Nat := if settleB bs ps step slack rounds then settleN ps step slack rounds.toNat bs else ([], 0)
/-- A slice in memory of its own, a number and an error code. -/
def FreshN {α : Type} [Flat α] (e : TypeId) (l : List α) (m err : Int) (v : Value) (H : List HP) : Prop := ∃ A cp, v = .tuple #[.slice A l.length cp, .int .i64 m, .int .i64 err] ∧ H = [orow e A cp l]
set_option maxHeartbeats 1000000 in
set_option maxRecDepth 100000 in
theorem Settle_spec (A B : Option Addr) (bs ps : List Int) (c1 c2 : Nat) (step slack rounds : Int) (w : World) (hl : bs.length ≤ 1000000) (hl2 : ps.length ≤ 1000000) (hA : Rd w A bs) (hB : Rd w B ps) :
    Ret Tryz.prog 6 [.slice A bs.length c1, .slice B ps.length c2, .int .i64 step, .int .i64 slack, .int .i64 rounds].toArray w
      (RP w (FreshN 3 (settleOut bs ps step slack rounds).1 (settleOut bs ps step slack rounds).2 (errOf (settleB bs ps step slack rounds)))) := by
  refine enterH Tryz.func6 rfl rfl Tryz.ntmps6 rfl (Wd.refl _) ?_
  have hfs := fun w h1 h2 => fits_spec A B bs ps c1 c2 step slack w hl hl2 h1 h2
  cases hf : fitsB bs ps step slack with
  | false =>
    have hz : settleB bs ps step slack rounds = false := by rw [settleB, hf]; rfl
    unfold settleOut
    rw [hz]
    rw [hf] at hfs
    (repeat' (first | (show VH _ _ _ _ _ _ _; first | refine v_seq ?_ | refine r_seq ?_ | refine r_quiet hmix (by kernel_rfl) ?_ | refine v_block ?_ | refine v_ret ?_ | refine v_skip ?_ | refine v_exit ?_ | refine v_label ?_ | refine v_cond_t rfl tbL ?_ | refine v_cond_f rfl tbL ?_ | refine v_cond_dec rfl (fun h => ?_) (fun h => ?_) | refine v_cond_ndec rfl (fun h => ?_) (fun h => ?_) | refine v_cond rfl (fun h => ?_) (fun h => ?_)) | (show SH _ _ _ _ _ (_ :: _) _ _ _; first | (show SH _ _ _ _ _ (⟨_, _, _, _, _, some _⟩ :: _) _ _ _; first | refine grT rfl rfl tbL ?_ | refine gpT rfl rfl tbL ?_ | refine grF rfl rfl tbL ?_ | refine gpF rfl rfl tbL ?_ | refine gu rfl rfl ?_ | refine gtd rfl rfl (fun h => ?_) (fun h => ?_) | refine gfd rfl rfl (fun h => ?_) (fun h => ?_) | refine gt rfl rfl (fun h => ?_) (fun h => ?_) | refine gf rfl rfl (fun h => ?_) (fun h => ?_)) | (show SH _ _ _ _ _ (⟨_, .move _, _, _, _, _⟩ :: _) _ _ _; first | refine mov evL ?_) | (show SH _ _ _ _ _ (⟨_, .assign _, _, _, _, _⟩ :: _) _ _ _; first | refine asg evL ?_) | (show SH _ _ _ _ _ (⟨_, .binOp _ _ _ _ _, _, _, _, _⟩ :: _) _ _ _; first | refine add rfl rfl inL ?_ | refine lss rfl rfl ?_ | refine gtr rfl rfl ?_) | (show SH _ _ _ _ _ (⟨_, .call ⟨.value (.func 23), _, _⟩, _, _, _, _⟩ :: _) _ _ _; refine cl (callee := .func 23) rfl (fun w hw => hfs _ (hA.ext hw.ext) (hB.ext hw.ext)) rfl rfl ?_) | refine pkt rfl tbL evL ?_ | refine pkf rfl tbL evL ?_ | refine bnot rfl ?_) | refine s_nil ?_ | refine kh_normal ?_ | refine kh_ret ?_ | refine kh_exit ?_ | refine bh_normal ?_ | refine bh_ret ?_ | refine bh_exit ?_ | refine bh_exit_ne rfl ?_))
    exact rh3 rfl rfl rfl rfl ⟨none, 0, rfl, rfl⟩ (ent_nilrow (ent_nil _))
  | true =>
    rw [hf] at hfs
    obtain ⟨h1, h2, h3, h4, h5⟩ := fits_of hf
    obtain ⟨h6, h7⟩ := right_of h2
    have h8 := (validB_inc h1).2.1
    by_cases hr : 0 ≤ rounds ∧ rounds ≤ 1000
    · obtain ⟨hr1, hr2⟩ := hr
      have hz : settleB bs ps step slack rounds = true := by rw [settleB, hf]; simp [hr1, hr2]
      unfold settleOut
      rw [hz]
      have hR : (rounds.toNat : Int) = rounds := Int.toNat_of_nonneg hr1
      (repeat' (first | (show VH _ _ _ _ _ _ _; first | refine v_seq ?_ | refine r_seq ?_ | refine r_quiet hmix (by kernel_rfl) ?_ | refine v_block ?_ | refine v_ret ?_ | refine v_skip ?_ | refine v_exit ?_ | refine v_label ?_ | refine v_cond_t rfl tbL ?_ | refine v_cond_f rfl tbL ?_ | refine v_cond_dec rfl (fun h => ?_) (fun h => ?_) | refine v_cond_ndec rfl (fun h => ?_) (fun h => ?_) | refine v_cond rfl (fun h => ?_) (fun h => ?_)) | (show SH _ _ _ _ _ (_ :: _) _ _ _; first | (show SH _ _ _ _ _ (⟨_, _, _, _, _, some _⟩ :: _) _ _ _; first | refine grT rfl rfl tbL ?_ | refine gpT rfl rfl tbL ?_ | refine grF rfl rfl tbL ?_ | refine gpF rfl rfl tbL ?_ | refine gu rfl rfl ?_ | refine gtd rfl rfl (fun h => ?_) (fun h => ?_) | refine gfd rfl rfl (fun h => ?_) (fun h => ?_) | refine gt rfl rfl (fun h => ?_) (fun h => ?_) | refine gf rfl rfl (fun h => ?_) (fun h => ?_)) | (show SH _ _ _ _ _ (⟨_, .move _, _, _, _, _⟩ :: _) _ _ _; first | refine mov evL ?_) | (show SH _ _ _ _ _ (⟨_, .assign _, _, _, _, _⟩ :: _) _ _ _; first | refine asg evL ?_) | (show SH _ _ _ _ _ (⟨_, .binOp _ _ _ _ _, _, _, _, _⟩ :: _) _ _ _; first | refine add rfl rfl inL ?_ | refine lss rfl rfl ?_ | refine gtr rfl rfl ?_) | (show SH _ _ _ _ _ (⟨_, .call ⟨.value (.func 23), _, _⟩, _, _, _, _⟩ :: _) _ _ _; refine cl (callee := .func 23) rfl (fun w hw => hfs _ (hA.ext hw.ext) (hB.ext hw.ext)) rfl rfl ?_) | (show SH _ _ _ _ _ (⟨_, .call ⟨.value (.func 24), _, _⟩, _, _, _, _⟩ :: _) _ _ _; refine cp (callee := .func 24) rfl (fun w hw => clone_spec A bs c1 w hl (hA.ext hw.ext)) rfl rfl ?_) | refine pkt rfl tbL evL ?_ | refine pkf rfl tbL evL ?_ | refine bnot rfl ?_) | refine s_nil ?_ | refine kh_normal ?_ | refine kh_ret ?_ | refine kh_exit ?_ | refine bh_normal ?_ | refine bh_ret ?_ | refine bh_exit ?_ | refine bh_exit_ne rfl ?_))
      rintro _ _ ⟨A1, cp1, rfl, rfl⟩
      (repeat' (first | (show VH _ _ _ _ _ _ _; first | refine v_seq ?_ | refine r_seq ?_ | refine r_quiet hmix (by kernel_rfl) ?_ | refine v_block ?_ | refine v_ret ?_ | refine v_skip ?_ | refine v_exit ?_ | refine v_label ?_ | refine v_cond_t rfl tbL ?_ | refine v_cond_f rfl tbL ?_ | refine v_cond_dec rfl (fun h => ?_) (fun h => ?_) | refine v_cond_ndec rfl (fun h => ?_) (fun h => ?_) | refine v_cond rfl (fun h => ?_) (fun h => ?_)) | (show SH _ _ _ _ _ (_ :: _) _ _ _; first | (show SH _ _ _ _ _ (⟨_, _, _, _, _, some _⟩ :: _) _ _ _; first | refine grT rfl rfl tbL ?_ | refine gpT rfl rfl tbL ?_ | refine grF rfl rfl tbL ?_ | refine gpF rfl rfl tbL ?_ | refine gu rfl rfl ?_ | refine gtd rfl rfl (fun h => ?_) (fun h => ?_) | refine gfd rfl rfl (fun h => ?_) (fun h => ?_) | refine gt rfl rfl (fun h => ?_) (fun h => ?_) | refine gf rfl rfl (fun h => ?_) (fun h => ?_)) | (show SH _ _ _ _ _ (⟨_, .move _, _, _, _, _⟩ :: _) _ _ _; first | refine mov evL ?_) | (show SH _ _ _ _ _ (⟨_, .assign _, _, _, _, _⟩ :: _) _ _ _; first | refine asg evL ?_) | (show SH _ _ _ _ _ (⟨_, .binOp _ _ _ _ _, _, _, _, _⟩ :: _) _ _ _; first | refine add rfl rfl inL ?_ | refine lss rfl rfl ?_ | refine gtr rfl rfl ?_) | refine pkt rfl tbL evL ?_ | refine pkf rfl tbL evL ?_ | refine bnot rfl ?_) | refine s_nil ?_ | refine kh_normal ?_ | refine kh_ret ?_ | refine kh_exit ?_ | refine bh_normal ?_ | refine bh_ret ?_ | refine bh_exit ?_ | refine bh_exit_ne rfl ?_))
      refine v_norm [(1,_),(2,_),(3,_),(4,_),(13,_),(14,_)] heL (fun g => ?_)
      refine v_loop [(14,14),(31,42)] (fun y : Nat × List Int => [(14, .int .i64 y.1)]) (fun y => [orow 3 A1 cp1 y.2]) (fun y => y.1 ≤ rounds.toNat ∧ y.2.length = bs.length ∧ Good y.2 ∧ (settleN ps step slack (rounds.toNat - y.1) y.2).1 = (settleN ps step slack rounds.toNat bs).1 ∧ y.1 + (settleN ps step slack (rounds.toNat - y.1) y.2).2 = (settleN ps step slack rounds.toNat bs).2)
        (fun y => rounds.toNat - y.1) (0, bs) hsL enL ⟨Nat.zero_le _, rfl, good_of_valid h1, rfl, by simp⟩ ?_
      rintro ⟨n, cur⟩ g2 ⟨hn, hcl, hgood, hs1, hs2⟩
      simp only [sets]
      simp only at hn hcl hgood hs1 hs2
      (repeat' (first | (show VH _ _ _ _ _ _ _; first | refine v_seq ?_ | refine r_seq ?_ | refine r_quiet hmix (by kernel_rfl) ?_ | refine v_block ?_ | refine v_ret ?_ | refine v_skip ?_ | refine v_exit ?_ | refine v_label ?_ | refine v_cond_t rfl tbL ?_ | refine v_cond_f rfl tbL ?_ | refine v_cond_dec rfl (fun h => ?_) (fun h => ?_) | refine v_cond_ndec rfl (fun h => ?_) (fun h => ?_) | refine v_cond rfl (fun h => ?_) (fun h => ?_)) | (show SH _ _ _ _ _ (_ :: _) _ _ _; first | (show SH _ _ _ _ _ (⟨_, _, _, _, _, some _⟩ :: _) _ _ _; first | refine grT rfl rfl tbL ?_ | refine gpT rfl rfl tbL ?_ | refine grF rfl rfl tbL ?_ | refine gpF rfl rfl tbL ?_ | refine gu rfl rfl ?_ | refine gtd rfl rfl (fun h => ?_) (fun h => ?_) | refine gfd rfl rfl (fun h => ?_) (fun h => ?_) | refine gt rfl rfl (fun h => ?_) (fun h => ?_) | refine gf rfl rfl (fun h => ?_) (fun h => ?_)) | (show SH _ _ _ _ _ (⟨_, .move _, _, _, _, _⟩ :: _) _ _ _; first | refine mov evL ?_) | (show SH _ _ _ _ _ (⟨_, .assign _, _, _, _, _⟩ :: _) _ _ _; first | refine asg evL ?_) | (show SH _ _ _ _ _ (⟨_, .binOp _ _ _ _ _, _, _, _, _⟩ :: _) _ _ _; first | refine add rfl rfl inL ?_ | refine lss rfl rfl ?_ | refine gtr rfl rfl ?_) | refine pkt rfl tbL evL ?_ | refine pkf rfl tbL evL ?_ | refine bnot rfl ?_) | refine s_nil ?_ | refine kh_normal ?_ | refine kh_ret ?_ | refine kh_exit ?_ | refine bh_normal ?_ | refine bh_ret ?_ | refine bh_exit ?_ | refine bh_exit_ne rfl ?_))
      · have hrs := fun w' hw => round_spec A1 B cur ps cp1 c2 step slack w [] w' (by omega) h6 hgood h7 h3 h4 hB hw
        rw [hcl] at hrs
        have hRn : rounds.toNat - n = rounds.toNat - (n + 1) + 1 := by omega
        rw [hRn, settleN] at hs1 hs2
        refine cm rfl hrs rfl rfl ?_
        rintro _ _ ⟨rfl, rfl⟩
        refine ⟨trivial, ?_⟩
        (repeat' (first | (show VH _ _ _ _ _ _ _; first | refine v_seq ?_ | refine r_seq ?_ | refine r_quiet hmix (by kernel_rfl) ?_ | refine v_block ?_ | refine v_ret ?_ | refine v_skip ?_ | refine v_exit ?_ | refine v_label ?_ | refine v_cond_t rfl tbL ?_ | refine v_cond_f rfl tbL ?_ | refine v_cond_dec rfl (fun h => ?_) (fun h => ?_) | refine v_cond_ndec rfl (fun h => ?_) (fun h => ?_) | refine v_cond rfl (fun h => ?_) (fun h => ?_)) | (show SH _ _ _ _ _ (_ :: _) _ _ _; first | (show SH _ _ _ _ _ (⟨_, _, _, _, _, some _⟩ :: _) _ _ _; first | refine grT rfl rfl tbL ?_ | refine gpT rfl rfl tbL ?_ | refine grF rfl rfl tbL ?_ | refine gpF rfl rfl tbL ?_ | refine gu rfl rfl ?_ | refine gtd rfl rfl (fun h => ?_) (fun h => ?_) | refine gfd rfl rfl (fun h => ?_) (fun h => ?_) | refine gt rfl rfl (fun h => ?_) (fun h => ?_) | refine gf rfl rfl (fun h => ?_) (fun h => ?_)) | (show SH _ _ _ _ _ (⟨_, .move _, _, _, _, _⟩ :: _) _ _ _; first | refine mov evL ?_) | (show SH _ _ _ _ _ (⟨_, .assign _, _, _, _, _⟩ :: _) _ _ _; first | refine asg evL ?_) | (show SH _ _ _ _ _ (⟨_, .binOp _ _ _ _ _, _, _, _, _⟩ :: _) _ _ _; first | refine add rfl rfl inL ?_ | refine lss rfl rfl ?_ | refine gtr rfl rfl ?_) | refine pkt rfl tbL evL ?_ | refine pkf rfl tbL evL ?_ | refine bnot rfl ?_) | refine s_nil ?_ | refine kh_normal ?_ | refine kh_ret ?_ | refine kh_exit ?_ | refine bh_normal ?_ | refine bh_ret ?_ | refine bh_exit ?_ | refine bh_exit_ne rfl ?_))
        · rw [if_neg h] at hs1 hs2
          exact ⟨agL, (n + 1, roundL cur ps step slack), hsL, ent_refl _, ⟨by show n + 1 ≤ _; omega, by show (roundL _ _ _ _).length = _; rw [roundL_len]; exact hcl, roundL_good hgood h3, hs1, by rw [← hs2]; simp only; omega⟩, by show rounds.toNat - (n + 1) < rounds.toNat - n; omega⟩
        · rw [if_pos h] at hs1 hs2
          simp only [if_true]
          refine rh3 rfl rfl rfl rfl ⟨A1, cp1, ?_, rfl⟩ (by rw [← h, ← hs1]; (repeat (first | exact ent_refl _ | exact ent_nil _ | refine ent_nilrow ?_ | refine ent_cons spL ?_ | refine ent_drop ?_)))
          rw [← hs1, ← hs2]
          show Value.tuple #[Value.slice A1 bs.length cp1, Value.int .i64 n, Value.int .i64 0] = _
          rw [← hcl]; rfl
      · have hnR : n = rounds.toNat := by omega
        subst hnR
        rw [Nat.sub_self, settleN] at hs1 hs2
        (repeat' (first | (show VH _ _ _ _ _ _ _; first | refine v_seq ?_ | refine r_seq ?_ | refine r_quiet hmix (by kernel_rfl) ?_ | refine v_block ?_ | refine v_ret ?_ | refine v_skip ?_ | refine v_exit ?_ | refine v_label ?_ | refine v_cond_t rfl tbL ?_ | refine v_cond_f rfl tbL ?_ | refine v_cond_dec rfl (fun h => ?_) (fun h => ?_) | refine v_cond_ndec rfl (fun h => ?_) (fun h => ?_) | refine v_cond rfl (fun h => ?_) (fun h => ?_)) | (show SH _ _ _ _ _ (_ :: _) _ _ _; first | (show SH _ _ _ _ _ (⟨_, _, _, _, _, some _⟩ :: _) _ _ _; first | refine grT rfl rfl tbL ?_ | refine gpT rfl rfl tbL ?_ | refine grF rfl rfl tbL ?_ | refine gpF rfl rfl tbL ?_ | refine gu rfl rfl ?_ | refine gtd rfl rfl (fun h => ?_) (fun h => ?_) | refine gfd rfl rfl (fun h => ?_) (fun h => ?_) | refine gt rfl rfl (fun h => ?_) (fun h => ?_) | refine gf rfl rfl (fun h => ?_) (fun h => ?_)) | (show SH _ _ _ _ _ (⟨_, .move _, _, _, _, _⟩ :: _) _ _ _; first | refine mov evL ?_) | (show SH _ _ _ _ _ (⟨_, .assign _, _, _, _, _⟩ :: _) _ _ _; first | refine asg evL ?_) | (show SH _ _ _ _ _ (⟨_, .binOp _ _ _ _ _, _, _, _, _⟩ :: _) _ _ _; first | refine add rfl rfl inL ?_ | refine lss rfl rfl ?_ | refine gtr rfl rfl ?_) | refine pkt rfl tbL evL ?_ | refine pkf rfl tbL evL ?_ | refine bnot rfl ?_) | refine s_nil ?_ | refine kh_normal ?_ | refine kh_ret ?_ | refine kh_exit ?_ | refine bh_normal ?_ | refine bh_ret ?_ | refine bh_exit ?_ | refine bh_exit_ne rfl ?_))
        simp only [if_true]
        refine rh3 rfl rfl rfl rfl ⟨A1, cp1, ?_, rfl⟩ (by rw [← hs1]; (repeat (first | exact ent_refl _ | exact ent_nil _ | refine ent_nilrow ?_ | refine ent_cons spL ?_ | refine ent_drop ?_)))
        rw [← hs1, ← hs2]
        show Value.tuple #[Value.slice A1 bs.length cp1, Value.int .i64 rounds.toNat, Value.int .i64 0] = _
        rw [← hcl]; rfl
    · have hz : settleB bs ps step slack rounds = false := by rw [settleB, hf]; simp; omega
      unfold settleOut
      rw [hz]
      (repeat' (first | (show VH _ _ _ _ _ _ _; first | refine v_seq ?_ | refine r_seq ?_ | refine r_quiet hmix (by kernel_rfl) ?_ | refine v_block ?_ | refine v_ret ?_ | refine v_skip ?_ | refine v_exit ?_ | refine v_label ?_ | refine v_cond_t rfl tbL ?_ | refine v_cond_f rfl tbL ?_ | refine v_cond_dec rfl (fun h => ?_) (fun h => ?_) | refine v_cond_ndec rfl (fun h => ?_) (fun h => ?_) | refine v_cond rfl (fun h => ?_) (fun h => ?_)) | (show SH _ _ _ _ _ (_ :: _) _ _ _; first | (show SH _ _ _ _ _ (⟨_, _, _, _, _, some _⟩ :: _) _ _ _; first | refine grT rfl rfl tbL ?_ | refine gpT rfl rfl tbL ?_ | refine grF rfl rfl tbL ?_ | refine gpF rfl rfl tbL ?_ | refine gu rfl rfl ?_ | refine gtd rfl rfl (fun h => ?_) (fun h => ?_) | refine gfd rfl rfl (fun h => ?_) (fun h => ?_) | refine gt rfl rfl (fun h => ?_) (fun h => ?_) | refine gf rfl rfl (fun h => ?_) (fun h => ?_)) | (show SH _ _ _ _ _ (⟨_, .move _, _, _, _, _⟩ :: _) _ _ _; first | refine mov evL ?_) | (show SH _ _ _ _ _ (⟨_, .assign _, _, _, _, _⟩ :: _) _ _ _; first | refine asg evL ?_) | (show SH _ _ _ _ _ (⟨_, .binOp _ _ _ _ _, _, _, _, _⟩ :: _) _ _ _; first | refine add rfl rfl inL ?_ | refine lss rfl rfl ?_ | refine gtr rfl rfl ?_) | (show SH _ _ _ _ _ (⟨_, .call ⟨.value (.func 23), _, _⟩, _, _, _, _⟩ :: _) _ _ _; refine cl (callee := .func 23) rfl (fun w hw => hfs _ (hA.ext hw.ext) (hB.ext hw.ext)) rfl rfl ?_) | refine pkt rfl tbL evL ?_ | refine pkf rfl tbL evL ?_ | refine bnot rfl ?_) | refine s_nil ?_ | refine kh_normal ?_ | refine kh_ret ?_ | refine kh_exit ?_ | refine bh_normal ?_ | refine bh_ret ?_ | refine bh_exit ?_ | refine bh_exit_ne rfl ?_))
      all_goals exact rh3 rfl rfl rfl rfl ⟨none, 0, rfl, rfl⟩ (ent_nilrow (ent_nil _))

/-! Moves -/
def movesFrom (f t : List Int) (k : Int) : List Int → List Mv
  | [] => []
  | x :: l => if zoneOf f x = zoneOf t x then movesFrom f t (k + 1) l else ⟨k, zoneOf f x, zoneOf t x⟩ :: movesFrom f t (k + 1) l
def movesB (f t ps : List Int) : Bool := validB f && (validB t && (rightB ps && decide (f.length = t.length)))
def movesOut (f t ps : List Int) : List Mv := if movesB f t ps then movesFrom f t 0 ps else []
theorem movesFrom_len (f t : List Int) : ∀ (l : List Int) (k : Int), (movesFrom f t k l).length ≤ l.length
  | [], _ => Nat.le_refl _
  | x :: l, k => by
    simp only [movesFrom]
    split
    · have := movesFrom_len f t l (k + 1); simp only [List.length_cons]; omega
    · have := movesFrom_len f t l (k + 1); simp only [List.length_cons]; omega
set_option maxHeartbeats 1000000 in
set_option maxRecDepth 100000 in
theorem Moves_spec (A B C : Option Addr) (f t ps : List Int) (c1 c2 c3 : Nat) (w : World) (hl : f.length ≤ 1000000) (hl2 : t.length ≤ 1000000) (hl3 : ps.length ≤ 1000000) (hA : Rd w A f) (hB : Rd w B t) (hC : Rd w C ps) :
    Ret Tryz.prog 19 [.slice A f.length c1, .slice B t.length c2, .slice C ps.length c3].toArray w (RP w (FreshE 46 (movesOut f t ps) (errOf (movesB f t ps)))) := by
  refine enterH Tryz.func19 rfl rfl Tryz.ntmps19 rfl (Wd.refl _) ?_
  have hvs := fun w h => valid_spec A f c1 w hl h
  have hvt := fun w h => valid_spec B t c2 w hl2 h
  have hrs := fun w h => right_spec C ps c3 w hl3 h
  unfold movesOut
  cases h1 : validB f with
  | false =>
    have hz : movesB f t ps = false := by rw [movesB, h1]; rfl
    rw [hz]; rw [h1] at hvs
    (repeat' (first | (show VH _ _ _ _ _ _ _; first | refine v_seq ?_ | refine r_seq ?_ | refine r_quiet hmix (by kernel_rfl) ?_ | refine v_block ?_ | refine v_ret ?_ | refine v_skip ?_ | refine v_exit ?_ | refine v_label ?_ | refine v_cond_t rfl tbL ?_ | refine v_cond_f rfl tbL ?_ | refine v_cond_dec rfl (fun h => ?_) (fun h => ?_) | refine v_cond_ndec rfl (fun h => ?_) (fun h => ?_) | refine v_cond rfl (fun h => ?_) (fun h => ?_)) | (show SH _ _ _ _ _ (_ :: _) _ _ _; first | (show SH _ _ _ _ _ (⟨_, _, _, _, _, some _⟩ :: _) _ _ _; first | refine grT rfl rfl tbL ?_ | refine gpT rfl rfl tbL ?_ | refine grF rfl rfl tbL ?_ | refine gpF rfl rfl tbL ?_ | refine gu rfl rfl ?_ | refine gtd rfl rfl (fun h => ?_) (fun h => ?_) | refine gfd rfl rfl (fun h => ?_) (fun h => ?_) | refine gt rfl rfl (fun h => ?_) (fun h => ?_) | refine gf rfl rfl (fun h => ?_) (fun h => ?_)) | (show SH _ _ _ _ _ (⟨_, .move _, _, _, _, _⟩ :: _) _ _ _; first | refine mov evL ?_) | (show SH _ _ _ _ _ (⟨_, .assign _, _, _, _, _⟩ :: _) _ _ _; first | refine asg evL ?_) | (show SH _ _ _ _ _ (⟨_, .binOp _ _ _ _ _, _, _, _, _⟩ :: _) _ _ _; first | refine add rfl rfl inL ?_ | refine lss rfl rfl ?_ | refine neq rfl rfl ?_ | refine nen rfl rfl ?_ | refine neb rfl rfl ?_) | (show SH _ _ _ _ _ (⟨_, .load _ _, _, _, _, _⟩ :: _) _ _ _; first | refine lsl rfl (fun _ _ => rdL) omL (by assumption) ?_ | refine lin rfl (fun _ _ => rdL) omL ?_ | refine lbx rfl spL (by rfl) ?_ | refine lba rfl spL (by rfl) ?_ | refine lbi rfl spL omL ?_ | refine lr1 rfl (fun _ _ => rdL) (by rfl) omL (by rfl) ?_ | refine lra rfl (fun _ _ => rdL) (by rfl) omL ?_ | refine lrf rfl (fun _ _ => rdL) (by rfl) omL (by rfl) ?_ | refine lcell rfl (fun w hw => hw.ext.cell (by assumption)) ?_) | (show SH _ _ _ _ _ (⟨_, .indexAddr _ _ _, _, _, _, _⟩ :: _) _ _ _; first | refine ix rfl rfl (by with_reducible rfl) (fun _ _ => rdL) (by rfl) omL omL ?_ | refine ixi rfl rfl (fun _ _ => rdL) (by rfl) omL omL omL ?_ | refine ixb rfl rfl omL ?_) | (show SH _ _ _ _ _ (⟨_, .call ⟨.builtin _, _, _⟩, _, _, _, _⟩ :: _) _ _ _; first | refine slen rfl ?_) | (show SH _ _ _ _ _ (⟨_, .call ⟨.value (.func 14), _, _⟩, _, _, _, _⟩ :: _) _ _ _; refine cl (callee := .func 14) rfl (fun w hw => hvs _ (hA.ext hw.ext)) rfl rfl ?_) | refine pkt rfl tbL evL ?_ | refine pkf rfl tbL evL ?_ | refine bnot rfl ?_ | refine bld rfl rfl ?_ | refine bsl (α := Int) rfl rfl (by repeat (first | exact Vals.nil | (apply Vals.cons; rfl))) rfl (by rfl) (by decide) (fun b => ?_)) | refine s_nil ?_ | refine kh_normal ?_ | refine kh_ret ?_ | refine kh_exit ?_ | refine bh_normal ?_ | refine bh_ret ?_ | refine bh_exit ?_ | refine bh_exit_ne rfl ?_))
    exact rh2 rfl rfl rfl ⟨none, 0, rfl, rfl⟩ (ent_nilrow (ent_nil _))
  | true =>
    rw [h1] at hvs
    cases h2 : validB t with
    | false =>
      have hz : movesB f t ps = false := by rw [movesB, h1, h2]; rfl
      rw [hz]; rw [h2] at hvt
      (repeat' (first | (show VH _ _ _ _ _ _ _; first | refine v_seq ?_ | refine r_seq ?_ | refine r_quiet hmix (by kernel_rfl) ?_ | refine v_block ?_ | refine v_ret ?_ | refine v_skip ?_ | refine v_exit ?_ | refine v_label ?_ | refine v_cond_t rfl tbL ?_ | refine v_cond_f rfl tbL ?_ | refine v_cond_dec rfl (fun h => ?_) (fun h => ?_) | refine v_cond_ndec rfl (fun h => ?_) (fun h => ?_) | refine v_cond rfl (fun h => ?_) (fun h => ?_)) | (show SH _ _ _ _ _ (_ :: _) _ _ _; first | (show SH _ _ _ _ _ (⟨_, _, _, _, _, some _⟩ :: _) _ _ _; first | refine grT rfl rfl tbL ?_ | refine gpT rfl rfl tbL ?_ | refine grF rfl rfl tbL ?_ | refine gpF rfl rfl tbL ?_ | refine gu rfl rfl ?_ | refine gtd rfl rfl (fun h => ?_) (fun h => ?_) | refine gfd rfl rfl (fun h => ?_) (fun h => ?_) | refine gt rfl rfl (fun h => ?_) (fun h => ?_) | refine gf rfl rfl (fun h => ?_) (fun h => ?_)) | (show SH _ _ _ _ _ (⟨_, .move _, _, _, _, _⟩ :: _) _ _ _; first | refine mov evL ?_) | (show SH _ _ _ _ _ (⟨_, .assign _, _, _, _, _⟩ :: _) _ _ _; first | refine asg evL ?_) | (show SH _ _ _ _ _ (⟨_, .binOp _ _ _ _ _, _, _, _, _⟩ :: _) _ _ _; first | refine add rfl rfl inL ?_ | refine lss rfl rfl ?_ | refine neq rfl rfl ?_ | refine nen rfl rfl ?_ | refine neb rfl rfl ?_) | (show SH _ _ _ _ _ (⟨_, .load _ _, _, _, _, _⟩ :: _) _ _ _; first | refine lsl rfl (fun _ _ => rdL) omL (by assumption) ?_ | refine lin rfl (fun _ _ => rdL) omL ?_ | refine lbx rfl spL (by rfl) ?_ | refine lba rfl spL (by rfl) ?_ | refine lbi rfl spL omL ?_ | refine lr1 rfl (fun _ _ => rdL) (by rfl) omL (by rfl) ?_ | refine lra rfl (fun _ _ => rdL) (by rfl) omL ?_ | refine lrf rfl (fun _ _ => rdL) (by rfl) omL (by rfl) ?_ | refine lcell rfl (fun w hw => hw.ext.cell (by assumption)) ?_) | (show SH _ _ _ _ _ (⟨_, .indexAddr _ _ _, _, _, _, _⟩ :: _) _ _ _; first | refine ix rfl rfl (by with_reducible rfl) (fun _ _ => rdL) (by rfl) omL omL ?_ | refine ixi rfl rfl (fun _ _ => rdL) (by rfl) omL omL omL ?_ | refine ixb rfl rfl omL ?_) | (show SH _ _ _ _ _ (⟨_, .call ⟨.builtin _, _, _⟩, _, _, _, _⟩ :: _) _ _ _; first | refine slen rfl ?_) | (show SH _ _ _ _ _ (⟨_, .call ⟨.value (.func 14), _, _⟩, _, _, _, _⟩ :: _) _ _ _; refine cl (callee := .func 14) rfl (fun w hw => hvs _ (hA.ext hw.ext)) rfl rfl ?_) | (show SH _ _ _ _ _ (⟨_, .call ⟨.value (.func 14), _, _⟩, _, _, _, _⟩ :: _) _ _ _; refine cl (callee := .func 14) rfl (fun w hw => hvt _ (hB.ext hw.ext)) rfl rfl ?_) | refine pkt rfl tbL evL ?_ | refine pkf rfl tbL evL ?_ | refine bnot rfl ?_ | refine bld rfl rfl ?_ | refine bsl (α := Int) rfl rfl (by repeat (first | exact Vals.nil | (apply Vals.cons; rfl))) rfl (by rfl) (by decide) (fun b => ?_)) | refine s_nil ?_ | refine kh_normal ?_ | refine kh_ret ?_ | refine kh_exit ?_ | refine bh_normal ?_ | refine bh_ret ?_ | refine bh_exit ?_ | refine bh_exit_ne rfl ?_))
      exact rh2 rfl rfl rfl ⟨none, 0, rfl, rfl⟩ (ent_nilrow (ent_nil _))
    | true =>
      rw [h2] at hvt
      cases h3 : rightB ps with
      | false =>
        have hz : movesB f t ps = false := by rw [movesB, h1, h2, h3]; rfl
        rw [hz]; rw [h3] at hrs
        (repeat' (first | (show VH _ _ _ _ _ _ _; first | refine v_seq ?_ | refine r_seq ?_ | refine r_quiet hmix (by kernel_rfl) ?_ | refine v_block ?_ | refine v_ret ?_ | refine v_skip ?_ | refine v_exit ?_ | refine v_label ?_ | refine v_cond_t rfl tbL ?_ | refine v_cond_f rfl tbL ?_ | refine v_cond_dec rfl (fun h => ?_) (fun h => ?_) | refine v_cond_ndec rfl (fun h => ?_) (fun h => ?_) | refine v_cond rfl (fun h => ?_) (fun h => ?_)) | (show SH _ _ _ _ _ (_ :: _) _ _ _; first | (show SH _ _ _ _ _ (⟨_, _, _, _, _, some _⟩ :: _) _ _ _; first | refine grT rfl rfl tbL ?_ | refine gpT rfl rfl tbL ?_ | refine grF rfl rfl tbL ?_ | refine gpF rfl rfl tbL ?_ | refine gu rfl rfl ?_ | refine gtd rfl rfl (fun h => ?_) (fun h => ?_) | refine gfd rfl rfl (fun h => ?_) (fun h => ?_) | refine gt rfl rfl (fun h => ?_) (fun h => ?_) | refine gf rfl rfl (fun h => ?_) (fun h => ?_)) | (show SH _ _ _ _ _ (⟨_, .move _, _, _, _, _⟩ :: _) _ _ _; first | refine mov evL ?_) | (show SH _ _ _ _ _ (⟨_, .assign _, _, _, _, _⟩ :: _) _ _ _; first | refine asg evL ?_) | (show SH _ _ _ _ _ (⟨_, .binOp _ _ _ _ _, _, _, _, _⟩ :: _) _ _ _; first | refine add rfl rfl inL ?_ | refine lss rfl rfl ?_ | refine neq rfl rfl ?_ | refine nen rfl rfl ?_ | refine neb rfl rfl ?_) | (show SH _ _ _ _ _ (⟨_, .load _ _, _, _, _, _⟩ :: _) _ _ _; first | refine lsl rfl (fun _ _ => rdL) omL (by assumption) ?_ | refine lin rfl (fun _ _ => rdL) omL ?_ | refine lbx rfl spL (by rfl) ?_ | refine lba rfl spL (by rfl) ?_ | refine lbi rfl spL omL ?_ | refine lr1 rfl (fun _ _ => rdL) (by rfl) omL (by rfl) ?_ | refine lra rfl (fun _ _ => rdL) (by rfl) omL ?_ | refine lrf rfl (fun _ _ => rdL) (by rfl) omL (by rfl) ?_ | refine lcell rfl (fun w hw => hw.ext.cell (by assumption)) ?_) | (show SH _ _ _ _ _ (⟨_, .indexAddr _ _ _, _, _, _, _⟩ :: _) _ _ _; first | refine ix rfl rfl (by with_reducible rfl) (fun _ _ => rdL) (by rfl) omL omL ?_ | refine ixi rfl rfl (fun _ _ => rdL) (by rfl) omL omL omL ?_ | refine ixb rfl rfl omL ?_) | (show SH _ _ _ _ _ (⟨_, .call ⟨.builtin _, _, _⟩, _, _, _, _⟩ :: _) _ _ _; first | refine slen rfl ?_) | (show SH _ _ _ _ _ (⟨_, .call ⟨.value (.func 14), _, _⟩, _, _, _, _⟩ :: _) _ _ _; refine cl (callee := .func 14) rfl (fun w hw => hvs _ (hA.ext hw.ext)) rfl rfl ?_) | (show SH _ _ _ _ _ (⟨_, .call ⟨.value (.func 14), _, _⟩, _, _, _, _⟩ :: _) _ _ _; refine cl (callee := .func 14) rfl (fun w hw => hvt _ (hB.ext hw.ext)) rfl rfl ?_) | (show SH _ _ _ _ _ (⟨_, .call ⟨.value (.func 27), _, _⟩, _, _, _, _⟩ :: _) _ _ _; refine cl (callee := .func 27) rfl (fun w hw => hrs _ (hC.ext hw.ext)) rfl rfl ?_) | refine pkt rfl tbL evL ?_ | refine pkf rfl tbL evL ?_ | refine bnot rfl ?_ | refine bld rfl rfl ?_ | refine bsl (α := Int) rfl rfl (by repeat (first | exact Vals.nil | (apply Vals.cons; rfl))) rfl (by rfl) (by decide) (fun b => ?_)) | refine s_nil ?_ | refine kh_normal ?_ | refine kh_ret ?_ | refine kh_exit ?_ | refine bh_normal ?_ | refine bh_ret ?_ | refine bh_exit ?_ | refine bh_exit_ne rfl ?_))
        exact rh2 rfl rfl rfl ⟨none, 0, rfl, rfl⟩ (ent_nilrow (ent_nil _))
      | true =>
        rw [h3] at hrs
        by_cases h4 : f.length = t.length
        · have hz : movesB f t ps = true := by rw [movesB, h1, h2, h3, decide_eq_true h4]; rfl
          rw [hz]
          obtain ⟨hi1, hi2, _⟩ := validB_inc h1
          obtain ⟨hi3, hi4, _⟩ := validB_inc h2
          (repeat' (first | (show VH _ _ _ _ _ _ _; first | refine v_seq ?_ | refine r_seq ?_ | refine r_quiet hmix (by kernel_rfl) ?_ | refine v_block ?_ | refine v_ret ?_ | refine v_skip ?_ | refine v_exit ?_ | refine v_label ?_ | refine v_cond_t rfl tbL ?_ | refine v_cond_f rfl tbL ?_ | refine v_cond_dec rfl (fun h => ?_) (fun h => ?_) | refine v_cond_ndec rfl (fun h => ?_) (fun h => ?_) | refine v_cond rfl (fun h => ?_) (fun h => ?_)) | (show SH _ _ _ _ _ (_ :: _) _ _ _; first | (show SH _ _ _ _ _ (⟨_, _, _, _, _, some _⟩ :: _) _ _ _; first | refine grT rfl rfl tbL ?_ | refine gpT rfl rfl tbL ?_ | refine grF rfl rfl tbL ?_ | refine gpF rfl rfl tbL ?_ | refine gu rfl rfl ?_ | refine gtd rfl rfl (fun h => ?_) (fun h => ?_) | refine gfd rfl rfl (fun h => ?_) (fun h => ?_) | refine gt rfl rfl (fun h => ?_) (fun h => ?_) | refine gf rfl rfl (fun h => ?_) (fun h => ?_)) | (show SH _ _ _ _ _ (⟨_, .move _, _, _, _, _⟩ :: _) _ _ _; first | refine mov evL ?_) | (show SH _ _ _ _ _ (⟨_, .assign _, _, _, _, _⟩ :: _) _ _ _; first | refine asg evL ?_) | (show SH _ _ _ _ _ (⟨_, .binOp _ _ _ _ _, _, _, _, _⟩ :: _) _ _ _; first | refine add rfl rfl inL ?_ | refine lss rfl rfl ?_ | refine neq rfl rfl ?_ | refine nen rfl rfl ?_ | refine neb rfl rfl ?_) | (show SH _ _ _ _ _ (⟨_, .load _ _, _, _, _, _⟩ :: _) _ _ _; first | refine lsl rfl (fun _ _ => rdL) omL (by assumption) ?_ | refine lin rfl (fun _ _ => rdL) omL ?_ | refine lbx rfl spL (by rfl) ?_ | refine lba rfl spL (by rfl) ?_ | refine lbi rfl spL omL ?_ | refine lr1 rfl (fun _ _ => rdL) (by rfl) omL (by rfl) ?_ | refine lra rfl (fun _ _ => rdL) (by rfl) omL ?_ | refine lrf rfl (fun _ _ => rdL) (by rfl) omL (by rfl) ?_ | refine lcell rfl (fun w hw => hw.ext.cell (by assumption)) ?_) | (show SH _ _ _ _ _ (⟨_, .indexAddr _ _ _, _, _, _, _⟩ :: _) _ _ _; first | refine ix rfl rfl (by with_reducible rfl) (fun _ _ => rdL) (by rfl) omL omL ?_ | refine ixi rfl rfl (fun _ _ => rdL) (by rfl) omL omL omL ?_ | refine ixb rfl rfl omL ?_) | (show SH _ _ _ _ _ (⟨_, .call ⟨.builtin _, _, _⟩, _, _, _, _⟩ :: _) _ _ _; first | refine slen rfl ?_) | (show SH _ _ _ _ _ (⟨_, .call ⟨.value (.func 14), _, _⟩, _, _, _, _⟩ :: _) _ _ _; refine cl (callee := .func 14) rfl (fun w hw => hvs _ (hA.ext hw.ext)) rfl rfl ?_) | (show SH _ _ _ _ _ (⟨_, .call ⟨.value (.func 14), _, _⟩, _, _, _, _⟩ :: _) _ _ _; refine cl (callee := .func 14) rfl (fun w hw => hvt _ (hB.ext hw.ext)) rfl rfl ?_) | (show SH _ _ _ _ _ (⟨_, .call ⟨.value (.func 27), _, _⟩, _, _, _, _⟩ :: _) _ _ _; refine cl (callee := .func 27) rfl (fun w hw => hrs _ (hC.ext hw.ext)) rfl rfl ?_) | refine pkt rfl tbL evL ?_ | refine pkf rfl tbL evL ?_ | refine bnot rfl ?_ | refine bld rfl rfl ?_ | refine bsl (α := Int) rfl rfl (by repeat (first | exact Vals.nil | (apply Vals.cons; rfl))) rfl (by rfl) (by decide) (fun b => ?_)) | refine s_nil ?_ | refine kh_normal ?_ | refine kh_ret ?_ | refine kh_exit ?_ | refine bh_normal ?_ | refine bh_ret ?_ | refine bh_exit ?_ | refine bh_exit_ne rfl ?_))
          refine v_norm [(0,_),(1,_),(2,_),(8,_),(33,_),(34,_),(35,_)] heL (fun g => ?_)
          refine v_loop [(8,12),(35,56)] (fun y : (Nat × List Mv) × (Option Addr × Nat) => [(35, .int .i64 y.1.1), (8, .slice y.2.1 y.1.2.length y.2.2)]) (fun y => [orow 46 y.2.1 y.2.2 y.1.2]) (fun y => y.1.1 ≤ ps.length ∧ y.1.2 ++ movesFrom f t y.1.1 (ps.drop y.1.1) = movesFrom f t 0 ps) (fun y => ps.length - y.1.1) ((0, []), (none, 0)) hsL enL ⟨Nat.zero_le _, rfl⟩ ?_
          rintro ⟨⟨k, acc⟩, A1, cp1⟩ g2 ⟨hk, hacc⟩
          simp only [sets]
          simp only at hk hacc
          have hal : acc.length ≤ ps.length := by
            have := congrArg List.length hacc
            rw [List.length_append] at this
            have := movesFrom_len f t ps 0
            omega
          have hz1 := zoneOf_le f (ps.getD k 0)
          have hz2 := zoneOf_le t (ps.getD k 0)
          (repeat' (first | (show VH _ _ _ _ _ _ _; first | refine v_seq ?_ | refine r_seq ?_ | refine r_quiet hmix (by kernel_rfl) ?_ | refine v_block ?_ | refine v_ret ?_ | refine v_skip ?_ | refine v_exit ?_ | refine v_label ?_ | refine v_cond_t rfl tbL ?_ | refine v_cond_f rfl tbL ?_ | refine v_cond_dec rfl (fun h => ?_) (fun h => ?_) | refine v_cond_ndec rfl (fun h => ?_) (fun h => ?_) | refine v_cond rfl (fun h => ?_) (fun h => ?_)) | (show SH _ _ _ _ _ (_ :: _) _ _ _; first | (show SH _ _ _ _ _ (⟨_, _, _, _, _, some _⟩ :: _) _ _ _; first | refine grT rfl rfl tbL ?_ | refine gpT rfl rfl tbL ?_ | refine grF rfl rfl tbL ?_ | refine gpF rfl rfl tbL ?_ | refine gu rfl rfl ?_ | refine gtd rfl rfl (fun h => ?_) (fun h => ?_) | refine gfd rfl rfl (fun h => ?_) (fun h => ?_) | refine gt rfl rfl (fun h => ?_) (fun h => ?_) | refine gf rfl rfl (fun h => ?_) (fun h => ?_)) | (show SH _ _ _ _ _ (⟨_, .move _, _, _, _, _⟩ :: _) _ _ _; first | refine mov evL ?_) | (show SH _ _ _ _ _ (⟨_, .assign _, _, _, _, _⟩ :: _) _ _ _; first | refine asg evL ?_) | (show SH _ _ _ _ _ (⟨_, .binOp _ _ _ _ _, _, _, _, _⟩ :: _) _ _ _; first | refine add rfl rfl inL ?_ | refine lss rfl rfl ?_ | refine neq rfl rfl ?_ | refine nen rfl rfl ?_ | refine neb rfl rfl ?_) | (show SH _ _ _ _ _ (⟨_, .load _ _, _, _, _, _⟩ :: _) _ _ _; first | refine lsl rfl (fun _ _ => rdL) omL (by assumption) ?_ | refine lin rfl (fun _ _ => rdL) omL ?_ | refine lbx rfl spL (by rfl) ?_ | refine lba rfl spL (by rfl) ?_ | refine lbi rfl spL omL ?_ | refine lr1 rfl (fun _ _ => rdL) (by rfl) omL (by rfl) ?_ | refine lra rfl (fun _ _ => rdL) (by rfl) omL ?_ | refine lrf rfl (fun _ _ => rdL) (by rfl) omL (by rfl) ?_ | refine lcell rfl (fun w hw => hw.ext.cell (by assumption)) ?_) | (show SH _ _ _ _ _ (⟨_, .indexAddr _ _ _, _, _, _, _⟩ :: _) _ _ _; first | refine ix rfl rfl (by with_reducible rfl) (fun _ _ => rdL) (by rfl) omL omL ?_ | refine ixi rfl rfl (fun _ _ => rdL) (by rfl) omL omL omL ?_ | refine ixb rfl rfl omL ?_) | (show SH _ _ _ _ _ (⟨_, .call ⟨.builtin _, _, _⟩, _, _, _, _⟩ :: _) _ _ _; first | refine slen rfl ?_) | (show SH _ _ _ _ _ (⟨_, .call ⟨.value (.func 34), _, _⟩, _, _, _, _⟩ :: _) _ _ _; refine cl (callee := .func 34) rfl (fun w hw => zone_spec A f c1 _ w hl (hA.ext hw.ext) hi1) rfl rfl ?_) | (show SH _ _ _ _ _ (⟨_, .call ⟨.value (.func 34), _, _⟩, _, _, _, _⟩ :: _) _ _ _; refine cl (callee := .func 34) rfl (fun w hw => zone_spec B t c2 _ w hl2 (hB.ext hw.ext) hi3) rfl rfl ?_) | refine pkt rfl tbL evL ?_ | refine pkf rfl tbL evL ?_ | refine bnot rfl ?_ | refine bld rfl rfl ?_ | refine bsl (α := Int) rfl rfl (by repeat (first | exact Vals.nil | (apply Vals.cons; rfl))) rfl (by rfl) (by decide) (fun b => ?_)) | refine s_nil ?_ | refine kh_normal ?_ | refine kh_ret ?_ | refine kh_exit ?_ | refine bh_normal ?_ | refine bh_ret ?_ | refine bh_exit ?_ | refine bh_exit_ne rfl ?_))
          · refine bsl (l := [(⟨k, zoneOf f (ps.getD k 0), zoneOf t (ps.getD k 0)⟩ : Mv)]) rfl rfl (Vals.cons rfl Vals.nil) rfl rfl (by decide) (fun b => ?_)
            refine app rfl rfl rfl spL (fun w hw => hw.rd spL) rfl rfl rfl (by simp only [List.length_cons, List.length_nil]; omega) (by simp only [List.length_cons, List.length_nil]; omega) (fun A4 cp4 => ⟨trivial, ?_⟩)
            (repeat' (first | (show VH _ _ _ _ _ _ _; first | refine v_seq ?_ | refine r_seq ?_ | refine r_quiet hmix (by kernel_rfl) ?_ | refine v_block ?_ | refine v_ret ?_ | refine v_skip ?_ | refine v_exit ?_ | refine v_label ?_ | refine v_cond_t rfl tbL ?_ | refine v_cond_f rfl tbL ?_ | refine v_cond_dec rfl (fun h => ?_) (fun h => ?_) | refine v_cond_ndec rfl (fun h => ?_) (fun h => ?_) | refine v_cond rfl (fun h => ?_) (fun h => ?_)) | (show SH _ _ _ _ _ (_ :: _) _ _ _; first | (show SH _ _ _ _ _ (⟨_, _, _, _, _, some _⟩ :: _) _ _ _; first | refine grT rfl rfl tbL ?_ | refine gpT rfl rfl tbL ?_ | refine grF rfl rfl tbL ?_ | refine gpF rfl rfl tbL ?_ | refine gu rfl rfl ?_ | refine gtd rfl rfl (fun h => ?_) (fun h => ?_) | refine gfd rfl rfl (fun h => ?_) (fun h => ?_) | refine gt rfl rfl (fun h => ?_) (fun h => ?_) | refine gf rfl rfl (fun h => ?_) (fun h => ?_)) | (show SH _ _ _ _ _ (⟨_, .move _, _, _, _, _⟩ :: _) _ _ _; first | refine mov evL ?_) | (show SH _ _ _ _ _ (⟨_, .assign _, _, _, _, _⟩ :: _) _ _ _; first | refine asg evL ?_) | (show SH _ _ _ _ _ (⟨_, .binOp _ _ _ _ _, _, _, _, _⟩ :: _) _ _ _; first | refine add rfl rfl inL ?_ | refine lss rfl rfl ?_ | refine neq rfl rfl ?_ | refine nen rfl rfl ?_ | refine neb rfl rfl ?_) | (show SH _ _ _ _ _ (⟨_, .load _ _, _, _, _, _⟩ :: _) _ _ _; first | refine lsl rfl (fun _ _ => rdL) omL (by assumption) ?_ | refine lin rfl (fun _ _ => rdL) omL ?_ | refine lbx rfl spL (by rfl) ?_ | refine lba rfl spL (by rfl) ?_ | refine lbi rfl spL omL ?_ | refine lr1 rfl (fun _ _ => rdL) (by rfl) omL (by rfl) ?_ | refine lra rfl (fun _ _ => rdL) (by rfl) omL ?_ | refine lrf rfl (fun _ _ => rdL) (by rfl) omL (by rfl) ?_ | refine lcell rfl (fun w hw => hw.ext.cell (by assumption)) ?_) | (show SH _ _ _ _ _ (⟨_, .indexAddr _ _ _, _, _, _, _⟩ :: _) _ _ _; first | refine ix rfl rfl (by with_reducible rfl) (fun _ _ => rdL) (by rfl) omL omL ?_ | refine ixi rfl rfl (fun _ _ => rdL) (by rfl) omL omL omL ?_ | refine ixb rfl rfl omL ?_) | (show SH _ _ _ _ _ (⟨_, .call ⟨.builtin _, _, _⟩, _, _, _, _⟩ :: _) _ _ _; first | refine slen rfl ?_) | refine pkt rfl tbL evL ?_ | refine pkf rfl tbL evL ?_ | refine bnot rfl ?_ | refine bld rfl rfl ?_ | refine bsl (α := Int) rfl rfl (by repeat (first | exact Vals.nil | (apply Vals.cons; rfl))) rfl (by rfl) (by decide) (fun b => ?_)) | refine s_nil ?_ | refine kh_normal ?_ | refine kh_ret ?_ | refine kh_exit ?_ | refine bh_normal ?_ | refine bh_ret ?_ | refine bh_exit ?_ | refine bh_exit_ne rfl ?_))
            refine ⟨agL, ((k + 1, acc ++ [⟨k, zoneOf f (ps.getD k 0), zoneOf t (ps.getD k 0)⟩]), (A4, cp4)), hsL, enL, ⟨by show k + 1 ≤ _; omega, ?_⟩, by show _ - (k + 1) < _ - k; omega⟩
            rw [dropI (by omega), movesFrom, if_neg (by omega)] at hacc
            rw [← hacc, List.append_assoc]; rfl
          · refine ⟨agL, ((k + 1, acc), (A1, cp1)), hsL, enL, ⟨by show k + 1 ≤ _; omega, ?_⟩, by show _ - (k + 1) < _ - k; omega⟩
            rw [dropI (by omega), movesFrom, if_pos (by omega)] at hacc
            exact hacc
          · rw [List.drop_of_length_le (by omega), movesFrom, List.append_nil] at hacc
            subst hacc
            simp only [if_true]
            exact rh2 rfl rfl rfl ⟨A1, cp1, rfl, rfl⟩ enL
        · have hz : movesB f t ps = false := by rw [movesB, h1, h2, h3, decide_eq_false h4]; rfl
          rw [hz]
          (repeat' (first | (show VH _ _ _ _ _ _ _; first | refine v_seq ?_ | refine r_seq ?_ | refine r_quiet hmix (by kernel_rfl) ?_ | refine v_block ?_ | refine v_ret ?_ | refine v_skip ?_ | refine v_exit ?_ | refine v_label ?_ | refine v_cond_t rfl tbL ?_ | refine v_cond_f rfl tbL ?_ | refine v_cond_dec rfl (fun h => ?_) (fun h => ?_) | refine v_cond_ndec rfl (fun h => ?_) (fun h => ?_) | refine v_cond rfl (fun h => ?_) (fun h => ?_)) | (show SH _ _ _ _ _ (_ :: _) _ _ _; first | (show SH _ _ _ _ _ (⟨_, _, _, _, _, some _⟩ :: _) _ _ _; first | refine grT rfl rfl tbL ?_ | refine gpT rfl rfl tbL ?_ | refine grF rfl rfl tbL ?_ | refine gpF rfl rfl tbL ?_ | refine gu rfl rfl ?_ | refine gtd rfl rfl (fun h => ?_) (fun h => ?_) | refine gfd rfl rfl (fun h => ?_) (fun h => ?_) | refine gt rfl rfl (fun h => ?_) (fun h => ?_) | refine gf rfl rfl (fun h => ?_) (fun h => ?_)) | (show SH _ _ _ _ _ (⟨_, .move _, _, _, _, _⟩ :: _) _ _ _; first | refine mov evL ?_) | (show SH _ _ _ _ _ (⟨_, .assign _, _, _, _, _⟩ :: _) _ _ _; first | refine asg evL ?_) | (show SH _ _ _ _ _ (⟨_, .binOp _ _ _ _ _, _, _, _, _⟩ :: _) _ _ _; first | refine add rfl rfl inL ?_ | refine lss rfl rfl ?_ | refine neq rfl rfl ?_ | refine nen rfl rfl ?_ | refine neb rfl rfl ?_) | (show SH _ _ _ _ _ (⟨_, .load _ _, _, _, _, _⟩ :: _) _ _ _; first | refine lsl rfl (fun _ _ => rdL) omL (by assumption) ?_ | refine lin rfl (fun _ _ => rdL) omL ?_ | refine lbx rfl spL (by rfl) ?_ | refine lba rfl spL (by rfl) ?_ | refine lbi rfl spL omL ?_ | refine lr1 rfl (fun _ _ => rdL) (by rfl) omL (by rfl) ?_ | refine lra rfl (fun _ _ => rdL) (by rfl) omL ?_ | refine lrf rfl (fun _ _ => rdL) (by rfl) omL (by rfl) ?_ | refine lcell rfl (fun w hw => hw.ext.cell (by assumption)) ?_) | (show SH _ _ _ _ _ (⟨_, .indexAddr _ _ _, _, _, _, _⟩ :: _) _ _ _; first | refine ix rfl rfl (by with_reducible rfl) (fun _ _ => rdL) (by rfl) omL omL ?_ | refine ixi rfl rfl (fun _ _ => rdL) (by rfl) omL omL omL ?_ | refine ixb rfl rfl omL ?_) | (show SH _ _ _ _ _ (⟨_, .call ⟨.builtin _, _, _⟩, _, _, _, _⟩ :: _) _ _ _; first | refine slen rfl ?_) | (show SH _ _ _ _ _ (⟨_, .call ⟨.value (.func 14), _, _⟩, _, _, _, _⟩ :: _) _ _ _; refine cl (callee := .func 14) rfl (fun w hw => hvs _ (hA.ext hw.ext)) rfl rfl ?_) | (show SH _ _ _ _ _ (⟨_, .call ⟨.value (.func 14), _, _⟩, _, _, _, _⟩ :: _) _ _ _; refine cl (callee := .func 14) rfl (fun w hw => hvt _ (hB.ext hw.ext)) rfl rfl ?_) | (show SH _ _ _ _ _ (⟨_, .call ⟨.value (.func 27), _, _⟩, _, _, _, _⟩ :: _) _ _ _; refine cl (callee := .func 27) rfl (fun w hw => hrs _ (hC.ext hw.ext)) rfl rfl ?_) | refine pkt rfl tbL evL ?_ | refine pkf rfl tbL evL ?_ | refine bnot rfl ?_ | refine bld rfl rfl ?_ | refine bsl (α := Int) rfl rfl (by repeat (first | exact Vals.nil | (apply Vals.cons; rfl))) rfl (by rfl) (by decide) (fun b => ?_)) | refine s_nil ?_ | refine kh_normal ?_ | refine kh_ret ?_ | refine kh_exit ?_ | refine bh_normal ?_ | refine bh_ret ?_ | refine bh_exit ?_ | refine bh_exit_ne rfl ?_))
          exact rh2 rfl rfl rfl ⟨none, 0, rfl, rfl⟩ (ent_nilrow (ent_nil _))
end Go.Proofs.YtdlpnjofdpcjjaaGreat
