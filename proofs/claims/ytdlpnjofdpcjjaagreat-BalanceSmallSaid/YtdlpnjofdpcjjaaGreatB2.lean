/- Package balance: zones, loads; slices.BinarySearch, slices.Clone. -/
import Derived.Test.YtdlpnjofdpcjjaaGreatB1
namespace Go.Proofs.YtdlpnjofdpcjjaaGreat
open Go.Fw Go.RowKit

def cntLt (l : List Int) (x : Int) : Nat := (l.filter fun b => decide (b < x)).length
def zoneOf (l : List Int) (x : Int) : Nat := (l.filter fun b => decide (b ≤ x)).length
theorem cntLt_at (x : Int) : ∀ (l : List Int) (i : Nat), i ≤ l.length → (∀ k, k < i → l.getD k 0 < x) → (∀ k, i ≤ k → k < l.length → x ≤ l.getD k 0) → cntLt l x = i
  | [], i, hi, _, _ => by simp at hi; subst hi; rfl
  | b :: l, 0, _, _, h2 => by
    have hb : ¬ b < x := by have := h2 0 (Nat.le_refl _) (by simp); simp at this; omega
    have ih := cntLt_at x l 0 (Nat.zero_le _) (fun k hk => by omega) (fun k _ hk => by have := h2 (k + 1) (by omega) (by simpa using hk); simpa using this)
    simp only [cntLt, List.filter_cons, hb, decide_false] at ih ⊢
    exact ih
  | b :: l, i + 1, hi, h1, h2 => by
    have hb : b < x := by have := h1 0 (by omega); simpa using this
    have ih := cntLt_at x l i (by simpa using hi) (fun k hk => by have := h1 (k + 1) (by omega); simpa using this) (fun k hk hk2 => by have := h2 (k + 1) (by omega) (by simpa using hk2); simpa using this)
    simp only [cntLt, List.filter_cons, hb, decide_true] at ih ⊢
    simp [ih]
def Inc (l : List Int) : Prop := ∀ i j, i < j → j < l.length → l.getD i 0 < l.getD j 0
set_option maxRecDepth 100000 in
theorem bsearch_spec (A : Option Addr) (l : List Int) (cp : Nat) (x : Int) (w : World) (hl : l.length ≤ 1000000) (hr : Rd w A l) (hs : Inc l) :
    Ret Tryz.prog 60 [.slice A l.length cp, .int .i64 x].toArray w (Out w (.tuple #[.int .i64 (cntLt l x), .bool (decide (cntLt l x < l.length) && decide (l.getD (cntLt l x) 0 = x))])) := by
  refine enterH Tryz.func60 rfl rfl Tryz.ntmps60 rfl (Wd.refl _) ?_
  (repeat' (first | (show VH _ _ _ _ _ _ _; first | refine v_seq ?_ | refine r_seq ?_ | refine r_quiet hmix (by kernel_rfl) ?_ | refine v_block ?_ | refine v_ret ?_ | refine v_skip ?_ | refine v_exit ?_ | refine v_label ?_ | refine v_cond_t rfl tbL ?_ | refine v_cond_f rfl tbL ?_ | refine v_cond_dec rfl (fun h => ?_) (fun h => ?_) | refine v_cond_ndec rfl (fun h => ?_) (fun h => ?_) | refine v_cond rfl (fun h => ?_) (fun h => ?_)) | (show SH _ _ _ _ _ (_ :: _) _ _ _; first | (show SH _ _ _ _ _ (⟨_, _, _, _, _, some _⟩ :: _) _ _ _; first | refine grT rfl rfl tbL ?_ | refine gpT rfl rfl tbL ?_ | refine grF rfl rfl tbL ?_ | refine gpF rfl rfl tbL ?_ | refine gu rfl rfl ?_ | refine gtd rfl rfl (fun h => ?_) (fun h => ?_) | refine gfd rfl rfl (fun h => ?_) (fun h => ?_) | refine gt rfl rfl (fun h => ?_) (fun h => ?_) | refine gf rfl rfl (fun h => ?_) (fun h => ?_)) | (show SH _ _ _ _ _ (⟨_, .move _, _, _, _, _⟩ :: _) _ _ _; first | refine mov evL ?_) | (show SH _ _ _ _ _ (⟨_, .assign _, _, _, _, _⟩ :: _) _ _ _; first | refine asg evL ?_) | (show SH _ _ _ _ _ (⟨_, .binOp _ _ _ _ _, _, _, _, _⟩ :: _) _ _ _; first | refine add rfl rfl inL ?_ | refine lss rfl rfl ?_ | refine eql rfl rfl ?_ | refine eqn rfl rfl ?_ | refine eqb rfl rfl ?_ | refine sh1 rfl rfl ?_) | (show SH _ _ _ _ _ (⟨_, .load _ _, _, _, _, _⟩ :: _) _ _ _; first | refine lsl rfl (fun _ _ => rdL) omL (by assumption) ?_ | refine lin rfl (fun _ _ => rdL) omL ?_ | refine lbx rfl spL (by rfl) ?_ | refine lba rfl spL (by rfl) ?_ | refine lbi rfl spL omL ?_ | refine lr1 rfl (fun _ _ => rdL) (by rfl) omL (by rfl) ?_ | refine lra rfl (fun _ _ => rdL) (by rfl) omL ?_ | refine lrf rfl (fun _ _ => rdL) (by rfl) omL (by rfl) ?_ | refine lcell rfl (fun w hw => hw.ext.cell (by assumption)) ?_) | (show SH _ _ _ _ _ (⟨_, .indexAddr _ _ _, _, _, _, _⟩ :: _) _ _ _; first | refine ix rfl rfl (by with_reducible rfl) (fun _ _ => rdL) (by rfl) omL omL ?_ | refine ixi rfl rfl (fun _ _ => rdL) (by rfl) omL omL omL ?_ | refine ixb rfl rfl omL ?_) | (show SH _ _ _ _ _ (⟨_, .call ⟨.builtin _, _, _⟩, _, _, _, _⟩ :: _) _ _ _; first | refine slen rfl ?_) | refine pkt rfl tbL evL ?_ | refine pkf rfl tbL evL ?_ | refine c64 rfl inL ?_ | refine cu64 rfl omL omL ?_ | refine cnv rfl ?_) | refine s_nil ?_ | refine kh_normal ?_ | refine kh_ret ?_ | refine kh_exit ?_ | refine bh_normal ?_ | refine bh_ret ?_ | refine bh_exit ?_ | refine bh_exit_ne rfl ?_))
  refine v_loop0 [(7,9),(13,30)] (fun x : Nat × Nat => [(7, .int .i64 x.1), (8, .int .i64 x.2)])
    (fun y => y.1 ≤ y.2 ∧ y.2 ≤ l.length ∧ (∀ k, k < y.1 → l.getD k 0 < x) ∧ (∀ k, y.2 ≤ k → k < l.length → x ≤ l.getD k 0)) (fun y => y.2 - y.1) (0, l.length) hsL ⟨Nat.zero_le _, Nat.le_refl _, fun k hk => by simp at hk, fun k hk hk2 => by simp at hk; omega⟩ ?_
  rintro ⟨i, j⟩ g ⟨hij, hj, h1, h2⟩
  simp only [sets]
  simp only at hij hj h1 h2
  (repeat' (first | (show VH _ _ _ _ _ _ _; first | refine v_seq ?_ | refine r_seq ?_ | refine r_quiet hmix (by kernel_rfl) ?_ | refine v_block ?_ | refine v_ret ?_ | refine v_skip ?_ | refine v_exit ?_ | refine v_label ?_ | refine v_cond_t rfl tbL ?_ | refine v_cond_f rfl tbL ?_ | refine v_cond_dec rfl (fun h => ?_) (fun h => ?_) | refine v_cond_ndec rfl (fun h => ?_) (fun h => ?_) | refine v_cond rfl (fun h => ?_) (fun h => ?_)) | (show SH _ _ _ _ _ (_ :: _) _ _ _; first | (show SH _ _ _ _ _ (⟨_, _, _, _, _, some _⟩ :: _) _ _ _; first | refine grT rfl rfl tbL ?_ | refine gpT rfl rfl tbL ?_ | refine grF rfl rfl tbL ?_ | refine gpF rfl rfl tbL ?_ | refine gu rfl rfl ?_ | refine gtd rfl rfl (fun h => ?_) (fun h => ?_) | refine gfd rfl rfl (fun h => ?_) (fun h => ?_) | refine gt rfl rfl (fun h => ?_) (fun h => ?_) | refine gf rfl rfl (fun h => ?_) (fun h => ?_)) | (show SH _ _ _ _ _ (⟨_, .move _, _, _, _, _⟩ :: _) _ _ _; first | refine mov evL ?_) | (show SH _ _ _ _ _ (⟨_, .assign _, _, _, _, _⟩ :: _) _ _ _; first | refine asg evL ?_) | (show SH _ _ _ _ _ (⟨_, .binOp _ _ _ _ _, _, _, _, _⟩ :: _) _ _ _; first | refine add rfl rfl inL ?_ | refine lss rfl rfl ?_ | refine eql rfl rfl ?_ | refine eqn rfl rfl ?_ | refine eqb rfl rfl ?_ | refine sh1 rfl rfl ?_) | (show SH _ _ _ _ _ (⟨_, .load _ _, _, _, _, _⟩ :: _) _ _ _; first | refine lsl rfl (fun _ _ => rdL) omL (by assumption) ?_ | refine lin rfl (fun _ _ => rdL) omL ?_ | refine lbx rfl spL (by rfl) ?_ | refine lba rfl spL (by rfl) ?_ | refine lbi rfl spL omL ?_ | refine lr1 rfl (fun _ _ => rdL) (by rfl) omL (by rfl) ?_ | refine lra rfl (fun _ _ => rdL) (by rfl) omL ?_ | refine lrf rfl (fun _ _ => rdL) (by rfl) omL (by rfl) ?_ | refine lcell rfl (fun w hw => hw.ext.cell (by assumption)) ?_) | (show SH _ _ _ _ _ (⟨_, .indexAddr _ _ _, _, _, _, _⟩ :: _) _ _ _; first | refine ix rfl rfl (by with_reducible rfl) (fun _ _ => rdL) (by rfl) omL omL ?_ | refine ixi rfl rfl (fun _ _ => rdL) (by rfl) omL omL omL ?_ | refine ixb rfl rfl omL ?_) | (show SH _ _ _ _ _ (⟨_, .call ⟨.builtin _, _, _⟩, _, _, _, _⟩ :: _) _ _ _; first | refine slen rfl ?_) | (show SH _ _ _ _ _ (⟨_, .call ⟨.value (.func 94), _, _⟩, _, _, _, _⟩ :: _) _ _ _; refine cl (callee := .func 94) rfl (fun w hw => less_spec _ _ _) rfl rfl ?_) | (show SH _ _ _ _ _ (⟨_, .call ⟨.value (.func 95), _, _⟩, _, _, _, _⟩ :: _) _ _ _; refine cl (callee := .func 95) rfl (fun w hw => isNaN2_spec _ _) rfl rfl ?_) | refine pkt rfl tbL evL ?_ | refine pkf rfl tbL evL ?_ | refine c64 rfl inL ?_ | refine cu64 rfl omL omL ?_ | refine cnv rfl ?_) | refine s_nil ?_ | refine kh_normal ?_ | refine kh_ret ?_ | refine kh_exit ?_ | refine bh_normal ?_ | refine bh_ret ?_ | refine bh_exit ?_ | refine bh_exit_ne rfl ?_))
  · have hm : ((↑i + ↑j : Int) / 2).toNat = (i + j) / 2 := by omega
    rw [hm] at h
    refine ⟨agL, ((i + j) / 2 + 1, j), ⟨congrArg (Value.int .i64) (by omega : ((↑i + ↑j : Int) / 2 + 1) = (((i + j) / 2 + 1 : Nat) : Int)), rfl, trivial⟩, enL, ⟨by show (i + j) / 2 + 1 ≤ j; omega, hj, fun k hk => ?_, h2⟩, by show j - ((i + j) / 2 + 1) < j - i; omega⟩
    rcases Nat.lt_or_ge k ((i + j) / 2) with hlt | hge
    · have := hs k ((i + j) / 2) hlt (by omega); omega
    · have : k = (i + j) / 2 := by simp only at hk; omega
      subst this; exact h
  · have hm : ((↑i + ↑j : Int) / 2).toNat = (i + j) / 2 := by omega
    rw [hm] at h
    refine ⟨agL, (i, (i + j) / 2), ⟨rfl, congrArg (Value.int .i64) (by omega : ((↑i + ↑j : Int) / 2) = (((i + j) / 2 : Nat) : Int)), trivial⟩, enL, ⟨by show i ≤ (i + j) / 2; omega, by show (i + j) / 2 ≤ _; omega, h1, fun k hk hk2 => ?_⟩, by show (i + j) / 2 - i < j - i; omega⟩
    rcases Nat.lt_or_ge ((i + j) / 2) k with hlt | hge
    · have := hs ((i + j) / 2) k hlt (by omega); omega
    · have : k = (i + j) / 2 := by simp only at hk; omega
      subst this; omega
  all_goals
    have hij2 : i = j := by omega
    subst hij2
    have hc := cntLt_at x l i hj h1 h2
    exact rh2 rfl rfl rfl ⟨cong2 (fun a b => Value.tuple #[Value.int .i64 a, Value.bool b]) (show (i : Int) = (cntLt l x : Int) by rw [hc]) (by rw [hc]; cases hb : (decide (i < l.length) && decide (l.getD i 0 = x)) <;> simp only [Bool.and_eq_true, Bool.and_eq_false_iff, decide_eq_true_eq, decide_eq_false_iff_not] at hb <;> first | rfl | (exfalso; omega)), rfl⟩ (ent_nil _)
theorem zone_of_cnt (x : Int) : ∀ (l : List Int), Inc l → (if (decide (cntLt l x < l.length) && decide (l.getD (cntLt l x) 0 = x)) = true then (cntLt l x : Int) + 1 else cntLt l x) = zoneOf l x
  | [], _ => by simp [cntLt, zoneOf]
  | b :: l, hs => by
    have hs' : Inc l := fun i j hij hj => by have := hs (i + 1) (j + 1) (by omega) (by simpa using hj); simpa using this
    have hb : ∀ y ∈ l, b < y := fun y hy => by
      obtain ⟨k, hk, rfl⟩ := List.getElem_of_mem hy
      have := hs 0 (k + 1) (by omega) (by simpa using hk)
      simpa [hk] using this
    have ih := zone_of_cnt x l hs'
    by_cases h1 : b < x
    · have e1 : cntLt (b :: l) x = cntLt l x + 1 := by simp [cntLt, h1]
      have e2 : zoneOf (b :: l) x = zoneOf l x + 1 := by simp [zoneOf, show b ≤ x by omega]
      rw [e1, e2]
      simp only [List.length_cons, List.getD_cons_succ, Nat.add_lt_add_iff_right]
      rw [Int.natCast_add (zoneOf l x), ← ih]
      split <;> simp
    · have e1 : cntLt (b :: l) x = 0 := by
        have : l.filter (fun b => decide (b < x)) = [] := List.filter_eq_nil_iff.2 fun y hy => by have := hb y hy; simp; omega
        simp [cntLt, h1, this]
      have e0 : l.filter (fun b => decide (b ≤ x)) = [] := List.filter_eq_nil_iff.2 fun y hy => by have := hb y hy; simp; omega
      rw [e1]
      by_cases h2 : b = x
      · subst h2; simp [zoneOf, e0]
      · simp [zoneOf, e0, show ¬ b ≤ x by omega, h2]
theorem zone_spec (A : Option Addr) (l : List Int) (cp : Nat) (x : Int) (w : World) (hl : l.length ≤ 1000000) (hr : Rd w A l) (hs : Inc l) :
    Ret Tryz.prog 34 [.slice A l.length cp, .int .i64 x].toArray w (Out w (.int .i64 (zoneOf l x))) := by
  have hz := zone_of_cnt x l hs
  have hc : cntLt l x ≤ l.length := List.length_filter_le _ _
  refine enterH Tryz.func34 rfl rfl Tryz.ntmps34 rfl (Wd.refl _) ?_
  (repeat' (first | (show VH _ _ _ _ _ _ _; first | refine v_seq ?_ | refine r_seq ?_ | refine r_quiet hmix (by kernel_rfl) ?_ | refine v_block ?_ | refine v_ret ?_ | refine v_skip ?_ | refine v_exit ?_ | refine v_label ?_ | refine v_cond_t rfl tbL ?_ | refine v_cond_f rfl tbL ?_ | refine v_cond_dec rfl (fun h => ?_) (fun h => ?_) | refine v_cond_ndec rfl (fun h => ?_) (fun h => ?_) | refine v_cond rfl (fun h => ?_) (fun h => ?_)) | (show SH _ _ _ _ _ (_ :: _) _ _ _; first | (show SH _ _ _ _ _ (⟨_, .move _, _, _, _, _⟩ :: _) _ _ _; first | refine mov evL ?_) | (show SH _ _ _ _ _ (⟨_, .assign _, _, _, _, _⟩ :: _) _ _ _; first | refine asg evL ?_) | (show SH _ _ _ _ _ (⟨_, .binOp _ _ _ _ _, _, _, _, _⟩ :: _) _ _ _; first | refine add rfl rfl inL ?_) | (show SH _ _ _ _ _ (⟨_, .call ⟨.value (.func 60), _, _⟩, _, _, _, _⟩ :: _) _ _ _; refine cl (callee := .func 60) rfl (fun w hw => bsearch_spec A l cp x w hl (hr.ext hw.ext) hs) rfl rfl ?_) | refine extr rfl rfl ?_) | refine s_nil ?_ | refine kh_normal ?_ | refine kh_ret ?_ | refine kh_exit ?_ | refine bh_normal ?_ | refine bh_ret ?_ | refine bh_exit ?_ | refine bh_exit_ne rfl ?_))
  · rw [if_pos h] at hz
    exact rh1 rfl rfl ⟨congrArg (Value.int .i64) hz, rfl⟩ (ent_nil _)
  · rw [if_neg (by rw [h]; simp)] at hz
    exact rh1 rfl rfl ⟨congrArg (Value.int .i64) hz, rfl⟩ (ent_nil _)
theorem validFrom_inc : ∀ (l : List Int) (least : Int), validFrom least l = true → Inc l ∧ ∀ x ∈ l, least ≤ x ∧ x ≤ 1032192
  | [], _, _ => ⟨fun i j _ hj => by simp at hj, fun x hx => by simp at hx⟩
  | b :: l, least, h => by
    simp only [validFrom] at h
    split at h
    · simp at h
    · rename_i hn
      obtain ⟨h1, h2⟩ := validFrom_inc l _ h
      refine ⟨fun i j hij hj => ?_, fun x hx => ?_⟩
      · cases j with
        | zero => omega
        | succ j =>
          have hj' : j < l.length := by simpa using hj
          cases i with
          | zero =>
            have := h2 l[j] (List.getElem_mem hj')
            simp [hj']; omega
          | succ i => have := h1 i j (by omega) hj'; simpa using this
      · rcases List.mem_cons.1 hx with rfl | hx
        · omega
        · have := h2 x hx; omega
theorem validB_inc {l : List Int} (h : validB l = true) : Inc l ∧ l.length ≤ 5 ∧ ∀ x ∈ l, -1032192 ≤ x ∧ x ≤ 1032192 := by
  simp only [validB, Bool.and_eq_true, decide_eq_true_eq] at h
  have := validFrom_inc l _ h.2
  exact ⟨this.1, by omega, this.2⟩
theorem Zone_spec (A : Option Addr) (l : List Int) (cp : Nat) (x : Int) (w : World) (hl : l.length ≤ 1000000) (hr : Rd w A l) :
    Ret Tryz.prog 21 [.slice A l.length cp, .int .i64 x].toArray w (Out w (.tuple #[.int .i64 (if validB l then zoneOf l x else 0), .int .i64 (if validB l then 0 else 2)])) := by
  refine enterH Tryz.func21 rfl rfl Tryz.ntmps21 rfl (Wd.refl _) ?_
  cases hv : validB l with
  | false =>
    have hvs := fun w h => hv ▸ valid_spec A l cp w hl h
    (repeat' (first | (show VH _ _ _ _ _ _ _; first | refine v_seq ?_ | refine r_seq ?_ | refine r_quiet hmix (by kernel_rfl) ?_ | refine v_block ?_ | refine v_ret ?_ | refine v_skip ?_ | refine v_exit ?_ | refine v_label ?_ | refine v_cond_t rfl tbL ?_ | refine v_cond_f rfl tbL ?_ | refine v_cond_dec rfl (fun h => ?_) (fun h => ?_) | refine v_cond_ndec rfl (fun h => ?_) (fun h => ?_) | refine v_cond rfl (fun h => ?_) (fun h => ?_)) | (show SH _ _ _ _ _ (_ :: _) _ _ _; first | (show SH _ _ _ _ _ (⟨_, .move _, _, _, _, _⟩ :: _) _ _ _; first | refine mov evL ?_) | (show SH _ _ _ _ _ (⟨_, .assign _, _, _, _, _⟩ :: _) _ _ _; first | refine asg evL ?_) | (show SH _ _ _ _ _ (⟨_, .call ⟨.value (.func 14), _, _⟩, _, _, _, _⟩ :: _) _ _ _; refine cl (callee := .func 14) rfl (fun w hw => hvs _ (hr.ext hw.ext)) rfl rfl ?_) | refine bnot rfl ?_) | refine s_nil ?_ | refine kh_normal ?_ | refine kh_ret ?_ | refine kh_exit ?_ | refine bh_normal ?_ | refine bh_ret ?_ | refine bh_exit ?_ | refine bh_exit_ne rfl ?_))
    exact rh2 rfl rfl rfl ⟨rfl, rfl⟩ (ent_nil _)
  | true =>
    have hvs := fun w h => hv ▸ valid_spec A l cp w hl h
    (repeat' (first | (show VH _ _ _ _ _ _ _; first | refine v_seq ?_ | refine r_seq ?_ | refine r_quiet hmix (by kernel_rfl) ?_ | refine v_block ?_ | refine v_ret ?_ | refine v_skip ?_ | refine v_exit ?_ | refine v_label ?_ | refine v_cond_t rfl tbL ?_ | refine v_cond_f rfl tbL ?_ | refine v_cond_dec rfl (fun h => ?_) (fun h => ?_) | refine v_cond_ndec rfl (fun h => ?_) (fun h => ?_) | refine v_cond rfl (fun h => ?_) (fun h => ?_)) | (show SH _ _ _ _ _ (_ :: _) _ _ _; first | (show SH _ _ _ _ _ (⟨_, .move _, _, _, _, _⟩ :: _) _ _ _; first | refine mov evL ?_) | (show SH _ _ _ _ _ (⟨_, .assign _, _, _, _, _⟩ :: _) _ _ _; first | refine asg evL ?_) | (show SH _ _ _ _ _ (⟨_, .call ⟨.value (.func 14), _, _⟩, _, _, _, _⟩ :: _) _ _ _; refine cl (callee := .func 14) rfl (fun w hw => hvs _ (hr.ext hw.ext)) rfl rfl ?_) | (show SH _ _ _ _ _ (⟨_, .call ⟨.value (.func 34), _, _⟩, _, _, _, _⟩ :: _) _ _ _; refine cl (callee := .func 34) rfl (fun w hw => zone_spec A l cp x w hl (hr.ext hw.ext) (validB_inc hv).1) rfl rfl ?_) | refine bnot rfl ?_) | refine s_nil ?_ | refine kh_normal ?_ | refine kh_ret ?_ | refine kh_exit ?_ | refine bh_normal ?_ | refine bh_ret ?_ | refine bh_exit ?_ | refine bh_exit_ne rfl ?_))
    exact rh2 rfl rfl rfl ⟨rfl, rfl⟩ (ent_nil _)
theorem clone_spec (A : Option Addr) (l : List Int) (cp : Nat) (w : World) (hl : l.length ≤ 1000000) (hr : Rd w A l) :
    Ret Tryz.prog 24 [.slice A l.length cp].toArray w (RP w (Fresh 3 l)) := by
  refine enterH Tryz.func24 rfl rfl Tryz.ntmps24 rfl (Wd.refl _) ?_
  (repeat' (first | (show VH _ _ _ _ _ _ _; first | refine v_seq ?_ | refine r_seq ?_ | refine r_quiet hmix (by kernel_rfl) ?_ | refine v_block ?_ | refine v_ret ?_ | refine v_skip ?_ | refine v_exit ?_ | refine v_label ?_ | refine v_cond_t rfl tbL ?_ | refine v_cond_f rfl tbL ?_ | refine v_cond_dec rfl (fun h => ?_) (fun h => ?_) | refine v_cond_ndec rfl (fun h => ?_) (fun h => ?_) | refine v_cond rfl (fun h => ?_) (fun h => ?_)) | (show SH _ _ _ _ _ (_ :: _) _ _ _; first | (show SH _ _ _ _ _ (⟨_, .move _, _, _, _, _⟩ :: _) _ _ _; first | refine mov evL ?_) | (show SH _ _ _ _ _ (⟨_, .assign _, _, _, _, _⟩ :: _) _ _ _; first | refine asg evL ?_) | (show SH _ _ _ _ _ (⟨_, .binOp _ _ _ _ _, _, _, _, _⟩ :: _) _ _ _; first | refine eql rfl rfl ?_ | refine eqn rfl rfl ?_ | refine eqb rfl rfl ?_) | refine bsl (α := Int) rfl rfl (by repeat (first | exact Vals.nil | (apply Vals.cons; rfl))) rfl (by rfl) (by decide) (fun b => ?_)) | refine s_nil ?_ | refine kh_normal ?_ | refine kh_ret ?_ | refine kh_exit ?_ | refine bh_normal ?_ | refine bh_ret ?_ | refine bh_exit ?_ | refine bh_exit_ne rfl ?_))
  · cases A with
    | some a => simp at h
    | none =>
      have := hr.none
      subst this
      exact rh1 rfl rfl ⟨none, 0, rfl, rfl⟩ (ent_nilrow (ent_nil _))
  · refine app rfl rfl rfl spL (fun _ _ => rdL) rfl rfl rfl (by simp; omega) (by simp; omega) (fun A' cp' => ⟨trivial, ?_⟩)
    (repeat' (first | (show VH _ _ _ _ _ _ _; first | refine v_seq ?_ | refine r_seq ?_ | refine r_quiet hmix (by kernel_rfl) ?_ | refine v_block ?_ | refine v_ret ?_ | refine v_skip ?_ | refine v_exit ?_ | refine v_label ?_ | refine v_cond_t rfl tbL ?_ | refine v_cond_f rfl tbL ?_ | refine v_cond_dec rfl (fun h => ?_) (fun h => ?_) | refine v_cond_ndec rfl (fun h => ?_) (fun h => ?_) | refine v_cond rfl (fun h => ?_) (fun h => ?_)) | (show SH _ _ _ _ _ (_ :: _) _ _ _; first | (show SH _ _ _ _ _ (⟨_, .move _, _, _, _, _⟩ :: _) _ _ _; first | refine mov evL ?_) | (show SH _ _ _ _ _ (⟨_, .assign _, _, _, _, _⟩ :: _) _ _ _; first | refine asg evL ?_) | (show SH _ _ _ _ _ (⟨_, .binOp _ _ _ _ _, _, _, _, _⟩ :: _) _ _ _; first | refine eql rfl rfl ?_ | refine eqn rfl rfl ?_ | refine eqb rfl rfl ?_) | refine bsl (α := Int) rfl rfl (by repeat (first | exact Vals.nil | (apply Vals.cons; rfl))) rfl (by rfl) (by decide) (fun b => ?_)) | refine s_nil ?_ | refine kh_normal ?_ | refine kh_ret ?_ | refine kh_exit ?_ | refine bh_normal ?_ | refine bh_ret ?_ | refine bh_exit ?_ | refine bh_exit_ne rfl ?_))
    exact rh1 rfl rfl ⟨A', cp', rfl, rfl⟩ enL
/-! the loads -/
def bump (L : List Int) (i : Nat) : List Int := L.set i (L.getD i 0 + 1)
def loadsL (bs ps : List Int) : List Int := ps.foldl (fun L x => bump L (zoneOf bs x)) (List.replicate 6 0)
theorem zoneOf_le (l : List Int) (x : Int) : zoneOf l x ≤ l.length := List.length_filter_le _ _
theorem bump_get (L : List Int) (i j : Nat) : (bump L i).getD j 0 = if i = j ∧ j < L.length then L.getD j 0 + 1 else L.getD j 0 := by
  simp only [bump, List.getD_eq_getElem?_getD, List.getElem?_set]
  by_cases h : i = j
  · subst h
    by_cases hl : i < L.length
    · simp [hl]
    · simp [hl]
  · simp [h]
theorem bump_len (L : List Int) (i : Nat) : (bump L i).length = L.length := by simp [bump]
theorem loadsL_len (bs ps : List Int) : (loadsL bs ps).length = 6 := by
  have key : ∀ (ps L : List Int), (ps.foldl (fun L x => bump L (zoneOf bs x)) L).length = L.length := by
    intro ps
    induction ps with
    | nil => intro L; rfl
    | cons p ps ih => intro L; rw [List.foldl_cons, ih, bump_len]
  rw [loadsL, key]; simp
theorem loadsL_rng (bs ps : List Int) (hl : ps.length ≤ 1000000) : ∀ x ∈ loadsL bs ps, In64 x := by
  have key : ∀ (ps L : List Int) (c : Int), (∀ x ∈ L, 0 ≤ x ∧ x ≤ c) → 0 ≤ c → ∀ x ∈ ps.foldl (fun L x => bump L (zoneOf bs x)) L, 0 ≤ x ∧ x ≤ c + ps.length := by
    intro ps
    induction ps with
    | nil => intro L c h _ x hx; simpa using h x hx
    | cons p ps ih =>
      intro L c h hc x hx
      rw [List.foldl_cons] at hx
      have := ih (bump L (zoneOf bs p)) (c + 1) (fun y hy => by
        rcases List.mem_or_eq_of_mem_set hy with hy | hy
        · have := h y hy; omega
        · have h0 : ∀ i, 0 ≤ L.getD i 0 ∧ L.getD i 0 ≤ c := fun i => by
            by_cases hi : i < L.length
            · have := h L[i] (List.getElem_mem hi); simpa [hi] using this
            · simp [hi, hc]
          have := h0 (zoneOf bs p); omega) (by omega) x hx
      simp only [List.length_cons]; omega
  intro x hx
  have := key ps (List.replicate 6 0) 0 (fun x hx => by have := List.eq_of_mem_replicate hx; omega) (by omega) x hx
  constructor <;> omega
set_option maxRecDepth 100000 in
theorem loads_spec (A B : Option Addr) (bs ps : List Int) (c1 c2 : Nat) (w : World) (hl : bs.length ≤ 5) (hl2 : ps.length ≤ 1000000) (hA : Rd w A bs) (hB : Rd w B ps) (hs : Inc bs) :
    Ret Tryz.prog 28 [.slice A bs.length c1, .slice B ps.length c2].toArray w (Out w (.agg (ints (loadsL bs ps)).toArray)) := by
  refine enterH Tryz.func28 rfl rfl Tryz.ntmps28 rfl (Wd.refl _) ?_
  (repeat' (first | (show VH _ _ _ _ _ _ _; first | refine v_seq ?_ | refine r_seq ?_ | refine r_quiet hmix (by kernel_rfl) ?_ | refine v_block ?_ | refine v_ret ?_ | refine v_skip ?_ | refine v_exit ?_ | refine v_label ?_ | refine v_cond_t rfl tbL ?_ | refine v_cond_f rfl tbL ?_ | refine v_cond_dec rfl (fun h => ?_) (fun h => ?_) | refine v_cond_ndec rfl (fun h => ?_) (fun h => ?_) | refine v_cond rfl (fun h => ?_) (fun h => ?_)) | (show SH _ _ _ _ _ (_ :: _) _ _ _; first | (show SH _ _ _ _ _ (⟨_, .move _, _, _, _, _⟩ :: _) _ _ _; first | refine mov evL ?_) | (show SH _ _ _ _ _ (⟨_, .assign _, _, _, _, _⟩ :: _) _ _ _; first | refine asg evL ?_) | (show SH _ _ _ _ _ (⟨_, .binOp _ _ _ _ _, _, _, _, _⟩ :: _) _ _ _; first | refine add rfl rfl inL ?_ | refine lss rfl rfl ?_) | (show SH _ _ _ _ _ (⟨_, .load _ _, _, _, _, _⟩ :: _) _ _ _; first | refine lsl rfl (fun _ _ => rdL) omL (by assumption) ?_ | refine lin rfl (fun _ _ => rdL) omL ?_ | refine lbx rfl spL (by rfl) ?_ | refine lba rfl spL (by rfl) ?_ | refine lbi rfl spL omL ?_ | refine lr1 rfl (fun _ _ => rdL) (by rfl) omL (by rfl) ?_ | refine lra rfl (fun _ _ => rdL) (by rfl) omL ?_ | refine lrf rfl (fun _ _ => rdL) (by rfl) omL (by rfl) ?_ | refine lcell rfl (fun w hw => hw.ext.cell (by assumption)) ?_) | (show SH _ _ _ _ _ (⟨_, .indexAddr _ _ _, _, _, _, _⟩ :: _) _ _ _; first | refine ix rfl rfl (by with_reducible rfl) (fun _ _ => rdL) (by rfl) omL omL ?_ | refine ixi rfl rfl (fun _ _ => rdL) (by rfl) omL omL omL ?_ | refine ixb rfl rfl omL ?_) | (show SH _ _ _ _ _ (⟨_, .call ⟨.builtin _, _, _⟩, _, _, _, _⟩ :: _) _ _ _; first | refine slen rfl ?_) | refine al1 rfl (fun b => ?_) | refine ala rfl (fun b => ?_) | refine stb rfl rfl evL spL rfl rfl (by first | decide | exact Nat.zero_lt_succ _ | exact of_decide_eq_true rfl) kpL ?_ | refine sta rfl rfl rfl spL (by rfl) (by rfl) (by rfl) kpL ?_ | refine sti rfl rfl rfl spL omL kpL ?_ | refine sbi rfl rfl rfl spL omL kpL ?_) | refine s_nil ?_ | refine kh_normal ?_ | refine kh_ret ?_ | refine kh_exit ?_ | refine bh_normal ?_ | refine bh_ret ?_ | refine bh_exit ?_ | refine bh_exit_ne rfl ?_))
  rename_i b4
  refine v_loop [(7,7),(10,21)] (fun y : Nat × List Int => [(10, .int .i64 y.1)]) (fun y => [bx b 50 (ints y.2), bx b4 50 (ints (List.replicate 6 0))]) (fun y => y.2.length = 6 ∧ y.1 ≤ ps.length ∧ (∀ i, 0 ≤ y.2.getD i 0 ∧ y.2.getD i 0 ≤ y.1) ∧ (ps.drop y.1).foldl (fun L x => bump L (zoneOf bs x)) y.2 = loadsL bs ps) (fun y => ps.length - y.1) (0, List.replicate 6 0) hsL enL
    ⟨rfl, Nat.zero_le _, fun i => by rcases i with _ | _ | _ | _ | _ | _ | i <;> simp, rfl⟩ ?_
  rintro ⟨k, L⟩ g ⟨hL, hk, hb, hf⟩
  simp only [sets]
  simp only at hL hk hb hf
  have hz := zoneOf_le bs (ps.getD k 0)
  have hbz := hb (zoneOf bs (ps.getD k 0))
  (repeat' (first | (show VH _ _ _ _ _ _ _; first | refine v_seq ?_ | refine r_seq ?_ | refine r_quiet hmix (by kernel_rfl) ?_ | refine v_block ?_ | refine v_ret ?_ | refine v_skip ?_ | refine v_exit ?_ | refine v_label ?_ | refine v_cond_t rfl tbL ?_ | refine v_cond_f rfl tbL ?_ | refine v_cond_dec rfl (fun h => ?_) (fun h => ?_) | refine v_cond_ndec rfl (fun h => ?_) (fun h => ?_) | refine v_cond rfl (fun h => ?_) (fun h => ?_)) | (show SH _ _ _ _ _ (_ :: _) _ _ _; first | (show SH _ _ _ _ _ (⟨_, .move _, _, _, _, _⟩ :: _) _ _ _; first | refine mov evL ?_) | (show SH _ _ _ _ _ (⟨_, .assign _, _, _, _, _⟩ :: _) _ _ _; first | refine asg evL ?_) | (show SH _ _ _ _ _ (⟨_, .binOp _ _ _ _ _, _, _, _, _⟩ :: _) _ _ _; first | refine add rfl rfl inL ?_ | refine lss rfl rfl ?_) | (show SH _ _ _ _ _ (⟨_, .load _ _, _, _, _, _⟩ :: _) _ _ _; first | refine lsl rfl (fun _ _ => rdL) omL (by assumption) ?_ | refine lin rfl (fun _ _ => rdL) omL ?_ | refine lbx rfl spL (by rfl) ?_ | refine lba rfl spL (by rfl) ?_ | refine lbi rfl spL omL ?_ | refine lr1 rfl (fun _ _ => rdL) (by rfl) omL (by rfl) ?_ | refine lra rfl (fun _ _ => rdL) (by rfl) omL ?_ | refine lrf rfl (fun _ _ => rdL) (by rfl) omL (by rfl) ?_ | refine lcell rfl (fun w hw => hw.ext.cell (by assumption)) ?_) | (show SH _ _ _ _ _ (⟨_, .indexAddr _ _ _, _, _, _, _⟩ :: _) _ _ _; first | refine ix rfl rfl (by with_reducible rfl) (fun _ _ => rdL) (by rfl) omL omL ?_ | refine ixi rfl rfl (fun _ _ => rdL) (by rfl) omL omL omL ?_ | refine ixb rfl rfl omL ?_) | (show SH _ _ _ _ _ (⟨_, .call ⟨.builtin _, _, _⟩, _, _, _, _⟩ :: _) _ _ _; first | refine slen rfl ?_) | (show SH _ _ _ _ _ (⟨_, .call ⟨.value (.func 34), _, _⟩, _, _, _, _⟩ :: _) _ _ _; refine cl (callee := .func 34) rfl (fun w hw => zone_spec A bs c1 _ w (by omega) (hA.ext hw.ext) hs) rfl rfl ?_) | refine al1 rfl (fun b => ?_) | refine ala rfl (fun b => ?_) | refine stb rfl rfl evL spL rfl rfl (by first | decide | exact Nat.zero_lt_succ _ | exact of_decide_eq_true rfl) kpL ?_ | refine sta rfl rfl rfl spL (by rfl) (by rfl) (by rfl) kpL ?_ | refine sti rfl rfl rfl spL omL kpL ?_ | refine sbi rfl rfl rfl spL omL kpL ?_) | refine s_nil ?_ | refine kh_normal ?_ | refine kh_ret ?_ | refine kh_exit ?_ | refine bh_normal ?_ | refine bh_ret ?_ | refine bh_exit ?_ | refine bh_exit_ne rfl ?_))
  · refine ⟨agL, (k + 1, bump L (zoneOf bs (ps.getD k 0))), hsL, enL, ⟨by show (bump _ _).length = 6; rw [bump_len]; exact hL, by show k + 1 ≤ _; omega, fun i => ?_, ?_⟩, by show _ - (k + 1) < _ - k; omega⟩
    · have := hb i
      show 0 ≤ (bump L _).getD i 0 ∧ (bump L _).getD i 0 ≤ ((k + 1 : Nat) : Int)
      rw [bump_get]
      split <;> omega
    · rw [dropI (by omega), List.foldl_cons] at hf
      exact hf
  · rw [List.drop_of_length_le (by omega), List.foldl_nil] at hf
    subst hf
    refine lba rfl spL (by rw [ints_len]; exact hL) ?_
    refine sta rfl rfl rfl spL (by rfl) (by rw [ints_len]; exact hL) (List.all_eq_true.2 (ints_one _)) trivial ?_
    (repeat' (first | (show VH _ _ _ _ _ _ _; first | refine v_seq ?_ | refine r_seq ?_ | refine r_quiet hmix (by kernel_rfl) ?_ | refine v_block ?_ | refine v_ret ?_ | refine v_skip ?_ | refine v_exit ?_ | refine v_label ?_ | refine v_cond_t rfl tbL ?_ | refine v_cond_f rfl tbL ?_ | refine v_cond_dec rfl (fun h => ?_) (fun h => ?_) | refine v_cond_ndec rfl (fun h => ?_) (fun h => ?_) | refine v_cond rfl (fun h => ?_) (fun h => ?_)) | (show SH _ _ _ _ _ (_ :: _) _ _ _; first | (show SH _ _ _ _ _ (⟨_, .move _, _, _, _, _⟩ :: _) _ _ _; first | refine mov evL ?_) | (show SH _ _ _ _ _ (⟨_, .assign _, _, _, _, _⟩ :: _) _ _ _; first | refine asg evL ?_) | (show SH _ _ _ _ _ (⟨_, .binOp _ _ _ _ _, _, _, _, _⟩ :: _) _ _ _; first | refine add rfl rfl inL ?_ | refine lss rfl rfl ?_) | (show SH _ _ _ _ _ (⟨_, .load _ _, _, _, _, _⟩ :: _) _ _ _; first | refine lsl rfl (fun _ _ => rdL) omL (by assumption) ?_ | refine lin rfl (fun _ _ => rdL) omL ?_ | refine lbx rfl spL (by rfl) ?_ | refine lba rfl spL (by rfl) ?_ | refine lbi rfl spL omL ?_ | refine lr1 rfl (fun _ _ => rdL) (by rfl) omL (by rfl) ?_ | refine lra rfl (fun _ _ => rdL) (by rfl) omL ?_ | refine lrf rfl (fun _ _ => rdL) (by rfl) omL (by rfl) ?_ | refine lcell rfl (fun w hw => hw.ext.cell (by assumption)) ?_) | (show SH _ _ _ _ _ (⟨_, .indexAddr _ _ _, _, _, _, _⟩ :: _) _ _ _; first | refine ix rfl rfl (by with_reducible rfl) (fun _ _ => rdL) (by rfl) omL omL ?_ | refine ixi rfl rfl (fun _ _ => rdL) (by rfl) omL omL omL ?_ | refine ixb rfl rfl omL ?_) | (show SH _ _ _ _ _ (⟨_, .call ⟨.builtin _, _, _⟩, _, _, _, _⟩ :: _) _ _ _; first | refine slen rfl ?_) | refine al1 rfl (fun b => ?_) | refine ala rfl (fun b => ?_) | refine stb rfl rfl evL spL rfl rfl (by first | decide | exact Nat.zero_lt_succ _ | exact of_decide_eq_true rfl) kpL ?_ | refine sta rfl rfl rfl spL (by rfl) (by rfl) (by rfl) kpL ?_ | refine sti rfl rfl rfl spL omL kpL ?_ | refine sbi rfl rfl rfl spL omL kpL ?_) | refine s_nil ?_ | refine kh_normal ?_ | refine kh_ret ?_ | refine kh_exit ?_ | refine bh_normal ?_ | refine bh_ret ?_ | refine bh_exit ?_ | refine bh_exit_ne rfl ?_))
    exact rhC rfl rfl rfl (fun w hw => loadVar_bx hw spL (by rw [ints_len]; exact hL)) ⟨rfl, rfl⟩ (ent_nil _)
theorem loadsL_in (bs ps : List Int) (hl2 : ps.length ≤ 1000000) (k : Nat) : All64 ((loadsL bs ps).take k) := fun x hx => loadsL_rng bs ps hl2 x (List.mem_of_mem_take hx)
def loadsOut (bs ps : List Int) : List Int := if validB bs && rightB ps then (loadsL bs ps).take (bs.length + 1) else []
def errOf (b : Bool) : Int := if b then 0 else 2
theorem Loads_spec (A B : Option Addr) (bs ps : List Int) (c1 c2 : Nat) (w : World) (hl : bs.length ≤ 1000000) (hl2 : ps.length ≤ 1000000) (hA : Rd w A bs) (hB : Rd w B ps) :
    Ret Tryz.prog 9 [.slice A bs.length c1, .slice B ps.length c2].toArray w (RP w (FreshE 3 (loadsOut bs ps) (errOf (validB bs && rightB ps)))) := by
  refine enterH Tryz.func9 rfl rfl Tryz.ntmps9 rfl (Wd.refl _) ?_
  cases hv : validB bs with
  | false =>
    have hvs := fun w h => hv ▸ valid_spec A bs c1 w hl h
    (repeat' (first | (show VH _ _ _ _ _ _ _; first | refine v_seq ?_ | refine r_seq ?_ | refine r_quiet hmix (by kernel_rfl) ?_ | refine v_block ?_ | refine v_ret ?_ | refine v_skip ?_ | refine v_exit ?_ | refine v_label ?_ | refine v_cond_t rfl tbL ?_ | refine v_cond_f rfl tbL ?_ | refine v_cond_dec rfl (fun h => ?_) (fun h => ?_) | refine v_cond_ndec rfl (fun h => ?_) (fun h => ?_) | refine v_cond rfl (fun h => ?_) (fun h => ?_)) | (show SH _ _ _ _ _ (_ :: _) _ _ _; first | (show SH _ _ _ _ _ (⟨_, _, _, _, _, some _⟩ :: _) _ _ _; first | refine grT rfl rfl tbL ?_ | refine gpT rfl rfl tbL ?_ | refine grF rfl rfl tbL ?_ | refine gpF rfl rfl tbL ?_ | refine gu rfl rfl ?_ | refine gtd rfl rfl (fun h => ?_) (fun h => ?_) | refine gfd rfl rfl (fun h => ?_) (fun h => ?_) | refine gt rfl rfl (fun h => ?_) (fun h => ?_) | refine gf rfl rfl (fun h => ?_) (fun h => ?_)) | (show SH _ _ _ _ _ (⟨_, .move _, _, _, _, _⟩ :: _) _ _ _; first | refine mov evL ?_) | (show SH _ _ _ _ _ (⟨_, .assign _, _, _, _, _⟩ :: _) _ _ _; first | refine asg evL ?_) | (show SH _ _ _ _ _ (⟨_, .binOp _ _ _ _ _, _, _, _, _⟩ :: _) _ _ _; first | refine add rfl rfl inL ?_) | (show SH _ _ _ _ _ (⟨_, .call ⟨.builtin _, _, _⟩, _, _, _, _⟩ :: _) _ _ _; first | refine slen rfl ?_) | (show SH _ _ _ _ _ (⟨_, .call ⟨.value (.func 14), _, _⟩, _, _, _, _⟩ :: _) _ _ _; refine cl (callee := .func 14) rfl (fun w hw => hvs _ (hA.ext hw.ext)) rfl rfl ?_) | refine pkt rfl tbL evL ?_ | refine pkf rfl tbL evL ?_ | refine bnot rfl ?_ | refine sla rfl rfl omL omL ?_ | refine slh rfl rfl omL omL ?_ | refine sll rfl rfl omL omL ?_ | refine al1 rfl (fun b => ?_) | refine ala rfl (fun b => ?_) | refine stb rfl rfl evL spL rfl rfl (by first | decide | exact Nat.zero_lt_succ _ | exact of_decide_eq_true rfl) kpL ?_ | refine sta rfl rfl rfl spL (by rfl) (by rfl) (by rfl) kpL ?_ | refine sti rfl rfl rfl spL omL kpL ?_ | refine sbi rfl rfl rfl spL omL kpL ?_) | refine s_nil ?_ | refine kh_normal ?_ | refine kh_ret ?_ | refine kh_exit ?_ | refine bh_normal ?_ | refine bh_ret ?_ | refine bh_exit ?_ | refine bh_exit_ne rfl ?_))
    exact rh2 rfl rfl rfl ⟨none, 0, by rw [loadsOut, hv]; rfl, by rw [loadsOut, hv]; rfl⟩ (ent_nilrow (ent_nil _))
  | true =>
    have hvs := fun w h => hv ▸ valid_spec A bs c1 w hl h
    cases hr : rightB ps with
    | false =>
      have hrs := fun w h => hr ▸ right_spec B ps c2 w hl2 h
      (repeat' (first | (show VH _ _ _ _ _ _ _; first | refine v_seq ?_ | refine r_seq ?_ | refine r_quiet hmix (by kernel_rfl) ?_ | refine v_block ?_ | refine v_ret ?_ | refine v_skip ?_ | refine v_exit ?_ | refine v_label ?_ | refine v_cond_t rfl tbL ?_ | refine v_cond_f rfl tbL ?_ | refine v_cond_dec rfl (fun h => ?_) (fun h => ?_) | refine v_cond_ndec rfl (fun h => ?_) (fun h => ?_) | refine v_cond rfl (fun h => ?_) (fun h => ?_)) | (show SH _ _ _ _ _ (_ :: _) _ _ _; first | (show SH _ _ _ _ _ (⟨_, _, _, _, _, some _⟩ :: _) _ _ _; first | refine grT rfl rfl tbL ?_ | refine gpT rfl rfl tbL ?_ | refine grF rfl rfl tbL ?_ | refine gpF rfl rfl tbL ?_ | refine gu rfl rfl ?_ | refine gtd rfl rfl (fun h => ?_) (fun h => ?_) | refine gfd rfl rfl (fun h => ?_) (fun h => ?_) | refine gt rfl rfl (fun h => ?_) (fun h => ?_) | refine gf rfl rfl (fun h => ?_) (fun h => ?_)) | (show SH _ _ _ _ _ (⟨_, .move _, _, _, _, _⟩ :: _) _ _ _; first | refine mov evL ?_) | (show SH _ _ _ _ _ (⟨_, .assign _, _, _, _, _⟩ :: _) _ _ _; first | refine asg evL ?_) | (show SH _ _ _ _ _ (⟨_, .binOp _ _ _ _ _, _, _, _, _⟩ :: _) _ _ _; first | refine add rfl rfl inL ?_) | (show SH _ _ _ _ _ (⟨_, .call ⟨.builtin _, _, _⟩, _, _, _, _⟩ :: _) _ _ _; first | refine slen rfl ?_) | (show SH _ _ _ _ _ (⟨_, .call ⟨.value (.func 14), _, _⟩, _, _, _, _⟩ :: _) _ _ _; refine cl (callee := .func 14) rfl (fun w hw => hvs _ (hA.ext hw.ext)) rfl rfl ?_) | (show SH _ _ _ _ _ (⟨_, .call ⟨.value (.func 27), _, _⟩, _, _, _, _⟩ :: _) _ _ _; refine cl (callee := .func 27) rfl (fun w hw => hrs _ (hB.ext hw.ext)) rfl rfl ?_) | refine pkt rfl tbL evL ?_ | refine pkf rfl tbL evL ?_ | refine bnot rfl ?_ | refine sla rfl rfl omL omL ?_ | refine slh rfl rfl omL omL ?_ | refine sll rfl rfl omL omL ?_ | refine al1 rfl (fun b => ?_) | refine ala rfl (fun b => ?_) | refine stb rfl rfl evL spL rfl rfl (by first | decide | exact Nat.zero_lt_succ _ | exact of_decide_eq_true rfl) kpL ?_ | refine sta rfl rfl rfl spL (by rfl) (by rfl) (by rfl) kpL ?_ | refine sti rfl rfl rfl spL omL kpL ?_ | refine sbi rfl rfl rfl spL omL kpL ?_) | refine s_nil ?_ | refine kh_normal ?_ | refine kh_ret ?_ | refine kh_exit ?_ | refine bh_normal ?_ | refine bh_ret ?_ | refine bh_exit ?_ | refine bh_exit_ne rfl ?_))
      exact rh2 rfl rfl rfl ⟨none, 0, by rw [loadsOut, hv, hr]; rfl, by rw [loadsOut, hv, hr]; rfl⟩ (ent_nilrow (ent_nil _))
    | true =>
      have hrs := fun w h => hr ▸ right_spec B ps c2 w hl2 h
      have hin := validB_inc hv
      have hin2 := hin.2.1
      have hlen := loadsL_len bs ps
      (repeat' (first | (show VH _ _ _ _ _ _ _; first | refine v_seq ?_ | refine r_seq ?_ | refine r_quiet hmix (by kernel_rfl) ?_ | refine v_block ?_ | refine v_ret ?_ | refine v_skip ?_ | refine v_exit ?_ | refine v_label ?_ | refine v_cond_t rfl tbL ?_ | refine v_cond_f rfl tbL ?_ | refine v_cond_dec rfl (fun h => ?_) (fun h => ?_) | refine v_cond_ndec rfl (fun h => ?_) (fun h => ?_) | refine v_cond rfl (fun h => ?_) (fun h => ?_)) | (show SH _ _ _ _ _ (_ :: _) _ _ _; first | (show SH _ _ _ _ _ (⟨_, _, _, _, _, some _⟩ :: _) _ _ _; first | refine grT rfl rfl tbL ?_ | refine gpT rfl rfl tbL ?_ | refine grF rfl rfl tbL ?_ | refine gpF rfl rfl tbL ?_ | refine gu rfl rfl ?_ | refine gtd rfl rfl (fun h => ?_) (fun h => ?_) | refine gfd rfl rfl (fun h => ?_) (fun h => ?_) | refine gt rfl rfl (fun h => ?_) (fun h => ?_) | refine gf rfl rfl (fun h => ?_) (fun h => ?_)) | (show SH _ _ _ _ _ (⟨_, .move _, _, _, _, _⟩ :: _) _ _ _; first | refine mov evL ?_) | (show SH _ _ _ _ _ (⟨_, .assign _, _, _, _, _⟩ :: _) _ _ _; first | refine asg evL ?_) | (show SH _ _ _ _ _ (⟨_, .binOp _ _ _ _ _, _, _, _, _⟩ :: _) _ _ _; first | refine add rfl rfl inL ?_) | (show SH _ _ _ _ _ (⟨_, .call ⟨.builtin _, _, _⟩, _, _, _, _⟩ :: _) _ _ _; first | refine slen rfl ?_) | (show SH _ _ _ _ _ (⟨_, .call ⟨.value (.func 14), _, _⟩, _, _, _, _⟩ :: _) _ _ _; refine cl (callee := .func 14) rfl (fun w hw => hvs _ (hA.ext hw.ext)) rfl rfl ?_) | (show SH _ _ _ _ _ (⟨_, .call ⟨.value (.func 27), _, _⟩, _, _, _, _⟩ :: _) _ _ _; refine cl (callee := .func 27) rfl (fun w hw => hrs _ (hB.ext hw.ext)) rfl rfl ?_) | (show SH _ _ _ _ _ (⟨_, .call ⟨.value (.func 28), _, _⟩, _, _, _, _⟩ :: _) _ _ _; refine cl (callee := .func 28) rfl (fun w hw => loads_spec A B bs ps c1 c2 w hin.2.1 hl2 (hA.ext hw.ext) (hB.ext hw.ext) hin.1) rfl rfl ?_) | refine pkt rfl tbL evL ?_ | refine pkf rfl tbL evL ?_ | refine bnot rfl ?_ | refine sla rfl rfl omL omL ?_ | refine slh rfl rfl omL omL ?_ | refine sll rfl rfl omL omL ?_ | refine al1 rfl (fun b => ?_) | refine ala rfl (fun b => ?_) | refine stb rfl rfl evL spL rfl rfl (by first | decide | exact Nat.zero_lt_succ _ | exact of_decide_eq_true rfl) kpL ?_ | refine sta rfl rfl rfl spL (by rfl) (by rfl) (by rfl) kpL ?_ | refine sti rfl rfl rfl spL omL kpL ?_ | refine sbi rfl rfl rfl spL omL kpL ?_) | refine s_nil ?_ | refine kh_normal ?_ | refine kh_ret ?_ | refine kh_exit ?_ | refine bh_normal ?_ | refine bh_ret ?_ | refine bh_exit ?_ | refine bh_exit_ne rfl ?_))
      refine sta rfl rfl rfl spL (by rfl) (by rw [ints_len]; exact hlen) (List.all_eq_true.2 (ints_one _)) trivial ?_
      (repeat' (first | (show VH _ _ _ _ _ _ _; first | refine v_seq ?_ | refine r_seq ?_ | refine r_quiet hmix (by kernel_rfl) ?_ | refine v_block ?_ | refine v_ret ?_ | refine v_skip ?_ | refine v_exit ?_ | refine v_label ?_ | refine v_cond_t rfl tbL ?_ | refine v_cond_f rfl tbL ?_ | refine v_cond_dec rfl (fun h => ?_) (fun h => ?_) | refine v_cond_ndec rfl (fun h => ?_) (fun h => ?_) | refine v_cond rfl (fun h => ?_) (fun h => ?_)) | (show SH _ _ _ _ _ (_ :: _) _ _ _; first | (show SH _ _ _ _ _ (⟨_, _, _, _, _, some _⟩ :: _) _ _ _; first | refine grT rfl rfl tbL ?_ | refine gpT rfl rfl tbL ?_ | refine grF rfl rfl tbL ?_ | refine gpF rfl rfl tbL ?_ | refine gu rfl rfl ?_ | refine gtd rfl rfl (fun h => ?_) (fun h => ?_) | refine gfd rfl rfl (fun h => ?_) (fun h => ?_) | refine gt rfl rfl (fun h => ?_) (fun h => ?_) | refine gf rfl rfl (fun h => ?_) (fun h => ?_)) | (show SH _ _ _ _ _ (⟨_, .move _, _, _, _, _⟩ :: _) _ _ _; first | refine mov evL ?_) | (show SH _ _ _ _ _ (⟨_, .assign _, _, _, _, _⟩ :: _) _ _ _; first | refine asg evL ?_) | (show SH _ _ _ _ _ (⟨_, .binOp _ _ _ _ _, _, _, _, _⟩ :: _) _ _ _; first | refine add rfl rfl inL ?_) | (show SH _ _ _ _ _ (⟨_, .call ⟨.builtin _, _, _⟩, _, _, _, _⟩ :: _) _ _ _; first | refine slen rfl ?_) | refine pkt rfl tbL evL ?_ | refine pkf rfl tbL evL ?_ | refine bnot rfl ?_ | refine sla rfl rfl omL omL ?_ | refine slh rfl rfl omL omL ?_ | refine sll rfl rfl omL omL ?_ | refine al1 rfl (fun b => ?_) | refine ala rfl (fun b => ?_) | refine stb rfl rfl evL spL rfl rfl (by first | decide | exact Nat.zero_lt_succ _ | exact of_decide_eq_true rfl) kpL ?_ | refine sta rfl rfl rfl spL (by rfl) (by rfl) (by rfl) kpL ?_ | refine sti rfl rfl rfl spL omL kpL ?_ | refine sbi rfl rfl rfl spL omL kpL ?_) | refine s_nil ?_ | refine kh_normal ?_ | refine kh_ret ?_ | refine kh_exit ?_ | refine bh_normal ?_ | refine bh_ret ?_ | refine bh_exit ?_ | refine bh_exit_ne rfl ?_))
      have hlt : ((loadsL bs ps).take (bs.length + 1)).length = bs.length + 1 := by rw [List.length_take, hlen]; omega
      have hout : loadsOut bs ps = (loadsL bs ps).take (bs.length + 1) := by rw [loadsOut, hv, hr]; rfl
      refine cp rfl (fun w hw => clone_spec (some ⟨b, 0, none⟩) (loadsOut bs ps) 6 w (by rw [hout]; omega) ?_) rfl (congrArg (fun m => [Value.slice (some ⟨b, 0, none⟩) m 6]) (show (bs.length + 1 : Int).toNat = _ by rw [hout, hlt]; omega)) ?_
      · rw [hout]
        refine Rd.take (fun j u hj => ?_) _
        rw [← ints_encs] at hj
        exact ⟨rfl, by rw [show adr (some ⟨b, 0, none⟩) = ⟨b, 0, none⟩ from rfl, Addr.add_lit]; exact hw.cell spL (by rw [Nat.zero_add]; exact hj)⟩
      · rintro _ _ ⟨A', cp', rfl, rfl⟩
        (repeat' (first | (show VH _ _ _ _ _ _ _; first | refine v_seq ?_ | refine r_seq ?_ | refine r_quiet hmix (by kernel_rfl) ?_ | refine v_block ?_ | refine v_ret ?_ | refine v_skip ?_ | refine v_exit ?_ | refine v_label ?_ | refine v_cond_t rfl tbL ?_ | refine v_cond_f rfl tbL ?_ | refine v_cond_dec rfl (fun h => ?_) (fun h => ?_) | refine v_cond_ndec rfl (fun h => ?_) (fun h => ?_) | refine v_cond rfl (fun h => ?_) (fun h => ?_)) | (show SH _ _ _ _ _ (_ :: _) _ _ _; first | (show SH _ _ _ _ _ (⟨_, _, _, _, _, some _⟩ :: _) _ _ _; first | refine grT rfl rfl tbL ?_ | refine gpT rfl rfl tbL ?_ | refine grF rfl rfl tbL ?_ | refine gpF rfl rfl tbL ?_ | refine gu rfl rfl ?_ | refine gtd rfl rfl (fun h => ?_) (fun h => ?_) | refine gfd rfl rfl (fun h => ?_) (fun h => ?_) | refine gt rfl rfl (fun h => ?_) (fun h => ?_) | refine gf rfl rfl (fun h => ?_) (fun h => ?_)) | (show SH _ _ _ _ _ (⟨_, .move _, _, _, _, _⟩ :: _) _ _ _; first | refine mov evL ?_) | (show SH _ _ _ _ _ (⟨_, .assign _, _, _, _, _⟩ :: _) _ _ _; first | refine asg evL ?_) | (show SH _ _ _ _ _ (⟨_, .binOp _ _ _ _ _, _, _, _, _⟩ :: _) _ _ _; first | refine add rfl rfl inL ?_) | (show SH _ _ _ _ _ (⟨_, .call ⟨.builtin _, _, _⟩, _, _, _, _⟩ :: _) _ _ _; first | refine slen rfl ?_) | refine pkt rfl tbL evL ?_ | refine pkf rfl tbL evL ?_ | refine bnot rfl ?_ | refine sla rfl rfl omL omL ?_ | refine slh rfl rfl omL omL ?_ | refine sll rfl rfl omL omL ?_ | refine al1 rfl (fun b => ?_) | refine ala rfl (fun b => ?_) | refine stb rfl rfl evL spL rfl rfl (by first | decide | exact Nat.zero_lt_succ _ | exact of_decide_eq_true rfl) kpL ?_ | refine sta rfl rfl rfl spL (by rfl) (by rfl) (by rfl) kpL ?_ | refine sti rfl rfl rfl spL omL kpL ?_ | refine sbi rfl rfl rfl spL omL kpL ?_) | refine s_nil ?_ | refine kh_normal ?_ | refine kh_ret ?_ | refine kh_exit ?_ | refine bh_normal ?_ | refine bh_ret ?_ | refine bh_exit ?_ | refine bh_exit_ne rfl ?_))
        exact rh2 rfl rfl rfl ⟨A', cp', rfl, rfl⟩ enL
end Go.Proofs.YtdlpnjofdpcjjaaGreat
