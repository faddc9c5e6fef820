/- Package slices: binary search, Insert at invitations; Delete at parties (printed by gen_usb.py). -/
import Derived.Test.YtlfbcoohfnoacaaGreatYTwp
import Derived.Test.YtlfbcoohfnoacaaGreatYUs
set_option linter.unusedSimpArgs false
set_option linter.unusedVariables false
namespace Go.Proofs.YtlfbcoohfnoacaaGreat
open Go.Fw Go.RowKit
def Rising {α : Type} (key : α → Int) (l : List α) : Prop := l.Pairwise fun a b => key a < key b
theorem rising_at {α : Type} (d : α) {key : α → Int} {l : List α} (h : Rising key l) {i j : Nat} (hij : i < j) (hj : j < l.length) : key (l.getD i d) < key (l.getD j d) := by
  have := List.pairwise_iff_getElem.1 h i j (by omega) hj hij
  simpa [List.getD_eq_getElem?_getD, hj, show i < l.length by omega] using this
/-- How many elements lie ahead of the key k. -/
def lbK {α : Type} (key : α → Int) (k : Int) (l : List α) : Nat := (l.takeWhile fun x => decide (key x < k)).length
def hasK {α : Type} [Flat α] (key : α → Int) (k : Int) (l : List α) : Bool := decide (lbK key k l < l.length) && decide (key (l.getD (lbK key k l) Flat.dflt) = k)
theorem lbK_eq {α : Type} (d : α) (key : α → Int) (k : Int) : ∀ (l : List α) (i : Nat), i ≤ l.length → (∀ q, q < i → key (l.getD q d) < k) → (i < l.length → ¬ key (l.getD i d) < k) → lbK key k l = i
  | [], i, hi, _, _ => by simp at hi; subst hi; rfl
  | x :: l, 0, _, _, h2 => by
    have := h2 (by simp)
    unfold lbK
    rw [List.takeWhile_cons_of_neg (by simpa using this)]; rfl
  | x :: l, i + 1, hi, h1, h2 => by
    have h0 := h1 0 (by omega)
    have ih := lbK_eq d key k l i (by simpa using hi) (fun q hq => by simpa using h1 (q + 1) (by omega)) (fun h => by simpa using h2 (by simpa using h))
    unfold lbK at ih ⊢
    rw [List.takeWhile_cons_of_pos (by simpa using h0), List.length_cons, ih]
set_option maxHeartbeats 2000000 in
set_option maxRecDepth 100000 in
theorem binSearchI_spec (A : Option Addr) (l : List Inv) (c1 : Nat) (k : Int) (g0 : FuncId) (fst cap : Array Value) (key : Inv → Int) (w : World) (hl : l.length ≤ 140737488355328) (hr : Rd w A l) (hR : Rising key l)
    (hp : ∀ w', Ext w w' → ∀ x ∈ l, Ret Tryz.prog g0 (fst.toList ++ [Value.agg (Flat.enc x).toArray, Value.int .i64 k] ++ cap.toList).toArray w' (Out w' (.int .i64 (cmpI (key x) k)))) :
    Ret Tryz.prog 46 [.slice A l.length c1, .int .i64 k, .func (.func g0) fst cap].toArray w (Out w (.tuple #[.int .i64 (lbK key k l), .bool (hasK key k l)])) := by
  refine enterH Tryz.func46 rfl rfl Tryz.ntmps46 rfl (Wd.refl _) ?_
  (repeat' (first | (show VH _ _ _ _ _ _ _; first | refine v_seq ?_ | refine r_seq ?_ | refine v_block ?_) | (show SH _ _ _ _ _ (_ :: _) _ _ _; first | (show SH _ _ _ _ _ (⟨_, .move _, _, _, _, _⟩ :: _) _ _ _; refine mov evL ?_) | (show SH _ _ _ _ _ (⟨_, .assign _, _, _, _, _⟩ :: _) _ _ _; refine asg evL ?_) | refine slen rfl ?_) | refine s_nil ?_ | refine kh_normal ?_))
  refine v_loop0 [(9,11),(15,34)] (fun s : Nat × Nat => [(9, .int .i64 s.1), (10, .int .i64 s.2)]) (fun s => s.1 ≤ s.2 ∧ s.2 ≤ l.length ∧ (∀ q, q < s.1 → key (l.getD q Flat.dflt) < k) ∧ (∀ q, s.2 ≤ q → q < l.length → ¬ key (l.getD q Flat.dflt) < k)) (fun s => s.2 - s.1) (0, l.length) hsL ⟨Nat.zero_le _, Nat.le_refl _, fun q h => absurd h (Nat.not_lt_zero q), fun q h1 h2 => by have : l.length ≤ q := h1; omega⟩ ?_
  rintro ⟨i, j⟩ g ⟨hij, hj, h1, h2⟩
  simp only [sets]
  simp only at hij hj h1 h2
  by_cases hlt : i < j
  · obtain ⟨m, hm⟩ : ∃ m : Nat, ((i : Int) + (j : Int)) / 2 = (m : Int) := ⟨(i + j) / 2, by omega⟩
    have hmi : i ≤ m ∧ m < j := by omega
    have hp' := fun w he => hp w he (l.getD m Flat.dflt) (getD_mem (by omega))
    have hcm : cmpI (key (l.getD m Flat.dflt)) k < 0 ↔ key (l.getD m Flat.dflt) < k := by unfold cmpI; split <;> (try split) <;> omega
    by_cases hk : key (l.getD m Flat.dflt) < k
    · have hneg := hcm.2 hk
      have h1' : ∀ q, q < m + 1 → key (l.getD q Flat.dflt) < k := fun q hq => by
        by_cases e : q = m
        · rw [e]; exact hk
        · have := rising_at Flat.dflt hR (show q < m by omega) (by omega); omega
      clear h1 hcm hR hk
      (repeat' ((fail_if_success (show VH _ _ (.seq (.region 5 _ _) _) _ _ _ _)); first | (show VH _ _ _ _ _ _ _; first | refine v_seq ?_ | refine r_seq ?_ | refine v_block ?_ | refine v_skip ?_ | refine v_cond_t rfl tbL ?_) | (show SH _ _ _ _ _ (_ :: _) _ _ _; first | (show SH _ _ _ _ _ (⟨_, .move _, _, _, _, _⟩ :: _) _ _ _; refine mov evL ?_) | (show SH _ _ _ _ _ (⟨_, .assign _, _, _, _, _⟩ :: _) _ _ _; refine asg evL ?_) | (show SH _ _ _ _ _ (⟨_, .binOp .lss _ _ _ _, _, _, _, _⟩ :: _) _ _ _; refine lssT rfl rfl omD ?_) | (show SH _ _ _ _ _ (⟨_, .binOp .add _ _ _ _, _, _, _, _⟩ :: _) _ _ _; refine add rfl rfl inL ?_) | refine sh1 rfl rfl ?_ | (show SH _ _ _ _ _ (⟨_, .convert _ _ _, _, _, _, _⟩ :: _) _ _ _; first | refine c64 rfl inL ?_ | refine cu64 rfl omL omL ?_)) | refine s_nil ?_ | refine kh_normal ?_))
      rw [hm]
      (repeat' (first | (show VH _ _ _ _ _ _ _; first | refine v_seq ?_ | refine r_seq ?_ | refine v_cond_t rfl tbL ?_) | (show SH _ _ _ _ _ (_ :: _) _ _ _; first | (show SH _ _ _ _ _ (⟨_, .move _, _, _, _, _⟩ :: _) _ _ _; refine mov evL ?_) | (show SH _ _ _ _ _ (⟨_, .assign _, _, _, _, _⟩ :: _) _ _ _; refine asg evL ?_) | (show SH _ _ _ _ _ (⟨_, .binOp .lss _ _ _ _, _, _, _, _⟩ :: _) _ _ _; refine lssT rfl rfl omD ?_) | (show SH _ _ _ _ _ (⟨_, .binOp .add _ _ _ _, _, _, _, _⟩ :: _) _ _ _; refine add rfl rfl inL ?_) | (show SH _ _ _ _ _ (⟨_, .load _ _, _, _, _, _⟩ :: _) _ _ _; first | refine lra rfl (fun _ _ => rdP) (by rfl) omL ?_ | refine lra rfl (fun _ _ => rdP) (by rfl) (by simp only [List.length_cons, List.length_nil]; omega) ?_) | (show SH _ _ _ _ _ (⟨_, .indexAddr _ _ _, _, _, _, _⟩ :: _) _ _ _; refine ix rfl rfl (by with_reducible rfl) (fun _ _ => rdP) (by rfl) omL omL ?_) | (show SH _ _ _ _ _ (⟨_, .call ⟨.value (.tmp _), _, _⟩, _, _, _, _⟩ :: _) _ _ _; refine cl (callee := .tmp _) rfl (fun w hw => hp' _ hw.ext) rfl rfl ?_)) | refine s_nil ?_ | refine kh_normal ?_ | refine bh_normal ?_))
      exact ⟨agL, (m + 1, j), hsL, enL, ⟨by show m + 1 ≤ j; omega, hj, h1', h2⟩, by show j - (m + 1) < j - i; omega⟩
    · have hneg : ¬ cmpI (key (l.getD m Flat.dflt)) k < 0 := fun h => hk (hcm.1 h)
      have h2' : ∀ q, m ≤ q → q < l.length → ¬ key (l.getD q Flat.dflt) < k := fun q hq hql => by
        by_cases e : q = m
        · rw [e]; exact hk
        · have := rising_at Flat.dflt hR (show m < q by omega) hql; omega
      clear h2 hcm hR hk
      (repeat' ((fail_if_success (show VH _ _ (.seq (.region 5 _ _) _) _ _ _ _)); first | (show VH _ _ _ _ _ _ _; first | refine v_seq ?_ | refine r_seq ?_ | refine v_block ?_ | refine v_skip ?_ | refine v_cond_t rfl tbL ?_) | (show SH _ _ _ _ _ (_ :: _) _ _ _; first | (show SH _ _ _ _ _ (⟨_, .move _, _, _, _, _⟩ :: _) _ _ _; refine mov evL ?_) | (show SH _ _ _ _ _ (⟨_, .assign _, _, _, _, _⟩ :: _) _ _ _; refine asg evL ?_) | (show SH _ _ _ _ _ (⟨_, .binOp .lss _ _ _ _, _, _, _, _⟩ :: _) _ _ _; refine lssT rfl rfl omD ?_) | (show SH _ _ _ _ _ (⟨_, .binOp .add _ _ _ _, _, _, _, _⟩ :: _) _ _ _; refine add rfl rfl inL ?_) | refine sh1 rfl rfl ?_ | (show SH _ _ _ _ _ (⟨_, .convert _ _ _, _, _, _, _⟩ :: _) _ _ _; first | refine c64 rfl inL ?_ | refine cu64 rfl omL omL ?_)) | refine s_nil ?_ | refine kh_normal ?_))
      rw [hm]
      (repeat' (first | (show VH _ _ _ _ _ _ _; first | refine v_seq ?_ | refine r_seq ?_ | refine v_cond_f rfl tbL ?_) | (show SH _ _ _ _ _ (_ :: _) _ _ _; first | (show SH _ _ _ _ _ (⟨_, .move _, _, _, _, _⟩ :: _) _ _ _; refine mov evL ?_) | (show SH _ _ _ _ _ (⟨_, .assign _, _, _, _, _⟩ :: _) _ _ _; refine asg evL ?_) | (show SH _ _ _ _ _ (⟨_, .binOp .lss _ _ _ _, _, _, _, _⟩ :: _) _ _ _; refine lssF rfl rfl omD ?_) | (show SH _ _ _ _ _ (⟨_, .load _ _, _, _, _, _⟩ :: _) _ _ _; first | refine lra rfl (fun _ _ => rdP) (by rfl) omL ?_ | refine lra rfl (fun _ _ => rdP) (by rfl) (by simp only [List.length_cons, List.length_nil]; omega) ?_) | (show SH _ _ _ _ _ (⟨_, .indexAddr _ _ _, _, _, _, _⟩ :: _) _ _ _; refine ix rfl rfl (by with_reducible rfl) (fun _ _ => rdP) (by rfl) omL omL ?_) | (show SH _ _ _ _ _ (⟨_, .call ⟨.value (.tmp _), _, _⟩, _, _, _, _⟩ :: _) _ _ _; refine cl (callee := .tmp _) rfl (fun w hw => hp' _ hw.ext) rfl rfl ?_)) | refine s_nil ?_ | refine kh_normal ?_ | refine bh_normal ?_))
      exact ⟨agL, (i, m), hsL, enL, ⟨by show i ≤ m; omega, by show m ≤ _; omega, h1, h2'⟩, by show m - i < j - i; omega⟩
  · have hji : i = j := by omega
    subst hji
    have hlb : lbK key k l = i := lbK_eq Flat.dflt key k l i hj h1 (fun h => h2 i (Nat.le_refl _) h)
    unfold hasK
    rw [hlb]
    clear hlb h1 h2 hR
    by_cases hil : i < l.length
    · have hp' := fun w he => hp w he (l.getD i Flat.dflt) (getD_mem hil)
      have hcm : cmpI (key (l.getD i Flat.dflt)) k = 0 ↔ key (l.getD i Flat.dflt) = k := by unfold cmpI; split <;> (try split) <;> omega
      rw [decide_eq_true hil, Bool.true_and]
      by_cases hk : key (l.getD i Flat.dflt) = k
      · have h0 := hcm.2 hk
        rw [decide_eq_true hk]
        clear hcm hk
        (repeat' (first | (show VH _ _ _ _ _ _ _; first | refine v_seq ?_ | refine r_seq ?_ | refine v_ret ?_ | refine v_exit ?_ | refine v_cond_f rfl tbL ?_) | (show SH _ _ _ _ _ (_ :: _) _ _ _; first | (show SH _ _ _ _ _ (⟨_, _, _, _, _, some _⟩ :: _) _ _ _; (refine gif rfl rfl ?_; refine giTT tbL ?_)) | (show SH _ _ _ _ _ (⟨_, .move _, _, _, _, _⟩ :: _) _ _ _; refine mov evL ?_) | (show SH _ _ _ _ _ (⟨_, .assign _, _, _, _, _⟩ :: _) _ _ _; refine asg evL ?_) | (show SH _ _ _ _ _ (⟨_, .binOp .lss _ _ _ _, _, _, _, _⟩ :: _) _ _ _; first | refine lssT rfl rfl omD ?_ | refine lssF rfl rfl omD ?_) | (show SH _ _ _ _ _ (⟨_, .binOp .eql _ _ _ _, _, _, _, _⟩ :: _) _ _ _; refine eqlT rfl rfl omD ?_) | (show SH _ _ _ _ _ (⟨_, .load _ _, _, _, _, _⟩ :: _) _ _ _; first | refine lra rfl (fun _ _ => rdP) (by rfl) omL ?_ | refine lra rfl (fun _ _ => rdP) (by rfl) (by simp only [List.length_cons, List.length_nil]; omega) ?_) | (show SH _ _ _ _ _ (⟨_, .indexAddr _ _ _, _, _, _, _⟩ :: _) _ _ _; refine ix rfl rfl (by with_reducible rfl) (fun _ _ => rdP) (by rfl) omL omL ?_) | (show SH _ _ _ _ _ (⟨_, .call ⟨.value (.tmp _), _, _⟩, _, _, _, _⟩ :: _) _ _ _; refine cl (callee := .tmp _) rfl (fun w hw => hp' _ hw.ext) rfl rfl ?_) | (show SH _ _ _ _ _ (⟨_, .pick _ _ _, _, _, _, _⟩ :: _) _ _ _; refine pkt rfl tbL evL ?_)) | refine s_nil ?_ | refine kh_normal ?_ | refine kh_exit ?_ | refine bh_exit ?_))
        exact rh2 rfl rfl rfl ⟨rfl, rfl⟩ (ent_nil _)
      · have h0 : ¬ cmpI (key (l.getD i Flat.dflt)) k = 0 := fun h => hk (hcm.1 h)
        rw [decide_eq_false hk]
        clear hcm hk
        (repeat' (first | (show VH _ _ _ _ _ _ _; first | refine v_seq ?_ | refine r_seq ?_ | refine v_ret ?_ | refine v_exit ?_ | refine v_cond_f rfl tbL ?_) | (show SH _ _ _ _ _ (_ :: _) _ _ _; first | (show SH _ _ _ _ _ (⟨_, _, _, _, _, some _⟩ :: _) _ _ _; (refine gif rfl rfl ?_; refine giTT tbL ?_)) | (show SH _ _ _ _ _ (⟨_, .move _, _, _, _, _⟩ :: _) _ _ _; refine mov evL ?_) | (show SH _ _ _ _ _ (⟨_, .assign _, _, _, _, _⟩ :: _) _ _ _; refine asg evL ?_) | (show SH _ _ _ _ _ (⟨_, .binOp .lss _ _ _ _, _, _, _, _⟩ :: _) _ _ _; first | refine lssT rfl rfl omD ?_ | refine lssF rfl rfl omD ?_) | (show SH _ _ _ _ _ (⟨_, .binOp .eql _ _ _ _, _, _, _, _⟩ :: _) _ _ _; refine eqlF rfl rfl omD ?_) | (show SH _ _ _ _ _ (⟨_, .load _ _, _, _, _, _⟩ :: _) _ _ _; first | refine lra rfl (fun _ _ => rdP) (by rfl) omL ?_ | refine lra rfl (fun _ _ => rdP) (by rfl) (by simp only [List.length_cons, List.length_nil]; omega) ?_) | (show SH _ _ _ _ _ (⟨_, .indexAddr _ _ _, _, _, _, _⟩ :: _) _ _ _; refine ix rfl rfl (by with_reducible rfl) (fun _ _ => rdP) (by rfl) omL omL ?_) | (show SH _ _ _ _ _ (⟨_, .call ⟨.value (.tmp _), _, _⟩, _, _, _, _⟩ :: _) _ _ _; refine cl (callee := .tmp _) rfl (fun w hw => hp' _ hw.ext) rfl rfl ?_) | (show SH _ _ _ _ _ (⟨_, .pick _ _ _, _, _, _, _⟩ :: _) _ _ _; refine pkt rfl tbL evL ?_)) | refine s_nil ?_ | refine kh_normal ?_ | refine kh_exit ?_ | refine bh_exit ?_))
        exact rh2 rfl rfl rfl ⟨rfl, rfl⟩ (ent_nil _)
    · rw [decide_eq_false hil, Bool.false_and]
      (repeat' (first | (show VH _ _ _ _ _ _ _; first | refine v_seq ?_ | refine r_seq ?_ | refine v_ret ?_ | refine v_exit ?_ | refine v_cond_f rfl tbL ?_) | (show SH _ _ _ _ _ (_ :: _) _ _ _; first | (show SH _ _ _ _ _ (⟨_, _, _, _, _, some _⟩ :: _) _ _ _; (refine gif rfl rfl ?_; refine giTF tbL ?_)) | (show SH _ _ _ _ _ (⟨_, .move _, _, _, _, _⟩ :: _) _ _ _; refine mov evL ?_) | (show SH _ _ _ _ _ (⟨_, .assign _, _, _, _, _⟩ :: _) _ _ _; refine asg evL ?_) | (show SH _ _ _ _ _ (⟨_, .binOp .lss _ _ _ _, _, _, _, _⟩ :: _) _ _ _; refine lssF rfl rfl omD ?_) | (show SH _ _ _ _ _ (⟨_, .pick _ _ _, _, _, _, _⟩ :: _) _ _ _; refine pkf rfl tbL evL ?_)) | refine s_nil ?_ | refine kh_normal ?_ | refine kh_exit ?_ | refine bh_exit ?_))
      exact rh2 rfl rfl rfl ⟨rfl, rfl⟩ (ent_nil _)
set_option maxHeartbeats 1000000 in
set_option maxRecDepth 100000 in
theorem deleteP_spec (A : Option Addr) (l : List PtyP) (cp i : Nat) (w0 : World) (H : List HP) (w : World) (hi : i < l.length) (hl : l.length ≤ 1000000) (hw : Wd w0 (orow 46 A cp l :: H) w) :
    Ret Tryz.prog 106 [.slice A l.length cp, .int .i64 i, .int .i64 (i + 1)].toArray w (RP w0 fun v H' => v = .slice A (l.eraseIdx i).length cp ∧ H' = orow 46 A cp (l.eraseIdx i) :: H) := by
  refine enterH Tryz.func106 rfl rfl Tryz.ntmps106 rfl (by assumption) ?_
  refine v_cap (l := l) spL (fun hc => ?_)
  (repeat' (first | (show VH _ _ _ _ _ _ _; first | refine v_seq ?_ | refine r_seq ?_) | (show SH _ _ _ _ _ (_ :: _) _ _ _; first | (show SH _ _ _ _ _ (⟨_, .move _, _, _, _, _⟩ :: _) _ _ _; refine mov evL ?_) | (show SH _ _ _ _ _ (⟨_, .assign _, _, _, _, _⟩ :: _) _ _ _; refine asg evL ?_) | refine slen rfl ?_) | refine s_nil ?_ | refine kh_normal ?_))
  refine sl3 rfl rfl rfl rfl (by omega) (by omega) (by omega) (by omega) ?_
  (repeat' (first | (show VH _ _ _ _ _ _ _; first | refine v_seq ?_ | refine r_seq ?_ | refine v_skip ?_ | refine v_cond_f rfl tbL ?_) | (show SH _ _ _ _ _ (_ :: _) _ _ _; first | (show SH _ _ _ _ _ (⟨_, .move _, _, _, _, _⟩ :: _) _ _ _; refine mov evL ?_) | (show SH _ _ _ _ _ (⟨_, .assign _, _, _, _, _⟩ :: _) _ _ _; refine asg evL ?_) | (show SH _ _ _ _ _ (⟨_, .binOp .eql _ _ _ _, _, _, _, _⟩ :: _) _ _ _; refine eqlF rfl rfl omD ?_) | refine slen rfl ?_) | refine s_nil ?_ | refine kh_normal ?_))
  refine r_held [] [(0, true), (1, true), (2, true), (3, true), (4, false), (5, false), (6, false), (7, false)] hmix (by kernel_rfl) enL ?_
  (repeat' ((show SH _ _ _ _ _ (_ :: _) _ _ _; first | (show SH _ _ _ _ _ (⟨_, .move _, _, _, _, _⟩ :: _) _ _ _; refine mov evL ?_) | (show SH _ _ _ _ _ (⟨_, .slice _ _ _ _ _, _, _, _, _⟩ :: _) _ _ _; first | refine slh rfl rfl omL omL ?_ | refine sll rfl rfl omL omL ?_))))
  refine appIn (L := l) (i := i) (j := i + 1) (kk := l.length - (i + 1)) rfl rfl rfl rfl spL (fun w hw => Rd.from (hw.rd spL) (i + 1) hc) rfl (by omega) (by omega) (by omega) (ent_nil _) ?_
  have hL : (l.take i ++ l.drop (i + 1) ++ l.drop (i + (l.length - (i + 1)))).length = l.length := by
    simp only [List.length_append, List.length_take, List.length_drop]; omega
  have hE : (l.take i ++ l.drop (i + 1) ++ l.drop (i + (l.length - (i + 1)))).take (i + (l.length - (i + 1))) = l.eraseIdx i := by
    rw [List.eraseIdx_eq_take_drop_succ, List.take_left' (by simp only [List.length_append, List.length_take, List.length_drop]; omega)]
  have hEl : (l.eraseIdx i).length = i + (l.length - (i + 1)) := by rw [← hE, List.length_take, hL]; omega
  generalize l.take i ++ l.drop (i + 1) ++ l.drop (i + (l.length - (i + 1))) = L at hL hE ⊢
  (repeat' (first | (show VH _ _ _ _ _ _ _; first | refine v_seq ?_ | refine r_seq ?_) | (show SH _ _ _ _ _ (_ :: _) _ _ _; first | (show SH _ _ _ _ _ (⟨_, .move _, _, _, _, _⟩ :: _) _ _ _; refine mov evL ?_) | (show SH _ _ _ _ _ (⟨_, .assign _, _, _, _, _⟩ :: _) _ _ _; refine asg evL ?_) | refine slen rfl ?_) | refine s_nil ?_ | refine kh_normal ?_))
  refine sl2 rfl rfl rfl (by omega) (by omega) (by omega) ?_
  (repeat' (first | (show VH _ _ _ _ _ _ _; first | refine v_seq ?_ | refine r_seq ?_ | refine r_quiet hmix (by kernel_rfl) ?_ | refine v_block ?_ | refine v_ret ?_ | refine v_skip ?_ | refine v_exit ?_ | refine v_label ?_ | refine v_cond_t rfl tbL ?_ | refine v_cond_f rfl tbL ?_ | refine v_cond_dec rfl (fun h => ?_) (fun h => ?_) | refine v_cond_ndec rfl (fun h => ?_) (fun h => ?_) | refine v_cond rfl (fun h => ?_) (fun h => ?_)) | (show SH _ _ _ _ _ (_ :: _) _ _ _; first | (show SH _ _ _ _ _ (⟨_, .move _, _, _, _, _⟩ :: _) _ _ _; refine mov evL ?_) | (show SH _ _ _ _ _ (⟨_, .assign _, _, _, _, _⟩ :: _) _ _ _; refine asg evL ?_) | (show SH _ _ _ _ _ (⟨_, .binOp .eql _ _ _ _, _, _, _, _⟩ :: _) _ _ _; first | refine eqlT rfl rfl omD ?_ | refine eqlF rfl rfl omD ?_ | refine eql rfl rfl ?_ | refine eqn rfl rfl ?_ | refine eqb rfl rfl ?_) | refine slen rfl ?_ | (show SH _ _ _ _ _ (⟨_, .slice _ _ _ _ _, _, _, _, _⟩ :: _) _ _ _; first | refine sla rfl rfl omL omL ?_ | refine slh rfl rfl omL omL ?_ | refine sll rfl rfl omL omL ?_)) | refine s_nil ?_ | refine s_fork ?_ ?_ | refine s_fork3 ?_ ?_ ?_ | refine s_fork4 ?_ ?_ ?_ ?_ | refine kh_normal ?_ | refine kh_ret ?_ | refine kh_exit ?_ | refine bh_normal ?_ | refine bh_ret ?_ | refine bh_exit ?_ | refine bh_exit_ne rfl ?_))
  refine clrG (α := PtyP) (by rfl) (by rfl) (by rfl) rfl rfl spL (j := i + (l.length - (i + 1))) (by rfl) (by rw [hL]; rfl) (by omega) trivial ?_
  rw [hE]
  (repeat' (first | (show VH _ _ _ _ _ _ _; first | refine v_seq ?_ | refine r_seq ?_ | refine v_ret ?_) | (show SH _ _ _ _ _ (_ :: _) _ _ _; first | (show SH _ _ _ _ _ (⟨_, .move _, _, _, _, _⟩ :: _) _ _ _; refine mov evL ?_) | (show SH _ _ _ _ _ (⟨_, .assign _, _, _, _, _⟩ :: _) _ _ _; refine asg evL ?_)) | refine s_nil ?_ | refine kh_normal ?_))
  exact rh1 rfl rfl ⟨congrArg (fun m => Value.slice A m cp) hEl.symm, rfl⟩ (ent_refl _)
set_option maxHeartbeats 2000000 in
set_option maxRecDepth 100000 in
theorem insertI_spec (A : Option Addr) (l : List Inv) (cp i bv : Nat) (c : Inv) (w0 : World) (H : List HP) (w : World) (hi : i ≤ l.length) (hl : l.length ≤ 1000000) (hw : Wd w0 (orow 61 A cp l :: orow 61 (some ⟨bv, 0, none⟩) 1 [c] :: H) w) :
    Ret Tryz.prog 49 [.slice A l.length cp, .int .i64 i, .slice (some ⟨bv, 0, none⟩) 1 1].toArray w (RP w0 fun v H' => ∃ A' cp', v = .slice A' (l.take i ++ c :: l.drop i).length cp' ∧ H' = orow 61 A' cp' (l.take i ++ c :: l.drop i) :: H) := by
  have hLn : (l.take i ++ c :: l.drop i).length = l.length + 1 := by
    simp only [List.length_append, List.length_cons, List.length_take, List.length_drop]; omega
  refine enterH Tryz.func49 rfl rfl Tryz.ntmps49 rfl (by assumption) ?_
  refine v_cap (l := l) spL (fun hc => ?_)
  by_cases hin : i = l.length
  · have hE : l.take i ++ c :: l.drop i = l ++ [c] := by rw [hin]; simp
    rw [hE]
    clear hE hLn
    (repeat' (first | (show VH _ _ _ _ _ _ _; first | refine v_seq ?_ | refine r_seq ?_ | refine v_skip ?_ | refine v_cond_t rfl tbL ?_ | refine v_cond_f rfl tbL ?_) | (show SH _ _ _ _ _ (_ :: _) _ _ _; first | (show SH _ _ _ _ _ (⟨_, .move _, _, _, _, _⟩ :: _) _ _ _; refine mov evL ?_) | (show SH _ _ _ _ _ (⟨_, .assign _, _, _, _, _⟩ :: _) _ _ _; refine asg evL ?_) | (show SH _ _ _ _ _ (⟨_, .binOp .eql _ _ _ _, _, _, _, _⟩ :: _) _ _ _; first | refine eqlT rfl rfl omD ?_ | refine eqlF rfl rfl omD ?_) | refine slen rfl ?_ | (show SH _ _ _ _ _ (⟨_, .slice _ _ _ _ _, _, _, _, _⟩ :: _) _ _ _; refine sll rfl rfl omL omL ?_)) | refine s_nil ?_ | refine kh_normal ?_))
    refine app (l := l) (l2 := [c]) rfl rfl rfl spL (fun w hw => hw.rd spL) rfl rfl rfl (by simp only [List.length_cons, List.length_nil]; omega) (by simp only [List.length_cons, List.length_nil]; omega) (fun A' c' => ⟨trivial, ?_⟩)
    (repeat' (first | refine v_ret ?_ | (show SH _ _ _ _ _ (_ :: _) _ _ _; (show SH _ _ _ _ _ (⟨_, .assign _, _, _, _, _⟩ :: _) _ _ _; refine asg evL ?_)) | refine s_nil ?_ | refine kh_normal ?_ | refine kh_ret ?_))
    exact rh1 rfl rfl ⟨A', c', rfl, rfl⟩ (ent_cons Split.head (ent_drop (ent_refl _)))
  · by_cases hg : cp < l.length + 1
    · (repeat' (first | (show VH _ _ _ _ _ _ _; first | refine v_seq ?_ | refine r_seq ?_ | refine v_skip ?_ | refine v_cond_f rfl tbL ?_) | (show SH _ _ _ _ _ (_ :: _) _ _ _; first | (show SH _ _ _ _ _ (⟨_, .move _, _, _, _, _⟩ :: _) _ _ _; refine mov evL ?_) | (show SH _ _ _ _ _ (⟨_, .assign _, _, _, _, _⟩ :: _) _ _ _; refine asg evL ?_) | (show SH _ _ _ _ _ (⟨_, .binOp .eql _ _ _ _, _, _, _, _⟩ :: _) _ _ _; refine eqlF rfl rfl omD ?_) | (show SH _ _ _ _ _ (⟨_, .binOp .add _ _ _ _, _, _, _, _⟩ :: _) _ _ _; refine add rfl rfl inL ?_) | refine slen rfl ?_ | (show SH _ _ _ _ _ (⟨_, .slice _ _ _ _ _, _, _, _, _⟩ :: _) _ _ _; refine sll rfl rfl omL omL ?_)) | refine s_nil ?_ | refine kh_normal ?_))
      refine bcp rfl ?_
      (repeat' (first | (show VH _ _ _ _ _ _ _; first | refine v_seq ?_ | refine r_seq ?_ | refine v_cond_t rfl tbL ?_) | (show SH _ _ _ _ _ (_ :: _) _ _ _; first | (show SH _ _ _ _ _ (⟨_, .move _, _, _, _, _⟩ :: _) _ _ _; refine mov evL ?_) | (show SH _ _ _ _ _ (⟨_, .binOp .gtr _ _ _ _, _, _, _, _⟩ :: _) _ _ _; refine gtrT rfl rfl omD ?_) | (show SH _ _ _ _ _ (⟨_, .binOp .add _ _ _ _, _, _, _, _⟩ :: _) _ _ _; refine add rfl rfl inL ?_) | (show SH _ _ _ _ _ (⟨_, .binOp .sub _ _ _ _, _, _, _, _⟩ :: _) _ _ _; refine sub rfl rfl inL ?_) | (show SH _ _ _ _ _ (⟨_, .slice _ _ _ _ _, _, _, _, _⟩ :: _) _ _ _; refine slh rfl rfl omL omL ?_)) | refine s_nil ?_ | refine kh_normal ?_))
      refine appz (α := Inv) (i := i) (k := l.length + 1 - i) (l := l.take i) (z := .agg #[.int .i64 0, .int .i64 0]) rfl rfl (congrArg (Value.int .i64) (by omega)) (fun w hw => (hw.rd spL).take i) (by rw [List.length_take]; omega) (by kernel_rfl) rfl rfl (by omega) (by omega) (by omega) (by omega) (by omega) (by omega) (fun A2 cp2 => ?_)
      (repeat' ((fail_if_success (show VH _ _ (.seq (.region 10 _ _) _) _ _ _ _)); first | (show SH _ _ _ _ _ (_ :: _) _ _ _; (show SH _ _ _ _ _ (⟨_, .assign _, _, _, _, _⟩ :: _) _ _ _; refine asg evL ?_)) | refine s_nil ?_ | refine kh_normal ?_))
      refine v_cap (A := A2) spL (fun hc2 => ?_)
      have hLr : (l.take i ++ List.replicate (l.length + 1 - i) (Flat.dflt : Inv)).length = l.length + 1 := by
        simp only [List.length_append, List.length_take, List.length_replicate]; omega
      obtain ⟨L, hL⟩ : ∃ L, l.take i ++ List.replicate (l.length + 1 - i) (Flat.dflt : Inv) = L := ⟨_, rfl⟩
      have hLt : L.take i = l.take i := by rw [← hL, List.take_left' (by rw [List.length_take]; omega)]
      rw [hL] at hLr hc2 ⊢
      clear hL
      (repeat' (first | (show VH _ _ _ _ _ _ _; first | refine v_seq ?_ | refine r_seq ?_) | (show SH _ _ _ _ _ (_ :: _) _ _ _; first | (show SH _ _ _ _ _ (⟨_, .move _, _, _, _, _⟩ :: _) _ _ _; refine mov evL ?_) | (show SH _ _ _ _ _ (⟨_, .slice _ _ _ _ _, _, _, _, _⟩ :: _) _ _ _; refine sll rfl rfl omL omL ?_))))
      refine cpyL (A := A2) (o := i) (V := [c]) (kk := 1) rfl rfl rfl rfl spL (if_neg (by omega)) (fun w hw => hw.rd spL) (by omega) rfl (by omega) (by omega) trivial ?_
      rw [hLt]
      have hM : (l.take i ++ [c] ++ L.drop (i + 1)).length = l.length + 1 := by
        simp only [List.length_append, List.length_take, List.length_drop, List.length_cons, List.length_nil]; omega
      have hMt : (l.take i ++ [c] ++ L.drop (i + 1)).take (i + 1) = l.take i ++ [c] := List.take_left' (by simp only [List.length_append, List.length_take, List.length_cons, List.length_nil]; omega)
      obtain ⟨M, hMM⟩ : ∃ M, l.take i ++ [c] ++ L.drop (i + 1) = M := ⟨_, rfl⟩
      rw [hMM] at hM hMt ⊢
      clear hMM hLt
      (repeat' (first | refine v_seq ?_ | refine s_nil ?_ | refine kh_normal ?_))
      refine r_held [] [(0, true), (1, true), (2, true), (3, true), (4, true), (5, true), (6, false), (7, false), (8, false)] hmix (by kernel_rfl) (ent_nil _) ?_
      (repeat' ((show SH _ _ _ _ _ (_ :: _) _ _ _; first | (show SH _ _ _ _ _ (⟨_, .move _, _, _, _, _⟩ :: _) _ _ _; refine mov evL ?_) | (show SH _ _ _ _ _ (⟨_, .binOp .add _ _ _ _, _, _, _, _⟩ :: _) _ _ _; refine add rfl rfl inL ?_) | (show SH _ _ _ _ _ (⟨_, .slice _ _ _ _ _, _, _, _, _⟩ :: _) _ _ _; refine sll rfl rfl omL omL ?_))))
      refine cpyL (A := A2) (o := i + 1) (V := l.drop i) (kk := l.length - i) rfl rfl rfl rfl spL (if_neg (by omega)) (fun w hw => Rd.from (hw.rd spL) i hc) (by omega) (by rw [List.length_drop]) (by omega) (by omega) (ent_nil _) ?_
      have hE : M.take (i + 1) ++ l.drop i ++ M.drop (i + 1 + (l.length - i)) = l.take i ++ c :: l.drop i := by
        have hMd : M.drop (i + 1 + (l.length - i)) = [] := List.drop_of_length_le (by omega)
        rw [hMt, hMd]; simp
      rw [hE]
      (repeat' (first | (show VH _ _ _ _ _ _ _; first | refine v_seq ?_ | refine r_seq ?_ | refine v_ret ?_) | (show SH _ _ _ _ _ (_ :: _) _ _ _; first | (show SH _ _ _ _ _ (⟨_, .move _, _, _, _, _⟩ :: _) _ _ _; refine mov evL ?_) | (show SH _ _ _ _ _ (⟨_, .assign _, _, _, _, _⟩ :: _) _ _ _; refine asg evL ?_)) | refine s_nil ?_ | refine kh_normal ?_ | refine kh_ret ?_))
      exact rh1 rfl rfl ⟨A2, cp2, congrArg (fun m => Value.slice A2 m cp2) (by omega), rfl⟩ (ent_cons Split.head (ent_drop (ent_drop (ent_refl _))))
    · have hil : i < l.length := by omega
      (repeat' (first | (show VH _ _ _ _ _ _ _; first | refine v_seq ?_ | refine r_seq ?_ | refine v_skip ?_ | refine v_cond_f rfl tbL ?_) | (show SH _ _ _ _ _ (_ :: _) _ _ _; first | (show SH _ _ _ _ _ (⟨_, .move _, _, _, _, _⟩ :: _) _ _ _; refine mov evL ?_) | (show SH _ _ _ _ _ (⟨_, .assign _, _, _, _, _⟩ :: _) _ _ _; refine asg evL ?_) | (show SH _ _ _ _ _ (⟨_, .binOp .eql _ _ _ _, _, _, _, _⟩ :: _) _ _ _; refine eqlF rfl rfl omD ?_) | (show SH _ _ _ _ _ (⟨_, .binOp .add _ _ _ _, _, _, _, _⟩ :: _) _ _ _; refine add rfl rfl inL ?_) | refine slen rfl ?_ | (show SH _ _ _ _ _ (⟨_, .slice _ _ _ _ _, _, _, _, _⟩ :: _) _ _ _; refine sll rfl rfl omL omL ?_)) | refine s_nil ?_ | refine kh_normal ?_))
      refine bcp rfl ?_
      (repeat' ((fail_if_success (show VH _ _ (.seq (.region 13 _ _) _) _ _ _ _)); first | (show VH _ _ _ _ _ _ _; first | refine v_skip ?_ | refine v_cond_f rfl tbL ?_) | (show SH _ _ _ _ _ (_ :: _) _ _ _; (show SH _ _ _ _ _ (⟨_, .binOp .gtr _ _ _ _, _, _, _, _⟩ :: _) _ _ _; refine gtrF rfl rfl omD ?_)) | refine s_nil ?_ | refine kh_normal ?_))
      refine v_room (l := l) spL (by omega) (fun xs hxs => ?_)
      (repeat' ((fail_if_success (show VH _ _ (.seq (.region 15 _ _) _) _ _ _ _)); first | (show VH _ _ _ _ _ _ _; first | refine v_seq ?_ | refine r_seq ?_) | (show SH _ _ _ _ _ (_ :: _) _ _ _; first | (show SH _ _ _ _ _ (⟨_, .move _, _, _, _, _⟩ :: _) _ _ _; refine mov evL ?_) | (show SH _ _ _ _ _ (⟨_, .assign _, _, _, _, _⟩ :: _) _ _ _; refine asg evL ?_) | (show SH _ _ _ _ _ (⟨_, .binOp .add _ _ _ _, _, _, _, _⟩ :: _) _ _ _; refine add rfl rfl inL ?_) | (show SH _ _ _ _ _ (⟨_, .slice _ _ _ _ _, _, _, _, _⟩ :: _) _ _ _; first | refine slh rfl rfl omL omL ?_ | refine sll rfl rfl omL omL ?_)) | refine s_nil ?_ | refine kh_normal ?_))
      refine ovl (t := 44) (tR := 4) (by decide) Tryz.func88 (by kernel_rfl) (by kernel_rfl) (by kernel_rfl) (by kernel_rfl) rfl rfl (if_neg (by omega)) Split.head Split.head (by omega) ?_
      (repeat' (first | (show VH _ _ _ _ _ _ _; first | refine v_seq ?_ | refine v_cond_t rfl tbL ?_) | refine bnoF rfl ?_ | refine s_nil ?_ | refine kh_normal ?_))
      refine r_held [] [(0, true), (1, true), (2, true), (3, true), (4, true), (5, true), (6, false), (7, false), (8, false)] hmix (by kernel_rfl) (ent_nil _) ?_
      (repeat' ((show SH _ _ _ _ _ (_ :: _) _ _ _; first | (show SH _ _ _ _ _ (⟨_, .move _, _, _, _, _⟩ :: _) _ _ _; refine mov evL ?_) | (show SH _ _ _ _ _ (⟨_, .binOp .add _ _ _ _, _, _, _, _⟩ :: _) _ _ _; refine add rfl rfl inL ?_) | (show SH _ _ _ _ _ (⟨_, .slice _ _ _ _ _, _, _, _, _⟩ :: _) _ _ _; refine sll rfl rfl omL omL ?_))))
      refine cpyS (l := l) (i := i) rfl rfl rfl rfl Split.head hxs hil (if_neg (by omega)) (if_neg (by omega)) (by omega) (ent_nil _) ?_
      have hM : (l.take (i + 1) ++ l.drop i).length = l.length + 1 := by
        simp only [List.length_append, List.length_take, List.length_drop]; omega
      have hMt : (l.take (i + 1) ++ l.drop i).take i = l.take i := by
        rw [List.take_append_of_le_length (by rw [List.length_take]; omega), List.take_take, Nat.min_eq_left (by omega)]
      have hMd : (l.take (i + 1) ++ l.drop i).drop (i + 1) = l.drop i := List.drop_left' (by rw [List.length_take]; omega)
      obtain ⟨M, hMM⟩ : ∃ M, l.take (i + 1) ++ l.drop i = M := ⟨_, rfl⟩
      rw [hMM] at hM hMt hMd ⊢
      clear hMM
      (repeat' (first | (show VH _ _ _ _ _ _ _; first | refine v_seq ?_ | refine r_seq ?_) | (show SH _ _ _ _ _ (_ :: _) _ _ _; first | (show SH _ _ _ _ _ (⟨_, .move _, _, _, _, _⟩ :: _) _ _ _; refine mov evL ?_) | (show SH _ _ _ _ _ (⟨_, .slice _ _ _ _ _, _, _, _, _⟩ :: _) _ _ _; refine sll rfl rfl omL omL ?_)) | refine s_nil ?_ | refine kh_normal ?_))
      refine cpyL (A := A) (L := M) (o := i) (V := [c]) (kk := 1) rfl rfl rfl rfl spL (if_neg (by omega)) (fun w hw => hw.rd spL) (by omega) rfl (by omega) (by omega) trivial ?_
      have hE : M.take i ++ [c] ++ M.drop (i + 1) = l.take i ++ c :: l.drop i := by
        rw [hMt, hMd]; simp
      rw [hE]
      (repeat' (first | (show VH _ _ _ _ _ _ _; first | refine v_seq ?_ | refine r_seq ?_ | refine v_ret ?_) | (show SH _ _ _ _ _ (_ :: _) _ _ _; first | (show SH _ _ _ _ _ (⟨_, .move _, _, _, _, _⟩ :: _) _ _ _; refine mov evL ?_) | (show SH _ _ _ _ _ (⟨_, .assign _, _, _, _, _⟩ :: _) _ _ _; refine asg evL ?_)) | refine s_nil ?_ | refine kh_normal ?_ | refine kh_ret ?_))
      exact rh1 rfl rfl ⟨A, cp, congrArg (fun m => Value.slice A m cp) (by omega), rfl⟩ (ent_cons Split.head (ent_drop (ent_refl _)))
end Go.Proofs.YtlfbcoohfnoacaaGreat
