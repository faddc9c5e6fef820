/- The reference of layer 34: Advance. -/
import Derived.Test.YtehjdbgijibmcaaZHb
import Derived.Test.YtehjdbgijibmcaaZAr
import Derived.Test.YtehjdbgijibmcaaZVa
set_option linter.unusedSimpArgs false
set_option linter.unusedVariables false
namespace Go.Proofs.Ytehjdbgijibmcaa
open Go.Fw Go.RowKit
def optI : Option Nat → Int
  | none => -1
  | some a => a
/-- The best of the first i lots. -/
def Best (tick : Int) (l : List Lot) (i : Nat) : Option Nat → Prop
  | none => ∀ j, j < i → ¬ (l.getD j Flat.dflt).till ≤ tick
  | some a => a < i ∧ (l.getD a Flat.dflt).till ≤ tick ∧ (∀ j, j < a → (l.getD j Flat.dflt).till ≤ tick → (l.getD a Flat.dflt).till < (l.getD j Flat.dflt).till) ∧ (∀ j, a < j → j < i → (l.getD j Flat.dflt).till ≤ tick → (l.getD a Flat.dflt).till ≤ (l.getD j Flat.dflt).till)
theorem best_skip {tick : Int} {l : List Lot} {i : Nat} {o : Option Nat} (h : Best tick l i o) (hn : ¬ (l.getD i Flat.dflt).till ≤ tick) : Best tick l (i + 1) o := by
  cases o with
  | none =>
    intro j hj
    rcases Nat.lt_succ_iff_lt_or_eq.1 hj with h' | rfl
    · exact h j h'
    · exact hn
  | some a =>
    obtain ⟨h1, h2, h3, h4⟩ := h
    refine ⟨by omega, h2, h3, fun j hj hj2 hj3 => ?_⟩
    rcases Nat.lt_succ_iff_lt_or_eq.1 hj2 with h' | rfl
    · exact h4 j hj h' hj3
    · exact absurd hj3 hn
theorem best_first {tick : Int} {l : List Lot} {i : Nat} (h : Best tick l i none) (hn : (l.getD i Flat.dflt).till ≤ tick) : Best tick l (i + 1) (some i) :=
  ⟨by omega, hn, fun j hj hj2 => absurd hj2 (h j hj), fun j hj hj2 => by omega⟩
theorem best_less {tick : Int} {l : List Lot} {i a : Nat} (h : Best tick l i (some a)) (hn : (l.getD i Flat.dflt).till ≤ tick) (hl : (l.getD i Flat.dflt).till < (l.getD a Flat.dflt).till) : Best tick l (i + 1) (some i) := by
  obtain ⟨h1, h2, h3, h4⟩ := h
  refine ⟨by omega, hn, fun j hj hj2 => ?_, fun j hj hj2 => by omega⟩
  rcases Nat.lt_trichotomy j a with h' | rfl | h'
  · have := h3 j h' hj2; omega
  · exact hl
  · have := h4 j h' hj hj2; omega
theorem best_more {tick : Int} {l : List Lot} {i a : Nat} (h : Best tick l i (some a)) (hl : ¬ (l.getD i Flat.dflt).till < (l.getD a Flat.dflt).till) : Best tick l (i + 1) (some a) := by
  obtain ⟨h1, h2, h3, h4⟩ := h
  refine ⟨by omega, h2, h3, fun j hj hj2 hj3 => ?_⟩
  rcases Nat.lt_succ_iff_lt_or_eq.1 hj2 with h' | rfl
  · exact h4 j hj h' hj3
  · omega
theorem best_done {tick : Int} {l : List Lot} {a : Nat} (h : Best tick l l.length (some a)) : First tick l a := ⟨h.1, h.2.1, h.2.2.1, h.2.2.2⟩
theorem endMovesR_len (x : Lot) : (endMovesR x).length ≤ 3 := by
  unfold endMovesR; split
  · simp
  · split <;> simp
/-- What is left of the lots, what is paid out so far, of the whole. -/
structure Going (tk tick : Int) (lots L : List Lot) (M : List Mv) : Prop where
  moves : M ++ (endedL tick L).flatMap endMoves = (endedL tick lots).flatMap endMoves
  rest : later tick L = later tick lots
  right : ∀ x ∈ L, Right x tk
  len : M.length + 3 * L.length ≤ 96
theorem going_next {tk tick : Int} {lots L : List Lot} {M : List Mv} {a : Nat} (h : Going tk tick lots L M) (hf : First tick L a) : Going tk tick lots (L.eraseIdx a) (M ++ endMovesR (L.getD a Flat.dflt)) := by
  obtain ⟨h1, h2, h3, h4⟩ := h
  obtain ⟨e1, e2⟩ := first_ended hf
  have hlt := hf.lt
  refine ⟨?_, by rw [e2, h2], fun x hx => h3 x (List.mem_of_mem_eraseIdx hx), ?_⟩
  · rw [← h1, e1, List.flatMap_cons, endMoves_same (h3 _ (lot_mem hlt)), List.append_assoc]
  · have := endMovesR_len (L.getD a Flat.dflt)
    rw [List.length_append, List.length_eraseIdx_of_lt hlt]; omega
theorem going_end {tk tick : Int} {lots L : List Lot} {M : List Mv} (h : Going tk tick lots L M) (hb : Best tick L L.length none) : M = (endedL tick lots).flatMap endMoves ∧ L = later tick lots := by
  obtain ⟨h1, h2, h3, h4⟩ := h
  obtain ⟨e1, e2⟩ := none_ended hb
  rw [e1] at h1
  rw [e2] at h2
  exact ⟨by simpa using h1, h2⟩
set_option maxHeartbeats 8000000 in
set_option maxRecDepth 100000 in
theorem rAdv_spec (A : Option Addr) (c0 : Nat) (h : House) (tick : Int) (w : World) (hl : h.lots.length ≤ 100000) (hc : h.lots.length ≤ c0) (hr : Rd w A h.lots) :
    Ret Try.prog 65 [hv A c0 h, .int .i64 tick].toArray w (RP w (OutRR (advH h tick))) := by
  have hvs := fun w hr => rValid_spec A c0 h w (by omega) hr
  have hws := fun A c (h : House) i hi w hl hc hr => rWithout_spec A c h i w hi hl hc hr
  cases hval : validH h with
  | false =>
    unfold advH
    rw [hval] at hvs ⊢
    obtain ⟨tk, last, lots⟩ := h
    simp only at hl hr
    unfold hv at hvs ⊢
    simp only at hvs ⊢
    refine enterH Try.func65 rfl rfl Try.ntmps65 rfl (Wd.refl _) ?_
    (repeat' (first | (show VH _ _ _ _ _ _ _; first | refine v_seq ?_ | refine r_seq ?_ | refine v_ret ?_ | refine v_cond_t rfl tbL ?_) | (show SH _ _ _ _ _ (_ :: _) _ _ _; first | (refine gif rfl rfl ?_; refine giFT tbL ?_) | refine mov evL ?_ | refine asg evL ?_ | refine lba rfl spL (by rfl) ?_ | (show SH _ _ _ _ _ (⟨_, .call ⟨.value (.func 23), _, _⟩, _, _, _, _⟩ :: _) _ _ _; refine cl (callee := .func 23) rfl (fun w hw => hvs _ (hr.ext hw.ext)) rfl rfl ?_) | refine bnoF rfl ?_ | refine pkt rfl tbL evL ?_ | refine bld rfl rfl ?_ | refine ala rfl (fun b => ?_) | refine bxx rfl evL rfl (fun b => ?_) | refine sta rfl rfl rfl spL (by rfl) (by rfl) (by rfl) kpL ?_) | refine s_nil ?_ | refine kh_normal ?_ | refine kh_ret ?_))
    exact rhC3 rfl rfl rfl rfl rfl (fun w hw => loadVar_bx hw spL (by rfl)) ⟨none, 0, none, 0, rfl, rfl⟩ ent_res0R
  | true =>
    have hV := valid_iff.1 hval
    cases ht : inB tick 0 1073741824 with
    | false =>
      unfold advH
      rw [hval, ht]
      rw [hval] at hvs
      have hi := inB_no.1 ht
      obtain ⟨tk, last, lots⟩ := h
      simp only at hl hr
      unfold hv at hvs ⊢
      simp only at hvs ⊢
      refine enterH Try.func65 rfl rfl Try.ntmps65 rfl (Wd.refl _) ?_
      rcases (show tick < 0 ∨ (0 ≤ tick ∧ 1073741824 < tick) by omega) with h' | h'
      all_goals
        (repeat' (first | (show VH _ _ _ _ _ _ _; first | refine v_seq ?_ | refine r_seq ?_ | refine v_ret ?_ | refine v_cond_t rfl tbL ?_) | (show SH _ _ _ _ _ (_ :: _) _ _ _; first | (refine gif rfl rfl ?_; first | refine giFF tbL ?_ | refine giFT tbL ?_) | refine mov evL ?_ | refine asg evL ?_ | (show SH _ _ _ _ _ (⟨_, .binOp _ _ _ _ _, _, _, _, _⟩ :: _) _ _ _; first | refine lssT rfl rfl omD ?_ | refine lssF rfl rfl omD ?_ | refine gtrT rfl rfl omD ?_) | refine lba rfl spL (by rfl) ?_ | (show SH _ _ _ _ _ (⟨_, .call ⟨.value (.func 23), _, _⟩, _, _, _, _⟩ :: _) _ _ _; refine cl (callee := .func 23) rfl (fun w hw => hvs _ (hr.ext hw.ext)) rfl rfl ?_) | refine bnoT rfl ?_ | refine pkt rfl tbL evL ?_ | refine pkf rfl tbL evL ?_ | refine bld rfl rfl ?_ | refine ala rfl (fun b => ?_) | refine bxx rfl evL rfl (fun b => ?_) | refine sta rfl rfl rfl spL (by rfl) (by rfl) (by rfl) kpL ?_) | refine s_nil ?_ | refine kh_normal ?_ | refine kh_ret ?_))
        exact rhC3 rfl rfl rfl rfl rfl (fun w hw => loadVar_bx hw spL (by rfl)) ⟨none, 0, none, 0, rfl, rfl⟩ ent_res0R
    | true =>
      have hti := inB_iff.1 ht
      by_cases hback : tick < h.tick
      · unfold advH
        rw [hval, ht, if_pos hback]
        rw [hval] at hvs
        obtain ⟨tk, last, lots⟩ := h
        simp only at hl hr hback
        simp only [Bool.and_self, if_true]
        unfold hv at hvs ⊢
        simp only at hvs ⊢
        refine enterH Try.func65 rfl rfl Try.ntmps65 rfl (Wd.refl _) ?_
        (repeat' (first | (show VH _ _ _ _ _ _ _; first | refine v_seq ?_ | refine r_seq ?_ | refine v_ret ?_ | refine v_skip ?_ | refine v_cond_t rfl tbL ?_ | refine v_cond_f rfl tbL ?_) | (show SH _ _ _ _ _ (_ :: _) _ _ _; first | (refine gif rfl rfl ?_; refine giFF tbL ?_) | refine mov evL ?_ | refine asg evL ?_ | (show SH _ _ _ _ _ (⟨_, .binOp _ _ _ _ _, _, _, _, _⟩ :: _) _ _ _; first | refine lssT rfl rfl omD ?_ | refine lssF rfl rfl omD ?_ | refine gtrF rfl rfl omD ?_) | (show SH _ _ _ _ _ (⟨_, .load _ _, _, _, _, _⟩ :: _) _ _ _; first | refine lbx rfl spL (by rfl) ?_ | refine lba rfl spL (by rfl) ?_) | (show SH _ _ _ _ _ (⟨_, .call ⟨.value (.func 23), _, _⟩, _, _, _, _⟩ :: _) _ _ _; refine cl (callee := .func 23) rfl (fun w hw => hvs _ (hr.ext hw.ext)) rfl rfl ?_) | refine bnoT rfl ?_ | refine pkf rfl tbL evL ?_ | refine fad rfl ?_ | refine bld rfl rfl ?_ | refine ala rfl (fun b => ?_) | refine bxx rfl evL rfl (fun b => ?_) | refine sta rfl rfl rfl spL (by rfl) (by rfl) (by rfl) kpL ?_) | refine s_nil ?_ | refine kh_normal ?_ | refine kh_ret ?_))
        exact rhC3 rfl rfl rfl rfl rfl (fun w hw => loadVar_bx hw spL (by rfl)) ⟨none, 0, none, 0, rfl, rfl⟩ ent_res0R
      · rw [adv_ok hV hti (by omega)]
        rw [hval] at hvs
        have hR0 : ∀ x ∈ h.lots, Right x h.tick := fun x hx => (hV.lot x hx).2.2
        have hlen := hV.len
        have htk := hV.tick
        clear hV hval ht
        obtain ⟨tk, last, lots⟩ := h
        simp only at hl hr hc hR0 hlen htk hback ⊢
        generalize hE : (endedL tick lots).flatMap endMoves = E
        generalize hL : later tick lots = L0
        unfold hv at hvs hws ⊢
        simp only at hvs hws ⊢
        refine enterH Try.func65 rfl rfl Try.ntmps65 rfl (Wd.refl _) ?_
        (repeat' (first | (show VH _ _ _ _ _ _ _; first | refine v_seq ?_ | refine r_seq ?_ | refine v_block ?_ | refine v_skip ?_ | refine v_cond_f rfl tbL ?_) | (show SH _ _ _ _ _ (_ :: _) _ _ _; first | (refine gif rfl rfl ?_; refine giFF tbL ?_) | refine mov evL ?_ | refine asg evL ?_ | (show SH _ _ _ _ _ (⟨_, .binOp _ _ _ _ _, _, _, _, _⟩ :: _) _ _ _; first | refine lssF rfl rfl omD ?_ | refine gtrF rfl rfl omD ?_) | (show SH _ _ _ _ _ (⟨_, .load _ _, _, _, _, _⟩ :: _) _ _ _; first | refine lbx rfl spL (by rfl) ?_ | refine lba rfl spL (by rfl) ?_) | (show SH _ _ _ _ _ (⟨_, .call ⟨.value (.func 23), _, _⟩, _, _, _, _⟩ :: _) _ _ _; refine cl (callee := .func 23) rfl (fun w hw => hvs _ (hr.ext hw.ext)) rfl rfl ?_) | refine bnoT rfl ?_ | refine pkf rfl tbL evL ?_ | refine fad rfl ?_ | refine ala rfl (fun b => ?_) | refine bxx rfl evL rfl (fun b => ?_)) | refine s_nil ?_ | refine kh_normal ?_))
        clear hvs
        refine v_norm [(1,_),(2,_),(4,_),(7,_)] heL (fun g => ?_)
        rename_i bh
        revert b
        intro bz
        refine v_loop [(5,10),(28,128)] (fun y : (List Lot × Option Addr × Nat × Bool) × List Mv × Option Addr × Nat => [(7, .slice y.2.2.1 y.2.1.length y.2.2.2)]) (fun y => bx bh 53 [.int .i64 tk, .int .i64 last, .slice y.1.2.1 y.1.1.length y.1.2.2.1] :: bx bz 53 [.int .i64 0, .int .i64 0, .slice none 0 0] :: orow 100 y.2.2.1 y.2.2.2 y.2.1 :: (if y.1.2.2.2 then [orow 61 y.1.2.1 y.1.2.2.1 y.1.1] else []))
          (fun y => Going tk tick lots y.1.1 y.2.1 ∧ (y.1.2.2.2 = false → y.1 = (lots, A, c0, false))) (fun y => y.1.1.length) ((lots, A, c0, false), [], none, 0) hsL (ent_cons spL (ent_cons spL (ent_nilrow (ent_nil _)))) ⟨⟨rfl, rfl, hR0, by simp only [List.length_nil]; omega⟩, fun _ => rfl⟩ ?_
        rintro ⟨⟨L, A1, c1, own⟩, M, B, d⟩ g ⟨hG, ho⟩
        simp only [sets]
        simp only at hG ho
        have hreads : own = false → Rd w A1 L ∧ L.length ≤ c1 := fun e => by
          have e1 := ho e
          simp only [Prod.mk.injEq] at e1
          obtain ⟨rfl, rfl, rfl, _⟩ := e1
          exact ⟨hr, hc⟩
        have hLl : L.length ≤ 32 := by have := hG.len; omega
        have hMl : M.length ≤ 96 := by have := hG.len; omega
        have hRL := hG.right
        clear ho
        have hcap : (own = true → L.length ≤ c1) → True := fun _ => trivial
        clear hcap
        cases own
        · simp only [if_false, Bool.false_eq_true]
          obtain ⟨hr1, hc1⟩ := hreads rfl
          clear hr hc hreads
          (repeat' (first | (show VH _ _ _ _ _ _ _; first | refine v_seq ?_ | refine r_seq ?_ | refine v_block ?_) | refine asg evL ?_ | refine s_nil ?_ | refine kh_normal ?_))
          refine v_loop0 [(8,9),(28,62)] (fun y : Nat × Option Nat => [(9, .int .i64 y.1), (8, .int .i64 (optI y.2))]) (fun y => y.1 ≤ L.length ∧ Best tick L y.1 y.2) (fun y => L.length - y.1) (0, none) hsL ⟨Nat.zero_le _, fun j hj => by omega⟩ ?_
          rintro ⟨i, o⟩ g2 ⟨hi, hb⟩
          simp only [sets]
          simp only at hi hb
          by_cases hil : i < L.length
          · by_cases he : (L.getD i Flat.dflt).till ≤ tick
            · cases o with
              | none =>
                simp only [optI]
                (repeat' (first | (show VH _ _ _ _ _ _ _; first | refine v_seq ?_ | refine r_seq ?_ | refine r_quiet hmix (by kernel_rfl) ?_ | refine v_block ?_ | refine v_skip ?_ | refine v_cond_t rfl tbL ?_) | (show SH _ _ _ _ _ (_ :: _) _ _ _; first | (refine gif rfl rfl ?_; first | refine giTT tbL ?_ | refine giFT tbL ?_) | refine mov evL ?_ | refine asg evL ?_ | (show SH _ _ _ _ _ (⟨_, .binOp _ _ _ _ _, _, _, _, _⟩ :: _) _ _ _; first | refine lssT rfl rfl omD ?_ | refine leqT rfl rfl omD ?_ | refine add rfl rfl inL ?_) | (show SH _ _ _ _ _ (⟨_, .load _ _, _, _, _, _⟩ :: _) _ _ _; first | refine lbx rfl spL (by rfl) ?_ | refine lrf rfl (fun _ _ => rdL) (by rfl) omL (by rfl) ?_) | refine ix rfl rfl (by with_reducible rfl) (fun _ _ => rdL) (by rfl) omL omL ?_ | refine slen rfl ?_ | refine pkt rfl tbL evL ?_ | refine fad rfl ?_) | refine s_nil ?_ | refine kh_normal ?_ | refine bh_normal ?_))
                exact ⟨agL, (i + 1, some i), hsL, enL, ⟨hil, best_first hb he⟩, by show _ - (i + 1) < _ - i; omega⟩
              | some a =>
                simp only [optI]
                have hai := hb.1
                by_cases hlt : (L.getD i Flat.dflt).till < (L.getD a Flat.dflt).till
                · (repeat' (first | (show VH _ _ _ _ _ _ _; first | refine v_seq ?_ | refine r_seq ?_ | refine r_quiet hmix (by kernel_rfl) ?_ | refine v_block ?_ | refine v_skip ?_ | refine v_cond_t rfl tbL ?_) | (show SH _ _ _ _ _ (_ :: _) _ _ _; first | (refine gif rfl rfl ?_; first | refine giTT tbL ?_ | refine giFF tbL ?_) | refine mov evL ?_ | refine asg evL ?_ | (show SH _ _ _ _ _ (⟨_, .binOp _ _ _ _ _, _, _, _, _⟩ :: _) _ _ _; first | refine lssT rfl rfl omD ?_ | refine lssF rfl rfl omD ?_ | refine leqT rfl rfl omD ?_ | refine add rfl rfl inL ?_) | (show SH _ _ _ _ _ (⟨_, .load _ _, _, _, _, _⟩ :: _) _ _ _; first | refine lbx rfl spL (by rfl) ?_ | refine lrf rfl (fun _ _ => rdL) (by rfl) omL (by rfl) ?_) | refine ix rfl rfl (by with_reducible rfl) (fun _ _ => rdL) (by rfl) omL omL ?_ | refine slen rfl ?_ | refine pkt rfl tbL evL ?_ | refine pkf rfl tbL evL ?_ | refine fad rfl ?_) | refine s_nil ?_ | refine kh_normal ?_ | refine bh_normal ?_))
                  exact ⟨agL, (i + 1, some i), hsL, enL, ⟨hil, best_less hb he hlt⟩, by show _ - (i + 1) < _ - i; omega⟩
                · (repeat' (first | (show VH _ _ _ _ _ _ _; first | refine v_seq ?_ | refine r_seq ?_ | refine r_quiet hmix (by kernel_rfl) ?_ | refine v_block ?_ | refine v_skip ?_ | refine v_cond_t rfl tbL ?_ | refine v_cond_f rfl tbL ?_) | (show SH _ _ _ _ _ (_ :: _) _ _ _; first | (refine gif rfl rfl ?_; first | refine giTT tbL ?_ | refine giFF tbL ?_) | refine mov evL ?_ | refine asg evL ?_ | (show SH _ _ _ _ _ (⟨_, .binOp _ _ _ _ _, _, _, _, _⟩ :: _) _ _ _; first | refine lssT rfl rfl omD ?_ | refine lssF rfl rfl omD ?_ | refine leqT rfl rfl omD ?_ | refine add rfl rfl inL ?_) | (show SH _ _ _ _ _ (⟨_, .load _ _, _, _, _, _⟩ :: _) _ _ _; first | refine lbx rfl spL (by rfl) ?_ | refine lrf rfl (fun _ _ => rdL) (by rfl) omL (by rfl) ?_) | refine ix rfl rfl (by with_reducible rfl) (fun _ _ => rdL) (by rfl) omL omL ?_ | refine slen rfl ?_ | refine pkt rfl tbL evL ?_ | refine pkf rfl tbL evL ?_ | refine fad rfl ?_) | refine s_nil ?_ | refine kh_normal ?_ | refine bh_normal ?_))
                  exact ⟨agL, (i + 1, some a), hsL, enL, ⟨hil, best_more hb hlt⟩, by show _ - (i + 1) < _ - i; omega⟩
            · (repeat' (first | (show VH _ _ _ _ _ _ _; first | refine v_seq ?_ | refine r_seq ?_ | refine r_quiet hmix (by kernel_rfl) ?_ | refine v_block ?_ | refine v_skip ?_ | refine v_cond_t rfl tbL ?_ | refine v_cond_f rfl tbL ?_) | (show SH _ _ _ _ _ (_ :: _) _ _ _; first | (show SH _ _ _ _ _ (⟨_, _, _, _, _, some _⟩ :: _) _ _ _; first | (refine gif rfl rfl ?_; refine giTF tbL ?_) | refine gu rfl rfl ?_) | refine mov evL ?_ | refine asg evL ?_ | (show SH _ _ _ _ _ (⟨_, .binOp _ _ _ _ _, _, _, _, _⟩ :: _) _ _ _; first | refine lssT rfl rfl omD ?_ | refine leqF rfl rfl omD ?_ | refine add rfl rfl inL ?_) | (show SH _ _ _ _ _ (⟨_, .load _ _, _, _, _, _⟩ :: _) _ _ _; first | refine lbx rfl spL (by rfl) ?_ | refine lrf rfl (fun _ _ => rdL) (by rfl) omL (by rfl) ?_) | refine ix rfl rfl (by with_reducible rfl) (fun _ _ => rdL) (by rfl) omL omL ?_ | refine slen rfl ?_ | refine pkf rfl tbL evL ?_ | refine fad rfl ?_) | refine s_nil ?_ | refine kh_normal ?_ | refine bh_normal ?_))
              exact ⟨agL, (i + 1, o), hsL, enL, ⟨hil, best_skip hb he⟩, by show _ - (i + 1) < _ - i; omega⟩
          · have hie : i = L.length := by omega
            subst hie
            cases o with
            | none =>
              simp only [optI]
              obtain ⟨hM, hL2⟩ := going_end hG hb
              clear hG hb hRL
              rw [hE] at hM
              rw [hL] at hL2
              subst hM hL2
              (repeat' (first | (show VH _ _ _ _ _ _ _; first | refine v_seq ?_ | refine r_seq ?_ | refine v_exit ?_ | refine v_cond_t rfl tbL ?_ | refine v_cond_f rfl tbL ?_) | (show SH _ _ _ _ _ (_ :: _) _ _ _; first | refine mov evL ?_ | (show SH _ _ _ _ _ (⟨_, .binOp _ _ _ _ _, _, _, _, _⟩ :: _) _ _ _; first | refine lssT rfl rfl omD ?_ | refine lssF rfl rfl omD ?_) | refine lbx rfl spL (by rfl) ?_ | refine slen rfl ?_ | refine fad rfl ?_ | refine stb rfl rfl evL spL rfl rfl (by first | decide | exact Nat.zero_lt_succ _ | exact of_decide_eq_true rfl) kpL ?_) | refine s_nil ?_ | refine kh_normal ?_ | refine kh_exit ?_ | refine bh_exit ?_))
              refine bsl (l := ([] : List Lot)) rfl rfl Vals.nil rfl rfl (by decide) (fun b7 => ?_)
              (repeat' ((show SH _ _ _ _ _ (_ :: _) _ _ _; first | refine lbx rfl spL (by rfl) ?_ | refine fad rfl ?_)))
              refine app (l := ([] : List Lot)) (l2 := L) rfl rfl rfl spL (fun w hw => rdL) rfl rfl rfl (by simp only [List.length_nil]; omega) (by simp only [List.length_nil]; omega) (fun A2 c2 => ⟨trivial, ?_⟩)
              (repeat' (first | (show VH _ _ _ _ _ _ _; first | refine v_seq ?_ | refine r_seq ?_ | refine v_ret ?_) | (show SH _ _ _ _ _ (_ :: _) _ _ _; first | refine mov evL ?_ | refine asg evL ?_ | refine lba rfl spL (by rfl) ?_ | refine fad rfl ?_ | refine stb rfl rfl evL spL rfl rfl (by first | decide | exact Nat.zero_lt_succ _ | exact of_decide_eq_true rfl) kpL ?_ | refine sta rfl rfl rfl spL (by rfl) (by rfl) (by rfl) kpL ?_) | refine s_nil ?_ | refine kh_normal ?_ | refine kh_ret ?_ | refine bh_ret ?_))
              exact rhC3 rfl rfl rfl rfl rfl (fun w hw => loadVar_bx hw spL (by rfl)) ⟨A2, c2, B, d, rfl, rfl⟩ enL
            | some a =>
              simp only [optI]
              have hF := best_done hb
              have hal := hF.lt
              have hGn := going_next hG hF
              have hX := hRL _ (lot_mem hal)
              have hle := List.length_eraseIdx_of_lt hal
              clear hb hF hG hRL
              (repeat' ((fail_if_success (show VH _ _ (.seq (.seq (.region 17 _ _) _) _) _ _ _ _)); first | (show VH _ _ _ _ _ _ _; first | refine v_seq ?_ | refine r_seq ?_ | refine v_skip ?_ | refine v_exit ?_ | refine v_cond_f rfl tbL ?_) | (show SH _ _ _ _ _ (_ :: _) _ _ _; first | refine mov evL ?_ | refine lssF rfl rfl omD ?_ | (show SH _ _ _ _ _ (⟨_, .load _ _, _, _, _, _⟩ :: _) _ _ _; first | refine lbx rfl spL (by rfl) ?_ | refine lra rfl (fun _ _ => rdL) (by rfl) omL ?_) | refine ix rfl rfl (by with_reducible rfl) (fun _ _ => rdL) (by rfl) omL omL ?_ | refine slen rfl ?_ | refine fad rfl ?_ | refine ala rfl (fun b => ?_) | refine sta rfl rfl rfl spL (by rfl) (by rfl) (by rfl) kpL ?_) | refine s_nil ?_ | refine kh_normal ?_ | refine kh_exit ?_ | refine bh_exit ?_))
              have hxs : 1 ≤ (L.getD a Flat.dflt).leader ∧ (L.getD a Flat.dflt).price ≤ (L.getD a Flat.dflt).most ∧ 0 ≤ (L.getD a Flat.dflt).price ∧ (L.getD a Flat.dflt).most ≤ 2147483647 ∨ (L.getD a Flat.dflt).leader = 0 := by
                have := hX.led
                have := hX.reserve
                omega
              clear hX
              generalize L.getD a Flat.dflt = x at hGn hxs ⊢
              refine v_seq ?_
              refine v_cut [(7, 7), (79, 125)] (fun y : Option Addr × Nat => [(7, .slice y.1 (M ++ endMovesR x).length y.2)]) (fun y => [bx bh 53 [.int .i64 tk, .int .i64 last, .slice A1 L.length c1], bx bz 53 [.int .i64 0, .int .i64 0, .slice none 0 0], orow 100 y.1 y.2 (M ++ endMovesR x)]) (fun _ => True) ?_ ?_ ent_vh
              · clear hGn hws
                rcases hxs with ⟨x1, x2, x3, x4⟩ | x1
                · by_cases hmp : x.price < x.most
                  · have hm : M ++ endMovesR x = ((M ++ [⟨0, x.seller, 0, x.price⟩]) ++ [⟨0, x.leader, 0, x.most - x.price⟩]) ++ [⟨0, x.leader, x.item, x.count⟩] := by
                      rw [endMovesR, if_neg (by omega), if_pos hmp]; simp
                    rw [hm]
                    (repeat' (first | (show VH _ _ _ _ _ _ _; first | refine v_seq ?_ | refine r_seq ?_ | refine v_cond_f rfl tbL ?_) | (show SH _ _ _ _ _ (_ :: _) _ _ _; first | refine mov evL ?_ | refine eqlF rfl rfl omD ?_ | refine lbx rfl spL (by rfl) ?_ | refine fad rfl ?_ | refine bld rfl rfl ?_) | refine s_nil ?_ | refine kh_normal ?_))
                    refine bsl (l := [(⟨0, x.seller, 0, x.price⟩ : Mv)]) rfl rfl (Vals.cons rfl Vals.nil) rfl rfl (by decide) (fun b8 => ?_)
                    refine app (l := M) (l2 := [(⟨0, x.seller, 0, x.price⟩ : Mv)]) rfl rfl rfl spL (fun w hw => hw.rd spL) rfl rfl rfl (by simp only [List.length_cons, List.length_nil]; omega) (by simp only [List.length_cons, List.length_nil]; omega) (fun B2 d2 => ⟨trivial, ?_⟩)
                    (repeat' (first | (show VH _ _ _ _ _ _ _; first | refine v_seq ?_ | refine r_seq ?_ | refine v_cond_t rfl tbL ?_) | (show SH _ _ _ _ _ (_ :: _) _ _ _; first | refine mov evL ?_ | refine asg evL ?_ | (show SH _ _ _ _ _ (⟨_, .binOp _ _ _ _ _, _, _, _, _⟩ :: _) _ _ _; first | refine gtrT rfl rfl omD ?_ | refine sub rfl rfl inL ?_) | refine lbx rfl spL (by rfl) ?_ | refine fad rfl ?_ | refine bld rfl rfl ?_) | refine s_nil ?_ | refine kh_normal ?_))
                    refine bsl (l := [(⟨0, x.leader, 0, x.most - x.price⟩ : Mv)]) rfl rfl (Vals.cons rfl Vals.nil) rfl rfl (by decide) (fun b8 => ?_)
                    refine app (l := M ++ [⟨0, x.seller, 0, x.price⟩]) (l2 := [(⟨0, x.leader, 0, x.most - x.price⟩ : Mv)]) rfl rfl rfl spL (fun w hw => hw.rd spL) rfl (by simp only [List.length_append, List.length_cons, List.length_nil]) rfl (by simp only [List.length_append, List.length_cons, List.length_nil]; omega) (by simp only [List.length_append, List.length_cons, List.length_nil]; omega) (fun B3 d3 => ⟨trivial, ?_⟩)
                    (repeat' (first | refine r_seq ?_ | (show SH _ _ _ _ _ (_ :: _) _ _ _; first | refine mov evL ?_ | refine asg evL ?_ | refine lbx rfl spL (by rfl) ?_ | refine fad rfl ?_ | refine bld rfl rfl ?_) | refine s_nil ?_ | refine kh_normal ?_))
                    refine bsl (l := [(⟨0, x.leader, x.item, x.count⟩ : Mv)]) rfl rfl (Vals.cons rfl Vals.nil) rfl rfl (by decide) (fun b8 => ?_)
                    refine app (l := (M ++ [⟨0, x.seller, 0, x.price⟩]) ++ [⟨0, x.leader, 0, x.most - x.price⟩]) (l2 := [(⟨0, x.leader, x.item, x.count⟩ : Mv)]) rfl rfl rfl spL (fun w hw => hw.rd spL) rfl (by simp only [List.length_append, List.length_cons, List.length_nil]) rfl (by simp only [List.length_append, List.length_cons, List.length_nil]; omega) (by simp only [List.length_append, List.length_cons, List.length_nil]; omega) (fun B4 d4 => ⟨trivial, ?_⟩)
                    (repeat' (first | refine asg evL ?_ | refine s_nil ?_ | refine kh_normal ?_))
                    exact ⟨agL, (B4, d4), by simp only [List.length_append, List.length_cons, List.length_nil]; (repeat (first | exact trivial | refine And.intro rfl ?_)), enL, trivial⟩
                  · have hm : M ++ endMovesR x = (M ++ [⟨0, x.seller, 0, x.price⟩]) ++ [⟨0, x.leader, x.item, x.count⟩] := by
                      rw [endMovesR, if_neg (by omega), if_neg hmp]; simp
                    rw [hm]
                    (repeat' (first | (show VH _ _ _ _ _ _ _; first | refine v_seq ?_ | refine r_seq ?_ | refine v_cond_f rfl tbL ?_) | (show SH _ _ _ _ _ (_ :: _) _ _ _; first | refine mov evL ?_ | refine eqlF rfl rfl omD ?_ | refine lbx rfl spL (by rfl) ?_ | refine fad rfl ?_ | refine bld rfl rfl ?_) | refine s_nil ?_ | refine kh_normal ?_))
                    refine bsl (l := [(⟨0, x.seller, 0, x.price⟩ : Mv)]) rfl rfl (Vals.cons rfl Vals.nil) rfl rfl (by decide) (fun b8 => ?_)
                    refine app (l := M) (l2 := [(⟨0, x.seller, 0, x.price⟩ : Mv)]) rfl rfl rfl spL (fun w hw => hw.rd spL) rfl rfl rfl (by simp only [List.length_cons, List.length_nil]; omega) (by simp only [List.length_cons, List.length_nil]; omega) (fun B2 d2 => ⟨trivial, ?_⟩)
                    (repeat' (first | (show VH _ _ _ _ _ _ _; first | refine v_seq ?_ | refine r_seq ?_ | refine v_skip ?_ | refine v_cond_f rfl tbL ?_) | (show SH _ _ _ _ _ (_ :: _) _ _ _; first | refine mov evL ?_ | refine asg evL ?_ | refine gtrF rfl rfl omD ?_ | refine lbx rfl spL (by rfl) ?_ | refine fad rfl ?_ | refine bld rfl rfl ?_) | refine s_nil ?_ | refine kh_normal ?_))
                    refine bsl (l := [(⟨0, x.leader, x.item, x.count⟩ : Mv)]) rfl rfl (Vals.cons rfl Vals.nil) rfl rfl (by decide) (fun b8 => ?_)
                    refine app (l := M ++ [⟨0, x.seller, 0, x.price⟩]) (l2 := [(⟨0, x.leader, x.item, x.count⟩ : Mv)]) rfl rfl rfl spL (fun w hw => hw.rd spL) rfl (by simp only [List.length_append, List.length_cons, List.length_nil]) rfl (by simp only [List.length_append, List.length_cons, List.length_nil]; omega) (by simp only [List.length_append, List.length_cons, List.length_nil]; omega) (fun B4 d4 => ⟨trivial, ?_⟩)
                    (repeat' (first | refine asg evL ?_ | refine s_nil ?_ | refine kh_normal ?_))
                    exact ⟨agL, (B4, d4), by simp only [List.length_append, List.length_cons, List.length_nil]; (repeat (first | exact trivial | refine And.intro rfl ?_)), enL, trivial⟩
                · have hm : M ++ endMovesR x = M ++ [⟨0, x.seller, x.item, x.count⟩] := by
                    rw [endMovesR, if_pos x1]
                  rw [hm]
                  (repeat' (first | (show VH _ _ _ _ _ _ _; first | refine v_seq ?_ | refine r_seq ?_ | refine v_cond_t rfl tbL ?_) | (show SH _ _ _ _ _ (_ :: _) _ _ _; first | refine mov evL ?_ | refine eqlT rfl rfl omD ?_ | refine lbx rfl spL (by rfl) ?_ | refine fad rfl ?_ | refine bld rfl rfl ?_) | refine s_nil ?_ | refine kh_normal ?_))
                  refine bsl (l := [(⟨0, x.seller, x.item, x.count⟩ : Mv)]) rfl rfl (Vals.cons rfl Vals.nil) rfl rfl (by decide) (fun b8 => ?_)
                  refine app (l := M) (l2 := [(⟨0, x.seller, x.item, x.count⟩ : Mv)]) rfl rfl rfl spL (fun w hw => hw.rd spL) rfl rfl rfl (by simp only [List.length_cons, List.length_nil]; omega) (by simp only [List.length_cons, List.length_nil]; omega) (fun B4 d4 => ⟨trivial, ?_⟩)
                  (repeat' (first | refine asg evL ?_ | refine s_nil ?_ | refine kh_normal ?_))
                  exact ⟨agL, (B4, d4), by simp only [List.length_append, List.length_cons, List.length_nil]; (repeat (first | exact trivial | refine And.intro rfl ?_)), enL, trivial⟩
              rintro ⟨B4, d4⟩ g3 _ _ rfl
              simp only [sets]
              have hws' := fun w hr => hws A1 c1 ⟨tk, last, L⟩ a hal w (by show L.length ≤ _; omega) hc1 hr
              simp only at hws'
              clear hws hxs
              (repeat' (first | refine r_seq ?_ | (show SH _ _ _ _ _ (_ :: _) _ _ _; first | refine mov evL ?_ | refine lba rfl spL (by rfl) ?_ | (show SH _ _ _ _ _ (⟨_, .call ⟨.value (.func 71), _, _⟩, _, _, _, _⟩ :: _) _ _ _; refine cp (callee := .func 71) rfl (fun w hw => hws' _ rdL) rfl rfl ?_))))
              rintro _ _ ⟨A2, c2, rfl, rfl⟩
              (repeat' (first | refine sta rfl rfl rfl spL (by rfl) (by rfl) (by rfl) kpL ?_ | refine s_nil ?_ | refine kh_normal ?_ | refine bh_normal ?_))
              exact ⟨agL, ((L.eraseIdx a, A2, c2, true), M ++ endMovesR x, B4, d4), hsL, by simp only [if_true]; exact enL, ⟨hGn, fun e => by cases e⟩, by show (L.eraseIdx a).length < L.length; omega⟩
        simp only [if_true]
        refine v_cap (A := A1) (cp := c1) (e := 61) (l := L) spL fun hc1 => ?_
        clear hr hc hreads
        (repeat' (first | (show VH _ _ _ _ _ _ _; first | refine v_seq ?_ | refine r_seq ?_ | refine v_block ?_) | refine asg evL ?_ | refine s_nil ?_ | refine kh_normal ?_))
        refine v_loop0 [(8,9),(28,62)] (fun y : Nat × Option Nat => [(9, .int .i64 y.1), (8, .int .i64 (optI y.2))]) (fun y => y.1 ≤ L.length ∧ Best tick L y.1 y.2) (fun y => L.length - y.1) (0, none) hsL ⟨Nat.zero_le _, fun j hj => by omega⟩ ?_
        rintro ⟨i, o⟩ g2 ⟨hi, hb⟩
        simp only [sets]
        simp only at hi hb
        by_cases hil : i < L.length
        · by_cases he : (L.getD i Flat.dflt).till ≤ tick
          · cases o with
            | none =>
              simp only [optI]
              (repeat' (first | (show VH _ _ _ _ _ _ _; first | refine v_seq ?_ | refine r_seq ?_ | refine r_quiet hmix (by kernel_rfl) ?_ | refine v_block ?_ | refine v_skip ?_ | refine v_cond_t rfl tbL ?_) | (show SH _ _ _ _ _ (_ :: _) _ _ _; first | (refine gif rfl rfl ?_; first | refine giTT tbL ?_ | refine giFT tbL ?_) | refine mov evL ?_ | refine asg evL ?_ | (show SH _ _ _ _ _ (⟨_, .binOp _ _ _ _ _, _, _, _, _⟩ :: _) _ _ _; first | refine lssT rfl rfl omD ?_ | refine leqT rfl rfl omD ?_ | refine add rfl rfl inL ?_) | (show SH _ _ _ _ _ (⟨_, .load _ _, _, _, _, _⟩ :: _) _ _ _; first | refine lbx rfl spL (by rfl) ?_ | refine lrf rfl (fun _ _ => rdL) (by rfl) omL (by rfl) ?_) | refine ix rfl rfl (by with_reducible rfl) (fun _ _ => rdL) (by rfl) omL omL ?_ | refine slen rfl ?_ | refine pkt rfl tbL evL ?_ | refine fad rfl ?_) | refine s_nil ?_ | refine kh_normal ?_ | refine bh_normal ?_))
              exact ⟨agL, (i + 1, some i), hsL, enL, ⟨hil, best_first hb he⟩, by show _ - (i + 1) < _ - i; omega⟩
            | some a =>
              simp only [optI]
              have hai := hb.1
              by_cases hlt : (L.getD i Flat.dflt).till < (L.getD a Flat.dflt).till
              · (repeat' (first | (show VH _ _ _ _ _ _ _; first | refine v_seq ?_ | refine r_seq ?_ | refine r_quiet hmix (by kernel_rfl) ?_ | refine v_block ?_ | refine v_skip ?_ | refine v_cond_t rfl tbL ?_) | (show SH _ _ _ _ _ (_ :: _) _ _ _; first | (refine gif rfl rfl ?_; first | refine giTT tbL ?_ | refine giFF tbL ?_) | refine mov evL ?_ | refine asg evL ?_ | (show SH _ _ _ _ _ (⟨_, .binOp _ _ _ _ _, _, _, _, _⟩ :: _) _ _ _; first | refine lssT rfl rfl omD ?_ | refine lssF rfl rfl omD ?_ | refine leqT rfl rfl omD ?_ | refine add rfl rfl inL ?_) | (show SH _ _ _ _ _ (⟨_, .load _ _, _, _, _, _⟩ :: _) _ _ _; first | refine lbx rfl spL (by rfl) ?_ | refine lrf rfl (fun _ _ => rdL) (by rfl) omL (by rfl) ?_) | refine ix rfl rfl (by with_reducible rfl) (fun _ _ => rdL) (by rfl) omL omL ?_ | refine slen rfl ?_ | refine pkt rfl tbL evL ?_ | refine pkf rfl tbL evL ?_ | refine fad rfl ?_) | refine s_nil ?_ | refine kh_normal ?_ | refine bh_normal ?_))
                exact ⟨agL, (i + 1, some i), hsL, enL, ⟨hil, best_less hb he hlt⟩, by show _ - (i + 1) < _ - i; omega⟩
              · (repeat' (first | (show VH _ _ _ _ _ _ _; first | refine v_seq ?_ | refine r_seq ?_ | refine r_quiet hmix (by kernel_rfl) ?_ | refine v_block ?_ | refine v_skip ?_ | refine v_cond_t rfl tbL ?_ | refine v_cond_f rfl tbL ?_) | (show SH _ _ _ _ _ (_ :: _) _ _ _; first | (refine gif rfl rfl ?_; first | refine giTT tbL ?_ | refine giFF tbL ?_) | refine mov evL ?_ | refine asg evL ?_ | (show SH _ _ _ _ _ (⟨_, .binOp _ _ _ _ _, _, _, _, _⟩ :: _) _ _ _; first | refine lssT rfl rfl omD ?_ | refine lssF rfl rfl omD ?_ | refine leqT rfl rfl omD ?_ | refine add rfl rfl inL ?_) | (show SH _ _ _ _ _ (⟨_, .load _ _, _, _, _, _⟩ :: _) _ _ _; first | refine lbx rfl spL (by rfl) ?_ | refine lrf rfl (fun _ _ => rdL) (by rfl) omL (by rfl) ?_) | refine ix rfl rfl (by with_reducible rfl) (fun _ _ => rdL) (by rfl) omL omL ?_ | refine slen rfl ?_ | refine pkt rfl tbL evL ?_ | refine pkf rfl tbL evL ?_ | refine fad rfl ?_) | refine s_nil ?_ | refine kh_normal ?_ | refine bh_normal ?_))
                exact ⟨agL, (i + 1, some a), hsL, enL, ⟨hil, best_more hb hlt⟩, by show _ - (i + 1) < _ - i; omega⟩
          · (repeat' (first | (show VH _ _ _ _ _ _ _; first | refine v_seq ?_ | refine r_seq ?_ | refine r_quiet hmix (by kernel_rfl) ?_ | refine v_block ?_ | refine v_skip ?_ | refine v_cond_t rfl tbL ?_ | refine v_cond_f rfl tbL ?_) | (show SH _ _ _ _ _ (_ :: _) _ _ _; first | (show SH _ _ _ _ _ (⟨_, _, _, _, _, some _⟩ :: _) _ _ _; first | (refine gif rfl rfl ?_; refine giTF tbL ?_) | refine gu rfl rfl ?_) | refine mov evL ?_ | refine asg evL ?_ | (show SH _ _ _ _ _ (⟨_, .binOp _ _ _ _ _, _, _, _, _⟩ :: _) _ _ _; first | refine lssT rfl rfl omD ?_ | refine leqF rfl rfl omD ?_ | refine add rfl rfl inL ?_) | (show SH _ _ _ _ _ (⟨_, .load _ _, _, _, _, _⟩ :: _) _ _ _; first | refine lbx rfl spL (by rfl) ?_ | refine lrf rfl (fun _ _ => rdL) (by rfl) omL (by rfl) ?_) | refine ix rfl rfl (by with_reducible rfl) (fun _ _ => rdL) (by rfl) omL omL ?_ | refine slen rfl ?_ | refine pkf rfl tbL evL ?_ | refine fad rfl ?_) | refine s_nil ?_ | refine kh_normal ?_ | refine bh_normal ?_))
            exact ⟨agL, (i + 1, o), hsL, enL, ⟨hil, best_skip hb he⟩, by show _ - (i + 1) < _ - i; omega⟩
        · have hie : i = L.length := by omega
          subst hie
          cases o with
          | none =>
            simp only [optI]
            obtain ⟨hM, hL2⟩ := going_end hG hb
            clear hG hb hRL
            rw [hE] at hM
            rw [hL] at hL2
            subst hM hL2
            (repeat' (first | (show VH _ _ _ _ _ _ _; first | refine v_seq ?_ | refine r_seq ?_ | refine v_exit ?_ | refine v_cond_t rfl tbL ?_ | refine v_cond_f rfl tbL ?_) | (show SH _ _ _ _ _ (_ :: _) _ _ _; first | refine mov evL ?_ | (show SH _ _ _ _ _ (⟨_, .binOp _ _ _ _ _, _, _, _, _⟩ :: _) _ _ _; first | refine lssT rfl rfl omD ?_ | refine lssF rfl rfl omD ?_) | refine lbx rfl spL (by rfl) ?_ | refine slen rfl ?_ | refine fad rfl ?_ | refine stb rfl rfl evL spL rfl rfl (by first | decide | exact Nat.zero_lt_succ _ | exact of_decide_eq_true rfl) kpL ?_) | refine s_nil ?_ | refine kh_normal ?_ | refine kh_exit ?_ | refine bh_exit ?_))
            refine bsl (l := ([] : List Lot)) rfl rfl Vals.nil rfl rfl (by decide) (fun b7 => ?_)
            (repeat' ((show SH _ _ _ _ _ (_ :: _) _ _ _; first | refine lbx rfl spL (by rfl) ?_ | refine fad rfl ?_)))
            refine app (l := ([] : List Lot)) (l2 := L) rfl rfl rfl spL (fun w hw => rdL) rfl rfl rfl (by simp only [List.length_nil]; omega) (by simp only [List.length_nil]; omega) (fun A2 c2 => ⟨trivial, ?_⟩)
            (repeat' (first | (show VH _ _ _ _ _ _ _; first | refine v_seq ?_ | refine r_seq ?_ | refine v_ret ?_) | (show SH _ _ _ _ _ (_ :: _) _ _ _; first | refine mov evL ?_ | refine asg evL ?_ | refine lba rfl spL (by rfl) ?_ | refine fad rfl ?_ | refine stb rfl rfl evL spL rfl rfl (by first | decide | exact Nat.zero_lt_succ _ | exact of_decide_eq_true rfl) kpL ?_ | refine sta rfl rfl rfl spL (by rfl) (by rfl) (by rfl) kpL ?_) | refine s_nil ?_ | refine kh_normal ?_ | refine kh_ret ?_ | refine bh_ret ?_))
            exact rhC3 rfl rfl rfl rfl rfl (fun w hw => loadVar_bx hw spL (by rfl)) ⟨A2, c2, B, d, rfl, rfl⟩ enL
          | some a =>
            simp only [optI]
            have hF := best_done hb
            have hal := hF.lt
            have hGn := going_next hG hF
            have hX := hRL _ (lot_mem hal)
            have hle := List.length_eraseIdx_of_lt hal
            clear hb hF hG hRL
            (repeat' ((fail_if_success (show VH _ _ (.seq (.seq (.region 17 _ _) _) _) _ _ _ _)); first | (show VH _ _ _ _ _ _ _; first | refine v_seq ?_ | refine r_seq ?_ | refine v_skip ?_ | refine v_exit ?_ | refine v_cond_f rfl tbL ?_) | (show SH _ _ _ _ _ (_ :: _) _ _ _; first | refine mov evL ?_ | refine lssF rfl rfl omD ?_ | (show SH _ _ _ _ _ (⟨_, .load _ _, _, _, _, _⟩ :: _) _ _ _; first | refine lbx rfl spL (by rfl) ?_ | refine lra rfl (fun _ _ => rdL) (by rfl) omL ?_) | refine ix rfl rfl (by with_reducible rfl) (fun _ _ => rdL) (by rfl) omL omL ?_ | refine slen rfl ?_ | refine fad rfl ?_ | refine ala rfl (fun b => ?_) | refine sta rfl rfl rfl spL (by rfl) (by rfl) (by rfl) kpL ?_) | refine s_nil ?_ | refine kh_normal ?_ | refine kh_exit ?_ | refine bh_exit ?_))
            have hxs : 1 ≤ (L.getD a Flat.dflt).leader ∧ (L.getD a Flat.dflt).price ≤ (L.getD a Flat.dflt).most ∧ 0 ≤ (L.getD a Flat.dflt).price ∧ (L.getD a Flat.dflt).most ≤ 2147483647 ∨ (L.getD a Flat.dflt).leader = 0 := by
              have := hX.led
              have := hX.reserve
              omega
            clear hX
            generalize L.getD a Flat.dflt = x at hGn hxs ⊢
            refine v_seq ?_
            refine v_cut [(7, 7), (79, 125)] (fun y : Option Addr × Nat => [(7, .slice y.1 (M ++ endMovesR x).length y.2)]) (fun y => [bx bh 53 [.int .i64 tk, .int .i64 last, .slice A1 L.length c1], bx bz 53 [.int .i64 0, .int .i64 0, .slice none 0 0], orow 100 y.1 y.2 (M ++ endMovesR x), orow 61 A1 c1 L]) (fun _ => True) ?_ ?_ ent_vh
            · clear hGn hws
              rcases hxs with ⟨x1, x2, x3, x4⟩ | x1
              · by_cases hmp : x.price < x.most
                · have hm : M ++ endMovesR x = ((M ++ [⟨0, x.seller, 0, x.price⟩]) ++ [⟨0, x.leader, 0, x.most - x.price⟩]) ++ [⟨0, x.leader, x.item, x.count⟩] := by
                    rw [endMovesR, if_neg (by omega), if_pos hmp]; simp
                  rw [hm]
                  (repeat' (first | (show VH _ _ _ _ _ _ _; first | refine v_seq ?_ | refine r_seq ?_ | refine v_cond_f rfl tbL ?_) | (show SH _ _ _ _ _ (_ :: _) _ _ _; first | refine mov evL ?_ | refine eqlF rfl rfl omD ?_ | refine lbx rfl spL (by rfl) ?_ | refine fad rfl ?_ | refine bld rfl rfl ?_) | refine s_nil ?_ | refine kh_normal ?_))
                  refine bsl (l := [(⟨0, x.seller, 0, x.price⟩ : Mv)]) rfl rfl (Vals.cons rfl Vals.nil) rfl rfl (by decide) (fun b8 => ?_)
                  refine app (l := M) (l2 := [(⟨0, x.seller, 0, x.price⟩ : Mv)]) rfl rfl rfl spL (fun w hw => hw.rd spL) rfl rfl rfl (by simp only [List.length_cons, List.length_nil]; omega) (by simp only [List.length_cons, List.length_nil]; omega) (fun B2 d2 => ⟨trivial, ?_⟩)
                  (repeat' (first | (show VH _ _ _ _ _ _ _; first | refine v_seq ?_ | refine r_seq ?_ | refine v_cond_t rfl tbL ?_) | (show SH _ _ _ _ _ (_ :: _) _ _ _; first | refine mov evL ?_ | refine asg evL ?_ | (show SH _ _ _ _ _ (⟨_, .binOp _ _ _ _ _, _, _, _, _⟩ :: _) _ _ _; first | refine gtrT rfl rfl omD ?_ | refine sub rfl rfl inL ?_) | refine lbx rfl spL (by rfl) ?_ | refine fad rfl ?_ | refine bld rfl rfl ?_) | refine s_nil ?_ | refine kh_normal ?_))
                  refine bsl (l := [(⟨0, x.leader, 0, x.most - x.price⟩ : Mv)]) rfl rfl (Vals.cons rfl Vals.nil) rfl rfl (by decide) (fun b8 => ?_)
                  refine app (l := M ++ [⟨0, x.seller, 0, x.price⟩]) (l2 := [(⟨0, x.leader, 0, x.most - x.price⟩ : Mv)]) rfl rfl rfl spL (fun w hw => hw.rd spL) rfl (by simp only [List.length_append, List.length_cons, List.length_nil]) rfl (by simp only [List.length_append, List.length_cons, List.length_nil]; omega) (by simp only [List.length_append, List.length_cons, List.length_nil]; omega) (fun B3 d3 => ⟨trivial, ?_⟩)
                  (repeat' (first | refine r_seq ?_ | (show SH _ _ _ _ _ (_ :: _) _ _ _; first | refine mov evL ?_ | refine asg evL ?_ | refine lbx rfl spL (by rfl) ?_ | refine fad rfl ?_ | refine bld rfl rfl ?_) | refine s_nil ?_ | refine kh_normal ?_))
                  refine bsl (l := [(⟨0, x.leader, x.item, x.count⟩ : Mv)]) rfl rfl (Vals.cons rfl Vals.nil) rfl rfl (by decide) (fun b8 => ?_)
                  refine app (l := (M ++ [⟨0, x.seller, 0, x.price⟩]) ++ [⟨0, x.leader, 0, x.most - x.price⟩]) (l2 := [(⟨0, x.leader, x.item, x.count⟩ : Mv)]) rfl rfl rfl spL (fun w hw => hw.rd spL) rfl (by simp only [List.length_append, List.length_cons, List.length_nil]) rfl (by simp only [List.length_append, List.length_cons, List.length_nil]; omega) (by simp only [List.length_append, List.length_cons, List.length_nil]; omega) (fun B4 d4 => ⟨trivial, ?_⟩)
                  (repeat' (first | refine asg evL ?_ | refine s_nil ?_ | refine kh_normal ?_))
                  exact ⟨agL, (B4, d4), by simp only [List.length_append, List.length_cons, List.length_nil]; (repeat (first | exact trivial | refine And.intro rfl ?_)), enL, trivial⟩
                · have hm : M ++ endMovesR x = (M ++ [⟨0, x.seller, 0, x.price⟩]) ++ [⟨0, x.leader, x.item, x.count⟩] := by
                    rw [endMovesR, if_neg (by omega), if_neg hmp]; simp
                  rw [hm]
                  (repeat' (first | (show VH _ _ _ _ _ _ _; first | refine v_seq ?_ | refine r_seq ?_ | refine v_cond_f rfl tbL ?_) | (show SH _ _ _ _ _ (_ :: _) _ _ _; first | refine mov evL ?_ | refine eqlF rfl rfl omD ?_ | refine lbx rfl spL (by rfl) ?_ | refine fad rfl ?_ | refine bld rfl rfl ?_) | refine s_nil ?_ | refine kh_normal ?_))
                  refine bsl (l := [(⟨0, x.seller, 0, x.price⟩ : Mv)]) rfl rfl (Vals.cons rfl Vals.nil) rfl rfl (by decide) (fun b8 => ?_)
                  refine app (l := M) (l2 := [(⟨0, x.seller, 0, x.price⟩ : Mv)]) rfl rfl rfl spL (fun w hw => hw.rd spL) rfl rfl rfl (by simp only [List.length_cons, List.length_nil]; omega) (by simp only [List.length_cons, List.length_nil]; omega) (fun B2 d2 => ⟨trivial, ?_⟩)
                  (repeat' (first | (show VH _ _ _ _ _ _ _; first | refine v_seq ?_ | refine r_seq ?_ | refine v_skip ?_ | refine v_cond_f rfl tbL ?_) | (show SH _ _ _ _ _ (_ :: _) _ _ _; first | refine mov evL ?_ | refine asg evL ?_ | refine gtrF rfl rfl omD ?_ | refine lbx rfl spL (by rfl) ?_ | refine fad rfl ?_ | refine bld rfl rfl ?_) | refine s_nil ?_ | refine kh_normal ?_))
                  refine bsl (l := [(⟨0, x.leader, x.item, x.count⟩ : Mv)]) rfl rfl (Vals.cons rfl Vals.nil) rfl rfl (by decide) (fun b8 => ?_)
                  refine app (l := M ++ [⟨0, x.seller, 0, x.price⟩]) (l2 := [(⟨0, x.leader, x.item, x.count⟩ : Mv)]) rfl rfl rfl spL (fun w hw => hw.rd spL) rfl (by simp only [List.length_append, List.length_cons, List.length_nil]) rfl (by simp only [List.length_append, List.length_cons, List.length_nil]; omega) (by simp only [List.length_append, List.length_cons, List.length_nil]; omega) (fun B4 d4 => ⟨trivial, ?_⟩)
                  (repeat' (first | refine asg evL ?_ | refine s_nil ?_ | refine kh_normal ?_))
                  exact ⟨agL, (B4, d4), by simp only [List.length_append, List.length_cons, List.length_nil]; (repeat (first | exact trivial | refine And.intro rfl ?_)), enL, trivial⟩
              · have hm : M ++ endMovesR x = M ++ [⟨0, x.seller, x.item, x.count⟩] := by
                  rw [endMovesR, if_pos x1]
                rw [hm]
                (repeat' (first | (show VH _ _ _ _ _ _ _; first | refine v_seq ?_ | refine r_seq ?_ | refine v_cond_t rfl tbL ?_) | (show SH _ _ _ _ _ (_ :: _) _ _ _; first | refine mov evL ?_ | refine eqlT rfl rfl omD ?_ | refine lbx rfl spL (by rfl) ?_ | refine fad rfl ?_ | refine bld rfl rfl ?_) | refine s_nil ?_ | refine kh_normal ?_))
                refine bsl (l := [(⟨0, x.seller, x.item, x.count⟩ : Mv)]) rfl rfl (Vals.cons rfl Vals.nil) rfl rfl (by decide) (fun b8 => ?_)
                refine app (l := M) (l2 := [(⟨0, x.seller, x.item, x.count⟩ : Mv)]) rfl rfl rfl spL (fun w hw => hw.rd spL) rfl rfl rfl (by simp only [List.length_cons, List.length_nil]; omega) (by simp only [List.length_cons, List.length_nil]; omega) (fun B4 d4 => ⟨trivial, ?_⟩)
                (repeat' (first | refine asg evL ?_ | refine s_nil ?_ | refine kh_normal ?_))
                exact ⟨agL, (B4, d4), by simp only [List.length_append, List.length_cons, List.length_nil]; (repeat (first | exact trivial | refine And.intro rfl ?_)), enL, trivial⟩
            rintro ⟨B4, d4⟩ g3 _ _ rfl
            simp only [sets]
            have hws' := fun w hr => hws A1 c1 ⟨tk, last, L⟩ a hal w (by show L.length ≤ _; omega) hc1 hr
            simp only at hws'
            clear hws hxs
            (repeat' (first | refine r_seq ?_ | (show SH _ _ _ _ _ (_ :: _) _ _ _; first | refine mov evL ?_ | refine lba rfl spL (by rfl) ?_ | (show SH _ _ _ _ _ (⟨_, .call ⟨.value (.func 71), _, _⟩, _, _, _, _⟩ :: _) _ _ _; refine cp (callee := .func 71) rfl (fun w hw => hws' _ rdL) rfl rfl ?_))))
            rintro _ _ ⟨A2, c2, rfl, rfl⟩
            (repeat' (first | refine sta rfl rfl rfl spL (by rfl) (by rfl) (by rfl) kpL ?_ | refine s_nil ?_ | refine kh_normal ?_ | refine bh_normal ?_))
            exact ⟨agL, ((L.eraseIdx a, A2, c2, true), M ++ endMovesR x, B4, d4), hsL, by simp only [if_true]; exact enL, ⟨hGn, fun e => by cases e⟩, by show (L.eraseIdx a).length < L.length; omega⟩
end Go.Proofs.Ytehjdbgijibmcaa
