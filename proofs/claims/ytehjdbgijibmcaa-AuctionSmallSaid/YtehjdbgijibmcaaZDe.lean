/- Sorting of lots: merging in general. -/
import Derived.Test.YtehjdbgijibmcaaZDd
set_option linter.unusedSimpArgs false
set_option linter.unusedVariables false
namespace Go.Proofs.Ytehjdbgijibmcaa
open Go.Fw Go.RowKit
abbrev SymOK (N : Nat) (g0 : FuncId) : Prop := ∀ (A : Option Addr) (P U V S l : List Lot) (cp a m b k : Nat) (w0 : World) (H : List HP) (w : World), U.length + V.length ≤ N → l = P ++ U ++ V ++ S → k = l.length → l.length ≤ 1000000 → a = P.length → m = P.length + U.length → b = P.length + U.length + V.length →
    1 ≤ U.length → 1 ≤ V.length → SrtK Lot.till U → SrtK Lot.till V → Wd w0 (orow 38 A cp l :: H) w →
    Ret Try.prog 73 [.slice A k cp, .int .i64 a, .int .i64 m, .int .i64 b, .func (.func g0) #[] #[]].toArray w (RP w0 fun _ H' => H' = orow 38 A cp (P ++ merK Lot.till U V ++ S) :: H)
theorem mer_empty {U V : List Lot} {s e : Nat} (h : ¬ (0 < s ∧ 0 < e)) : merK Lot.till (U.take s) (V.take e) = U.take s ++ V.take e := by
  by_cases hs : s = 0
  · subst hs; simp [merK_nil1]
  · have : e = 0 := by omega
    subst this; simp [merK_nil]
theorem mer_empty' {U V : List Lot} {s e : Nat} (h : ¬ (s < U.length ∧ e < V.length)) : merK Lot.till (U.drop s) (V.drop e) = U.drop s ++ V.drop e := by
  by_cases hs : s < U.length
  · rw [List.drop_of_length_le (l := V) (by omega)]; simp [merK_nil]
  · rw [List.drop_of_length_le (l := U) (by omega)]; simp [merK_nil1]
set_option maxHeartbeats 2000000 in
set_option maxRecDepth 100000 in
theorem sym3_spec (N : Nat) (A : Option Addr) (P U V S l : List Lot) (cp a m b k : Nat) (g0 : FuncId) (hC : CmpT g0) (ih : SymOK N g0) (w0 : World) (H : List HP) (w : World) (hN : U.length + V.length ≤ N + 1) (hlP : l = P ++ U ++ V ++ S) (hk : k = l.length) (hl : l.length ≤ 1000000) (ha : a = P.length) (hm : m = P.length + U.length) (hb : b = P.length + U.length + V.length)
    (hU2 : 2 ≤ U.length) (hV2 : 2 ≤ V.length) (hU : SrtK Lot.till U) (hV : SrtK Lot.till V) (hw : Wd w0 (orow 38 A cp l :: H) w) :
    Ret Try.prog 73 [.slice A k cp, .int .i64 a, .int .i64 m, .int .i64 b, .func (.func g0) #[] #[]].toArray w (RP w0 fun _ H' => H' = orow 38 A cp (P ++ merK Lot.till U V ++ S) :: H) := by
  subst hk
  have hlen : l.length = P.length + U.length + V.length + S.length := by rw [hlP]; simp only [List.length_append]
  have hal : a ≤ l.length := by omega
  have hml : m < l.length := by omega
  have hbl : b ≤ l.length := by omega
  obtain ⟨M, hM⟩ : ∃ M : Nat, (a + b) / 2 = M := ⟨_, rfl⟩
  have hMa : a + 2 ≤ M := by omega
  have hMb : M + 2 ≤ b := by omega
  have eM : ((a : Int) + (b : Int)) / 2 = (M : Int) := by omega
  have hgu : ∀ q, q < U.length → l.getD (a + q) Flat.dflt = U.getD q Flat.dflt := fun q hq => by rw [hlP, ha]; exact seg_get1 _ P U V S hq
  have hgv : ∀ q, q < V.length → l.getD (m + q) Flat.dflt = V.getD q Flat.dflt := fun q hq => by rw [hlP, hm]; exact seg_get2 _ P U V S hq
  refine enterH Try.func73 rfl rfl Try.ntmps73 rfl (by assumption) ?_
  (repeat' ((fail_if_success (show VH _ _ (.seq (.seq (.region 27 _ _) _) _) _ _ _ _)); first | (show VH _ _ _ _ _ _ _; first | refine v_seq ?_ | refine r_seq ?_ | refine v_skip ?_ | refine v_cond_f rfl tbL ?_) | (show SH _ _ _ _ _ (_ :: _) _ _ _; first | refine mov evL ?_ | refine asg evL ?_ | (show SH _ _ _ _ _ (⟨_, .binOp _ _ _ _ _, _, _, _, _⟩ :: _) _ _ _; first | refine add rfl rfl inL ?_ | refine sub rfl rfl inL ?_ | refine eql rfl rfl ?_ | refine sh1 rfl rfl ?_) | refine c64 rfl inL ?_ | refine cu64 rfl omL omL ?_) | refine s_nil ?_ | refine kh_normal ?_))
  rw [eM]
  refine v_seq ?_
  refine v_cut0 [(20, 21), (138, 146)] (fun y : Nat × Nat => [(20, .int .i64 y.1), (21, .int .i64 y.2)]) (fun y => (y.1 = a ∨ y.1 + b = M + m) ∧ a ≤ y.1 ∧ M + m ≤ y.1 + b ∧ y.1 ≤ y.2 ∧ (y.2 = M ∨ y.2 = m) ∧ y.2 ≤ M ∧ y.2 ≤ m) ?_ ?_ ent_vh
  · (repeat' (first | (show VH _ _ _ _ _ _ _; first | refine v_seq ?_ | refine r_seq ?_ | refine v_cond_dec rfl (fun h => ?_) (fun h => ?_)) | (show SH _ _ _ _ _ (_ :: _) _ _ _; first | refine mov evL ?_ | refine asg evL ?_ | (show SH _ _ _ _ _ (⟨_, .binOp _ _ _ _ _, _, _, _, _⟩ :: _) _ _ _; first | refine sub rfl rfl inL ?_ | refine gtr rfl rfl ?_)) | refine s_nil ?_ | refine kh_normal ?_))
    · exact ⟨agL, (M + m - b, M), ⟨congrArg (Value.int .i64) (show (M : Int) + (m : Int) - (b : Int) = ((M + m - b : Nat) : Int) by omega), rfl, trivial⟩, enL, ⟨.inr (show M + m - b + b = M + m by omega), show a ≤ M + m - b by omega, show M + m ≤ M + m - b + b by omega, show M + m - b ≤ M by omega, .inl rfl, Nat.le_refl _, show M ≤ m by omega⟩⟩
    · exact ⟨agL, (a, m), ⟨rfl, rfl, trivial⟩, enL, ⟨.inl rfl, Nat.le_refl _, show M + m ≤ a + b by omega, show a ≤ m by omega, .inr rfl, show m ≤ M by omega, Nat.le_refl _⟩⟩
  rintro ⟨s0, r0⟩ g ⟨q1, q2, q3, q4, q5, q6, q7⟩
  simp only at q1 q2 q3 q4 q5 q6 q7
  simp only [sets]
  (repeat' (first | (show VH _ _ _ _ _ _ _; first | refine v_seq ?_ | refine r_seq ?_) | (show SH _ _ _ _ _ (_ :: _) _ _ _; first | refine mov evL ?_ | refine asg evL ?_ | refine sub rfl rfl inL ?_) | refine s_nil ?_ | refine kh_normal ?_))
  refine v_cut0 [(20, 23), (149, 174)] (fun st : Nat => [(20, .int .i64 st)]) (fun st => s0 ≤ st ∧ st ≤ r0 ∧ (st = s0 ∨ ¬ (V.getD (M - st) Flat.dflt).till < (U.getD (st - 1 - a) Flat.dflt).till) ∧ (st = r0 ∨ (V.getD (M - 1 - st) Flat.dflt).till < (U.getD (st - a) Flat.dflt).till)) ?_ ?_ ent_vh
  · (repeat' (refine v_block ?_))
    refine v_loop0 [(20,21),(23,23),(149,174)] (fun y : Nat × Nat => [(20, .int .i64 y.1), (21, .int .i64 y.2)]) (fun y => s0 ≤ y.1 ∧ y.1 ≤ y.2 ∧ y.2 ≤ r0 ∧ (y.1 = s0 ∨ ¬ (V.getD (M - y.1) Flat.dflt).till < (U.getD (y.1 - 1 - a) Flat.dflt).till) ∧ (y.2 = r0 ∨ (V.getD (M - 1 - y.2) Flat.dflt).till < (U.getD (y.2 - a) Flat.dflt).till)) (fun y => y.2 - y.1) (s0, r0) hsL ⟨Nat.le_refl _, q4, Nat.le_refl _, .inl rfl, .inl rfl⟩ ?_
    rintro ⟨st, r⟩ g ⟨h1, h2, h3, h4, h5⟩
    simp only at h1 h2 h3 h4 h5
    simp only [sets]
    by_cases hlt : st < r
    · obtain ⟨c, hc⟩ : ∃ c : Nat, (st + r) / 2 = c := ⟨_, rfl⟩
      have hc1 : st ≤ c := by omega
      have hc2 : c < r := by omega
      have ec : ((st : Int) + (r : Int)) / 2 = (c : Int) := by omega
      have e1 : ((M : Int) + (m : Int) - 1 - (c : Int)).toNat = m + (M - 1 - c) := by omega
      have g1 := hgv (M - 1 - c) (by omega)
      have g2 := hgu (c - a) (by omega)
      rw [show a + (c - a) = c by omega] at g2
      rw [← e1] at g1
      (repeat' (first | (show VH _ _ _ _ _ _ _; first | refine v_seq ?_ | refine r_seq ?_ | refine v_block ?_ | refine v_skip ?_ | refine v_cond_t rfl tbL ?_) | (show SH _ _ _ _ _ (_ :: _) _ _ _; first | refine mov evL ?_ | refine asg evL ?_ | (show SH _ _ _ _ _ (⟨_, .binOp _ _ _ _ _, _, _, _, _⟩ :: _) _ _ _; first | refine add rfl rfl inL ?_ | refine lss rfl rfl ?_ | refine sh1 rfl rfl ?_) | refine c64 rfl inL ?_ | refine cu64 rfl omL omL ?_) | refine s_nil ?_ | refine kh_normal ?_))
      rw [ec]
      refine r_quiet hmix (by kernel_rfl) ?_
      (repeat' (first | (show VH _ _ _ _ _ _ _; first | refine r_seq ?_ | refine v_cond_ndec rfl (fun h => ?_) (fun h => ?_)) | (show SH _ _ _ _ _ (_ :: _) _ _ _; first | refine mov evL ?_ | refine asg evL ?_ | (show SH _ _ _ _ _ (⟨_, .binOp _ _ _ _ _, _, _, _, _⟩ :: _) _ _ _; first | refine add rfl rfl inL ?_ | refine sub rfl rfl inL ?_ | refine lss rfl rfl ?_) | refine lra rfl (fun _ _ => rdL) (by rfl) omL ?_ | (show SH _ _ _ _ _ (⟨_, .indexAddr _ _ _, _, _, _, _⟩ :: _) _ _ _; first | refine ix rfl rfl (by with_reducible rfl) (fun _ _ => rdL) (by rfl) omL omL ?_ | refine ixi rfl rfl (fun _ _ => rdL) (by rfl) omL omL omL ?_) | (show SH _ _ _ _ _ (⟨_, .call ⟨.value (.tmp _), _, _⟩, _, _, _, _⟩ :: _) _ _ _; refine cl (callee := .tmp _) rfl (fun w hw => hC w _ _) rfl rfl ?_) | refine bnot rfl ?_) | refine s_nil ?_ | refine kh_normal ?_ | refine bh_normal ?_))
      · rw [cmp3_neg, g1, g2] at h
        exact ⟨agL, (c + 1, r), ⟨congrArg (Value.int .i64) (by simp only []; omega), rfl, trivial⟩, enL, ⟨by show s0 ≤ c + 1; omega, by show c + 1 ≤ r; omega, h3, .inr (by show ¬ (V.getD (M - (c + 1)) _).till < (U.getD (c + 1 - 1 - a) _).till; rw [show M - (c + 1) = M - 1 - c by omega, show c + 1 - 1 - a = c - a by omega]; exact h), h5⟩, by show r - (c + 1) < r - st; omega⟩
      · rw [cmp3_neg, g1, g2] at h
        exact ⟨agL, (st, c), ⟨rfl, rfl, trivial⟩, enL, ⟨h1, hc1, by show c ≤ r0; omega, h4, .inr h⟩, by show c - st < r - st; omega⟩
    · have : st = r := by omega
      subst this
      (repeat' (first | (show VH _ _ _ _ _ _ _; first | refine v_seq ?_ | refine r_seq ?_ | refine v_exit ?_ | refine v_cond_f rfl tbL ?_) | (show SH _ _ _ _ _ (_ :: _) _ _ _; first | refine mov evL ?_ | refine lss rfl rfl ?_) | refine s_nil ?_ | refine kh_normal ?_ | refine kh_exit ?_ | refine bh_exit ?_))
      exact ⟨agL, st, ⟨rfl, trivial⟩, enL, ⟨h1, h3, h4, h5⟩⟩
  rintro st g ⟨h1, h3, h4, h5⟩
  simp only [sets]
  obtain ⟨sU, hsU⟩ : ∃ sU, sU = st - a := ⟨_, rfl⟩
  obtain ⟨eV, heV⟩ : ∃ eV, eV = M - st := ⟨_, rfl⟩
  have hsl : sU ≤ U.length := by omega
  have hel : eV ≤ V.length := by omega
  have hsplit := sym_split (Flat.dflt : Lot) hU hV hsl hel
    (by
      rcases h4 with h | h
      · rcases q1 with q | q
        · exact .inl (by omega)
        · exact .inr (.inl (by omega))
      · refine .inr (.inr ?_)
        rw [heV, show sU - 1 = st - 1 - a by omega]; exact h)
    (by
      rcases h5 with h | h
      · rcases q5 with q | q
        · exact .inr (.inl (by omega))
        · exact .inl (by omega)
      · refine .inr (.inr ?_)
        rw [hsU, show eV - 1 = M - 1 - st by omega]; exact h)
  have hU1 : (U.take sU).length = sU := by rw [List.length_take]; omega
  have hU3 : (U.drop sU).length = U.length - sU := List.length_drop ..
  have hV1 : (V.take eV).length = eV := by rw [List.length_take]; omega
  have hV3 : (V.drop eV).length = V.length - eV := List.length_drop ..
  have hUs := List.take_append_drop sU U
  have hVs := List.take_append_drop eV V
  have een : (M : Int) + (m : Int) - (st : Int) = ((m + eV : Nat) : Int) := by omega
  (repeat' ((fail_if_success (show VH _ _ (.seq (.seq (.region 39 _ _) _) _) _ _ _ _)); first | (show VH _ _ _ _ _ _ _; first | refine v_seq ?_ | refine r_seq ?_) | (show SH _ _ _ _ _ (_ :: _) _ _ _; first | refine mov evL ?_ | refine asg evL ?_ | refine sub rfl rfl inL ?_) | refine s_nil ?_ | refine kh_normal ?_))
  rw [een]
  refine v_seq ?_
  refine v_cut [(178, 191)] (fun _ : Unit => []) (fun _ => orow 38 A cp (P ++ U.take sU ++ V.take eV ++ U.drop sU ++ V.drop eV ++ S) :: H) (fun _ => True) ?_ ?_ ent_vh
  · by_cases hrot : st < m ∧ 0 < eV
    · obtain ⟨r1, r2⟩ := hrot
      have hlR : l = P ++ U.take sU ++ U.drop sU ++ V.take eV ++ (V.drop eV ++ S) := by
        rw [hlP]
        conv => lhs; rw [← hUs, ← hVs]
        simp only [List.append_assoc]
      have hR1 : st = (P ++ U.take sU).length := by rw [List.length_append, hU1]; omega
      have hR2 : m = (P ++ U.take sU).length + (U.drop sU).length := by rw [List.length_append, hU1, hU3]; omega
      have hR3 : m + eV = (P ++ U.take sU).length + (U.drop sU).length + (V.take eV).length := by rw [List.length_append, hU1, hU3, hV1]; omega
      (repeat' (first | (show VH _ _ _ _ _ _ _; first | refine v_seq ?_ | refine r_seq ?_ | refine v_cond_t rfl tbL ?_) | (show SH _ _ _ _ _ (_ :: _) _ _ _; first | (refine gif rfl rfl ?_; refine giTT tbL ?_) | refine mov evL ?_ | refine lss rfl rfl ?_ | refine pkt rfl tbL evL ?_) | refine s_nil ?_ | refine kh_normal ?_))
      refine cm rfl (fun w hw => rotate_spec A (P ++ U.take sU) (U.drop sU) (V.take eV) (V.drop eV ++ S) l cp st (m + eV) m l.length _ w0 _ w hlR rfl hl hR1 hR2 hR3 (by rw [hU3]; omega) (by rw [hV1]; exact r2) hw) rfl rfl ?_
      rintro _ _ rfl
      refine ⟨trivial, ?_⟩
      (repeat' (first | refine s_nil ?_ | refine kh_normal ?_))
      refine ⟨agL, (), trivial, ?_, trivial⟩
      simp only [List.append_assoc]
      exact ent_refl _
    · have : P ++ U.take sU ++ V.take eV ++ U.drop sU ++ V.drop eV ++ S = l := by
        rw [hlP]
        conv => rhs; rw [← hUs, ← hVs]
        by_cases h : st < m
        · have : eV = 0 := by omega
          subst this
          simp only [List.take_zero, List.append_nil, List.nil_append, List.append_assoc]
        · rw [show U.drop sU = [] from List.drop_of_length_le (by omega)]
          simp only [List.append_nil, List.append_assoc]
      (repeat' (first | (show VH _ _ _ _ _ _ _; first | refine v_seq ?_ | refine r_seq ?_ | refine v_skip ?_ | refine v_cond_f rfl tbL ?_) | (show SH _ _ _ _ _ (_ :: _) _ _ _; first | (refine gif rfl rfl ?_; first | refine giTT tbL ?_ | refine giTF tbL ?_ | refine giTd (fun h => ?_) (fun h => ?_)) | refine mov evL ?_ | refine lss rfl rfl ?_ | refine pkt rfl tbL evL ?_ | refine pkf rfl tbL evL ?_) | refine s_nil ?_ | refine kh_normal ?_))
      all_goals first
        | exact ⟨agL, (), trivial, by rw [this]; exact ent_refl _, trivial⟩
        | (exfalso; omega)
  rintro _ g _ _ rfl
  simp only [sets]
  have hM1 : M = P.length + sU + eV := by omega
  have hLl : (P ++ U.take sU ++ V.take eV ++ (U.drop sU ++ V.drop eV ++ S)).length = l.length := by
    simp only [List.length_append, hU1, hU3, hV1, hV3]; omega
  have hrow : P ++ U.take sU ++ V.take eV ++ U.drop sU ++ V.drop eV ++ S = P ++ U.take sU ++ V.take eV ++ (U.drop sU ++ V.drop eV ++ S) := by simp only [List.append_assoc]
  rw [hrow]
  (repeat' ((fail_if_success (show VH _ _ (.seq (.seq (.region 41 _ _) _) _) _ _ _ _)); fail))
  refine v_seq ?_
  refine v_cut [(192, 205)] (fun _ : Unit => []) (fun _ => orow 38 A cp (P ++ merK Lot.till (U.take sU) (V.take eV) ++ (U.drop sU ++ V.drop eV ++ S)) :: H) (fun _ => True) ?_ ?_ ent_vh
  · by_cases hmg : 0 < sU ∧ 0 < eV
    · obtain ⟨r1, r2⟩ := hmg
      have hs1 : st = P.length + (U.take sU).length := by rw [hU1]; omega
      have hs2 : M = P.length + (U.take sU).length + (V.take eV).length := by rw [hU1, hV1]; omega
      have hs3 : (U.take sU).length + (V.take eV).length ≤ N := by rw [hU1, hV1]; omega
      (repeat' (first | (show VH _ _ _ _ _ _ _; first | refine v_seq ?_ | refine r_seq ?_ | refine v_cond_t rfl tbL ?_) | (show SH _ _ _ _ _ (_ :: _) _ _ _; first | (refine gif rfl rfl ?_; refine giTT tbL ?_) | refine mov evL ?_ | refine lss rfl rfl ?_ | refine pkt rfl tbL evL ?_) | refine s_nil ?_ | refine kh_normal ?_))
      refine cm rfl (fun w hw => ih A P (U.take sU) (V.take eV) (U.drop sU ++ V.drop eV ++ S) _ cp a st M l.length w0 _ w hs3 rfl hLl.symm (by rw [hLl]; exact hl) ha hs1 hs2 (by rw [hU1]; exact r1) (by rw [hV1]; exact r2) (srt_take hU _) (srt_take hV _) hw) rfl rfl ?_
      rintro _ _ rfl
      refine ⟨trivial, ?_⟩
      (repeat' (first | refine s_nil ?_ | refine kh_normal ?_))
      exact ⟨agL, (), trivial, ent_refl _, trivial⟩
    · rw [mer_empty hmg, ← List.append_assoc P]
      (repeat' (first | (show VH _ _ _ _ _ _ _; first | refine v_seq ?_ | refine r_seq ?_ | refine v_skip ?_ | refine v_cond_f rfl tbL ?_) | (show SH _ _ _ _ _ (_ :: _) _ _ _; first | (refine gif rfl rfl ?_; first | refine giTT tbL ?_ | refine giTF tbL ?_ | refine giTd (fun h => ?_) (fun h => ?_)) | refine mov evL ?_ | refine lss rfl rfl ?_ | refine pkt rfl tbL evL ?_ | refine pkf rfl tbL evL ?_) | refine s_nil ?_ | refine kh_normal ?_))
      all_goals first
        | exact ⟨agL, (), trivial, ent_refl _, trivial⟩
        | (exfalso; omega)
  rintro _ g _ _ rfl
  simp only [sets]
  have hMl : (merK Lot.till (U.take sU) (V.take eV)).length = sU + eV := by rw [merK_len, hU1, hV1]
  have hLl2 : (P ++ merK Lot.till (U.take sU) (V.take eV) ++ U.drop sU ++ V.drop eV ++ S).length = l.length := by
    simp only [List.length_append, hMl, hU3, hV3]; omega
  have hrow2 : P ++ merK Lot.till (U.take sU) (V.take eV) ++ (U.drop sU ++ V.drop eV ++ S) = (P ++ merK Lot.till (U.take sU) (V.take eV)) ++ U.drop sU ++ V.drop eV ++ S := by simp only [List.append_assoc]
  have hfin : P ++ merK Lot.till (U.take sU) (V.take eV) ++ merK Lot.till (U.drop sU) (V.drop eV) ++ S = P ++ merK Lot.till U V ++ S := by rw [hsplit]; simp only [List.append_assoc]
  rw [hrow2]
  by_cases hmg : sU < U.length ∧ eV < V.length
  · obtain ⟨r1, r2⟩ := hmg
    have hs1 : M = (P ++ merK Lot.till (U.take sU) (V.take eV)).length := by rw [List.length_append, hMl]; omega
    have hs2 : m + eV = (P ++ merK Lot.till (U.take sU) (V.take eV)).length + (U.drop sU).length := by rw [List.length_append, hMl, hU3]; omega
    have hs3 : b = (P ++ merK Lot.till (U.take sU) (V.take eV)).length + (U.drop sU).length + (V.drop eV).length := by rw [List.length_append, hMl, hU3, hV3]; omega
    have hs4 : (U.drop sU).length + (V.drop eV).length ≤ N := by rw [hU3, hV3]; omega
    (repeat' (first | (show VH _ _ _ _ _ _ _; first | refine v_seq ?_ | refine r_seq ?_ | refine v_cond_t rfl tbL ?_) | (show SH _ _ _ _ _ (_ :: _) _ _ _; first | (refine gif rfl rfl ?_; refine giTT tbL ?_) | refine mov evL ?_ | refine lss rfl rfl ?_ | refine pkt rfl tbL evL ?_) | refine s_nil ?_ | refine kh_normal ?_))
    refine cm rfl (fun w hw => ih A (P ++ merK Lot.till (U.take sU) (V.take eV)) (U.drop sU) (V.drop eV) S _ cp M (m + eV) b l.length w0 _ w hs4 rfl hLl2.symm (by rw [hLl2]; exact hl) hs1 hs2 hs3 (by rw [hU3]; omega) (by rw [hV3]; omega) (srt_drop hU _) (srt_drop hV _) hw) rfl rfl ?_
    rintro _ _ rfl
    refine ⟨trivial, ?_⟩
    (repeat' (refine s_nil ?_))
    rw [hfin]
    exact rh0n rfl rfl (ent_refl _)
  · rw [mer_empty' hmg, ← List.append_assoc (P ++ merK Lot.till (U.take sU) (V.take eV))] at hfin
    rw [hfin]
    (repeat' (first | (show VH _ _ _ _ _ _ _; first | refine v_seq ?_ | refine r_seq ?_ | refine v_skip ?_ | refine v_cond_f rfl tbL ?_) | (show SH _ _ _ _ _ (_ :: _) _ _ _; first | (refine gif rfl rfl ?_; first | refine giTT tbL ?_ | refine giTF tbL ?_ | refine giTd (fun h => ?_) (fun h => ?_)) | refine mov evL ?_ | refine lss rfl rfl ?_ | refine pkt rfl tbL evL ?_ | refine pkf rfl tbL evL ?_) | refine s_nil ?_ | refine kh_normal ?_))
    all_goals first
      | exact rh0n rfl rfl (ent_refl _)
      | (exfalso; omega)
theorem symOK (g0 : FuncId) (hC : CmpT g0) : ∀ N, SymOK N g0
  | 0 => fun A P U V S l cp a m b k w0 H w hN hlP hk hl ha hm hb hU1 => by omega
  | N + 1 => fun A P U V S l cp a m b k w0 H w hN hlP hk hl ha hm hb hU1 hV1 hU hV hw => by
    by_cases hu : U.length = 1
    · obtain ⟨x, rfl⟩ := List.length_eq_one_iff.1 hu
      exact sym1_spec A P V S l x cp a m b k g0 hC w0 H w hlP hk hl ha (by simpa using hm) (by simpa using hb) hV hw
    · by_cases hv : V.length = 1
      · obtain ⟨x, rfl⟩ := List.length_eq_one_iff.1 hv
        exact sym2_spec A P U S l x cp a m b k g0 hC w0 H w hlP hk hl ha hm (by simpa using hb) (by omega) hU hw
      · exact sym3_spec N A P U V S l cp a m b k g0 hC (symOK g0 hC N) w0 H w hN hlP hk hl ha hm hb (by omega) (by omega) hU hV hw
end Go.Proofs.Ytehjdbgijibmcaa
