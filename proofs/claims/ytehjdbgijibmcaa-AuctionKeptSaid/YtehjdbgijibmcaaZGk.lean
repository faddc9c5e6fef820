/- The law's function AuctionKept answers true. -/
import Derived.Test.YtehjdbgijibmcaaZGkk
import Derived.Test.YtehjdbgijibmcaaZGa
import Derived.Test.YtehjdbgijibmcaaZGe
import Derived.Test.YtehjdbgijibmcaaZGg
import Derived.Test.YtehjdbgijibmcaaZVa
set_option linter.unusedSimpArgs false
set_option linter.unusedVariables false
namespace Go.Proofs.Ytehjdbgijibmcaa
open Go.Fw Go.RowKit
set_option maxHeartbeats 8000000 in
set_option maxRecDepth 100000 in
theorem keptLaw (A : Option Addr) (c0 : Nat) (h : House) (A1 : Option Addr) (c1 : Nat) (l : List Do6) (w : World) (hr : Rd w A h.lots) (hr1 : Rd w A1 l) (hbf : ∀ x ∈ l, x.fits) : Ret Try.prog 9 [hv A c0 h, .slice A1 l.length c1].toArray w (Out w (.bool true)) := by
  by_cases h40 : 40 < h.lots.length
  · obtain ⟨tick, last, lots⟩ := h
    unfold hv
    simp only at h40 hr ⊢
    refine enterH Try.func9 rfl rfl Try.ntmps9 rfl (Wd.refl _) ?_
    (repeat' (first | (show VH _ _ _ _ _ _ _; first | refine v_seq ?_ | refine r_seq ?_ | refine v_ret ?_ | refine v_skip ?_ | refine v_cond_t rfl tbL ?_ | refine v_cond_f rfl tbL ?_) | (show SH _ _ _ _ _ (_ :: _) _ _ _; first | (refine gif rfl rfl ?_; refine giFT tbL ?_) | refine mov evL ?_ | refine asg evL ?_ | refine gtrT rfl rfl omD ?_ | refine lbx rfl spL (by rfl) ?_ | refine slen rfl ?_ | (show SH _ _ _ _ _ (⟨_, .call ⟨.value (.func 12), _, _⟩, _, _, _, _⟩ :: _) _ _ _; refine cl (callee := .func 12) rfl (fun w hw => awake_spec w) rfl rfl ?_) | refine bnoT rfl ?_ | refine pkt rfl tbL evL ?_ | refine fad rfl ?_ | refine bxx rfl evL rfl (fun b => ?_)) | refine s_nil ?_ | refine kh_normal ?_ | refine kh_ret ?_))
    exact rh1 rfl rfl ⟨rfl, rfl⟩ (ent_nil _)
  by_cases h80 : 80 < l.length
  · obtain ⟨tick, last, lots⟩ := h
    unfold hv
    simp only at h40 hr ⊢
    refine enterH Try.func9 rfl rfl Try.ntmps9 rfl (Wd.refl _) ?_
    (repeat' (first | (show VH _ _ _ _ _ _ _; first | refine v_seq ?_ | refine r_seq ?_ | refine v_ret ?_ | refine v_skip ?_ | refine v_cond_t rfl tbL ?_ | refine v_cond_f rfl tbL ?_) | (show SH _ _ _ _ _ (_ :: _) _ _ _; first | (refine gif rfl rfl ?_; first | refine giFF tbL ?_ | refine giFT tbL ?_) | refine mov evL ?_ | refine asg evL ?_ | (show SH _ _ _ _ _ (⟨_, .binOp _ _ _ _ _, _, _, _, _⟩ :: _) _ _ _; first | refine gtrT rfl rfl omD ?_ | refine gtrF rfl rfl omD ?_) | refine lbx rfl spL (by rfl) ?_ | refine slen rfl ?_ | (show SH _ _ _ _ _ (⟨_, .call ⟨.value (.func 12), _, _⟩, _, _, _, _⟩ :: _) _ _ _; refine cl (callee := .func 12) rfl (fun w hw => awake_spec w) rfl rfl ?_) | refine bnoT rfl ?_ | refine pkt rfl tbL evL ?_ | refine pkf rfl tbL evL ?_ | refine fad rfl ?_ | refine bxx rfl evL rfl (fun b => ?_)) | refine s_nil ?_ | refine kh_normal ?_ | refine kh_ret ?_))
    exact rh1 rfl rfl ⟨rfl, rfl⟩ (ent_nil _)
  have hvs := fun w hr => valid_spec A c0 h w (by omega) hr
  cases hval : validH h with
  | false =>
    rw [hval] at hvs
    obtain ⟨tick, last, lots⟩ := h
    unfold hv at hvs ⊢
    simp only at h40 hr hvs ⊢
    refine enterH Try.func9 rfl rfl Try.ntmps9 rfl (Wd.refl _) ?_
    (repeat' (first | (show VH _ _ _ _ _ _ _; first | refine v_seq ?_ | refine r_seq ?_ | refine v_ret ?_ | refine v_skip ?_ | refine v_cond_t rfl tbL ?_ | refine v_cond_f rfl tbL ?_) | (show SH _ _ _ _ _ (_ :: _) _ _ _; first | (refine gif rfl rfl ?_; refine giFF tbL ?_) | refine mov evL ?_ | refine asg evL ?_ | refine gtrF rfl rfl omD ?_ | (show SH _ _ _ _ _ (⟨_, .load _ _, _, _, _, _⟩ :: _) _ _ _; first | refine lbx rfl spL (by rfl) ?_ | refine lba rfl spL (by rfl) ?_) | refine slen rfl ?_ | (show SH _ _ _ _ _ (⟨_, .call ⟨.value (.func 12), _, _⟩, _, _, _, _⟩ :: _) _ _ _; refine cl (callee := .func 12) rfl (fun w hw => awake_spec w) rfl rfl ?_) | (show SH _ _ _ _ _ (⟨_, .call ⟨.value (.func 18), _, _⟩, _, _, _, _⟩ :: _) _ _ _; refine cl (callee := .func 18) rfl (fun w hw => hvs _ (hr.ext hw.ext)) rfl rfl ?_) | refine bnoT rfl ?_ | refine bnoF rfl ?_ | refine pkf rfl tbL evL ?_ | refine fad rfl ?_ | refine bxx rfl evL rfl (fun b => ?_)) | refine s_nil ?_ | refine kh_normal ?_ | refine kh_ret ?_))
    exact rh1 rfl rfl ⟨rfl, rfl⟩ (ent_nil _)
  | true =>
    rw [hval] at hvs
    have hV0 := valid_iff.1 hval
    have hS := fun A1 c1 w hr => sameH_spec A1 none c1 0 house0 house0 w hr (Rd.nil _ none) (by simp [house0])
    rw [decide_eq_true rfl] at hS
    unfold hv house0 at hS
    refine enterH Try.func9 rfl rfl Try.ntmps9 rfl (Wd.refl _) ?_
    have hh : hv A c0 h = .agg #[.int .i64 h.tick, .int .i64 h.last, .slice A h.lots.length c0] := rfl
    rw [hh] at hvs ⊢
    (repeat' (first | (show VH _ _ _ _ _ _ _; first | refine v_seq ?_ | refine r_seq ?_ | refine v_block ?_ | refine v_skip ?_ | refine v_cond_f rfl tbL ?_) | (show SH _ _ _ _ _ (_ :: _) _ _ _; first | (refine gif rfl rfl ?_; refine giFF tbL ?_) | refine mov evL ?_ | refine asg evL ?_ | refine gtrF rfl rfl omD ?_ | (show SH _ _ _ _ _ (⟨_, .load _ _, _, _, _, _⟩ :: _) _ _ _; first | refine lbx rfl spL (by rfl) ?_ | refine lba rfl spL (by rfl) ?_) | refine slen rfl ?_ | (show SH _ _ _ _ _ (⟨_, .call ⟨.value (.func 12), _, _⟩, _, _, _, _⟩ :: _) _ _ _; refine cl (callee := .func 12) rfl (fun w hw => awake_spec w) rfl rfl ?_) | (show SH _ _ _ _ _ (⟨_, .call ⟨.value (.func 18), _, _⟩, _, _, _, _⟩ :: _) _ _ _; refine cl (callee := .func 18) rfl (fun w hw => hvs _ (hr.ext hw.ext)) rfl rfl ?_) | refine bnoT rfl ?_ | refine pkf rfl tbL evL ?_ | refine fad rfl ?_ | refine bxx rfl evL rfl (fun b => ?_)) | refine s_nil ?_ | refine kh_normal ?_))
    obtain ⟨bh, hbh⟩ : ∃ bh, bh = b := ⟨b, rfl⟩
    subst hbh
    refine v_norm [(1,_),(2,_),(5,_)] heL (fun g => ?_)
    clear hvs hval hh
    refine v_loop [(4,18),(35,165)] (fun y : Nat × House × Option Addr × Nat × Bool => [(5, .int .i64 y.1)]) (fun y => bx bh 26 [.int .i64 y.2.1.tick, .int .i64 y.2.1.last, .slice y.2.2.1 y.2.1.lots.length y.2.2.2.1] :: (if y.2.2.2.2 then [orow 38 y.2.2.1 y.2.2.2.1 y.2.1.lots] else []))
      (fun y => y.1 ≤ l.length ∧ Valid y.2.1 ∧ (y.2.2.2.2 = false → y.2.2.1 = A ∧ y.2.1.lots = h.lots)) (fun y => l.length - y.1) (0, h, A, c0, false) hsL enL ⟨Nat.zero_le _, hV0, fun _ => ⟨rfl, rfl⟩⟩ ?_
    rintro ⟨k, Hc, A2, c2, own⟩ g ⟨hk, hV, ho⟩
    simp only [sets]
    simp only at hk hV ho
    obtain ⟨T, hT⟩ : ∃ T, (if own then [orow 38 A2 c2 Hc.lots] else []) = T := ⟨_, rfl⟩
    have hrd : ∀ w', Wd w T w' → Rd w' A2 Hc.lots := by
      intro w' hw'
      rw [← hT] at hw'
      cases own with
      | true => exact Wd.rd hw' spL
      | false =>
        obtain ⟨rfl, e⟩ := ho rfl
        rw [e]
        exact hr.ext hw'.ext
    show VH _ _ _ _ _ _ (_ :: (if own then _ else _))
    rw [hT]
    have hlen := hV.len
    have htk := hV.tick
    have hls := hV.last
    by_cases hkl : k < l.length
    · have hO := fun w hr => one_spec A2 c2 Hc (l.getD k Flat.dflt) w (by omega) hr
      have hH1 := fun w hr => holds_spec A2 c2 Hc w (by omega) hr
      rw [valid_iff.2 hV] at hH1
      have hhl := holds_len Hc
      have hhs := fun k hk => holds_sum hV k hk
      have hhb := fun k => sumK_bound hV k
      by_cases he : (oneH Hc (l.getD k Flat.dflt)).2.2 = 0
      · obtain ⟨hK, hsm⟩ := oneH_kept hV he
        generalize oneH Hc (l.getD k Flat.dflt) = r at he hK hsm hO
        obtain ⟨nx, m, er⟩ := r
        simp only at he hK hsm
        subst he
        have hVn := hK.valid
        have hnl := hVn.len
        have hH2 := fun A c w hr => holds_spec A c nx w (by omega) hr
        rw [valid_iff.2 hVn] at hH2
        have hV2 := fun A c w hr => valid_spec A c nx w (by omega) hr
        rw [valid_iff.2 hVn] at hV2
        have hB := fun B d w hr => balance_spec B m d w hsm.1 (fun x hx => ⟨hK.ok x hx, hsm.2 x hx⟩) hr
        have hbal := bal_fold_len m [0, 0, 0, 0]
        have hbs := fun k => bal_fold m [0, 0, 0, 0] rfl (fun x hx => (hK.ok x hx).item) k
        have hhl2 := holds_len nx
        have hhs2 := fun k hk => holds_sum hVn k hk
        have hhb2 := fun k => sumK_bound hVn k
        have hsum := hK.sum
        have hids := hK.ids
        have hla := hK.last
        have hti := hK.tick
        generalize m.foldl bal4 [0, 0, 0, 0] = bl at hB hbal hbs
        generalize holdsH Hc = h1 at hH1 hhl hhs
        generalize holdsH nx = h2 at hH2 hhl2 hhs2
        have hdif : ∀ i, i < 4 → (-200000000000 ≤ h1.getD i 0 ∧ h1.getD i 0 ≤ 200000000000) ∧ (-200000000000 ≤ h2.getD i 0 ∧ h2.getD i 0 ≤ 200000000000) ∧ h2.getD i 0 - h1.getD i 0 = bl.getD i 0 := fun i hi => by
          have a1 := hhs i hi
          have a2 := hhs2 i hi
          have a3 := hhb i
          have a4 := hhb2 i
          have a5 := hsum i hi
          have a6 := hbs i
          have a7 : ([0, 0, 0, 0] : List Int).getD i 0 = 0 := by rcases i with _ | _ | _ | _ | i <;> simp
          omega
        clear hhs hhs2 hhb hhb2 hsum hbs
        obtain ⟨p0, p1, p2, p3, rfl⟩ := list4 hhl
        obtain ⟨q0, q1, q2, q3, rfl⟩ := list4 hhl2
        obtain ⟨s0, s1, s2, s3, rfl⟩ := list4 hbal
        unfold OutR at hO
        unfold hv at hO hH1 hH2 hV2
        simp only [if_true] at hO hH1 hH2 hV2
        clear hK hsm
        (repeat' ((fail_if_success (show VH _ _ (.seq (.region 8 _ _) _) _ _ _ _)); first | (show VH _ _ _ _ _ _ _; first | refine v_seq ?_ | refine r_seq ?_ | refine v_block ?_ | refine v_skip ?_ | refine v_cond_t rfl tbL ?_) | (show SH _ _ _ _ _ (_ :: _) _ _ _; first | refine mov evL ?_ | refine lssT rfl rfl omD ?_ | refine slen rfl ?_) | refine s_nil ?_ | refine kh_normal ?_))
        refine v_seq ?_
        refine v_cut [(6, 8), (41, 50)] (fun y : Nat × (Option Addr × Nat) × Option Addr × Nat => [(6, .pointer (some ⟨y.1, 0, none⟩)), (7, .slice y.2.2.1 m.length y.2.2.2), (8, .int .i64 0)]) (fun y => bx y.1 26 [.int .i64 nx.tick, .int .i64 nx.last, .slice y.2.1.1 nx.lots.length y.2.1.2] :: orow 38 y.2.1.1 y.2.1.2 nx.lots :: orow 36 y.2.2.1 y.2.2.2 m :: bx bh 26 [.int .i64 Hc.tick, .int .i64 Hc.last, .slice A2 Hc.lots.length c2] :: T) (fun _ => True) ?_ ?_ ent_vh
        · refine r_heldT [bx bh 26 _] (tr [(0, true), (1, true), (2, true), (3, true), (4, true)] (.fork 5 (tr [(6, true), (7, true), (8, true), (9, true), (10, false), (11, false), (12, false), (13, false)] .nil) 10 (tr [(5, false), (6, false), (7, true), (8, true), (9, true), (11, false), (12, false), (13, false)] .nil))) hmix (by kernel_rfl) enL ?_
          (repeat' ((show SH _ _ _ _ _ (_ :: _) _ _ _; first | refine mov evL ?_ | (show SH _ _ _ _ _ (⟨_, .load _ _, _, _, _, _⟩ :: _) _ _ _; first | refine lba rfl spL (by rfl) ?_ | refine lra rfl (fun _ _ => rdL) (by rfl) omL ?_) | refine ix rfl rfl (by with_reducible rfl) (fun _ _ => rdL) (by rfl) omL omL ?_)))
          repeat' (first
            | (refine s_fork ?_ ?_ <;> (repeat' (refine ala rfl (fun b => ?_))))
            | (refine cp (callee := .func 27) rfl (fun w hw => hO w (hrd w (Ent.wd enL hw))) rfl rfl ?_; rintro _ _ ⟨A4, c4, B4, d4, rfl, rfl⟩; (repeat' (first | (show SH _ _ _ _ _ (_ :: _) _ _ _; first | refine mov evL ?_ | refine asg evL ?_ | refine extr rfl rfl ?_ | refine ala rfl (fun b => ?_) | refine sta rfl rfl rfl spL (by rfl) (by rfl) (by rfl) kpL ?_) | refine s_nil ?_ | refine kh_normal ?_))))
          all_goals exact ⟨agL, (_, (A4, c4), B4, d4), hsL, enL, trivial⟩
        rintro ⟨b6, ⟨A4, c4⟩, B4, d4⟩ g2 _ _ rfl
        simp only [sets]
        clear hO
        (repeat' (first | (show VH _ _ _ _ _ _ _; first | refine v_seq ?_ | refine r_seq ?_ | refine v_block ?_ | refine v_skip ?_ | refine v_cond_f rfl tbL ?_) | (show SH _ _ _ _ _ (_ :: _) _ _ _; first | (refine gif rfl rfl ?_; refine giFF tbL ?_) | refine mov evL ?_ | refine asg evL ?_ | (show SH _ _ _ _ _ (⟨_, .binOp _ _ _ _ _, _, _, _, _⟩ :: _) _ _ _; first | refine lssF rfl rfl omD ?_ | refine neqF rfl rfl omD ?_) | (show SH _ _ _ _ _ (⟨_, .load _ _, _, _, _, _⟩ :: _) _ _ _; first | refine lbx rfl spL (by rfl) ?_ | refine lba rfl spL (by rfl) ?_) | (show SH _ _ _ _ _ (⟨_, .call ⟨.value (.func 28), _, _⟩, _, _, _, _⟩ :: _) _ _ _; refine cl (callee := .func 28) rfl (fun w hw => hH1 w (hrd w (Ent.wd enL hw))) rfl rfl ?_) | (show SH _ _ _ _ _ (⟨_, .call ⟨.value (.func 28), _, _⟩, _, _, _, _⟩ :: _) _ _ _; refine cl (callee := .func 28) rfl (fun w hw => hH2 A4 c4 w (hw.rd spL)) rfl rfl ?_) | (show SH _ _ _ _ _ (⟨_, .call ⟨.value (.func 29), _, _⟩, _, _, _, _⟩ :: _) _ _ _; refine cl (callee := .func 29) rfl (fun w hw => hB B4 d4 w (hw.rd spL)) rfl rfl ?_) | (show SH _ _ _ _ _ (⟨_, .call ⟨.value (.func 18), _, _⟩, _, _, _, _⟩ :: _) _ _ _; refine cl (callee := .func 18) rfl (fun w hw => hV2 A4 c4 w (hw.rd spL)) rfl rfl ?_) | refine bnoT rfl ?_ | refine pkf rfl tbL evL ?_ | refine extr rfl rfl ?_ | refine fad rfl ?_ | refine ala rfl (fun b => ?_) | refine sta rfl rfl rfl spL (by rfl) (by rfl) (by rfl) kpL ?_) | refine s_nil ?_ | refine kh_normal ?_))
        refine v_normS [(4,18),(35,165)] _ agL [(5,_),(6,_),(9,_),(11,_),(13,_),(15,_)] heL (fun g => ?_)
        clear hH1 hH2 hV2 hB
        refine v_loop0 [(4,4),(15,15),(106,120)] (fun i : Nat => [(15, .int .i64 i)]) (fun i => i ≤ 4) (fun i => 4 - i) 0 hsL (Nat.zero_le _) ?_
        rintro i g3 hi
        simp only [sets]
        by_cases hi4 : i < 4
        · obtain ⟨d1, d2, d3⟩ := hdif i hi4
          have l1 : i < [p0, p1, p2, p3].length := hi4
          have l2 : i < [q0, q1, q2, q3].length := hi4
          have l3 : i < [s0, s1, s2, s3].length := hi4
          (repeat' (first | (show VH _ _ _ _ _ _ _; first | refine v_seq ?_ | refine r_seq ?_ | refine r_quiet hmix (by kernel_rfl) ?_ | refine v_block ?_ | refine v_skip ?_ | refine v_cond_t rfl tbL ?_ | refine v_cond_f rfl tbL ?_) | (show SH _ _ _ _ _ (_ :: _) _ _ _; first | refine mov evL ?_ | refine asg evL ?_ | (show SH _ _ _ _ _ (⟨_, .binOp _ _ _ _ _, _, _, _, _⟩ :: _) _ _ _; first | refine lssT rfl rfl omD ?_ | refine neqF rfl rfl omD ?_ | refine add rfl rfl inL ?_ | refine sub rfl rfl inL ?_) | refine lbi rfl spL omL ?_ | refine ixb rfl rfl omL ?_) | refine s_nil ?_ | refine kh_normal ?_ | refine bh_normal ?_))
          exact ⟨agL, i + 1, hsL, enL, by show i + 1 ≤ 4; omega, by show 4 - (i + 1) < 4 - i; omega⟩
        clear hdif hhl hhl2 hbal
        (repeat' (first | (show VH _ _ _ _ _ _ _; first | refine v_seq ?_ | refine r_seq ?_ | refine v_block ?_ | refine v_exit ?_ | refine v_cond_f rfl tbL ?_) | (show SH _ _ _ _ _ (_ :: _) _ _ _; first | refine mov evL ?_ | refine asg evL ?_ | refine lssF rfl rfl omD ?_) | refine s_nil ?_ | refine kh_normal ?_ | refine kh_exit ?_ | refine bh_exit ?_))
        refine v_normS [(4,18),(35,165)] _ agL [(5,_),(6,_),(16,_)] heL (fun g => ?_)
        have hrl : own = false → Rd w A2 Hc.lots := fun e => by
          obtain ⟨rfl, e2⟩ := ho e
          rw [e2]; exact hr
        subst hT
        clear ho hrd hV
        cases own
        simp only [if_false, Bool.false_eq_true]
        refine VH.ent (G := [bx b6 26 _, orow 38 A4 c4 nx.lots, bx bh 26 _]) ?_ enL
        have hrl' := hrl rfl
        rotate_left
        simp only [if_true]
        refine VH.ent (G := [bx b6 26 _, orow 38 A4 c4 nx.lots, bx bh 26 _, orow 38 A2 c2 Hc.lots]) ?_ enL
        all_goals
          clear hrl
          refine v_loop0 [(4,4),(16,18),(121,164)] (fun q : Nat => [(16, .int .i64 q)]) (fun q => q ≤ nx.lots.length) (fun q => nx.lots.length - q) 0 hsL (Nat.zero_le _) ?_
          rintro q g4 hq
          simp only [sets]
          by_cases hql : q < nx.lots.length
          · have hid := hids _ (lot_mem hql)
            have hor : (Hc.lots.any fun y => decide (y.id = (nx.lots.getD q Flat.dflt).id)) = true ∨ (nx.lots.getD q Flat.dflt).id = Hc.last + 1 := by
              rcases hid with ⟨y, hy, e⟩ | e
              · exact .inl (List.any_eq_true.2 ⟨y, hy, by simpa using e⟩)
              · exact .inr e
            clear hid
            (repeat' (first | (show VH _ _ _ _ _ _ _; first | refine v_seq ?_ | refine r_seq ?_ | refine v_block ?_ | refine v_skip ?_ | refine v_cond_t rfl tbL ?_) | (show SH _ _ _ _ _ (_ :: _) _ _ _; first | refine mov evL ?_ | refine asg evL ?_ | refine lssT rfl rfl omD ?_ | refine lbx rfl spL (by rfl) ?_ | refine slen rfl ?_ | refine fad rfl ?_) | refine s_nil ?_ | refine kh_normal ?_))
            refine v_normS [(4,4),(16,18),(121,164)] _ agL [(16,_),(17,_),(18,_)] heL (fun g => ?_)
            refine v_loop0 [(17,18),(128,150)] (fun j : Nat => [(18, .int .i64 j), (17, .bool ((Hc.lots.take j).any fun y => decide (y.id = (nx.lots.getD q Flat.dflt).id)))]) (fun j => j ≤ Hc.lots.length) (fun j => Hc.lots.length - j) 0 hsL (Nat.zero_le _) ?_
            rintro j g5 hj
            simp only [sets]
            by_cases hjl : j < Hc.lots.length
            · have hat : ((Hc.lots.take (j + 1)).any fun y => decide (y.id = (nx.lots.getD q Flat.dflt).id)) = (((Hc.lots.take j).any fun y => decide (y.id = (nx.lots.getD q Flat.dflt).id)) || decide ((Hc.lots.getD j Flat.dflt).id = (nx.lots.getD q Flat.dflt).id)) := any_take hjl _
              clear hor
              cases hany : (Hc.lots.take j).any fun y => decide (y.id = (nx.lots.getD q Flat.dflt).id) with
              | true =>
                rw [hany, Bool.true_or] at hat
                (repeat' (first | (show VH _ _ _ _ _ _ _; first | refine v_seq ?_ | refine r_seq ?_ | refine r_quiet hmix (by kernel_rfl) ?_ | refine v_block ?_ | refine v_skip ?_ | refine v_cond_t rfl tbL ?_) | (show SH _ _ _ _ _ (_ :: _) _ _ _; first | (refine gif rfl rfl ?_; refine giFT tbL ?_) | refine mov evL ?_ | refine asg evL ?_ | (show SH _ _ _ _ _ (⟨_, .binOp _ _ _ _ _, _, _, _, _⟩ :: _) _ _ _; first | refine lssT rfl rfl omD ?_ | refine add rfl rfl inL ?_) | refine lbx rfl spL (by rfl) ?_ | refine slen rfl ?_ | refine pkt rfl tbL evL ?_ | refine fad rfl ?_) | refine s_nil ?_ | refine kh_normal ?_ | refine bh_normal ?_))
                exact ⟨agL, j + 1, by rw [hat]; (repeat (first | exact trivial | refine And.intro rfl ?_)), enL, hjl, by show _ - (j + 1) < _ - j; omega⟩
              | false =>
                rw [hany, Bool.false_or] at hat
                (repeat' (first | (show VH _ _ _ _ _ _ _; first | refine v_seq ?_ | refine r_seq ?_ | refine r_quiet hmix (by kernel_rfl) ?_ | refine v_block ?_ | refine v_skip ?_ | refine v_cond_t rfl tbL ?_) | (show SH _ _ _ _ _ (_ :: _) _ _ _; first | (refine gif rfl rfl ?_; refine giFF tbL ?_) | refine mov evL ?_ | refine asg evL ?_ | (show SH _ _ _ _ _ (⟨_, .binOp _ _ _ _ _, _, _, _, _⟩ :: _) _ _ _; first | refine lssT rfl rfl omD ?_ | refine add rfl rfl inL ?_ | refine eql rfl rfl ?_) | (show SH _ _ _ _ _ (⟨_, .load _ _, _, _, _, _⟩ :: _) _ _ _; first | refine lbx rfl spL (by rfl) ?_ | refine lrf rfl (fun _ _ => rdL) (by rfl) omL (by rfl) ?_) | refine ix rfl rfl (by with_reducible rfl) (fun _ _ => rdL) (by rfl) omL omL ?_ | refine slen rfl ?_ | refine pkf rfl tbL evL ?_ | refine fad rfl ?_) | refine s_nil ?_ | refine kh_normal ?_ | refine bh_normal ?_))
                exact ⟨agL, j + 1, by rw [hat]; (repeat (first | exact trivial | refine And.intro rfl ?_)), enL, hjl, by show _ - (j + 1) < _ - j; omega⟩
            · have hje : j = Hc.lots.length := by omega
              subst hje
              rw [List.take_length]
              cases hany : Hc.lots.any fun y => decide (y.id = (nx.lots.getD q Flat.dflt).id) with
              | true =>
                clear hor
                (repeat' (first | (show VH _ _ _ _ _ _ _; first | refine v_seq ?_ | refine r_seq ?_ | refine r_quiet hmix (by kernel_rfl) ?_ | refine v_skip ?_ | refine v_exit ?_ | refine v_cond_f rfl tbL ?_) | (show SH _ _ _ _ _ (_ :: _) _ _ _; first | (refine gif rfl rfl ?_; refine giTF tbL ?_) | refine mov evL ?_ | refine asg evL ?_ | (show SH _ _ _ _ _ (⟨_, .binOp _ _ _ _ _, _, _, _, _⟩ :: _) _ _ _; first | refine lssF rfl rfl omD ?_ | refine add rfl rfl inL ?_) | refine lbx rfl spL (by rfl) ?_ | refine slen rfl ?_ | refine bnoT rfl ?_ | refine pkf rfl tbL evL ?_ | refine fad rfl ?_) | refine s_nil ?_ | refine kh_normal ?_ | refine kh_exit ?_ | refine bh_normal ?_ | refine bh_exit ?_))
                exact ⟨agL, q + 1, hsL, enL, hql, by show _ - (q + 1) < _ - q; omega⟩
              | false =>
                have e := hor.resolve_left (by rw [hany]; simp)
                clear hor
                (repeat' (first | (show VH _ _ _ _ _ _ _; first | refine v_seq ?_ | refine r_seq ?_ | refine r_quiet hmix (by kernel_rfl) ?_ | refine v_skip ?_ | refine v_exit ?_ | refine v_cond_f rfl tbL ?_) | (show SH _ _ _ _ _ (_ :: _) _ _ _; first | (refine gif rfl rfl ?_; refine giTT tbL ?_) | refine mov evL ?_ | refine asg evL ?_ | (show SH _ _ _ _ _ (⟨_, .binOp _ _ _ _ _, _, _, _, _⟩ :: _) _ _ _; first | refine lssF rfl rfl omD ?_ | refine neqF rfl rfl omD ?_ | refine add rfl rfl inL ?_) | (show SH _ _ _ _ _ (⟨_, .load _ _, _, _, _, _⟩ :: _) _ _ _; first | refine lbx rfl spL (by rfl) ?_ | refine lrf rfl (fun _ _ => rdL) (by rfl) omL (by rfl) ?_) | refine ix rfl rfl (by with_reducible rfl) (fun _ _ => rdL) (by rfl) omL omL ?_ | refine slen rfl ?_ | refine bnoF rfl ?_ | refine pkt rfl tbL evL ?_ | refine fad rfl ?_) | refine s_nil ?_ | refine kh_normal ?_ | refine kh_exit ?_ | refine bh_normal ?_ | refine bh_exit ?_))
                exact ⟨agL, q + 1, hsL, enL, hql, by show _ - (q + 1) < _ - q; omega⟩
          · (repeat' (first | (show VH _ _ _ _ _ _ _; first | refine v_seq ?_ | refine r_seq ?_ | refine v_exit ?_ | refine v_cond_f rfl tbL ?_) | (show SH _ _ _ _ _ (_ :: _) _ _ _; first | refine mov evL ?_ | refine asg evL ?_ | (show SH _ _ _ _ _ (⟨_, .binOp _ _ _ _ _, _, _, _, _⟩ :: _) _ _ _; first | refine lssF rfl rfl omD ?_ | refine add rfl rfl inL ?_) | (show SH _ _ _ _ _ (⟨_, .load _ _, _, _, _, _⟩ :: _) _ _ _; first | refine lbx rfl spL (by rfl) ?_ | refine lba rfl spL (by rfl) ?_) | refine slen rfl ?_ | refine fad rfl ?_ | refine sta rfl rfl rfl spL (by rfl) (by rfl) (by rfl) kpL ?_) | refine s_nil ?_ | refine kh_normal ?_ | refine kh_exit ?_ | refine bh_normal ?_ | refine bh_exit ?_))
            exact ⟨agL, (k + 1, nx, A4, c4, true), hsL, by show Ent _ [bx bh 26 [.int .i64 nx.tick, .int .i64 nx.last, .slice A4 nx.lots.length c4], orow 38 A4 c4 nx.lots]; exact enL, ⟨hkl, hVn, fun e => by cases e⟩, by show _ - (k + 1) < _ - k; omega⟩
      · obtain ⟨q1, q2⟩ := oneH_err he
        generalize oneH Hc (l.getD k Flat.dflt) = r at he q1 q2 hO
        obtain ⟨nx, m, er⟩ := r
        simp only at he q1 q2
        subst q1 q2
        unfold OutR at hO
        unfold hv house0 at hO
        simp only at hO
        (repeat' ((fail_if_success (show VH _ _ (.seq (.region 8 _ _) _) _ _ _ _)); first | (show VH _ _ _ _ _ _ _; first | refine v_seq ?_ | refine r_seq ?_ | refine v_block ?_ | refine v_skip ?_ | refine v_cond_t rfl tbL ?_) | (show SH _ _ _ _ _ (_ :: _) _ _ _; first | refine mov evL ?_ | refine lssT rfl rfl omD ?_ | refine slen rfl ?_) | refine s_nil ?_ | refine kh_normal ?_))
        refine v_seq ?_
        refine v_cut [(6, 8), (41, 50)] (fun y : Nat × (Option Addr × Nat) × Option Addr × Nat => [(6, .pointer (some ⟨y.1, 0, none⟩)), (7, .slice y.2.2.1 ([] : List Mv).length y.2.2.2), (8, .int .i64 er)]) (fun y => bx y.1 26 [.int .i64 0, .int .i64 0, .slice y.2.1.1 0 y.2.1.2] :: orow 38 y.2.1.1 y.2.1.2 ([] : List Lot) :: orow 36 y.2.2.1 y.2.2.2 ([] : List Mv) :: bx bh 26 [.int .i64 Hc.tick, .int .i64 Hc.last, .slice A2 Hc.lots.length c2] :: T) (fun _ => True) ?_ ?_ ent_vh
        · refine r_heldT [bx bh 26 _] (tr [(0, true), (1, true), (2, true), (3, true), (4, true)] (.fork 5 (tr [(6, true), (7, true), (8, true), (9, true), (10, false), (11, false), (12, false), (13, false)] .nil) 10 (tr [(5, false), (6, false), (7, true), (8, true), (9, true), (11, false), (12, false), (13, false)] .nil))) hmix (by kernel_rfl) enL ?_
          (repeat' ((show SH _ _ _ _ _ (_ :: _) _ _ _; first | refine mov evL ?_ | (show SH _ _ _ _ _ (⟨_, .load _ _, _, _, _, _⟩ :: _) _ _ _; first | refine lba rfl spL (by rfl) ?_ | refine lra rfl (fun _ _ => rdL) (by rfl) omL ?_) | refine ix rfl rfl (by with_reducible rfl) (fun _ _ => rdL) (by rfl) omL omL ?_)))
          repeat' (first
            | (refine s_fork ?_ ?_ <;> (repeat' (refine ala rfl (fun b => ?_))))
            | (refine cp (callee := .func 27) rfl (fun w hw => hO w (hrd w (Ent.wd enL hw))) rfl rfl ?_; rintro _ _ ⟨A4, c4, B4, d4, rfl, rfl⟩; (repeat' (first | (show SH _ _ _ _ _ (_ :: _) _ _ _; first | refine mov evL ?_ | refine asg evL ?_ | refine extr rfl rfl ?_ | refine ala rfl (fun b => ?_) | refine sta rfl rfl rfl spL (by rfl) (by rfl) (by rfl) kpL ?_) | refine s_nil ?_ | refine kh_normal ?_))))
          all_goals exact ⟨agL, (_, (A4, c4), B4, d4), hsL, enL, trivial⟩
        rintro ⟨b6, ⟨A4, c4⟩, B4, d4⟩ g2 _ _ rfl
        simp only [sets]
        clear hO
        (repeat' (first | (show VH _ _ _ _ _ _ _; first | refine v_seq ?_ | refine r_seq ?_ | refine v_skip ?_ | refine v_exit ?_ | refine v_cond_t rfl tbL ?_ | refine v_cond_f rfl tbL ?_) | (show SH _ _ _ _ _ (_ :: _) _ _ _; first | (refine gif rfl rfl ?_; refine giFF tbL ?_) | refine mov evL ?_ | refine asg evL ?_ | (show SH _ _ _ _ _ (⟨_, .binOp _ _ _ _ _, _, _, _, _⟩ :: _) _ _ _; first | refine neqT rfl rfl omD ?_ | refine add rfl rfl inL ?_ | refine neq rfl rfl ?_) | refine lba rfl spL (by rfl) ?_ | refine slen rfl ?_ | (show SH _ _ _ _ _ (⟨_, .call ⟨.value (.func 19), _, _⟩, _, _, _, _⟩ :: _) _ _ _; refine cl (callee := .func 19) rfl (fun w hw => hS A4 c4 w (hw.rd spL)) rfl rfl ?_) | refine bnoT rfl ?_ | refine pkf rfl tbL evL ?_ | refine bld rfl rfl ?_) | refine s_nil ?_ | refine kh_normal ?_ | refine kh_exit ?_ | refine bh_exit ?_))
        exact ⟨agL, (k + 1, Hc, A2, c2, own), hsL, by show Ent _ (bx bh 26 [.int .i64 Hc.tick, .int .i64 Hc.last, .slice A2 Hc.lots.length c2] :: (if own then [orow 38 A2 c2 Hc.lots] else [])); rw [hT]; exact enL, ⟨hkl, hV, ho⟩, by show _ - (k + 1) < _ - k; omega⟩
    · (repeat' (first | (show VH _ _ _ _ _ _ _; first | refine v_seq ?_ | refine r_seq ?_ | refine v_ret ?_ | refine v_exit ?_ | refine v_cond_f rfl tbL ?_) | (show SH _ _ _ _ _ (_ :: _) _ _ _; first | refine mov evL ?_ | refine asg evL ?_ | refine lssF rfl rfl omD ?_ | refine slen rfl ?_) | refine s_nil ?_ | refine kh_normal ?_ | refine kh_exit ?_ | refine bh_exit ?_))
      exact rh1 rfl rfl ⟨rfl, rfl⟩ (ent_nil _)
end Go.Proofs.Ytehjdbgijibmcaa
