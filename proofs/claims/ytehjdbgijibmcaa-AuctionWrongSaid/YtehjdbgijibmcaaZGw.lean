/- The law's function AuctionWrong answers true. -/
import Derived.Test.YtehjdbgijibmcaaZGf
import Derived.Test.YtehjdbgijibmcaaZGg
set_option linter.unusedSimpArgs false
set_option linter.unusedVariables false
namespace Go.Proofs.Ytehjdbgijibmcaa
open Go.Fw Go.RowKit
theorem oneH_wrong {h : House} (hv : validH h = false) (x : Do6) : oneH h x = (house0, [], 2) := by
  unfold oneH
  rw [wrong_open hv, wrong_bid hv, wrong_cancel hv, wrong_adv hv]
  simp
set_option maxHeartbeats 4000000 in
set_option maxRecDepth 100000 in
theorem wrongLaw (A : Option Addr) (c0 : Nat) (h : House) (x : Do6) (fault : Int) (w : World) (lo : 0 ≤ fault) (hi : fault ≤ 255) (hr : Rd w A h.lots) : Ret Try.prog 11 [hv A c0 h, .agg (Flat.enc x).toArray, .int .u8 fault].toArray w (Out w (.bool true)) := by
  by_cases h40 : 40 < h.lots.length
  · obtain ⟨tick, last, lots⟩ := h
    unfold hv
    simp only at h40 hr ⊢
    refine enterH Try.func11 rfl rfl Try.ntmps11 rfl (Wd.refl _) ?_
    (repeat' (first | (show VH _ _ _ _ _ _ _; first | refine v_seq ?_ | refine r_seq ?_ | refine v_ret ?_ | refine v_skip ?_ | refine v_cond_t rfl tbL ?_ | refine v_cond_f rfl tbL ?_) | (show SH _ _ _ _ _ (_ :: _) _ _ _; first | (refine gif rfl rfl ?_; refine giFT tbL ?_) | refine mov evL ?_ | refine asg evL ?_ | refine gtr rfl rfl ?_ | refine lbx rfl spL (by rfl) ?_ | refine slen rfl ?_ | (show SH _ _ _ _ _ (⟨_, .call ⟨.value (.func 12), _, _⟩, _, _, _, _⟩ :: _) _ _ _; refine cl (callee := .func 12) rfl (fun w hw => awake_spec w) rfl rfl ?_) | refine pkt rfl tbL evL ?_ | refine bnot rfl ?_ | refine fad rfl ?_ | refine bxx rfl evL rfl (fun b => ?_)) | refine s_nil ?_ | refine kh_normal ?_ | refine kh_ret ?_))
    exact rh1 rfl rfl ⟨rfl, rfl⟩ (ent_nil _)
  by_cases h2 : h.lots.length < 2
  · obtain ⟨tick, last, lots⟩ := h
    unfold hv
    simp only at h40 h2 hr ⊢
    refine enterH Try.func11 rfl rfl Try.ntmps11 rfl (Wd.refl _) ?_
    (repeat' (first | (show VH _ _ _ _ _ _ _; first | refine v_seq ?_ | refine r_seq ?_ | refine v_ret ?_ | refine v_skip ?_ | refine v_cond_t rfl tbL ?_ | refine v_cond_f rfl tbL ?_) | (show SH _ _ _ _ _ (_ :: _) _ _ _; first | (refine gif rfl rfl ?_; first | refine giFF tbL ?_ | refine giFT tbL ?_) | refine mov evL ?_ | refine asg evL ?_ | (show SH _ _ _ _ _ (⟨_, .binOp _ _ _ _ _, _, _, _, _⟩ :: _) _ _ _; first | refine lss rfl rfl ?_ | refine gtr rfl rfl ?_) | refine lbx rfl spL (by rfl) ?_ | refine slen rfl ?_ | (show SH _ _ _ _ _ (⟨_, .call ⟨.value (.func 12), _, _⟩, _, _, _, _⟩ :: _) _ _ _; refine cl (callee := .func 12) rfl (fun w hw => awake_spec w) rfl rfl ?_) | refine pkt rfl tbL evL ?_ | refine pkf rfl tbL evL ?_ | refine bnot rfl ?_ | refine fad rfl ?_ | refine bxx rfl evL rfl (fun b => ?_)) | refine s_nil ?_ | refine kh_normal ?_ | refine kh_ret ?_))
    exact rh1 rfl rfl ⟨rfl, rfl⟩ (ent_nil _)
  have hvs := fun w hr => valid_spec A c0 h w (by omega) hr
  cases hval : validH h with
  | false =>
    rw [hval] at hvs
    obtain ⟨tick, last, lots⟩ := h
    unfold hv at hvs ⊢
    simp only at h40 h2 hr hvs ⊢
    refine enterH Try.func11 rfl rfl Try.ntmps11 rfl (Wd.refl _) ?_
    (repeat' (first | (show VH _ _ _ _ _ _ _; first | refine v_seq ?_ | refine r_seq ?_ | refine v_ret ?_ | refine v_skip ?_ | refine v_cond_t rfl tbL ?_ | refine v_cond_f rfl tbL ?_) | (show SH _ _ _ _ _ (_ :: _) _ _ _; first | (refine gif rfl rfl ?_; refine giFF tbL ?_) | refine mov evL ?_ | refine asg evL ?_ | (show SH _ _ _ _ _ (⟨_, .binOp _ _ _ _ _, _, _, _, _⟩ :: _) _ _ _; first | refine lss rfl rfl ?_ | refine gtr rfl rfl ?_) | (show SH _ _ _ _ _ (⟨_, .load _ _, _, _, _, _⟩ :: _) _ _ _; first | refine lbx rfl spL (by rfl) ?_ | refine lba rfl spL (by rfl) ?_) | refine slen rfl ?_ | (show SH _ _ _ _ _ (⟨_, .call ⟨.value (.func 12), _, _⟩, _, _, _, _⟩ :: _) _ _ _; refine cl (callee := .func 12) rfl (fun w hw => awake_spec w) rfl rfl ?_) | (show SH _ _ _ _ _ (⟨_, .call ⟨.value (.func 18), _, _⟩, _, _, _, _⟩ :: _) _ _ _; refine cl (callee := .func 18) rfl (fun w hw => hvs _ (hr.ext hw.ext)) rfl rfl ?_) | refine pkf rfl tbL evL ?_ | refine bnot rfl ?_ | refine fad rfl ?_ | refine bxx rfl evL rfl (fun b => ?_)) | refine s_nil ?_ | refine kh_normal ?_ | refine kh_ret ?_))
    exact rh1 rfl rfl ⟨rfl, rfl⟩ (ent_nil _)
  | true =>
    rw [hval] at hvs
    have hV := valid_iff.1 hval
    have hG := fun w hr => given_spec A c0 h w (by omega) hr
    have hT := fun A1 c1 w hr => taken_spec A1 c1 h w (by omega) hr
    obtain ⟨q, hq⟩ : ∃ q, fault % 8 = q := ⟨_, rfl⟩
    have hw1 := badH_wrong hV (by omega) q
    have hlen := badH_len h q
    have hO := fun A1 c1 w hr => one_spec A1 c1 (badH h q) x w (by omega) hr
    rw [oneH_wrong hw1] at hO
    have hvb := fun A1 c1 w hr => valid_spec A1 c1 (badH h q) w (by omega) hr
    rw [hw1] at hvb
    have hhb : ∀ A1 c1 w, Rd w A1 (badH h q).lots → Ret Try.prog 28 [hv A1 c1 (badH h q)].toArray w (Out w (.tuple #[.agg (Flat.enc (⟨0, 0, 0, 0⟩ : Q4)).toArray, .int .i64 2])) := fun A1 c1 w hr => holds_spec0 A1 c1 (badH h q) w (by omega) hr hw1
    have hS := fun A1 c1 w hr => sameH_spec A1 none c1 0 house0 house0 w hr (Rd.nil _ none) (by simp [house0])
    rw [decide_eq_true rfl] at hS
    have htk := hV.tick
    have hbd : ∀ k, k < h.lots.length → 0 < (h.lots.getD k Flat.dflt).id ∧ (h.lots.getD k Flat.dflt).id ≤ 1048576 ∧ 0 ≤ (h.lots.getD k Flat.dflt).most ∧ (h.lots.getD k Flat.dflt).most ≤ 2147483647 := fun k hk => by
      have h1 := hV.lot _ (lot_mem hk)
      have h3 := hV.last
      have h4 := h1.2.2.led
      have h5 := h1.2.2.reserve
      omega
    have hb1 := hbd 1 (by omega)
    have hbl := hbd (h.lots.length - 1) (by omega)
    have hb1' : 0 ≤ (h.lots.getD (Int.toNat 1) Flat.dflt).most ∧ (h.lots.getD (Int.toNat 1) Flat.dflt).most ≤ 2147483647 := ⟨hb1.2.2.1, hb1.2.2.2⟩
    unfold OutR at hO
    obtain ⟨tick, last, lots⟩ := h
    have hbq := fun (k : Int) (e : q = k) => congrArg (badH ⟨tick, last, lots⟩) e
    generalize hbh : badH ⟨tick, last, lots⟩ q = bh at hw1 hlen hO hvb hhb hbq
    unfold hv house0 at *
    simp only at h40 h2 hr hvs hG hT hO hvb hhb hS hlen htk hb1 hb1' hbl ⊢
    have hq8 : 0 ≤ q ∧ q ≤ 7 := by omega
    refine enterH Try.func11 rfl rfl Try.ntmps11 rfl (Wd.refl _) ?_
    (repeat' (first | (show VH _ _ _ _ _ _ _; first | refine v_seq ?_ | refine r_seq ?_ | refine v_skip ?_ | refine v_cond_f rfl tbL ?_) | (show SH _ _ _ _ _ (_ :: _) _ _ _; first | (refine gif rfl rfl ?_; refine giFF tbL ?_) | refine mov evL ?_ | refine asg evL ?_ | (show SH _ _ _ _ _ (⟨_, .binOp _ _ _ _ _, _, _, _, _⟩ :: _) _ _ _; first | refine lss rfl rfl ?_ | refine gtr rfl rfl ?_) | (show SH _ _ _ _ _ (⟨_, .load _ _, _, _, _, _⟩ :: _) _ _ _; first | refine lbx rfl spL (by rfl) ?_ | refine lba rfl spL (by rfl) ?_) | refine slen rfl ?_ | (show SH _ _ _ _ _ (⟨_, .call ⟨.value (.func 12), _, _⟩, _, _, _, _⟩ :: _) _ _ _; refine cl (callee := .func 12) rfl (fun w hw => awake_spec w) rfl rfl ?_) | (show SH _ _ _ _ _ (⟨_, .call ⟨.value (.func 18), _, _⟩, _, _, _, _⟩ :: _) _ _ _; refine cl (callee := .func 18) rfl (fun w hw => hvs _ (hr.ext hw.ext)) rfl rfl ?_) | (show SH _ _ _ _ _ (⟨_, .call ⟨.value (.func 22), _, _⟩, _, _, _, _⟩ :: _) _ _ _; refine cp (callee := .func 22) rfl (fun w hw => hG _ (hr.ext hw.ext)) rfl rfl ?_) | refine pkf rfl tbL evL ?_ | refine bnot rfl ?_ | refine fad rfl ?_ | refine bxx rfl evL rfl (fun b => ?_)) | refine s_nil ?_ | refine kh_normal ?_))
    rintro _ _ ⟨A1, c1, rfl, rfl⟩
    (repeat' ((show SH _ _ _ _ _ (⟨_, .call ⟨.value (.func 25), _, _⟩, _, _, _, _⟩ :: _) _ _ _; refine cp (callee := .func 25) rfl (fun w hw => hT A1 c1 w (hw.rd spL)) rfl rfl ?_)))
    rintro _ _ ⟨A2, c2, rfl, rfl⟩
    (repeat' ((fail_if_success (show VH _ _ (.seq (.seq (.region 7 _ _) _) _) _ _ _ _)); first | (show VH _ _ _ _ _ _ _; first | refine v_seq ?_ | refine r_seq ?_) | (show SH _ _ _ _ _ (_ :: _) _ _ _; first | refine asg evL ?_ | refine lbx rfl spL (by rfl) ?_ | refine ixi rfl rfl (fun _ _ => rdL) (by rfl) omL omL omL ?_ | refine fad rfl ?_ | refine ala rfl (fun b => ?_) | refine sta rfl rfl rfl spL (by rfl) (by rfl) (by rfl) kpL ?_) | refine s_nil ?_ | refine kh_normal ?_))
    rename_i b3 b4
    refine v_seq ?_
    refine v_cut [(37, 104)] (fun _ : Unit => []) (fun _ => [bx b 26 [.int .i64 bh.tick, .int .i64 bh.last, .slice A2 bh.lots.length c2], orow 38 A2 c2 bh.lots, bx b4 59 (Flat.enc x), bx b3 26 [.int .i64 tick, .int .i64 last, .slice A lots.length c0]]) (fun _ => True) ?_ ?_ ent_vh
    · clear hO hvb hhb hS hT hG hvs hw1
      rcases (show q = 0 ∨ q = 1 ∨ q = 2 ∨ q = 3 ∨ q = 4 ∨ q = 5 ∨ q = 6 ∨ q = 7 by omega) with e | e | e | e | e | e | e | e
      · have hb : bh = ⟨tick, last, lots.set 1 { lots.getD 1 Flat.dflt with id := (lots.getD 0 Flat.dflt).id }⟩ := (hbq 0 e).trans rfl
        (repeat' (first | (show VH _ _ _ _ _ _ _; first | refine v_seq ?_ | refine r_seq ?_ | refine v_block ?_ | refine v_cond_t rfl tbL ?_) | (show SH _ _ _ _ _ (_ :: _) _ _ _; first | refine mov evL ?_ | refine asg evL ?_ | (show SH _ _ _ _ _ (⟨_, .binOp _ _ _ _ _, _, _, _, _⟩ :: _) _ _ _; first | refine eql rfl rfl ?_ | refine rem rfl rfl omL omL ?_) | (show SH _ _ _ _ _ (⟨_, .load _ _, _, _, _, _⟩ :: _) _ _ _; first | refine lbx rfl spL (by rfl) ?_ | refine lrf rfl (fun _ _ => rdL) (by rfl) omL (by rfl) ?_) | refine ixi rfl rfl (fun _ _ => rdL) (by rfl) omL omL omL ?_ | refine nlc rfl ?_ | refine fad rfl ?_) | refine s_nil ?_ | refine kh_normal ?_))
        refine stf (x' := { lots.getD 1 Flat.dflt with id := (lots.getD 0 Flat.dflt).id }) rfl rfl rfl spL rfl (by omega) rfl rfl (by decide) rfl trivial ?_
        (repeat' (first | refine s_nil ?_ | refine kh_normal ?_ | refine bh_normal ?_))
        refine ⟨agL, (), hsL, ?_, trivial⟩
        rw [hb]
        simp only [List.length_set]
        exact enL
      · have hb : bh = ⟨tick, (lots.getD (lots.length - 1) Flat.dflt).id - 1, lots⟩ := (hbq 1 e).trans rfl
        have hix : (lots.getD ((lots.length : Int) - 1).toNat Flat.dflt) = lots.getD (lots.length - 1) Flat.dflt := by rw [show ((lots.length : Int) - 1).toNat = lots.length - 1 by omega]
        rw [← hix] at hb hbl
        (repeat' (first | (show VH _ _ _ _ _ _ _; first | refine v_seq ?_ | refine r_seq ?_ | refine v_block ?_ | refine v_cond_t rfl tbL ?_ | refine v_cond_f rfl tbL ?_) | (show SH _ _ _ _ _ (_ :: _) _ _ _; first | refine mov evL ?_ | refine asg evL ?_ | (show SH _ _ _ _ _ (⟨_, .binOp _ _ _ _ _, _, _, _, _⟩ :: _) _ _ _; first | refine sub rfl rfl inL ?_ | refine eql rfl rfl ?_ | refine rem rfl rfl omL omL ?_) | (show SH _ _ _ _ _ (⟨_, .load _ _, _, _, _, _⟩ :: _) _ _ _; first | refine lbx rfl spL (by rfl) ?_ | refine lrf rfl (fun _ _ => rdL) (by rfl) omL (by rfl) ?_) | refine ixi rfl rfl (fun _ _ => rdL) (by rfl) omL omL omL ?_ | refine slen rfl ?_ | refine fad rfl ?_ | refine stb rfl rfl evL spL rfl rfl (by first | decide | exact Nat.zero_lt_succ _ | exact of_decide_eq_true rfl) kpL ?_) | refine s_nil ?_ | refine kh_normal ?_ | refine bh_normal ?_))
        refine ⟨agL, (), hsL, ?_, trivial⟩
        rw [hb]
        exact enL
      · have hb : bh = ⟨tick, last, lots.set 1 { lots.getD 1 Flat.dflt with leader := (lots.getD 1 Flat.dflt).seller }⟩ := (hbq 2 e).trans rfl
        (repeat' (first | (show VH _ _ _ _ _ _ _; first | refine v_seq ?_ | refine r_seq ?_ | refine v_block ?_ | refine v_cond_t rfl tbL ?_ | refine v_cond_f rfl tbL ?_) | (show SH _ _ _ _ _ (_ :: _) _ _ _; first | refine mov evL ?_ | refine asg evL ?_ | (show SH _ _ _ _ _ (⟨_, .binOp _ _ _ _ _, _, _, _, _⟩ :: _) _ _ _; first | refine eql rfl rfl ?_ | refine rem rfl rfl omL omL ?_) | refine lrf rfl (fun _ _ => rdL) (by rfl) omL (by rfl) ?_ | refine nlc rfl ?_ | refine fad rfl ?_) | refine s_nil ?_ | refine kh_normal ?_))
        refine stf (x' := { lots.getD 1 Flat.dflt with leader := (lots.getD 1 Flat.dflt).seller }) rfl rfl rfl spL rfl (by omega) rfl rfl (by decide) rfl trivial ?_
        (repeat' (first | refine s_nil ?_ | refine kh_normal ?_ | refine bh_normal ?_))
        refine ⟨agL, (), hsL, ?_, trivial⟩
        rw [hb]
        simp only [List.length_set]
        exact enL
      · have hb : bh = ⟨tick, last, lots.set 1 { lots.getD 1 Flat.dflt with price := (lots.getD 1 Flat.dflt).most + 1 }⟩ := (hbq 3 e).trans rfl
        (repeat' (first | (show VH _ _ _ _ _ _ _; first | refine v_seq ?_ | refine r_seq ?_ | refine v_block ?_ | refine v_cond_t rfl tbL ?_ | refine v_cond_f rfl tbL ?_) | (show SH _ _ _ _ _ (_ :: _) _ _ _; first | refine mov evL ?_ | refine asg evL ?_ | (show SH _ _ _ _ _ (⟨_, .binOp _ _ _ _ _, _, _, _, _⟩ :: _) _ _ _; first | refine add rfl rfl inL ?_ | refine eql rfl rfl ?_ | refine rem rfl rfl omL omL ?_) | refine lrf rfl (fun _ _ => rdL) (by rfl) omL (by rfl) ?_ | refine nlc rfl ?_ | refine fad rfl ?_) | refine s_nil ?_ | refine kh_normal ?_))
        refine stf (x' := { lots.getD 1 Flat.dflt with price := (lots.getD 1 Flat.dflt).most + 1 }) rfl rfl rfl spL rfl (by omega) rfl rfl (by decide) rfl trivial ?_
        (repeat' (first | refine s_nil ?_ | refine kh_normal ?_ | refine bh_normal ?_))
        refine ⟨agL, (), hsL, ?_, trivial⟩
        rw [hb]
        simp only [List.length_set]
        exact enL
      · have hb : bh = ⟨tick, last, lots.set 1 { lots.getD 1 Flat.dflt with till := tick }⟩ := (hbq 4 e).trans rfl
        (repeat' (first | (show VH _ _ _ _ _ _ _; first | refine v_seq ?_ | refine r_seq ?_ | refine v_block ?_ | refine v_cond_t rfl tbL ?_ | refine v_cond_f rfl tbL ?_) | (show SH _ _ _ _ _ (_ :: _) _ _ _; first | refine mov evL ?_ | refine asg evL ?_ | (show SH _ _ _ _ _ (⟨_, .binOp _ _ _ _ _, _, _, _, _⟩ :: _) _ _ _; first | refine eql rfl rfl ?_ | refine rem rfl rfl omL omL ?_) | refine lbx rfl spL (by rfl) ?_ | refine nlc rfl ?_ | refine fad rfl ?_) | refine s_nil ?_ | refine kh_normal ?_))
        refine stf (x' := { lots.getD 1 Flat.dflt with till := tick }) rfl rfl rfl spL rfl (by omega) rfl rfl (by decide) rfl trivial ?_
        (repeat' (first | refine s_nil ?_ | refine kh_normal ?_ | refine bh_normal ?_))
        refine ⟨agL, (), hsL, ?_, trivial⟩
        rw [hb]
        simp only [List.length_set]
        exact enL
      · have hb : bh = ⟨tick, last, lots.set 1 { lots.getD 1 Flat.dflt with item := 4 }⟩ := (hbq 5 e).trans rfl
        (repeat' (first | (show VH _ _ _ _ _ _ _; first | refine v_seq ?_ | refine r_seq ?_ | refine v_block ?_ | refine v_cond_t rfl tbL ?_ | refine v_cond_f rfl tbL ?_) | (show SH _ _ _ _ _ (_ :: _) _ _ _; first | refine mov evL ?_ | refine asg evL ?_ | (show SH _ _ _ _ _ (⟨_, .binOp _ _ _ _ _, _, _, _, _⟩ :: _) _ _ _; first | refine eql rfl rfl ?_ | refine rem rfl rfl omL omL ?_) | refine nlc rfl ?_ | refine fad rfl ?_) | refine s_nil ?_ | refine kh_normal ?_))
        refine stf (x' := { lots.getD 1 Flat.dflt with item := 4 }) rfl rfl rfl spL rfl (by omega) rfl rfl (by decide) rfl trivial ?_
        (repeat' (first | refine s_nil ?_ | refine kh_normal ?_ | refine bh_normal ?_))
        refine ⟨agL, (), hsL, ?_, trivial⟩
        rw [hb]
        simp only [List.length_set]
        exact enL
      · have hb : bh = ⟨tick, last, lots.set 1 { lots.getD 1 Flat.dflt with reserve := 0 }⟩ := (hbq 6 e).trans rfl
        (repeat' (first | (show VH _ _ _ _ _ _ _; first | refine v_seq ?_ | refine r_seq ?_ | refine v_block ?_ | refine v_cond_t rfl tbL ?_ | refine v_cond_f rfl tbL ?_) | (show SH _ _ _ _ _ (_ :: _) _ _ _; first | refine mov evL ?_ | refine asg evL ?_ | (show SH _ _ _ _ _ (⟨_, .binOp _ _ _ _ _, _, _, _, _⟩ :: _) _ _ _; first | refine eql rfl rfl ?_ | refine rem rfl rfl omL omL ?_) | refine nlc rfl ?_ | refine fad rfl ?_) | refine s_nil ?_ | refine kh_normal ?_))
        refine stf (x' := { lots.getD 1 Flat.dflt with reserve := 0 }) rfl rfl rfl spL rfl (by omega) rfl rfl (by decide) rfl trivial ?_
        (repeat' (first | refine s_nil ?_ | refine kh_normal ?_ | refine bh_normal ?_))
        refine ⟨agL, (), hsL, ?_, trivial⟩
        rw [hb]
        simp only [List.length_set]
        exact enL
      · have hb : bh = ⟨tick, last, lots.set 1 { lots.getD 1 Flat.dflt with till := tick + 10000 + 1 }⟩ := (hbq 7 e).trans rfl
        (repeat' (first | (show VH _ _ _ _ _ _ _; first | refine v_seq ?_ | refine r_seq ?_ | refine v_block ?_ | refine v_cond_f rfl tbL ?_) | (show SH _ _ _ _ _ (_ :: _) _ _ _; first | refine mov evL ?_ | refine asg evL ?_ | (show SH _ _ _ _ _ (⟨_, .binOp _ _ _ _ _, _, _, _, _⟩ :: _) _ _ _; first | refine add rfl rfl inL ?_ | refine eql rfl rfl ?_ | refine rem rfl rfl omL omL ?_) | refine lbx rfl spL (by rfl) ?_ | refine nlc rfl ?_ | refine fad rfl ?_) | refine s_nil ?_ | refine kh_normal ?_))
        refine stf (x' := { lots.getD 1 Flat.dflt with till := tick + 10000 + 1 }) rfl rfl rfl spL rfl (by omega) rfl rfl (by decide) rfl trivial ?_
        (repeat' (first | refine s_nil ?_ | refine kh_normal ?_ | refine bh_normal ?_))
        refine ⟨agL, (), hsL, ?_, trivial⟩
        rw [hb]
        simp only [List.length_set]
        exact enL
    · rintro _ g _ _ rfl
      simp only [sets]
      (repeat' (first | (show VH _ _ _ _ _ _ _; first | refine v_seq ?_ | refine r_seq ?_) | (show SH _ _ _ _ _ (_ :: _) _ _ _; first | refine lba rfl spL (by rfl) ?_ | (show SH _ _ _ _ _ (⟨_, .call ⟨.value (.func 27), _, _⟩, _, _, _, _⟩ :: _) _ _ _; refine cp (callee := .func 27) rfl (fun w hw => hO A2 c2 w (hw.rd spL)) rfl rfl ?_))))
      rintro _ _ ⟨A3, c3, B3, d3, rfl, rfl⟩
      (repeat' (first | (show VH _ _ _ _ _ _ _; first | refine v_seq ?_ | refine r_seq ?_) | (show SH _ _ _ _ _ (_ :: _) _ _ _; first | (refine gif rfl rfl ?_; refine giTT tbL ?_) | refine mov evL ?_ | refine asg evL ?_ | refine eql rfl rfl ?_ | refine lba rfl spL (by rfl) ?_ | refine slen rfl ?_ | (show SH _ _ _ _ _ (⟨_, .call ⟨.value (.func 28), _, _⟩, _, _, _, _⟩ :: _) _ _ _; refine cl (callee := .func 28) rfl (fun w hw => hhb A2 c2 w (hw.rd spL)) rfl rfl ?_) | (show SH _ _ _ _ _ (⟨_, .call ⟨.value (.func 18), _, _⟩, _, _, _, _⟩ :: _) _ _ _; refine cl (callee := .func 18) rfl (fun w hw => hvb A2 c2 w (hw.rd spL)) rfl rfl ?_) | (show SH _ _ _ _ _ (⟨_, .call ⟨.value (.func 19), _, _⟩, _, _, _, _⟩ :: _) _ _ _; refine cl (callee := .func 19) rfl (fun w hw => hS A3 c3 w (hw.rd spL)) rfl rfl ?_) | refine pkt rfl tbL evL ?_ | refine bnot rfl ?_ | refine extr rfl rfl ?_ | refine bld rfl rfl ?_ | refine ala rfl (fun b => ?_) | refine sta rfl rfl rfl spL (by rfl) (by rfl) (by rfl) kpL ?_) | refine s_nil ?_ | refine kh_normal ?_))
      refine bldQ0 ?_
      (repeat' ((refine gif rfl rfl ?_; refine giTT tbL ?_)))
      refine eqa (⟨0, 0, 0, 0⟩ : Q4) ⟨0, 0, 0, 0⟩ rfl rfl ?_
      rw [decide_eq_true rfl]
      (repeat' (first | refine v_ret ?_ | (show SH _ _ _ _ _ (_ :: _) _ _ _; first | refine asg evL ?_ | refine pkt rfl tbL evL ?_) | refine s_nil ?_ | refine kh_normal ?_))
      exact rh1 rfl rfl ⟨rfl, rfl⟩ (ent_nil _)
end Go.Proofs.Ytehjdbgijibmcaa
