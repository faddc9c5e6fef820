/- The law's function AuctionOthers answers true. -/
import Derived.Test.YtehjdbgijibmcaaZGa
set_option linter.unusedSimpArgs false
set_option linter.unusedVariables false
namespace Go.Proofs.Ytehjdbgijibmcaa
open Go.Fw Go.RowKit
set_option maxHeartbeats 4000000 in
set_option maxRecDepth 100000 in
theorem othersLaw (A : Option Addr) (c0 : Nat) (h : House) (id who most : Int) (w : World) (hr : Rd w A h.lots) : Ret Try.prog 5 [hv A c0 h, .int .i64 id, .int .i64 who, .int .i64 most].toArray w (Out w (.bool true)) := by
  by_cases h40 : 40 < h.lots.length
  · obtain ⟨tick, last, lots⟩ := h
    unfold hv
    simp only at h40 hr ⊢
    refine enterH Try.func5 rfl rfl Try.ntmps5 rfl (Wd.refl _) ?_
    (repeat' (first | (show VH _ _ _ _ _ _ _; first | refine v_seq ?_ | refine r_seq ?_ | refine v_ret ?_ | refine v_skip ?_ | refine v_cond_t rfl tbL ?_ | refine v_cond_f rfl tbL ?_) | (show SH _ _ _ _ _ (_ :: _) _ _ _; first | (refine gif rfl rfl ?_; refine giFT tbL ?_) | refine mov evL ?_ | refine asg evL ?_ | refine gtr rfl rfl ?_ | refine lbx rfl spL (by rfl) ?_ | refine slen rfl ?_ | (show SH _ _ _ _ _ (⟨_, .call ⟨.value (.func 12), _, _⟩, _, _, _, _⟩ :: _) _ _ _; refine cl (callee := .func 12) rfl (fun w hw => awake_spec w) rfl rfl ?_) | refine pkt rfl tbL evL ?_ | refine bnot rfl ?_ | refine fad rfl ?_ | refine bxx rfl evL rfl (fun b => ?_)) | refine s_nil ?_ | refine kh_normal ?_ | refine kh_ret ?_))
    exact rh1 rfl rfl ⟨rfl, rfl⟩ (ent_nil _)
  have hvs := fun w hr => valid_spec A c0 h w (by omega) hr
  have hbs := fun w hr => bid_spec A c0 h id who most w (by omega) hr
  cases hval : validH h with
  | false =>
    rw [hval] at hvs
    obtain ⟨tick, last, lots⟩ := h
    unfold hv at hvs ⊢
    simp only at h40 hr hvs ⊢
    refine enterH Try.func5 rfl rfl Try.ntmps5 rfl (Wd.refl _) ?_
    (repeat' (first | (show VH _ _ _ _ _ _ _; first | refine v_seq ?_ | refine r_seq ?_ | refine v_ret ?_ | refine v_skip ?_ | refine v_cond_t rfl tbL ?_ | refine v_cond_f rfl tbL ?_) | (show SH _ _ _ _ _ (_ :: _) _ _ _; first | (refine gif rfl rfl ?_; refine giFF tbL ?_) | refine mov evL ?_ | refine asg evL ?_ | refine gtr rfl rfl ?_ | (show SH _ _ _ _ _ (⟨_, .load _ _, _, _, _, _⟩ :: _) _ _ _; first | refine lbx rfl spL (by rfl) ?_ | refine lba rfl spL (by rfl) ?_) | refine slen rfl ?_ | (show SH _ _ _ _ _ (⟨_, .call ⟨.value (.func 12), _, _⟩, _, _, _, _⟩ :: _) _ _ _; refine cl (callee := .func 12) rfl (fun w hw => awake_spec w) rfl rfl ?_) | (show SH _ _ _ _ _ (⟨_, .call ⟨.value (.func 18), _, _⟩, _, _, _, _⟩ :: _) _ _ _; refine cl (callee := .func 18) rfl (fun w hw => hvs _ (hr.ext hw.ext)) rfl rfl ?_) | refine pkf rfl tbL evL ?_ | refine bnot rfl ?_ | refine fad rfl ?_ | refine bxx rfl evL rfl (fun b => ?_)) | refine s_nil ?_ | refine kh_normal ?_ | refine kh_ret ?_))
    exact rh1 rfl rfl ⟨rfl, rfl⟩ (ent_nil _)
  | true =>
    rw [hval] at hvs
    have hV := valid_iff.1 hval
    unfold OutR at hbs
    by_cases he : (bidH h id who most).2.2 = 0
    · obtain ⟨i, l', m, t⟩ := bid_took he
      have hid := t.hid
      have hlt := t.lt
      have hri := (hV.lot _ (Go.Fw.getD_mem (d := Flat.dflt) hlt)).2.2
      obtain ⟨p1, p2, p3, p4, p5, p6, p7, p8⟩ := bidLot_props hri t.hwho t.hmost t.other t.is
      have hinc := hV.inc
      have htick := hV.tick
      rw [t.res] at hbs
      have hinj := fun k hk (e : (h.lots.getD k Flat.dflt).id = id) => ids_inj hinc hk hlt (e.trans hid.symm)
      obtain ⟨tick, last, lots⟩ := h
      unfold hv at hvs hbs ⊢
      simp only at h40 hr hvs hbs hid hlt hri p1 p2 p3 p4 hinj htick ⊢
      have hnl : (lots.set i { l' with till := max l'.till (tick + 20) }).length = lots.length := List.length_set ..
      have hni : (lots.set i { l' with till := max l'.till (tick + 20) }).getD i Flat.dflt = { l' with till := max l'.till (tick + 20) } := lset_self hlt
      have hno : ∀ k, k ≠ i → (lots.set i { l' with till := max l'.till (tick + 20) }).getD k Flat.dflt = lots.getD k Flat.dflt := fun k hk => by
        simp only [List.getD_eq_getElem?_getD]
        rw [List.getElem?_set_ne (Ne.symm hk)]
      generalize lots.set i { l' with till := max l'.till (tick + 20) } = nl at hnl hni hno hbs
      refine enterH Try.func5 rfl rfl Try.ntmps5 rfl (Wd.refl _) ?_
      (repeat' (first | (show VH _ _ _ _ _ _ _; first | refine v_seq ?_ | refine r_seq ?_ | refine v_skip ?_ | refine v_cond_f rfl tbL ?_) | (show SH _ _ _ _ _ (_ :: _) _ _ _; first | (refine gif rfl rfl ?_; refine giFF tbL ?_) | refine mov evL ?_ | refine asg evL ?_ | refine gtr rfl rfl ?_ | (show SH _ _ _ _ _ (⟨_, .load _ _, _, _, _, _⟩ :: _) _ _ _; first | refine lbx rfl spL (by rfl) ?_ | refine lba rfl spL (by rfl) ?_) | refine slen rfl ?_ | (show SH _ _ _ _ _ (⟨_, .call ⟨.value (.func 12), _, _⟩, _, _, _, _⟩ :: _) _ _ _; refine cl (callee := .func 12) rfl (fun w hw => awake_spec w) rfl rfl ?_) | (show SH _ _ _ _ _ (⟨_, .call ⟨.value (.func 18), _, _⟩, _, _, _, _⟩ :: _) _ _ _; refine cl (callee := .func 18) rfl (fun w hw => hvs _ (hr.ext hw.ext)) rfl rfl ?_) | (show SH _ _ _ _ _ (⟨_, .call ⟨.value (.func 15), _, _⟩, _, _, _, _⟩ :: _) _ _ _; refine cp (callee := .func 15) rfl (fun w hw => hbs _ (hr.ext hw.ext)) rfl rfl ?_) | refine pkf rfl tbL evL ?_ | refine bnot rfl ?_ | refine fad rfl ?_ | refine bxx rfl evL rfl (fun b => ?_)) | refine s_nil ?_ | refine kh_normal ?_))
      rintro _ _ ⟨A1, c1, B, d, rfl, rfl⟩
      (repeat' (first | (show VH _ _ _ _ _ _ _; first | refine v_seq ?_ | refine r_seq ?_ | refine v_block ?_ | refine v_skip ?_ | refine v_cond_f rfl tbL ?_) | (show SH _ _ _ _ _ (_ :: _) _ _ _; first | (refine gif rfl rfl ?_; refine giFF tbL ?_) | refine mov evL ?_ | refine asg evL ?_ | refine neq rfl rfl ?_ | refine lbx rfl spL (by rfl) ?_ | refine slen rfl ?_ | refine pkf rfl tbL evL ?_ | refine extr rfl rfl ?_ | refine fad rfl ?_ | refine ala rfl (fun b => ?_) | refine sta rfl rfl rfl spL (by rfl) (by rfl) (by rfl) kpL ?_) | refine s_nil ?_ | refine kh_normal ?_))
      rename_i b4
      clear hbs hvs he
      refine v_norm [(1,_),(2,_),(3,_),(4,_),(9,_),(10,_),(12,_)] heL (fun g => ?_)
      refine v_loop0 [(8,8),(12,14),(59,151)] (fun k : Nat => [(12, .int .i64 k)]) (fun k => k ≤ lots.length) (fun k => lots.length - k) 0 hsL (Nat.zero_le _) ?_
      · rintro k g hk
        simp only [sets]
        by_cases hkl : k < lots.length
        · by_cases hki : k = i
          · subst hki
            have y1 : (nl.getD k Flat.dflt).till = max (lots.getD k Flat.dflt).till (tick + 20) := by rw [hni]; show max l'.till _ = _; rw [p1]
            have y2 : (lots.getD k Flat.dflt).price ≤ (nl.getD k Flat.dflt).price := by rw [hni]; exact p2
            have y3 : (lots.getD k Flat.dflt).most ≤ (nl.getD k Flat.dflt).most := by rw [hni]; exact p3
            have y4 : (nl.getD k Flat.dflt).leader ≠ who → m.length = 0 ∧ (nl.getD k Flat.dflt).leader = (lots.getD k Flat.dflt).leader ∧ (nl.getD k Flat.dflt).most = (lots.getD k Flat.dflt).most ∧ most ≤ (nl.getD k Flat.dflt).price := by
              rw [hni]; intro h; obtain ⟨q1, q2⟩ := p4 h; exact ⟨by rw [q1]; rfl, q2⟩
            have y5 : { lots.getD k Flat.dflt with till := (nl.getD k Flat.dflt).till, price := (nl.getD k Flat.dflt).price, most := (nl.getD k Flat.dflt).most, leader := (nl.getD k Flat.dflt).leader } = nl.getD k Flat.dflt := by
              have e1 := congrArg Lot.id p1
              have e2 := congrArg Lot.seller p1
              have e3 := congrArg Lot.item p1
              have e4 := congrArg Lot.count p1
              have e5 := congrArg Lot.reserve p1
              rw [hni]
              simp only [Lot.mk.injEq] at e1 e2 e3 e4 e5 ⊢
              simp only [e1, e2, e3, e4, e5, and_self]
            have hkn : k < nl.length := by omega
            clear hni hno hinj p1 p2 p3 p4 p5 p6 p7 p8 hinc
            have key : (nl.getD k Flat.dflt).leader = who ∨ (nl.getD k Flat.dflt).leader ≠ who := by omega
            (repeat' (first | (show VH _ _ _ _ _ _ _; first | refine v_seq ?_ | refine r_seq ?_ | refine v_block ?_ | refine v_skip ?_ | refine v_cond_t rfl tbL ?_) | (show SH _ _ _ _ _ (_ :: _) _ _ _; first | refine mov evL ?_ | refine lss rfl rfl ?_ | refine lbx rfl spL (by rfl) ?_ | refine slen rfl ?_ | refine fad rfl ?_) | refine s_nil ?_ | refine kh_normal ?_))
            refine r_heldT [bx b4 26 _, bx b 26 _, orow 38 A1 c1 nl] (tr [(0, true), (1, true), (2, true), (3, true), (4, true), (5, true), (6, true), (7, true), (8, true), (9, true)] (.fork 10 (tr [(11, false), (12, false), (13, false)] .nil) 11 (tr [(10, false), (12, false), (13, false)] .nil))) hmix (by kernel_rfl) enL ?_
            (repeat' ((show SH _ _ _ _ _ (_ :: _) _ _ _; first | refine mov evL ?_ | (show SH _ _ _ _ _ (⟨_, .load _ _, _, _, _, _⟩ :: _) _ _ _; first | refine lbx rfl spL (by rfl) ?_ | refine lra rfl (fun _ _ => rdL) (by rfl) omL ?_) | refine ix rfl rfl (by with_reducible rfl) (fun _ _ => rdL) (by rfl) omL omL ?_ | refine fad rfl ?_)))
            generalize lots.getD k Flat.dflt = x at hid y1 y2 y3 y4 y5 ⊢
            generalize nl.getD k Flat.dflt = y at y1 y2 y3 y4 y5 key ⊢
            rcases key with hw0 | hw0
            · clear y4
              refine s_fork ?_ ?_
              all_goals
                (repeat' (first | (show VH _ _ _ _ _ _ _; first | refine v_seq ?_ | refine r_seq ?_ | refine v_skip ?_ | refine v_cond_f rfl tbL ?_) | (show SH _ _ _ _ _ (_ :: _) _ _ _; first | (show SH _ _ _ _ _ (⟨_, _, _, _, _, some _⟩ :: _) _ _ _; first | (refine gif rfl rfl ?_; first | refine giTF tbL ?_ | refine giFF tbL ?_) | refine gu rfl rfl ?_) | refine mov evL ?_ | (show SH _ _ _ _ _ (⟨_, .binOp _ _ _ _ _, _, _, _, _⟩ :: _) _ _ _; first | refine add rfl rfl inL ?_ | refine lss rfl rfl ?_ | refine neq rfl rfl ?_) | refine lbx rfl spL (by rfl) ?_ | refine bmax rfl rfl ?_ | refine pkf rfl tbL evL ?_ | refine fad rfl ?_ | refine ala rfl (fun b => ?_) | refine sta rfl rfl rfl spL (by rfl) (by rfl) (by rfl) kpL ?_) | refine s_nil ?_ | refine kh_normal ?_))
                refine r_heldT [bx _ 38 (Flat.enc y)] (tr [(0, true), (1, true), (2, true), (3, true), (4, true), (5, true), (6, true), (7, true), (8, false), (9, false), (10, false), (11, false), (12, false), (13, false), (14, false), (15, false)] .nil) hmix (by kernel_rfl) enL ?_
                (repeat' (first | (show VH _ _ _ _ _ _ _; first | refine v_seq ?_ | refine r_seq ?_) | (show SH _ _ _ _ _ (_ :: _) _ _ _; first | (show SH _ _ _ _ _ (⟨_, .load _ _, _, _, _, _⟩ :: _) _ _ _; first | refine lbx rfl spL (by rfl) ?_ | refine lba rfl spL (by rfl) ?_) | refine fad rfl ?_ | refine stb rfl rfl evL spL rfl rfl (by first | decide | exact Nat.zero_lt_succ _ | exact of_decide_eq_true rfl) kpL ?_) | refine s_nil ?_ | refine kh_normal ?_))
                refine nea { x with till := y.till, price := y.price, most := y.most, leader := y.leader } y rfl rfl ?_
                rw [decide_eq_true y5]
                (repeat' (first | (show VH _ _ _ _ _ _ _; first | refine r_seq ?_ | refine v_skip ?_ | refine v_cond_f rfl tbL ?_) | (show SH _ _ _ _ _ (_ :: _) _ _ _; first | refine mov evL ?_ | refine asg evL ?_ | refine add rfl rfl inL ?_) | refine s_nil ?_ | refine kh_normal ?_ | refine bh_normal ?_))
                exact ⟨agL, k + 1, hsL, enL, by show k + 1 ≤ _; omega, by show _ - (k + 1) < _ - k; omega⟩
            · obtain ⟨z1, z2, z3, z4⟩ := y4 hw0
              clear y4
              refine s_fork ?_ ?_
              all_goals
                (repeat' (first | (show VH _ _ _ _ _ _ _; first | refine v_seq ?_ | refine r_seq ?_ | refine v_skip ?_ | refine v_cond_f rfl tbL ?_) | (show SH _ _ _ _ _ (_ :: _) _ _ _; first | (refine gif rfl rfl ?_; first | refine giTT tbL ?_ | refine giFF tbL ?_) | refine mov evL ?_ | (show SH _ _ _ _ _ (⟨_, .binOp _ _ _ _ _, _, _, _, _⟩ :: _) _ _ _; first | refine add rfl rfl inL ?_ | refine lss rfl rfl ?_ | refine neq rfl rfl ?_) | refine lbx rfl spL (by rfl) ?_ | (show SH _ _ _ _ _ (⟨_, .call ⟨.builtin _, _, _⟩, _, _, _, _⟩ :: _) _ _ _; first | refine slen rfl ?_ | refine bmax rfl rfl ?_) | refine pkt rfl tbL evL ?_ | refine pkf rfl tbL evL ?_ | refine fad rfl ?_ | refine ala rfl (fun b => ?_) | refine sta rfl rfl rfl spL (by rfl) (by rfl) (by rfl) kpL ?_) | refine s_nil ?_ | refine kh_normal ?_))
                refine r_heldT [bx _ 38 (Flat.enc y)] (tr [(0, true), (1, true), (2, true), (3, true), (4, true), (5, true), (6, true), (7, true), (8, false), (9, false), (10, false), (11, false), (12, false), (13, false), (14, false), (15, false)] .nil) hmix (by kernel_rfl) enL ?_
                (repeat' (first | (show VH _ _ _ _ _ _ _; first | refine v_seq ?_ | refine r_seq ?_) | (show SH _ _ _ _ _ (_ :: _) _ _ _; first | (show SH _ _ _ _ _ (⟨_, .load _ _, _, _, _, _⟩ :: _) _ _ _; first | refine lbx rfl spL (by rfl) ?_ | refine lba rfl spL (by rfl) ?_) | refine fad rfl ?_ | refine stb rfl rfl evL spL rfl rfl (by first | decide | exact Nat.zero_lt_succ _ | exact of_decide_eq_true rfl) kpL ?_) | refine s_nil ?_ | refine kh_normal ?_))
                refine nea { x with till := y.till, price := y.price, most := y.most, leader := y.leader } y rfl rfl ?_
                rw [decide_eq_true y5]
                (repeat' (first | (show VH _ _ _ _ _ _ _; first | refine r_seq ?_ | refine v_skip ?_ | refine v_cond_f rfl tbL ?_) | (show SH _ _ _ _ _ (_ :: _) _ _ _; first | refine mov evL ?_ | refine asg evL ?_ | refine add rfl rfl inL ?_) | refine s_nil ?_ | refine kh_normal ?_ | refine bh_normal ?_))
                exact ⟨agL, k + 1, hsL, enL, by show k + 1 ≤ _; omega, by show _ - (k + 1) < _ - k; omega⟩
          · have hne : (lots.getD k Flat.dflt).id ≠ id := fun e => hki (hinj k hkl e)
            have e := hno k hki
            have hkn : k < nl.length := by omega
            clear hni hno hinj p1 p2 p3 p4 p5 p6 p7 p8 hinc
            (repeat' (first | (show VH _ _ _ _ _ _ _; first | refine v_seq ?_ | refine r_seq ?_ | refine v_block ?_ | refine v_skip ?_ | refine v_cond_t rfl tbL ?_) | (show SH _ _ _ _ _ (_ :: _) _ _ _; first | refine mov evL ?_ | refine lss rfl rfl ?_ | refine lbx rfl spL (by rfl) ?_ | refine slen rfl ?_ | refine fad rfl ?_) | refine s_nil ?_ | refine kh_normal ?_))
            refine r_heldT [bx b4 26 _, bx b 26 _, orow 38 A1 c1 nl] (tr [(0, true), (1, true), (2, true), (3, true), (4, true), (5, true), (6, true), (7, true), (8, true), (9, true)] (.fork 10 (tr [(11, false), (12, false), (13, false)] .nil) 11 (tr [(10, false), (12, false), (13, false)] .nil))) hmix (by kernel_rfl) enL ?_
            (repeat' ((show SH _ _ _ _ _ (_ :: _) _ _ _; first | refine mov evL ?_ | (show SH _ _ _ _ _ (⟨_, .load _ _, _, _, _, _⟩ :: _) _ _ _; first | refine lbx rfl spL (by rfl) ?_ | refine lra rfl (fun _ _ => rdL) (by rfl) omL ?_) | refine ix rfl rfl (by with_reducible rfl) (fun _ _ => rdL) (by rfl) omL omL ?_ | refine fad rfl ?_)))
            rw [e]
            generalize lots.getD k Flat.dflt = x at hne ⊢
            refine s_fork ?_ ?_
            all_goals
              (repeat' (first | (show VH _ _ _ _ _ _ _; first | refine v_seq ?_ | refine r_seq ?_ | refine v_cond_t rfl tbL ?_) | (show SH _ _ _ _ _ (_ :: _) _ _ _; first | refine mov evL ?_ | refine neq rfl rfl ?_ | (show SH _ _ _ _ _ (⟨_, .load _ _, _, _, _, _⟩ :: _) _ _ _; first | refine lbx rfl spL (by rfl) ?_ | refine lba rfl spL (by rfl) ?_) | refine fad rfl ?_ | refine ala rfl (fun b => ?_) | refine sta rfl rfl rfl spL (by rfl) (by rfl) (by rfl) kpL ?_) | refine s_nil ?_ | refine kh_normal ?_))
              refine nea x x rfl rfl ?_
              rw [decide_eq_true rfl]
              (repeat' (first | (show VH _ _ _ _ _ _ _; first | refine r_seq ?_ | refine v_skip ?_ | refine v_exit ?_ | refine v_cond_f rfl tbL ?_) | (show SH _ _ _ _ _ (_ :: _) _ _ _; first | refine mov evL ?_ | refine asg evL ?_ | refine add rfl rfl inL ?_) | refine s_nil ?_ | refine kh_normal ?_ | refine kh_exit ?_ | refine bh_exit ?_))
              exact ⟨agL, k + 1, hsL, enL, by show k + 1 ≤ _; omega, by show _ - (k + 1) < _ - k; omega⟩
        · have hke : k = lots.length := by omega
          (repeat' (first | (show VH _ _ _ _ _ _ _; first | refine v_seq ?_ | refine r_seq ?_ | refine v_block ?_ | refine v_exit ?_ | refine v_cond_f rfl tbL ?_) | (show SH _ _ _ _ _ (_ :: _) _ _ _; first | refine mov evL ?_ | refine asg evL ?_ | refine lss rfl rfl ?_ | refine lbx rfl spL (by rfl) ?_ | refine slen rfl ?_ | refine fad rfl ?_) | refine s_nil ?_ | refine kh_normal ?_ | refine kh_exit ?_ | refine bh_exit ?_))
          refine v_norm [(2,_),(10,_),(15,_)] heL (fun g => ?_)
          refine v_loop0 [(8,8),(15,15),(152,180)] (fun j : Nat => [(15, .int .i64 j)]) (fun j => j ≤ m.length) (fun j => m.length - j) 0 hsL (Nat.zero_le _) ?_
          rintro j g hj
          simp only [sets]
          by_cases hjl : j < m.length
          · obtain ⟨q1, q2⟩ := p6 _ (Go.Fw.getD_mem (d := Flat.dflt) hjl)
            have key : (m.getD j Flat.dflt).dst = 0 ∨ (m.getD j Flat.dflt).dst ≠ 0 := by omega
            rcases key with hd | hd
            · have q3 := q2 hd
              (repeat' (first | (show VH _ _ _ _ _ _ _; first | refine v_seq ?_ | refine r_seq ?_ | refine v_block ?_ | refine v_skip ?_ | refine v_cond_t rfl tbL ?_ | refine v_cond_f rfl tbL ?_) | (show SH _ _ _ _ _ (_ :: _) _ _ _; first | (refine gif rfl rfl ?_; first | refine giTT tbL ?_ | refine giFF tbL ?_) | refine mov evL ?_ | refine asg evL ?_ | (show SH _ _ _ _ _ (⟨_, .binOp _ _ _ _ _, _, _, _, _⟩ :: _) _ _ _; first | refine add rfl rfl inL ?_ | refine lss rfl rfl ?_ | refine eql rfl rfl ?_ | refine neq rfl rfl ?_) | refine lrf rfl (fun _ _ => rdL) (by rfl) omL (by rfl) ?_ | refine ix rfl rfl (by with_reducible rfl) (fun _ _ => rdL) (by rfl) omL omL ?_ | refine slen rfl ?_ | refine pkt rfl tbL evL ?_ | refine pkf rfl tbL evL ?_ | refine fad rfl ?_) | refine s_nil ?_ | refine kh_normal ?_ | refine bh_normal ?_))
              exact ⟨agL, j + 1, hsL, enL, by show j + 1 ≤ _; omega, by show _ - (j + 1) < _ - j; omega⟩
            · (repeat' (first | (show VH _ _ _ _ _ _ _; first | refine v_seq ?_ | refine r_seq ?_ | refine v_block ?_ | refine v_skip ?_ | refine v_cond_t rfl tbL ?_ | refine v_cond_f rfl tbL ?_) | (show SH _ _ _ _ _ (_ :: _) _ _ _; first | (refine gif rfl rfl ?_; first | refine giTF tbL ?_ | refine giFF tbL ?_) | refine mov evL ?_ | refine asg evL ?_ | (show SH _ _ _ _ _ (⟨_, .binOp _ _ _ _ _, _, _, _, _⟩ :: _) _ _ _; first | refine add rfl rfl inL ?_ | refine lss rfl rfl ?_ | refine eql rfl rfl ?_ | refine neq rfl rfl ?_) | refine lrf rfl (fun _ _ => rdL) (by rfl) omL (by rfl) ?_ | refine ix rfl rfl (by with_reducible rfl) (fun _ _ => rdL) (by rfl) omL omL ?_ | refine slen rfl ?_ | refine pkf rfl tbL evL ?_ | refine fad rfl ?_) | refine s_nil ?_ | refine kh_normal ?_ | refine bh_normal ?_))
              exact ⟨agL, j + 1, hsL, enL, by show j + 1 ≤ _; omega, by show _ - (j + 1) < _ - j; omega⟩
          · (repeat' (first | (show VH _ _ _ _ _ _ _; first | refine v_seq ?_ | refine r_seq ?_ | refine v_ret ?_ | refine v_exit ?_ | refine v_cond_f rfl tbL ?_) | (show SH _ _ _ _ _ (_ :: _) _ _ _; first | refine mov evL ?_ | refine asg evL ?_ | (show SH _ _ _ _ _ (⟨_, .binOp _ _ _ _ _, _, _, _, _⟩ :: _) _ _ _; first | refine lss rfl rfl ?_ | refine leq rfl rfl ?_) | refine slen rfl ?_) | refine s_nil ?_ | refine kh_normal ?_ | refine kh_exit ?_ | refine bh_exit ?_))
            exact rh1 rfl rfl ⟨congrArg Value.bool (decide_eq_true (by omega)), rfl⟩ (ent_nil _)
    · generalize bidH h id who most = r at he hbs
      obtain ⟨h', m', e'⟩ := r
      obtain ⟨tick, last, lots⟩ := h
      unfold hv at hvs hbs ⊢
      simp only at h40 hr hvs hbs he ⊢
      refine enterH Try.func5 rfl rfl Try.ntmps5 rfl (Wd.refl _) ?_
      (repeat' (first | (show VH _ _ _ _ _ _ _; first | refine v_seq ?_ | refine r_seq ?_ | refine v_skip ?_ | refine v_cond_f rfl tbL ?_) | (show SH _ _ _ _ _ (_ :: _) _ _ _; first | (refine gif rfl rfl ?_; refine giFF tbL ?_) | refine mov evL ?_ | refine asg evL ?_ | refine gtr rfl rfl ?_ | (show SH _ _ _ _ _ (⟨_, .load _ _, _, _, _, _⟩ :: _) _ _ _; first | refine lbx rfl spL (by rfl) ?_ | refine lba rfl spL (by rfl) ?_) | refine slen rfl ?_ | (show SH _ _ _ _ _ (⟨_, .call ⟨.value (.func 12), _, _⟩, _, _, _, _⟩ :: _) _ _ _; refine cl (callee := .func 12) rfl (fun w hw => awake_spec w) rfl rfl ?_) | (show SH _ _ _ _ _ (⟨_, .call ⟨.value (.func 18), _, _⟩, _, _, _, _⟩ :: _) _ _ _; refine cl (callee := .func 18) rfl (fun w hw => hvs _ (hr.ext hw.ext)) rfl rfl ?_) | (show SH _ _ _ _ _ (⟨_, .call ⟨.value (.func 15), _, _⟩, _, _, _, _⟩ :: _) _ _ _; refine cp (callee := .func 15) rfl (fun w hw => hbs _ (hr.ext hw.ext)) rfl rfl ?_) | refine pkf rfl tbL evL ?_ | refine bnot rfl ?_ | refine fad rfl ?_ | refine bxx rfl evL rfl (fun b => ?_)) | refine s_nil ?_ | refine kh_normal ?_))
      rintro _ _ ⟨A1, c1, B, d, rfl, rfl⟩
      (repeat' (first | (show VH _ _ _ _ _ _ _; first | refine v_seq ?_ | refine r_seq ?_ | refine v_ret ?_ | refine v_cond_t rfl tbL ?_) | (show SH _ _ _ _ _ (_ :: _) _ _ _; first | refine mov evL ?_ | refine asg evL ?_ | refine neq rfl rfl ?_ | refine extr rfl rfl ?_ | refine ala rfl (fun b => ?_) | refine sta rfl rfl rfl spL (by rfl) (by rfl) (by rfl) kpL ?_) | refine s_nil ?_ | refine kh_normal ?_ | refine kh_ret ?_))
      exact rh1 rfl rfl ⟨rfl, rfl⟩ (ent_nil _)
end Go.Proofs.Ytehjdbgijibmcaa
