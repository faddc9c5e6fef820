/- PartyShares: from the law's function. -/
import Derived.Test.YtlfbcoohfnoacaaZTwp
import Derived.Test.YtlfbcoohfnoacaaZMp
import Derived.Test.YtlfbcoohfnoacaaZWz
import Derived.Test.YtlfbcoohfnoacaaZUwd
import Derived.Test.YtlfbcoohfnoacaaZUf
set_option linter.unusedSimpArgs false
set_option linter.unusedVariables false
namespace Go.Proofs.Ytlfbcoohfnoacaa
open Go.Fw Go.RowKit
theorem sum_take_le {l : List Int} (h : ∀ x ∈ l, 0 ≤ x) (i : Nat) : 0 ≤ (l.take i).sum ∧ (l.take i).sum ≤ l.sum := by
  induction l generalizing i with
  | nil => simp
  | cons x l ih =>
    have hx := h x List.mem_cons_self
    have hl := fun y hy => h y (List.mem_cons_of_mem _ hy)
    cases i with
    | zero =>
      have := (ih hl l.length).1
      rw [List.take_length] at this
      simp; omega
    | succ i =>
      have := ih hl i
      rw [List.take_succ_cons, List.sum_cons, List.sum_cons]; omega
theorem sum_take_next {l : List Int} {i : Nat} (hi : i < l.length) : (l.take (i + 1)).sum = (l.take i).sum + l.getD i 0 := by
  rw [takeI hi, List.sum_append]; simp
set_option maxHeartbeats 4000000 in
set_option maxRecDepth 100000 in
theorem sharesLaw (t la : Int) (A : Option Addr) (L : List PtyP) (c : Nat) (id amount : Int) (W : World) (hl : L.length ≤ maxLen) (hr : RdP W A L) :
    Ret Try.prog 8 [hv36 t la A L c, .int .i64 id, .int .i64 amount].toArray W (Out W (.bool true)) := by
  have haw := fun w => awake36_spec w
  have hrA := hr.1
  have hsm := fun w h => small36_spec t la A L c w hl h
  by_cases hS : SmallP L
  · simp only [decide_eq_true hS] at hsm
    have hz := hS.sz
    have hvs := fun w hr => valid_spec t la A L c w hz hr
    cases hval : validHal ⟨t, la, ptys L⟩ with
    | false =>
      rw [hval] at hvs
      refine enterH Try.func8 rfl rfl Try.ntmps8 rfl (Wd.refl _) ?_
      (repeat' (first | (show VH _ _ _ _ _ _ _; first | refine v_seq ?_ | refine r_seq ?_ | refine v_ret ?_ | refine v_skip ?_ | refine v_cond_t rfl tbL ?_ | refine v_cond_f rfl tbL ?_) | (show SH _ _ _ _ _ (_ :: _) _ _ _; first | (show SH _ _ _ _ _ (⟨_, _, _, _, _, some _⟩ :: _) _ _ _; (refine gif rfl rfl ?_; refine giFF tbL ?_)) | (show SH _ _ _ _ _ (⟨_, .move _, _, _, _, _⟩ :: _) _ _ _; refine mov evL ?_) | (show SH _ _ _ _ _ (⟨_, .assign _, _, _, _, _⟩ :: _) _ _ _; refine asg evL ?_) | (show SH _ _ _ _ _ (⟨_, .load _ _, _, _, _, _⟩ :: _) _ _ _; refine lba rfl spL (by rfl) ?_) | (show SH _ _ _ _ _ (⟨_, .call ⟨.value (.func 10), _, _⟩, _, _, _, _⟩ :: _) _ _ _; refine cl (callee := .func 10) rfl (fun w hw => haw w) rfl rfl ?_) | (show SH _ _ _ _ _ (⟨_, .call ⟨.value (.func 11), _, _⟩, _, _, _, _⟩ :: _) _ _ _; refine cl (callee := .func 11) rfl (fun w hw => hsm w (hrA.ext hw.ext)) rfl rfl ?_) | (show SH _ _ _ _ _ (⟨_, .call ⟨.value (.func 12), _, _⟩, _, _, _, _⟩ :: _) _ _ _; refine cl (callee := .func 12) rfl (fun w hw => hvs w (hr.ext hw.ext)) rfl rfl ?_) | (show SH _ _ _ _ _ (⟨_, .unOp .not _ _, _, _, _, _⟩ :: _) _ _ _; first | refine bnoT rfl ?_ | refine bnoF rfl ?_) | (show SH _ _ _ _ _ (⟨_, .pick _ _ _, _, _, _, _⟩ :: _) _ _ _; refine pkf rfl tbL evL ?_) | (show SH _ _ _ _ _ (⟨_, .box _ _, _, _, _, _⟩ :: _) _ _ _; refine bxx rfl evL rfl (fun b => ?_))) | refine s_nil ?_ | refine kh_normal ?_ | refine kh_ret ?_))
      exact rh1 rfl rfl ⟨rfl, rfl⟩ (ent_nil _)
    | true =>
      rw [hval] at hvs
      have hV := valid_iff.1 hval
      have hpk := fun w => pick_spec amount 1099511627777 w (by omega) (by omega)
      have h0 : 0 ≤ amount % 1099511627777 := Int.emod_nonneg _ (by omega)
      have h1 : amount % 1099511627777 < 1099511627777 := Int.emod_lt_of_pos _ (by omega)
      generalize amount % 1099511627777 = am at hpk h0 h1
      have hsh := fun w hr => share_spec t la A L c id am w hz hr
      have hsh2 := fun w hr => share_spec t la A L c id (-1 - am) w hz hr
      have hfd := fun w hr => find36_spec t la A L c id w (by have := hz.len; omega) hr
      unfold shareM at hsh hsh2
      unfold findV at hfd
      rw [hval, if_pos rfl] at hsh hsh2
      simp only at hsh hsh2
      cases hid : idxP id (ptys L) with
      | none =>
        rw [hid] at hsh hsh2 hfd
        simp only at hsh hsh2 hfd
        clear hV
        refine enterH Try.func8 rfl rfl Try.ntmps8 rfl (Wd.refl _) ?_
        (repeat' (first | (show VH _ _ _ _ _ _ _; first | refine v_seq ?_ | refine r_seq ?_ | refine v_skip ?_ | refine v_cond_f rfl tbL ?_) | (show SH _ _ _ _ _ (_ :: _) _ _ _; first | (show SH _ _ _ _ _ (⟨_, _, _, _, _, some _⟩ :: _) _ _ _; (refine gif rfl rfl ?_; refine giFF tbL ?_)) | (show SH _ _ _ _ _ (⟨_, .move _, _, _, _, _⟩ :: _) _ _ _; refine mov evL ?_) | (show SH _ _ _ _ _ (⟨_, .assign _, _, _, _, _⟩ :: _) _ _ _; refine asg evL ?_) | (show SH _ _ _ _ _ (⟨_, .load _ _, _, _, _, _⟩ :: _) _ _ _; refine lba rfl spL (by rfl) ?_) | (show SH _ _ _ _ _ (⟨_, .call ⟨.value (.func 10), _, _⟩, _, _, _, _⟩ :: _) _ _ _; refine cl (callee := .func 10) rfl (fun w hw => haw w) rfl rfl ?_) | (show SH _ _ _ _ _ (⟨_, .call ⟨.value (.func 11), _, _⟩, _, _, _, _⟩ :: _) _ _ _; refine cl (callee := .func 11) rfl (fun w hw => hsm w (hrA.ext hw.ext)) rfl rfl ?_) | (show SH _ _ _ _ _ (⟨_, .call ⟨.value (.func 12), _, _⟩, _, _, _, _⟩ :: _) _ _ _; refine cl (callee := .func 12) rfl (fun w hw => hvs w (hr.ext hw.ext)) rfl rfl ?_) | (show SH _ _ _ _ _ (⟨_, .call ⟨.value (.func 16), _, _⟩, _, _, _, _⟩ :: _) _ _ _; refine cl (callee := .func 16) rfl (fun w hw => hpk w) rfl rfl ?_) | (show SH _ _ _ _ _ (⟨_, .call ⟨.value (.func 25), _, _⟩, _, _, _, _⟩ :: _) _ _ _; refine cp (callee := .func 25) rfl (fun w hw => hsh w (hr.ext hw.ext)) rfl rfl ?_) | refine bnoT rfl ?_ | (show SH _ _ _ _ _ (⟨_, .pick _ _ _, _, _, _, _⟩ :: _) _ _ _; refine pkf rfl tbL evL ?_) | (show SH _ _ _ _ _ (⟨_, .box _ _, _, _, _, _⟩ :: _) _ _ _; refine bxx rfl evL rfl (fun b => ?_))) | refine s_nil ?_ | refine kh_normal ?_))
        rintro _ _ ⟨A1, c1, rfl, rfl⟩
        (repeat' (first | (show VH _ _ _ _ _ _ _; first | refine v_seq ?_ | refine r_seq ?_ | refine v_ret ?_ | refine v_cond_t rfl tbL ?_) | (show SH _ _ _ _ _ (_ :: _) _ _ _; first | (show SH _ _ _ _ _ (⟨_, _, _, _, _, some _⟩ :: _) _ _ _; (refine gif rfl rfl ?_; refine giTT tbL ?_)) | (show SH _ _ _ _ _ (⟨_, .move _, _, _, _, _⟩ :: _) _ _ _; refine mov evL ?_) | (show SH _ _ _ _ _ (⟨_, .assign _, _, _, _, _⟩ :: _) _ _ _; refine asg evL ?_) | (show SH _ _ _ _ _ (⟨_, .binOp .eql _ _ _ _, _, _, _, _⟩ :: _) _ _ _; first | refine eqlT rfl rfl omD ?_ | refine eql rfl rfl ?_) | (show SH _ _ _ _ _ (⟨_, .load _ _, _, _, _, _⟩ :: _) _ _ _; refine lba rfl spL (by rfl) ?_) | refine slen rfl ?_ | (show SH _ _ _ _ _ (⟨_, .call ⟨.value (.func 18), _, _⟩, _, _, _, _⟩ :: _) _ _ _; refine cl (callee := .func 18) rfl (fun w hw => hfd w (hrA.ext hw.ext)) rfl rfl ?_) | refine bnoF rfl ?_ | (show SH _ _ _ _ _ (⟨_, .pick _ _ _, _, _, _, _⟩ :: _) _ _ _; refine pkt rfl tbL evL ?_) | refine extr rfl rfl ?_ | refine ala rfl (fun b => ?_) | (show SH _ _ _ _ _ (⟨_, .store _ _ _, _, _, _, _⟩ :: _) _ _ _; refine sta rfl rfl rfl spL (by rfl) (by rfl) (by rfl) kpL ?_)) | refine s_nil ?_ | refine kh_normal ?_ | refine kh_ret ?_))
        exact rh1 rfl rfl ⟨rfl, rfl⟩ (ent_nil _)
      | some k =>
        have hk := idxP_lt id L hid
        rw [hid] at hsh hsh2 hfd
        simp only at hsh hsh2 hfd
        rw [if_pos ⟨h0, by omega⟩] at hsh
        rw [if_neg (by omega)] at hsh2
        simp only [ptys_at hk] at hsh hsh2
        have hok := hV.ok _ (List.mem_map_of_mem (f := PtyP.p) (getD_mem (d := Flat.dflt) hk))
        have hn1 : 1 ≤ (L.getD k Flat.dflt).p.mem.length := hok.2.1
        have hn5 : (L.getD k Flat.dflt).p.mem.length ≤ 5 := by have := hok.2.2.1; omega
        obtain ⟨x, hx⟩ : ∃ x, L.getD k Flat.dflt = x := ⟨_, rfl⟩
        rw [hx] at hsh hfd hn1 hn5
        clear hx hok hV
        obtain ⟨⟨xi, xl, xm, xv⟩, xA, xca, xB, xcb⟩ := x
        simp only at hsh hn1 hn5
        rw [show Flat.enc (⟨⟨xi, xl, xm, xv⟩, xA, xca, xB, xcb⟩ : PtyP) = [.int .i64 xi, .int .i64 xl, .slice xA xm.length xca, .slice xB xv.length xcb] from rfl] at hfd
        obtain ⟨n, hn⟩ : ∃ n, xm.length = n := ⟨_, rfl⟩
        rw [hn] at hsh hfd hn1 hn5
        have hDl := shares_len am n
        have hDp := fun i (hi : i < n) => shares_pos (amount := am) h0 hi
        have hDf := fun i (hi : i < n) => shares_first (amount := am) hi
        have hDv := fun i (hi : i + 1 < n) => shares_prev (amount := am) hi
        have hDs := shares_sum (amount := am) (n := n) (by omega)
        generalize sharesM am n = D at hsh hDl hDp hDf hDv hDs
        have hnn : ∀ y ∈ D, 0 ≤ y := fun y hy => by
          obtain ⟨i, hi, e⟩ := List.mem_iff_getElem.1 hy
          have := hDp i (by omega)
          rw [List.getD_eq_getElem?_getD, List.getElem?_eq_getElem hi, Option.getD_some, e] at this
          exact this
        have hst := fun i => sum_take_le hnn i
        have hsn := fun i (hi : i < D.length) => sum_take_next hi
        rw [hDs] at hst
        clear hnn
        refine enterH Try.func8 rfl rfl Try.ntmps8 rfl (Wd.refl _) ?_
        (repeat' (first | (show VH _ _ _ _ _ _ _; first | refine v_seq ?_ | refine r_seq ?_ | refine v_skip ?_ | refine v_cond_f rfl tbL ?_) | (show SH _ _ _ _ _ (_ :: _) _ _ _; first | (show SH _ _ _ _ _ (⟨_, _, _, _, _, some _⟩ :: _) _ _ _; (refine gif rfl rfl ?_; refine giFF tbL ?_)) | (show SH _ _ _ _ _ (⟨_, .move _, _, _, _, _⟩ :: _) _ _ _; refine mov evL ?_) | (show SH _ _ _ _ _ (⟨_, .assign _, _, _, _, _⟩ :: _) _ _ _; refine asg evL ?_) | (show SH _ _ _ _ _ (⟨_, .load _ _, _, _, _, _⟩ :: _) _ _ _; refine lba rfl spL (by rfl) ?_) | (show SH _ _ _ _ _ (⟨_, .call ⟨.value (.func 10), _, _⟩, _, _, _, _⟩ :: _) _ _ _; refine cl (callee := .func 10) rfl (fun w hw => haw w) rfl rfl ?_) | (show SH _ _ _ _ _ (⟨_, .call ⟨.value (.func 11), _, _⟩, _, _, _, _⟩ :: _) _ _ _; refine cl (callee := .func 11) rfl (fun w hw => hsm w (hrA.ext hw.ext)) rfl rfl ?_) | (show SH _ _ _ _ _ (⟨_, .call ⟨.value (.func 12), _, _⟩, _, _, _, _⟩ :: _) _ _ _; refine cl (callee := .func 12) rfl (fun w hw => hvs w (hr.ext hw.ext)) rfl rfl ?_) | (show SH _ _ _ _ _ (⟨_, .call ⟨.value (.func 16), _, _⟩, _, _, _, _⟩ :: _) _ _ _; refine cl (callee := .func 16) rfl (fun w hw => hpk w) rfl rfl ?_) | (show SH _ _ _ _ _ (⟨_, .call ⟨.value (.func 25), _, _⟩, _, _, _, _⟩ :: _) _ _ _; refine cp (callee := .func 25) rfl (fun w hw => hsh w (hr.ext hw.ext)) rfl rfl ?_) | refine bnoT rfl ?_ | (show SH _ _ _ _ _ (⟨_, .pick _ _ _, _, _, _, _⟩ :: _) _ _ _; refine pkf rfl tbL evL ?_) | (show SH _ _ _ _ _ (⟨_, .box _ _, _, _, _, _⟩ :: _) _ _ _; refine bxx rfl evL rfl (fun b => ?_))) | refine s_nil ?_ | refine kh_normal ?_))
        rintro _ _ ⟨A1, c1, rfl, rfl⟩
        (repeat' (first | (show VH _ _ _ _ _ _ _; first | refine v_seq ?_ | refine r_seq ?_ | refine v_block ?_ | refine v_skip ?_ | refine v_cond_f rfl tbL ?_) | (show SH _ _ _ _ _ (_ :: _) _ _ _; first | (show SH _ _ _ _ _ (⟨_, _, _, _, _, some _⟩ :: _) _ _ _; (refine gif rfl rfl ?_; refine giFF tbL ?_)) | (show SH _ _ _ _ _ (⟨_, .move _, _, _, _, _⟩ :: _) _ _ _; refine mov evL ?_) | (show SH _ _ _ _ _ (⟨_, .assign _, _, _, _, _⟩ :: _) _ _ _; refine asg evL ?_) | (show SH _ _ _ _ _ (⟨_, .binOp .neq _ _ _ _, _, _, _, _⟩ :: _) _ _ _; refine neqF rfl rfl omD ?_) | (show SH _ _ _ _ _ (⟨_, .load _ _, _, _, _, _⟩ :: _) _ _ _; first | refine lbx rfl spL (by rfl) ?_ | refine lba rfl spL (by rfl) ?_) | refine slen rfl ?_ | (show SH _ _ _ _ _ (⟨_, .call ⟨.value (.func 18), _, _⟩, _, _, _, _⟩ :: _) _ _ _; refine cl (callee := .func 18) rfl (fun w hw => hfd w (hrA.ext hw.ext)) rfl rfl ?_) | refine bnoT rfl ?_ | (show SH _ _ _ _ _ (⟨_, .pick _ _ _, _, _, _, _⟩ :: _) _ _ _; refine pkf rfl tbL evL ?_) | refine extr rfl rfl ?_ | refine fad rfl ?_ | refine ala rfl (fun b => ?_) | (show SH _ _ _ _ _ (⟨_, .store _ _ _, _, _, _, _⟩ :: _) _ _ _; refine sta rfl rfl rfl spL (by rfl) (by rfl) (by rfl) kpL ?_)) | refine s_nil ?_ | refine kh_normal ?_))
        clear hfd hsh hpk hvs hsm haw
        rename_i b3
        refine v_norm [(1,_),(2,_),(3,_),(7,_),(11,_),(12,_)] heL (fun g => ?_)
        refine VH.ent (G := [bx b3 24 [.int .i64 t, .int .i64 la, .slice A L.length c], orow 3 A1 c1 D]) ?_ enL
        refine v_loop0 [(6,6),(11,12),(59,102)] (fun i : Nat => [(12, .int .i64 i), (11, .int .i64 (D.take i).sum)]) (fun i => i ≤ n) (fun i => n - i) 0 hsL (Nat.zero_le _) ?_
        rintro i g hi
        simp only [sets]
        by_cases hin : i < n
        · have e1 := hDp i hin
          have e2 := hDf i hin
          have e3 := hsn i (by omega)
          have e4 := hst i
          have e5 := hst (i + 1)
          rw [e3] at e5
          obtain ⟨z, hz0⟩ : ∃ z, D.getD (Int.toNat 0) 0 = z := ⟨_, rfl⟩
          have hz1 : D.getD 0 0 = z := hz0
          have e8 := hDp 0 (by omega)
          rw [hz1] at e2 e8
          obtain ⟨u, hu⟩ : ∃ u, D.getD i 0 = u := ⟨_, rfl⟩
          rw [hu] at e1 e2 e3 e5
          cases i with
          | zero =>
            clear hDv hDf hDp hst hsn hDs
            (repeat' (first | (show VH _ _ _ _ _ _ _; first | refine v_seq ?_ | refine r_seq ?_ | refine r_quiet hmix (by kernel_rfl) ?_ | refine v_block ?_ | refine v_skip ?_ | refine v_cond_t rfl tbL ?_ | refine v_cond_f rfl tbL ?_) | (show SH _ _ _ _ _ (_ :: _) _ _ _; first | (show SH _ _ _ _ _ (⟨_, _, _, _, _, some _⟩ :: _) _ _ _; (refine gif rfl rfl ?_; first | refine giTF tbL ?_ | refine giFF tbL ?_)) | (show SH _ _ _ _ _ (⟨_, .move _, _, _, _, _⟩ :: _) _ _ _; refine mov evL ?_) | (show SH _ _ _ _ _ (⟨_, .assign _, _, _, _, _⟩ :: _) _ _ _; refine asg evL ?_) | (show SH _ _ _ _ _ (⟨_, .binOp .lss _ _ _ _, _, _, _, _⟩ :: _) _ _ _; first | refine lssT rfl rfl omD ?_ | refine lssF rfl rfl omD ?_) | (show SH _ _ _ _ _ (⟨_, .binOp .gtr _ _ _ _, _, _, _, _⟩ :: _) _ _ _; refine gtrF rfl rfl omD ?_) | (show SH _ _ _ _ _ (⟨_, .binOp .add _ _ _ _, _, _, _, _⟩ :: _) _ _ _; refine add rfl rfl inL ?_) | (show SH _ _ _ _ _ (⟨_, .binOp .sub _ _ _ _, _, _, _, _⟩ :: _) _ _ _; refine sub rfl rfl inL ?_) | (show SH _ _ _ _ _ (⟨_, .load _ _, _, _, _, _⟩ :: _) _ _ _; refine lgi rfl (fun _ _ => rdY) omL (by assumption) ?_) | (show SH _ _ _ _ _ (⟨_, .indexAddr _ _ _, _, _, _, _⟩ :: _) _ _ _; first | refine ix rfl rfl (by with_reducible rfl) (fun _ _ => rdY) (by rfl) omL omL ?_ | refine ixi rfl rfl (fun _ _ => rdY) (by rfl) omL omL omL ?_ | refine ixi rfl rfl (fun _ _ => rdY) (by rfl) omL (by first | omega | (simp only [List.length_cons, List.length_nil]; omega)) (by simp only [List.length_cons, List.length_nil]; omega) ?_) | refine slen rfl ?_ | (show SH _ _ _ _ _ (⟨_, .pick _ _ _, _, _, _, _⟩ :: _) _ _ _; refine pkf rfl tbL evL ?_)) | refine s_nil ?_ | refine kh_normal ?_ | refine bh_normal ?_))
            exact ⟨agL, 0 + 1, by rw [e3]; (repeat (first | exact trivial | refine And.intro rfl ?_)), enL, hin, by omega⟩
          | succ j =>
            have e6 := hDv j hin
            rw [hu] at e6
            have e7 : ((j + 1 : Nat) : Int) - 1 = j := by omega
            obtain ⟨v, hv⟩ : ∃ v, D.getD (((j + 1 : Nat) : Int) - 1).toNat 0 = v := ⟨_, rfl⟩
            have hv' : D.getD j 0 = v := by rw [← hv, e7, Int.toNat_natCast]
            rw [hv'] at e6
            clear hDv hDf hDp hst hsn hDs e7 hv'
            (repeat' (first | (show VH _ _ _ _ _ _ _; first | refine v_seq ?_ | refine r_seq ?_ | refine r_quiet hmix (by kernel_rfl) ?_ | refine v_block ?_ | refine v_skip ?_ | refine v_cond_t rfl tbL ?_ | refine v_cond_f rfl tbL ?_) | (show SH _ _ _ _ _ (_ :: _) _ _ _; first | (show SH _ _ _ _ _ (⟨_, _, _, _, _, some _⟩ :: _) _ _ _; (refine gif rfl rfl ?_; first | refine giTT tbL ?_ | refine giFF tbL ?_)) | (show SH _ _ _ _ _ (⟨_, .move _, _, _, _, _⟩ :: _) _ _ _; refine mov evL ?_) | (show SH _ _ _ _ _ (⟨_, .assign _, _, _, _, _⟩ :: _) _ _ _; refine asg evL ?_) | (show SH _ _ _ _ _ (⟨_, .binOp .lss _ _ _ _, _, _, _, _⟩ :: _) _ _ _; first | refine lssT rfl rfl omD ?_ | refine lssF rfl rfl omD ?_) | (show SH _ _ _ _ _ (⟨_, .binOp .gtr _ _ _ _, _, _, _, _⟩ :: _) _ _ _; first | refine gtrT rfl rfl omD ?_ | refine gtrF rfl rfl omD ?_) | (show SH _ _ _ _ _ (⟨_, .binOp .add _ _ _ _, _, _, _, _⟩ :: _) _ _ _; refine add rfl rfl inL ?_) | (show SH _ _ _ _ _ (⟨_, .binOp .sub _ _ _ _, _, _, _, _⟩ :: _) _ _ _; refine sub rfl rfl inL ?_) | (show SH _ _ _ _ _ (⟨_, .load _ _, _, _, _, _⟩ :: _) _ _ _; refine lgi rfl (fun _ _ => rdY) omL (by assumption) ?_) | (show SH _ _ _ _ _ (⟨_, .indexAddr _ _ _, _, _, _, _⟩ :: _) _ _ _; first | refine ix rfl rfl (by with_reducible rfl) (fun _ _ => rdY) (by rfl) omL omL ?_ | refine ixi rfl rfl (fun _ _ => rdY) (by rfl) omL omL omL ?_ | refine ixi rfl rfl (fun _ _ => rdY) (by rfl) omL (by first | omega | (simp only [List.length_cons, List.length_nil]; omega)) (by simp only [List.length_cons, List.length_nil]; omega) ?_) | refine slen rfl ?_ | (show SH _ _ _ _ _ (⟨_, .pick _ _ _, _, _, _, _⟩ :: _) _ _ _; first | refine pkt rfl tbL evL ?_ | refine pkf rfl tbL evL ?_)) | refine s_nil ?_ | refine kh_normal ?_ | refine bh_normal ?_))
            exact ⟨agL, j + 1 + 1, by rw [e3]; (repeat (first | exact trivial | refine And.intro rfl ?_)), enL, hin, by omega⟩
        · obtain rfl : i = n := by omega
          rw [show (D.take i).sum = am by rw [← hDs, ← hDl, List.take_length]]
          clear hDv hDf hDp hst hsn hDs
          (repeat' (first | (show VH _ _ _ _ _ _ _; first | refine v_seq ?_ | refine r_seq ?_ | refine v_exit ?_ | refine v_cond_f rfl tbL ?_) | (show SH _ _ _ _ _ (_ :: _) _ _ _; first | (show SH _ _ _ _ _ (⟨_, .move _, _, _, _, _⟩ :: _) _ _ _; refine mov evL ?_) | (show SH _ _ _ _ _ (⟨_, .binOp .lss _ _ _ _, _, _, _, _⟩ :: _) _ _ _; refine lssF rfl rfl omD ?_) | (show SH _ _ _ _ _ (⟨_, .binOp .sub _ _ _ _, _, _, _, _⟩ :: _) _ _ _; refine sub rfl rfl inL ?_) | (show SH _ _ _ _ _ (⟨_, .load _ _, _, _, _, _⟩ :: _) _ _ _; refine lba rfl spL (by rfl) ?_) | refine slen rfl ?_ | (show SH _ _ _ _ _ (⟨_, .call ⟨.value (.func 25), _, _⟩, _, _, _, _⟩ :: _) _ _ _; refine cp (callee := .func 25) rfl (fun w hw => hsh2 w (hr.ext hw.ext)) rfl rfl ?_)) | refine s_nil ?_ | refine kh_normal ?_ | refine kh_exit ?_ | refine bh_exit ?_))
          rintro _ _ ⟨A2, c2, rfl, rfl⟩
          (repeat' (first | (show VH _ _ _ _ _ _ _; first | refine v_seq ?_ | refine r_seq ?_ | refine v_ret ?_) | (show SH _ _ _ _ _ (_ :: _) _ _ _; first | (show SH _ _ _ _ _ (⟨_, _, _, _, _, some _⟩ :: _) _ _ _; (refine gif rfl rfl ?_; refine giTT tbL ?_)) | (show SH _ _ _ _ _ (⟨_, .move _, _, _, _, _⟩ :: _) _ _ _; refine mov evL ?_) | (show SH _ _ _ _ _ (⟨_, .assign _, _, _, _, _⟩ :: _) _ _ _; refine asg evL ?_) | (show SH _ _ _ _ _ (⟨_, .binOp .eql _ _ _ _, _, _, _, _⟩ :: _) _ _ _; refine eqlT rfl rfl omD ?_) | (show SH _ _ _ _ _ (⟨_, .pick _ _ _, _, _, _, _⟩ :: _) _ _ _; refine pkt rfl tbL evL ?_) | refine extr rfl rfl ?_) | refine s_nil ?_ | refine kh_normal ?_))
          exact rh1 rfl rfl ⟨rfl, rfl⟩ (ent_nil _)
  · simp only [decide_eq_false hS] at hsm
    refine enterH Try.func8 rfl rfl Try.ntmps8 rfl (Wd.refl _) ?_
    (repeat' (first | (show VH _ _ _ _ _ _ _; first | refine v_seq ?_ | refine r_seq ?_ | refine v_ret ?_ | refine v_skip ?_ | refine v_cond_t rfl tbL ?_ | refine v_cond_f rfl tbL ?_) | (show SH _ _ _ _ _ (_ :: _) _ _ _; first | (show SH _ _ _ _ _ (⟨_, _, _, _, _, some _⟩ :: _) _ _ _; (refine gif rfl rfl ?_; refine giFT tbL ?_)) | (show SH _ _ _ _ _ (⟨_, .move _, _, _, _, _⟩ :: _) _ _ _; refine mov evL ?_) | (show SH _ _ _ _ _ (⟨_, .assign _, _, _, _, _⟩ :: _) _ _ _; refine asg evL ?_) | (show SH _ _ _ _ _ (⟨_, .load _ _, _, _, _, _⟩ :: _) _ _ _; refine lba rfl spL (by rfl) ?_) | (show SH _ _ _ _ _ (⟨_, .call ⟨.value (.func 10), _, _⟩, _, _, _, _⟩ :: _) _ _ _; refine cl (callee := .func 10) rfl (fun w hw => haw w) rfl rfl ?_) | (show SH _ _ _ _ _ (⟨_, .call ⟨.value (.func 11), _, _⟩, _, _, _, _⟩ :: _) _ _ _; refine cl (callee := .func 11) rfl (fun w hw => hsm w (hrA.ext hw.ext)) rfl rfl ?_) | (show SH _ _ _ _ _ (⟨_, .unOp .not _ _, _, _, _, _⟩ :: _) _ _ _; first | refine bnoT rfl ?_ | refine bnoF rfl ?_) | (show SH _ _ _ _ _ (⟨_, .pick _ _ _, _, _, _, _⟩ :: _) _ _ _; refine pkt rfl tbL evL ?_) | (show SH _ _ _ _ _ (⟨_, .box _ _, _, _, _, _⟩ :: _) _ _ _; refine bxx rfl evL rfl (fun b => ?_))) | refine s_nil ?_ | refine kh_normal ?_ | refine kh_ret ?_))
    exact rh1 rfl rfl ⟨rfl, rfl⟩ (ent_nil _)
end Go.Proofs.Ytlfbcoohfnoacaa
