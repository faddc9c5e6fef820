/- PartyJoins answers true, whatever the input; no condition. -/
import Derived.Test.YtlfbcoohfnoacaaZTwp
import Derived.Test.YtlfbcoohfnoacaaZMp
import Derived.Test.YtlfbcoohfnoacaaZWz
import Derived.Test.YtlfbcoohfnoacaaZUxv
import Derived.Test.YtlfbcoohfnoacaaZUi
import Derived.Test.YtlfbcoohfnoacaaZUq
set_option linter.unusedSimpArgs false
set_option linter.unusedVariables false
/- PartyJoins: from the law's function. -/
namespace Go.Proofs.Ytlfbcoohfnoacaa
open Go.Fw Go.RowKit
theorem cntB_snoc (f : Pty → Bool) (who : Int) (p : Pty) : ∀ l : List Pty, cntB f who (l ++ [p]) = cntB f who l + (if f p then p.inv.countP (fun i => decide (i.who = who)) else 0)
  | [] => by simp [cntB]
  | q :: l => by
    show (if f q then _ else 0) + cntB f who (l ++ [p]) = ((if f q then _ else 0) + cntB f who l) + _
    rw [cntB_snoc f who p l]; omega
theorem cntB_le (f : Pty → Bool) (who : Int) {L : List PtyP} (hz : SzP L) : ∀ k, k ≤ L.length → cntB f who ((ptys L).take k) ≤ 1000 * k
  | 0, _ => by simp [cntB]
  | k + 1, hk => by
    have h := cntB_le f who hz k (by omega)
    rw [take_snoc (d := pty0) (by rw [ptys_len]; omega), cntB_snoc, ptys_at (by omega)]
    have h1 : (L.getD k Flat.dflt).p.inv.countP (fun i => decide (i.who = who)) ≤ (L.getD k Flat.dflt).p.inv.length := List.countP_le_length
    have h2 := hz.ati (k := k) (by omega)
    split <;> omega
theorem countP_next (who : Int) {l : List Inv} {j : Nat} (hj : j < l.length) : (l.take (j + 1)).countP (fun i => decide (i.who = who)) = (l.take j).countP (fun i => decide (i.who = who)) + (if (l.getD j Flat.dflt).who = who then 1 else 0) := by
  rw [take_snoc (d := (Flat.dflt : Inv)) hj, List.countP_append]
  congr 1
  by_cases h : (l.getD j Flat.dflt).who = who
  · rw [if_pos h, List.countP_singleton, if_pos (decide_eq_true h)]
  · rw [if_neg h, List.countP_singleton, if_neg (by rw [decide_eq_true_eq]; exact h)]
theorem rd_pre36 {w : World} {A : Option Addr} {l m : List Int} (h : Rd w A (l ++ m)) : Rd w A l := by
  have := Rd.take h l.length
  rwa [List.take_left' rfl] at this
/-- What find gives, as one party. -/
def fndP (id : Int) (L : List PtyP) : PtyP := match idxP id (ptys L) with | none => Flat.dflt | some k => L.getD k Flat.dflt
theorem findV_one (id : Int) (L : List PtyP) : findV id L = .tuple #[.agg (Flat.enc (fndP id L)).toArray, .bool (idxP id (ptys L)).isSome] := by
  unfold findV fndP
  cases idxP id (ptys L) <;> rfl
set_option maxHeartbeats 16000000 in
set_option maxRecDepth 100000 in
theorem joinsLaw (t la : Int) (A : Option Addr) (L : List PtyP) (c : Nat) (who id : Int) (W : World) (hl : L.length ≤ maxLen) (hr : RdP W A L) :
    Ret Try.prog 5 [hv36 t la A L c, .int .i64 who, .int .i64 id].toArray W (Out W (.bool true)) := by
  have haw := fun w => awake36_spec w
  have hrA := hr.1
  have hsm := fun w h => small36_spec t la A L c w hl h
  by_cases hS : SmallP L
  case neg =>
    simp only [decide_eq_false hS] at hsm
    refine enterH Try.func5 rfl rfl Try.ntmps5 rfl (Wd.refl _) ?_
    (repeat' (first | (show VH _ _ _ _ _ _ _; first | refine v_seq ?_ | refine r_seq ?_ | refine v_ret ?_ | refine v_skip ?_ | refine v_cond_t rfl tbL ?_ | refine v_cond_f rfl tbL ?_) | (show SH _ _ _ _ _ (_ :: _) _ _ _; first | (show SH _ _ _ _ _ (⟨_, _, _, _, _, some _⟩ :: _) _ _ _; (refine gif rfl rfl ?_; refine giFT tbL ?_)) | (show SH _ _ _ _ _ (⟨_, .move _, _, _, _, _⟩ :: _) _ _ _; refine mov evL ?_) | (show SH _ _ _ _ _ (⟨_, .assign _, _, _, _, _⟩ :: _) _ _ _; refine asg evL ?_) | (show SH _ _ _ _ _ (⟨_, .load _ _, _, _, _, _⟩ :: _) _ _ _; refine lba rfl spL (by rfl) ?_) | (show SH _ _ _ _ _ (⟨_, .call ⟨.value (.func 10), _, _⟩, _, _, _, _⟩ :: _) _ _ _; refine cl (callee := .func 10) rfl (fun w hw => haw w) rfl rfl ?_) | (show SH _ _ _ _ _ (⟨_, .call ⟨.value (.func 11), _, _⟩, _, _, _, _⟩ :: _) _ _ _; refine cl (callee := .func 11) rfl (fun w hw => hsm w (hrA.ext hw.ext)) rfl rfl ?_) | (show SH _ _ _ _ _ (⟨_, .unOp .not _ _, _, _, _, _⟩ :: _) _ _ _; first | refine bnoT rfl ?_ | refine bnoF rfl ?_) | (show SH _ _ _ _ _ (⟨_, .pick _ _ _, _, _, _, _⟩ :: _) _ _ _; refine pkt rfl tbL evL ?_) | (show SH _ _ _ _ _ (⟨_, .box _ _, _, _, _, _⟩ :: _) _ _ _; refine bxx rfl evL rfl (fun b => ?_))) | refine s_nil ?_ | refine kh_normal ?_ | refine kh_ret ?_))
    exact rh1 rfl rfl ⟨rfl, rfl⟩ (ent_nil _)
  simp only [decide_eq_true hS] at hsm
  have hz := hS.sz
  have hvs := fun w hr => valid_spec t la A L c w hz hr
  cases hval : validHal ⟨t, la, ptys L⟩ with
  | false =>
    rw [hval] at hvs
    refine enterH Try.func5 rfl rfl Try.ntmps5 rfl (Wd.refl _) ?_
    (repeat' (first | (show VH _ _ _ _ _ _ _; first | refine v_seq ?_ | refine r_seq ?_ | refine v_ret ?_ | refine v_skip ?_ | refine v_cond_t rfl tbL ?_ | refine v_cond_f rfl tbL ?_) | (show SH _ _ _ _ _ (_ :: _) _ _ _; first | (show SH _ _ _ _ _ (⟨_, _, _, _, _, some _⟩ :: _) _ _ _; (refine gif rfl rfl ?_; refine giFF tbL ?_)) | (show SH _ _ _ _ _ (⟨_, .move _, _, _, _, _⟩ :: _) _ _ _; refine mov evL ?_) | (show SH _ _ _ _ _ (⟨_, .assign _, _, _, _, _⟩ :: _) _ _ _; refine asg evL ?_) | (show SH _ _ _ _ _ (⟨_, .load _ _, _, _, _, _⟩ :: _) _ _ _; refine lba rfl spL (by rfl) ?_) | (show SH _ _ _ _ _ (⟨_, .call ⟨.value (.func 10), _, _⟩, _, _, _, _⟩ :: _) _ _ _; refine cl (callee := .func 10) rfl (fun w hw => haw w) rfl rfl ?_) | (show SH _ _ _ _ _ (⟨_, .call ⟨.value (.func 11), _, _⟩, _, _, _, _⟩ :: _) _ _ _; refine cl (callee := .func 11) rfl (fun w hw => hsm w (hrA.ext hw.ext)) rfl rfl ?_) | (show SH _ _ _ _ _ (⟨_, .call ⟨.value (.func 12), _, _⟩, _, _, _, _⟩ :: _) _ _ _; refine cl (callee := .func 12) rfl (fun w hw => hvs w (hr.ext hw.ext)) rfl rfl ?_) | (show SH _ _ _ _ _ (⟨_, .unOp .not _ _, _, _, _, _⟩ :: _) _ _ _; first | refine bnoT rfl ?_ | refine bnoF rfl ?_) | (show SH _ _ _ _ _ (⟨_, .pick _ _ _, _, _, _, _⟩ :: _) _ _ _; refine pkf rfl tbL evL ?_) | (show SH _ _ _ _ _ (⟨_, .box _ _, _, _, _, _⟩ :: _) _ _ _; refine bxx rfl evL rfl (fun b => ?_))) | refine s_nil ?_ | refine kh_normal ?_ | refine kh_ret ?_))
    exact rh1 rfl rfl ⟨rfl, rfl⟩ (ent_nil _)
  | true =>
    rw [hval] at hvs
    have hV := valid_iff.1 hval
    have hll := hz.len
    have hfd := fun w hr => find36_spec t la A L c id w (by omega) hr
    rw [findV_one] at hfd
    have hno : (idxP id (ptys L)).isSome = false → ∀ k, k < L.length → ¬ (L.getD k Flat.dflt).p.id = id := fun h k hk => by
      have h1 : idxP id (ptys L) = none := by cases hi : idxP id (ptys L) with | none => rfl | some k => rw [hi] at h; cases h
      exact (idxP_none _).1 h1 _ (List.mem_map_of_mem (f := PtyP.p) (getD_mem hk))
    have hask := cnt_asked who id (ptys L)
    have hac := fun w hr => accept_spec t la A L c who id w hz hr
    have hde := fun w hr => decline_spec t la A L c who id w hz hr
    obtain ⟨P, hP⟩ : ∃ P, fndP id L = P := ⟨_, rfl⟩
    obtain ⟨okb, hokb⟩ : ∃ z, (idxP id (ptys L)).isSome = z := ⟨_, rfl⟩
    rw [hP, hokb] at hfd
    rw [hokb] at hno
    obtain ⟨⟨pi_, pl, pm, pv⟩, pA, pca, pB, pcb⟩ := P
    rw [show Flat.enc (⟨⟨pi_, pl, pm, pv⟩, pA, pca, pB, pcb⟩ : PtyP) = [.int .i64 pi_, .int .i64 pl, .slice pA pm.length pca, .slice pB pv.length pcb] from rfl] at hfd
    refine enterH Try.func5 rfl rfl Try.ntmps5 rfl (Wd.refl _) ?_
    (repeat' (first | (show VH _ _ _ _ _ _ _; first | refine v_seq ?_ | refine r_seq ?_ | refine v_block ?_ | refine v_skip ?_ | refine v_cond_f rfl tbL ?_) | (show SH _ _ _ _ _ (_ :: _) _ _ _; first | (show SH _ _ _ _ _ (⟨_, _, _, _, _, some _⟩ :: _) _ _ _; (refine gif rfl rfl ?_; refine giFF tbL ?_)) | (show SH _ _ _ _ _ (⟨_, .move _, _, _, _, _⟩ :: _) _ _ _; refine mov evL ?_) | (show SH _ _ _ _ _ (⟨_, .assign _, _, _, _, _⟩ :: _) _ _ _; refine asg evL ?_) | (show SH _ _ _ _ _ (⟨_, .load _ _, _, _, _, _⟩ :: _) _ _ _; refine lba rfl spL (by rfl) ?_) | (show SH _ _ _ _ _ (⟨_, .call ⟨.value (.func 10), _, _⟩, _, _, _, _⟩ :: _) _ _ _; refine cl (callee := .func 10) rfl (fun w hw => haw w) rfl rfl ?_) | (show SH _ _ _ _ _ (⟨_, .call ⟨.value (.func 11), _, _⟩, _, _, _, _⟩ :: _) _ _ _; refine cl (callee := .func 11) rfl (fun w hw => hsm w (hrA.ext hw.ext)) rfl rfl ?_) | (show SH _ _ _ _ _ (⟨_, .call ⟨.value (.func 12), _, _⟩, _, _, _, _⟩ :: _) _ _ _; refine cl (callee := .func 12) rfl (fun w hw => hvs w (hr.ext hw.ext)) rfl rfl ?_) | (show SH _ _ _ _ _ (⟨_, .call ⟨.value (.func 18), _, _⟩, _, _, _, _⟩ :: _) _ _ _; refine cl (callee := .func 18) rfl (fun w hw => hfd w (hrA.ext hw.ext)) rfl rfl ?_) | refine bnoT rfl ?_ | (show SH _ _ _ _ _ (⟨_, .pick _ _ _, _, _, _, _⟩ :: _) _ _ _; refine pkf rfl tbL evL ?_) | refine extr rfl rfl ?_ | refine ala rfl (fun b => ?_) | (show SH _ _ _ _ _ (⟨_, .box _ _, _, _, _, _⟩ :: _) _ _ _; refine bxx rfl evL rfl (fun b => ?_)) | (show SH _ _ _ _ _ (⟨_, .store _ _ _, _, _, _, _⟩ :: _) _ _ _; refine sta rfl rfl rfl spL (by rfl) (by rfl) (by rfl) kpL ?_)) | refine s_nil ?_ | refine kh_normal ?_))
    rename_i b3
    revert b
    intro b7
    refine v_norm [(1,_),(2,_),(3,_),(7,_),(8,_),(9,_),(10,_),(11,_)] heL (fun g => ?_)
    refine VH.ent (G := [bx b3 24 [.int .i64 t, .int .i64 la, .slice A L.length c], bx b7 37 [.int .i64 pi_, .int .i64 pl, .slice pA pm.length pca, .slice pB pv.length pcb]]) ?_ enL
    refine v_loop0 [(9,12),(42,86)] (fun i : Nat => [(11, .int .i64 i), (9, .int .i64 (cntB (fun p => decide (p.id = id)) who ((ptys L).take i) : Nat)), (10, .int .i64 (cntB (fun p => !decide (p.id = id)) who ((ptys L).take i) : Nat))]) (fun i => i ≤ L.length) (fun i => L.length - i) 0 hsL (Nat.zero_le _) ?_
    rintro i g hi
    simp only [sets]
    by_cases hil : i < L.length
    · have hn1 : (ptys L).take (i + 1) = (ptys L).take i ++ [(L.getD i Flat.dflt).p] := by rw [take_snoc (d := pty0) (by rw [ptys_len]; exact hil), ptys_at hil]
      have hca := cntB_snoc (fun p => decide (p.id = id)) who (L.getD i Flat.dflt).p ((ptys L).take i)
      have hco := cntB_snoc (fun p => !decide (p.id = id)) who (L.getD i Flat.dflt).p ((ptys L).take i)
      rw [← hn1] at hca hco
      have hba := cntB_le (fun p => decide (p.id = id)) who hz i (by omega)
      have hbo := cntB_le (fun p => !decide (p.id = id)) who hz i (by omega)
      have hv := hr.inv hil
      have hv1 := hz.ati hil
      have hnoi : okb = false → ¬ (L.getD i Flat.dflt).p.id = id := fun h => hno h i hil
      obtain ⟨x, hx⟩ : ∃ x, L.getD i Flat.dflt = x := ⟨_, rfl⟩
      have hxE := pty_enc hx
      rw [hx] at hca hco hv hv1 hnoi
      obtain ⟨⟨xi, xl, xm, xv⟩, xA, xca, xB, xcb⟩ := x
      simp only at hca hco hv hv1 hnoi hxE
      generalize cntB (fun p => decide (p.id = id)) who ((ptys L).take i) = ca at hca hba ⊢
      generalize cntB (fun p => !decide (p.id = id)) who ((ptys L).take i) = co at hco hbo ⊢
      clear hn1 hx hask hno
      by_cases hid : xi = id
      · have hok : okb = true := by cases okb with | true => rfl | false => exact absurd hid (hnoi rfl)
        rw [decide_eq_true hid, if_pos rfl] at hca
        rw [decide_eq_true hid] at hco
        simp only [Bool.not_true, Bool.false_eq_true, if_false, Nat.add_zero] at hco
        subst hok
        clear hnoi
        (repeat' (first | (show VH _ _ _ _ _ _ _; first | refine v_seq ?_ | refine r_seq ?_ | refine v_block ?_ | refine v_skip ?_ | refine v_cond_t rfl tbL ?_) | (show SH _ _ _ _ _ (_ :: _) _ _ _; first | (show SH _ _ _ _ _ (⟨_, .move _, _, _, _, _⟩ :: _) _ _ _; refine mov evL ?_) | (show SH _ _ _ _ _ (⟨_, .assign _, _, _, _, _⟩ :: _) _ _ _; refine asg evL ?_) | (show SH _ _ _ _ _ (⟨_, .binOp .lss _ _ _ _, _, _, _, _⟩ :: _) _ _ _; refine lssT rfl rfl omD ?_) | (show SH _ _ _ _ _ (⟨_, .load _ _, _, _, _, _⟩ :: _) _ _ _; refine lbx rfl spL (by rfl) ?_) | refine slen rfl ?_ | refine fad rfl ?_) | refine s_nil ?_ | refine kh_normal ?_))
        refine v_normS [(9,12),(42,86)] _ agL [(9,_),(10,_),(11,_),(12,_)] heL (fun g => ?_)
        refine v_loop0 [(9,10),(12,12),(49,86)] (fun j : Nat => [(12, .int .i64 j), (9, .int .i64 (ca + (xv.take j).countP (fun i => decide (i.who = who)) : Nat)), (10, .int .i64 (co : Nat))]) (fun j => j ≤ xv.length) (fun j => xv.length - j) 0 hsL (Nat.zero_le _) ?_
        rintro j g2 hj
        simp only [sets]
        by_cases hjl : j < xv.length
        · have hcn := countP_next who hjl
          have hcl : (xv.take j).countP (fun i => decide (i.who = who)) ≤ 1000 := by
            have h1 : (xv.take j).countP (fun i => decide (i.who = who)) ≤ (xv.take j).length := List.countP_le_length
            rw [List.length_take] at h1; omega
          obtain ⟨v, hvv⟩ : ∃ v, xv.getD j Flat.dflt = v := ⟨_, rfl⟩
          have hvE := inv_enc hvv
          rw [hvv] at hcn
          clear hvv
          obtain ⟨vw, vt⟩ := v
          simp only at hcn hvE
          generalize (xv.take j).countP (fun i => decide (i.who = who)) = m at hcn hcl ⊢
          by_cases hvw : vw = who
          · rw [if_pos hvw] at hcn
            clear hca hco
            (repeat' (first | (show VH _ _ _ _ _ _ _; first | refine v_seq ?_ | refine r_seq ?_ | refine v_block ?_ | refine v_skip ?_ | refine v_cond_t rfl tbL ?_) | (show SH _ _ _ _ _ (_ :: _) _ _ _; first | (show SH _ _ _ _ _ (⟨_, _, _, _, _, some _⟩ :: _) _ _ _; (refine gif rfl rfl ?_; refine giTT tbL ?_)) | (show SH _ _ _ _ _ (⟨_, .move _, _, _, _, _⟩ :: _) _ _ _; refine mov evL ?_) | (show SH _ _ _ _ _ (⟨_, .assign _, _, _, _, _⟩ :: _) _ _ _; refine asg evL ?_) | (show SH _ _ _ _ _ (⟨_, .binOp .lss _ _ _ _, _, _, _, _⟩ :: _) _ _ _; refine lssT rfl rfl omD ?_) | (show SH _ _ _ _ _ (⟨_, .binOp .eql _ _ _ _, _, _, _, _⟩ :: _) _ _ _; refine eqlT rfl rfl omD ?_) | (show SH _ _ _ _ _ (⟨_, .binOp .add _ _ _ _, _, _, _, _⟩ :: _) _ _ _; refine add rfl rfl inL ?_) | (show SH _ _ _ _ _ (⟨_, .load _ _, _, _, _, _⟩ :: _) _ _ _; first | refine lbx rfl spL (by rfl) ?_ | refine lrg rfl (fun _ _ => rdP) (by rfl) omL (by assumption) (by rfl) ?_) | (show SH _ _ _ _ _ (⟨_, .indexAddr _ _ _, _, _, _, _⟩ :: _) _ _ _; refine ix rfl rfl (by with_reducible rfl) (fun _ _ => rdP) (by rfl) omL omL ?_) | refine slen rfl ?_ | (show SH _ _ _ _ _ (⟨_, .pick _ _ _, _, _, _, _⟩ :: _) _ _ _; refine pkt rfl tbL evL ?_) | refine fad rfl ?_) | refine s_nil ?_ | refine kh_normal ?_ | refine bh_normal ?_))
            exact ⟨agL, j + 1, by rw [hcn, show ca + (m + 1) = ca + m + 1 from rfl]; (repeat (first | exact trivial | refine And.intro rfl ?_)), enL, hjl, by omega⟩
          · rw [if_neg hvw, Nat.add_zero] at hcn
            clear hca hco
            (repeat' (first | (show VH _ _ _ _ _ _ _; first | refine v_seq ?_ | refine r_seq ?_ | refine v_block ?_ | refine v_skip ?_ | refine v_cond_t rfl tbL ?_ | refine v_cond_f rfl tbL ?_) | (show SH _ _ _ _ _ (_ :: _) _ _ _; first | (show SH _ _ _ _ _ (⟨_, .move _, _, _, _, _⟩ :: _) _ _ _; refine mov evL ?_) | (show SH _ _ _ _ _ (⟨_, .assign _, _, _, _, _⟩ :: _) _ _ _; refine asg evL ?_) | (show SH _ _ _ _ _ (⟨_, .binOp .lss _ _ _ _, _, _, _, _⟩ :: _) _ _ _; refine lssT rfl rfl omD ?_) | (show SH _ _ _ _ _ (⟨_, .binOp .eql _ _ _ _, _, _, _, _⟩ :: _) _ _ _; refine eqlF rfl rfl omD ?_) | (show SH _ _ _ _ _ (⟨_, .binOp .add _ _ _ _, _, _, _, _⟩ :: _) _ _ _; refine add rfl rfl inL ?_) | (show SH _ _ _ _ _ (⟨_, .load _ _, _, _, _, _⟩ :: _) _ _ _; first | refine lbx rfl spL (by rfl) ?_ | refine lrg rfl (fun _ _ => rdP) (by rfl) omL (by assumption) (by rfl) ?_) | (show SH _ _ _ _ _ (⟨_, .indexAddr _ _ _, _, _, _, _⟩ :: _) _ _ _; refine ix rfl rfl (by with_reducible rfl) (fun _ _ => rdP) (by rfl) omL omL ?_) | refine slen rfl ?_ | refine fad rfl ?_) | refine s_nil ?_ | refine kh_normal ?_ | refine bh_normal ?_))
            exact ⟨agL, j + 1, by rw [hcn]; (repeat (first | exact trivial | refine And.intro rfl ?_)), enL, hjl, by omega⟩
        · obtain rfl : j = xv.length := by omega
          rw [List.take_length]
          (repeat' (first | (show VH _ _ _ _ _ _ _; first | refine v_seq ?_ | refine r_seq ?_ | refine v_exit ?_ | refine v_cond_f rfl tbL ?_) | (show SH _ _ _ _ _ (_ :: _) _ _ _; first | (show SH _ _ _ _ _ (⟨_, .move _, _, _, _, _⟩ :: _) _ _ _; refine mov evL ?_) | (show SH _ _ _ _ _ (⟨_, .assign _, _, _, _, _⟩ :: _) _ _ _; refine asg evL ?_) | (show SH _ _ _ _ _ (⟨_, .binOp .lss _ _ _ _, _, _, _, _⟩ :: _) _ _ _; refine lssF rfl rfl omD ?_) | (show SH _ _ _ _ _ (⟨_, .binOp .add _ _ _ _, _, _, _, _⟩ :: _) _ _ _; refine add rfl rfl inL ?_) | (show SH _ _ _ _ _ (⟨_, .load _ _, _, _, _, _⟩ :: _) _ _ _; first | refine lbx rfl spL (by rfl) ?_ | refine lrg rfl (fun _ _ => rdP) (by rfl) omL (by assumption) (by rfl) ?_) | (show SH _ _ _ _ _ (⟨_, .indexAddr _ _ _, _, _, _, _⟩ :: _) _ _ _; refine ix rfl rfl (by with_reducible rfl) (fun _ _ => rdP) (by rfl) omL omL ?_) | refine slen rfl ?_ | refine fad rfl ?_) | refine s_nil ?_ | refine kh_normal ?_ | refine kh_exit ?_ | refine bh_normal ?_ | refine bh_exit ?_))
          exact ⟨agL, i + 1, by rw [hca, hco]; (repeat (first | exact trivial | refine And.intro rfl ?_)), enL, hil, by omega⟩
      · rw [decide_eq_false hid] at hca hco
        simp only [Bool.not_false, Bool.false_eq_true, if_false, if_true, Nat.add_zero] at hca hco
        clear hnoi
        cases okb
        all_goals
          (repeat' (first | (show VH _ _ _ _ _ _ _; first | refine v_seq ?_ | refine r_seq ?_ | refine v_block ?_ | refine v_skip ?_ | refine v_cond_t rfl tbL ?_) | (show SH _ _ _ _ _ (_ :: _) _ _ _; first | (show SH _ _ _ _ _ (⟨_, .move _, _, _, _, _⟩ :: _) _ _ _; refine mov evL ?_) | (show SH _ _ _ _ _ (⟨_, .assign _, _, _, _, _⟩ :: _) _ _ _; refine asg evL ?_) | (show SH _ _ _ _ _ (⟨_, .binOp .lss _ _ _ _, _, _, _, _⟩ :: _) _ _ _; refine lssT rfl rfl omD ?_) | (show SH _ _ _ _ _ (⟨_, .load _ _, _, _, _, _⟩ :: _) _ _ _; refine lbx rfl spL (by rfl) ?_) | refine slen rfl ?_ | refine fad rfl ?_) | refine s_nil ?_ | refine kh_normal ?_))
          refine v_normS [(9,12),(42,86)] _ agL [(9,_),(10,_),(11,_),(12,_)] heL (fun g => ?_)
          refine v_loop0 [(9,10),(12,12),(49,86)] (fun j : Nat => [(12, .int .i64 j), (10, .int .i64 (co + (xv.take j).countP (fun i => decide (i.who = who)) : Nat)), (9, .int .i64 (ca : Nat))]) (fun j => j ≤ xv.length) (fun j => xv.length - j) 0 hsL (Nat.zero_le _) ?_
          rintro j g2 hj
          simp only [sets]
          by_cases hjl : j < xv.length
          · have hcn := countP_next who hjl
            have hcl : (xv.take j).countP (fun i => decide (i.who = who)) ≤ 1000 := by
              have h1 : (xv.take j).countP (fun i => decide (i.who = who)) ≤ (xv.take j).length := List.countP_le_length
              rw [List.length_take] at h1; omega
            obtain ⟨v, hvv⟩ : ∃ v, xv.getD j Flat.dflt = v := ⟨_, rfl⟩
            have hvE := inv_enc hvv
            rw [hvv] at hcn
            clear hvv
            obtain ⟨vw, vt⟩ := v
            simp only at hcn hvE
            generalize (xv.take j).countP (fun i => decide (i.who = who)) = m at hcn hcl ⊢
            by_cases hvw : vw = who
            · rw [if_pos hvw] at hcn
              clear hca hco
              (repeat' (first | (show VH _ _ _ _ _ _ _; first | refine v_seq ?_ | refine r_seq ?_ | refine v_block ?_ | refine v_skip ?_ | refine v_cond_t rfl tbL ?_ | refine v_cond_f rfl tbL ?_) | (show SH _ _ _ _ _ (_ :: _) _ _ _; first | (show SH _ _ _ _ _ (⟨_, _, _, _, _, some _⟩ :: _) _ _ _; (refine gif rfl rfl ?_; first | refine giTT tbL ?_ | refine giTF tbL ?_)) | (show SH _ _ _ _ _ (⟨_, .move _, _, _, _, _⟩ :: _) _ _ _; refine mov evL ?_) | (show SH _ _ _ _ _ (⟨_, .assign _, _, _, _, _⟩ :: _) _ _ _; refine asg evL ?_) | (show SH _ _ _ _ _ (⟨_, .binOp .lss _ _ _ _, _, _, _, _⟩ :: _) _ _ _; refine lssT rfl rfl omD ?_) | (show SH _ _ _ _ _ (⟨_, .binOp .eql _ _ _ _, _, _, _, _⟩ :: _) _ _ _; first | refine eqlT rfl rfl omD ?_ | refine eqlF rfl rfl omD ?_) | (show SH _ _ _ _ _ (⟨_, .binOp .add _ _ _ _, _, _, _, _⟩ :: _) _ _ _; refine add rfl rfl inL ?_) | (show SH _ _ _ _ _ (⟨_, .load _ _, _, _, _, _⟩ :: _) _ _ _; first | refine lbx rfl spL (by rfl) ?_ | refine lrg rfl (fun _ _ => rdP) (by rfl) omL (by assumption) (by rfl) ?_) | (show SH _ _ _ _ _ (⟨_, .indexAddr _ _ _, _, _, _, _⟩ :: _) _ _ _; refine ix rfl rfl (by with_reducible rfl) (fun _ _ => rdP) (by rfl) omL omL ?_) | refine slen rfl ?_ | (show SH _ _ _ _ _ (⟨_, .pick _ _ _, _, _, _, _⟩ :: _) _ _ _; first | refine pkt rfl tbL evL ?_ | refine pkf rfl tbL evL ?_) | refine fad rfl ?_) | refine s_nil ?_ | refine kh_normal ?_ | refine bh_normal ?_))
              exact ⟨agL, j + 1, by rw [hcn, show co + (m + 1) = co + m + 1 from rfl]; (repeat (first | exact trivial | refine And.intro rfl ?_)), enL, hjl, by omega⟩
            · rw [if_neg hvw, Nat.add_zero] at hcn
              clear hca hco
              (repeat' (first | (show VH _ _ _ _ _ _ _; first | refine v_seq ?_ | refine r_seq ?_ | refine v_block ?_ | refine v_skip ?_ | refine v_cond_t rfl tbL ?_ | refine v_cond_f rfl tbL ?_) | (show SH _ _ _ _ _ (_ :: _) _ _ _; first | (show SH _ _ _ _ _ (⟨_, .move _, _, _, _, _⟩ :: _) _ _ _; refine mov evL ?_) | (show SH _ _ _ _ _ (⟨_, .assign _, _, _, _, _⟩ :: _) _ _ _; refine asg evL ?_) | (show SH _ _ _ _ _ (⟨_, .binOp .lss _ _ _ _, _, _, _, _⟩ :: _) _ _ _; refine lssT rfl rfl omD ?_) | (show SH _ _ _ _ _ (⟨_, .binOp .eql _ _ _ _, _, _, _, _⟩ :: _) _ _ _; refine eqlF rfl rfl omD ?_) | (show SH _ _ _ _ _ (⟨_, .binOp .add _ _ _ _, _, _, _, _⟩ :: _) _ _ _; refine add rfl rfl inL ?_) | (show SH _ _ _ _ _ (⟨_, .load _ _, _, _, _, _⟩ :: _) _ _ _; first | refine lbx rfl spL (by rfl) ?_ | refine lrg rfl (fun _ _ => rdP) (by rfl) omL (by assumption) (by rfl) ?_) | (show SH _ _ _ _ _ (⟨_, .indexAddr _ _ _, _, _, _, _⟩ :: _) _ _ _; refine ix rfl rfl (by with_reducible rfl) (fun _ _ => rdP) (by rfl) omL omL ?_) | refine slen rfl ?_ | refine fad rfl ?_) | refine s_nil ?_ | refine kh_normal ?_ | refine bh_normal ?_))
              exact ⟨agL, j + 1, by rw [hcn]; (repeat (first | exact trivial | refine And.intro rfl ?_)), enL, hjl, by omega⟩
          · obtain rfl : j = xv.length := by omega
            rw [List.take_length]
            (repeat' (first | (show VH _ _ _ _ _ _ _; first | refine v_seq ?_ | refine r_seq ?_ | refine v_exit ?_ | refine v_cond_f rfl tbL ?_) | (show SH _ _ _ _ _ (_ :: _) _ _ _; first | (show SH _ _ _ _ _ (⟨_, .move _, _, _, _, _⟩ :: _) _ _ _; refine mov evL ?_) | (show SH _ _ _ _ _ (⟨_, .assign _, _, _, _, _⟩ :: _) _ _ _; refine asg evL ?_) | (show SH _ _ _ _ _ (⟨_, .binOp .lss _ _ _ _, _, _, _, _⟩ :: _) _ _ _; refine lssF rfl rfl omD ?_) | (show SH _ _ _ _ _ (⟨_, .binOp .add _ _ _ _, _, _, _, _⟩ :: _) _ _ _; refine add rfl rfl inL ?_) | (show SH _ _ _ _ _ (⟨_, .load _ _, _, _, _, _⟩ :: _) _ _ _; first | refine lbx rfl spL (by rfl) ?_ | refine lrg rfl (fun _ _ => rdP) (by rfl) omL (by assumption) (by rfl) ?_) | (show SH _ _ _ _ _ (⟨_, .indexAddr _ _ _, _, _, _, _⟩ :: _) _ _ _; refine ix rfl rfl (by with_reducible rfl) (fun _ _ => rdP) (by rfl) omL omL ?_) | refine slen rfl ?_ | refine fad rfl ?_) | refine s_nil ?_ | refine kh_normal ?_ | refine kh_exit ?_ | refine bh_normal ?_ | refine bh_exit ?_))
            exact ⟨agL, i + 1, by rw [hca, hco]; (repeat (first | exact trivial | refine And.intro rfl ?_)), enL, hil, by omega⟩
    · obtain rfl : i = L.length := by omega
      have htl : (ptys L).take L.length = ptys L := by rw [← ptys_len L, List.take_length]
      rw [htl]
      have hba := cntB_le (fun p => decide (p.id = id)) who hz L.length (Nat.le_refl _)
      have hbo := cntB_le (fun p => !decide (p.id = id)) who hz L.length (Nat.le_refl _)
      rw [htl] at hba hbo
      clear hno
      cases hak : askedM who id (ptys L) with
      | none =>
        have h0 := hask.2 hak
        have e1 : ∀ yes, answerM ⟨t, la, ptys L⟩ who id yes = (hal0, 6) := fun yes => by unfold answerM; rw [hval, if_pos rfl]; simp only [hak]
        have hac := fun w hr => outK_of (e1 true) (hac w hr)
        have hde := fun w hr => outK_of (e1 false) (hde w hr)
        rw [h0]
        clear hask hba hbo e1
        (repeat' (first | (show VH _ _ _ _ _ _ _; first | refine v_seq ?_ | refine r_seq ?_ | refine v_exit ?_ | refine v_cond_f rfl tbL ?_) | (show SH _ _ _ _ _ (_ :: _) _ _ _; first | (show SH _ _ _ _ _ (⟨_, .move _, _, _, _, _⟩ :: _) _ _ _; refine mov evL ?_) | (show SH _ _ _ _ _ (⟨_, .binOp .lss _ _ _ _, _, _, _, _⟩ :: _) _ _ _; refine lssF rfl rfl omD ?_) | (show SH _ _ _ _ _ (⟨_, .load _ _, _, _, _, _⟩ :: _) _ _ _; first | refine lbx rfl spL (by rfl) ?_ | refine lba rfl spL (by rfl) ?_) | refine slen rfl ?_ | (show SH _ _ _ _ _ (⟨_, .call ⟨.value (.func 20), _, _⟩, _, _, _, _⟩ :: _) _ _ _; refine cp (callee := .func 20) rfl (fun w hw => hac w (hr.ext hw.ext)) rfl rfl ?_) | refine fad rfl ?_) | refine s_nil ?_ | refine kh_normal ?_ | refine kh_exit ?_ | refine bh_exit ?_))
        rintro _ _ ⟨A1, c1, L1, hp1, rfl, rfl⟩
        (repeat' (first | (show VH _ _ _ _ _ _ _; first | refine v_seq ?_ | refine r_seq ?_) | (show SH _ _ _ _ _ (_ :: _) _ _ _; first | (show SH _ _ _ _ _ (⟨_, .move _, _, _, _, _⟩ :: _) _ _ _; refine mov evL ?_) | (show SH _ _ _ _ _ (⟨_, .assign _, _, _, _, _⟩ :: _) _ _ _; refine asg evL ?_) | (show SH _ _ _ _ _ (⟨_, .load _ _, _, _, _, _⟩ :: _) _ _ _; refine lba rfl spL (by rfl) ?_) | (show SH _ _ _ _ _ (⟨_, .call ⟨.value (.func 21), _, _⟩, _, _, _, _⟩ :: _) _ _ _; refine cp (callee := .func 21) rfl (fun w hw => hde w (hr.ext hw.ext)) rfl rfl ?_) | refine extr rfl rfl ?_ | refine ala rfl (fun b => ?_) | (show SH _ _ _ _ _ (⟨_, .store _ _ _, _, _, _, _⟩ :: _) _ _ _; refine sta rfl rfl rfl spL (by rfl) (by rfl) (by rfl) kpL ?_)) | refine s_nil ?_ | refine kh_normal ?_))
        rintro _ _ ⟨A2, c2, L2, hp2, rfl, rfl⟩
        (repeat' (first | (show VH _ _ _ _ _ _ _; first | refine v_seq ?_ | refine r_seq ?_ | refine v_ret ?_ | refine v_cond_t rfl tbL ?_) | (show SH _ _ _ _ _ (_ :: _) _ _ _; first | (show SH _ _ _ _ _ (⟨_, _, _, _, _, some _⟩ :: _) _ _ _; (refine gif rfl rfl ?_; refine giTT tbL ?_)) | (show SH _ _ _ _ _ (⟨_, .move _, _, _, _, _⟩ :: _) _ _ _; refine mov evL ?_) | (show SH _ _ _ _ _ (⟨_, .assign _, _, _, _, _⟩ :: _) _ _ _; refine asg evL ?_) | (show SH _ _ _ _ _ (⟨_, .binOp .eql _ _ _ _, _, _, _, _⟩ :: _) _ _ _; refine eqlT rfl rfl omD ?_) | (show SH _ _ _ _ _ (⟨_, .pick _ _ _, _, _, _, _⟩ :: _) _ _ _; refine pkt rfl tbL evL ?_) | refine extr rfl rfl ?_ | refine ala rfl (fun b => ?_) | (show SH _ _ _ _ _ (⟨_, .store _ _ _, _, _, _, _⟩ :: _) _ _ _; refine sta rfl rfl rfl spL (by rfl) (by rfl) (by rfl) kpL ?_)) | refine s_nil ?_ | refine kh_normal ?_ | refine kh_ret ?_))
        exact rh1 rfl rfl ⟨rfl, rfl⟩ (ent_nil _)
      | some k =>
        have hca0 : ¬ cntB (fun p => decide (p.id = id)) who (ptys L) = 0 := fun h => by rw [hask.1 h] at hak; cases hak
        generalize cntB (fun p => decide (p.id = id)) who (ptys L) = ca at hca0 hba ⊢
        have hkk := (askedM_some _ hak).1
        rw [ptys_len] at hkk
        have hpk := ptys_at hkk
        have hidk := asked_unique hV hak
        obtain ⟨a1, a2⟩ := accept_in hV hak
        obtain ⟨d1, d2, d3, d4, d5, d6⟩ := decline_out hV hak
        have hcl := cnt_left who id (ptys L)
        simp only [hpk] at a2 d2 d4 d5
        rw [← d2] at hcl
        have hPk : L.getD k Flat.dflt = ⟨⟨pi_, pl, pm, pv⟩, pA, pca, pB, pcb⟩ := by
          unfold fndP at hP
          rw [hidk] at hP
          exact hP
        have hpid : pi_ = id := by
          have := (idxP_some _ hidk).2
          rw [hpk, hPk] at this
          exact this
        have hVy : VHal (answerM ⟨t, la, ptys L⟩ who id true).1 := (answer_fol hV hak true).1.valid
        have hVx : VHal (answerM ⟨t, la, ptys L⟩ who id false).1 := (answer_fol hV hak false).1.valid
        have hm := hr.mem hkk
        have hml := hz.atm hkk
        have hil5 := hz.ati hkk
        rw [hPk] at a2 d4 d5 hm hml hil5
        simp only at a2 d4 d5 hm hml hil5
        subst hokb
        rw [show (idxP id (ptys L)).isSome = true by rw [hidk]; rfl]
        obtain ⟨⟨⟨yt, yl, yp⟩, ye⟩, hry⟩ : ∃ r, answerM ⟨t, la, ptys L⟩ who id true = r := ⟨_, rfl⟩
        obtain ⟨⟨⟨nt, nl, np⟩, ne_⟩, hrn⟩ : ∃ r, answerM ⟨t, la, ptys L⟩ who id false = r := ⟨_, rfl⟩
        rw [hry] at a1 a2 hVy
        rw [hrn] at d1 d3 d4 d6 hVx hcl
        have hac := fun w hr => outK_of hry (hac w hr)
        have hde := fun w hr => outK_of hrn (hde w hr)
        simp only at a1 a2 d1 d3 d4 d6 hcl
        subst a1 d1 hpid
        clear hask hP hidk hak hpk hPk hry hrn d2 hvs hsm haw hfd
        (repeat' (first | (show VH _ _ _ _ _ _ _; first | refine v_seq ?_ | refine r_seq ?_ | refine v_exit ?_ | refine v_cond_f rfl tbL ?_) | (show SH _ _ _ _ _ (_ :: _) _ _ _; first | (show SH _ _ _ _ _ (⟨_, .move _, _, _, _, _⟩ :: _) _ _ _; refine mov evL ?_) | (show SH _ _ _ _ _ (⟨_, .binOp .lss _ _ _ _, _, _, _, _⟩ :: _) _ _ _; refine lssF rfl rfl omD ?_) | (show SH _ _ _ _ _ (⟨_, .load _ _, _, _, _, _⟩ :: _) _ _ _; first | refine lbx rfl spL (by rfl) ?_ | refine lba rfl spL (by rfl) ?_) | refine slen rfl ?_ | (show SH _ _ _ _ _ (⟨_, .call ⟨.value (.func 20), _, _⟩, _, _, _, _⟩ :: _) _ _ _; refine cp (callee := .func 20) rfl (fun w hw => hac w (hr.ext hw.ext)) rfl rfl ?_) | refine fad rfl ?_) | refine s_nil ?_ | refine kh_normal ?_ | refine kh_exit ?_ | refine bh_exit ?_))
        rintro _ _ ⟨A1, c1, L1, hp1, rfl, rfl⟩
        simp only at hp1 ⊢
        have hz1 := szP_val hVy hp1
        (repeat' (first | (show VH _ _ _ _ _ _ _; first | refine v_seq ?_ | refine r_seq ?_) | (show SH _ _ _ _ _ (_ :: _) _ _ _; first | (show SH _ _ _ _ _ (⟨_, .move _, _, _, _, _⟩ :: _) _ _ _; refine mov evL ?_) | (show SH _ _ _ _ _ (⟨_, .assign _, _, _, _, _⟩ :: _) _ _ _; refine asg evL ?_) | (show SH _ _ _ _ _ (⟨_, .load _ _, _, _, _, _⟩ :: _) _ _ _; refine lba rfl spL (by rfl) ?_) | (show SH _ _ _ _ _ (⟨_, .call ⟨.value (.func 21), _, _⟩, _, _, _, _⟩ :: _) _ _ _; refine cp (callee := .func 21) rfl (fun w hw => hde w (hr.ext hw.ext)) rfl rfl ?_) | refine extr rfl rfl ?_ | refine ala rfl (fun b => ?_) | (show SH _ _ _ _ _ (⟨_, .store _ _ _, _, _, _, _⟩ :: _) _ _ _; refine sta rfl rfl rfl spL (by rfl) (by rfl) (by rfl) kpL ?_)) | refine s_nil ?_ | refine kh_normal ?_))
        rintro _ _ ⟨A2, c2, L2, hp2, rfl, rfl⟩
        revert b
        intro b13
        simp only at hp2 ⊢
        have hz2 := szP_val hVx hp2
        have hll2 := hz2.len
        have hof := fun w hr => of_spec yt yl A1 L1 c1 who w hz1 hr
        rw [hp1, a2] at hof
        (repeat' (first | (show VH _ _ _ _ _ _ _; first | refine v_seq ?_ | refine r_seq ?_ | refine v_skip ?_ | refine v_cond_f rfl tbL ?_) | (show SH _ _ _ _ _ (_ :: _) _ _ _; first | (show SH _ _ _ _ _ (⟨_, .move _, _, _, _, _⟩ :: _) _ _ _; refine mov evL ?_) | (show SH _ _ _ _ _ (⟨_, .assign _, _, _, _, _⟩ :: _) _ _ _; refine asg evL ?_) | (show SH _ _ _ _ _ (⟨_, .binOp .eql _ _ _ _, _, _, _, _⟩ :: _) _ _ _; refine eqlF rfl rfl omD ?_) | (show SH _ _ _ _ _ (⟨_, .load _ _, _, _, _, _⟩ :: _) _ _ _; refine lba rfl spL (by rfl) ?_) | (show SH _ _ _ _ _ (⟨_, .call ⟨.value (.func 17), _, _⟩, _, _, _, _⟩ :: _) _ _ _; refine cp (callee := .func 17) rfl (fun w hw => hof w (Wd.kp hw spL)) rfl rfl ?_) | refine extr rfl rfl ?_ | refine ala rfl (fun b => ?_) | (show SH _ _ _ _ _ (⟨_, .store _ _ _, _, _, _, _⟩ :: _) _ _ _; refine sta rfl rfl rfl spL (by rfl) (by rfl) (by rfl) kpL ?_)) | refine s_nil ?_ | refine kh_normal ?_))
        rintro _ _ ⟨⟨q, qA, qca, qB, qcb⟩, hq, rfl, rfl⟩
        revert b
        intro b15
        simp only at hq
        subst hq
        rw [show Flat.enc (⟨⟨pi_, pl, pm ++ [who], pv.filter fun i => !decide (i.who = who)⟩, qA, qca, qB, qcb⟩ : PtyP) = [.int .i64 pi_, .int .i64 pl, .slice qA (pm.length + 1) qca, .slice qB (pv.filter fun i => !decide (i.who = who)).length qcb] by show [_, _, Value.slice qA (pm ++ [who]).length qca, _] = _; rw [List.length_append]; rfl]
        have hk2 : k < L2.length := by
          have := (idxP_some _ d3).1
          rwa [← hp2, ptys_len] at this
        have hzp : (L2.getD k Flat.dflt).p = ⟨pi_, pl, pm, pv.filter fun i => !decide (i.who = who)⟩ := by rw [← ptys_at hk2, hp2]; exact d4
        have hzm := fun w (h : RdP w A2 L2) => h.mem hk2
        have hfn := fun w hr => find36_spec nt nl A2 L2 c2 pi_ w (by omega) hr
        unfold findV at hfn
        rw [hp2, d3] at hfn
        simp only at hfn
        obtain ⟨z, hze⟩ : ∃ z, L2.getD k Flat.dflt = z := ⟨_, rfl⟩
        rw [hze] at hzp hzm hfn
        obtain ⟨zp, zA, zca, zB, zcb⟩ := z
        simp only at hzp hzm
        subst hzp
        simp only at hzm
        rw [show Flat.enc (⟨⟨pi_, pl, pm, pv.filter fun i => !decide (i.who = who)⟩, zA, zca, zB, zcb⟩ : PtyP) = [.int .i64 pi_, .int .i64 pl, .slice zA pm.length zca, .slice zB (pv.filter fun i => !decide (i.who = who)).length zcb] from rfl] at hfn
        generalize (pv.filter fun i => !decide (i.who = who)) = fv at d5 hfn ⊢
        have e6 : answerM ⟨nt, nl, ptys L2⟩ who pi_ false = (hal0, 6) := by rw [hp2]; exact d6
        have hd2 := fun w hr => outK_of e6 (decline_spec nt nl A2 L2 c2 who pi_ w hz2 hr)
        clear d4 d6 e6 hof a2 hac hde hze d3 hVy hz1 hp1
        (repeat' ((fail_if_success (show VH _ _ (.seq (.region 23 _ _) _) _ _ _ _)); first | (show VH _ _ _ _ _ _ _; first | refine v_seq ?_ | refine r_seq ?_) | (show SH _ _ _ _ _ (_ :: _) _ _ _; first | (show SH _ _ _ _ _ (⟨_, .move _, _, _, _, _⟩ :: _) _ _ _; refine mov evL ?_) | (show SH _ _ _ _ _ (⟨_, .assign _, _, _, _, _⟩ :: _) _ _ _; refine asg evL ?_) | (show SH _ _ _ _ _ (⟨_, .load _ _, _, _, _, _⟩ :: _) _ _ _; refine lba rfl spL (by rfl) ?_) | (show SH _ _ _ _ _ (⟨_, .call ⟨.value (.func 18), _, _⟩, _, _, _, _⟩ :: _) _ _ _; refine cl (callee := .func 18) rfl (fun w hw => hfn w (Wd.kp hw spL).1) rfl rfl ?_) | refine extr rfl rfl ?_ | refine ala rfl (fun b => ?_) | (show SH _ _ _ _ _ (⟨_, .store _ _ _, _, _, _, _⟩ :: _) _ _ _; refine sta rfl rfl rfl spL (by rfl) (by rfl) (by rfl) kpL ?_)) | refine s_nil ?_ | refine kh_normal ?_))
        rename_i b17
        revert b
        intro b19
        have hlen : (pm ++ [who]).length = pm.length + 1 := by rw [List.length_append, List.length_singleton]
        have hqi : (pm ++ [who]).getD pm.length 0 = who := by simp [List.getD_eq_getElem?_getD]
        have hqi' : (pm ++ [who]).getD ((pm.length : Nat) : Int).toNat 0 = who := hqi
        have htk : (pm ++ [who]).take pm.length = pm := List.take_left' rfl
        have hsi := fun w a b => sameInts_spec qA pA pm pm qca pca w (by omega) (by omega) a b
        have hsr := fun w a b => sameInts_spec zA pA pm pm zca pca w (by omega) (by omega) a b
        simp only [decide_true] at hsi hsr
        refine VH.ent (G := [orow 3 qA qca (pm ++ [who]), bx b17 37 [.int .i64 pi_, .int .i64 pl, .slice qA (pm.length + 1) qca, .slice qB fv.length qcb], bx b19 37 [.int .i64 pi_, .int .i64 pl, .slice zA pm.length zca, .slice zB fv.length zcb], bx b15 24 [.int .i64 nt, .int .i64 nl, .slice A2 L2.length c2], knp A2 L2, bx b7 37 [.int .i64 pi_, .int .i64 pl, .slice pA pm.length pca, .slice pB pv.length pcb]]) ?_ enL
        refine v_cap (l := pm ++ [who]) spL (fun hcq => ?_)
        rw [hlen] at hcq
        have hcq2 : pm.length + 1 ≤ qca := hcq
        (repeat' (first | (show VH _ _ _ _ _ _ _; first | refine v_seq ?_ | refine r_seq ?_ | refine r_quiet hmix (by kernel_rfl) ?_ | refine v_block ?_ | refine v_skip ?_ | refine v_cond_f rfl tbL ?_) | (show SH _ _ _ _ _ (_ :: _) _ _ _; first | (show SH _ _ _ _ _ (⟨_, _, _, _, _, some _⟩ :: _) _ _ _; (refine gif rfl rfl ?_; refine giFF tbL ?_)) | (show SH _ _ _ _ _ (⟨_, .move _, _, _, _, _⟩ :: _) _ _ _; refine mov evL ?_) | (show SH _ _ _ _ _ (⟨_, .assign _, _, _, _, _⟩ :: _) _ _ _; refine asg evL ?_) | (show SH _ _ _ _ _ (⟨_, .binOp .neq _ _ _ _, _, _, _, _⟩ :: _) _ _ _; refine neqF rfl rfl omD ?_) | (show SH _ _ _ _ _ (⟨_, .binOp .add _ _ _ _, _, _, _, _⟩ :: _) _ _ _; refine add rfl rfl inL ?_) | (show SH _ _ _ _ _ (⟨_, .load _ _, _, _, _, _⟩ :: _) _ _ _; first | refine lbx rfl spL (by rfl) ?_ | refine lgi rfl (fun _ _ => rdP) omL (by assumption) ?_) | (show SH _ _ _ _ _ (⟨_, .indexAddr _ _ _, _, _, _, _⟩ :: _) _ _ _; first | refine ixi rfl rfl (fun _ _ => rdP) (by rfl) omL omL omL ?_ | refine ixi rfl rfl (fun _ _ => rdP) (by rfl) omL (by first | omega | (simp only [List.length_cons, List.length_nil]; omega)) (by simp only [List.length_cons, List.length_nil]; omega) ?_) | refine slen rfl ?_ | (show SH _ _ _ _ _ (⟨_, .call ⟨.value (.func 19), _, _⟩, _, _, _, _⟩ :: _) _ _ _; refine cl (callee := .func 19) rfl (fun w hw => hsi w (rd_pre36 (hw.rd (l := pm ++ [who]) spL)) (hm.ext hw.ext)) rfl rfl ?_) | refine bnoT rfl ?_ | (show SH _ _ _ _ _ (⟨_, .pick _ _ _, _, _, _, _⟩ :: _) _ _ _; refine pkf rfl tbL evL ?_) | refine fad rfl ?_ | (show SH _ _ _ _ _ (⟨_, .slice _ _ _ _ _, _, _, _, _⟩ :: _) _ _ _; refine slh rfl rfl omL omL ?_)) | refine s_nil ?_ | refine kh_normal ?_))
        refine v_norm [(1,_),(2,_),(7,_),(10,_),(15,_),(19,_),(21,_),(22,_)] heL (fun g => ?_)
        refine VH.ent (G := [bx b15 24 [.int .i64 nt, .int .i64 nl, .slice A2 L2.length c2], knp A2 L2, bx b7 37 [.int .i64 pi_, .int .i64 pl, .slice pA pm.length pca, .slice pB pv.length pcb], bx b19 37 [.int .i64 pi_, .int .i64 pl, .slice zA pm.length zca, .slice zB fv.length zcb]]) ?_ enL
        clear hsi hlen hqi hqi' htk hcq hcq2
        refine v_loop0 [(21,23),(181,212)] (fun i : Nat => [(22, .int .i64 i), (21, .int .i64 (cntB (fun _ => true) who ((ptys L2).take i) : Nat))]) (fun i => i ≤ L2.length) (fun i => L2.length - i) 0 hsL (Nat.zero_le _) ?_
        rintro i g hi
        simp only [sets]
        by_cases hil : i < L2.length
        · have hn1 : (ptys L2).take (i + 1) = (ptys L2).take i ++ [(L2.getD i Flat.dflt).p] := by rw [take_snoc (d := pty0) (by rw [ptys_len]; exact hil), ptys_at hil]
          have hca := cntB_snoc (fun _ => true) who (L2.getD i Flat.dflt).p ((ptys L2).take i)
          rw [← hn1, if_pos rfl] at hca
          have hba := cntB_le (fun _ => true) who hz2 i (by omega)
          have hv := fun w (h : RdP w A2 L2) => h.inv hil
          have hv1 := hz2.ati hil
          obtain ⟨x, hx⟩ : ∃ x, L2.getD i Flat.dflt = x := ⟨_, rfl⟩
          have hxE := pty_enc hx
          rw [hx] at hca hv hv1
          obtain ⟨⟨xi, xl, xm, xv⟩, xA, xca, xB, xcb⟩ := x
          simp only at hca hv hv1 hxE
          generalize cntB (fun _ => true) who ((ptys L2).take i) = cb at hca hba ⊢
          clear hn1 hx hzm hsr hd2 hcl
          (repeat' (first | (show VH _ _ _ _ _ _ _; first | refine v_seq ?_ | refine r_seq ?_ | refine v_block ?_ | refine v_skip ?_ | refine v_cond_t rfl tbL ?_) | (show SH _ _ _ _ _ (_ :: _) _ _ _; first | (show SH _ _ _ _ _ (⟨_, .move _, _, _, _, _⟩ :: _) _ _ _; refine mov evL ?_) | (show SH _ _ _ _ _ (⟨_, .assign _, _, _, _, _⟩ :: _) _ _ _; refine asg evL ?_) | (show SH _ _ _ _ _ (⟨_, .binOp .lss _ _ _ _, _, _, _, _⟩ :: _) _ _ _; refine lssT rfl rfl omD ?_) | (show SH _ _ _ _ _ (⟨_, .load _ _, _, _, _, _⟩ :: _) _ _ _; refine lbx rfl spL (by rfl) ?_) | refine slen rfl ?_ | refine fad rfl ?_) | refine s_nil ?_ | refine kh_normal ?_))
          refine v_normS [(21,23),(181,212)] _ agL [(21,_),(22,_),(23,_)] heL (fun g => ?_)
          refine v_loop0 [(21,21),(23,23),(188,212)] (fun j : Nat => [(23, .int .i64 j), (21, .int .i64 (cb + (xv.take j).countP (fun i => decide (i.who = who)) : Nat))]) (fun j => j ≤ xv.length) (fun j => xv.length - j) 0 hsL (Nat.zero_le _) ?_
          rintro j g2 hj
          simp only [sets]
          by_cases hjl : j < xv.length
          · have hcn := countP_next who hjl
            have hcl : (xv.take j).countP (fun i => decide (i.who = who)) ≤ 1000 := by
              have h1 : (xv.take j).countP (fun i => decide (i.who = who)) ≤ (xv.take j).length := List.countP_le_length
              rw [List.length_take] at h1; omega
            obtain ⟨v, hvv⟩ : ∃ v, xv.getD j Flat.dflt = v := ⟨_, rfl⟩
            have hvE := inv_enc hvv
            rw [hvv] at hcn
            clear hvv
            obtain ⟨vw, vt⟩ := v
            simp only at hcn hvE
            generalize (xv.take j).countP (fun i => decide (i.who = who)) = m at hcn hcl ⊢
            by_cases hvw : vw = who
            · rw [if_pos hvw] at hcn
              clear hca
              (repeat' (first | (show VH _ _ _ _ _ _ _; first | refine v_seq ?_ | refine r_seq ?_ | refine v_block ?_ | refine v_skip ?_ | refine v_cond_t rfl tbL ?_) | (show SH _ _ _ _ _ (_ :: _) _ _ _; first | (show SH _ _ _ _ _ (⟨_, .move _, _, _, _, _⟩ :: _) _ _ _; refine mov evL ?_) | (show SH _ _ _ _ _ (⟨_, .assign _, _, _, _, _⟩ :: _) _ _ _; refine asg evL ?_) | (show SH _ _ _ _ _ (⟨_, .binOp .lss _ _ _ _, _, _, _, _⟩ :: _) _ _ _; refine lssT rfl rfl omD ?_) | (show SH _ _ _ _ _ (⟨_, .binOp .eql _ _ _ _, _, _, _, _⟩ :: _) _ _ _; refine eqlT rfl rfl omD ?_) | (show SH _ _ _ _ _ (⟨_, .binOp .add _ _ _ _, _, _, _, _⟩ :: _) _ _ _; refine add rfl rfl inL ?_) | (show SH _ _ _ _ _ (⟨_, .load _ _, _, _, _, _⟩ :: _) _ _ _; first | refine lbx rfl spL (by rfl) ?_ | refine lrg rfl (fun _ _ => rdP) (by rfl) omL (by assumption) (by rfl) ?_) | (show SH _ _ _ _ _ (⟨_, .indexAddr _ _ _, _, _, _, _⟩ :: _) _ _ _; refine ix rfl rfl (by with_reducible rfl) (fun _ _ => rdP) (by rfl) omL omL ?_) | refine slen rfl ?_ | refine fad rfl ?_) | refine s_nil ?_ | refine kh_normal ?_ | refine bh_normal ?_))
              exact ⟨agL, j + 1, by rw [hcn, show cb + (m + 1) = cb + m + 1 from rfl]; (repeat (first | exact trivial | refine And.intro rfl ?_)), enL, hjl, by omega⟩
            · rw [if_neg hvw, Nat.add_zero] at hcn
              clear hca
              (repeat' (first | (show VH _ _ _ _ _ _ _; first | refine v_seq ?_ | refine r_seq ?_ | refine v_block ?_ | refine v_skip ?_ | refine v_cond_t rfl tbL ?_ | refine v_cond_f rfl tbL ?_) | (show SH _ _ _ _ _ (_ :: _) _ _ _; first | (show SH _ _ _ _ _ (⟨_, .move _, _, _, _, _⟩ :: _) _ _ _; refine mov evL ?_) | (show SH _ _ _ _ _ (⟨_, .assign _, _, _, _, _⟩ :: _) _ _ _; refine asg evL ?_) | (show SH _ _ _ _ _ (⟨_, .binOp .lss _ _ _ _, _, _, _, _⟩ :: _) _ _ _; refine lssT rfl rfl omD ?_) | (show SH _ _ _ _ _ (⟨_, .binOp .eql _ _ _ _, _, _, _, _⟩ :: _) _ _ _; refine eqlF rfl rfl omD ?_) | (show SH _ _ _ _ _ (⟨_, .binOp .add _ _ _ _, _, _, _, _⟩ :: _) _ _ _; refine add rfl rfl inL ?_) | (show SH _ _ _ _ _ (⟨_, .load _ _, _, _, _, _⟩ :: _) _ _ _; first | refine lbx rfl spL (by rfl) ?_ | refine lrg rfl (fun _ _ => rdP) (by rfl) omL (by assumption) (by rfl) ?_) | (show SH _ _ _ _ _ (⟨_, .indexAddr _ _ _, _, _, _, _⟩ :: _) _ _ _; refine ix rfl rfl (by with_reducible rfl) (fun _ _ => rdP) (by rfl) omL omL ?_) | refine slen rfl ?_ | refine fad rfl ?_) | refine s_nil ?_ | refine kh_normal ?_ | refine bh_normal ?_))
              exact ⟨agL, j + 1, by rw [hcn]; (repeat (first | exact trivial | refine And.intro rfl ?_)), enL, hjl, by omega⟩
          · obtain rfl : j = xv.length := by omega
            rw [List.take_length]
            (repeat' (first | (show VH _ _ _ _ _ _ _; first | refine v_seq ?_ | refine r_seq ?_ | refine v_exit ?_ | refine v_cond_f rfl tbL ?_) | (show SH _ _ _ _ _ (_ :: _) _ _ _; first | (show SH _ _ _ _ _ (⟨_, .move _, _, _, _, _⟩ :: _) _ _ _; refine mov evL ?_) | (show SH _ _ _ _ _ (⟨_, .assign _, _, _, _, _⟩ :: _) _ _ _; refine asg evL ?_) | (show SH _ _ _ _ _ (⟨_, .binOp .lss _ _ _ _, _, _, _, _⟩ :: _) _ _ _; refine lssF rfl rfl omD ?_) | (show SH _ _ _ _ _ (⟨_, .binOp .add _ _ _ _, _, _, _, _⟩ :: _) _ _ _; refine add rfl rfl inL ?_) | (show SH _ _ _ _ _ (⟨_, .load _ _, _, _, _, _⟩ :: _) _ _ _; first | refine lbx rfl spL (by rfl) ?_ | refine lrg rfl (fun _ _ => rdP) (by rfl) omL (by assumption) (by rfl) ?_) | (show SH _ _ _ _ _ (⟨_, .indexAddr _ _ _, _, _, _, _⟩ :: _) _ _ _; refine ix rfl rfl (by with_reducible rfl) (fun _ _ => rdP) (by rfl) omL omL ?_) | refine slen rfl ?_ | refine fad rfl ?_) | refine s_nil ?_ | refine kh_normal ?_ | refine kh_exit ?_ | refine bh_normal ?_ | refine bh_exit ?_))
            exact ⟨agL, i + 1, by rw [hca]; (repeat (first | exact trivial | refine And.intro rfl ?_)), enL, hil, by omega⟩
        · obtain rfl : i = L2.length := by omega
          have htl2 : (ptys L2).take L2.length = np := by rw [← ptys_len L2, List.take_length, hp2]
          rw [htl2, hcl]
          generalize cntB (fun p => !decide (p.id = pi_)) who (ptys L) = co at hbo ⊢
          clear hcl
          (repeat' (first | (show VH _ _ _ _ _ _ _; first | refine v_seq ?_ | refine r_seq ?_ | refine v_exit ?_ | refine v_cond_f rfl tbL ?_) | (show SH _ _ _ _ _ (_ :: _) _ _ _; first | (show SH _ _ _ _ _ (⟨_, .move _, _, _, _, _⟩ :: _) _ _ _; refine mov evL ?_) | (show SH _ _ _ _ _ (⟨_, .binOp .lss _ _ _ _, _, _, _, _⟩ :: _) _ _ _; refine lssF rfl rfl omD ?_) | (show SH _ _ _ _ _ (⟨_, .load _ _, _, _, _, _⟩ :: _) _ _ _; first | refine lbx rfl spL (by rfl) ?_ | refine lba rfl spL (by rfl) ?_) | refine slen rfl ?_ | (show SH _ _ _ _ _ (⟨_, .call ⟨.value (.func 21), _, _⟩, _, _, _, _⟩ :: _) _ _ _; refine cp (callee := .func 21) rfl (fun w hw => hd2 w (Wd.kp hw spL)) rfl rfl ?_) | refine fad rfl ?_) | refine s_nil ?_ | refine kh_normal ?_ | refine kh_exit ?_ | refine bh_exit ?_))
          rintro _ _ ⟨A9, c9, L9, hp9, rfl, rfl⟩
          (repeat' (first | (show VH _ _ _ _ _ _ _; first | refine v_seq ?_ | refine r_seq ?_ | refine v_ret ?_) | (show SH _ _ _ _ _ (_ :: _) _ _ _; first | (show SH _ _ _ _ _ (⟨_, _, _, _, _, some _⟩ :: _) _ _ _; (refine gif rfl rfl ?_; refine giTT tbL ?_)) | (show SH _ _ _ _ _ (⟨_, .move _, _, _, _, _⟩ :: _) _ _ _; refine mov evL ?_) | (show SH _ _ _ _ _ (⟨_, .assign _, _, _, _, _⟩ :: _) _ _ _; refine asg evL ?_) | (show SH _ _ _ _ _ (⟨_, .binOp .eql _ _ _ _, _, _, _, _⟩ :: _) _ _ _; refine eqlT rfl rfl omD ?_) | (show SH _ _ _ _ _ (⟨_, .binOp .sub _ _ _ _, _, _, _, _⟩ :: _) _ _ _; refine sub rfl rfl inL ?_) | (show SH _ _ _ _ _ (⟨_, .load _ _, _, _, _, _⟩ :: _) _ _ _; refine lbx rfl spL (by rfl) ?_) | refine slen rfl ?_ | (show SH _ _ _ _ _ (⟨_, .call ⟨.value (.func 19), _, _⟩, _, _, _, _⟩ :: _) _ _ _; refine cl (callee := .func 19) rfl (fun w hw => hsr w (hzm w (Wd.kp hw spL)) (hm.ext hw.ext)) rfl rfl ?_) | (show SH _ _ _ _ _ (⟨_, .pick _ _ _, _, _, _, _⟩ :: _) _ _ _; refine pkt rfl tbL evL ?_) | refine extr rfl rfl ?_ | refine fad rfl ?_ | refine ala rfl (fun b => ?_) | (show SH _ _ _ _ _ (⟨_, .store _ _ _, _, _, _, _⟩ :: _) _ _ _; refine sta rfl rfl rfl spL (by rfl) (by rfl) (by rfl) kpL ?_)) | refine s_nil ?_ | refine kh_normal ?_))
          exact rh1 rfl rfl ⟨rfl, rfl⟩ (ent_nil _)
end Go.Proofs.Ytlfbcoohfnoacaa

/- PartyJoins answers true, whatever the input; no condition. -/
namespace Go.Proofs.Ytlfbcoohfnoacaa
open Go.Fw Go.RowKit Go.ChangeShapes Go.WideShapes Go.ChangeAt
set_option maxRecDepth 100000 in
theorem joins_lifted (os : Os) (started : os.Started) (H : Type) (enc : TypeId × Value → H) :
    ReturnsInHanded {} Try.checked os 5 .any (Rows.partyJoinsSpec.pre6 enc Try.prog Try.f5 Rows.partyJoinsRow.domain false) (Rows.partyJoinsSpec.post enc Try.prog Try.f5 false true false false) := by
  refine returnsInHanded_of_change (C := Try.checked) ownK started (by kernel_rfl) Try.func5
    (ChangeSpec.witness6 (enc := enc) (C := Try.checked) false ⟨#[], #[.agg #[.int .i64 0, .int .i64 0, .slice none 0 0], .int .i64 0, .int .i64 0], []⟩ 8 (by kernel_rfl) (by kernel_rfl) (by kernel_rfl) (by kernel_rfl)) ?_
  intro W base args ds gs before hval0 hW _ _
  have hval : ∀ (j : Nat) t v, Try.f5.params[j]? = some t → args[j]? = some v → Value.okWide Try.prog W .any base t v := hval0
  have hW' := hW
  obtain ⟨p, q, hA0, hV, rfl, _, _⟩ := hW
  have hA : DataW.TrodAll enc Try.prog W 0 (fun _ => true) true Try.f5.params.toList args.toList ds p := hA0
  rw [Try.params5] at hA hval
  obtain ⟨v0, vs0, d0, ds0, p0, q0, hargs, rfl, rfl, h0, r0⟩ := trodAll_cons hA
  obtain ⟨v1, vs1, d1, ds1, p1, q1, rfl, rfl, rfl, h1, r1⟩ := trodAll_cons r0
  obtain ⟨v2, vs2, d2, ds2, p2, q2, rfl, rfl, rfl, h2, r2⟩ := trodAll_cons r1
  obtain ⟨rfl, rfl, rfl⟩ := trodAll_nil r2
  obtain rfl : args = #[v0, v1, v2] := by cases args; simp_all
  obtain ⟨t0, la0, A0, L0, c0, rfl, hr0, hl0⟩ := open_hall (hval 0 24 v0 rfl rfl) h0
  obtain ⟨a1, rfl, _, _, w1⟩ := open_int Try.underlying3 (hval 1 3 v1 rfl rfl) h1
  obtain ⟨lo1, hi1⟩ := i64_of w1
  obtain ⟨a2, rfl, _, _, w2⟩ := open_int Try.underlying3 (hval 2 3 v2 rfl rfl) h2
  obtain ⟨lo2, hi2⟩ := i64_of w2
  refine ((joinsLaw t0 la0 A0 L0 c0 a1 a2 W hl0 hr0).2).mono fun e W' ⟨v, he, hR, ⟨hv, _⟩, hext⟩ => ?_
  subst hv
  exact ⟨_, he, law_post (P := Try.prog) (tb := 4) laidK (by kernel_rfl) rfl Try.underlying4 rfl ⟨rfl, rfl, rfl⟩ hW' hext.ext⟩
theorem joins_holds : Rows.PartyJoinsSaid :=
  OpenClaim.holds_of_wide 5 Try.f5 rfl rfl rfl rfl rfl rfl rfl ⟨rfl, rfl, rfl, rfl, rfl⟩ rfl rfl rfl rfl rfl (by kernel_rfl) Try.func5 (by kernel_rfl)
    (of_decide_eq_true (by kernel_rfl)) (by unfold Func.isWrapper; first | (rw [if_pos (by decide +kernel)]; kernel_rfl) | (rw [if_neg (by decide +kernel)]; exact ⟨rfl, rfl⟩))
    (fun os started H enc _ => joins_lifted os started H enc)
end Go.Proofs.Ytlfbcoohfnoacaa

