/- PartyTells: from the law's function. -/
import Derived.Test.YtlfbcoohfnoacaaGreatSAa
import Derived.Test.YtlfbcoohfnoacaaGreatSAb
import Derived.Test.YtlfbcoohfnoacaaGreatSAc
import Derived.Test.YtlfbcoohfnoacaaGreatSAd
import Derived.Test.YtlfbcoohfnoacaaGreatSAe
import Derived.Test.YtlfbcoohfnoacaaGreatSAf
import Derived.Test.YtlfbcoohfnoacaaGreatSAg
import Derived.Test.YtlfbcoohfnoacaaGreatSAh
set_option linter.unusedSimpArgs false
set_option linter.unusedVariables false
/- The reference of layer 36: leave, Leave, Kick. -/
namespace Go.Proofs.YtlfbcoohfnoacaaGreat
open Go.Fw Go.RowKit
/-- The parties behind a leaving. -/
def leaveR (ps : List Pty) (k : Nat) (who : Int) : List Pty := match leftM who (ps.getD k pty0) with | none => ps.eraseIdx k | some p => ps.set k p
theorem leaveAt_p (t la : Int) (ps : List Pty) (k : Nat) (who : Int) : leaveAt ⟨t, la, ps⟩ k who = ⟨t, la, leaveR ps k who⟩ := by
  unfold leaveAt leaveR
  simp only
  cases leftM who (ps.getD k pty0) <;> rfl
theorem find_is {who : Int} {ps : List Pty} {k : Nat} (h : findM who ps = some k) : findI36 who ps = k := by
  unfold findI36; rw [h]
theorem find_isnt {who : Int} {ps : List Pty} {k : Nat} (h : findM who ps ≠ some k) : findI36 who ps ≠ k := by
  unfold findI36
  cases hf : findM who ps with
  | none => intro e; have e : (-1 : Int) = (k : Int) := e; omega
  | some j => intro e; have e : (j : Int) = (k : Int) := e; exact h (by rw [hf, show j = k by omega])
def stayM (who : Int) (n : Int) : Bool := !decide (n = who)
theorem ptys_erR (L : List PtyP) (k : Nat) : ptys (L.eraseIdx k) = (ptys L).eraseIdx k := by
  unfold ptys
  rw [List.eraseIdx_eq_take_drop_succ, List.eraseIdx_eq_take_drop_succ, List.map_append, List.map_take, List.map_drop]
set_option maxHeartbeats 4000000 in
set_option maxRecDepth 100000 in
theorem refLeft_spec (t la : Int) (A : Option Addr) (L : List PtyP) (c : Nat) (k : Nat) (who : Int) (Φ : World → Prop) (w0 : World) (H : List HP) (w : World) (hk : k < L.length) (hz : SzP L) (hc : L.length ≤ c) (hΦ : ∀ w, Φ w → RdP w A L) (hw : Wd w0 (kno Φ :: H) w) :
    Ret Tryz.prog 103 [hv36 t la A L c, .int .i64 (k : Nat), .int .i64 who].toArray w (RP w0 (RefH Φ H t la (leaveR (ptys L) k who))) := by
  have hll := hz.len
  have hml : (L.getD k Flat.dflt).p.mem.length ≤ 1000 := hz.atm hk
  have hvl : (L.getD k Flat.dflt).p.inv.length ≤ 1000 := hz.ati hk
  have hA : ∀ w, Φ w → Rd w A L := fun w h => (hΦ w h).1
  have hB : ∀ w, Φ w → Rd w (L.getD k Flat.dflt).A (L.getD k Flat.dflt).p.mem := fun w h => (hΦ w h).mem hk
  have hin : ∀ y : PtyP, y.p.inv = (L.getD k Flat.dflt).p.inv → y.B = (L.getD k Flat.dflt).B → ∀ w, Φ w → Rd w y.A y.p.mem → ∀ z ∈ L.set k y, Rd w z.A z.p.mem ∧ Rd w z.B z.p.inv := fun y h1 h2 w hw hr z hz => by
    rcases List.mem_or_eq_of_mem_set hz with h | h
    · exact (hΦ w hw).2 z h
    · rw [h, h1, h2]
      exact ⟨hr, (hΦ w hw).inv hk⟩
  have hie : ∀ w, Φ w → ∀ z ∈ L.eraseIdx k, Rd w z.A z.p.mem ∧ Rd w z.B z.p.inv := fun w hw z hz => (hΦ w hw).2 z (List.mem_of_mem_eraseIdx hz)
  have hnx : ∀ y : PtyP, ptys (L.set k y) = (ptys L).set k y.p := fun y => ptys_set ..
  have hne := ptys_erR L k
  unfold leaveR leftM
  rw [ptys_at hk]
  have hW := fun y w h => ret_cap (refWith_spec t la A L c k y w hk hll h)
  have hD := fun w h => ret_cap (refDrop_spec t la A L c k w hk hll hc h)
  unfold hv36 at hW hD
  obtain ⟨x, hx⟩ : ∃ x, L.getD k Flat.dflt = x := ⟨_, rfl⟩
  have hxE := pty_enc hx
  rw [hx] at hml hvl hB hin ⊢
  clear hx
  obtain ⟨⟨xi, xl, xm, xv⟩, xA, xca, xB, xcb⟩ := x
  simp only at hml hvl hB hin hxE ⊢
  rw [show (fun n => !decide (n = who)) = stayM who from rfl]
  refine enterH Tryz.func103 rfl rfl Tryz.ntmps103 rfl (by assumption) ?_
  (repeat' (first | (show VH _ _ _ _ _ _ _; first | refine v_seq ?_ | refine r_seq ?_ | refine v_block ?_) | (show SH _ _ _ _ _ (_ :: _) _ _ _; first | (show SH _ _ _ _ _ (⟨_, .move _, _, _, _, _⟩ :: _) _ _ _; refine mov evL ?_) | (show SH _ _ _ _ _ (⟨_, .assign _, _, _, _, _⟩ :: _) _ _ _; refine asg evL ?_) | (show SH _ _ _ _ _ (⟨_, .load _ _, _, _, _, _⟩ :: _) _ _ _; first | refine lbx rfl spL (by rfl) ?_ | refine lag rfl (fun _ _ => rdK) (by rfl) omL (by assumption) ?_) | (show SH _ _ _ _ _ (⟨_, .indexAddr _ _ _, _, _, _, _⟩ :: _) _ _ _; refine ix rfl rfl (by with_reducible rfl) (fun _ _ => rdK) (by rfl) omL omL ?_) | refine fad rfl ?_ | refine ala rfl (fun b => ?_) | (show SH _ _ _ _ _ (⟨_, .box _ _, _, _, _, _⟩ :: _) _ _ _; refine bxx rfl evL rfl (fun b => ?_)) | (show SH _ _ _ _ _ (⟨_, .store _ _ _, _, _, _, _⟩ :: _) _ _ _; refine sta rfl rfl rfl spL (by rfl) (by rfl) (by rfl) kpL ?_)) | refine s_nil ?_ | refine kh_normal ?_))
  rename_i b1 b2
  revert b
  intro b3
  refine v_norm [(1,_),(2,_),(3,_),(6,_),(7,_),(8,_),(9,_)] heL (fun g => ?_)
  refine VH.ent (G := orow 3 none 0 ([] : List Int) :: kno Φ :: bx b3 43 [.int .i64 xi, .int .i64 xl, .slice xA xm.length xca, .slice xB xv.length xcb] :: bx b1 30 [.int .i64 t, .int .i64 la, .slice A L.length c] :: bx b2 30 [.int .i64 0, .int .i64 0, .slice none 0 0] :: H) ?_ (ent_nilrow enL)
  refine v_loop [(8,9),(15,36)] (fun y : Nat × Option Addr × Nat => [(9, .int .i64 y.1), (8, .slice y.2.1 ((xm.take y.1).filter (stayM who)).length y.2.2)]) (fun y => orow 3 y.2.1 y.2.2 ((xm.take y.1).filter (stayM who)) :: kno Φ :: bx b3 43 [.int .i64 xi, .int .i64 xl, .slice xA xm.length xca, .slice xB xv.length xcb] :: bx b1 30 [.int .i64 t, .int .i64 la, .slice A L.length c] :: bx b2 30 [.int .i64 0, .int .i64 0, .slice none 0 0] :: H) (fun y => y.1 ≤ xm.length) (fun y => xm.length - y.1) (0, none, 0) hsL enL (Nat.zero_le _) ?_
  rintro ⟨i, B, d⟩ g hi
  simp only [sets]
  simp only at hi
  by_cases hil : i < xm.length
  · have htk := take_snoc (d := (0 : Int)) hil
    obtain ⟨v, hv⟩ : ∃ v, xm.getD i 0 = v := ⟨_, rfl⟩
    have hF : (xm.take (i + 1)).filter (stayM who) = (xm.take i).filter (stayM who) ++ (if stayM who v = true then [v] else []) := by
      rw [htk, List.filter_append, hv]
      congr 1
      rw [List.filter_cons, List.filter_nil]
    have hfl : ((xm.take i).filter (stayM who)).length ≤ 1000 := by
      have h1 := List.length_filter_le (stayM who) (xm.take i)
      rw [List.length_take] at h1; omega
    clear htk hnx hin hie hne hW hD
    generalize (xm.take i).filter (stayM who) = F at hF hfl ⊢
    by_cases h1 : v = who
    · rw [show stayM who v = false from by simp [stayM, h1], if_neg (by decide), List.append_nil] at hF
      (repeat' (first | (show VH _ _ _ _ _ _ _; first | refine v_seq ?_ | refine r_seq ?_ | refine v_block ?_ | refine v_skip ?_ | refine v_cond_t rfl tbL ?_ | refine v_cond_f rfl tbL ?_) | (show SH _ _ _ _ _ (_ :: _) _ _ _; first | (show SH _ _ _ _ _ (⟨_, .move _, _, _, _, _⟩ :: _) _ _ _; refine mov evL ?_) | (show SH _ _ _ _ _ (⟨_, .assign _, _, _, _, _⟩ :: _) _ _ _; refine asg evL ?_) | (show SH _ _ _ _ _ (⟨_, .binOp .lss _ _ _ _, _, _, _, _⟩ :: _) _ _ _; refine lssT rfl rfl omD ?_) | (show SH _ _ _ _ _ (⟨_, .binOp .neq _ _ _ _, _, _, _, _⟩ :: _) _ _ _; refine neqF rfl rfl omD ?_) | (show SH _ _ _ _ _ (⟨_, .binOp .add _ _ _ _, _, _, _, _⟩ :: _) _ _ _; refine add rfl rfl inL ?_) | (show SH _ _ _ _ _ (⟨_, .load _ _, _, _, _, _⟩ :: _) _ _ _; first | refine lbx rfl spL (by rfl) ?_ | refine lgi rfl (fun _ _ => rdK) omL (by assumption) ?_) | (show SH _ _ _ _ _ (⟨_, .indexAddr _ _ _, _, _, _, _⟩ :: _) _ _ _; refine ix rfl rfl (by with_reducible rfl) (fun _ _ => rdK) (by rfl) omL omL ?_) | refine slen rfl ?_ | refine fad rfl ?_) | refine s_nil ?_ | refine kh_normal ?_ | refine bh_normal ?_))
      exact ⟨agL, (i + 1, B, d), by rw [hF]; (repeat (first | exact trivial | refine And.intro rfl ?_)), by rw [hF]; exact enL, hil, by show xm.length - (i + 1) < xm.length - i; omega⟩
    · rw [show stayM who v = true from by simp [stayM, h1], if_pos rfl] at hF
      (repeat' (first | (show VH _ _ _ _ _ _ _; first | refine v_seq ?_ | refine r_seq ?_ | refine v_block ?_ | refine v_skip ?_ | refine v_cond_t rfl tbL ?_) | (show SH _ _ _ _ _ (_ :: _) _ _ _; first | (show SH _ _ _ _ _ (⟨_, .move _, _, _, _, _⟩ :: _) _ _ _; refine mov evL ?_) | (show SH _ _ _ _ _ (⟨_, .binOp .lss _ _ _ _, _, _, _, _⟩ :: _) _ _ _; refine lssT rfl rfl omD ?_) | (show SH _ _ _ _ _ (⟨_, .binOp .neq _ _ _ _, _, _, _, _⟩ :: _) _ _ _; refine neqT rfl rfl omD ?_) | (show SH _ _ _ _ _ (⟨_, .load _ _, _, _, _, _⟩ :: _) _ _ _; first | refine lbx rfl spL (by rfl) ?_ | refine lgi rfl (fun _ _ => rdK) omL (by assumption) ?_) | (show SH _ _ _ _ _ (⟨_, .indexAddr _ _ _, _, _, _, _⟩ :: _) _ _ _; refine ix rfl rfl (by with_reducible rfl) (fun _ _ => rdK) (by rfl) omL omL ?_) | refine slen rfl ?_ | refine fad rfl ?_ | (show SH _ _ _ _ _ (⟨_, .buildSlice _ _ _, _, _, _, _⟩ :: _) _ _ _; refine bsl (α := Int) rfl rfl (by repeat (first | exact Vals.nil | (apply Vals.cons; rfl))) rfl (by rfl) (by decide) (fun b => ?_))) | refine s_nil ?_ | refine kh_normal ?_))
      refine app (l := F) (l2 := [(v : Int)]) rfl rfl rfl spL (fun w hw => hw.rd spL) rfl rfl rfl (by simp only [List.length_singleton]; omega) (by simp only [List.length_singleton]; omega) (fun A4 c4 => ⟨enL, ?_⟩)
      (repeat' (first | refine r_seq ?_ | (show SH _ _ _ _ _ (_ :: _) _ _ _; first | (show SH _ _ _ _ _ (⟨_, .move _, _, _, _, _⟩ :: _) _ _ _; refine mov evL ?_) | (show SH _ _ _ _ _ (⟨_, .assign _, _, _, _, _⟩ :: _) _ _ _; refine asg evL ?_) | (show SH _ _ _ _ _ (⟨_, .binOp .add _ _ _ _, _, _, _, _⟩ :: _) _ _ _; refine add rfl rfl inL ?_)) | refine s_nil ?_ | refine kh_normal ?_ | refine bh_normal ?_))
      exact ⟨agL, (i + 1, A4, c4), by rw [hF]; (repeat (first | exact trivial | refine And.intro rfl ?_)), by rw [hF]; exact enL, hil, by show xm.length - (i + 1) < xm.length - i; omega⟩
  · obtain rfl : i = xm.length := by omega
    rw [List.take_length]
    cases hFE : xm.filter (stayM who) with
    | nil =>
      simp only
      (repeat' (first | (show VH _ _ _ _ _ _ _; first | refine v_seq ?_ | refine r_seq ?_ | refine v_exit ?_ | refine v_cond_t rfl tbL ?_ | refine v_cond_f rfl tbL ?_) | (show SH _ _ _ _ _ (_ :: _) _ _ _; first | (show SH _ _ _ _ _ (⟨_, .move _, _, _, _, _⟩ :: _) _ _ _; refine mov evL ?_) | (show SH _ _ _ _ _ (⟨_, .binOp .lss _ _ _ _, _, _, _, _⟩ :: _) _ _ _; refine lssF rfl rfl omD ?_) | refine eql rfl rfl ?_ | (show SH _ _ _ _ _ (⟨_, .load _ _, _, _, _, _⟩ :: _) _ _ _; first | refine lbx rfl spL (by rfl) ?_ | refine lba rfl spL (by rfl) ?_) | refine slen rfl ?_ | (show SH _ _ _ _ _ (⟨_, .call ⟨.value (.func 104), _, _⟩, _, _, _, _⟩ :: _) _ _ _; refine cp (callee := .func 104) rfl (fun w hw => hD w (rd_thk hA hw spL)) rfl rfl ?_) | refine fad rfl ?_) | refine s_nil ?_ | refine kh_normal ?_ | refine kh_exit ?_ | refine bh_exit ?_))
      rintro _ _ ⟨A2, c2, hcap, rfl, rfl⟩
      (repeat' (first | refine v_ret ?_ | (show SH _ _ _ _ _ (_ :: _) _ _ _; (show SH _ _ _ _ _ (⟨_, .store _ _ _, _, _, _, _⟩ :: _) _ _ _; refine sta rfl rfl rfl spL (by rfl) (by rfl) (by rfl) kpL ?_)) | refine s_nil ?_ | refine kh_normal ?_ | refine kh_ret ?_))
      exact rhC rfl rfl rfl (fun w hw => loadVar_bx hw spL (by rfl)) ⟨A2, c2, L.eraseIdx k, hne, hcap, rfl, rfl⟩ (Ent.trans (B := orow 43 A2 c2 (L.eraseIdx k) :: kno Φ :: H) enL (ent_ref_row hie))
    | cons y r =>
      simp only
      have hy0 : (y :: r).getD 0 0 = y := rfl
      have hyl : 0 < (y :: r).length := Nat.succ_pos _
      by_cases hl : xl = who
      · rw [if_pos hl]
        (repeat' (first | (show VH _ _ _ _ _ _ _; first | refine v_seq ?_ | refine r_seq ?_ | refine v_skip ?_ | refine v_exit ?_ | refine v_cond_t rfl tbL ?_ | refine v_cond_f rfl tbL ?_) | (show SH _ _ _ _ _ (_ :: _) _ _ _; first | (show SH _ _ _ _ _ (⟨_, .move _, _, _, _, _⟩ :: _) _ _ _; refine mov evL ?_) | (show SH _ _ _ _ _ (⟨_, .binOp .lss _ _ _ _, _, _, _, _⟩ :: _) _ _ _; refine lssF rfl rfl omD ?_) | (show SH _ _ _ _ _ (⟨_, .binOp .eql _ _ _ _, _, _, _, _⟩ :: _) _ _ _; first | refine eqlT rfl rfl omD ?_ | refine eqlF rfl rfl omD ?_) | (show SH _ _ _ _ _ (⟨_, .load _ _, _, _, _, _⟩ :: _) _ _ _; first | refine lbx rfl spL (by rfl) ?_ | refine lba rfl spL (by rfl) ?_ | refine lgi rfl (fun _ _ => rdK) omL (by assumption) ?_) | (show SH _ _ _ _ _ (⟨_, .indexAddr _ _ _, _, _, _, _⟩ :: _) _ _ _; first | refine ixi rfl rfl (fun _ _ => rdK) (by rfl) omL omL omL ?_ | refine ixi rfl rfl (fun _ _ => rdK) (by rfl) omL (by first | omega | (simp only [List.length_cons, List.length_nil]; omega)) (by simp only [List.length_cons, List.length_nil]; omega) ?_) | refine slen rfl ?_ | (show SH _ _ _ _ _ (⟨_, .call ⟨.value (.func 101), _, _⟩, _, _, _, _⟩ :: _) _ _ _; refine cp (callee := .func 101) rfl (fun w hw => hW ⟨⟨xi, y, y :: r, xv⟩, B, d, xB, xcb⟩ w (rd_thk hA hw spL)) rfl rfl ?_) | refine fad rfl ?_ | (show SH _ _ _ _ _ (⟨_, .store _ _ _, _, _, _, _⟩ :: _) _ _ _; refine stb rfl rfl evL spL rfl rfl (by first | decide | exact Nat.zero_lt_succ _ | exact of_decide_eq_true rfl) kpL ?_)) | refine s_nil ?_ | refine kh_normal ?_ | refine kh_exit ?_ | refine bh_exit ?_))
        rintro _ _ ⟨A2, c2, hcap, rfl, rfl⟩
        (repeat' (first | refine v_ret ?_ | (show SH _ _ _ _ _ (_ :: _) _ _ _; (show SH _ _ _ _ _ (⟨_, .store _ _ _, _, _, _, _⟩ :: _) _ _ _; refine sta rfl rfl rfl spL (by rfl) (by rfl) (by rfl) kpL ?_)) | refine s_nil ?_ | refine kh_normal ?_))
        exact rhC rfl rfl rfl (fun w hw => loadVar_bx hw spL (by rfl)) ⟨A2, c2, L.set k ⟨⟨xi, y, y :: r, xv⟩, B, d, xB, xcb⟩, hnx _, hcap, rfl, rfl⟩ (Ent.trans (B := orow 43 A2 c2 (L.set k ⟨⟨xi, y, y :: r, xv⟩, B, d, xB, xcb⟩) :: orow 3 B d (y :: r) :: kno Φ :: H) enL (ent_ref_mem fun w h1 h2 => hin ⟨⟨xi, y, y :: r, xv⟩, B, d, xB, xcb⟩ rfl rfl w h1 h2))
      · rw [if_neg hl]
        (repeat' (first | (show VH _ _ _ _ _ _ _; first | refine v_seq ?_ | refine r_seq ?_ | refine v_skip ?_ | refine v_exit ?_ | refine v_cond_f rfl tbL ?_) | (show SH _ _ _ _ _ (_ :: _) _ _ _; first | (show SH _ _ _ _ _ (⟨_, .move _, _, _, _, _⟩ :: _) _ _ _; refine mov evL ?_) | (show SH _ _ _ _ _ (⟨_, .binOp .lss _ _ _ _, _, _, _, _⟩ :: _) _ _ _; refine lssF rfl rfl omD ?_) | (show SH _ _ _ _ _ (⟨_, .binOp .eql _ _ _ _, _, _, _, _⟩ :: _) _ _ _; refine eqlF rfl rfl omD ?_) | (show SH _ _ _ _ _ (⟨_, .load _ _, _, _, _, _⟩ :: _) _ _ _; first | refine lbx rfl spL (by rfl) ?_ | refine lba rfl spL (by rfl) ?_) | refine slen rfl ?_ | (show SH _ _ _ _ _ (⟨_, .call ⟨.value (.func 101), _, _⟩, _, _, _, _⟩ :: _) _ _ _; refine cp (callee := .func 101) rfl (fun w hw => hW ⟨⟨xi, xl, y :: r, xv⟩, B, d, xB, xcb⟩ w (rd_thk hA hw spL)) rfl rfl ?_) | refine fad rfl ?_ | (show SH _ _ _ _ _ (⟨_, .store _ _ _, _, _, _, _⟩ :: _) _ _ _; refine stb rfl rfl evL spL rfl rfl (by first | decide | exact Nat.zero_lt_succ _ | exact of_decide_eq_true rfl) kpL ?_)) | refine s_nil ?_ | refine kh_normal ?_ | refine kh_exit ?_ | refine bh_exit ?_))
        rintro _ _ ⟨A2, c2, hcap, rfl, rfl⟩
        (repeat' (first | refine v_ret ?_ | (show SH _ _ _ _ _ (_ :: _) _ _ _; (show SH _ _ _ _ _ (⟨_, .store _ _ _, _, _, _, _⟩ :: _) _ _ _; refine sta rfl rfl rfl spL (by rfl) (by rfl) (by rfl) kpL ?_)) | refine s_nil ?_ | refine kh_normal ?_))
        exact rhC rfl rfl rfl (fun w hw => loadVar_bx hw spL (by rfl)) ⟨A2, c2, L.set k ⟨⟨xi, xl, y :: r, xv⟩, B, d, xB, xcb⟩, hnx _, hcap, rfl, rfl⟩ (Ent.trans (B := orow 43 A2 c2 (L.set k ⟨⟨xi, xl, y :: r, xv⟩, B, d, xB, xcb⟩) :: orow 3 B d (y :: r) :: kno Φ :: H) enL (ent_ref_mem fun w h1 h2 => hin ⟨⟨xi, xl, y :: r, xv⟩, B, d, xB, xcb⟩ rfl rfl w h1 h2))
set_option maxHeartbeats 4000000 in
set_option maxRecDepth 100000 in
theorem refLeave_spec (t la : Int) (A : Option Addr) (L : List PtyP) (c : Nat) (who : Int) (Φ : World → Prop) (w0 : World) (H : List HP) (w : World) (hz : SzP L) (hc : L.length ≤ c) (hΦ : ∀ w, Φ w → RdP w A L) (hw : Wd w0 (kno Φ :: H) w) :
    Ret Tryz.prog 71 [hv36 t la A L c, .int .i64 who].toArray w (RP w0 (RefC Φ H (leaveM ⟨t, la, ptys L⟩ who))) := by
  have hV := fun w' h => refValid_spec t la A L c w' hz h
  have hF := fun w' h => refFind_spec t la A L c who w' hz h
  unfold findI36 at hF
  unfold leaveM
  simp only
  cases hv : validHal ⟨t, la, ptys L⟩ with
  | false =>
    simp only [hv] at hV
    rw [if_neg (by decide)]
    refine enterH Tryz.func71 rfl rfl Tryz.ntmps71 rfl (by assumption) ?_
    (repeat' (first | (show VH _ _ _ _ _ _ _; first | refine v_seq ?_ | refine r_seq ?_ | refine v_ret ?_ | refine v_cond_t rfl tbL ?_) | (show SH _ _ _ _ _ (_ :: _) _ _ _; first | (show SH _ _ _ _ _ (⟨_, .assign _, _, _, _, _⟩ :: _) _ _ _; refine asg evL ?_) | (show SH _ _ _ _ _ (⟨_, .load _ _, _, _, _, _⟩ :: _) _ _ _; refine lba rfl spL (by rfl) ?_) | (show SH _ _ _ _ _ (⟨_, .call ⟨.value (.func 9), _, _⟩, _, _, _, _⟩ :: _) _ _ _; refine cl (callee := .func 9) rfl (fun w hw => hV w (hΦ _ (hw.kn spL))) rfl rfl ?_) | refine bnoF rfl ?_ | refine bld rfl rfl ?_ | refine ala rfl (fun b => ?_) | (show SH _ _ _ _ _ (⟨_, .box _ _, _, _, _, _⟩ :: _) _ _ _; refine bxx rfl evL rfl (fun b => ?_)) | (show SH _ _ _ _ _ (⟨_, .store _ _ _, _, _, _, _⟩ :: _) _ _ _; refine sta rfl rfl rfl spL (by rfl) (by rfl) (by rfl) kpL ?_)) | refine s_nil ?_ | refine kh_normal ?_ | refine kh_ret ?_))
    exact rhC2 rfl rfl rfl rfl (fun w hw => loadVar_bx hw spL (by rfl)) refC0 (Ent.trans (B := kno Φ :: H) enL ent_ref0)
  | true =>
    simp only [hv] at hV
    rw [if_pos rfl]
    cases hf : findM who (ptys L) with
    | none =>
      simp only [hf] at hF
      refine enterH Tryz.func71 rfl rfl Tryz.ntmps71 rfl (by assumption) ?_
      (repeat' (first | (show VH _ _ _ _ _ _ _; first | refine v_seq ?_ | refine r_seq ?_ | refine v_ret ?_ | refine v_skip ?_ | refine v_cond_t rfl tbL ?_ | refine v_cond_f rfl tbL ?_) | (show SH _ _ _ _ _ (_ :: _) _ _ _; first | (show SH _ _ _ _ _ (⟨_, .move _, _, _, _, _⟩ :: _) _ _ _; refine mov evL ?_) | (show SH _ _ _ _ _ (⟨_, .assign _, _, _, _, _⟩ :: _) _ _ _; refine asg evL ?_) | (show SH _ _ _ _ _ (⟨_, .binOp .lss _ _ _ _, _, _, _, _⟩ :: _) _ _ _; refine lssT rfl rfl omD ?_) | (show SH _ _ _ _ _ (⟨_, .load _ _, _, _, _, _⟩ :: _) _ _ _; refine lba rfl spL (by rfl) ?_) | (show SH _ _ _ _ _ (⟨_, .call ⟨.value (.func 9), _, _⟩, _, _, _, _⟩ :: _) _ _ _; refine cl (callee := .func 9) rfl (fun w hw => hV w (hΦ _ (hw.kn spL))) rfl rfl ?_) | (show SH _ _ _ _ _ (⟨_, .call ⟨.value (.func 75), _, _⟩, _, _, _, _⟩ :: _) _ _ _; refine cl (callee := .func 75) rfl (fun w hw => hF w (hΦ _ (hw.kn spL))) rfl rfl ?_) | refine bnoT rfl ?_ | refine bld rfl rfl ?_ | refine ala rfl (fun b => ?_) | (show SH _ _ _ _ _ (⟨_, .box _ _, _, _, _, _⟩ :: _) _ _ _; refine bxx rfl evL rfl (fun b => ?_)) | (show SH _ _ _ _ _ (⟨_, .store _ _ _, _, _, _, _⟩ :: _) _ _ _; refine sta rfl rfl rfl spL (by rfl) (by rfl) (by rfl) kpL ?_)) | refine s_nil ?_ | refine kh_normal ?_ | refine kh_ret ?_))
      exact rhC2 rfl rfl rfl rfl (fun w hw => loadVar_bx hw spL (by rfl)) refC0 (Ent.trans (B := kno Φ :: H) enL ent_ref0)
    | some k =>
      simp only [hf] at hF
      have hk := findM_lt hf
      rw [ptys_len] at hk
      simp only
      rw [leaveAt_p]
      refine enterH Tryz.func71 rfl rfl Tryz.ntmps71 rfl (by assumption) ?_
      (repeat' (first | (show VH _ _ _ _ _ _ _; first | refine v_seq ?_ | refine r_seq ?_ | refine v_skip ?_ | refine v_cond_f rfl tbL ?_) | (show SH _ _ _ _ _ (_ :: _) _ _ _; first | (show SH _ _ _ _ _ (⟨_, .move _, _, _, _, _⟩ :: _) _ _ _; refine mov evL ?_) | (show SH _ _ _ _ _ (⟨_, .assign _, _, _, _, _⟩ :: _) _ _ _; refine asg evL ?_) | (show SH _ _ _ _ _ (⟨_, .binOp .lss _ _ _ _, _, _, _, _⟩ :: _) _ _ _; refine lssF rfl rfl omD ?_) | (show SH _ _ _ _ _ (⟨_, .load _ _, _, _, _, _⟩ :: _) _ _ _; refine lba rfl spL (by rfl) ?_) | (show SH _ _ _ _ _ (⟨_, .call ⟨.value (.func 9), _, _⟩, _, _, _, _⟩ :: _) _ _ _; refine cl (callee := .func 9) rfl (fun w hw => hV w (hΦ _ (hw.kn spL))) rfl rfl ?_) | (show SH _ _ _ _ _ (⟨_, .call ⟨.value (.func 75), _, _⟩, _, _, _, _⟩ :: _) _ _ _; refine cl (callee := .func 75) rfl (fun w hw => hF w (hΦ _ (hw.kn spL))) rfl rfl ?_) | refine bnoT rfl ?_ | refine ala rfl (fun b => ?_) | (show SH _ _ _ _ _ (⟨_, .box _ _, _, _, _, _⟩ :: _) _ _ _; refine bxx rfl evL rfl (fun b => ?_))) | refine s_nil ?_ | refine kh_normal ?_))
      rename_i b2
      refine r_heldT [bx b2 30 [.int .i64 t, .int .i64 la, .slice A L.length c]] (tr [(0, true), (1, true), (2, true), (4, true), (3, false), (5, false), (6, false), (7, false)] .nil) hmix (by kernel_rfl) enL ?_
      (repeat' ((show SH _ _ _ _ _ (_ :: _) _ _ _; first | (show SH _ _ _ _ _ (⟨_, .move _, _, _, _, _⟩ :: _) _ _ _; refine mov evL ?_) | (show SH _ _ _ _ _ (⟨_, .load _ _, _, _, _, _⟩ :: _) _ _ _; refine lba rfl spL (by rfl) ?_) | (show SH _ _ _ _ _ (⟨_, .call ⟨.value (.func 75), _, _⟩, _, _, _, _⟩ :: _) _ _ _; refine cl (callee := .func 75) rfl (fun w hw => hF w (hΦ _ (hw.kn spL))) rfl rfl ?_))))
      refine cm rfl (fun w3 hw3 => refLeft_spec t la A L c k who Φ w0 (bx b2 30 [.int .i64 t, .int .i64 la, .slice A L.length c] :: bx b 30 [.int .i64 0, .int .i64 0, .slice none 0 0] :: H) w3 hk hz hc hΦ (Ent.wd enL hw3)) rfl rfl ?_
      rintro _ _ ⟨A1, c1, M, hM, hcM, rfl, rfl⟩
      refine ⟨enL, ?_⟩
      (repeat' (first | refine v_ret ?_ | (show SH _ _ _ _ _ (_ :: _) _ _ _; first | (show SH _ _ _ _ _ (⟨_, .assign _, _, _, _, _⟩ :: _) _ _ _; refine asg evL ?_) | (show SH _ _ _ _ _ (⟨_, .store _ _ _, _, _, _, _⟩ :: _) _ _ _; refine sta rfl rfl rfl spL (by rfl) (by rfl) (by rfl) kpL ?_)) | refine s_nil ?_ | refine kh_normal ?_))
      exact rhC2 rfl rfl rfl rfl (fun w hw => loadVar_bx hw spL (by rfl)) ⟨A1, c1, M, hM, hcM, rfl, rfl⟩ enL
set_option maxHeartbeats 4000000 in
set_option maxRecDepth 100000 in
theorem refKick_spec (t la : Int) (A : Option Addr) (L : List PtyP) (c : Nat) (by' who : Int) (Φ : World → Prop) (w0 : World) (H : List HP) (w : World) (hz : SzP L) (hc : L.length ≤ c) (hΦ : ∀ w, Φ w → RdP w A L) (hw : Wd w0 (kno Φ :: H) w) :
    Ret Tryz.prog 72 [hv36 t la A L c, .int .i64 by', .int .i64 who].toArray w (RP w0 (RefC Φ H (kickM ⟨t, la, ptys L⟩ by' who))) := by
  have hQ := fun w' h => refLead_spec t la A L c by' w' hz h
  have hF := fun w' h => refFind_spec t la A L c who w' hz h
  have hok := @leadQ_ok ⟨t, la, ptys L⟩ by'
  unfold kickM
  rw [leadM_q]
  generalize leadQ ⟨t, la, ptys L⟩ by' = q at hQ hok ⊢
  obtain ⟨k, e⟩ := q
  simp only at hQ hok ⊢
  by_cases he : e = 0
  · subst he
    obtain ⟨-, -, hk⟩ := hok rfl
    rw [if_pos rfl]
    clear hok
    rw [ptys_len] at hk
    by_cases hf : findM who (ptys L) = some k
    · rw [if_pos hf]
      rw [find_is hf] at hF
      by_cases hwb : who = by'
      · rw [if_pos hwb]
        refine enterH Tryz.func72 rfl rfl Tryz.ntmps72 rfl (by assumption) ?_
        (repeat' (first | (show VH _ _ _ _ _ _ _; first | refine v_seq ?_ | refine r_seq ?_ | refine v_ret ?_ | refine v_skip ?_ | refine v_cond_t rfl tbL ?_ | refine v_cond_f rfl tbL ?_) | (show SH _ _ _ _ _ (_ :: _) _ _ _; first | (show SH _ _ _ _ _ (⟨_, .move _, _, _, _, _⟩ :: _) _ _ _; refine mov evL ?_) | (show SH _ _ _ _ _ (⟨_, .assign _, _, _, _, _⟩ :: _) _ _ _; refine asg evL ?_) | (show SH _ _ _ _ _ (⟨_, .binOp .eql _ _ _ _, _, _, _, _⟩ :: _) _ _ _; refine eqlT rfl rfl omD ?_) | (show SH _ _ _ _ _ (⟨_, .binOp .neq _ _ _ _, _, _, _, _⟩ :: _) _ _ _; refine neqF rfl rfl omD ?_) | (show SH _ _ _ _ _ (⟨_, .load _ _, _, _, _, _⟩ :: _) _ _ _; refine lba rfl spL (by rfl) ?_) | (show SH _ _ _ _ _ (⟨_, .call ⟨.value (.func 100), _, _⟩, _, _, _, _⟩ :: _) _ _ _; refine cl (callee := .func 100) rfl (fun w hw => hQ w (hΦ _ (hw.kn spL))) rfl rfl ?_) | (show SH _ _ _ _ _ (⟨_, .call ⟨.value (.func 75), _, _⟩, _, _, _, _⟩ :: _) _ _ _; refine cl (callee := .func 75) rfl (fun w hw => hF w (hΦ _ (hw.kn spL))) rfl rfl ?_) | refine extr rfl rfl ?_ | refine bld rfl rfl ?_ | refine ala rfl (fun b => ?_) | (show SH _ _ _ _ _ (⟨_, .box _ _, _, _, _, _⟩ :: _) _ _ _; refine bxx rfl evL rfl (fun b => ?_)) | (show SH _ _ _ _ _ (⟨_, .store _ _ _, _, _, _, _⟩ :: _) _ _ _; refine sta rfl rfl rfl spL (by rfl) (by rfl) (by rfl) kpL ?_)) | refine s_nil ?_ | refine kh_normal ?_ | refine kh_ret ?_))
        exact rhC2 rfl rfl rfl rfl (fun w hw => loadVar_bx hw spL (by rfl)) refC0 (Ent.trans (B := kno Φ :: H) enL ent_ref0)
      · rw [if_neg hwb, leaveAt_p]
        refine enterH Tryz.func72 rfl rfl Tryz.ntmps72 rfl (by assumption) ?_
        (repeat' (first | (show VH _ _ _ _ _ _ _; first | refine v_seq ?_ | refine r_seq ?_ | refine v_skip ?_ | refine v_cond_f rfl tbL ?_) | (show SH _ _ _ _ _ (_ :: _) _ _ _; first | (show SH _ _ _ _ _ (⟨_, .move _, _, _, _, _⟩ :: _) _ _ _; refine mov evL ?_) | (show SH _ _ _ _ _ (⟨_, .assign _, _, _, _, _⟩ :: _) _ _ _; refine asg evL ?_) | (show SH _ _ _ _ _ (⟨_, .binOp .eql _ _ _ _, _, _, _, _⟩ :: _) _ _ _; refine eqlF rfl rfl omD ?_) | (show SH _ _ _ _ _ (⟨_, .binOp .neq _ _ _ _, _, _, _, _⟩ :: _) _ _ _; refine neqF rfl rfl omD ?_) | (show SH _ _ _ _ _ (⟨_, .load _ _, _, _, _, _⟩ :: _) _ _ _; refine lba rfl spL (by rfl) ?_) | (show SH _ _ _ _ _ (⟨_, .call ⟨.value (.func 100), _, _⟩, _, _, _, _⟩ :: _) _ _ _; refine cl (callee := .func 100) rfl (fun w hw => hQ w (hΦ _ (hw.kn spL))) rfl rfl ?_) | (show SH _ _ _ _ _ (⟨_, .call ⟨.value (.func 75), _, _⟩, _, _, _, _⟩ :: _) _ _ _; refine cl (callee := .func 75) rfl (fun w hw => hF w (hΦ _ (hw.kn spL))) rfl rfl ?_) | refine extr rfl rfl ?_ | refine ala rfl (fun b => ?_) | (show SH _ _ _ _ _ (⟨_, .box _ _, _, _, _, _⟩ :: _) _ _ _; refine bxx rfl evL rfl (fun b => ?_))) | refine s_nil ?_ | refine kh_normal ?_))
        rename_i b2
        refine cm rfl (fun w3 hw3 => refLeft_spec t la A L c k who Φ w0 (bx b2 30 [.int .i64 t, .int .i64 la, .slice A L.length c] :: bx b 30 [.int .i64 0, .int .i64 0, .slice none 0 0] :: H) w3 hk hz hc hΦ (Ent.wd enL hw3)) rfl rfl ?_
        rintro _ _ ⟨A1, c1, M, hM, hcM, rfl, rfl⟩
        refine ⟨enL, ?_⟩
        (repeat' (first | refine v_ret ?_ | (show SH _ _ _ _ _ (_ :: _) _ _ _; first | (show SH _ _ _ _ _ (⟨_, .assign _, _, _, _, _⟩ :: _) _ _ _; refine asg evL ?_) | (show SH _ _ _ _ _ (⟨_, .store _ _ _, _, _, _, _⟩ :: _) _ _ _; refine sta rfl rfl rfl spL (by rfl) (by rfl) (by rfl) kpL ?_)) | refine s_nil ?_ | refine kh_normal ?_))
        exact rhC2 rfl rfl rfl rfl (fun w hw => loadVar_bx hw spL (by rfl)) ⟨A1, c1, M, hM, hcM, rfl, rfl⟩ enL
    · rw [if_neg hf]
      have hfn := find_isnt hf
      generalize findI36 who (ptys L) = f at hF hfn
      refine enterH Tryz.func72 rfl rfl Tryz.ntmps72 rfl (by assumption) ?_
      (repeat' (first | (show VH _ _ _ _ _ _ _; first | refine v_seq ?_ | refine r_seq ?_ | refine v_ret ?_ | refine v_skip ?_ | refine v_cond_t rfl tbL ?_ | refine v_cond_f rfl tbL ?_) | (show SH _ _ _ _ _ (_ :: _) _ _ _; first | (show SH _ _ _ _ _ (⟨_, .move _, _, _, _, _⟩ :: _) _ _ _; refine mov evL ?_) | (show SH _ _ _ _ _ (⟨_, .assign _, _, _, _, _⟩ :: _) _ _ _; refine asg evL ?_) | (show SH _ _ _ _ _ (⟨_, .binOp .neq _ _ _ _, _, _, _, _⟩ :: _) _ _ _; first | refine neqT rfl rfl omD ?_ | refine neqF rfl rfl omD ?_) | (show SH _ _ _ _ _ (⟨_, .load _ _, _, _, _, _⟩ :: _) _ _ _; refine lba rfl spL (by rfl) ?_) | (show SH _ _ _ _ _ (⟨_, .call ⟨.value (.func 100), _, _⟩, _, _, _, _⟩ :: _) _ _ _; refine cl (callee := .func 100) rfl (fun w hw => hQ w (hΦ _ (hw.kn spL))) rfl rfl ?_) | (show SH _ _ _ _ _ (⟨_, .call ⟨.value (.func 75), _, _⟩, _, _, _, _⟩ :: _) _ _ _; refine cl (callee := .func 75) rfl (fun w hw => hF w (hΦ _ (hw.kn spL))) rfl rfl ?_) | refine extr rfl rfl ?_ | refine bld rfl rfl ?_ | refine ala rfl (fun b => ?_) | (show SH _ _ _ _ _ (⟨_, .box _ _, _, _, _, _⟩ :: _) _ _ _; refine bxx rfl evL rfl (fun b => ?_)) | (show SH _ _ _ _ _ (⟨_, .store _ _ _, _, _, _, _⟩ :: _) _ _ _; refine sta rfl rfl rfl spL (by rfl) (by rfl) (by rfl) kpL ?_)) | refine s_nil ?_ | refine kh_normal ?_ | refine kh_ret ?_))
      exact rhC2 rfl rfl rfl rfl (fun w hw => loadVar_bx hw spL (by rfl)) refC0 (Ent.trans (B := kno Φ :: H) enL ent_ref0)
  · rw [if_neg he]
    clear hok
    refine enterH Tryz.func72 rfl rfl Tryz.ntmps72 rfl (by assumption) ?_
    (repeat' (first | (show VH _ _ _ _ _ _ _; first | refine v_seq ?_ | refine r_seq ?_ | refine v_ret ?_ | refine v_cond_t rfl tbL ?_) | (show SH _ _ _ _ _ (_ :: _) _ _ _; first | (show SH _ _ _ _ _ (⟨_, .move _, _, _, _, _⟩ :: _) _ _ _; refine mov evL ?_) | (show SH _ _ _ _ _ (⟨_, .assign _, _, _, _, _⟩ :: _) _ _ _; refine asg evL ?_) | (show SH _ _ _ _ _ (⟨_, .binOp .neq _ _ _ _, _, _, _, _⟩ :: _) _ _ _; refine neqT rfl rfl omD ?_) | (show SH _ _ _ _ _ (⟨_, .load _ _, _, _, _, _⟩ :: _) _ _ _; refine lba rfl spL (by rfl) ?_) | (show SH _ _ _ _ _ (⟨_, .call ⟨.value (.func 100), _, _⟩, _, _, _, _⟩ :: _) _ _ _; refine cl (callee := .func 100) rfl (fun w hw => hQ w (hΦ _ (hw.kn spL))) rfl rfl ?_) | refine extr rfl rfl ?_ | refine bld rfl rfl ?_ | refine ala rfl (fun b => ?_) | (show SH _ _ _ _ _ (⟨_, .box _ _, _, _, _, _⟩ :: _) _ _ _; refine bxx rfl evL rfl (fun b => ?_)) | (show SH _ _ _ _ _ (⟨_, .store _ _ _, _, _, _, _⟩ :: _) _ _ _; refine sta rfl rfl rfl spL (by rfl) (by rfl) (by rfl) kpL ?_)) | refine s_nil ?_ | refine kh_normal ?_ | refine kh_ret ?_))
    exact rhC2 rfl rfl rfl rfl (fun w hw => loadVar_bx hw spL (by rfl)) refC0 (Ent.trans (B := kno Φ :: H) enL ent_ref0)
end Go.Proofs.YtlfbcoohfnoacaaGreat

/- The reference of layer 36: Promote, Disband, Share. -/
namespace Go.Proofs.YtlfbcoohfnoacaaGreat
open Go.Fw Go.RowKit
set_option maxHeartbeats 4000000 in
set_option maxRecDepth 100000 in
theorem refPromote_spec (t la : Int) (A : Option Addr) (L : List PtyP) (c : Nat) (by' who : Int) (Φ : World → Prop) (w0 : World) (H : List HP) (w : World) (hz : SzP L) (hc : L.length ≤ c) (hΦ : ∀ w, Φ w → RdP w A L) (hw : Wd w0 (kno Φ :: H) w) :
    Ret Tryz.prog 73 [hv36 t la A L c, .int .i64 by', .int .i64 who].toArray w (RP w0 (RefC Φ H (promoteM ⟨t, la, ptys L⟩ by' who))) := by
  have hQ := fun w' h => refLead_spec t la A L c by' w' hz h
  have hF := fun w' h => refFind_spec t la A L c who w' hz h
  have hok := @leadQ_ok ⟨t, la, ptys L⟩ by'
  unfold promoteM
  rw [leadM_q]
  generalize leadQ ⟨t, la, ptys L⟩ by' = q at hQ hok ⊢
  obtain ⟨k, e⟩ := q
  simp only at hQ hok ⊢
  by_cases he : e = 0
  · subst he
    obtain ⟨-, -, hk⟩ := hok rfl
    rw [if_pos rfl]
    clear hok
    rw [ptys_len] at hk
    by_cases hf : findM who (ptys L) = some k
    · rw [if_pos hf]
      rw [find_is hf] at hF
      have hll := hz.len
      have hA : ∀ w, Φ w → Rd w A L := fun w h => (hΦ w h).1
      have hin : ∀ y : PtyP, y.p.mem = (L.getD k Flat.dflt).p.mem → y.A = (L.getD k Flat.dflt).A → y.p.inv = (L.getD k Flat.dflt).p.inv → y.B = (L.getD k Flat.dflt).B → ∀ w, Φ w → ∀ z ∈ L.set k y, Rd w z.A z.p.mem ∧ Rd w z.B z.p.inv := fun y h1 h2 h3 h4 w hw z hz => by
        rcases List.mem_or_eq_of_mem_set hz with h | h
        · exact (hΦ w hw).2 z h
        · rw [h, h1, h2, h3, h4]
          exact ⟨(hΦ w hw).mem hk, (hΦ w hw).inv hk⟩
      have hnx : ∀ y : PtyP, ptys (L.set k y) = (ptys L).set k y.p := fun y => ptys_set ..
      rw [ptys_at hk]
      have hW := fun y w h => ret_cap (refWith_spec t la A L c k y w hk hll h)
      unfold hv36 at hW
      obtain ⟨x, hx⟩ : ∃ x, L.getD k Flat.dflt = x := ⟨_, rfl⟩
      have hxE := pty_enc hx
      rw [hx] at hin ⊢
      clear hx hf
      obtain ⟨⟨xi, xl, xm, xv⟩, xA, xca, xB, xcb⟩ := x
      simp only at hin hxE ⊢
      refine enterH Tryz.func73 rfl rfl Tryz.ntmps73 rfl (by assumption) ?_
      (repeat' (first | (show VH _ _ _ _ _ _ _; first | refine v_seq ?_ | refine r_seq ?_ | refine v_skip ?_ | refine v_cond_f rfl tbL ?_) | (show SH _ _ _ _ _ (_ :: _) _ _ _; first | (show SH _ _ _ _ _ (⟨_, .move _, _, _, _, _⟩ :: _) _ _ _; refine mov evL ?_) | (show SH _ _ _ _ _ (⟨_, .assign _, _, _, _, _⟩ :: _) _ _ _; refine asg evL ?_) | (show SH _ _ _ _ _ (⟨_, .binOp .neq _ _ _ _, _, _, _, _⟩ :: _) _ _ _; refine neqF rfl rfl omD ?_) | (show SH _ _ _ _ _ (⟨_, .load _ _, _, _, _, _⟩ :: _) _ _ _; first | refine lbx rfl spL (by rfl) ?_ | refine lba rfl spL (by rfl) ?_ | refine lag rfl (fun _ _ => rdK) (by rfl) omL (by assumption) ?_) | (show SH _ _ _ _ _ (⟨_, .indexAddr _ _ _, _, _, _, _⟩ :: _) _ _ _; refine ix rfl rfl (by with_reducible rfl) (fun _ _ => rdK) (by rfl) omL omL ?_) | (show SH _ _ _ _ _ (⟨_, .call ⟨.value (.func 100), _, _⟩, _, _, _, _⟩ :: _) _ _ _; refine cl (callee := .func 100) rfl (fun w hw => hQ w (hΦ _ (hw.kn spL))) rfl rfl ?_) | (show SH _ _ _ _ _ (⟨_, .call ⟨.value (.func 75), _, _⟩, _, _, _, _⟩ :: _) _ _ _; refine cl (callee := .func 75) rfl (fun w hw => hF w (hΦ _ (hw.kn spL))) rfl rfl ?_) | (show SH _ _ _ _ _ (⟨_, .call ⟨.value (.func 101), _, _⟩, _, _, _, _⟩ :: _) _ _ _; refine cp (callee := .func 101) rfl (fun w hw => hW ⟨⟨xi, who, xm, xv⟩, xA, xca, xB, xcb⟩ w (rd_thk hA hw spL)) rfl rfl ?_) | refine extr rfl rfl ?_ | refine fad rfl ?_ | refine ala rfl (fun b => ?_) | (show SH _ _ _ _ _ (⟨_, .box _ _, _, _, _, _⟩ :: _) _ _ _; refine bxx rfl evL rfl (fun b => ?_)) | (show SH _ _ _ _ _ (⟨_, .store _ _ _, _, _, _, _⟩ :: _) _ _ _; first | refine stb rfl rfl evL spL rfl rfl (by first | decide | exact Nat.zero_lt_succ _ | exact of_decide_eq_true rfl) kpL ?_ | refine sta rfl rfl rfl spL (by rfl) (by rfl) (by rfl) kpL ?_)) | refine s_nil ?_ | refine kh_normal ?_))
      rintro _ _ ⟨A2, c2, hcap, rfl, rfl⟩
      (repeat' (first | refine v_ret ?_ | (show SH _ _ _ _ _ (_ :: _) _ _ _; first | (show SH _ _ _ _ _ (⟨_, .assign _, _, _, _, _⟩ :: _) _ _ _; refine asg evL ?_) | (show SH _ _ _ _ _ (⟨_, .store _ _ _, _, _, _, _⟩ :: _) _ _ _; refine sta rfl rfl rfl spL (by rfl) (by rfl) (by rfl) kpL ?_)) | refine s_nil ?_ | refine kh_normal ?_))
      exact rhC2 rfl rfl rfl rfl (fun w hw => loadVar_bx hw spL (by rfl)) ⟨A2, c2, L.set k ⟨⟨xi, who, xm, xv⟩, xA, xca, xB, xcb⟩, hnx _, hcap, rfl, rfl⟩ (Ent.trans (B := orow 43 A2 c2 (L.set k ⟨⟨xi, who, xm, xv⟩, xA, xca, xB, xcb⟩) :: kno Φ :: H) enL (ent_ref_row fun w h => hin ⟨⟨xi, who, xm, xv⟩, xA, xca, xB, xcb⟩ rfl rfl rfl rfl w h))
    · rw [if_neg hf]
      have hfn := find_isnt hf
      generalize findI36 who (ptys L) = f at hF hfn
      refine enterH Tryz.func73 rfl rfl Tryz.ntmps73 rfl (by assumption) ?_
      (repeat' (first | (show VH _ _ _ _ _ _ _; first | refine v_seq ?_ | refine r_seq ?_ | refine v_ret ?_ | refine v_skip ?_ | refine v_cond_t rfl tbL ?_ | refine v_cond_f rfl tbL ?_) | (show SH _ _ _ _ _ (_ :: _) _ _ _; first | (show SH _ _ _ _ _ (⟨_, .move _, _, _, _, _⟩ :: _) _ _ _; refine mov evL ?_) | (show SH _ _ _ _ _ (⟨_, .assign _, _, _, _, _⟩ :: _) _ _ _; refine asg evL ?_) | (show SH _ _ _ _ _ (⟨_, .binOp .neq _ _ _ _, _, _, _, _⟩ :: _) _ _ _; first | refine neqT rfl rfl omD ?_ | refine neqF rfl rfl omD ?_) | (show SH _ _ _ _ _ (⟨_, .load _ _, _, _, _, _⟩ :: _) _ _ _; refine lba rfl spL (by rfl) ?_) | (show SH _ _ _ _ _ (⟨_, .call ⟨.value (.func 100), _, _⟩, _, _, _, _⟩ :: _) _ _ _; refine cl (callee := .func 100) rfl (fun w hw => hQ w (hΦ _ (hw.kn spL))) rfl rfl ?_) | (show SH _ _ _ _ _ (⟨_, .call ⟨.value (.func 75), _, _⟩, _, _, _, _⟩ :: _) _ _ _; refine cl (callee := .func 75) rfl (fun w hw => hF w (hΦ _ (hw.kn spL))) rfl rfl ?_) | refine extr rfl rfl ?_ | refine bld rfl rfl ?_ | refine ala rfl (fun b => ?_) | (show SH _ _ _ _ _ (⟨_, .box _ _, _, _, _, _⟩ :: _) _ _ _; refine bxx rfl evL rfl (fun b => ?_)) | (show SH _ _ _ _ _ (⟨_, .store _ _ _, _, _, _, _⟩ :: _) _ _ _; refine sta rfl rfl rfl spL (by rfl) (by rfl) (by rfl) kpL ?_)) | refine s_nil ?_ | refine kh_normal ?_ | refine kh_ret ?_))
      exact rhC2 rfl rfl rfl rfl (fun w hw => loadVar_bx hw spL (by rfl)) refC0 (Ent.trans (B := kno Φ :: H) enL ent_ref0)
  · rw [if_neg he]
    clear hok
    refine enterH Tryz.func73 rfl rfl Tryz.ntmps73 rfl (by assumption) ?_
    (repeat' (first | (show VH _ _ _ _ _ _ _; first | refine v_seq ?_ | refine r_seq ?_ | refine v_ret ?_ | refine v_cond_t rfl tbL ?_) | (show SH _ _ _ _ _ (_ :: _) _ _ _; first | (show SH _ _ _ _ _ (⟨_, .move _, _, _, _, _⟩ :: _) _ _ _; refine mov evL ?_) | (show SH _ _ _ _ _ (⟨_, .assign _, _, _, _, _⟩ :: _) _ _ _; refine asg evL ?_) | (show SH _ _ _ _ _ (⟨_, .binOp .neq _ _ _ _, _, _, _, _⟩ :: _) _ _ _; refine neqT rfl rfl omD ?_) | (show SH _ _ _ _ _ (⟨_, .load _ _, _, _, _, _⟩ :: _) _ _ _; refine lba rfl spL (by rfl) ?_) | (show SH _ _ _ _ _ (⟨_, .call ⟨.value (.func 100), _, _⟩, _, _, _, _⟩ :: _) _ _ _; refine cl (callee := .func 100) rfl (fun w hw => hQ w (hΦ _ (hw.kn spL))) rfl rfl ?_) | refine extr rfl rfl ?_ | refine bld rfl rfl ?_ | refine ala rfl (fun b => ?_) | (show SH _ _ _ _ _ (⟨_, .box _ _, _, _, _, _⟩ :: _) _ _ _; refine bxx rfl evL rfl (fun b => ?_)) | (show SH _ _ _ _ _ (⟨_, .store _ _ _, _, _, _, _⟩ :: _) _ _ _; refine sta rfl rfl rfl spL (by rfl) (by rfl) (by rfl) kpL ?_)) | refine s_nil ?_ | refine kh_normal ?_ | refine kh_ret ?_))
    exact rhC2 rfl rfl rfl rfl (fun w hw => loadVar_bx hw spL (by rfl)) refC0 (Ent.trans (B := kno Φ :: H) enL ent_ref0)
set_option maxHeartbeats 4000000 in
set_option maxRecDepth 100000 in
theorem refDisband_spec (t la : Int) (A : Option Addr) (L : List PtyP) (c : Nat) (by' : Int) (Φ : World → Prop) (w0 : World) (H : List HP) (w : World) (hz : SzP L) (hc : L.length ≤ c) (hΦ : ∀ w, Φ w → RdP w A L) (hw : Wd w0 (kno Φ :: H) w) :
    Ret Tryz.prog 74 [hv36 t la A L c, .int .i64 by'].toArray w (RP w0 (RefC Φ H (disbandM ⟨t, la, ptys L⟩ by'))) := by
  have hQ := fun w' h => refLead_spec t la A L c by' w' hz h
  have hok := @leadQ_ok ⟨t, la, ptys L⟩ by'
  unfold disbandM
  rw [leadM_q]
  generalize leadQ ⟨t, la, ptys L⟩ by' = q at hQ hok ⊢
  obtain ⟨k, e⟩ := q
  simp only at hQ hok ⊢
  by_cases he : e = 0
  · subst he
    obtain ⟨-, -, hk⟩ := hok rfl
    rw [if_pos rfl]
    clear hok
    rw [ptys_len] at hk
    have hll := hz.len
    have hA : ∀ w, Φ w → Rd w A L := fun w h => (hΦ w h).1
    have hie : ∀ w, Φ w → ∀ z ∈ L.eraseIdx k, Rd w z.A z.p.mem ∧ Rd w z.B z.p.inv := fun w hw z hz => (hΦ w hw).2 z (List.mem_of_mem_eraseIdx hz)
    have hne := ptys_erR L k
    have hD := fun w h => ret_cap (refDrop_spec t la A L c k w hk hll hc h)
    unfold hv36 at hD
    refine enterH Tryz.func74 rfl rfl Tryz.ntmps74 rfl (by assumption) ?_
    (repeat' (first | (show VH _ _ _ _ _ _ _; first | refine v_seq ?_ | refine r_seq ?_ | refine v_skip ?_ | refine v_cond_f rfl tbL ?_) | (show SH _ _ _ _ _ (_ :: _) _ _ _; first | (show SH _ _ _ _ _ (⟨_, .move _, _, _, _, _⟩ :: _) _ _ _; refine mov evL ?_) | (show SH _ _ _ _ _ (⟨_, .assign _, _, _, _, _⟩ :: _) _ _ _; refine asg evL ?_) | (show SH _ _ _ _ _ (⟨_, .binOp .neq _ _ _ _, _, _, _, _⟩ :: _) _ _ _; refine neqF rfl rfl omD ?_) | (show SH _ _ _ _ _ (⟨_, .load _ _, _, _, _, _⟩ :: _) _ _ _; refine lba rfl spL (by rfl) ?_) | (show SH _ _ _ _ _ (⟨_, .call ⟨.value (.func 100), _, _⟩, _, _, _, _⟩ :: _) _ _ _; refine cl (callee := .func 100) rfl (fun w hw => hQ w (hΦ _ (hw.kn spL))) rfl rfl ?_) | (show SH _ _ _ _ _ (⟨_, .call ⟨.value (.func 104), _, _⟩, _, _, _, _⟩ :: _) _ _ _; refine cp (callee := .func 104) rfl (fun w hw => hD w (rd_thk hA hw spL)) rfl rfl ?_) | refine extr rfl rfl ?_ | refine ala rfl (fun b => ?_) | (show SH _ _ _ _ _ (⟨_, .box _ _, _, _, _, _⟩ :: _) _ _ _; refine bxx rfl evL rfl (fun b => ?_))) | refine s_nil ?_ | refine kh_normal ?_))
    rintro _ _ ⟨A2, c2, hcap, rfl, rfl⟩
    (repeat' (first | refine v_ret ?_ | (show SH _ _ _ _ _ (_ :: _) _ _ _; first | (show SH _ _ _ _ _ (⟨_, .assign _, _, _, _, _⟩ :: _) _ _ _; refine asg evL ?_) | (show SH _ _ _ _ _ (⟨_, .store _ _ _, _, _, _, _⟩ :: _) _ _ _; refine sta rfl rfl rfl spL (by rfl) (by rfl) (by rfl) kpL ?_)) | refine s_nil ?_ | refine kh_normal ?_))
    exact rhC2 rfl rfl rfl rfl (fun w hw => loadVar_bx hw spL (by rfl)) ⟨A2, c2, L.eraseIdx k, hne, hcap, rfl, rfl⟩ (Ent.trans (B := orow 43 A2 c2 (L.eraseIdx k) :: kno Φ :: H) enL (ent_ref_row hie))
  · rw [if_neg he]
    clear hok
    refine enterH Tryz.func74 rfl rfl Tryz.ntmps74 rfl (by assumption) ?_
    (repeat' (first | (show VH _ _ _ _ _ _ _; first | refine v_seq ?_ | refine r_seq ?_ | refine v_ret ?_ | refine v_cond_t rfl tbL ?_) | (show SH _ _ _ _ _ (_ :: _) _ _ _; first | (show SH _ _ _ _ _ (⟨_, .move _, _, _, _, _⟩ :: _) _ _ _; refine mov evL ?_) | (show SH _ _ _ _ _ (⟨_, .assign _, _, _, _, _⟩ :: _) _ _ _; refine asg evL ?_) | (show SH _ _ _ _ _ (⟨_, .binOp .neq _ _ _ _, _, _, _, _⟩ :: _) _ _ _; refine neqT rfl rfl omD ?_) | (show SH _ _ _ _ _ (⟨_, .load _ _, _, _, _, _⟩ :: _) _ _ _; refine lba rfl spL (by rfl) ?_) | (show SH _ _ _ _ _ (⟨_, .call ⟨.value (.func 100), _, _⟩, _, _, _, _⟩ :: _) _ _ _; refine cl (callee := .func 100) rfl (fun w hw => hQ w (hΦ _ (hw.kn spL))) rfl rfl ?_) | refine extr rfl rfl ?_ | refine bld rfl rfl ?_ | refine ala rfl (fun b => ?_) | (show SH _ _ _ _ _ (⟨_, .box _ _, _, _, _, _⟩ :: _) _ _ _; refine bxx rfl evL rfl (fun b => ?_)) | (show SH _ _ _ _ _ (⟨_, .store _ _ _, _, _, _, _⟩ :: _) _ _ _; refine sta rfl rfl rfl spL (by rfl) (by rfl) (by rfl) kpL ?_)) | refine s_nil ?_ | refine kh_normal ?_ | refine kh_ret ?_))
    exact rhC2 rfl rfl rfl rfl (fun w hw => loadVar_bx hw spL (by rfl)) refC0 (Ent.trans (B := kno Φ :: H) enL ent_ref0)
/-! Share -/
theorem idxP_first {id : Int} : ∀ {ps : List Pty} {k : Nat}, k < ps.length → (∀ j, j < k → (ps.getD j pty0).id ≠ id) → (ps.getD k pty0).id = id → idxP id ps = some k
  | p :: ps, 0, _, _, h => by rw [idxP, if_pos (show p.id = id from h)]
  | p :: ps, k + 1, h, hn, he => by
    rw [idxP, if_neg (show ¬ p.id = id from hn 0 (by omega)), idxP_first (ps := ps) (k := k) (by simpa using h) (fun j hj => by simpa using hn (j + 1) (by omega)) (by simpa using he)]
    rfl
theorem idxP_no {id : Int} : ∀ {ps : List Pty}, (∀ j, j < ps.length → (ps.getD j pty0).id ≠ id) → idxP id ps = none
  | [], _ => rfl
  | p :: ps, hn => by
    rw [idxP, if_neg (show ¬ p.id = id from hn 0 (by simp)), idxP_no (ps := ps) (fun j hj => by simpa using hn (j + 1) (by simpa using hj))]
    rfl
/-- What is left of an amount behind j shares of n. -/
def leftS (amount : Int) (n j : Nat) : Int := amount / (n : Int) * ((n : Int) - j) + max 0 (amount % (n : Int) - j)
theorem leftS_zero {amount : Int} {n : Nat} (hn : 0 < n) : leftS amount n 0 = amount := by
  unfold leftS
  have h1 := Int.emod_nonneg amount (show (n : Int) ≠ 0 by omega)
  have h2 := Int.mul_ediv_add_emod amount (n : Int)
  rw [Int.mul_comm] at h2
  simp only [Int.natCast_zero, Int.sub_zero]
  omega
theorem shares_at' (amount : Int) {n j : Nat} (hj : j < n) : (sharesM amount n).take (j + 1) = (sharesM amount n).take j ++ [amount / (n : Int) + (if (j : Int) < amount % (n : Int) then 1 else 0)] := by
  have hl : (sharesM amount n).length = n := by unfold sharesM; rw [List.length_map, List.length_range]
  rw [take_snoc (d := (0 : Int)) (by omega), List.getD_eq_getElem?_getD, List.getElem?_eq_getElem (by omega)]
  unfold sharesM
  simp
theorem leftS_step {amount : Int} {n j : Nat} (h0 : 0 ≤ amount) (hj : j < n) : (leftS amount n j + ((n : Int) - j) - 1) / ((n : Int) - j) = amount / (n : Int) + (if (j : Int) < amount % (n : Int) then 1 else 0) ∧ leftS amount n j - (amount / (n : Int) + (if (j : Int) < amount % (n : Int) then 1 else 0)) = leftS amount n (j + 1) := by
  have hr := Int.emod_lt_of_pos amount (show 0 < (n : Int) by omega)
  unfold leftS
  generalize amount / (n : Int) = q
  generalize amount % (n : Int) = r at hr
  have e1 : q * ((n : Int) - ((j + 1 : Nat) : Int)) = q * ((n : Int) - j) - q := by
    rw [show (n : Int) - ((j + 1 : Nat) : Int) = (n : Int) - j - 1 by omega, Int.mul_sub, Int.mul_one]
  rw [e1]
  by_cases hjr : (j : Int) < r
  · rw [if_pos hjr]
    refine ⟨?_, by omega⟩
    rw [show q * ((n : Int) - j) + max 0 (r - (j : Int)) + ((n : Int) - j) - 1 = (r - (j : Int) - 1) + (q + 1) * ((n : Int) - j) by rw [Int.add_mul, Int.one_mul]; omega, Int.add_mul_ediv_right _ _ (by omega), Int.ediv_eq_zero_of_lt (by omega) (by omega)]
    omega
  · rw [if_neg hjr]
    refine ⟨?_, by omega⟩
    rw [show q * ((n : Int) - j) + max 0 (r - (j : Int)) + ((n : Int) - j) - 1 = ((n : Int) - j - 1) + q * ((n : Int) - j) by omega, Int.add_mul_ediv_right _ _ (by omega), Int.ediv_eq_zero_of_lt (by omega) (by omega)]
    omega
theorem leftS_in {amount : Int} {n j : Nat} (h0 : 0 ≤ amount) (hn : 0 < n) (hj : j ≤ n) : 0 ≤ leftS amount n j ∧ leftS amount n j ≤ amount := by
  have h1 := Int.emod_nonneg amount (show (n : Int) ≠ 0 by omega)
  have h2 := Int.mul_ediv_add_emod amount (n : Int)
  have h3 := Int.ediv_nonneg h0 (show (0 : Int) ≤ n by omega)
  rw [Int.mul_comm] at h2
  unfold leftS
  generalize amount / (n : Int) = q at h2 h3
  have e1 : q * ((n : Int) - j) = q * n - q * j := Int.mul_sub ..
  have e2 : 0 ≤ q * (j : Int) := Int.mul_nonneg h3 (by omega)
  have e3 : 0 ≤ q * ((n : Int) - j) := Int.mul_nonneg h3 (by omega)
  omega
set_option maxHeartbeats 1000000 in
set_option maxRecDepth 100000 in
theorem refShare_spec (t la : Int) (A : Option Addr) (L : List PtyP) (c : Nat) (id amount : Int) (w : World) (hz : SzP L) (hr : RdP w A L) :
    Ret Tryz.prog 33 [hv36 t la A L c, .int .i64 id, .int .i64 amount].toArray w (RP w (FreshE 3 (shareM ⟨t, la, ptys L⟩ id amount).1 (shareM ⟨t, la, ptys L⟩ id amount).2)) := by
  have hV := fun w' h => refValid_spec t la A L c w' hz h
  have hll := hz.len
  have hrA := hr.1
  unfold shareM
  cases hv : validHal ⟨t, la, ptys L⟩ with
  | false =>
    rw [hv] at hV
    refine enterH Tryz.func33 rfl rfl Tryz.ntmps33 rfl (Wd.refl _) ?_
    (repeat' (first | (show VH _ _ _ _ _ _ _; first | refine v_seq ?_ | refine r_seq ?_ | refine v_ret ?_ | refine v_cond_t rfl tbL ?_) | (show SH _ _ _ _ _ (_ :: _) _ _ _; first | (show SH _ _ _ _ _ (⟨_, .assign _, _, _, _, _⟩ :: _) _ _ _; refine asg evL ?_) | (show SH _ _ _ _ _ (⟨_, .load _ _, _, _, _, _⟩ :: _) _ _ _; refine lba rfl spL (by rfl) ?_) | (show SH _ _ _ _ _ (⟨_, .call ⟨.value (.func 9), _, _⟩, _, _, _, _⟩ :: _) _ _ _; refine cl (callee := .func 9) rfl (fun w hw => hV w (hr.ext hw.ext)) rfl rfl ?_) | refine bnoF rfl ?_ | (show SH _ _ _ _ _ (⟨_, .box _ _, _, _, _, _⟩ :: _) _ _ _; refine bxx rfl evL rfl (fun b => ?_))) | refine s_nil ?_ | refine kh_normal ?_ | refine kh_ret ?_))
    exact rh2 rfl rfl rfl ⟨none, 0, rfl, rfl⟩ (ent_nilrow (ent_nil _))
  | true =>
    rw [hv] at hV
    rw [if_pos rfl]
    have hpos := fun (k : Nat) (hk : k < L.length) => ((valid_iff.1 hv).ok ((ptys L).getD k pty0) (by rw [List.getD_eq_getElem?_getD, List.getElem?_eq_getElem (by rw [ptys_len]; exact hk)]; exact List.getElem_mem _)).2.1
    refine enterH Tryz.func33 rfl rfl Tryz.ntmps33 rfl (Wd.refl _) ?_
    (repeat' (first | (show VH _ _ _ _ _ _ _; first | refine v_seq ?_ | refine r_seq ?_ | refine v_block ?_ | refine v_skip ?_ | refine v_cond_f rfl tbL ?_) | (show SH _ _ _ _ _ (_ :: _) _ _ _; first | (show SH _ _ _ _ _ (⟨_, .assign _, _, _, _, _⟩ :: _) _ _ _; refine asg evL ?_) | (show SH _ _ _ _ _ (⟨_, .load _ _, _, _, _, _⟩ :: _) _ _ _; refine lba rfl spL (by rfl) ?_) | (show SH _ _ _ _ _ (⟨_, .call ⟨.value (.func 9), _, _⟩, _, _, _, _⟩ :: _) _ _ _; refine cl (callee := .func 9) rfl (fun w hw => hV w (hr.ext hw.ext)) rfl rfl ?_) | refine bnoT rfl ?_ | (show SH _ _ _ _ _ (⟨_, .box _ _, _, _, _, _⟩ :: _) _ _ _; refine bxx rfl evL rfl (fun b => ?_))) | refine s_nil ?_ | refine kh_normal ?_))
    refine v_norm [(1,_),(2,_),(3,_),(8,_)] heL (fun g => ?_)
    refine v_loop [(6,12),(16,62)] (fun i : Nat => [(8, .int .i64 i)]) (fun _ => [bx b 30 [.int .i64 t, .int .i64 la, .slice A L.length c]]) (fun i => i ≤ L.length ∧ ∀ j, j < i → ((ptys L).getD j pty0).id ≠ id) (fun i => L.length - i) 0 hsL enL ⟨Nat.zero_le _, fun j h => absurd h (by omega)⟩ ?_
    rintro i g ⟨hi, hno⟩
    simp only [sets]
    by_cases hil : i < L.length
    · have hpi := ptys_at hil
      have hp1 := hpos i hil
      have hml := hz.atm hil
      obtain ⟨x, hx⟩ : ∃ x, L.getD i Flat.dflt = x := ⟨_, rfl⟩
      have hxE := pty_enc hx
      rw [hpi] at hp1
      rw [hx] at hpi hp1 hml
      clear hx hpos
      obtain ⟨⟨xi, xl, xm, xv⟩, xA, xca, xB, xcb⟩ := x
      simp only at hpi hp1 hml hxE
      by_cases hid : xi = id
      · have hidx : idxP id (ptys L) = some i := idxP_first (by rw [ptys_len]; exact hil) hno (by rw [hpi]; exact hid)
        rw [hidx]
        simp only
        rw [hpi]
        clear hno hidx hpi
        simp only
        by_cases hb : 0 ≤ amount ∧ amount ≤ 1099511627776
        · rw [if_pos hb]
          obtain ⟨b1_, b2_⟩ := hb
          (repeat' ((fail_if_success (show VH _ _ (.seq (.region 12 _ _) _) _ _ _ _)); first | (show VH _ _ _ _ _ _ _; first | refine v_seq ?_ | refine r_seq ?_ | refine v_block ?_ | refine v_skip ?_ | refine v_cond_t rfl tbL ?_ | refine v_cond_f rfl tbL ?_) | (show SH _ _ _ _ _ (_ :: _) _ _ _; first | (show SH _ _ _ _ _ (⟨_, _, _, _, _, some _⟩ :: _) _ _ _; (refine gif rfl rfl ?_; refine giFF tbL ?_)) | (show SH _ _ _ _ _ (⟨_, .move _, _, _, _, _⟩ :: _) _ _ _; refine mov evL ?_) | (show SH _ _ _ _ _ (⟨_, .assign _, _, _, _, _⟩ :: _) _ _ _; refine asg evL ?_) | (show SH _ _ _ _ _ (⟨_, .binOp .lss _ _ _ _, _, _, _, _⟩ :: _) _ _ _; first | refine lssT rfl rfl omD ?_ | refine lssF rfl rfl omD ?_) | (show SH _ _ _ _ _ (⟨_, .binOp .gtr _ _ _ _, _, _, _, _⟩ :: _) _ _ _; refine gtrF rfl rfl omD ?_) | (show SH _ _ _ _ _ (⟨_, .binOp .neq _ _ _ _, _, _, _, _⟩ :: _) _ _ _; refine neqF rfl rfl omD ?_) | (show SH _ _ _ _ _ (⟨_, .load _ _, _, _, _, _⟩ :: _) _ _ _; first | refine lbx rfl spL (by rfl) ?_ | refine lrg rfl (fun _ _ => rdK) (by rfl) omL (by assumption) (by rfl) ?_) | (show SH _ _ _ _ _ (⟨_, .indexAddr _ _ _, _, _, _, _⟩ :: _) _ _ _; refine ix rfl rfl (by with_reducible rfl) (fun _ _ => rdK) (by rfl) omL omL ?_) | refine slen rfl ?_ | (show SH _ _ _ _ _ (⟨_, .pick _ _ _, _, _, _, _⟩ :: _) _ _ _; refine pkf rfl tbL evL ?_) | refine fad rfl ?_) | refine s_nil ?_ | refine kh_normal ?_))
          refine v_normS [(6,12),(16,62)] _ agL [(9,_),(10,_),(11,_)] heL (fun g => ?_)
          refine VH.ent (G := [orow 3 none 0 ([] : List Int), bx b 30 [.int .i64 t, .int .i64 la, .slice A L.length c]]) ?_ (ent_nilrow enL)
          refine v_loop [(9,12),(45,61)] (fun y : Int × Int × Nat × List Int × Option Addr × Nat => [(11, .int .i64 y.1), (10, .int .i64 y.2.1), (9, .slice y.2.2.2.2.1 y.2.2.2.1.length y.2.2.2.2.2)]) (fun y => [orow 3 y.2.2.2.2.1 y.2.2.2.2.2 y.2.2.2.1, bx b 30 [.int .i64 t, .int .i64 la, .slice A L.length c]]) (fun y => y.2.2.1 ≤ xm.length ∧ y.1 = (xm.length : Int) - (y.2.2.1 : Int) ∧ y.2.1 = leftS amount xm.length y.2.2.1 ∧ y.2.2.2.1 = (sharesM amount xm.length).take y.2.2.1) (fun y => xm.length - y.2.2.1) ((xm.length : Int), amount, 0, [], none, 0) hsL enL ⟨Nat.zero_le _, by show (xm.length : Int) = (xm.length : Int) - ((0 : Nat) : Int); omega, (leftS_zero hp1).symm, rfl⟩ ?_
          rintro ⟨m, l, j, F, B, d⟩ g2 ⟨hj, hm, hl, hF⟩
          simp only at hj hm hl hF
          simp only [sets]
          by_cases hjl : j < xm.length
          · have hin := leftS_in b1_ hp1 hj
            have hst := leftS_step b1_ hjl
            have hsa := shares_at' amount hjl
            have hFl : F.length ≤ 1000 := by rw [hF, List.length_take]; omega
            rw [← hm, ← hl] at hst
            rw [← hl] at hin
            rw [← hst.1, ← hF] at hsa
            have hst2 := hst.2
            rw [← hst.1] at hst2
            have hm0 : 0 < m := by omega
            have hm1 : m ≤ 1000 := by omega
            have hq0 : 0 ≤ (l + m - 1) / m := Int.ediv_nonneg (by omega) (by omega)
            have hq1 : (l + m - 1) / m ≤ l + m - 1 := Int.ediv_le_self _ (by omega)
            clear hl hst hF hp1
            (repeat' (first | (show VH _ _ _ _ _ _ _; first | refine v_seq ?_ | refine r_seq ?_ | refine v_block ?_ | refine v_skip ?_ | refine v_cond_t rfl tbL ?_) | (show SH _ _ _ _ _ (_ :: _) _ _ _; first | (show SH _ _ _ _ _ (⟨_, .move _, _, _, _, _⟩ :: _) _ _ _; refine mov evL ?_) | (show SH _ _ _ _ _ (⟨_, .assign _, _, _, _, _⟩ :: _) _ _ _; refine asg evL ?_) | (show SH _ _ _ _ _ (⟨_, .binOp .gtr _ _ _ _, _, _, _, _⟩ :: _) _ _ _; refine gtrT rfl rfl omD ?_) | (show SH _ _ _ _ _ (⟨_, .binOp .add _ _ _ _, _, _, _, _⟩ :: _) _ _ _; refine add rfl rfl inL ?_) | (show SH _ _ _ _ _ (⟨_, .binOp .sub _ _ _ _, _, _, _, _⟩ :: _) _ _ _; refine sub rfl rfl inL ?_) | (show SH _ _ _ _ _ (⟨_, .binOp .quo _ _ _ _, _, _, _, _⟩ :: _) _ _ _; refine quo rfl rfl omL omL omL ?_) | (show SH _ _ _ _ _ (⟨_, .buildSlice _ _ _, _, _, _, _⟩ :: _) _ _ _; refine bsl (α := Int) rfl rfl (by repeat (first | exact Vals.nil | (apply Vals.cons; rfl))) rfl (by rfl) (by decide) (fun b => ?_))) | refine s_nil ?_ | refine kh_normal ?_))
            refine app (l := F) (l2 := [((l + m - 1) / m : Int)]) rfl rfl rfl spL (fun w hw => hw.rd spL) rfl rfl rfl (by simp only [List.length_singleton]; omega) (by simp only [List.length_singleton]; omega) (fun A4 c4 => ⟨enL, ?_⟩)
            (repeat' (first | refine r_seq ?_ | (show SH _ _ _ _ _ (_ :: _) _ _ _; first | (show SH _ _ _ _ _ (⟨_, .move _, _, _, _, _⟩ :: _) _ _ _; refine mov evL ?_) | (show SH _ _ _ _ _ (⟨_, .assign _, _, _, _, _⟩ :: _) _ _ _; refine asg evL ?_) | (show SH _ _ _ _ _ (⟨_, .binOp .sub _ _ _ _, _, _, _, _⟩ :: _) _ _ _; refine sub rfl rfl inL ?_)) | refine s_nil ?_ | refine kh_normal ?_ | refine bh_normal ?_))
            exact ⟨agL, (m - 1, l - (l + m - 1) / m, j + 1, F ++ [(l + m - 1) / m], A4, c4), hsL, enL, ⟨hjl, by show m - 1 = (xm.length : Int) - ((j + 1 : Nat) : Int); omega, hst2, hsa.symm⟩, by show xm.length - (j + 1) < xm.length - j; omega⟩
          · obtain rfl : j = xm.length := by omega
            have hm0 : m = 0 := by omega
            have hall : F = sharesM amount xm.length := by
              rw [hF, List.take_of_length_le]
              unfold sharesM
              rw [List.length_map, List.length_range]
              exact Nat.le_refl _
            rw [← hall]
            clear hF hall hl hm
            (repeat' (first | (show VH _ _ _ _ _ _ _; first | refine v_seq ?_ | refine r_seq ?_ | refine v_ret ?_ | refine v_exit ?_ | refine v_cond_f rfl tbL ?_) | (show SH _ _ _ _ _ (_ :: _) _ _ _; first | (show SH _ _ _ _ _ (⟨_, .move _, _, _, _, _⟩ :: _) _ _ _; refine mov evL ?_) | (show SH _ _ _ _ _ (⟨_, .assign _, _, _, _, _⟩ :: _) _ _ _; refine asg evL ?_) | (show SH _ _ _ _ _ (⟨_, .binOp .gtr _ _ _ _, _, _, _, _⟩ :: _) _ _ _; refine gtrF rfl rfl omD ?_)) | refine s_nil ?_ | refine kh_normal ?_ | refine kh_ret ?_ | refine kh_exit ?_ | refine bh_ret ?_ | refine bh_exit ?_))
            exact rh2 rfl rfl rfl ⟨B, d, rfl, rfl⟩ enL
        · rw [if_neg hb]
          have hcc : Hid _ := hb
          clear hb
          (repeat' (first | (show VH _ _ _ _ _ _ _; first | refine v_seq ?_ | refine r_seq ?_ | refine v_block ?_ | refine v_ret ?_ | refine v_skip ?_ | refine v_cond_t rfl tbL ?_ | refine v_cond_f rfl tbL ?_ | refine v_cond_dec rfl (fun h => ?_) (fun h => ?_)) | (show SH _ _ _ _ _ (_ :: _) _ _ _; first | (show SH _ _ _ _ _ (⟨_, _, _, _, _, some _⟩ :: _) _ _ _; (refine gif rfl rfl ?_; first | refine giFF tbL ?_ | refine giFT tbL ?_ | refine giFd (fun h => ?_) (fun h => ?_))) | (show SH _ _ _ _ _ (⟨_, .move _, _, _, _, _⟩ :: _) _ _ _; refine mov evL ?_) | (show SH _ _ _ _ _ (⟨_, .assign _, _, _, _, _⟩ :: _) _ _ _; refine asg evL ?_) | (show SH _ _ _ _ _ (⟨_, .binOp .lss _ _ _ _, _, _, _, _⟩ :: _) _ _ _; first | refine lssT rfl rfl omD ?_ | refine lss rfl rfl ?_) | refine gtr rfl rfl ?_ | (show SH _ _ _ _ _ (⟨_, .binOp .neq _ _ _ _, _, _, _, _⟩ :: _) _ _ _; refine neqF rfl rfl omD ?_) | (show SH _ _ _ _ _ (⟨_, .load _ _, _, _, _, _⟩ :: _) _ _ _; first | refine lbx rfl spL (by rfl) ?_ | refine lrg rfl (fun _ _ => rdK) (by rfl) omL (by assumption) (by rfl) ?_) | (show SH _ _ _ _ _ (⟨_, .indexAddr _ _ _, _, _, _, _⟩ :: _) _ _ _; refine ix rfl rfl (by with_reducible rfl) (fun _ _ => rdK) (by rfl) omL omL ?_) | refine slen rfl ?_ | (show SH _ _ _ _ _ (⟨_, .pick _ _ _, _, _, _, _⟩ :: _) _ _ _; first | refine pkt rfl tbL evL ?_ | refine pkf rfl tbL evL ?_) | refine fad rfl ?_) | refine s_nil ?_ | refine kh_normal ?_ | refine kh_ret ?_ | refine bh_ret ?_))
          all_goals first
            | exact rh2 rfl rfl rfl ⟨none, 0, rfl, rfl⟩ (ent_nilrow (ent_nil _))
            | exact absurd ⟨by omega, by omega⟩ hcc
      · (repeat' (first | (show VH _ _ _ _ _ _ _; first | refine v_seq ?_ | refine r_seq ?_ | refine v_block ?_ | refine v_skip ?_ | refine v_exit ?_ | refine v_cond_t rfl tbL ?_) | (show SH _ _ _ _ _ (_ :: _) _ _ _; first | (show SH _ _ _ _ _ (⟨_, .move _, _, _, _, _⟩ :: _) _ _ _; refine mov evL ?_) | (show SH _ _ _ _ _ (⟨_, .assign _, _, _, _, _⟩ :: _) _ _ _; refine asg evL ?_) | (show SH _ _ _ _ _ (⟨_, .binOp .lss _ _ _ _, _, _, _, _⟩ :: _) _ _ _; refine lssT rfl rfl omD ?_) | (show SH _ _ _ _ _ (⟨_, .binOp .neq _ _ _ _, _, _, _, _⟩ :: _) _ _ _; refine neqT rfl rfl omD ?_) | (show SH _ _ _ _ _ (⟨_, .binOp .add _ _ _ _, _, _, _, _⟩ :: _) _ _ _; refine add rfl rfl inL ?_) | (show SH _ _ _ _ _ (⟨_, .load _ _, _, _, _, _⟩ :: _) _ _ _; first | refine lbx rfl spL (by rfl) ?_ | refine lrg rfl (fun _ _ => rdK) (by rfl) omL (by assumption) (by rfl) ?_) | (show SH _ _ _ _ _ (⟨_, .indexAddr _ _ _, _, _, _, _⟩ :: _) _ _ _; refine ix rfl rfl (by with_reducible rfl) (fun _ _ => rdK) (by rfl) omL omL ?_) | refine slen rfl ?_ | refine fad rfl ?_) | refine s_nil ?_ | refine kh_normal ?_ | refine kh_exit ?_ | refine bh_exit ?_))
        exact ⟨agL, i + 1, hsL, enL, ⟨hil, fun j hj => by
          by_cases e : j = i
          · rw [e, hpi]; exact hid
          · exact hno j (by omega)⟩, by show L.length - (i + 1) < L.length - i; omega⟩
    · obtain rfl : i = L.length := by omega
      rw [idxP_no (by rw [ptys_len]; exact hno)]
      simp only
      (repeat' (first | (show VH _ _ _ _ _ _ _; first | refine v_seq ?_ | refine r_seq ?_ | refine v_ret ?_ | refine v_exit ?_ | refine v_cond_f rfl tbL ?_) | (show SH _ _ _ _ _ (_ :: _) _ _ _; first | (show SH _ _ _ _ _ (⟨_, .move _, _, _, _, _⟩ :: _) _ _ _; refine mov evL ?_) | (show SH _ _ _ _ _ (⟨_, .assign _, _, _, _, _⟩ :: _) _ _ _; refine asg evL ?_) | (show SH _ _ _ _ _ (⟨_, .binOp .lss _ _ _ _, _, _, _, _⟩ :: _) _ _ _; refine lssF rfl rfl omD ?_) | (show SH _ _ _ _ _ (⟨_, .load _ _, _, _, _, _⟩ :: _) _ _ _; refine lbx rfl spL (by rfl) ?_) | refine slen rfl ?_ | refine fad rfl ?_) | refine s_nil ?_ | refine kh_normal ?_ | refine kh_exit ?_ | refine bh_exit ?_))
      exact rh2 rfl rfl rfl ⟨none, 0, rfl, rfl⟩ (ent_nilrow (ent_nil _))
end Go.Proofs.YtlfbcoohfnoacaaGreat

/- marcheslaw36: same (printed by gen_sm36.py). -/
namespace Go.Proofs.YtlfbcoohfnoacaaGreat
open Go.Fw Go.RowKit
set_option maxHeartbeats 4000000 in
set_option maxRecDepth 100000 in
theorem sameR_spec (t la : Int) (A : Option Addr) (L : List PtyP) (c : Nat) (kind p q : Int) (Φ : World → Prop) (w0 : World) (H : List HP) (w : World) (hz : SzP L) (hc : L.length ≤ c) (hΦ : ∀ w, Φ w → RdP w A L) (hw : Wd w0 (kno Φ :: H) w) :
    Ret Tryz.prog 31 [hv36 t la A L c, .agg #[.int .i64 kind, .int .i64 p, .int .i64 q]].toArray w (RP w0 (RefC Φ H (doR ⟨t, la, ptys L⟩ kind p q))) := by
  have hpk := fun w => pick_spec kind 9 w (by omega) (by omega)
  have hm : kind % 9 = 0 ∨ kind % 9 = 1 ∨ kind % 9 = 2 ∨ kind % 9 = 3 ∨ kind % 9 = 4 ∨ kind % 9 = 5 ∨ kind % 9 = 6 ∨ kind % 9 = 7 ∨ kind % 9 = 8 := by omega
  unfold doR
  rcases hm with hm | hm | hm | hm | hm | hm | hm | hm | hm
  · rw [hm] at hpk ⊢
    refine enterH Tryz.func31 rfl rfl Tryz.ntmps31 rfl (by assumption) ?_
    (repeat' (first | (show VH _ _ _ _ _ _ _; first | refine v_seq ?_ | refine r_seq ?_ | refine v_block ?_ | refine v_cond_t rfl tbL ?_) | (show SH _ _ _ _ _ (_ :: _) _ _ _; first | (show SH _ _ _ _ _ (⟨_, .assign _, _, _, _, _⟩ :: _) _ _ _; refine asg evL ?_) | (show SH _ _ _ _ _ (⟨_, .binOp .eql _ _ _ _, _, _, _, _⟩ :: _) _ _ _; refine eqlT rfl rfl omD ?_) | (show SH _ _ _ _ _ (⟨_, .load _ _, _, _, _, _⟩ :: _) _ _ _; first | refine lbx rfl spL (by rfl) ?_ | refine lba rfl spL (by rfl) ?_) | (show SH _ _ _ _ _ (⟨_, .call ⟨.value (.func 38), _, _⟩, _, _, _, _⟩ :: _) _ _ _; refine cl (callee := .func 38) rfl (fun w hw => hpk w) rfl rfl ?_) | refine fad rfl ?_ | refine ala rfl (fun b => ?_) | (show SH _ _ _ _ _ (⟨_, .box _ _, _, _, _, _⟩ :: _) _ _ _; refine bxx rfl evL rfl (fun b => ?_))) | refine s_nil ?_ | refine kh_normal ?_))
    rename_i b1 b2
    refine cm rfl (fun w3 hw3 => refAdvance_spec t la A L c p Φ w0 (bx b1 30 [.int .i64 t, .int .i64 la, .slice A L.length c] :: bx b2 36 [.int .i64 kind, .int .i64 p, .int .i64 q] :: bx b 30 [.int .i64 0, .int .i64 0, .slice none 0 0] :: H) w3 hz hc hΦ (Ent.wd enL hw3)) rfl rfl ?_
    rintro _ _ ⟨A1, c1, M, hM, hcM, rfl, rfl⟩
    refine ⟨enL, ?_⟩
    (repeat' (first | refine v_ret ?_ | (show SH _ _ _ _ _ (_ :: _) _ _ _; first | (show SH _ _ _ _ _ (⟨_, .assign _, _, _, _, _⟩ :: _) _ _ _; refine asg evL ?_) | refine extr rfl rfl ?_ | (show SH _ _ _ _ _ (⟨_, .store _ _ _, _, _, _, _⟩ :: _) _ _ _; refine sta rfl rfl rfl spL (by rfl) (by rfl) (by rfl) kpL ?_)) | refine s_nil ?_ | refine kh_normal ?_ | refine kh_ret ?_ | refine bh_ret ?_))
    exact rhC2 rfl rfl rfl rfl (fun w hw => loadVar_bx hw spL (by rfl)) ⟨A1, c1, M, hM, hcM, rfl, rfl⟩ enL
  · rw [hm] at hpk ⊢
    refine enterH Tryz.func31 rfl rfl Tryz.ntmps31 rfl (by assumption) ?_
    (repeat' (first | (show VH _ _ _ _ _ _ _; first | refine v_seq ?_ | refine r_seq ?_ | refine v_block ?_ | refine v_cond_t rfl tbL ?_ | refine v_cond_f rfl tbL ?_) | (show SH _ _ _ _ _ (_ :: _) _ _ _; first | (show SH _ _ _ _ _ (⟨_, .assign _, _, _, _, _⟩ :: _) _ _ _; refine asg evL ?_) | (show SH _ _ _ _ _ (⟨_, .binOp .eql _ _ _ _, _, _, _, _⟩ :: _) _ _ _; first | refine eqlT rfl rfl omD ?_ | refine eqlF rfl rfl omD ?_) | (show SH _ _ _ _ _ (⟨_, .load _ _, _, _, _, _⟩ :: _) _ _ _; first | refine lbx rfl spL (by rfl) ?_ | refine lba rfl spL (by rfl) ?_) | (show SH _ _ _ _ _ (⟨_, .call ⟨.value (.func 38), _, _⟩, _, _, _, _⟩ :: _) _ _ _; refine cl (callee := .func 38) rfl (fun w hw => hpk w) rfl rfl ?_) | refine fad rfl ?_ | refine ala rfl (fun b => ?_) | (show SH _ _ _ _ _ (⟨_, .box _ _, _, _, _, _⟩ :: _) _ _ _; refine bxx rfl evL rfl (fun b => ?_))) | refine s_nil ?_ | refine kh_normal ?_))
    rename_i b1 b2
    refine cm rfl (fun w3 hw3 => refCreate_spec t la A L c p Φ w0 (bx b1 30 [.int .i64 t, .int .i64 la, .slice A L.length c] :: bx b2 36 [.int .i64 kind, .int .i64 p, .int .i64 q] :: bx b 30 [.int .i64 0, .int .i64 0, .slice none 0 0] :: H) w3 hz hc hΦ (Ent.wd enL hw3)) rfl rfl ?_
    rintro _ _ ⟨A1, c1, M, hM, hcM, rfl, rfl⟩
    refine ⟨enL, ?_⟩
    (repeat' (first | refine v_ret ?_ | (show SH _ _ _ _ _ (_ :: _) _ _ _; first | (show SH _ _ _ _ _ (⟨_, .assign _, _, _, _, _⟩ :: _) _ _ _; refine asg evL ?_) | refine extr rfl rfl ?_ | (show SH _ _ _ _ _ (⟨_, .store _ _ _, _, _, _, _⟩ :: _) _ _ _; refine sta rfl rfl rfl spL (by rfl) (by rfl) (by rfl) kpL ?_)) | refine s_nil ?_ | refine kh_normal ?_ | refine kh_ret ?_ | refine bh_ret ?_))
    exact rhC2 rfl rfl rfl rfl (fun w hw => loadVar_bx hw spL (by rfl)) ⟨A1, c1, M, hM, hcM, rfl, rfl⟩ enL
  · rw [hm] at hpk ⊢
    refine enterH Tryz.func31 rfl rfl Tryz.ntmps31 rfl (by assumption) ?_
    (repeat' (first | (show VH _ _ _ _ _ _ _; first | refine v_seq ?_ | refine r_seq ?_ | refine v_block ?_ | refine v_cond_t rfl tbL ?_ | refine v_cond_f rfl tbL ?_) | (show SH _ _ _ _ _ (_ :: _) _ _ _; first | (show SH _ _ _ _ _ (⟨_, .assign _, _, _, _, _⟩ :: _) _ _ _; refine asg evL ?_) | (show SH _ _ _ _ _ (⟨_, .binOp .eql _ _ _ _, _, _, _, _⟩ :: _) _ _ _; first | refine eqlT rfl rfl omD ?_ | refine eqlF rfl rfl omD ?_) | (show SH _ _ _ _ _ (⟨_, .load _ _, _, _, _, _⟩ :: _) _ _ _; first | refine lbx rfl spL (by rfl) ?_ | refine lba rfl spL (by rfl) ?_) | (show SH _ _ _ _ _ (⟨_, .call ⟨.value (.func 38), _, _⟩, _, _, _, _⟩ :: _) _ _ _; refine cl (callee := .func 38) rfl (fun w hw => hpk w) rfl rfl ?_) | refine fad rfl ?_ | refine ala rfl (fun b => ?_) | (show SH _ _ _ _ _ (⟨_, .box _ _, _, _, _, _⟩ :: _) _ _ _; refine bxx rfl evL rfl (fun b => ?_))) | refine s_nil ?_ | refine kh_normal ?_))
    rename_i b1 b2
    refine cm rfl (fun w3 hw3 => refInvited_spec t la A L c p q Φ w0 (bx b1 30 [.int .i64 t, .int .i64 la, .slice A L.length c] :: bx b2 36 [.int .i64 kind, .int .i64 p, .int .i64 q] :: bx b 30 [.int .i64 0, .int .i64 0, .slice none 0 0] :: H) w3 hz hc hΦ (Ent.wd enL hw3)) rfl rfl ?_
    rintro _ _ ⟨A1, c1, M, hM, hcM, rfl, rfl⟩
    refine ⟨enL, ?_⟩
    (repeat' (first | refine v_ret ?_ | (show SH _ _ _ _ _ (_ :: _) _ _ _; first | (show SH _ _ _ _ _ (⟨_, .assign _, _, _, _, _⟩ :: _) _ _ _; refine asg evL ?_) | refine extr rfl rfl ?_ | (show SH _ _ _ _ _ (⟨_, .store _ _ _, _, _, _, _⟩ :: _) _ _ _; refine sta rfl rfl rfl spL (by rfl) (by rfl) (by rfl) kpL ?_)) | refine s_nil ?_ | refine kh_normal ?_ | refine kh_ret ?_ | refine bh_ret ?_))
    exact rhC2 rfl rfl rfl rfl (fun w hw => loadVar_bx hw spL (by rfl)) ⟨A1, c1, M, hM, hcM, rfl, rfl⟩ enL
  · rw [hm] at hpk ⊢
    refine enterH Tryz.func31 rfl rfl Tryz.ntmps31 rfl (by assumption) ?_
    (repeat' (first | (show VH _ _ _ _ _ _ _; first | refine v_seq ?_ | refine r_seq ?_ | refine v_block ?_ | refine v_cond_t rfl tbL ?_ | refine v_cond_f rfl tbL ?_) | (show SH _ _ _ _ _ (_ :: _) _ _ _; first | (show SH _ _ _ _ _ (⟨_, .assign _, _, _, _, _⟩ :: _) _ _ _; refine asg evL ?_) | (show SH _ _ _ _ _ (⟨_, .binOp .eql _ _ _ _, _, _, _, _⟩ :: _) _ _ _; first | refine eqlT rfl rfl omD ?_ | refine eqlF rfl rfl omD ?_) | (show SH _ _ _ _ _ (⟨_, .load _ _, _, _, _, _⟩ :: _) _ _ _; first | refine lbx rfl spL (by rfl) ?_ | refine lba rfl spL (by rfl) ?_) | (show SH _ _ _ _ _ (⟨_, .call ⟨.value (.func 38), _, _⟩, _, _, _, _⟩ :: _) _ _ _; refine cl (callee := .func 38) rfl (fun w hw => hpk w) rfl rfl ?_) | refine fad rfl ?_ | refine ala rfl (fun b => ?_) | (show SH _ _ _ _ _ (⟨_, .box _ _, _, _, _, _⟩ :: _) _ _ _; refine bxx rfl evL rfl (fun b => ?_))) | refine s_nil ?_ | refine kh_normal ?_))
    rename_i b1 b2
    refine cm rfl (fun w3 hw3 => refAccept_spec t la A L c p q Φ w0 (bx b1 30 [.int .i64 t, .int .i64 la, .slice A L.length c] :: bx b2 36 [.int .i64 kind, .int .i64 p, .int .i64 q] :: bx b 30 [.int .i64 0, .int .i64 0, .slice none 0 0] :: H) w3 hz hc hΦ (Ent.wd enL hw3)) rfl rfl ?_
    rintro _ _ ⟨A1, c1, M, hM, hcM, rfl, rfl⟩
    refine ⟨enL, ?_⟩
    (repeat' (first | refine v_ret ?_ | (show SH _ _ _ _ _ (_ :: _) _ _ _; first | (show SH _ _ _ _ _ (⟨_, .assign _, _, _, _, _⟩ :: _) _ _ _; refine asg evL ?_) | refine extr rfl rfl ?_ | (show SH _ _ _ _ _ (⟨_, .store _ _ _, _, _, _, _⟩ :: _) _ _ _; refine sta rfl rfl rfl spL (by rfl) (by rfl) (by rfl) kpL ?_)) | refine s_nil ?_ | refine kh_normal ?_ | refine kh_ret ?_ | refine bh_ret ?_))
    exact rhC2 rfl rfl rfl rfl (fun w hw => loadVar_bx hw spL (by rfl)) ⟨A1, c1, M, hM, hcM, rfl, rfl⟩ enL
  · rw [hm] at hpk ⊢
    refine enterH Tryz.func31 rfl rfl Tryz.ntmps31 rfl (by assumption) ?_
    (repeat' (first | (show VH _ _ _ _ _ _ _; first | refine v_seq ?_ | refine r_seq ?_ | refine v_block ?_ | refine v_cond_t rfl tbL ?_ | refine v_cond_f rfl tbL ?_) | (show SH _ _ _ _ _ (_ :: _) _ _ _; first | (show SH _ _ _ _ _ (⟨_, .assign _, _, _, _, _⟩ :: _) _ _ _; refine asg evL ?_) | (show SH _ _ _ _ _ (⟨_, .binOp .eql _ _ _ _, _, _, _, _⟩ :: _) _ _ _; first | refine eqlT rfl rfl omD ?_ | refine eqlF rfl rfl omD ?_) | (show SH _ _ _ _ _ (⟨_, .load _ _, _, _, _, _⟩ :: _) _ _ _; first | refine lbx rfl spL (by rfl) ?_ | refine lba rfl spL (by rfl) ?_) | (show SH _ _ _ _ _ (⟨_, .call ⟨.value (.func 38), _, _⟩, _, _, _, _⟩ :: _) _ _ _; refine cl (callee := .func 38) rfl (fun w hw => hpk w) rfl rfl ?_) | refine fad rfl ?_ | refine ala rfl (fun b => ?_) | (show SH _ _ _ _ _ (⟨_, .box _ _, _, _, _, _⟩ :: _) _ _ _; refine bxx rfl evL rfl (fun b => ?_))) | refine s_nil ?_ | refine kh_normal ?_))
    rename_i b1 b2
    refine cm rfl (fun w3 hw3 => refDecline_spec t la A L c p q Φ w0 (bx b1 30 [.int .i64 t, .int .i64 la, .slice A L.length c] :: bx b2 36 [.int .i64 kind, .int .i64 p, .int .i64 q] :: bx b 30 [.int .i64 0, .int .i64 0, .slice none 0 0] :: H) w3 hz hc hΦ (Ent.wd enL hw3)) rfl rfl ?_
    rintro _ _ ⟨A1, c1, M, hM, hcM, rfl, rfl⟩
    refine ⟨enL, ?_⟩
    (repeat' (first | refine v_ret ?_ | (show SH _ _ _ _ _ (_ :: _) _ _ _; first | (show SH _ _ _ _ _ (⟨_, .assign _, _, _, _, _⟩ :: _) _ _ _; refine asg evL ?_) | refine extr rfl rfl ?_ | (show SH _ _ _ _ _ (⟨_, .store _ _ _, _, _, _, _⟩ :: _) _ _ _; refine sta rfl rfl rfl spL (by rfl) (by rfl) (by rfl) kpL ?_)) | refine s_nil ?_ | refine kh_normal ?_ | refine kh_ret ?_ | refine bh_ret ?_))
    exact rhC2 rfl rfl rfl rfl (fun w hw => loadVar_bx hw spL (by rfl)) ⟨A1, c1, M, hM, hcM, rfl, rfl⟩ enL
  · rw [hm] at hpk ⊢
    refine enterH Tryz.func31 rfl rfl Tryz.ntmps31 rfl (by assumption) ?_
    (repeat' (first | (show VH _ _ _ _ _ _ _; first | refine v_seq ?_ | refine r_seq ?_ | refine v_block ?_ | refine v_cond_t rfl tbL ?_ | refine v_cond_f rfl tbL ?_) | (show SH _ _ _ _ _ (_ :: _) _ _ _; first | (show SH _ _ _ _ _ (⟨_, .assign _, _, _, _, _⟩ :: _) _ _ _; refine asg evL ?_) | (show SH _ _ _ _ _ (⟨_, .binOp .eql _ _ _ _, _, _, _, _⟩ :: _) _ _ _; first | refine eqlT rfl rfl omD ?_ | refine eqlF rfl rfl omD ?_) | (show SH _ _ _ _ _ (⟨_, .load _ _, _, _, _, _⟩ :: _) _ _ _; first | refine lbx rfl spL (by rfl) ?_ | refine lba rfl spL (by rfl) ?_) | (show SH _ _ _ _ _ (⟨_, .call ⟨.value (.func 38), _, _⟩, _, _, _, _⟩ :: _) _ _ _; refine cl (callee := .func 38) rfl (fun w hw => hpk w) rfl rfl ?_) | refine fad rfl ?_ | refine ala rfl (fun b => ?_) | (show SH _ _ _ _ _ (⟨_, .box _ _, _, _, _, _⟩ :: _) _ _ _; refine bxx rfl evL rfl (fun b => ?_))) | refine s_nil ?_ | refine kh_normal ?_))
    rename_i b1 b2
    refine cm rfl (fun w3 hw3 => refLeave_spec t la A L c p Φ w0 (bx b1 30 [.int .i64 t, .int .i64 la, .slice A L.length c] :: bx b2 36 [.int .i64 kind, .int .i64 p, .int .i64 q] :: bx b 30 [.int .i64 0, .int .i64 0, .slice none 0 0] :: H) w3 hz hc hΦ (Ent.wd enL hw3)) rfl rfl ?_
    rintro _ _ ⟨A1, c1, M, hM, hcM, rfl, rfl⟩
    refine ⟨enL, ?_⟩
    (repeat' (first | refine v_ret ?_ | (show SH _ _ _ _ _ (_ :: _) _ _ _; first | (show SH _ _ _ _ _ (⟨_, .assign _, _, _, _, _⟩ :: _) _ _ _; refine asg evL ?_) | refine extr rfl rfl ?_ | (show SH _ _ _ _ _ (⟨_, .store _ _ _, _, _, _, _⟩ :: _) _ _ _; refine sta rfl rfl rfl spL (by rfl) (by rfl) (by rfl) kpL ?_)) | refine s_nil ?_ | refine kh_normal ?_ | refine kh_ret ?_ | refine bh_ret ?_))
    exact rhC2 rfl rfl rfl rfl (fun w hw => loadVar_bx hw spL (by rfl)) ⟨A1, c1, M, hM, hcM, rfl, rfl⟩ enL
  · rw [hm] at hpk ⊢
    refine enterH Tryz.func31 rfl rfl Tryz.ntmps31 rfl (by assumption) ?_
    (repeat' (first | (show VH _ _ _ _ _ _ _; first | refine v_seq ?_ | refine r_seq ?_ | refine v_block ?_ | refine v_cond_t rfl tbL ?_ | refine v_cond_f rfl tbL ?_) | (show SH _ _ _ _ _ (_ :: _) _ _ _; first | (show SH _ _ _ _ _ (⟨_, .assign _, _, _, _, _⟩ :: _) _ _ _; refine asg evL ?_) | (show SH _ _ _ _ _ (⟨_, .binOp .eql _ _ _ _, _, _, _, _⟩ :: _) _ _ _; first | refine eqlT rfl rfl omD ?_ | refine eqlF rfl rfl omD ?_) | (show SH _ _ _ _ _ (⟨_, .load _ _, _, _, _, _⟩ :: _) _ _ _; first | refine lbx rfl spL (by rfl) ?_ | refine lba rfl spL (by rfl) ?_) | (show SH _ _ _ _ _ (⟨_, .call ⟨.value (.func 38), _, _⟩, _, _, _, _⟩ :: _) _ _ _; refine cl (callee := .func 38) rfl (fun w hw => hpk w) rfl rfl ?_) | refine fad rfl ?_ | refine ala rfl (fun b => ?_) | (show SH _ _ _ _ _ (⟨_, .box _ _, _, _, _, _⟩ :: _) _ _ _; refine bxx rfl evL rfl (fun b => ?_))) | refine s_nil ?_ | refine kh_normal ?_))
    rename_i b1 b2
    refine cm rfl (fun w3 hw3 => refKick_spec t la A L c p q Φ w0 (bx b1 30 [.int .i64 t, .int .i64 la, .slice A L.length c] :: bx b2 36 [.int .i64 kind, .int .i64 p, .int .i64 q] :: bx b 30 [.int .i64 0, .int .i64 0, .slice none 0 0] :: H) w3 hz hc hΦ (Ent.wd enL hw3)) rfl rfl ?_
    rintro _ _ ⟨A1, c1, M, hM, hcM, rfl, rfl⟩
    refine ⟨enL, ?_⟩
    (repeat' (first | refine v_ret ?_ | (show SH _ _ _ _ _ (_ :: _) _ _ _; first | (show SH _ _ _ _ _ (⟨_, .assign _, _, _, _, _⟩ :: _) _ _ _; refine asg evL ?_) | refine extr rfl rfl ?_ | (show SH _ _ _ _ _ (⟨_, .store _ _ _, _, _, _, _⟩ :: _) _ _ _; refine sta rfl rfl rfl spL (by rfl) (by rfl) (by rfl) kpL ?_)) | refine s_nil ?_ | refine kh_normal ?_ | refine kh_ret ?_ | refine bh_ret ?_))
    exact rhC2 rfl rfl rfl rfl (fun w hw => loadVar_bx hw spL (by rfl)) ⟨A1, c1, M, hM, hcM, rfl, rfl⟩ enL
  · rw [hm] at hpk ⊢
    refine enterH Tryz.func31 rfl rfl Tryz.ntmps31 rfl (by assumption) ?_
    (repeat' (first | (show VH _ _ _ _ _ _ _; first | refine v_seq ?_ | refine r_seq ?_ | refine v_block ?_ | refine v_cond_t rfl tbL ?_ | refine v_cond_f rfl tbL ?_) | (show SH _ _ _ _ _ (_ :: _) _ _ _; first | (show SH _ _ _ _ _ (⟨_, .assign _, _, _, _, _⟩ :: _) _ _ _; refine asg evL ?_) | (show SH _ _ _ _ _ (⟨_, .binOp .eql _ _ _ _, _, _, _, _⟩ :: _) _ _ _; first | refine eqlT rfl rfl omD ?_ | refine eqlF rfl rfl omD ?_) | (show SH _ _ _ _ _ (⟨_, .load _ _, _, _, _, _⟩ :: _) _ _ _; first | refine lbx rfl spL (by rfl) ?_ | refine lba rfl spL (by rfl) ?_) | (show SH _ _ _ _ _ (⟨_, .call ⟨.value (.func 38), _, _⟩, _, _, _, _⟩ :: _) _ _ _; refine cl (callee := .func 38) rfl (fun w hw => hpk w) rfl rfl ?_) | refine fad rfl ?_ | refine ala rfl (fun b => ?_) | (show SH _ _ _ _ _ (⟨_, .box _ _, _, _, _, _⟩ :: _) _ _ _; refine bxx rfl evL rfl (fun b => ?_))) | refine s_nil ?_ | refine kh_normal ?_))
    rename_i b1 b2
    refine cm rfl (fun w3 hw3 => refPromote_spec t la A L c p q Φ w0 (bx b1 30 [.int .i64 t, .int .i64 la, .slice A L.length c] :: bx b2 36 [.int .i64 kind, .int .i64 p, .int .i64 q] :: bx b 30 [.int .i64 0, .int .i64 0, .slice none 0 0] :: H) w3 hz hc hΦ (Ent.wd enL hw3)) rfl rfl ?_
    rintro _ _ ⟨A1, c1, M, hM, hcM, rfl, rfl⟩
    refine ⟨enL, ?_⟩
    (repeat' (first | refine v_ret ?_ | (show SH _ _ _ _ _ (_ :: _) _ _ _; first | (show SH _ _ _ _ _ (⟨_, .assign _, _, _, _, _⟩ :: _) _ _ _; refine asg evL ?_) | refine extr rfl rfl ?_ | (show SH _ _ _ _ _ (⟨_, .store _ _ _, _, _, _, _⟩ :: _) _ _ _; refine sta rfl rfl rfl spL (by rfl) (by rfl) (by rfl) kpL ?_)) | refine s_nil ?_ | refine kh_normal ?_ | refine kh_ret ?_ | refine bh_ret ?_))
    exact rhC2 rfl rfl rfl rfl (fun w hw => loadVar_bx hw spL (by rfl)) ⟨A1, c1, M, hM, hcM, rfl, rfl⟩ enL
  · rw [hm] at hpk ⊢
    refine enterH Tryz.func31 rfl rfl Tryz.ntmps31 rfl (by assumption) ?_
    (repeat' (first | (show VH _ _ _ _ _ _ _; first | refine v_seq ?_ | refine r_seq ?_ | refine v_block ?_ | refine v_skip ?_ | refine v_cond_f rfl tbL ?_) | (show SH _ _ _ _ _ (_ :: _) _ _ _; first | (show SH _ _ _ _ _ (⟨_, .assign _, _, _, _, _⟩ :: _) _ _ _; refine asg evL ?_) | (show SH _ _ _ _ _ (⟨_, .binOp .eql _ _ _ _, _, _, _, _⟩ :: _) _ _ _; refine eqlF rfl rfl omD ?_) | (show SH _ _ _ _ _ (⟨_, .load _ _, _, _, _, _⟩ :: _) _ _ _; first | refine lbx rfl spL (by rfl) ?_ | refine lba rfl spL (by rfl) ?_) | (show SH _ _ _ _ _ (⟨_, .call ⟨.value (.func 38), _, _⟩, _, _, _, _⟩ :: _) _ _ _; refine cl (callee := .func 38) rfl (fun w hw => hpk w) rfl rfl ?_) | refine fad rfl ?_ | refine ala rfl (fun b => ?_) | (show SH _ _ _ _ _ (⟨_, .box _ _, _, _, _, _⟩ :: _) _ _ _; refine bxx rfl evL rfl (fun b => ?_))) | refine s_nil ?_ | refine kh_normal ?_ | refine bh_normal ?_))
    rename_i b1 b2
    refine cm rfl (fun w3 hw3 => refDisband_spec t la A L c p Φ w0 (bx b1 30 [.int .i64 t, .int .i64 la, .slice A L.length c] :: bx b2 36 [.int .i64 kind, .int .i64 p, .int .i64 q] :: bx b 30 [.int .i64 0, .int .i64 0, .slice none 0 0] :: H) w3 hz hc hΦ (Ent.wd enL hw3)) rfl rfl ?_
    rintro _ _ ⟨A1, c1, M, hM, hcM, rfl, rfl⟩
    refine ⟨enL, ?_⟩
    (repeat' (first | refine v_ret ?_ | (show SH _ _ _ _ _ (_ :: _) _ _ _; first | (show SH _ _ _ _ _ (⟨_, .assign _, _, _, _, _⟩ :: _) _ _ _; refine asg evL ?_) | refine extr rfl rfl ?_ | (show SH _ _ _ _ _ (⟨_, .store _ _ _, _, _, _, _⟩ :: _) _ _ _; refine sta rfl rfl rfl spL (by rfl) (by rfl) (by rfl) kpL ?_)) | refine s_nil ?_ | refine kh_normal ?_))
    exact rhC2 rfl rfl rfl rfl (fun w hw => loadVar_bx hw spL (by rfl)) ⟨A1, c1, M, hM, hcM, rfl, rfl⟩ enL
end Go.Proofs.YtlfbcoohfnoacaaGreat

/- Layer 36: what is overwritten: a block of which only the size is known. -/
namespace Go.Proofs.YtlfbcoohfnoacaaGreat
open Go.Fw Go.RowKit
section
variable {md : Md} {P : Program} {n : Nat} {Q : HQ} {f : Fr} {w0 : World} {H R : List HP} {ops : Array Oper} {rest : List Oper} {d : Nat} {op : Op} {ty : TypeId} {pos : String} {aft : Array Edge} {v : Value} {x y c : Operand}
theorem ixj {t e : TypeId} {sz by_ : Nat} {g off m cp i : Nat} {K : IntKind} [TSl P t e sz by_] (hx : ev n f x = .slice (some ⟨g, off, none⟩) m cp) {j : Int} (hy : ev n f y = .int K j) (hj : j = (i : Int)) (h1 : i < m) (k : SH (nx md) P n ops Q rest (upd f d (.pointer (some ⟨g, off + i * sz, none⟩))) w0 H) : SH md P n ops Q (⟨some d, .indexAddr t x y, ty, pos, aft, none⟩ :: rest) f w0 H := s_val (fun w hw => by
  have := ox_index (P := P) (t := t) (w := w) (ty := ty) hx hy (by omega) (by omega)
  subst hj
  rwa [Int.toNat_natCast, Addr.add_lit] at this) k
theorem stj {t te : TypeId} {z : Value} {b off : Nat} {cs : List Value} [h : TOne P t z] (hm : addOK md = true) (hx : ev n f x = .pointer (some ⟨b, off, none⟩)) (hy : ev n f y = v) (hs : Split H (bx b te cs) R) (hv : v.cells = #[v]) (hone : v.oneCell' = true) (hoff : off < cs.length)
    (hk : keeps md (bx b te (cs.set off v) :: R)) (k : SH (nx md) P n ops Q rest f w0 (bx b te (cs.set off v) :: R)) : SH md P n ops Q (⟨none, .store t x y, ty, pos, aft, none⟩ :: rest) f w0 H :=
  s_wh hm (wh_storeBx hx hy hs hv hone hoff (wh_nil ⟨rfl, hk, k⟩))
end
/-- A row is a block, of which the first cells are known. -/
theorem row_bx {α : Type} [F : Flat α] {w0 w : World} {H : List HP} {e : TypeId} {A : Option Addr} {cp : Nat} {l : List α} (hw : Wd w0 (orow e A cp l :: H) w) :
    (A = none ∧ l = [] ∧ cp = 0) ∨ ∃ g cs, A = some ⟨g, 0, none⟩ ∧ cs.length = cp * F.sz ∧ cp ≤ maxLen ∧ l.length ≤ cp ∧ cs.take (l.length * F.sz) = encs l ∧ Wd w0 (bx g e cs :: H) w := by
  obtain ⟨p, q, hx, hq, hd, hp, hqi⟩ := hw.open_
  rcases hx.2 with ⟨h1, h2, h3⟩ | ⟨g, cur, h1, h2, h3, h4, h5, h6⟩
  · exact .inl ⟨h1, List.eq_nil_of_length_eq_zero h2, h3⟩
  · refine .inr ⟨g, cur.toList, h1, by simpa using h5, h4, h3, h6, Wd.close hw.1 (p := p) ?_ hq hd hp hqi⟩
    show p = pone g (.cells cur.toList.toArray e (0, 0))
    rw [h2, Array.toArray_toList]
set_option maxRecDepth 100000 in
theorem mark_spec (a b : Int) (w : World) (h1 : 0 ≤ a) (h2 : a ≤ 1000) (h3 : 0 ≤ b) (h4 : b ≤ 2000000) : Ret Tryz.prog 105 [.int .i64 a, .int .i64 b].toArray w (Out w (.int .i64 (1000003 * (a + 7) + b))) := by
  refine enterH Tryz.func105 rfl rfl Tryz.ntmps105 rfl (Wd.refl _) ?_
  (repeat' (first | (show VH _ _ _ _ _ _ _; first | refine v_seq ?_ | refine r_seq ?_ | refine v_ret ?_) | (show SH _ _ _ _ _ (_ :: _) _ _ _; first | (show SH _ _ _ _ _ (⟨_, .move _, _, _, _, _⟩ :: _) _ _ _; refine mov evL ?_) | (show SH _ _ _ _ _ (⟨_, .assign _, _, _, _, _⟩ :: _) _ _ _; refine asg evL ?_) | (show SH _ _ _ _ _ (⟨_, .binOp .add _ _ _ _, _, _, _, _⟩ :: _) _ _ _; refine add rfl rfl inL ?_) | (show SH _ _ _ _ _ (⟨_, .binOp .mul _ _ _ _, _, _, _, _⟩ :: _) _ _ _; refine mul rfl rfl inL ?_)) | refine s_nil ?_ | refine kh_normal ?_))
  exact rh1 rfl rfl ⟨rfl, rfl⟩ (ent_nil _)
set_option maxHeartbeats 1000000 in
set_option maxRecDepth 100000 in
theorem overInts_spec (A : Option Addr) (l : List Int) (c : Nat) (w0 : World) (H : List HP) (w : World) (hl : l.length ≤ 1000000) (hw : Wd w0 (orow 3 A c l :: H) w) :
    Ret Tryz.prog 76 [.slice A l.length c].toArray w (RP w0 fun _ H' => H' = H) := by
  have hmk := fun (i : Nat) (hi : i < 2000000) w => mark_spec 2 i w (by omega) (by omega) (by omega) (by omega)
  rcases row_bx hw with ⟨rfl, hl0, hc0⟩ | ⟨g0, cs, rfl, hcs, hcm, hlc, -, hw⟩
  · replace hw := hw.drop
    replace hl0 := congrArg List.length hl0
    rw [List.length_nil] at hl0
    have ht : (min (c : Int) ((l.length : Int) + 12)).toNat = 0 := by omega
    have ht2 : 0 ≤ min (c : Int) ((l.length : Int) + 12) ∧ min (c : Int) ((l.length : Int) + 12) ≤ (c : Int) := by omega
    refine enterH Tryz.func76 rfl rfl Tryz.ntmps76 rfl (by assumption) ?_
    (repeat' (first | (show VH _ _ _ _ _ _ _; first | refine v_seq ?_ | refine r_seq ?_) | (show SH _ _ _ _ _ (_ :: _) _ _ _; (show SH _ _ _ _ _ (⟨_, .move _, _, _, _, _⟩ :: _) _ _ _; refine mov evL ?_))))
    refine bcp rfl ?_
    (repeat' (first | (show VH _ _ _ _ _ _ _; first | refine v_seq ?_ | refine r_seq ?_ | refine v_block ?_) | (show SH _ _ _ _ _ (_ :: _) _ _ _; first | (show SH _ _ _ _ _ (⟨_, .move _, _, _, _, _⟩ :: _) _ _ _; refine mov evL ?_) | (show SH _ _ _ _ _ (⟨_, .assign _, _, _, _, _⟩ :: _) _ _ _; refine asg evL ?_) | (show SH _ _ _ _ _ (⟨_, .binOp .add _ _ _ _, _, _, _, _⟩ :: _) _ _ _; refine add rfl rfl inL ?_) | (show SH _ _ _ _ _ (⟨_, .call ⟨.builtin _, _, _⟩, _, _, _, _⟩ :: _) _ _ _; first | refine slen rfl ?_ | refine bmin rfl rfl ?_) | (show SH _ _ _ _ _ (⟨_, .slice _ _ _ _ _, _, _, _, _⟩ :: _) _ _ _; refine slh rfl rfl omL omL ?_)) | refine s_nil ?_ | refine kh_normal ?_))
    rw [ht]
    refine v_norm [(2,_),(3,_)] heL (fun g => ?_)
    refine v_loop [(3,3),(12,22)] (fun s : Nat => [(3, .int .i64 s)]) (fun s => H) (fun s => s = 0) (fun s => 0) 0 hsL enL rfl ?_
    rintro k g rfl
    simp only [sets]
    clear hmk ht ht2 hl0 hc0
    (repeat' (first | (show VH _ _ _ _ _ _ _; first | refine v_seq ?_ | refine r_seq ?_ | refine v_exit ?_ | refine v_cond_f rfl tbL ?_) | (show SH _ _ _ _ _ (_ :: _) _ _ _; first | (show SH _ _ _ _ _ (⟨_, .move _, _, _, _, _⟩ :: _) _ _ _; refine mov evL ?_) | (show SH _ _ _ _ _ (⟨_, .binOp .lss _ _ _ _, _, _, _, _⟩ :: _) _ _ _; refine lssF rfl rfl omD ?_) | refine slen rfl ?_) | refine s_nil ?_ | refine kh_normal ?_ | refine kh_exit ?_ | refine bh_exit ?_))
    exact rh0n rfl rfl enL
  · rw [show Flat.sz Int = 1 from rfl, Nat.mul_one] at hcs
    have hml : maxLen ≤ 9223372036854775807 := by decide
    have hc : c ≤ 9223372036854775807 := Nat.le_trans hcm hml
    clear hcm hml
    have ht : (min (c : Int) ((l.length : Int) + 12)).toNat = min c (l.length + 12) := by omega
    have ht2 : 0 ≤ min (c : Int) ((l.length : Int) + 12) ∧ min (c : Int) ((l.length : Int) + 12) ≤ (c : Int) := by omega
    refine enterH Tryz.func76 rfl rfl Tryz.ntmps76 rfl (by assumption) ?_
    (repeat' (first | (show VH _ _ _ _ _ _ _; first | refine v_seq ?_ | refine r_seq ?_) | (show SH _ _ _ _ _ (_ :: _) _ _ _; (show SH _ _ _ _ _ (⟨_, .move _, _, _, _, _⟩ :: _) _ _ _; refine mov evL ?_))))
    refine bcp rfl ?_
    (repeat' (first | (show VH _ _ _ _ _ _ _; first | refine v_seq ?_ | refine r_seq ?_ | refine v_block ?_) | (show SH _ _ _ _ _ (_ :: _) _ _ _; first | (show SH _ _ _ _ _ (⟨_, .move _, _, _, _, _⟩ :: _) _ _ _; refine mov evL ?_) | (show SH _ _ _ _ _ (⟨_, .assign _, _, _, _, _⟩ :: _) _ _ _; refine asg evL ?_) | (show SH _ _ _ _ _ (⟨_, .binOp .add _ _ _ _, _, _, _, _⟩ :: _) _ _ _; refine add rfl rfl inL ?_) | (show SH _ _ _ _ _ (⟨_, .call ⟨.builtin _, _, _⟩, _, _, _, _⟩ :: _) _ _ _; first | refine slen rfl ?_ | refine bmin rfl rfl ?_) | (show SH _ _ _ _ _ (⟨_, .slice _ _ _ _ _, _, _, _, _⟩ :: _) _ _ _; refine slh rfl rfl omL omL ?_)) | refine s_nil ?_ | refine kh_normal ?_))
    rw [ht]
    generalize hm : min c (l.length + 12) = m
    have hm1 : m ≤ c := by omega
    have hm2 : m ≤ 1000012 := by omega
    refine v_norm [(2,_),(3,_)] heL (fun g => ?_)
    refine v_loop [(3,3),(12,22)] (fun s : Nat × List Value => [(3, .int .i64 s.1)]) (fun s => bx g0 3 s.2 :: H) (fun s => s.1 ≤ m ∧ s.2.length = c) (fun s => m - s.1) (0, cs) hsL enL ⟨Nat.zero_le _, hcs⟩ ?_
    rintro ⟨k, l2⟩ g ⟨hk, hl2⟩
    simp only [sets]
    simp only at hk hl2
    by_cases hlt : k < m
    · have hq := hmk k (by omega)
      clear hmk ht ht2 hm
      (repeat' (first | (show VH _ _ _ _ _ _ _; first | refine v_seq ?_ | refine r_seq ?_ | refine v_block ?_ | refine v_skip ?_ | refine v_cond_t rfl tbL ?_) | (show SH _ _ _ _ _ (_ :: _) _ _ _; first | (show SH _ _ _ _ _ (⟨_, .move _, _, _, _, _⟩ :: _) _ _ _; refine mov evL ?_) | (show SH _ _ _ _ _ (⟨_, .binOp .lss _ _ _ _, _, _, _, _⟩ :: _) _ _ _; refine lssT rfl rfl omD ?_) | refine slen rfl ?_ | (show SH _ _ _ _ _ (⟨_, .call ⟨.value (.func 105), _, _⟩, _, _, _, _⟩ :: _) _ _ _; refine cl (callee := .func 105) rfl (fun w hw => hq w) rfl rfl ?_)) | refine s_nil ?_ | refine kh_normal ?_))
      refine ixj (i := k) rfl rfl rfl (by omega) ?_
      (repeat' (first | (show VH _ _ _ _ _ _ _; first | refine v_seq ?_ | refine r_seq ?_ | refine r_quiet hmix (by kernel_rfl) ?_ | refine v_block ?_ | refine v_ret ?_ | refine v_skip ?_ | refine v_exit ?_ | refine v_label ?_ | refine v_cond_t rfl tbL ?_ | refine v_cond_f rfl tbL ?_ | refine v_cond_dec rfl (fun h => ?_) (fun h => ?_) | refine v_cond_ndec rfl (fun h => ?_) (fun h => ?_) | refine v_cond rfl (fun h => ?_) (fun h => ?_)) | (show SH _ _ _ _ _ (_ :: _) _ _ _; first | (show SH _ _ _ _ _ (⟨_, .move _, _, _, _, _⟩ :: _) _ _ _; refine mov evL ?_) | (show SH _ _ _ _ _ (⟨_, .assign _, _, _, _, _⟩ :: _) _ _ _; refine asg evL ?_) | (show SH _ _ _ _ _ (⟨_, .binOp .lss _ _ _ _, _, _, _, _⟩ :: _) _ _ _; first | refine lssT rfl rfl omD ?_ | refine lssF rfl rfl omD ?_ | refine lss rfl rfl ?_) | (show SH _ _ _ _ _ (⟨_, .binOp .add _ _ _ _, _, _, _, _⟩ :: _) _ _ _; refine add rfl rfl inL ?_) | (show SH _ _ _ _ _ (⟨_, .indexAddr _ _ _, _, _, _, _⟩ :: _) _ _ _; first | refine ix rfl rfl (by with_reducible rfl) (fun _ _ => rdK) (by rfl) omL omL ?_ | refine ixi rfl rfl (fun _ _ => rdK) (by rfl) omL omL omL ?_ | refine ixb rfl rfl omL ?_ | refine ixq rfl rfl (by assumption) omL omL ?_ | refine ixA _ rfl rfl rfl omL ?_ | refine ixi rfl rfl (fun _ _ => rdK) (by rfl) omL (by first | omega | (simp only [List.length_cons, List.length_nil]; omega)) (by simp only [List.length_cons, List.length_nil]; omega) ?_) | (show SH _ _ _ _ _ (⟨_, .call ⟨.builtin _, _, _⟩, _, _, _, _⟩ :: _) _ _ _; first | refine slen rfl ?_ | refine bmin rfl rfl ?_ | refine lnm rfl spL ?_) | (show SH _ _ _ _ _ (⟨_, .slice _ _ _ _ _, _, _, _, _⟩ :: _) _ _ _; first | refine sla rfl rfl omL omL ?_ | refine slh rfl rfl omL omL ?_ | refine sll rfl rfl omL omL ?_) | (show SH _ _ _ _ _ (⟨_, .store _ _ _, _, _, _, _⟩ :: _) _ _ _; first | refine stb rfl rfl evL spL rfl rfl (by first | decide | exact Nat.zero_lt_succ _ | exact of_decide_eq_true rfl) kpL ?_ | refine sta rfl rfl rfl spL (by rfl) (by rfl) (by rfl) kpL ?_ | refine sti rfl rfl rfl spL omL kpL ?_ | refine sbi rfl rfl rfl spL omL kpL ?_ | refine sbs rfl rfl evL spL (by rfl) (by rfl) (of_decide_eq_true rfl) kpL ?_)) | refine s_nil ?_ | refine s_fork ?_ ?_ | refine s_fork3 ?_ ?_ ?_ | refine s_fork4 ?_ ?_ ?_ ?_ | refine kh_normal ?_ | refine kh_ret ?_ | refine kh_exit ?_ | refine bh_normal ?_ | refine bh_ret ?_ | refine bh_exit ?_ | refine bh_exit_ne rfl ?_))
      refine stj rfl rfl rfl spL rfl rfl (by omega) trivial ?_
      (repeat' (first | refine r_seq ?_ | (show SH _ _ _ _ _ (_ :: _) _ _ _; first | (show SH _ _ _ _ _ (⟨_, .move _, _, _, _, _⟩ :: _) _ _ _; refine mov evL ?_) | (show SH _ _ _ _ _ (⟨_, .assign _, _, _, _, _⟩ :: _) _ _ _; refine asg evL ?_) | (show SH _ _ _ _ _ (⟨_, .binOp .add _ _ _ _, _, _, _, _⟩ :: _) _ _ _; refine add rfl rfl inL ?_)) | refine s_nil ?_ | refine kh_normal ?_ | refine bh_normal ?_))
      exact ⟨agL, (k + 1, l2.set _ _), hsL, enL, ⟨hlt, by rw [List.length_set]; exact hl2⟩, by show _ - (k + 1) < _ - k; omega⟩
    · clear hmk ht ht2 hm
      (repeat' (first | (show VH _ _ _ _ _ _ _; first | refine v_seq ?_ | refine r_seq ?_ | refine v_exit ?_ | refine v_cond_f rfl tbL ?_) | (show SH _ _ _ _ _ (_ :: _) _ _ _; first | (show SH _ _ _ _ _ (⟨_, .move _, _, _, _, _⟩ :: _) _ _ _; refine mov evL ?_) | (show SH _ _ _ _ _ (⟨_, .binOp .lss _ _ _ _, _, _, _, _⟩ :: _) _ _ _; refine lssF rfl rfl omD ?_) | refine slen rfl ?_) | refine s_nil ?_ | refine kh_normal ?_ | refine kh_exit ?_ | refine bh_exit ?_))
      exact rh0n rfl rfl enL
end Go.Proofs.YtlfbcoohfnoacaaGreat

/- marcheslaw36: over. -/
namespace Go.Proofs.YtlfbcoohfnoacaaGreat
open Go.Fw Go.RowKit
set_option maxHeartbeats 1000000 in
set_option maxRecDepth 100000 in
theorem over_spec (bg off : Nat) (te : TypeId) (cs : List Value) (A : Option Addr) (xm : List Int) (ca : Nat) (B : Option Addr) (xv : List Inv) (cb : Nat) (w0 : World) (H : List HP) (w : World) (hlen : off + 3 < cs.length)
    (h2 : cs[off + 2]? = some (.slice A xm.length ca)) (h3 : cs[off + 3]? = some (.slice B xv.length cb)) (hxm : xm.length ≤ 1000) (hxv : xv.length ≤ 1000)
    (hw : Wd w0 (orow 3 A ca xm :: orow 61 B cb xv :: bx bg te cs :: H) w) :
    Ret Tryz.prog 37 [.pointer (some ⟨bg, off, none⟩)].toArray w (RP w0 fun _ H' => H' = bx bg te (cs.set off (.int .i64 (-1))) :: H) := by
  have hO := fun w h => overInts_spec A xm ca w0 (orow 61 B cb xv :: bx bg te cs :: H) w (by omega) h
  refine enterH Tryz.func37 rfl rfl Tryz.ntmps37 rfl (by assumption) ?_
  (repeat' (first | (show VH _ _ _ _ _ _ _; first | refine v_seq ?_ | refine r_seq ?_) | (show SH _ _ _ _ _ (_ :: _) _ _ _; first | (show SH _ _ _ _ _ (⟨_, .move _, _, _, _, _⟩ :: _) _ _ _; refine mov evL ?_) | refine nlc rfl ?_ | refine fad rfl ?_)))
  refine lcell rfl (fun w hw => hw.cell spL h2) ?_
  (repeat' (first | (show VH _ _ _ _ _ _ _; first | refine v_seq ?_ | refine r_seq ?_ | refine r_quiet hmix (by kernel_rfl) ?_ | refine v_block ?_ | refine v_ret ?_ | refine v_skip ?_ | refine v_exit ?_ | refine v_label ?_ | refine v_cond_t rfl tbL ?_ | refine v_cond_f rfl tbL ?_ | refine v_cond_dec rfl (fun h => ?_) (fun h => ?_) | refine v_cond_ndec rfl (fun h => ?_) (fun h => ?_) | refine v_cond rfl (fun h => ?_) (fun h => ?_)) | (show SH _ _ _ _ _ (_ :: _) _ _ _; first | (show SH _ _ _ _ _ (⟨_, .move _, _, _, _, _⟩ :: _) _ _ _; refine mov evL ?_) | (show SH _ _ _ _ _ (⟨_, .assign _, _, _, _, _⟩ :: _) _ _ _; refine asg evL ?_) | (show SH _ _ _ _ _ (⟨_, .binOp .lss _ _ _ _, _, _, _, _⟩ :: _) _ _ _; first | refine lssT rfl rfl omD ?_ | refine lssF rfl rfl omD ?_ | refine lss rfl rfl ?_) | (show SH _ _ _ _ _ (⟨_, .binOp .add _ _ _ _, _, _, _, _⟩ :: _) _ _ _; refine add rfl rfl inL ?_) | (show SH _ _ _ _ _ (⟨_, .load _ _, _, _, _, _⟩ :: _) _ _ _; first | refine lbx rfl spL (by rfl) ?_ | refine lba rfl spL (by rfl) ?_ | refine lbs rfl spL (by rfl) (by rfl) ?_ | refine lgi rfl (fun _ _ => rdK) omL (by assumption) ?_ | refine lag rfl (fun _ _ => rdK) (by rfl) omL (by assumption) ?_ | refine lrg rfl (fun _ _ => rdK) (by rfl) omL (by assumption) (by rfl) ?_ | refine lin rfl (fun _ _ => rdK) omL ?_ | refine lbi rfl spL omL ?_ | refine lr1 rfl (fun _ _ => rdK) (by rfl) omL (by rfl) ?_ | refine lra rfl (fun _ _ => rdK) (by rfl) omL ?_ | refine lrf rfl (fun _ _ => rdK) (by rfl) omL (by rfl) ?_ | refine lcell rfl (fun w hw => hw.ext.cell (by assumption)) ?_ | refine lrs rfl (fun _ _ => rdK) (by rfl) omL (by rfl) (by rfl) ?_ | refine lca rfl (fun _ _ => rdK) (by rfl) ?_ | refine lcs rfl (fun _ _ => rdK) (by rfl) ?_ | refine lcf rfl (fun _ _ => rdK) (by rfl) ?_ | refine lrf rfl (fun _ _ => rdK) (by rfl) (by simp only [List.length_cons, List.length_nil]; omega) (by rfl) ?_ | refine lra rfl (fun _ _ => rdK) (by rfl) (by simp only [List.length_cons, List.length_nil]; omega) ?_) | (show SH _ _ _ _ _ (⟨_, .indexAddr _ _ _, _, _, _, _⟩ :: _) _ _ _; first | refine ix rfl rfl (by with_reducible rfl) (fun _ _ => rdK) (by rfl) omL omL ?_ | refine ixi rfl rfl (fun _ _ => rdK) (by rfl) omL omL omL ?_ | refine ixb rfl rfl omL ?_ | refine ixq rfl rfl (by assumption) omL omL ?_ | refine ixA _ rfl rfl rfl omL ?_ | refine ixi rfl rfl (fun _ _ => rdK) (by rfl) omL (by first | omega | (simp only [List.length_cons, List.length_nil]; omega)) (by simp only [List.length_cons, List.length_nil]; omega) ?_) | (show SH _ _ _ _ _ (⟨_, .call ⟨.builtin _, _, _⟩, _, _, _, _⟩ :: _) _ _ _; first | refine slen rfl ?_ | refine lnm rfl spL ?_) | refine nlc rfl ?_ | refine fad rfl ?_ | (show SH _ _ _ _ _ (⟨_, .store _ _ _, _, _, _, _⟩ :: _) _ _ _; first | refine stb rfl rfl evL spL rfl rfl (by first | decide | exact Nat.zero_lt_succ _ | exact of_decide_eq_true rfl) kpL ?_ | refine sta rfl rfl rfl spL (by rfl) (by rfl) (by rfl) kpL ?_ | refine sti rfl rfl rfl spL omL kpL ?_ | refine sbi rfl rfl rfl spL omL kpL ?_ | refine sbs rfl rfl evL spL (by rfl) (by rfl) (of_decide_eq_true rfl) kpL ?_)) | refine s_nil ?_ | refine s_fork ?_ ?_ | refine s_fork3 ?_ ?_ ?_ | refine s_fork4 ?_ ?_ ?_ ?_ | refine kh_normal ?_ | refine kh_ret ?_ | refine kh_exit ?_ | refine bh_normal ?_ | refine bh_ret ?_ | refine bh_exit ?_ | refine bh_exit_ne rfl ?_))
  refine cm rfl (fun w hw => hO w (Ent.wd enL hw)) rfl rfl ?_
  rintro _ _ rfl
  refine ⟨enL, ?_⟩
  (repeat' (first | (show VH _ _ _ _ _ _ _; first | refine v_seq ?_ | refine r_seq ?_ | refine v_block ?_) | (show SH _ _ _ _ _ (_ :: _) _ _ _; (show SH _ _ _ _ _ (⟨_, .assign _, _, _, _, _⟩ :: _) _ _ _; refine asg evL ?_)) | refine s_nil ?_ | refine kh_normal ?_))
  refine v_norm [(0,_),(2,_)] heL (fun g => ?_)
  clear hO h2
  refine v_loop [(2,2),(8,23)] (fun s : Nat × List Inv => [(2, .int .i64 s.1)]) (fun s => orow 61 B cb s.2 :: bx bg te cs :: H) (fun s => s.1 ≤ xv.length ∧ s.2.length = xv.length) (fun s => xv.length - s.1) (0, xv) hsL enL ⟨Nat.zero_le _, rfl⟩ ?_
  rintro ⟨k, l2⟩ g2 ⟨hk, hl2⟩
  simp only [sets]
  simp only at hk hl2
  by_cases hlt : k < xv.length
  · obtain ⟨v, hv⟩ : ∃ v, l2.getD k Flat.dflt = v := ⟨_, rfl⟩
    have hvE := inv_enc hv
    clear hv
    obtain ⟨vw, vt⟩ := v
    simp only at hvE
    (repeat' (first | (show VH _ _ _ _ _ _ _; first | refine v_seq ?_ | refine r_seq ?_) | (show SH _ _ _ _ _ (_ :: _) _ _ _; first | (show SH _ _ _ _ _ (⟨_, .move _, _, _, _, _⟩ :: _) _ _ _; refine mov evL ?_) | refine nlc rfl ?_ | refine fad rfl ?_)))
    refine lcell rfl (fun w hw => hw.cell spL h3) ?_
    (repeat' (first | (show VH _ _ _ _ _ _ _; first | refine v_seq ?_ | refine r_seq ?_ | refine v_block ?_ | refine v_skip ?_ | refine v_cond_t rfl tbL ?_) | (show SH _ _ _ _ _ (_ :: _) _ _ _; first | (show SH _ _ _ _ _ (⟨_, .move _, _, _, _, _⟩ :: _) _ _ _; refine mov evL ?_) | (show SH _ _ _ _ _ (⟨_, .binOp .lss _ _ _ _, _, _, _, _⟩ :: _) _ _ _; refine lssT rfl rfl omD ?_) | refine slen rfl ?_ | refine nlc rfl ?_ | refine fad rfl ?_) | refine s_nil ?_ | refine kh_normal ?_))
    refine lcell rfl (fun w hw => hw.cell spL h3) ?_
    (repeat' ((show SH _ _ _ _ _ (_ :: _) _ _ _; first | (show SH _ _ _ _ _ (⟨_, .move _, _, _, _, _⟩ :: _) _ _ _; refine mov evL ?_) | (show SH _ _ _ _ _ (⟨_, .indexAddr _ _ _, _, _, _, _⟩ :: _) _ _ _; refine ix rfl rfl (by with_reducible rfl) (fun _ _ => rdK) (by rfl) omL omL ?_) | refine fad rfl ?_)))
    refine stf (⟨-1, vt⟩ : Inv) rfl rfl rfl spL rfl (by omega) rfl rfl (by decide) (by rw [hvE]; rfl) trivial ?_
    (repeat' (first | refine r_seq ?_ | (show SH _ _ _ _ _ (_ :: _) _ _ _; first | (show SH _ _ _ _ _ (⟨_, .move _, _, _, _, _⟩ :: _) _ _ _; refine mov evL ?_) | (show SH _ _ _ _ _ (⟨_, .assign _, _, _, _, _⟩ :: _) _ _ _; refine asg evL ?_) | (show SH _ _ _ _ _ (⟨_, .binOp .add _ _ _ _, _, _, _, _⟩ :: _) _ _ _; refine add rfl rfl inL ?_)) | refine s_nil ?_ | refine kh_normal ?_ | refine bh_normal ?_))
    exact ⟨agL, (k + 1, l2.set k ⟨-1, vt⟩), hsL, enL, ⟨hlt, by rw [List.length_set]; exact hl2⟩, by show _ - (k + 1) < _ - k; omega⟩
  · (repeat' (first | (show VH _ _ _ _ _ _ _; first | refine v_seq ?_ | refine r_seq ?_) | (show SH _ _ _ _ _ (_ :: _) _ _ _; first | (show SH _ _ _ _ _ (⟨_, .move _, _, _, _, _⟩ :: _) _ _ _; refine mov evL ?_) | refine nlc rfl ?_ | refine fad rfl ?_)))
    refine lcell rfl (fun w hw => hw.cell spL h3) ?_
    (repeat' (first | (show VH _ _ _ _ _ _ _; first | refine r_seq ?_ | refine v_exit ?_ | refine v_cond_f rfl tbL ?_) | (show SH _ _ _ _ _ (_ :: _) _ _ _; first | (show SH _ _ _ _ _ (⟨_, .move _, _, _, _, _⟩ :: _) _ _ _; refine mov evL ?_) | (show SH _ _ _ _ _ (⟨_, .binOp .lss _ _ _ _, _, _, _, _⟩ :: _) _ _ _; refine lssF rfl rfl omD ?_) | refine slen rfl ?_ | refine nlc rfl ?_ | refine fad rfl ?_) | refine s_nil ?_ | refine kh_normal ?_ | refine kh_exit ?_ | refine bh_exit ?_))
    refine stj rfl rfl rfl spL rfl rfl (by omega) trivial ?_
    (repeat' (refine s_nil ?_))
    exact rh0n rfl rfl enL
end Go.Proofs.YtlfbcoohfnoacaaGreat

/- marcheslaw36: does. -/
namespace Go.Proofs.YtlfbcoohfnoacaaGreat
open Go.Fw Go.RowKit
/-- The hall behind a thing that is done: what has an error leaves it as it was. -/
def nextH (h : Hal) (kind a b : Int) : Hal := if (doR h kind a b).2 = 0 then (doR h kind a b).1 else h
def RefD (Φ : World → Prop) (H : List HP) (h : Hal) (v : Value) (H' : List HP) : Prop := ∃ A c M, ptys M = h.ps ∧ M.length ≤ c ∧ v = .tuple #[hv36 h.tick h.last A M c, .bool true] ∧ H' = kno (fun w => Φ w ∧ RdP w A M) :: H
theorem takenK_spec (t la : Int) (A : Option Addr) (L : List PtyP) (c : Nat) (w : World) (hz : SzP L) (hr : RdP w A L) :
    Ret Tryz.prog 30 [hv36 t la A L c].toArray w (RP w fun v H' => ∃ A' c' M, ptys M = ptys L ∧ v = hv36 t la A' M c' ∧ H' = [knp A' M]) :=
  (taken_spec t la A L c w hz hr).mono fun v w' ⟨H', ⟨A', c', M, h1, h2, h3⟩, hw⟩ => ⟨_, ⟨A', c', M, h1, h2, rfl⟩, Ent.wd (h3 ▸ ent_knp) hw⟩
theorem ofY_spec (t la : Int) (A : Option Addr) (L : List PtyP) (c : Nat) (who : Int) (w : World) (hz : SzP L) (hr : RdP w A L) :
    Ret Tryz.prog 16 [hv36 t la A L c, .int .i64 who].toArray w (RP w fun v H' => ∃ y : PtyP, y.p = (ofM ⟨t, la, ptys L⟩ who).getD pty0 ∧ v = .tuple #[.agg (Flat.enc y).toArray, .bool (ofM ⟨t, la, ptys L⟩ who).isSome] ∧ H' = [rowM y, rowI y]) :=
  (of_spec t la A L c who w hz hr).mono fun v w' ⟨H', h, hw⟩ => by
    unfold OutP at h
    cases ho : ofM ⟨t, la, ptys L⟩ who with
    | none =>
      rw [ho] at h
      obtain ⟨h1, h2⟩ := h
      subst h1 h2
      exact ⟨_, ⟨⟨pty0, none, 0, none, 0⟩, rfl, rfl, rfl⟩, Ent.wd (ent_nilrow (ent_nilrow (ent_nil _))) hw⟩
    | some p =>
      rw [ho] at h
      obtain ⟨y, h1, h2, h3⟩ := h
      subst h2 h3
      exact ⟨_, ⟨y, h1, rfl, rfl⟩, hw⟩
theorem share_len {L : List PtyP} (hz : SzP L) (t la id amount : Int) : (shareM ⟨t, la, ptys L⟩ id amount).1.length ≤ 1000 := by
  unfold shareM
  split
  · cases hi : idxP id (ptys L) with
    | none => simp
    | some k =>
      have hk := (idxP_some _ hi).1
      simp only
      split
      · unfold sharesM
        rw [List.length_map, List.length_range]
        rw [ptys_len] at hk
        rw [ptys_at hk]
        exact hz.atm hk
      · simp
  · simp
theorem ofP_rd {L : List PtyP} {A : Option Addr} {w : World} (hr : RdP w A L) (t la who : Int) : Rd w ((ofP t la L who).getD Flat.dflt).A ((ofP t la L who).getD Flat.dflt).p.mem ∧ Rd w ((ofP t la L who).getD Flat.dflt).B ((ofP t la L who).getD Flat.dflt).p.inv := by
  unfold ofP
  split
  · cases hf : findM who (ptys L) with
    | none => exact ⟨Rd.nil _ none, Rd.nil _ none⟩
    | some k =>
      have hk := findM_lt hf
      rw [ptys_len] at hk
      exact ⟨hr.mem hk, hr.inv hk⟩
  · exact ⟨Rd.nil _ none, Rd.nil _ none⟩
theorem ofP_sz {L : List PtyP} (hz : SzP L) (t la who : Int) : ((ofP t la L who).getD Flat.dflt).p.mem.length ≤ 1000 ∧ ((ofP t la L who).getD Flat.dflt).p.inv.length ≤ 1000 := by
  unfold ofP
  split
  · cases hf : findM who (ptys L) with
    | none => exact ⟨Nat.zero_le _, Nat.zero_le _⟩
    | some k =>
      have hk := findM_lt hf
      rw [ptys_len] at hk
      exact ⟨hz.atm hk, hz.ati hk⟩
  · exact ⟨Nat.zero_le _, Nat.zero_le _⟩
theorem ofP_getD (o : Option PtyP) : (o.map PtyP.p).getD pty0 = (o.getD Flat.dflt).p := by cases o <;> rfl
theorem ofP_isSome (o : Option PtyP) : (o.map PtyP.p).isSome = o.isSome := by cases o <;> rfl
theorem v_row {α : Type} [F : Flat α] {P : Program} {n : Nat} {Q : HQ} {f : Fr} {w0 : World} {H R : List HP} {c : Code} {e : TypeId} {A : Option Addr} {cp : Nat} {l : List α} (hs : Split H (orow e A cp l) R) (k0 : l.length = 0 → VH P n c Q f w0 R)
    (k1 : ∀ g cs, A = some ⟨g, 0, none⟩ → cs.length = cp * F.sz → l.length ≤ cp → cs.take (l.length * F.sz) = encs l → VH P n c Q f w0 (bx g e cs :: R)) : VH P n c Q f w0 H := ⟨fun w hw => by
  rcases row_bx (hs.wd hw) with ⟨_, h2, _⟩ | ⟨g, cs, h1, h2, _, h3, h4, h5⟩
  · exact (k0 (by rw [h2]; rfl)).out w (hs.wd hw).drop
  · exact (k1 g cs h1 h2 h3 h4).out w h5⟩
theorem ent_two {a b B : HP} {X Y Z : List HP} : Ent (B :: allH (a :: X) :: allH (b :: Y) :: Z) (a :: b :: B :: allH X :: allH Y :: Z) :=
  Ent.trans (B := B :: a :: allH X :: b :: allH Y :: Z) (ent_cons Split.head (ent_all_uncons.trans (ent_cons Split.head (ent_cons Split.head ent_all_uncons)))) (ent_cons spL (ent_cons spL (ent_refl _)))
theorem row_cells {L : List PtyP} {cs : List Value} (h : cs.take (L.length * 4) = encs L) : ∀ j, j < L.length → ∀ r, r < 4 → cs[j * 4 + r]? = (Flat.enc (L.getD j Flat.dflt))[r]? := fun j hj r hr => by
  have hl : (Flat.enc (L.getD j Flat.dflt)).length = 4 := Flat.len _
  have hu : (Flat.enc (L.getD j Flat.dflt))[r]? = some ((Flat.enc (L.getD j Flat.dflt))[r]'(by omega)) := List.getElem?_eq_getElem _
  have h1 := encs_get hj hu
  rw [hu, ← h1, ← h, show Flat.sz PtyP = 4 from rfl, List.getElem?_take, if_pos (by omega)]
set_option maxHeartbeats 4000000 in
set_option maxRecDepth 100000 in
theorem does_spec (t la : Int) (A : Option Addr) (L : List PtyP) (c : Nat) (kind p q : Int) (Φ : World → Prop) (w0 : World) (H : List HP) (w : World) (hz : SzP L) (hc : L.length ≤ c) (hΦ : ∀ w, Φ w → RdP w A L) (hw : Wd w0 (kno Φ :: H) w) :
    Ret Tryz.prog 10 [hv36 t la A L c, .agg #[.int .i64 kind, .int .i64 p, .int .i64 q]].toArray w (RP w0 (RefD Φ H (nextH ⟨t, la, ptys L⟩ kind p q))) := by
  have hT := fun w h => takenK_spec t la A L c w hz h
  have hR := fun w0 H w h => sameR_spec t la A L c kind p q Φ w0 H w hz hc hΦ h
  have hG := fun w h => refOf_spec t la A L c p w hz h
  have hG2 := fun w h => refShare_spec t la A L c q p w hz h
  have hV2 := fun w h => refValid_spec t la A L c w hz h
  have hszD : ∀ M, ptys M = (doR ⟨t, la, ptys L⟩ kind p q).1.ps → SzP M := fun M h => szP_do h
  have hslen := share_len hz t la q p
  have hzr := fun w (h : RdP w A L) => ofP_rd h t la p
  have hzs := ofP_sz hz t la p
  have hT2 : ∀ A2 L2 c2 w, ptys L2 = ptys L → RdP w A2 L2 → Ret Tryz.prog 16 [hv36 t la A2 L2 c2, .int .i64 p].toArray w (RP w fun v H' => ∃ y : PtyP, y.p = ((ofP t la L p).getD Flat.dflt).p ∧ v = .tuple #[.agg (Flat.enc y).toArray, .bool (ofP t la L p).isSome] ∧ H' = [rowM y, rowI y]) := fun A2 L2 c2 w hp h => by
    have := ofY_spec t la A2 L2 c2 p w (szP_of hp hz) h
    rwa [hp, ofP_of, ofP_getD, ofP_isSome] at this
  have hO2 : ∀ A2 L2 c2 w, ptys L2 = ptys L → RdP w A2 L2 → Ret Tryz.prog 13 [hv36 t la A2 L2 c2, .agg #[.int .i64 kind, .int .i64 p, .int .i64 q]].toArray w (RP w (OutH (doR ⟨t, la, ptys L⟩ kind p q))) := fun A2 L2 c2 w hp h => by
    have := one36_spec t la A2 L2 c2 kind p q w (szP_of hp hz) h
    rwa [hp] at this
  have hS2 : ∀ A2 L2 c2 w, ptys L2 = ptys L → RdP w A2 L2 → Ret Tryz.prog 20 [hv36 t la A2 L2 c2, .int .i64 q, .int .i64 p].toArray w (RP w (FreshE 3 (shareM ⟨t, la, ptys L⟩ q p).1 (shareM ⟨t, la, ptys L⟩ q p).2)) := fun A2 L2 c2 w hp h => by
    have := share_spec t la A2 L2 c2 q p w (szP_of hp hz) h
    rwa [hp] at this
  have hV1 : ∀ A2 L2 c2 w, ptys L2 = ptys L → RdP w A2 L2 → Ret Tryz.prog 8 [hv36 t la A2 L2 c2].toArray w (Out w (.bool (validHal ⟨t, la, ptys L⟩))) := fun A2 L2 c2 w hp h => by
    have := valid_spec t la A2 L2 c2 w (szP_of hp hz) h
    rwa [hp] at this
  unfold nextH
  generalize doR ⟨t, la, ptys L⟩ kind p q = r at hR hszD hO2 ⊢
  generalize (ofP t la L p).isSome = zb at hG hT2
  generalize (ofP t la L p).getD Flat.dflt = z at hG hT2 hzr hzs
  generalize shareM ⟨t, la, ptys L⟩ q p = sh at hG2 hS2 hslen
  generalize validHal ⟨t, la, ptys L⟩ = vb at hV1 hV2
  obtain ⟨⟨rt, rl, rp⟩, re⟩ := r
  obtain ⟨sl, se⟩ := sh
  obtain ⟨⟨zi, zl, zm, zv⟩, zA, zca, zB, zcb⟩ := z
  unfold OutH RefC FreshE at *
  simp only at hR hszD hO2 hG2 hS2 hslen hT2 hzr hzs ⊢
  rw [show Flat.enc (⟨⟨zi, zl, zm, zv⟩, zA, zca, zB, zcb⟩ : PtyP) = [.int .i64 zi, .int .i64 zl, .slice zA zm.length zca, .slice zB zv.length zcb] from rfl] at hG
  refine enterH Tryz.func10 rfl rfl Tryz.ntmps10 rfl (by assumption) ?_
  (repeat' (first | (show VH _ _ _ _ _ _ _; first | refine v_seq ?_ | refine r_seq ?_) | (show SH _ _ _ _ _ (_ :: _) _ _ _; first | (show SH _ _ _ _ _ (⟨_, .assign _, _, _, _, _⟩ :: _) _ _ _; refine asg evL ?_) | (show SH _ _ _ _ _ (⟨_, .load _ _, _, _, _, _⟩ :: _) _ _ _; refine lba rfl spL (by rfl) ?_) | (show SH _ _ _ _ _ (⟨_, .call ⟨.value (.func 30), _, _⟩, _, _, _, _⟩ :: _) _ _ _; refine cp (callee := .func 30) rfl (fun w hw => hT w (hΦ _ (hw.kn spL))) rfl rfl ?_) | refine ala rfl (fun b => ?_) | (show SH _ _ _ _ _ (⟨_, .box _ _, _, _, _, _⟩ :: _) _ _ _; refine bxx rfl evL rfl (fun b => ?_))) | refine s_nil ?_ | refine kh_normal ?_))
  rintro _ _ ⟨A2, c2, L2, hp2, rfl, rfl⟩
  rename_i b1 b2
  revert b
  intro b3
  (repeat' (first | (show VH _ _ _ _ _ _ _; first | refine v_seq ?_ | refine r_seq ?_) | (show SH _ _ _ _ _ (_ :: _) _ _ _; first | (show SH _ _ _ _ _ (⟨_, .load _ _, _, _, _, _⟩ :: _) _ _ _; refine lba rfl spL (by rfl) ?_) | (show SH _ _ _ _ _ (⟨_, .call ⟨.value (.func 13), _, _⟩, _, _, _, _⟩ :: _) _ _ _; refine cp (callee := .func 13) rfl (fun w hw => hO2 A2 L2 c2 w hp2 (Wd.kp hw spL)) rfl rfl ?_) | refine ala rfl (fun b => ?_) | (show SH _ _ _ _ _ (⟨_, .store _ _ _, _, _, _, _⟩ :: _) _ _ _; refine sta rfl rfl rfl spL (by rfl) (by rfl) (by rfl) kpL ?_)) | refine s_nil ?_ | refine kh_normal ?_))
  rintro _ _ ⟨A3, c3, L3, hp3, rfl, rfl⟩
  revert b
  intro b6
  (repeat' (first | (show VH _ _ _ _ _ _ _; first | refine v_seq ?_ | refine r_seq ?_) | (show SH _ _ _ _ _ (_ :: _) _ _ _; first | (show SH _ _ _ _ _ (⟨_, .move _, _, _, _, _⟩ :: _) _ _ _; refine mov evL ?_) | (show SH _ _ _ _ _ (⟨_, .assign _, _, _, _, _⟩ :: _) _ _ _; refine asg evL ?_) | (show SH _ _ _ _ _ (⟨_, .load _ _, _, _, _, _⟩ :: _) _ _ _; refine lba rfl spL (by rfl) ?_) | refine extr rfl rfl ?_ | refine ala rfl (fun b => ?_) | (show SH _ _ _ _ _ (⟨_, .store _ _ _, _, _, _, _⟩ :: _) _ _ _; refine sta rfl rfl rfl spL (by rfl) (by rfl) (by rfl) kpL ?_)) | refine s_nil ?_ | refine kh_normal ?_))
  revert b
  intro b7
  refine cm rfl (fun w hw => hR w0 (bx b7 24 [.int .i64 rt, .int .i64 rl, .slice A3 L3.length c3] :: orow 46 A3 c3 L3 :: allH (L3.map rowM) :: allH (L3.map rowI) :: bx b6 24 [.int .i64 t, .int .i64 la, .slice A2 L2.length c2] :: knp A2 L2 :: bx b1 30 [.int .i64 t, .int .i64 la, .slice A L.length c] :: bx b2 36 [.int .i64 kind, .int .i64 p, .int .i64 q] :: bx b3 30 [.int .i64 0, .int .i64 0, .slice none 0 0] :: H) w (Ent.wd enL hw)) rfl rfl ?_
  rintro _ _ ⟨A4, c4, L4, hp4, hc4, rfl, rfl⟩
  refine ⟨enL, ?_⟩
  obtain ⟨Ψ, hΨ⟩ : ∃ Ψ : World → Prop, (fun w => Φ w ∧ RdP w A4 L4) = Ψ := ⟨_, rfl⟩
  rw [hΨ]
  have hΨ2 : ∀ w, Ψ w → Φ w ∧ RdP w A4 L4 := fun w h => by rw [← hΨ] at h; exact h
  clear hΨ
  have hΨL : ∀ w, Ψ w → RdP w A L := fun w h => hΦ w (hΨ2 w h).1
  (repeat' (first | (show VH _ _ _ _ _ _ _; first | refine v_seq ?_ | refine r_seq ?_) | (show SH _ _ _ _ _ (_ :: _) _ _ _; first | (show SH _ _ _ _ _ (⟨_, .move _, _, _, _, _⟩ :: _) _ _ _; refine mov evL ?_) | (show SH _ _ _ _ _ (⟨_, .assign _, _, _, _, _⟩ :: _) _ _ _; refine asg evL ?_) | (show SH _ _ _ _ _ (⟨_, .load _ _, _, _, _, _⟩ :: _) _ _ _; first | refine lbx rfl spL (by rfl) ?_ | refine lba rfl spL (by rfl) ?_) | (show SH _ _ _ _ _ (⟨_, .call ⟨.value (.func 16), _, _⟩, _, _, _, _⟩ :: _) _ _ _; refine cp (callee := .func 16) rfl (fun w hw => hT2 A2 L2 c2 w hp2 (Wd.kp hw spL)) rfl rfl ?_) | refine extr rfl rfl ?_ | refine fad rfl ?_ | refine ala rfl (fun b => ?_) | (show SH _ _ _ _ _ (⟨_, .store _ _ _, _, _, _, _⟩ :: _) _ _ _; refine sta rfl rfl rfl spL (by rfl) (by rfl) (by rfl) kpL ?_)) | refine s_nil ?_ | refine kh_normal ?_))
  rintro _ _ ⟨⟨⟨yi, yl, ym, yv⟩, yA, yca, yB, ycb⟩, hy, rfl, rfl⟩
  rw [show Flat.enc (⟨⟨yi, yl, ym, yv⟩, yA, yca, yB, ycb⟩ : PtyP) = [.int .i64 yi, .int .i64 yl, .slice yA ym.length yca, .slice yB yv.length ycb] from rfl]
  unfold rowM rowI
  simp only at hy ⊢
  revert b
  intro b9
  (repeat' (first | (show VH _ _ _ _ _ _ _; first | refine v_seq ?_ | refine r_seq ?_) | (show SH _ _ _ _ _ (_ :: _) _ _ _; first | (show SH _ _ _ _ _ (⟨_, .move _, _, _, _, _⟩ :: _) _ _ _; refine mov evL ?_) | (show SH _ _ _ _ _ (⟨_, .assign _, _, _, _, _⟩ :: _) _ _ _; refine asg evL ?_) | (show SH _ _ _ _ _ (⟨_, .load _ _, _, _, _, _⟩ :: _) _ _ _; first | refine lbx rfl spL (by rfl) ?_ | refine lba rfl spL (by rfl) ?_) | (show SH _ _ _ _ _ (⟨_, .call ⟨.value (.func 32), _, _⟩, _, _, _, _⟩ :: _) _ _ _; refine cl (callee := .func 32) rfl (fun w hw => hG w (hΨL w (hw.kn spL))) rfl rfl ?_) | (show SH _ _ _ _ _ (⟨_, .call ⟨.value (.func 20), _, _⟩, _, _, _, _⟩ :: _) _ _ _; refine cp (callee := .func 20) rfl (fun w hw => hS2 A2 L2 c2 w hp2 (Wd.kp hw spL)) rfl rfl ?_) | refine extr rfl rfl ?_ | refine fad rfl ?_ | refine ala rfl (fun b => ?_) | (show SH _ _ _ _ _ (⟨_, .store _ _ _, _, _, _, _⟩ :: _) _ _ _; refine sta rfl rfl rfl spL (by rfl) (by rfl) (by rfl) kpL ?_)) | refine s_nil ?_ | refine kh_normal ?_))
  rintro _ _ ⟨A5, c5, rfl, rfl⟩
  rename_i b11
  revert b
  intro b13
  (repeat' (first | (show VH _ _ _ _ _ _ _; first | refine v_seq ?_ | refine r_seq ?_) | (show SH _ _ _ _ _ (_ :: _) _ _ _; first | (show SH _ _ _ _ _ (⟨_, .move _, _, _, _, _⟩ :: _) _ _ _; refine mov evL ?_) | (show SH _ _ _ _ _ (⟨_, .assign _, _, _, _, _⟩ :: _) _ _ _; refine asg evL ?_) | (show SH _ _ _ _ _ (⟨_, .load _ _, _, _, _, _⟩ :: _) _ _ _; first | refine lbx rfl spL (by rfl) ?_ | refine lba rfl spL (by rfl) ?_) | (show SH _ _ _ _ _ (⟨_, .call ⟨.value (.func 33), _, _⟩, _, _, _, _⟩ :: _) _ _ _; refine cp (callee := .func 33) rfl (fun w hw => hG2 w (hΨL w (hw.kn spL))) rfl rfl ?_) | refine extr rfl rfl ?_ | refine fad rfl ?_) | refine s_nil ?_ | refine kh_normal ?_))
  rintro _ _ ⟨A6, c6, rfl, rfl⟩
  (repeat' ((fail_if_success (show VH _ _ (.seq (.region 8 _ _) _) _ _ _ _)); first | refine v_seq ?_ | (show SH _ _ _ _ _ (_ :: _) _ _ _; first | (show SH _ _ _ _ _ (⟨_, .move _, _, _, _, _⟩ :: _) _ _ _; refine mov evL ?_) | (show SH _ _ _ _ _ (⟨_, .assign _, _, _, _, _⟩ :: _) _ _ _; refine asg evL ?_) | refine extr rfl rfl ?_) | refine s_nil ?_ | refine kh_normal ?_))
  injection hy with e1 e2 e3 e4
  subst e1 e2 e3 e4
  have hz2 := szP_of hp2 hz
  have hz3 := hszD L3 hp3
  have hl3 := hz3.len
  have hz4 := hszD L4 hp4
  have hT4 := fun w h => takenK_spec rt rl A4 L4 c4 w hz4 h
  have hTP := fun w a b => takenParty_spec (⟨⟨yi, yl, ym, yv⟩, zA, zca, zB, zcb⟩ : PtyP) w hzs.1 hzs.2 a b
  clear hR hG hG2 hT2 hO2 hS2 hszD
  refine VH.ent (G := orow 3 A6 c6 sl :: orow 3 A5 c5 sl :: bx b13 43 [.int .i64 yi, .int .i64 yl, .slice zA ym.length zca, .slice zB yv.length zcb] :: bx b11 46 [.int .i64 yi, .int .i64 yl, .slice yA ym.length yca, .slice yB yv.length ycb] :: orow 3 yA yca ym :: orow 61 yB ycb yv :: kno Ψ :: bx b9 30 [.int .i64 rt, .int .i64 rl, .slice A4 L4.length c4] :: bx b7 24 [.int .i64 rt, .int .i64 rl, .slice A3 L3.length c3] :: orow 46 A3 c3 L3 :: allH (L3.map rowM) :: allH (L3.map rowI) :: bx b6 24 [.int .i64 t, .int .i64 la, .slice A2 L2.length c2] :: knp A2 L2 :: bx b1 30 [.int .i64 t, .int .i64 la, .slice A L.length c] :: bx b3 30 [.int .i64 0, .int .i64 0, .slice none 0 0] :: H) ?_ enL
  refine v_norm [(2,_),(4,_),(6,_),(7,_),(8,_),(9,_),(10,_),(11,_),(12,_),(13,_),(14,_),(15,_),(16,_),(17,_),(18,_)] heL (fun g => ?_)
  refine v_seq ?_
  refine r_heldT [bx b11 46 [.int .i64 yi, .int .i64 yl, .slice yA ym.length yca, .slice yB yv.length ycb], bx b7 24 [.int .i64 rt, .int .i64 rl, .slice A3 L3.length c3], bx b6 24 [.int .i64 t, .int .i64 la, .slice A2 L2.length c2], bx b1 30 [.int .i64 t, .int .i64 la, .slice A L.length c]] (tr [(0, true), (1, false), (2, false), (3, false), (4, true), (5, false), (6, false), (7, false), (8, false), (9, false), (10, false), (11, true), (12, false), (13, false), (14, false), (15, false), (16, true), (17, false), (18, false), (19, false), (20, false), (21, false), (22, false), (23, true), (24, false), (25, false), (26, false), (27, false), (28, true), (29, false), (30, false), (31, false), (32, false), (33, false), (34, true), (36, true), (35, false), (37, false), (38, false), (39, false)] .nil) hmix (by kernel_rfl) enL ?_
  (repeat' ((show SH _ _ _ _ _ (_ :: _) _ _ _; first | (show SH _ _ _ _ _ (⟨_, _, _, _, _, some _⟩ :: _) _ _ _; (refine gif rfl rfl ?_; refine giFF tbL ?_)) | (show SH _ _ _ _ _ (⟨_, .move _, _, _, _, _⟩ :: _) _ _ _; refine mov evL ?_) | (show SH _ _ _ _ _ (⟨_, .binOp .neq _ _ _ _, _, _, _, _⟩ :: _) _ _ _; refine neqF rfl rfl omD ?_) | (show SH _ _ _ _ _ (⟨_, .load _ _, _, _, _, _⟩ :: _) _ _ _; refine lba rfl spL (by rfl) ?_) | (show SH _ _ _ _ _ (⟨_, .call ⟨.value (.func 30), _, _⟩, _, _, _, _⟩ :: _) _ _ _; refine cp (callee := .func 30) rfl (fun w hw => hT4 w (hΨ2 w (hw.kn spL)).2) rfl rfl ?_))))
  rintro _ _ ⟨A7, c7, L7, hp7, rfl, rfl⟩
  have hz7 := szP_of hp7 hz4
  have hSm := fun w a b => same36_spec rt rl rt rl A3 A7 L3 L7 c3 c7 w hz3 hz7 a b
  rw [hp3, hp7, hp4] at hSm
  simp only [decide_true] at hSm
  (repeat' (first | (show VH _ _ _ _ _ _ _; first | refine v_seq ?_ | refine r_seq ?_ | refine v_ret ?_ | refine v_cond_t rfl tbL ?_) | (show SH _ _ _ _ _ (_ :: _) _ _ _; first | (show SH _ _ _ _ _ (⟨_, _, _, _, _, some _⟩ :: _) _ _ _; (refine gif rfl rfl ?_; first | refine giFF tbL ?_ | refine giFT tbL ?_ | refine giF (fun h => ?_) (fun h => ?_))) | (show SH _ _ _ _ _ (⟨_, .move _, _, _, _, _⟩ :: _) _ _ _; refine mov evL ?_) | (show SH _ _ _ _ _ (⟨_, .assign _, _, _, _, _⟩ :: _) _ _ _; refine asg evL ?_) | refine neb rfl rfl ?_ | (show SH _ _ _ _ _ (⟨_, .load _ _, _, _, _, _⟩ :: _) _ _ _; refine lba rfl spL (by rfl) ?_) | (show SH _ _ _ _ _ (⟨_, .call ⟨.value (.func 34), _, _⟩, _, _, _, _⟩ :: _) _ _ _; refine cl (callee := .func 34) rfl (fun w hw => hSm w (rows_rd enL hw) (Wd.kp hw spL)) rfl rfl ?_) | (show SH _ _ _ _ _ (⟨_, .call ⟨.value (.func 36), _, _⟩, _, _, _, _⟩ :: _) _ _ _; refine cp (callee := .func 36) rfl (fun w hw => hTP w (hzr w (hΨL w (hw.kn spL))).1 (hzr w (hΨL w (hw.kn spL))).2) rfl rfl ?_) | refine bnoT rfl ?_ | (show SH _ _ _ _ _ (⟨_, .pick _ _ _, _, _, _, _⟩ :: _) _ _ _; first | refine pkt rfl tbL evL ?_ | refine pkf rfl tbL evL ?_) | (show SH _ _ _ _ _ (⟨_, .store _ _ _, _, _, _, _⟩ :: _) _ _ _; refine sta rfl rfl rfl spL (by rfl) (by rfl) (by rfl) kpL ?_)) | refine s_nil ?_ | refine kh_normal ?_ | refine kh_ret ?_))
  rotate_left
  · exact absurd h (by cases zb <;> decide)
  rintro _ _ ⟨⟨⟨ui, ul, um, uv⟩, uA, uca, uB, ucb⟩, hu, rfl, rfl⟩
  simp only at hu
  injection hu with e1 e2 e3 e4
  subst e1 e2 e3 e4
  rw [show Flat.enc (⟨⟨ui, ul, um, uv⟩, uA, uca, uB, ucb⟩ : PtyP) = [.int .i64 ui, .int .i64 ul, .slice uA um.length uca, .slice uB uv.length ucb] from rfl]
  unfold rowM rowI
  simp only
  have hSp := fun w a b c d => sameParty_spec (⟨⟨ui, ul, um, uv⟩, yA, yca, yB, ycb⟩ : PtyP) (⟨⟨ui, ul, um, uv⟩, uA, uca, uB, ucb⟩ : PtyP) w (by simp only; omega) (by simp only; omega) (by simp only; omega) (by simp only; omega) a b c d
  simp only [decide_true] at hSp
  rw [show Flat.enc (⟨⟨ui, ul, um, uv⟩, yA, yca, yB, ycb⟩ : PtyP) = [.int .i64 ui, .int .i64 ul, .slice yA um.length yca, .slice yB uv.length ycb] from rfl, show Flat.enc (⟨⟨ui, ul, um, uv⟩, uA, uca, uB, ucb⟩ : PtyP) = [.int .i64 ui, .int .i64 ul, .slice uA um.length uca, .slice uB uv.length ucb] from rfl] at hSp
  have hSi := fun w a b => sameInts_spec A5 A6 sl sl c5 c6 w (by omega) (by omega) a b
  simp only [decide_true] at hSi
  clear hSm
  (repeat' (first | (show VH _ _ _ _ _ _ _; first | refine v_seq ?_ | refine r_seq ?_ | refine v_ret ?_ | refine v_skip ?_ | refine v_cond_ndec rfl (fun h => ?_) (fun h => ?_)) | (show SH _ _ _ _ _ (_ :: _) _ _ _; first | (show SH _ _ _ _ _ (⟨_, _, _, _, _, some _⟩ :: _) _ _ _; (refine gif rfl rfl ?_; refine giFF tbL ?_)) | (show SH _ _ _ _ _ (⟨_, .move _, _, _, _, _⟩ :: _) _ _ _; refine mov evL ?_) | (show SH _ _ _ _ _ (⟨_, .assign _, _, _, _, _⟩ :: _) _ _ _; refine asg evL ?_) | (show SH _ _ _ _ _ (⟨_, .binOp .neq _ _ _ _, _, _, _, _⟩ :: _) _ _ _; first | refine neqF rfl rfl omD ?_ | refine neb rfl rfl ?_) | (show SH _ _ _ _ _ (⟨_, .load _ _, _, _, _, _⟩ :: _) _ _ _; refine lba rfl spL (by rfl) ?_) | (show SH _ _ _ _ _ (⟨_, .call ⟨.value (.func 35), _, _⟩, _, _, _, _⟩ :: _) _ _ _; refine cl (callee := .func 35) rfl (fun w hw => hSp w (Wd.rd hw spL) (Wd.rd hw spL) (Wd.rd hw spL) (Wd.rd hw spL)) rfl rfl ?_) | (show SH _ _ _ _ _ (⟨_, .call ⟨.value (.func 21), _, _⟩, _, _, _, _⟩ :: _) _ _ _; refine cl (callee := .func 21) rfl (fun w hw => hSi w (Wd.rd hw spL) (Wd.rd hw spL)) rfl rfl ?_) | (show SH _ _ _ _ _ (⟨_, .call ⟨.value (.func 8), _, _⟩, _, _, _, _⟩ :: _) _ _ _; refine cl (callee := .func 8) rfl (fun w hw => hV1 A2 L2 c2 w hp2 (Wd.kp hw spL)) rfl rfl ?_) | (show SH _ _ _ _ _ (⟨_, .call ⟨.value (.func 9), _, _⟩, _, _, _, _⟩ :: _) _ _ _; refine cl (callee := .func 9) rfl (fun w hw => hV2 w (hΨL w (hw.kn spL))) rfl rfl ?_) | refine bnoT rfl ?_ | (show SH _ _ _ _ _ (⟨_, .pick _ _ _, _, _, _, _⟩ :: _) _ _ _; refine pkf rfl tbL evL ?_) | (show SH _ _ _ _ _ (⟨_, .store _ _ _, _, _, _, _⟩ :: _) _ _ _; refine sta rfl rfl rfl spL (by rfl) (by rfl) (by rfl) kpL ?_)) | refine s_nil ?_ | refine kh_normal ?_ | refine kh_ret ?_))
  · exact absurd h (by cases vb <;> decide)
  refine cm rfl (fun w hw => over_spec b11 0 46 [.int .i64 ui, .int .i64 ul, .slice yA um.length yca, .slice yB uv.length ycb] yA um yca yB uv ycb w0 (kno Ψ :: bx b9 30 [.int .i64 rt, .int .i64 rl, .slice A4 L4.length c4] :: bx b7 24 [.int .i64 rt, .int .i64 rl, .slice A3 L3.length c3] :: orow 46 A3 c3 L3 :: allH (L3.map rowM) :: allH (L3.map rowI) :: bx b6 24 [.int .i64 t, .int .i64 la, .slice A2 L2.length c2] :: knp A2 L2 :: bx b1 30 [.int .i64 t, .int .i64 la, .slice A L.length c] :: bx b3 30 [.int .i64 0, .int .i64 0, .slice none 0 0] :: H) w (by show 0 + 3 < 4; omega) rfl rfl hzs.1 hzs.2 (Ent.wd enL hw)) rfl rfl ?_
  rintro _ _ rfl
  refine ⟨enL, ?_⟩
  (repeat' (first | (show VH _ _ _ _ _ _ _; first | refine v_seq ?_ | refine r_seq ?_) | (show SH _ _ _ _ _ (_ :: _) _ _ _; (show SH _ _ _ _ _ (⟨_, .assign _, _, _, _, _⟩ :: _) _ _ _; refine asg evL ?_)) | refine s_nil ?_ | refine kh_normal ?_))
  refine v_cut [(19, 19), (108, 119)] (fun _ : Unit => []) (fun _ => kno Ψ :: bx b9 30 [.int .i64 rt, .int .i64 rl, .slice A4 L4.length c4] :: bx b6 24 [.int .i64 t, .int .i64 la, .slice A2 L2.length c2] :: knp A2 L2 :: bx b1 30 [.int .i64 t, .int .i64 la, .slice A L.length c] :: bx b3 30 [.int .i64 0, .int .i64 0, .slice none 0 0] :: H) (fun _ => True) ?_ ?_ ent_vh
  · (repeat' (refine v_block ?_))
    clear hSp hSi hTP hT4 hV1 hV2 hzr
    refine VH.ent (G := orow 46 A3 c3 L3 :: allH (L3.map rowM) :: allH (L3.map rowI) :: bx b7 24 [.int .i64 rt, .int .i64 rl, .slice A3 L3.length c3] :: kno Ψ :: bx b9 30 [.int .i64 rt, .int .i64 rl, .slice A4 L4.length c4] :: bx b6 24 [.int .i64 t, .int .i64 la, .slice A2 L2.length c2] :: knp A2 L2 :: bx b1 30 [.int .i64 t, .int .i64 la, .slice A L.length c] :: bx b3 30 [.int .i64 0, .int .i64 0, .slice none 0 0] :: H) ?_ enL
    refine v_row Split.head (fun hl0 => ?_) (fun g0 cs hA hcl hlc hcs => ?_)
    · refine v_loop [(19,19),(108,119)] (fun s : Nat => [(19, .int .i64 s)]) (fun s => bx b7 24 [.int .i64 rt, .int .i64 rl, .slice A3 L3.length c3] :: kno Ψ :: bx b9 30 [.int .i64 rt, .int .i64 rl, .slice A4 L4.length c4] :: bx b6 24 [.int .i64 t, .int .i64 la, .slice A2 L2.length c2] :: knp A2 L2 :: bx b1 30 [.int .i64 t, .int .i64 la, .slice A L.length c] :: bx b3 30 [.int .i64 0, .int .i64 0, .slice none 0 0] :: H) (fun s => s = 0) (fun s => 0) 0 hsL enL rfl ?_
      rintro k g2 rfl
      simp only [sets]
      (repeat' (first | (show VH _ _ _ _ _ _ _; first | refine v_seq ?_ | refine r_seq ?_ | refine v_exit ?_ | refine v_cond_f rfl tbL ?_) | (show SH _ _ _ _ _ (_ :: _) _ _ _; first | (show SH _ _ _ _ _ (⟨_, .move _, _, _, _, _⟩ :: _) _ _ _; refine mov evL ?_) | (show SH _ _ _ _ _ (⟨_, .binOp .lss _ _ _ _, _, _, _, _⟩ :: _) _ _ _; refine lssF rfl rfl omD ?_) | (show SH _ _ _ _ _ (⟨_, .load _ _, _, _, _, _⟩ :: _) _ _ _; refine lbx rfl spL (by rfl) ?_) | refine slen rfl ?_ | refine fad rfl ?_) | refine s_nil ?_ | refine kh_normal ?_ | refine kh_exit ?_ | refine bh_exit ?_))
      exact ⟨agL, (), trivial, enL, trivial⟩
    · subst hA
      rw [show Flat.sz PtyP = 4 from rfl] at hcl hcs
      have hce := row_cells hcs
      refine v_loop [(19,19),(108,119)] (fun s : Nat × List Value => [(19, .int .i64 s.1)]) (fun s => bx g0 46 s.2 :: allH ((L3.drop s.1).map rowM) :: allH ((L3.drop s.1).map rowI) :: bx b7 24 [.int .i64 rt, .int .i64 rl, .slice (some ⟨g0, 0, none⟩) L3.length c3] :: kno Ψ :: bx b9 30 [.int .i64 rt, .int .i64 rl, .slice A4 L4.length c4] :: bx b6 24 [.int .i64 t, .int .i64 la, .slice A2 L2.length c2] :: knp A2 L2 :: bx b1 30 [.int .i64 t, .int .i64 la, .slice A L.length c] :: bx b3 30 [.int .i64 0, .int .i64 0, .slice none 0 0] :: H) (fun s => s.1 ≤ L3.length ∧ s.2.length = cs.length ∧ ∀ j, s.1 ≤ j → j < L3.length → ∀ r, r < 4 → s.2[j * 4 + r]? = (Flat.enc (L3.getD j Flat.dflt))[r]?) (fun s => L3.length - s.1) (0, cs) hsL (ent_refl _) ⟨Nat.zero_le _, rfl, fun j _ => hce j⟩ ?_
      rintro ⟨i, l2⟩ g2 ⟨hi, hl2, hc2⟩
      simp only at hi hl2 hc2
      simp only [sets]
      by_cases hil : i < L3.length
      · have hx2 := hc2 i (Nat.le_refl _) hil 2 (by omega)
        have hx3 := hc2 i (Nat.le_refl _) hil 3 (by omega)
        have hxm := hz3.atm hil
        have hxv := hz3.ati hil
        rw [drop_cons (d := (Flat.dflt : PtyP)) hil]
        generalize L3.getD i Flat.dflt = x at hx2 hx3 hxm hxv ⊢
        rw [List.map_cons, List.map_cons]
        refine VH.ent ?_ ent_two
        obtain ⟨⟨xi, xl, xm, xv⟩, xA, xca, xB, xcb⟩ := x
        rw [show rowM ⟨⟨xi, xl, xm, xv⟩, xA, xca, xB, xcb⟩ = orow 3 xA xca xm from rfl, show rowI ⟨⟨xi, xl, xm, xv⟩, xA, xca, xB, xcb⟩ = orow 61 xB xcb xv from rfl]
        (repeat' (first | (show VH _ _ _ _ _ _ _; first | refine v_seq ?_ | refine r_seq ?_ | refine v_block ?_ | refine v_skip ?_ | refine v_cond_t rfl tbL ?_) | (show SH _ _ _ _ _ (_ :: _) _ _ _; first | (show SH _ _ _ _ _ (⟨_, .move _, _, _, _, _⟩ :: _) _ _ _; refine mov evL ?_) | (show SH _ _ _ _ _ (⟨_, .binOp .lss _ _ _ _, _, _, _, _⟩ :: _) _ _ _; refine lssT rfl rfl omD ?_) | (show SH _ _ _ _ _ (⟨_, .load _ _, _, _, _, _⟩ :: _) _ _ _; refine lbx rfl spL (by rfl) ?_) | refine slen rfl ?_ | refine fad rfl ?_) | refine s_nil ?_ | refine kh_normal ?_))
        refine ixj (i := i) rfl rfl rfl (by omega) ?_
        (repeat' (first | (show VH _ _ _ _ _ _ _; first | refine v_seq ?_ | refine r_seq ?_ | refine r_quiet hmix (by kernel_rfl) ?_ | refine v_block ?_ | refine v_ret ?_ | refine v_skip ?_ | refine v_exit ?_ | refine v_label ?_ | refine v_cond_t rfl tbL ?_ | refine v_cond_f rfl tbL ?_ | refine v_cond_dec rfl (fun h => ?_) (fun h => ?_) | refine v_cond_ndec rfl (fun h => ?_) (fun h => ?_) | refine v_cond rfl (fun h => ?_) (fun h => ?_)) | (show SH _ _ _ _ _ (_ :: _) _ _ _; first | (show SH _ _ _ _ _ (⟨_, _, _, _, _, some _⟩ :: _) _ _ _; first | (refine gif rfl rfl ?_; first | refine giTT tbL ?_ | refine giTF tbL ?_ | refine giFF tbL ?_ | refine giFT tbL ?_ | refine giTd (fun h => ?_) (fun h => ?_) | refine giFd (fun h => ?_) (fun h => ?_) | refine giT (fun h => ?_) (fun h => ?_) | refine giF (fun h => ?_) (fun h => ?_)) | refine gu rfl rfl ?_ | refine grT rfl rfl tbL ?_ | refine grF rfl rfl tbL ?_) | (show SH _ _ _ _ _ (⟨_, .move _, _, _, _, _⟩ :: _) _ _ _; refine mov evL ?_) | (show SH _ _ _ _ _ (⟨_, .assign _, _, _, _, _⟩ :: _) _ _ _; refine asg evL ?_) | (show SH _ _ _ _ _ (⟨_, .binOp .lss _ _ _ _, _, _, _, _⟩ :: _) _ _ _; first | refine lssT rfl rfl omD ?_ | refine lssF rfl rfl omD ?_ | refine lss rfl rfl ?_) | (show SH _ _ _ _ _ (⟨_, .binOp .neq _ _ _ _, _, _, _, _⟩ :: _) _ _ _; first | refine neqT rfl rfl omD ?_ | refine neqF rfl rfl omD ?_ | refine neq rfl rfl ?_ | refine nen rfl rfl ?_ | refine neb rfl rfl ?_) | (show SH _ _ _ _ _ (⟨_, .binOp .add _ _ _ _, _, _, _, _⟩ :: _) _ _ _; refine add rfl rfl inL ?_) | (show SH _ _ _ _ _ (⟨_, .load _ _, _, _, _, _⟩ :: _) _ _ _; first | refine lbx rfl spL (by rfl) ?_ | refine lba rfl spL (by rfl) ?_ | refine lbs rfl spL (by rfl) (by rfl) ?_ | refine lgi rfl (fun _ _ => rdK) omL (by assumption) ?_ | refine lag rfl (fun _ _ => rdK) (by rfl) omL (by assumption) ?_ | refine lrg rfl (fun _ _ => rdK) (by rfl) omL (by assumption) (by rfl) ?_ | refine lin rfl (fun _ _ => rdK) omL ?_ | refine lbi rfl spL omL ?_ | refine lr1 rfl (fun _ _ => rdK) (by rfl) omL (by rfl) ?_ | refine lra rfl (fun _ _ => rdK) (by rfl) omL ?_ | refine lrf rfl (fun _ _ => rdK) (by rfl) omL (by rfl) ?_ | refine lcell rfl (fun w hw => hw.ext.cell (by assumption)) ?_ | refine lrs rfl (fun _ _ => rdK) (by rfl) omL (by rfl) (by rfl) ?_ | refine lca rfl (fun _ _ => rdK) (by rfl) ?_ | refine lcs rfl (fun _ _ => rdK) (by rfl) ?_ | refine lcf rfl (fun _ _ => rdK) (by rfl) ?_ | refine lrf rfl (fun _ _ => rdK) (by rfl) (by simp only [List.length_cons, List.length_nil]; omega) (by rfl) ?_ | refine lra rfl (fun _ _ => rdK) (by rfl) (by simp only [List.length_cons, List.length_nil]; omega) ?_) | (show SH _ _ _ _ _ (⟨_, .indexAddr _ _ _, _, _, _, _⟩ :: _) _ _ _; first | refine ix rfl rfl (by with_reducible rfl) (fun _ _ => rdK) (by rfl) omL omL ?_ | refine ixi rfl rfl (fun _ _ => rdK) (by rfl) omL omL omL ?_ | refine ixb rfl rfl omL ?_ | refine ixq rfl rfl (by assumption) omL omL ?_ | refine ixA _ rfl rfl rfl omL ?_ | refine ixi rfl rfl (fun _ _ => rdK) (by rfl) omL (by first | omega | (simp only [List.length_cons, List.length_nil]; omega)) (by simp only [List.length_cons, List.length_nil]; omega) ?_) | (show SH _ _ _ _ _ (⟨_, .call ⟨.builtin _, _, _⟩, _, _, _, _⟩ :: _) _ _ _; first | refine slen rfl ?_ | refine lnm rfl spL ?_) | (show SH _ _ _ _ _ (⟨_, .unOp .not _ _, _, _, _, _⟩ :: _) _ _ _; first | refine bnoT rfl ?_ | refine bnoF rfl ?_ | refine bnot rfl ?_) | (show SH _ _ _ _ _ (⟨_, .pick _ _ _, _, _, _, _⟩ :: _) _ _ _; first | refine pkt rfl tbL evL ?_ | refine pkf rfl tbL evL ?_) | refine extr rfl rfl ?_ | refine fad rfl ?_ | (show SH _ _ _ _ _ (⟨_, .alloc _, _, _, _, _⟩ :: _) _ _ _; first | refine al1 rfl (fun b => ?_) | refine ala rfl (fun b => ?_)) | (show SH _ _ _ _ _ (⟨_, .box _ _, _, _, _, _⟩ :: _) _ _ _; refine bxx rfl evL rfl (fun b => ?_)) | (show SH _ _ _ _ _ (⟨_, .store _ _ _, _, _, _, _⟩ :: _) _ _ _; first | refine stb rfl rfl evL spL rfl rfl (by first | decide | exact Nat.zero_lt_succ _ | exact of_decide_eq_true rfl) kpL ?_ | refine sta rfl rfl rfl spL (by rfl) (by rfl) (by rfl) kpL ?_ | refine sti rfl rfl rfl spL omL kpL ?_ | refine sbi rfl rfl rfl spL omL kpL ?_ | refine sbs rfl rfl evL spL (by rfl) (by rfl) (of_decide_eq_true rfl) kpL ?_)) | refine s_nil ?_ | refine s_fork ?_ ?_ | refine s_fork3 ?_ ?_ ?_ | refine s_fork4 ?_ ?_ ?_ ?_ | refine kh_normal ?_ | refine kh_ret ?_ | refine kh_exit ?_ | refine bh_normal ?_ | refine bh_ret ?_ | refine bh_exit ?_ | refine bh_exit_ne rfl ?_))
        refine cm rfl (fun w hw => over_spec g0 (0 + i * 4) 46 l2 xA xm xca xB xv xcb w0 (allH ((L3.drop (i + 1)).map rowM) :: allH ((L3.drop (i + 1)).map rowI) :: bx b7 24 [.int .i64 rt, .int .i64 rl, .slice (some ⟨g0, 0, none⟩) L3.length c3] :: kno Ψ :: bx b9 30 [.int .i64 rt, .int .i64 rl, .slice A4 L4.length c4] :: bx b6 24 [.int .i64 t, .int .i64 la, .slice A2 L2.length c2] :: knp A2 L2 :: bx b1 30 [.int .i64 t, .int .i64 la, .slice A L.length c] :: bx b3 30 [.int .i64 0, .int .i64 0, .slice none 0 0] :: H) w (by omega) (by rw [Nat.zero_add]; exact hx2) (by rw [Nat.zero_add]; exact hx3) hxm hxv (Ent.wd enL hw)) rfl rfl ?_
        rintro _ _ rfl
        refine ⟨enL, ?_⟩
        (repeat' (first | refine r_seq ?_ | (show SH _ _ _ _ _ (_ :: _) _ _ _; first | (show SH _ _ _ _ _ (⟨_, .move _, _, _, _, _⟩ :: _) _ _ _; refine mov evL ?_) | (show SH _ _ _ _ _ (⟨_, .assign _, _, _, _, _⟩ :: _) _ _ _; refine asg evL ?_) | (show SH _ _ _ _ _ (⟨_, .binOp .add _ _ _ _, _, _, _, _⟩ :: _) _ _ _; refine add rfl rfl inL ?_)) | refine s_nil ?_ | refine kh_normal ?_ | refine bh_normal ?_))
        exact ⟨agL, (i + 1, l2.set (0 + i * 4) (.int .i64 (-1))), hsL, enL, ⟨hil, by rw [List.length_set]; exact hl2, fun j h1 h2 r hr => by rw [List.getElem?_set_ne (by omega)]; exact hc2 j (by omega) h2 r hr⟩, by show _ - (i + 1) < _ - i; omega⟩
      · (repeat' (first | (show VH _ _ _ _ _ _ _; first | refine v_seq ?_ | refine r_seq ?_ | refine v_exit ?_ | refine v_cond_f rfl tbL ?_) | (show SH _ _ _ _ _ (_ :: _) _ _ _; first | (show SH _ _ _ _ _ (⟨_, .move _, _, _, _, _⟩ :: _) _ _ _; refine mov evL ?_) | (show SH _ _ _ _ _ (⟨_, .binOp .lss _ _ _ _, _, _, _, _⟩ :: _) _ _ _; refine lssF rfl rfl omD ?_) | (show SH _ _ _ _ _ (⟨_, .load _ _, _, _, _, _⟩ :: _) _ _ _; refine lbx rfl spL (by rfl) ?_) | refine slen rfl ?_ | refine fad rfl ?_) | refine s_nil ?_ | refine kh_normal ?_ | refine kh_exit ?_ | refine bh_exit ?_))
        exact ⟨agL, (), trivial, enL, trivial⟩
  rintro ⟨⟩ g1 - _ rfl
  simp only [sets]
  have hTL := fun w h => takenK_spec t la A L c w hz h
  clear hSp hSi hTP hT4 hV1 hV2 hzr hT
  by_cases he : re = 0
  · rw [if_pos he]
    (repeat' ((fail_if_success (show VH _ _ (.seq (.region 17 _ _) _) _ _ _ _)); first | (show VH _ _ _ _ _ _ _; first | refine v_seq ?_ | refine r_seq ?_ | refine v_skip ?_ | refine v_cond_f rfl tbL ?_) | (show SH _ _ _ _ _ (_ :: _) _ _ _; first | (show SH _ _ _ _ _ (⟨_, .move _, _, _, _, _⟩ :: _) _ _ _; refine mov evL ?_) | (show SH _ _ _ _ _ (⟨_, .binOp .neq _ _ _ _, _, _, _, _⟩ :: _) _ _ _; refine neqF rfl rfl omD ?_)) | refine s_nil ?_ | refine kh_normal ?_))
    refine v_seq ?_
    refine r_heldT [bx b9 30 [.int .i64 rt, .int .i64 rl, .slice A4 L4.length c4], bx b6 24 [.int .i64 t, .int .i64 la, .slice A2 L2.length c2]] (tr [(0, true), (1, true), (2, false), (3, false), (4, false), (5, false), (6, false)] .nil) hmix (by kernel_rfl) enL ?_
    (repeat' ((show SH _ _ _ _ _ (_ :: _) _ _ _; first | (show SH _ _ _ _ _ (⟨_, .load _ _, _, _, _, _⟩ :: _) _ _ _; refine lba rfl spL (by rfl) ?_) | (show SH _ _ _ _ _ (⟨_, .call ⟨.value (.func 30), _, _⟩, _, _, _, _⟩ :: _) _ _ _; refine cp (callee := .func 30) rfl (fun w hw => hTL w (hΨL w (hw.kn spL))) rfl rfl ?_))))
    rintro _ _ ⟨A8, c8, L8, hp8, rfl, rfl⟩
    have hSm := fun w a b => same36_spec t la t la A2 A8 L2 L8 c2 c8 w hz2 (szP_of hp8 hz) a b
    rw [hp2, hp8] at hSm
    simp only [decide_true] at hSm
    (repeat' (first | refine v_ret ?_ | (show SH _ _ _ _ _ (_ :: _) _ _ _; first | (show SH _ _ _ _ _ (⟨_, .assign _, _, _, _, _⟩ :: _) _ _ _; refine asg evL ?_) | (show SH _ _ _ _ _ (⟨_, .call ⟨.value (.func 34), _, _⟩, _, _, _, _⟩ :: _) _ _ _; refine cl (callee := .func 34) rfl (fun w hw => hSm w (Wd.kp hw spL) (Wd.kp hw spL)) rfl rfl ?_) | (show SH _ _ _ _ _ (⟨_, .store _ _ _, _, _, _, _⟩ :: _) _ _ _; refine sta rfl rfl rfl spL (by rfl) (by rfl) (by rfl) kpL ?_)) | refine s_nil ?_ | refine kh_normal ?_))
    exact rhC2 rfl rfl rfl rfl (fun w hw => loadVar_bx hw spL (by rfl)) ⟨A4, c4, L4, hp4, hc4, rfl, rfl⟩ (Ent.trans (B := kno Ψ :: H) enL (ent_ref_fwd hΨ2))
  · rw [if_neg he]
    (repeat' ((fail_if_success (show VH _ _ (.seq (.region 17 _ _) _) _ _ _ _)); first | (show VH _ _ _ _ _ _ _; first | refine v_seq ?_ | refine r_seq ?_ | refine v_cond_t rfl tbL ?_) | (show SH _ _ _ _ _ (_ :: _) _ _ _; first | (show SH _ _ _ _ _ (⟨_, .move _, _, _, _, _⟩ :: _) _ _ _; refine mov evL ?_) | (show SH _ _ _ _ _ (⟨_, .binOp .neq _ _ _ _, _, _, _, _⟩ :: _) _ _ _; refine neqT rfl rfl omD ?_) | (show SH _ _ _ _ _ (⟨_, .load _ _, _, _, _, _⟩ :: _) _ _ _; refine lba rfl spL (by rfl) ?_) | (show SH _ _ _ _ _ (⟨_, .store _ _ _, _, _, _, _⟩ :: _) _ _ _; refine sta rfl rfl rfl spL (by rfl) (by rfl) (by rfl) kpL ?_)) | refine s_nil ?_ | refine kh_normal ?_))
    refine v_seq ?_
    refine r_heldT [bx b9 30 [.int .i64 t, .int .i64 la, .slice A L.length c], bx b6 24 [.int .i64 t, .int .i64 la, .slice A2 L2.length c2]] (tr [(0, true), (1, true), (2, false), (3, false), (4, false), (5, false), (6, false)] .nil) hmix (by kernel_rfl) enL ?_
    (repeat' ((show SH _ _ _ _ _ (_ :: _) _ _ _; first | (show SH _ _ _ _ _ (⟨_, .load _ _, _, _, _, _⟩ :: _) _ _ _; refine lba rfl spL (by rfl) ?_) | (show SH _ _ _ _ _ (⟨_, .call ⟨.value (.func 30), _, _⟩, _, _, _, _⟩ :: _) _ _ _; refine cp (callee := .func 30) rfl (fun w hw => hTL w (hΨL w (hw.kn spL))) rfl rfl ?_))))
    rintro _ _ ⟨A8, c8, L8, hp8, rfl, rfl⟩
    have hSm := fun w a b => same36_spec t la t la A2 A8 L2 L8 c2 c8 w hz2 (szP_of hp8 hz) a b
    rw [hp2, hp8] at hSm
    simp only [decide_true] at hSm
    (repeat' (first | refine v_ret ?_ | (show SH _ _ _ _ _ (_ :: _) _ _ _; first | (show SH _ _ _ _ _ (⟨_, .assign _, _, _, _, _⟩ :: _) _ _ _; refine asg evL ?_) | (show SH _ _ _ _ _ (⟨_, .call ⟨.value (.func 34), _, _⟩, _, _, _, _⟩ :: _) _ _ _; refine cl (callee := .func 34) rfl (fun w hw => hSm w (Wd.kp hw spL) (Wd.kp hw spL)) rfl rfl ?_) | (show SH _ _ _ _ _ (⟨_, .store _ _ _, _, _, _, _⟩ :: _) _ _ _; refine sta rfl rfl rfl spL (by rfl) (by rfl) (by rfl) kpL ?_)) | refine s_nil ?_ | refine kh_normal ?_))
    exact rhC2 rfl rfl rfl rfl (fun w hw => loadVar_bx hw spL (by rfl)) ⟨A, c, L, rfl, hc, rfl, rfl⟩ (Ent.trans (B := kno Ψ :: H) enL (ent_ref_fwd fun w h => ⟨(hΨ2 w h).1, hΨL w h⟩))
end Go.Proofs.YtlfbcoohfnoacaaGreat

/- PartyTells: from the law's function. -/
namespace Go.Proofs.YtlfbcoohfnoacaaGreat
open Go.Fw Go.RowKit
theorem szP_next {t la : Int} {L : List PtyP} (hz : SzP L) {kind a b : Int} {M : List PtyP} (hp : ptys M = (nextH ⟨t, la, ptys L⟩ kind a b).ps) : SzP M := by
  unfold nextH at hp
  split at hp
  · exact szP_do hp
  · exact szP_of hp hz
end Go.Proofs.YtlfbcoohfnoacaaGreat

