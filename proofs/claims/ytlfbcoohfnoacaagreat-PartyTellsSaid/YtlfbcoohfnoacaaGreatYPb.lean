/- Rules of the walk. -/
import Derived.Test.YtlfbcoohfnoacaaGreatYTwp
import Derived.Test.YtlfbcoohfnoacaaGreatYMp
import Derived.Test.YtlfbcoohfnoacaaGreatYWz
import Derived.Test.YtlfbcoohfnoacaaGreatYPc
import Derived.Test.YtlfbcoohfnoacaaGreatYUyf
import Derived.Test.YtlfbcoohfnoacaaGreatYPa
import Derived.Test.YtlfbcoohfnoacaaGreatYUwb
import Derived.Test.YtlfbcoohfnoacaaGreatYVj
set_option linter.unusedSimpArgs false
set_option linter.unusedVariables false
/- The reference of layer 36: Invited. -/
namespace Go.Proofs.YtlfbcoohfnoacaaGreat
open Go.Fw Go.RowKit
/-- The list of invitations after k rounds: with the new one in it or not. -/
def putAt (x : Inv) (l : List Inv) (k : Nat) (put : Bool) : List Inv := if put then insI x (l.take k) else l.take k
structure PutI (x : Inv) (l : List Inv) (k : Nat) (put : Bool) : Prop where
  no : ∀ z ∈ l.take k, z.who ≠ x.who
  yes : put = true → ∃ z ∈ l.take k, x.who ≤ z.who
  lt : put = false → ∀ z ∈ l.take k, z.who < x.who
section
variable {x : Inv} {l : List Inv} {k : Nat}
theorem put_zero : PutI x l 0 false := ⟨fun z h => by simp at h, fun h => by simp at h, fun _ z h => by simp at h⟩
theorem put_nx {z : Inv} (hk : k < l.length) (h : z ∈ l.take (k + 1)) : z ∈ l.take k ∨ z = l.getD k Flat.dflt := by
  rw [take_snoc (d := (Flat.dflt : Inv)) hk, List.mem_append, List.mem_singleton] at h; exact h
theorem put_in (h : PutI x l k true) (hk : k < l.length) (hn : (l.getD k Flat.dflt).who ≠ x.who) : PutI x l (k + 1) true ∧ putAt x l (k + 1) true = putAt x l k true ++ [l.getD k Flat.dflt] := by
  obtain ⟨z, hz, hzw⟩ := h.yes rfl
  refine ⟨⟨fun z h1 => (put_nx hk h1).elim (h.no z) (fun e => by rw [e]; exact hn), fun _ => ⟨z, ?_, hzw⟩, fun h => by simp at h⟩, ?_⟩
  · rw [take_snoc (d := (Flat.dflt : Inv)) hk]; exact List.mem_append_left _ hz
  · show insI x (l.take (k + 1)) = insI x (l.take k) ++ _
    rw [take_snoc (d := (Flat.dflt : Inv)) hk, insI_in ⟨z, hz, hzw⟩]
theorem put_at (h : PutI x l k false) (hk : k < l.length) (hn : x.who < (l.getD k Flat.dflt).who) : PutI x l (k + 1) true ∧ putAt x l (k + 1) true = putAt x l k false ++ [x] ++ [l.getD k Flat.dflt] := by
  refine ⟨⟨fun z h1 => (put_nx hk h1).elim (h.no z) (fun e => by rw [e]; omega), fun _ => ⟨l.getD k Flat.dflt, ?_, by omega⟩, fun h => by simp at h⟩, ?_⟩
  · rw [take_snoc (d := (Flat.dflt : Inv)) hk]; exact List.mem_append_right _ (List.mem_singleton.2 rfl)
  · show insI x (l.take (k + 1)) = l.take k ++ [x] ++ [_]
    rw [take_snoc (d := (Flat.dflt : Inv)) hk, insI_at (h.lt rfl) (by omega), List.append_assoc]
    rfl
theorem put_lt (h : PutI x l k false) (hk : k < l.length) (hn : (l.getD k Flat.dflt).who < x.who) : PutI x l (k + 1) false ∧ putAt x l (k + 1) false = putAt x l k false ++ [l.getD k Flat.dflt] := by
  refine ⟨⟨fun z h1 => (put_nx hk h1).elim (h.no z) (fun e => by rw [e]; omega), fun h => by simp at h, fun _ z h1 => (put_nx hk h1).elim (h.lt rfl z) (fun e => by rw [e]; exact hn)⟩, ?_⟩
  show l.take (k + 1) = l.take k ++ _
  rw [take_snoc (d := (Flat.dflt : Inv)) hk]
theorem put_no {b : Bool} (h : PutI x l l.length b) : x.who ∉ l.map Inv.who := fun hm => by
  obtain ⟨z, hz, he⟩ := List.mem_map.1 hm
  exact h.no z (by rw [List.take_length]; exact hz) he
theorem put_end1 : putAt x l l.length true = insI x l := by
  show insI x (l.take l.length) = _
  rw [List.take_length]
theorem put_end0 (h : PutI x l l.length false) : putAt x l l.length false ++ [x] = insI x l := by
  have h1 := h.lt rfl
  rw [List.take_length] at h1
  show l.take l.length ++ [x] = _
  rw [List.take_length, insI_end h1]
theorem put_dup (hk : k < l.length) (hn : (l.getD k Flat.dflt).who = x.who) : x.who ∈ l.map Inv.who := List.mem_map.2 ⟨_, (List.getD_eq_getElem?_getD (l := l) ▸ (by rw [List.getElem?_eq_getElem hk]; exact List.getElem_mem hk)), hn⟩
theorem putAt_len (hk : k ≤ l.length) (b : Bool) : (putAt x l k b).length ≤ k + 1 := by
  unfold putAt
  cases b
  · show (l.take k).length ≤ _
    rw [List.length_take]; omega
  · show (insI x (l.take k)).length ≤ _
    rw [insI_len, List.length_take]; omega
end
set_option maxHeartbeats 4000000 in
set_option maxRecDepth 100000 in
theorem refInvited_spec (t la : Int) (A : Option Addr) (L : List PtyP) (c : Nat) (by' who : Int) (Φ : World → Prop) (w0 : World) (H : List HP) (w : World) (hz : SzP L) (hc : L.length ≤ c) (hΦ : ∀ w, Φ w → RdP w A L) (hw : Wd w0 (kno Φ :: H) w) :
    Ret Tryz.prog 68 [hv36 t la A L c, .int .i64 by', .int .i64 who].toArray w (RP w0 (RefC Φ H (invitedM ⟨t, la, ptys L⟩ by' who))) := by
  have hQ := fun w' h => refLead_spec t la A L c by' w' hz h
  have hF := fun w' h => refFind_spec t la A L c who w' hz h
  have hI := refId_spec who
  have hok := @leadQ_ok ⟨t, la, ptys L⟩ by'
  unfold invitedM
  rw [leadM_q]
  generalize leadQ ⟨t, la, ptys L⟩ by' = q at hQ hok ⊢
  obtain ⟨k, e⟩ := q
  simp only at hQ hok ⊢
  by_cases he : e = 0
  · subst he
    obtain ⟨hv, -, hk⟩ := hok rfl
    rw [if_pos rfl]
    clear hok
    cases hi : isIdB who with
    | false =>
      simp only [hi] at hI
      rw [if_neg (by decide)]
      refine enterH Tryz.func68 rfl rfl Tryz.ntmps68 rfl (by assumption) ?_
      (repeat' (first | (show VH _ _ _ _ _ _ _; first | refine v_seq ?_ | refine r_seq ?_ | refine v_ret ?_ | refine v_skip ?_ | refine v_cond_t rfl tbL ?_ | refine v_cond_f rfl tbL ?_) | (show SH _ _ _ _ _ (_ :: _) _ _ _; first | (show SH _ _ _ _ _ (⟨_, .move _, _, _, _, _⟩ :: _) _ _ _; refine mov evL ?_) | (show SH _ _ _ _ _ (⟨_, .assign _, _, _, _, _⟩ :: _) _ _ _; refine asg evL ?_) | (show SH _ _ _ _ _ (⟨_, .binOp .neq _ _ _ _, _, _, _, _⟩ :: _) _ _ _; refine neqF rfl rfl omD ?_) | (show SH _ _ _ _ _ (⟨_, .load _ _, _, _, _, _⟩ :: _) _ _ _; refine lba rfl spL (by rfl) ?_) | (show SH _ _ _ _ _ (⟨_, .call ⟨.value (.func 100), _, _⟩, _, _, _, _⟩ :: _) _ _ _; refine cl (callee := .func 100) rfl (fun w hw => hQ w (hΦ _ (hw.kn spL))) rfl rfl ?_) | (show SH _ _ _ _ _ (⟨_, .call ⟨.value (.func 28), _, _⟩, _, _, _, _⟩ :: _) _ _ _; refine cl (callee := .func 28) rfl (fun w hw => hI w) rfl rfl ?_) | refine bnoF rfl ?_ | refine extr rfl rfl ?_ | refine bld rfl rfl ?_ | refine ala rfl (fun b => ?_) | (show SH _ _ _ _ _ (⟨_, .box _ _, _, _, _, _⟩ :: _) _ _ _; refine bxx rfl evL rfl (fun b => ?_)) | (show SH _ _ _ _ _ (⟨_, .store _ _ _, _, _, _, _⟩ :: _) _ _ _; refine sta rfl rfl rfl spL (by rfl) (by rfl) (by rfl) kpL ?_)) | refine s_nil ?_ | refine kh_normal ?_ | refine kh_ret ?_))
      exact rhC2 rfl rfl rfl rfl (fun w hw => loadVar_bx hw spL (by rfl)) refC0 (Ent.trans (B := kno Φ :: H) enL ent_ref0)
    | true =>
      simp only [hi] at hI
      rw [if_pos rfl]
      by_cases hm : who ∈ allM (ptys L)
      · rw [if_pos hm]
        have hf := find_pos hm
        generalize findI36 who (ptys L) = f at hF hf
        refine enterH Tryz.func68 rfl rfl Tryz.ntmps68 rfl (by assumption) ?_
        (repeat' (first | (show VH _ _ _ _ _ _ _; first | refine v_seq ?_ | refine r_seq ?_ | refine v_ret ?_ | refine v_skip ?_ | refine v_cond_t rfl tbL ?_ | refine v_cond_f rfl tbL ?_) | (show SH _ _ _ _ _ (_ :: _) _ _ _; first | (show SH _ _ _ _ _ (⟨_, .move _, _, _, _, _⟩ :: _) _ _ _; refine mov evL ?_) | (show SH _ _ _ _ _ (⟨_, .assign _, _, _, _, _⟩ :: _) _ _ _; refine asg evL ?_) | (show SH _ _ _ _ _ (⟨_, .binOp .geq _ _ _ _, _, _, _, _⟩ :: _) _ _ _; refine geqT rfl rfl omD ?_) | (show SH _ _ _ _ _ (⟨_, .binOp .neq _ _ _ _, _, _, _, _⟩ :: _) _ _ _; refine neqF rfl rfl omD ?_) | (show SH _ _ _ _ _ (⟨_, .load _ _, _, _, _, _⟩ :: _) _ _ _; refine lba rfl spL (by rfl) ?_) | (show SH _ _ _ _ _ (⟨_, .call ⟨.value (.func 100), _, _⟩, _, _, _, _⟩ :: _) _ _ _; refine cl (callee := .func 100) rfl (fun w hw => hQ w (hΦ _ (hw.kn spL))) rfl rfl ?_) | (show SH _ _ _ _ _ (⟨_, .call ⟨.value (.func 28), _, _⟩, _, _, _, _⟩ :: _) _ _ _; refine cl (callee := .func 28) rfl (fun w hw => hI w) rfl rfl ?_) | (show SH _ _ _ _ _ (⟨_, .call ⟨.value (.func 75), _, _⟩, _, _, _, _⟩ :: _) _ _ _; refine cl (callee := .func 75) rfl (fun w hw => hF w (hΦ _ (hw.kn spL))) rfl rfl ?_) | refine bnoT rfl ?_ | refine extr rfl rfl ?_ | refine bld rfl rfl ?_ | refine ala rfl (fun b => ?_) | (show SH _ _ _ _ _ (⟨_, .box _ _, _, _, _, _⟩ :: _) _ _ _; refine bxx rfl evL rfl (fun b => ?_)) | (show SH _ _ _ _ _ (⟨_, .store _ _ _, _, _, _, _⟩ :: _) _ _ _; refine sta rfl rfl rfl spL (by rfl) (by rfl) (by rfl) kpL ?_)) | refine s_nil ?_ | refine kh_normal ?_ | refine kh_ret ?_))
        exact rhC2 rfl rfl rfl rfl (fun w hw => loadVar_bx hw spL (by rfl)) refC0 (Ent.trans (B := kno Φ :: H) enL ent_ref0)
      · rw [if_neg hm]
        rw [find_neg hm] at hF
        have hb1 := (valid_iff.1 hv).t1
        have hb0 := (valid_iff.1 hv).t0
        have hll := hz.len
        simp only at hb1 hb0
        rw [ptys_len] at hk
        have hml : (L.getD k Flat.dflt).p.mem.length ≤ 1000 := hz.atm hk
        have hvl : (L.getD k Flat.dflt).p.inv.length ≤ 1000 := hz.ati hk
        have hA : ∀ w, Φ w → Rd w A L := fun w h => (hΦ w h).1
        have hB : ∀ w, Φ w → Rd w (L.getD k Flat.dflt).B (L.getD k Flat.dflt).p.inv := fun w h => (hΦ w h).inv hk
        have hin : ∀ y : PtyP, y.p.mem = (L.getD k Flat.dflt).p.mem → y.A = (L.getD k Flat.dflt).A → ∀ w, Φ w → Rd w y.B y.p.inv → ∀ z ∈ L.set k y, Rd w z.A z.p.mem ∧ Rd w z.B z.p.inv := fun y h1 h2 w hw hr z hz => by
          rcases List.mem_or_eq_of_mem_set hz with h | h
          · exact (hΦ w hw).2 z h
          · rw [h, h1, h2]
            exact ⟨(hΦ w hw).mem hk, hr⟩
        have hnx : ∀ y : PtyP, ptys (L.set k y) = (ptys L).set k y.p := fun y => ptys_set ..
        rw [ptys_at hk]
        have hW := fun y w h => ret_cap (refWith_spec t la A L c k y w hk hll h)
        unfold hv36 at hW
        obtain ⟨x, hx⟩ : ∃ x, L.getD k Flat.dflt = x := ⟨_, rfl⟩
        have hxE := pty_enc hx
        rw [hx] at hml hvl hB hin ⊢
        clear hx hv
        obtain ⟨⟨xi, xl, xm, xv⟩, xA, xca, xB, xcb⟩ := x
        simp only at hml hvl hB hin hxE ⊢
        refine enterH Tryz.func68 rfl rfl Tryz.ntmps68 rfl (by assumption) ?_
        (repeat' (first | (show VH _ _ _ _ _ _ _; first | refine v_seq ?_ | refine r_seq ?_ | refine v_block ?_ | refine v_skip ?_ | refine v_cond_f rfl tbL ?_) | (show SH _ _ _ _ _ (_ :: _) _ _ _; first | (show SH _ _ _ _ _ (⟨_, .move _, _, _, _, _⟩ :: _) _ _ _; refine mov evL ?_) | (show SH _ _ _ _ _ (⟨_, .assign _, _, _, _, _⟩ :: _) _ _ _; refine asg evL ?_) | (show SH _ _ _ _ _ (⟨_, .binOp .geq _ _ _ _, _, _, _, _⟩ :: _) _ _ _; refine geqF rfl rfl omD ?_) | (show SH _ _ _ _ _ (⟨_, .binOp .neq _ _ _ _, _, _, _, _⟩ :: _) _ _ _; refine neqF rfl rfl omD ?_) | (show SH _ _ _ _ _ (⟨_, .load _ _, _, _, _, _⟩ :: _) _ _ _; first | refine lbx rfl spL (by rfl) ?_ | refine lba rfl spL (by rfl) ?_ | refine lag rfl (fun _ _ => rdK) (by rfl) omL (by assumption) ?_) | (show SH _ _ _ _ _ (⟨_, .indexAddr _ _ _, _, _, _, _⟩ :: _) _ _ _; refine ix rfl rfl (by with_reducible rfl) (fun _ _ => rdK) (by rfl) omL omL ?_) | (show SH _ _ _ _ _ (⟨_, .call ⟨.value (.func 100), _, _⟩, _, _, _, _⟩ :: _) _ _ _; refine cl (callee := .func 100) rfl (fun w hw => hQ w (hΦ _ (hw.kn spL))) rfl rfl ?_) | (show SH _ _ _ _ _ (⟨_, .call ⟨.value (.func 28), _, _⟩, _, _, _, _⟩ :: _) _ _ _; refine cl (callee := .func 28) rfl (fun w hw => hI w) rfl rfl ?_) | (show SH _ _ _ _ _ (⟨_, .call ⟨.value (.func 75), _, _⟩, _, _, _, _⟩ :: _) _ _ _; refine cl (callee := .func 75) rfl (fun w hw => hF w (hΦ _ (hw.kn spL))) rfl rfl ?_) | refine bnoT rfl ?_ | refine extr rfl rfl ?_ | refine fad rfl ?_ | refine ala rfl (fun b => ?_) | (show SH _ _ _ _ _ (⟨_, .box _ _, _, _, _, _⟩ :: _) _ _ _; refine bxx rfl evL rfl (fun b => ?_)) | (show SH _ _ _ _ _ (⟨_, .store _ _ _, _, _, _, _⟩ :: _) _ _ _; refine sta rfl rfl rfl spL (by rfl) (by rfl) (by rfl) kpL ?_)) | refine s_nil ?_ | refine kh_normal ?_))
        rename_i b1 b2
        revert b
        intro b3
        refine v_norm [(2,_),(3,_),(6,_),(8,_),(10,_),(11,_),(12,_),(13,_)] heL (fun g => ?_)
        have hxw : (⟨who, t + 600⟩ : Inv).who = who := rfl
        refine VH.ent (G := orow 40 none 0 ([] : List Inv) :: kno Φ :: bx b3 43 [.int .i64 xi, .int .i64 xl, .slice xA xm.length xca, .slice xB xv.length xcb] :: bx b1 30 [.int .i64 t, .int .i64 la, .slice A L.length c] :: bx b2 30 [.int .i64 0, .int .i64 0, .slice none 0 0] :: H) ?_ (ent_nilrow enL)
        refine v_loop [(7,7),(11,13),(38,81)] (fun y : Nat × Bool × Option Addr × Nat => [(13, .int .i64 y.1), (12, .bool y.2.1), (11, .slice y.2.2.1 (putAt ⟨who, t + 600⟩ xv y.1 y.2.1).length y.2.2.2)]) (fun y => orow 40 y.2.2.1 y.2.2.2 (putAt ⟨who, t + 600⟩ xv y.1 y.2.1) :: kno Φ :: bx b3 43 [.int .i64 xi, .int .i64 xl, .slice xA xm.length xca, .slice xB xv.length xcb] :: bx b1 30 [.int .i64 t, .int .i64 la, .slice A L.length c] :: bx b2 30 [.int .i64 0, .int .i64 0, .slice none 0 0] :: H) (fun y => y.1 ≤ xv.length ∧ PutI ⟨who, t + 600⟩ xv y.1 y.2.1) (fun y => xv.length - y.1) (0, false, none, 0) hsL enL ⟨Nat.zero_le _, put_zero⟩ ?_
        rintro ⟨i, pb, B, d⟩ g ⟨hi, hP⟩
        simp only at hi hP
        simp only [sets]
        by_cases hil : i < xv.length
        · have hpl := putAt_len (x := ⟨who, t + 600⟩) hi pb
          have hdup := put_dup (x := ⟨who, t + 600⟩) hil
          have hP1 := fun (h : pb = true) => put_in (x := ⟨who, t + 600⟩) (by rw [← h]; exact hP) hil
          have hP2 := fun (h : pb = false) => put_at (x := ⟨who, t + 600⟩) (by rw [← h]; exact hP) hil
          have hP3 := fun (h : pb = false) => put_lt (x := ⟨who, t + 600⟩) (by rw [← h]; exact hP) hil
          obtain ⟨v, hv⟩ : ∃ v, xv.getD i Flat.dflt = v := ⟨_, rfl⟩
          have hvE := inv_enc hv
          rw [hv] at hdup hP1 hP2 hP3
          clear hv hnx hin hW hP
          obtain ⟨vw, vt⟩ := v
          simp only at hdup hP1 hP2 hP3 hvE
          by_cases h1 : vw = who
          · rw [if_pos (hdup h1)]
            clear hP1 hP2 hP3
            generalize putAt ⟨who, t + 600⟩ xv i pb = F at hpl ⊢
            (repeat' (first | (show VH _ _ _ _ _ _ _; first | refine v_seq ?_ | refine r_seq ?_ | refine v_block ?_ | refine v_ret ?_ | refine v_skip ?_ | refine v_cond_t rfl tbL ?_) | (show SH _ _ _ _ _ (_ :: _) _ _ _; first | (show SH _ _ _ _ _ (⟨_, .move _, _, _, _, _⟩ :: _) _ _ _; refine mov evL ?_) | (show SH _ _ _ _ _ (⟨_, .assign _, _, _, _, _⟩ :: _) _ _ _; refine asg evL ?_) | (show SH _ _ _ _ _ (⟨_, .binOp .lss _ _ _ _, _, _, _, _⟩ :: _) _ _ _; refine lssT rfl rfl omD ?_) | (show SH _ _ _ _ _ (⟨_, .binOp .eql _ _ _ _, _, _, _, _⟩ :: _) _ _ _; refine eqlT rfl rfl omD ?_) | (show SH _ _ _ _ _ (⟨_, .load _ _, _, _, _, _⟩ :: _) _ _ _; first | refine lbx rfl spL (by rfl) ?_ | refine lrg rfl (fun _ _ => rdK) (by rfl) omL (by assumption) (by rfl) ?_) | (show SH _ _ _ _ _ (⟨_, .indexAddr _ _ _, _, _, _, _⟩ :: _) _ _ _; refine ix rfl rfl (by with_reducible rfl) (fun _ _ => rdK) (by rfl) omL omL ?_) | refine slen rfl ?_ | refine fad rfl ?_ | refine bld rfl rfl ?_ | (show SH _ _ _ _ _ (⟨_, .store _ _ _, _, _, _, _⟩ :: _) _ _ _; refine sta rfl rfl rfl spL (by rfl) (by rfl) (by rfl) kpL ?_)) | refine s_nil ?_ | refine kh_normal ?_ | refine kh_ret ?_ | refine bh_ret ?_))
            exact rhC2 rfl rfl rfl rfl (fun w hw => loadVar_bx hw spL (by rfl)) refC0 (Ent.trans (B := kno Φ :: H) enL ent_ref0)
          · cases pb with
            | true =>
              obtain ⟨hPn, hF⟩ := hP1 rfl h1
              clear hP1 hP2 hP3 hdup
              generalize putAt ⟨who, t + 600⟩ xv i true = F at hF hpl ⊢
              by_cases h2 : who < vw
              all_goals
                (repeat' (first | (show VH _ _ _ _ _ _ _; first | refine v_seq ?_ | refine r_seq ?_ | refine v_block ?_ | refine v_skip ?_ | refine v_cond_t rfl tbL ?_ | refine v_cond_f rfl tbL ?_) | (show SH _ _ _ _ _ (_ :: _) _ _ _; first | (show SH _ _ _ _ _ (⟨_, _, _, _, _, some _⟩ :: _) _ _ _; (refine gif rfl rfl ?_; first | refine giTT tbL ?_ | refine giTF tbL ?_)) | (show SH _ _ _ _ _ (⟨_, .move _, _, _, _, _⟩ :: _) _ _ _; refine mov evL ?_) | (show SH _ _ _ _ _ (⟨_, .binOp .lss _ _ _ _, _, _, _, _⟩ :: _) _ _ _; refine lssT rfl rfl omD ?_) | (show SH _ _ _ _ _ (⟨_, .binOp .gtr _ _ _ _, _, _, _, _⟩ :: _) _ _ _; first | refine gtrT rfl rfl omD ?_ | refine gtrF rfl rfl omD ?_) | (show SH _ _ _ _ _ (⟨_, .binOp .eql _ _ _ _, _, _, _, _⟩ :: _) _ _ _; refine eqlF rfl rfl omD ?_) | (show SH _ _ _ _ _ (⟨_, .load _ _, _, _, _, _⟩ :: _) _ _ _; first | refine lbx rfl spL (by rfl) ?_ | refine lag rfl (fun _ _ => rdK) (by rfl) omL (by assumption) ?_ | refine lrg rfl (fun _ _ => rdK) (by rfl) omL (by assumption) (by rfl) ?_) | (show SH _ _ _ _ _ (⟨_, .indexAddr _ _ _, _, _, _, _⟩ :: _) _ _ _; refine ix rfl rfl (by with_reducible rfl) (fun _ _ => rdK) (by rfl) omL omL ?_) | refine slen rfl ?_ | refine bnoT rfl ?_ | (show SH _ _ _ _ _ (⟨_, .pick _ _ _, _, _, _, _⟩ :: _) _ _ _; first | refine pkt rfl tbL evL ?_ | refine pkf rfl tbL evL ?_) | refine fad rfl ?_) | refine s_nil ?_ | refine kh_normal ?_))
                refine bsl (l := [(⟨vw, vt⟩ : Inv)]) rfl rfl (Vals.cons rfl Vals.nil) rfl rfl (by decide) (fun b9 => ?_)
                (repeat' (first | (show VH _ _ _ _ _ _ _; first | refine v_seq ?_ | refine r_seq ?_ | refine r_quiet hmix (by kernel_rfl) ?_ | refine v_block ?_ | refine v_ret ?_ | refine v_skip ?_ | refine v_exit ?_ | refine v_label ?_ | refine v_cond_t rfl tbL ?_ | refine v_cond_f rfl tbL ?_ | refine v_cond_dec rfl (fun h => ?_) (fun h => ?_) | refine v_cond_ndec rfl (fun h => ?_) (fun h => ?_) | refine v_cond rfl (fun h => ?_) (fun h => ?_)) | (show SH _ _ _ _ _ (_ :: _) _ _ _; first | (show SH _ _ _ _ _ (⟨_, _, _, _, _, some _⟩ :: _) _ _ _; first | (refine gif rfl rfl ?_; first | refine giTT tbL ?_ | refine giTF tbL ?_ | refine giFF tbL ?_ | refine giFT tbL ?_ | refine giTd (fun h => ?_) (fun h => ?_) | refine giFd (fun h => ?_) (fun h => ?_) | refine giT (fun h => ?_) (fun h => ?_) | refine giF (fun h => ?_) (fun h => ?_)) | refine gu rfl rfl ?_ | refine grT rfl rfl tbL ?_ | refine grF rfl rfl tbL ?_) | (show SH _ _ _ _ _ (⟨_, .move _, _, _, _, _⟩ :: _) _ _ _; refine mov evL ?_) | (show SH _ _ _ _ _ (⟨_, .assign _, _, _, _, _⟩ :: _) _ _ _; refine asg evL ?_) | (show SH _ _ _ _ _ (⟨_, .binOp .lss _ _ _ _, _, _, _, _⟩ :: _) _ _ _; first | refine lssT rfl rfl omD ?_ | refine lssF rfl rfl omD ?_ | refine lss rfl rfl ?_) | (show SH _ _ _ _ _ (⟨_, .binOp .gtr _ _ _ _, _, _, _, _⟩ :: _) _ _ _; first | refine gtrT rfl rfl omD ?_ | refine gtrF rfl rfl omD ?_ | refine gtr rfl rfl ?_) | (show SH _ _ _ _ _ (⟨_, .binOp .geq _ _ _ _, _, _, _, _⟩ :: _) _ _ _; first | refine geqT rfl rfl omD ?_ | refine geqF rfl rfl omD ?_ | refine geq rfl rfl ?_) | (show SH _ _ _ _ _ (⟨_, .binOp .eql _ _ _ _, _, _, _, _⟩ :: _) _ _ _; first | refine eqlT rfl rfl omD ?_ | refine eqlF rfl rfl omD ?_ | refine eql rfl rfl ?_ | refine eqn rfl rfl ?_ | refine eqb rfl rfl ?_) | (show SH _ _ _ _ _ (⟨_, .binOp .neq _ _ _ _, _, _, _, _⟩ :: _) _ _ _; first | refine neqT rfl rfl omD ?_ | refine neqF rfl rfl omD ?_ | refine neq rfl rfl ?_ | refine nen rfl rfl ?_ | refine neb rfl rfl ?_) | (show SH _ _ _ _ _ (⟨_, .binOp .add _ _ _ _, _, _, _, _⟩ :: _) _ _ _; refine add rfl rfl inL ?_) | (show SH _ _ _ _ _ (⟨_, .load _ _, _, _, _, _⟩ :: _) _ _ _; first | refine lbx rfl spL (by rfl) ?_ | refine lba rfl spL (by rfl) ?_ | refine lbs rfl spL (by rfl) (by rfl) ?_ | refine lgi rfl (fun _ _ => rdK) omL (by assumption) ?_ | refine lag rfl (fun _ _ => rdK) (by rfl) omL (by assumption) ?_ | refine lrg rfl (fun _ _ => rdK) (by rfl) omL (by assumption) (by rfl) ?_ | refine lin rfl (fun _ _ => rdK) omL ?_ | refine lbi rfl spL omL ?_ | refine lr1 rfl (fun _ _ => rdK) (by rfl) omL (by rfl) ?_ | refine lra rfl (fun _ _ => rdK) (by rfl) omL ?_ | refine lrf rfl (fun _ _ => rdK) (by rfl) omL (by rfl) ?_ | refine lcell rfl (fun w hw => hw.ext.cell (by assumption)) ?_ | refine lrs rfl (fun _ _ => rdK) (by rfl) omL (by rfl) (by rfl) ?_ | refine lca rfl (fun _ _ => rdK) (by rfl) ?_ | refine lcs rfl (fun _ _ => rdK) (by rfl) ?_ | refine lcf rfl (fun _ _ => rdK) (by rfl) ?_ | refine lrf rfl (fun _ _ => rdK) (by rfl) (by simp only [List.length_cons, List.length_nil]; omega) (by rfl) ?_ | refine lra rfl (fun _ _ => rdK) (by rfl) (by simp only [List.length_cons, List.length_nil]; omega) ?_) | (show SH _ _ _ _ _ (⟨_, .indexAddr _ _ _, _, _, _, _⟩ :: _) _ _ _; first | refine ix rfl rfl (by with_reducible rfl) (fun _ _ => rdK) (by rfl) omL omL ?_ | refine ixi rfl rfl (fun _ _ => rdK) (by rfl) omL omL omL ?_ | refine ixb rfl rfl omL ?_ | refine ixq rfl rfl (by assumption) omL omL ?_ | refine ixA _ rfl rfl rfl omL ?_ | refine ixi rfl rfl (fun _ _ => rdK) (by rfl) omL (by first | omega | (simp only [List.length_cons, List.length_nil]; omega)) (by simp only [List.length_cons, List.length_nil]; omega) ?_) | (show SH _ _ _ _ _ (⟨_, .call ⟨.builtin _, _, _⟩, _, _, _, _⟩ :: _) _ _ _; first | refine slen rfl ?_ | refine lnm rfl spL ?_) | (show SH _ _ _ _ _ (⟨_, .unOp .not _ _, _, _, _, _⟩ :: _) _ _ _; first | refine bnoT rfl ?_ | refine bnoF rfl ?_ | refine bnot rfl ?_) | (show SH _ _ _ _ _ (⟨_, .pick _ _ _, _, _, _, _⟩ :: _) _ _ _; first | refine pkt rfl tbL evL ?_ | refine pkf rfl tbL evL ?_) | refine extr rfl rfl ?_ | refine fad rfl ?_ | (show SH _ _ _ _ _ (⟨_, .build _ _, _, _, _, _⟩ :: _) _ _ _; first | refine bld rfl rfl ?_ | refine bldZ ?_ | refine bldZN ?_) | (show SH _ _ _ _ _ (⟨_, .alloc _, _, _, _, _⟩ :: _) _ _ _; first | refine al1 rfl (fun b => ?_) | refine ala rfl (fun b => ?_)) | (show SH _ _ _ _ _ (⟨_, .box _ _, _, _, _, _⟩ :: _) _ _ _; refine bxx rfl evL rfl (fun b => ?_)) | (show SH _ _ _ _ _ (⟨_, .store _ _ _, _, _, _, _⟩ :: _) _ _ _; first | refine stb rfl rfl evL spL rfl rfl (by first | decide | exact Nat.zero_lt_succ _ | exact of_decide_eq_true rfl) kpL ?_ | refine sta rfl rfl rfl spL (by rfl) (by rfl) (by rfl) kpL ?_ | refine sti rfl rfl rfl spL omL kpL ?_ | refine sbi rfl rfl rfl spL omL kpL ?_ | refine sbs rfl rfl evL spL (by rfl) (by rfl) (of_decide_eq_true rfl) kpL ?_) | (show SH _ _ _ _ _ (⟨_, .buildSlice _ _ _, _, _, _, _⟩ :: _) _ _ _; refine bsl (α := Int) rfl rfl (by repeat (first | exact Vals.nil | (apply Vals.cons; rfl))) rfl (by rfl) (by decide) (fun b => ?_))) | refine s_nil ?_ | refine s_fork ?_ ?_ | refine s_fork3 ?_ ?_ ?_ | refine s_fork4 ?_ ?_ ?_ ?_ | refine kh_normal ?_ | refine kh_ret ?_ | refine kh_exit ?_ | refine bh_normal ?_ | refine bh_ret ?_ | refine bh_exit ?_ | refine bh_exit_ne rfl ?_))
                refine app (l := F) (l2 := [(⟨vw, vt⟩ : Inv)]) rfl rfl rfl spL (fun w hw => hw.rd spL) rfl rfl rfl (by simp only [List.length_singleton]; omega) (by simp only [List.length_singleton]; omega) (fun A4 c4 => ⟨enL, ?_⟩)
                (repeat' (first | refine r_seq ?_ | (show SH _ _ _ _ _ (_ :: _) _ _ _; first | (show SH _ _ _ _ _ (⟨_, .move _, _, _, _, _⟩ :: _) _ _ _; refine mov evL ?_) | (show SH _ _ _ _ _ (⟨_, .assign _, _, _, _, _⟩ :: _) _ _ _; refine asg evL ?_) | (show SH _ _ _ _ _ (⟨_, .binOp .add _ _ _ _, _, _, _, _⟩ :: _) _ _ _; refine add rfl rfl inL ?_)) | refine s_nil ?_ | refine kh_normal ?_ | refine bh_normal ?_))
                exact ⟨agL, (i + 1, true, A4, c4), by rw [hF]; (repeat (first | exact trivial | refine And.intro rfl ?_)), by rw [hF]; exact enL, ⟨hil, hPn⟩, by show xv.length - (i + 1) < xv.length - i; omega⟩
            | false =>
              by_cases h2 : who < vw
              · obtain ⟨hPn, hF⟩ := hP2 rfl h2
                clear hP1 hP2 hP3 hdup
                generalize putAt ⟨who, t + 600⟩ xv i false = F at hF hpl ⊢
                (repeat' (first | (show VH _ _ _ _ _ _ _; first | refine v_seq ?_ | refine r_seq ?_ | refine v_block ?_ | refine v_skip ?_ | refine v_cond_t rfl tbL ?_ | refine v_cond_f rfl tbL ?_) | (show SH _ _ _ _ _ (_ :: _) _ _ _; first | (show SH _ _ _ _ _ (⟨_, _, _, _, _, some _⟩ :: _) _ _ _; (refine gif rfl rfl ?_; refine giTT tbL ?_)) | (show SH _ _ _ _ _ (⟨_, .move _, _, _, _, _⟩ :: _) _ _ _; refine mov evL ?_) | (show SH _ _ _ _ _ (⟨_, .binOp .lss _ _ _ _, _, _, _, _⟩ :: _) _ _ _; refine lssT rfl rfl omD ?_) | (show SH _ _ _ _ _ (⟨_, .binOp .gtr _ _ _ _, _, _, _, _⟩ :: _) _ _ _; refine gtrT rfl rfl omD ?_) | (show SH _ _ _ _ _ (⟨_, .binOp .eql _ _ _ _, _, _, _, _⟩ :: _) _ _ _; refine eqlF rfl rfl omD ?_) | (show SH _ _ _ _ _ (⟨_, .binOp .add _ _ _ _, _, _, _, _⟩ :: _) _ _ _; refine add rfl rfl inL ?_) | (show SH _ _ _ _ _ (⟨_, .load _ _, _, _, _, _⟩ :: _) _ _ _; first | refine lbx rfl spL (by rfl) ?_ | refine lrg rfl (fun _ _ => rdK) (by rfl) omL (by assumption) (by rfl) ?_) | (show SH _ _ _ _ _ (⟨_, .indexAddr _ _ _, _, _, _, _⟩ :: _) _ _ _; refine ix rfl rfl (by with_reducible rfl) (fun _ _ => rdK) (by rfl) omL omL ?_) | refine slen rfl ?_ | refine bnoF rfl ?_ | (show SH _ _ _ _ _ (⟨_, .pick _ _ _, _, _, _, _⟩ :: _) _ _ _; refine pkt rfl tbL evL ?_) | refine fad rfl ?_ | refine bld rfl rfl ?_) | refine s_nil ?_ | refine kh_normal ?_))
                refine bsl (l := [(⟨who, t + 600⟩ : Inv)]) rfl rfl (Vals.cons rfl Vals.nil) rfl rfl (by decide) (fun b9 => ?_)
                (repeat' (first | (show VH _ _ _ _ _ _ _; first | refine v_seq ?_ | refine r_seq ?_ | refine r_quiet hmix (by kernel_rfl) ?_ | refine v_block ?_ | refine v_ret ?_ | refine v_skip ?_ | refine v_exit ?_ | refine v_label ?_ | refine v_cond_t rfl tbL ?_ | refine v_cond_f rfl tbL ?_ | refine v_cond_dec rfl (fun h => ?_) (fun h => ?_) | refine v_cond_ndec rfl (fun h => ?_) (fun h => ?_) | refine v_cond rfl (fun h => ?_) (fun h => ?_)) | (show SH _ _ _ _ _ (_ :: _) _ _ _; first | (show SH _ _ _ _ _ (⟨_, _, _, _, _, some _⟩ :: _) _ _ _; first | (refine gif rfl rfl ?_; first | refine giTT tbL ?_ | refine giTF tbL ?_ | refine giFF tbL ?_ | refine giFT tbL ?_ | refine giTd (fun h => ?_) (fun h => ?_) | refine giFd (fun h => ?_) (fun h => ?_) | refine giT (fun h => ?_) (fun h => ?_) | refine giF (fun h => ?_) (fun h => ?_)) | refine gu rfl rfl ?_ | refine grT rfl rfl tbL ?_ | refine grF rfl rfl tbL ?_) | (show SH _ _ _ _ _ (⟨_, .move _, _, _, _, _⟩ :: _) _ _ _; refine mov evL ?_) | (show SH _ _ _ _ _ (⟨_, .assign _, _, _, _, _⟩ :: _) _ _ _; refine asg evL ?_) | (show SH _ _ _ _ _ (⟨_, .binOp .lss _ _ _ _, _, _, _, _⟩ :: _) _ _ _; first | refine lssT rfl rfl omD ?_ | refine lssF rfl rfl omD ?_ | refine lss rfl rfl ?_) | (show SH _ _ _ _ _ (⟨_, .binOp .gtr _ _ _ _, _, _, _, _⟩ :: _) _ _ _; first | refine gtrT rfl rfl omD ?_ | refine gtrF rfl rfl omD ?_ | refine gtr rfl rfl ?_) | (show SH _ _ _ _ _ (⟨_, .binOp .geq _ _ _ _, _, _, _, _⟩ :: _) _ _ _; first | refine geqT rfl rfl omD ?_ | refine geqF rfl rfl omD ?_ | refine geq rfl rfl ?_) | (show SH _ _ _ _ _ (⟨_, .binOp .eql _ _ _ _, _, _, _, _⟩ :: _) _ _ _; first | refine eqlT rfl rfl omD ?_ | refine eqlF rfl rfl omD ?_ | refine eql rfl rfl ?_ | refine eqn rfl rfl ?_ | refine eqb rfl rfl ?_) | (show SH _ _ _ _ _ (⟨_, .binOp .neq _ _ _ _, _, _, _, _⟩ :: _) _ _ _; first | refine neqT rfl rfl omD ?_ | refine neqF rfl rfl omD ?_ | refine neq rfl rfl ?_ | refine nen rfl rfl ?_ | refine neb rfl rfl ?_) | (show SH _ _ _ _ _ (⟨_, .binOp .add _ _ _ _, _, _, _, _⟩ :: _) _ _ _; refine add rfl rfl inL ?_) | (show SH _ _ _ _ _ (⟨_, .load _ _, _, _, _, _⟩ :: _) _ _ _; first | refine lbx rfl spL (by rfl) ?_ | refine lba rfl spL (by rfl) ?_ | refine lbs rfl spL (by rfl) (by rfl) ?_ | refine lgi rfl (fun _ _ => rdK) omL (by assumption) ?_ | refine lag rfl (fun _ _ => rdK) (by rfl) omL (by assumption) ?_ | refine lrg rfl (fun _ _ => rdK) (by rfl) omL (by assumption) (by rfl) ?_ | refine lin rfl (fun _ _ => rdK) omL ?_ | refine lbi rfl spL omL ?_ | refine lr1 rfl (fun _ _ => rdK) (by rfl) omL (by rfl) ?_ | refine lra rfl (fun _ _ => rdK) (by rfl) omL ?_ | refine lrf rfl (fun _ _ => rdK) (by rfl) omL (by rfl) ?_ | refine lcell rfl (fun w hw => hw.ext.cell (by assumption)) ?_ | refine lrs rfl (fun _ _ => rdK) (by rfl) omL (by rfl) (by rfl) ?_ | refine lca rfl (fun _ _ => rdK) (by rfl) ?_ | refine lcs rfl (fun _ _ => rdK) (by rfl) ?_ | refine lcf rfl (fun _ _ => rdK) (by rfl) ?_ | refine lrf rfl (fun _ _ => rdK) (by rfl) (by simp only [List.length_cons, List.length_nil]; omega) (by rfl) ?_ | refine lra rfl (fun _ _ => rdK) (by rfl) (by simp only [List.length_cons, List.length_nil]; omega) ?_) | (show SH _ _ _ _ _ (⟨_, .indexAddr _ _ _, _, _, _, _⟩ :: _) _ _ _; first | refine ix rfl rfl (by with_reducible rfl) (fun _ _ => rdK) (by rfl) omL omL ?_ | refine ixi rfl rfl (fun _ _ => rdK) (by rfl) omL omL omL ?_ | refine ixb rfl rfl omL ?_ | refine ixq rfl rfl (by assumption) omL omL ?_ | refine ixA _ rfl rfl rfl omL ?_ | refine ixi rfl rfl (fun _ _ => rdK) (by rfl) omL (by first | omega | (simp only [List.length_cons, List.length_nil]; omega)) (by simp only [List.length_cons, List.length_nil]; omega) ?_) | (show SH _ _ _ _ _ (⟨_, .call ⟨.builtin _, _, _⟩, _, _, _, _⟩ :: _) _ _ _; first | refine slen rfl ?_ | refine lnm rfl spL ?_) | (show SH _ _ _ _ _ (⟨_, .unOp .not _ _, _, _, _, _⟩ :: _) _ _ _; first | refine bnoT rfl ?_ | refine bnoF rfl ?_ | refine bnot rfl ?_) | (show SH _ _ _ _ _ (⟨_, .pick _ _ _, _, _, _, _⟩ :: _) _ _ _; first | refine pkt rfl tbL evL ?_ | refine pkf rfl tbL evL ?_) | refine extr rfl rfl ?_ | refine fad rfl ?_ | (show SH _ _ _ _ _ (⟨_, .build _ _, _, _, _, _⟩ :: _) _ _ _; first | refine bld rfl rfl ?_ | refine bldZ ?_ | refine bldZN ?_) | (show SH _ _ _ _ _ (⟨_, .alloc _, _, _, _, _⟩ :: _) _ _ _; first | refine al1 rfl (fun b => ?_) | refine ala rfl (fun b => ?_)) | (show SH _ _ _ _ _ (⟨_, .box _ _, _, _, _, _⟩ :: _) _ _ _; refine bxx rfl evL rfl (fun b => ?_)) | (show SH _ _ _ _ _ (⟨_, .store _ _ _, _, _, _, _⟩ :: _) _ _ _; first | refine stb rfl rfl evL spL rfl rfl (by first | decide | exact Nat.zero_lt_succ _ | exact of_decide_eq_true rfl) kpL ?_ | refine sta rfl rfl rfl spL (by rfl) (by rfl) (by rfl) kpL ?_ | refine sti rfl rfl rfl spL omL kpL ?_ | refine sbi rfl rfl rfl spL omL kpL ?_ | refine sbs rfl rfl evL spL (by rfl) (by rfl) (of_decide_eq_true rfl) kpL ?_) | (show SH _ _ _ _ _ (⟨_, .buildSlice _ _ _, _, _, _, _⟩ :: _) _ _ _; refine bsl (α := Int) rfl rfl (by repeat (first | exact Vals.nil | (apply Vals.cons; rfl))) rfl (by rfl) (by decide) (fun b => ?_))) | refine s_nil ?_ | refine s_fork ?_ ?_ | refine s_fork3 ?_ ?_ ?_ | refine s_fork4 ?_ ?_ ?_ ?_ | refine kh_normal ?_ | refine kh_ret ?_ | refine kh_exit ?_ | refine bh_normal ?_ | refine bh_ret ?_ | refine bh_exit ?_ | refine bh_exit_ne rfl ?_))
                refine app (l := F) (l2 := [(⟨who, t + 600⟩ : Inv)]) rfl rfl rfl spL (fun w hw => hw.rd spL) rfl rfl rfl (by simp only [List.length_singleton]; omega) (by simp only [List.length_singleton]; omega) (fun A4 c4 => ⟨enL, ?_⟩)
                (repeat' (first | refine r_seq ?_ | (show SH _ _ _ _ _ (_ :: _) _ _ _; first | (show SH _ _ _ _ _ (⟨_, .move _, _, _, _, _⟩ :: _) _ _ _; refine mov evL ?_) | (show SH _ _ _ _ _ (⟨_, .assign _, _, _, _, _⟩ :: _) _ _ _; refine asg evL ?_) | (show SH _ _ _ _ _ (⟨_, .load _ _, _, _, _, _⟩ :: _) _ _ _; first | refine lbx rfl spL (by rfl) ?_ | refine lag rfl (fun _ _ => rdK) (by rfl) omL (by assumption) ?_) | (show SH _ _ _ _ _ (⟨_, .indexAddr _ _ _, _, _, _, _⟩ :: _) _ _ _; refine ix rfl rfl (by with_reducible rfl) (fun _ _ => rdK) (by rfl) omL omL ?_) | refine fad rfl ?_) | refine s_nil ?_ | refine kh_normal ?_))
                refine bsl (l := [(⟨vw, vt⟩ : Inv)]) rfl rfl (Vals.cons rfl Vals.nil) rfl rfl (by decide) (fun b9 => ?_)
                (repeat' (first | (show VH _ _ _ _ _ _ _; first | refine v_seq ?_ | refine r_seq ?_ | refine r_quiet hmix (by kernel_rfl) ?_ | refine v_block ?_ | refine v_ret ?_ | refine v_skip ?_ | refine v_exit ?_ | refine v_label ?_ | refine v_cond_t rfl tbL ?_ | refine v_cond_f rfl tbL ?_ | refine v_cond_dec rfl (fun h => ?_) (fun h => ?_) | refine v_cond_ndec rfl (fun h => ?_) (fun h => ?_) | refine v_cond rfl (fun h => ?_) (fun h => ?_)) | (show SH _ _ _ _ _ (_ :: _) _ _ _; first | (show SH _ _ _ _ _ (⟨_, _, _, _, _, some _⟩ :: _) _ _ _; first | (refine gif rfl rfl ?_; first | refine giTT tbL ?_ | refine giTF tbL ?_ | refine giFF tbL ?_ | refine giFT tbL ?_ | refine giTd (fun h => ?_) (fun h => ?_) | refine giFd (fun h => ?_) (fun h => ?_) | refine giT (fun h => ?_) (fun h => ?_) | refine giF (fun h => ?_) (fun h => ?_)) | refine gu rfl rfl ?_ | refine grT rfl rfl tbL ?_ | refine grF rfl rfl tbL ?_) | (show SH _ _ _ _ _ (⟨_, .move _, _, _, _, _⟩ :: _) _ _ _; refine mov evL ?_) | (show SH _ _ _ _ _ (⟨_, .assign _, _, _, _, _⟩ :: _) _ _ _; refine asg evL ?_) | (show SH _ _ _ _ _ (⟨_, .binOp .lss _ _ _ _, _, _, _, _⟩ :: _) _ _ _; first | refine lssT rfl rfl omD ?_ | refine lssF rfl rfl omD ?_ | refine lss rfl rfl ?_) | (show SH _ _ _ _ _ (⟨_, .binOp .gtr _ _ _ _, _, _, _, _⟩ :: _) _ _ _; first | refine gtrT rfl rfl omD ?_ | refine gtrF rfl rfl omD ?_ | refine gtr rfl rfl ?_) | (show SH _ _ _ _ _ (⟨_, .binOp .geq _ _ _ _, _, _, _, _⟩ :: _) _ _ _; first | refine geqT rfl rfl omD ?_ | refine geqF rfl rfl omD ?_ | refine geq rfl rfl ?_) | (show SH _ _ _ _ _ (⟨_, .binOp .eql _ _ _ _, _, _, _, _⟩ :: _) _ _ _; first | refine eqlT rfl rfl omD ?_ | refine eqlF rfl rfl omD ?_ | refine eql rfl rfl ?_ | refine eqn rfl rfl ?_ | refine eqb rfl rfl ?_) | (show SH _ _ _ _ _ (⟨_, .binOp .neq _ _ _ _, _, _, _, _⟩ :: _) _ _ _; first | refine neqT rfl rfl omD ?_ | refine neqF rfl rfl omD ?_ | refine neq rfl rfl ?_ | refine nen rfl rfl ?_ | refine neb rfl rfl ?_) | (show SH _ _ _ _ _ (⟨_, .binOp .add _ _ _ _, _, _, _, _⟩ :: _) _ _ _; refine add rfl rfl inL ?_) | (show SH _ _ _ _ _ (⟨_, .load _ _, _, _, _, _⟩ :: _) _ _ _; first | refine lbx rfl spL (by rfl) ?_ | refine lba rfl spL (by rfl) ?_ | refine lbs rfl spL (by rfl) (by rfl) ?_ | refine lgi rfl (fun _ _ => rdK) omL (by assumption) ?_ | refine lag rfl (fun _ _ => rdK) (by rfl) omL (by assumption) ?_ | refine lrg rfl (fun _ _ => rdK) (by rfl) omL (by assumption) (by rfl) ?_ | refine lin rfl (fun _ _ => rdK) omL ?_ | refine lbi rfl spL omL ?_ | refine lr1 rfl (fun _ _ => rdK) (by rfl) omL (by rfl) ?_ | refine lra rfl (fun _ _ => rdK) (by rfl) omL ?_ | refine lrf rfl (fun _ _ => rdK) (by rfl) omL (by rfl) ?_ | refine lcell rfl (fun w hw => hw.ext.cell (by assumption)) ?_ | refine lrs rfl (fun _ _ => rdK) (by rfl) omL (by rfl) (by rfl) ?_ | refine lca rfl (fun _ _ => rdK) (by rfl) ?_ | refine lcs rfl (fun _ _ => rdK) (by rfl) ?_ | refine lcf rfl (fun _ _ => rdK) (by rfl) ?_ | refine lrf rfl (fun _ _ => rdK) (by rfl) (by simp only [List.length_cons, List.length_nil]; omega) (by rfl) ?_ | refine lra rfl (fun _ _ => rdK) (by rfl) (by simp only [List.length_cons, List.length_nil]; omega) ?_) | (show SH _ _ _ _ _ (⟨_, .indexAddr _ _ _, _, _, _, _⟩ :: _) _ _ _; first | refine ix rfl rfl (by with_reducible rfl) (fun _ _ => rdK) (by rfl) omL omL ?_ | refine ixi rfl rfl (fun _ _ => rdK) (by rfl) omL omL omL ?_ | refine ixb rfl rfl omL ?_ | refine ixq rfl rfl (by assumption) omL omL ?_ | refine ixA _ rfl rfl rfl omL ?_ | refine ixi rfl rfl (fun _ _ => rdK) (by rfl) omL (by first | omega | (simp only [List.length_cons, List.length_nil]; omega)) (by simp only [List.length_cons, List.length_nil]; omega) ?_) | (show SH _ _ _ _ _ (⟨_, .call ⟨.builtin _, _, _⟩, _, _, _, _⟩ :: _) _ _ _; first | refine slen rfl ?_ | refine lnm rfl spL ?_) | (show SH _ _ _ _ _ (⟨_, .unOp .not _ _, _, _, _, _⟩ :: _) _ _ _; first | refine bnoT rfl ?_ | refine bnoF rfl ?_ | refine bnot rfl ?_) | (show SH _ _ _ _ _ (⟨_, .pick _ _ _, _, _, _, _⟩ :: _) _ _ _; first | refine pkt rfl tbL evL ?_ | refine pkf rfl tbL evL ?_) | refine extr rfl rfl ?_ | refine fad rfl ?_ | (show SH _ _ _ _ _ (⟨_, .build _ _, _, _, _, _⟩ :: _) _ _ _; first | refine bld rfl rfl ?_ | refine bldZ ?_ | refine bldZN ?_) | (show SH _ _ _ _ _ (⟨_, .alloc _, _, _, _, _⟩ :: _) _ _ _; first | refine al1 rfl (fun b => ?_) | refine ala rfl (fun b => ?_)) | (show SH _ _ _ _ _ (⟨_, .box _ _, _, _, _, _⟩ :: _) _ _ _; refine bxx rfl evL rfl (fun b => ?_)) | (show SH _ _ _ _ _ (⟨_, .store _ _ _, _, _, _, _⟩ :: _) _ _ _; first | refine stb rfl rfl evL spL rfl rfl (by first | decide | exact Nat.zero_lt_succ _ | exact of_decide_eq_true rfl) kpL ?_ | refine sta rfl rfl rfl spL (by rfl) (by rfl) (by rfl) kpL ?_ | refine sti rfl rfl rfl spL omL kpL ?_ | refine sbi rfl rfl rfl spL omL kpL ?_ | refine sbs rfl rfl evL spL (by rfl) (by rfl) (of_decide_eq_true rfl) kpL ?_) | (show SH _ _ _ _ _ (⟨_, .buildSlice _ _ _, _, _, _, _⟩ :: _) _ _ _; refine bsl (α := Int) rfl rfl (by repeat (first | exact Vals.nil | (apply Vals.cons; rfl))) rfl (by rfl) (by decide) (fun b => ?_))) | refine s_nil ?_ | refine s_fork ?_ ?_ | refine s_fork3 ?_ ?_ ?_ | refine s_fork4 ?_ ?_ ?_ ?_ | refine kh_normal ?_ | refine kh_ret ?_ | refine kh_exit ?_ | refine bh_normal ?_ | refine bh_ret ?_ | refine bh_exit ?_ | refine bh_exit_ne rfl ?_))
                refine app (l := F ++ [(⟨who, t + 600⟩ : Inv)]) (l2 := [(⟨vw, vt⟩ : Inv)]) rfl rfl rfl spL (fun w hw => hw.rd spL) rfl rfl rfl (by simp only [List.length_append, List.length_singleton]; omega) (by simp only [List.length_append, List.length_singleton]; omega) (fun A5 c5 => ⟨enL, ?_⟩)
                (repeat' (first | refine r_seq ?_ | (show SH _ _ _ _ _ (_ :: _) _ _ _; first | (show SH _ _ _ _ _ (⟨_, .move _, _, _, _, _⟩ :: _) _ _ _; refine mov evL ?_) | (show SH _ _ _ _ _ (⟨_, .assign _, _, _, _, _⟩ :: _) _ _ _; refine asg evL ?_) | (show SH _ _ _ _ _ (⟨_, .binOp .add _ _ _ _, _, _, _, _⟩ :: _) _ _ _; refine add rfl rfl inL ?_)) | refine s_nil ?_ | refine kh_normal ?_ | refine bh_normal ?_))
                exact ⟨agL, (i + 1, true, A5, c5), by rw [hF]; (repeat (first | exact trivial | refine And.intro rfl ?_)), by rw [hF]; exact enL, ⟨hil, hPn⟩, by show xv.length - (i + 1) < xv.length - i; omega⟩
              · obtain ⟨hPn, hF⟩ := hP3 rfl (by omega)
                clear hP1 hP2 hP3 hdup
                generalize putAt ⟨who, t + 600⟩ xv i false = F at hF hpl ⊢
                (repeat' (first | (show VH _ _ _ _ _ _ _; first | refine v_seq ?_ | refine r_seq ?_ | refine v_block ?_ | refine v_skip ?_ | refine v_cond_t rfl tbL ?_ | refine v_cond_f rfl tbL ?_) | (show SH _ _ _ _ _ (_ :: _) _ _ _; first | (show SH _ _ _ _ _ (⟨_, _, _, _, _, some _⟩ :: _) _ _ _; (refine gif rfl rfl ?_; refine giTF tbL ?_)) | (show SH _ _ _ _ _ (⟨_, .move _, _, _, _, _⟩ :: _) _ _ _; refine mov evL ?_) | (show SH _ _ _ _ _ (⟨_, .binOp .lss _ _ _ _, _, _, _, _⟩ :: _) _ _ _; refine lssT rfl rfl omD ?_) | (show SH _ _ _ _ _ (⟨_, .binOp .gtr _ _ _ _, _, _, _, _⟩ :: _) _ _ _; refine gtrF rfl rfl omD ?_) | (show SH _ _ _ _ _ (⟨_, .binOp .eql _ _ _ _, _, _, _, _⟩ :: _) _ _ _; refine eqlF rfl rfl omD ?_) | (show SH _ _ _ _ _ (⟨_, .load _ _, _, _, _, _⟩ :: _) _ _ _; first | refine lbx rfl spL (by rfl) ?_ | refine lag rfl (fun _ _ => rdK) (by rfl) omL (by assumption) ?_ | refine lrg rfl (fun _ _ => rdK) (by rfl) omL (by assumption) (by rfl) ?_) | (show SH _ _ _ _ _ (⟨_, .indexAddr _ _ _, _, _, _, _⟩ :: _) _ _ _; refine ix rfl rfl (by with_reducible rfl) (fun _ _ => rdK) (by rfl) omL omL ?_) | refine slen rfl ?_ | (show SH _ _ _ _ _ (⟨_, .pick _ _ _, _, _, _, _⟩ :: _) _ _ _; refine pkf rfl tbL evL ?_) | refine fad rfl ?_) | refine s_nil ?_ | refine kh_normal ?_))
                refine bsl (l := [(⟨vw, vt⟩ : Inv)]) rfl rfl (Vals.cons rfl Vals.nil) rfl rfl (by decide) (fun b9 => ?_)
                (repeat' (first | (show VH _ _ _ _ _ _ _; first | refine v_seq ?_ | refine r_seq ?_ | refine r_quiet hmix (by kernel_rfl) ?_ | refine v_block ?_ | refine v_ret ?_ | refine v_skip ?_ | refine v_exit ?_ | refine v_label ?_ | refine v_cond_t rfl tbL ?_ | refine v_cond_f rfl tbL ?_ | refine v_cond_dec rfl (fun h => ?_) (fun h => ?_) | refine v_cond_ndec rfl (fun h => ?_) (fun h => ?_) | refine v_cond rfl (fun h => ?_) (fun h => ?_)) | (show SH _ _ _ _ _ (_ :: _) _ _ _; first | (show SH _ _ _ _ _ (⟨_, _, _, _, _, some _⟩ :: _) _ _ _; first | (refine gif rfl rfl ?_; first | refine giTT tbL ?_ | refine giTF tbL ?_ | refine giFF tbL ?_ | refine giFT tbL ?_ | refine giTd (fun h => ?_) (fun h => ?_) | refine giFd (fun h => ?_) (fun h => ?_) | refine giT (fun h => ?_) (fun h => ?_) | refine giF (fun h => ?_) (fun h => ?_)) | refine gu rfl rfl ?_ | refine grT rfl rfl tbL ?_ | refine grF rfl rfl tbL ?_) | (show SH _ _ _ _ _ (⟨_, .move _, _, _, _, _⟩ :: _) _ _ _; refine mov evL ?_) | (show SH _ _ _ _ _ (⟨_, .assign _, _, _, _, _⟩ :: _) _ _ _; refine asg evL ?_) | (show SH _ _ _ _ _ (⟨_, .binOp .lss _ _ _ _, _, _, _, _⟩ :: _) _ _ _; first | refine lssT rfl rfl omD ?_ | refine lssF rfl rfl omD ?_ | refine lss rfl rfl ?_) | (show SH _ _ _ _ _ (⟨_, .binOp .gtr _ _ _ _, _, _, _, _⟩ :: _) _ _ _; first | refine gtrT rfl rfl omD ?_ | refine gtrF rfl rfl omD ?_ | refine gtr rfl rfl ?_) | (show SH _ _ _ _ _ (⟨_, .binOp .geq _ _ _ _, _, _, _, _⟩ :: _) _ _ _; first | refine geqT rfl rfl omD ?_ | refine geqF rfl rfl omD ?_ | refine geq rfl rfl ?_) | (show SH _ _ _ _ _ (⟨_, .binOp .eql _ _ _ _, _, _, _, _⟩ :: _) _ _ _; first | refine eqlT rfl rfl omD ?_ | refine eqlF rfl rfl omD ?_ | refine eql rfl rfl ?_ | refine eqn rfl rfl ?_ | refine eqb rfl rfl ?_) | (show SH _ _ _ _ _ (⟨_, .binOp .neq _ _ _ _, _, _, _, _⟩ :: _) _ _ _; first | refine neqT rfl rfl omD ?_ | refine neqF rfl rfl omD ?_ | refine neq rfl rfl ?_ | refine nen rfl rfl ?_ | refine neb rfl rfl ?_) | (show SH _ _ _ _ _ (⟨_, .binOp .add _ _ _ _, _, _, _, _⟩ :: _) _ _ _; refine add rfl rfl inL ?_) | (show SH _ _ _ _ _ (⟨_, .load _ _, _, _, _, _⟩ :: _) _ _ _; first | refine lbx rfl spL (by rfl) ?_ | refine lba rfl spL (by rfl) ?_ | refine lbs rfl spL (by rfl) (by rfl) ?_ | refine lgi rfl (fun _ _ => rdK) omL (by assumption) ?_ | refine lag rfl (fun _ _ => rdK) (by rfl) omL (by assumption) ?_ | refine lrg rfl (fun _ _ => rdK) (by rfl) omL (by assumption) (by rfl) ?_ | refine lin rfl (fun _ _ => rdK) omL ?_ | refine lbi rfl spL omL ?_ | refine lr1 rfl (fun _ _ => rdK) (by rfl) omL (by rfl) ?_ | refine lra rfl (fun _ _ => rdK) (by rfl) omL ?_ | refine lrf rfl (fun _ _ => rdK) (by rfl) omL (by rfl) ?_ | refine lcell rfl (fun w hw => hw.ext.cell (by assumption)) ?_ | refine lrs rfl (fun _ _ => rdK) (by rfl) omL (by rfl) (by rfl) ?_ | refine lca rfl (fun _ _ => rdK) (by rfl) ?_ | refine lcs rfl (fun _ _ => rdK) (by rfl) ?_ | refine lcf rfl (fun _ _ => rdK) (by rfl) ?_ | refine lrf rfl (fun _ _ => rdK) (by rfl) (by simp only [List.length_cons, List.length_nil]; omega) (by rfl) ?_ | refine lra rfl (fun _ _ => rdK) (by rfl) (by simp only [List.length_cons, List.length_nil]; omega) ?_) | (show SH _ _ _ _ _ (⟨_, .indexAddr _ _ _, _, _, _, _⟩ :: _) _ _ _; first | refine ix rfl rfl (by with_reducible rfl) (fun _ _ => rdK) (by rfl) omL omL ?_ | refine ixi rfl rfl (fun _ _ => rdK) (by rfl) omL omL omL ?_ | refine ixb rfl rfl omL ?_ | refine ixq rfl rfl (by assumption) omL omL ?_ | refine ixA _ rfl rfl rfl omL ?_ | refine ixi rfl rfl (fun _ _ => rdK) (by rfl) omL (by first | omega | (simp only [List.length_cons, List.length_nil]; omega)) (by simp only [List.length_cons, List.length_nil]; omega) ?_) | (show SH _ _ _ _ _ (⟨_, .call ⟨.builtin _, _, _⟩, _, _, _, _⟩ :: _) _ _ _; first | refine slen rfl ?_ | refine lnm rfl spL ?_) | (show SH _ _ _ _ _ (⟨_, .unOp .not _ _, _, _, _, _⟩ :: _) _ _ _; first | refine bnoT rfl ?_ | refine bnoF rfl ?_ | refine bnot rfl ?_) | (show SH _ _ _ _ _ (⟨_, .pick _ _ _, _, _, _, _⟩ :: _) _ _ _; first | refine pkt rfl tbL evL ?_ | refine pkf rfl tbL evL ?_) | refine extr rfl rfl ?_ | refine fad rfl ?_ | (show SH _ _ _ _ _ (⟨_, .build _ _, _, _, _, _⟩ :: _) _ _ _; first | refine bld rfl rfl ?_ | refine bldZ ?_ | refine bldZN ?_) | (show SH _ _ _ _ _ (⟨_, .alloc _, _, _, _, _⟩ :: _) _ _ _; first | refine al1 rfl (fun b => ?_) | refine ala rfl (fun b => ?_)) | (show SH _ _ _ _ _ (⟨_, .box _ _, _, _, _, _⟩ :: _) _ _ _; refine bxx rfl evL rfl (fun b => ?_)) | (show SH _ _ _ _ _ (⟨_, .store _ _ _, _, _, _, _⟩ :: _) _ _ _; first | refine stb rfl rfl evL spL rfl rfl (by first | decide | exact Nat.zero_lt_succ _ | exact of_decide_eq_true rfl) kpL ?_ | refine sta rfl rfl rfl spL (by rfl) (by rfl) (by rfl) kpL ?_ | refine sti rfl rfl rfl spL omL kpL ?_ | refine sbi rfl rfl rfl spL omL kpL ?_ | refine sbs rfl rfl evL spL (by rfl) (by rfl) (of_decide_eq_true rfl) kpL ?_) | (show SH _ _ _ _ _ (⟨_, .buildSlice _ _ _, _, _, _, _⟩ :: _) _ _ _; refine bsl (α := Int) rfl rfl (by repeat (first | exact Vals.nil | (apply Vals.cons; rfl))) rfl (by rfl) (by decide) (fun b => ?_))) | refine s_nil ?_ | refine s_fork ?_ ?_ | refine s_fork3 ?_ ?_ ?_ | refine s_fork4 ?_ ?_ ?_ ?_ | refine kh_normal ?_ | refine kh_ret ?_ | refine kh_exit ?_ | refine bh_normal ?_ | refine bh_ret ?_ | refine bh_exit ?_ | refine bh_exit_ne rfl ?_))
                refine app (l := F) (l2 := [(⟨vw, vt⟩ : Inv)]) rfl rfl rfl spL (fun w hw => hw.rd spL) rfl rfl rfl (by simp only [List.length_singleton]; omega) (by simp only [List.length_singleton]; omega) (fun A4 c4 => ⟨enL, ?_⟩)
                (repeat' (first | refine r_seq ?_ | (show SH _ _ _ _ _ (_ :: _) _ _ _; first | (show SH _ _ _ _ _ (⟨_, .move _, _, _, _, _⟩ :: _) _ _ _; refine mov evL ?_) | (show SH _ _ _ _ _ (⟨_, .assign _, _, _, _, _⟩ :: _) _ _ _; refine asg evL ?_) | (show SH _ _ _ _ _ (⟨_, .binOp .add _ _ _ _, _, _, _, _⟩ :: _) _ _ _; refine add rfl rfl inL ?_)) | refine s_nil ?_ | refine kh_normal ?_ | refine bh_normal ?_))
                exact ⟨agL, (i + 1, false, A4, c4), by rw [hF]; (repeat (first | exact trivial | refine And.intro rfl ?_)), by rw [hF]; exact enL, ⟨hil, hPn⟩, by show xv.length - (i + 1) < xv.length - i; omega⟩
        · obtain rfl : i = xv.length := by omega
          have hno := put_no hP
          rw [if_neg hno]
          have hIl := insI_len ⟨who, t + 600⟩ xv
          clear hno hxw
          cases pb with
          | true =>
            have hF := put_end1 (x := ⟨who, t + 600⟩) (l := xv)
            clear hP
            rw [hF]
            by_cases hfu : xm.length + xv.length < 5
            · rw [if_pos hfu]
              generalize insI ⟨who, t + 600⟩ xv = G at hIl hF ⊢
              (repeat' (first | (show VH _ _ _ _ _ _ _; first | refine v_seq ?_ | refine r_seq ?_ | refine v_skip ?_ | refine v_exit ?_ | refine v_cond_f rfl tbL ?_) | (show SH _ _ _ _ _ (_ :: _) _ _ _; first | (show SH _ _ _ _ _ (⟨_, .move _, _, _, _, _⟩ :: _) _ _ _; refine mov evL ?_) | (show SH _ _ _ _ _ (⟨_, .binOp .lss _ _ _ _, _, _, _, _⟩ :: _) _ _ _; refine lssF rfl rfl omD ?_) | (show SH _ _ _ _ _ (⟨_, .binOp .gtr _ _ _ _, _, _, _, _⟩ :: _) _ _ _; refine gtrF rfl rfl omD ?_) | (show SH _ _ _ _ _ (⟨_, .binOp .add _ _ _ _, _, _, _, _⟩ :: _) _ _ _; refine add rfl rfl inL ?_) | (show SH _ _ _ _ _ (⟨_, .load _ _, _, _, _, _⟩ :: _) _ _ _; first | refine lbx rfl spL (by rfl) ?_ | refine lba rfl spL (by rfl) ?_) | refine slen rfl ?_ | (show SH _ _ _ _ _ (⟨_, .call ⟨.value (.func 101), _, _⟩, _, _, _, _⟩ :: _) _ _ _; refine cp (callee := .func 101) rfl (fun w hw => hW ⟨⟨xi, xl, xm, G⟩, xA, xca, B, d⟩ w (rd_thk hA hw spL)) rfl rfl ?_) | refine bnoT rfl ?_ | refine fad rfl ?_ | (show SH _ _ _ _ _ (⟨_, .store _ _ _, _, _, _, _⟩ :: _) _ _ _; refine stb rfl rfl evL spL rfl rfl (by first | decide | exact Nat.zero_lt_succ _ | exact of_decide_eq_true rfl) kpL ?_)) | refine s_nil ?_ | refine kh_normal ?_ | refine kh_exit ?_ | refine bh_exit ?_))
              rintro _ _ ⟨A2, c2, hcap, rfl, rfl⟩
              (repeat' (first | refine v_ret ?_ | (show SH _ _ _ _ _ (_ :: _) _ _ _; first | (show SH _ _ _ _ _ (⟨_, .assign _, _, _, _, _⟩ :: _) _ _ _; refine asg evL ?_) | (show SH _ _ _ _ _ (⟨_, .store _ _ _, _, _, _, _⟩ :: _) _ _ _; refine sta rfl rfl rfl spL (by rfl) (by rfl) (by rfl) kpL ?_)) | refine s_nil ?_ | refine kh_normal ?_))
              exact rhC2 rfl rfl rfl rfl (fun w hw => loadVar_bx hw spL (by rfl)) ⟨A2, c2, L.set k ⟨⟨xi, xl, xm, G⟩, xA, xca, B, d⟩, hnx _, hcap, rfl, rfl⟩ (Ent.trans (B := orow 43 A2 c2 (L.set k ⟨⟨xi, xl, xm, G⟩, xA, xca, B, d⟩) :: orow 40 B d G :: kno Φ :: H) enL (ent_ref_inv fun w h1 h2 => hin ⟨⟨xi, xl, xm, G⟩, xA, xca, B, d⟩ rfl rfl w h1 h2))
            · rw [if_neg hfu]
              generalize insI ⟨who, t + 600⟩ xv = G at hIl hF ⊢
              (repeat' (first | (show VH _ _ _ _ _ _ _; first | refine v_seq ?_ | refine r_seq ?_ | refine v_ret ?_ | refine v_skip ?_ | refine v_exit ?_ | refine v_cond_t rfl tbL ?_ | refine v_cond_f rfl tbL ?_) | (show SH _ _ _ _ _ (_ :: _) _ _ _; first | (show SH _ _ _ _ _ (⟨_, .move _, _, _, _, _⟩ :: _) _ _ _; refine mov evL ?_) | (show SH _ _ _ _ _ (⟨_, .assign _, _, _, _, _⟩ :: _) _ _ _; refine asg evL ?_) | (show SH _ _ _ _ _ (⟨_, .binOp .lss _ _ _ _, _, _, _, _⟩ :: _) _ _ _; refine lssF rfl rfl omD ?_) | (show SH _ _ _ _ _ (⟨_, .binOp .gtr _ _ _ _, _, _, _, _⟩ :: _) _ _ _; refine gtrT rfl rfl omD ?_) | (show SH _ _ _ _ _ (⟨_, .binOp .add _ _ _ _, _, _, _, _⟩ :: _) _ _ _; refine add rfl rfl inL ?_) | (show SH _ _ _ _ _ (⟨_, .load _ _, _, _, _, _⟩ :: _) _ _ _; refine lbx rfl spL (by rfl) ?_) | refine slen rfl ?_ | refine bnoT rfl ?_ | refine fad rfl ?_ | refine bld rfl rfl ?_ | (show SH _ _ _ _ _ (⟨_, .store _ _ _, _, _, _, _⟩ :: _) _ _ _; refine sta rfl rfl rfl spL (by rfl) (by rfl) (by rfl) kpL ?_)) | refine s_nil ?_ | refine kh_normal ?_ | refine kh_ret ?_ | refine kh_exit ?_ | refine bh_exit ?_))
              exact rhC2 rfl rfl rfl rfl (fun w hw => loadVar_bx hw spL (by rfl)) refC0 (Ent.trans (B := kno Φ :: H) enL ent_ref0)
          | false =>
            have hF := put_end0 hP
            have hpl := putAt_len (x := ⟨who, t + 600⟩) (Nat.le_refl xv.length) false
            clear hP
            generalize putAt ⟨who, t + 600⟩ xv xv.length false = F at hF hpl ⊢
            have hFl : F.length = xv.length := by
              have := congrArg List.length hF
              rw [hIl, List.length_append, List.length_singleton] at this
              omega
            by_cases hfu : xm.length + xv.length < 5
            · rw [if_pos hfu, ← hF]
              clear hF hIl
              (repeat' (first | (show VH _ _ _ _ _ _ _; first | refine v_seq ?_ | refine r_seq ?_ | refine v_exit ?_ | refine v_cond_t rfl tbL ?_ | refine v_cond_f rfl tbL ?_) | (show SH _ _ _ _ _ (_ :: _) _ _ _; first | (show SH _ _ _ _ _ (⟨_, .move _, _, _, _, _⟩ :: _) _ _ _; refine mov evL ?_) | (show SH _ _ _ _ _ (⟨_, .binOp .lss _ _ _ _, _, _, _, _⟩ :: _) _ _ _; refine lssF rfl rfl omD ?_) | (show SH _ _ _ _ _ (⟨_, .binOp .add _ _ _ _, _, _, _, _⟩ :: _) _ _ _; refine add rfl rfl inL ?_) | (show SH _ _ _ _ _ (⟨_, .load _ _, _, _, _, _⟩ :: _) _ _ _; refine lbx rfl spL (by rfl) ?_) | refine slen rfl ?_ | refine bnoF rfl ?_ | refine fad rfl ?_ | refine bld rfl rfl ?_) | refine s_nil ?_ | refine kh_normal ?_ | refine kh_exit ?_ | refine bh_exit ?_))
              refine bsl (l := [(⟨who, t + 600⟩ : Inv)]) rfl rfl (Vals.cons rfl Vals.nil) rfl rfl (by decide) (fun b9 => ?_)
              (repeat' (first | (show VH _ _ _ _ _ _ _; first | refine v_seq ?_ | refine r_seq ?_ | refine r_quiet hmix (by kernel_rfl) ?_ | refine v_block ?_ | refine v_ret ?_ | refine v_skip ?_ | refine v_exit ?_ | refine v_label ?_ | refine v_cond_t rfl tbL ?_ | refine v_cond_f rfl tbL ?_ | refine v_cond_dec rfl (fun h => ?_) (fun h => ?_) | refine v_cond_ndec rfl (fun h => ?_) (fun h => ?_) | refine v_cond rfl (fun h => ?_) (fun h => ?_)) | (show SH _ _ _ _ _ (_ :: _) _ _ _; first | (show SH _ _ _ _ _ (⟨_, _, _, _, _, some _⟩ :: _) _ _ _; first | (refine gif rfl rfl ?_; first | refine giTT tbL ?_ | refine giTF tbL ?_ | refine giFF tbL ?_ | refine giFT tbL ?_ | refine giTd (fun h => ?_) (fun h => ?_) | refine giFd (fun h => ?_) (fun h => ?_) | refine giT (fun h => ?_) (fun h => ?_) | refine giF (fun h => ?_) (fun h => ?_)) | refine gu rfl rfl ?_ | refine grT rfl rfl tbL ?_ | refine grF rfl rfl tbL ?_) | (show SH _ _ _ _ _ (⟨_, .move _, _, _, _, _⟩ :: _) _ _ _; refine mov evL ?_) | (show SH _ _ _ _ _ (⟨_, .assign _, _, _, _, _⟩ :: _) _ _ _; refine asg evL ?_) | (show SH _ _ _ _ _ (⟨_, .binOp .lss _ _ _ _, _, _, _, _⟩ :: _) _ _ _; first | refine lssT rfl rfl omD ?_ | refine lssF rfl rfl omD ?_ | refine lss rfl rfl ?_) | (show SH _ _ _ _ _ (⟨_, .binOp .gtr _ _ _ _, _, _, _, _⟩ :: _) _ _ _; first | refine gtrT rfl rfl omD ?_ | refine gtrF rfl rfl omD ?_ | refine gtr rfl rfl ?_) | (show SH _ _ _ _ _ (⟨_, .binOp .geq _ _ _ _, _, _, _, _⟩ :: _) _ _ _; first | refine geqT rfl rfl omD ?_ | refine geqF rfl rfl omD ?_ | refine geq rfl rfl ?_) | (show SH _ _ _ _ _ (⟨_, .binOp .eql _ _ _ _, _, _, _, _⟩ :: _) _ _ _; first | refine eqlT rfl rfl omD ?_ | refine eqlF rfl rfl omD ?_ | refine eql rfl rfl ?_ | refine eqn rfl rfl ?_ | refine eqb rfl rfl ?_) | (show SH _ _ _ _ _ (⟨_, .binOp .neq _ _ _ _, _, _, _, _⟩ :: _) _ _ _; first | refine neqT rfl rfl omD ?_ | refine neqF rfl rfl omD ?_ | refine neq rfl rfl ?_ | refine nen rfl rfl ?_ | refine neb rfl rfl ?_) | (show SH _ _ _ _ _ (⟨_, .binOp .add _ _ _ _, _, _, _, _⟩ :: _) _ _ _; refine add rfl rfl inL ?_) | (show SH _ _ _ _ _ (⟨_, .load _ _, _, _, _, _⟩ :: _) _ _ _; first | refine lbx rfl spL (by rfl) ?_ | refine lba rfl spL (by rfl) ?_ | refine lbs rfl spL (by rfl) (by rfl) ?_ | refine lgi rfl (fun _ _ => rdK) omL (by assumption) ?_ | refine lag rfl (fun _ _ => rdK) (by rfl) omL (by assumption) ?_ | refine lrg rfl (fun _ _ => rdK) (by rfl) omL (by assumption) (by rfl) ?_ | refine lin rfl (fun _ _ => rdK) omL ?_ | refine lbi rfl spL omL ?_ | refine lr1 rfl (fun _ _ => rdK) (by rfl) omL (by rfl) ?_ | refine lra rfl (fun _ _ => rdK) (by rfl) omL ?_ | refine lrf rfl (fun _ _ => rdK) (by rfl) omL (by rfl) ?_ | refine lcell rfl (fun w hw => hw.ext.cell (by assumption)) ?_ | refine lrs rfl (fun _ _ => rdK) (by rfl) omL (by rfl) (by rfl) ?_ | refine lca rfl (fun _ _ => rdK) (by rfl) ?_ | refine lcs rfl (fun _ _ => rdK) (by rfl) ?_ | refine lcf rfl (fun _ _ => rdK) (by rfl) ?_ | refine lrf rfl (fun _ _ => rdK) (by rfl) (by simp only [List.length_cons, List.length_nil]; omega) (by rfl) ?_ | refine lra rfl (fun _ _ => rdK) (by rfl) (by simp only [List.length_cons, List.length_nil]; omega) ?_) | (show SH _ _ _ _ _ (⟨_, .indexAddr _ _ _, _, _, _, _⟩ :: _) _ _ _; first | refine ix rfl rfl (by with_reducible rfl) (fun _ _ => rdK) (by rfl) omL omL ?_ | refine ixi rfl rfl (fun _ _ => rdK) (by rfl) omL omL omL ?_ | refine ixb rfl rfl omL ?_ | refine ixq rfl rfl (by assumption) omL omL ?_ | refine ixA _ rfl rfl rfl omL ?_ | refine ixi rfl rfl (fun _ _ => rdK) (by rfl) omL (by first | omega | (simp only [List.length_cons, List.length_nil]; omega)) (by simp only [List.length_cons, List.length_nil]; omega) ?_) | (show SH _ _ _ _ _ (⟨_, .call ⟨.builtin _, _, _⟩, _, _, _, _⟩ :: _) _ _ _; first | refine slen rfl ?_ | refine lnm rfl spL ?_) | (show SH _ _ _ _ _ (⟨_, .unOp .not _ _, _, _, _, _⟩ :: _) _ _ _; first | refine bnoT rfl ?_ | refine bnoF rfl ?_ | refine bnot rfl ?_) | (show SH _ _ _ _ _ (⟨_, .pick _ _ _, _, _, _, _⟩ :: _) _ _ _; first | refine pkt rfl tbL evL ?_ | refine pkf rfl tbL evL ?_) | refine extr rfl rfl ?_ | refine fad rfl ?_ | (show SH _ _ _ _ _ (⟨_, .build _ _, _, _, _, _⟩ :: _) _ _ _; first | refine bld rfl rfl ?_ | refine bldZ ?_ | refine bldZN ?_) | (show SH _ _ _ _ _ (⟨_, .alloc _, _, _, _, _⟩ :: _) _ _ _; first | refine al1 rfl (fun b => ?_) | refine ala rfl (fun b => ?_)) | (show SH _ _ _ _ _ (⟨_, .box _ _, _, _, _, _⟩ :: _) _ _ _; refine bxx rfl evL rfl (fun b => ?_)) | (show SH _ _ _ _ _ (⟨_, .store _ _ _, _, _, _, _⟩ :: _) _ _ _; first | refine stb rfl rfl evL spL rfl rfl (by first | decide | exact Nat.zero_lt_succ _ | exact of_decide_eq_true rfl) kpL ?_ | refine sta rfl rfl rfl spL (by rfl) (by rfl) (by rfl) kpL ?_ | refine sti rfl rfl rfl spL omL kpL ?_ | refine sbi rfl rfl rfl spL omL kpL ?_ | refine sbs rfl rfl evL spL (by rfl) (by rfl) (of_decide_eq_true rfl) kpL ?_) | (show SH _ _ _ _ _ (⟨_, .buildSlice _ _ _, _, _, _, _⟩ :: _) _ _ _; refine bsl (α := Int) rfl rfl (by repeat (first | exact Vals.nil | (apply Vals.cons; rfl))) rfl (by rfl) (by decide) (fun b => ?_))) | refine s_nil ?_ | refine s_fork ?_ ?_ | refine s_fork3 ?_ ?_ ?_ | refine s_fork4 ?_ ?_ ?_ ?_ | refine kh_normal ?_ | refine kh_ret ?_ | refine kh_exit ?_ | refine bh_normal ?_ | refine bh_ret ?_ | refine bh_exit ?_ | refine bh_exit_ne rfl ?_))
              refine app (l := F) (l2 := [(⟨who, t + 600⟩ : Inv)]) rfl rfl rfl spL (fun w hw => hw.rd spL) rfl rfl rfl (by simp only [List.length_singleton]; omega) (by simp only [List.length_singleton]; omega) (fun B4 d4 => ⟨enL, ?_⟩)
              have hGl : (F ++ [(⟨who, t + 600⟩ : Inv)]).length = F.length + 1 := by rw [List.length_append, List.length_singleton]
              generalize F ++ [(⟨who, t + 600⟩ : Inv)] = G at hGl ⊢
              (repeat' (first | (show VH _ _ _ _ _ _ _; first | refine v_seq ?_ | refine r_seq ?_ | refine v_skip ?_ | refine v_cond_f rfl tbL ?_) | (show SH _ _ _ _ _ (_ :: _) _ _ _; first | (show SH _ _ _ _ _ (⟨_, .move _, _, _, _, _⟩ :: _) _ _ _; refine mov evL ?_) | (show SH _ _ _ _ _ (⟨_, .assign _, _, _, _, _⟩ :: _) _ _ _; refine asg evL ?_) | (show SH _ _ _ _ _ (⟨_, .binOp .gtr _ _ _ _, _, _, _, _⟩ :: _) _ _ _; refine gtrF rfl rfl omD ?_) | (show SH _ _ _ _ _ (⟨_, .binOp .add _ _ _ _, _, _, _, _⟩ :: _) _ _ _; refine add rfl rfl inL ?_) | (show SH _ _ _ _ _ (⟨_, .load _ _, _, _, _, _⟩ :: _) _ _ _; first | refine lbx rfl spL (by rfl) ?_ | refine lba rfl spL (by rfl) ?_) | refine slen rfl ?_ | (show SH _ _ _ _ _ (⟨_, .call ⟨.value (.func 101), _, _⟩, _, _, _, _⟩ :: _) _ _ _; refine cp (callee := .func 101) rfl (fun w hw => hW ⟨⟨xi, xl, xm, G⟩, xA, xca, B4, d4⟩ w (rd_thk hA hw spL)) rfl rfl ?_) | refine fad rfl ?_ | (show SH _ _ _ _ _ (⟨_, .store _ _ _, _, _, _, _⟩ :: _) _ _ _; refine stb rfl rfl evL spL rfl rfl (by first | decide | exact Nat.zero_lt_succ _ | exact of_decide_eq_true rfl) kpL ?_)) | refine s_nil ?_ | refine kh_normal ?_))
              rintro _ _ ⟨A2, c2, hcap, rfl, rfl⟩
              (repeat' (first | refine v_ret ?_ | (show SH _ _ _ _ _ (_ :: _) _ _ _; first | (show SH _ _ _ _ _ (⟨_, .assign _, _, _, _, _⟩ :: _) _ _ _; refine asg evL ?_) | (show SH _ _ _ _ _ (⟨_, .store _ _ _, _, _, _, _⟩ :: _) _ _ _; refine sta rfl rfl rfl spL (by rfl) (by rfl) (by rfl) kpL ?_)) | refine s_nil ?_ | refine kh_normal ?_))
              exact rhC2 rfl rfl rfl rfl (fun w hw => loadVar_bx hw spL (by rfl)) ⟨A2, c2, L.set k ⟨⟨xi, xl, xm, G⟩, xA, xca, B4, d4⟩, hnx _, hcap, rfl, rfl⟩ (Ent.trans (B := orow 43 A2 c2 (L.set k ⟨⟨xi, xl, xm, G⟩, xA, xca, B4, d4⟩) :: orow 40 B4 d4 G :: kno Φ :: H) enL (ent_ref_inv fun w h1 h2 => hin ⟨⟨xi, xl, xm, G⟩, xA, xca, B4, d4⟩ rfl rfl w h1 h2))
            · rw [if_neg hfu]
              clear hF hIl
              (repeat' (first | (show VH _ _ _ _ _ _ _; first | refine v_seq ?_ | refine r_seq ?_ | refine v_exit ?_ | refine v_cond_t rfl tbL ?_ | refine v_cond_f rfl tbL ?_) | (show SH _ _ _ _ _ (_ :: _) _ _ _; first | (show SH _ _ _ _ _ (⟨_, .move _, _, _, _, _⟩ :: _) _ _ _; refine mov evL ?_) | (show SH _ _ _ _ _ (⟨_, .binOp .lss _ _ _ _, _, _, _, _⟩ :: _) _ _ _; refine lssF rfl rfl omD ?_) | (show SH _ _ _ _ _ (⟨_, .binOp .add _ _ _ _, _, _, _, _⟩ :: _) _ _ _; refine add rfl rfl inL ?_) | (show SH _ _ _ _ _ (⟨_, .load _ _, _, _, _, _⟩ :: _) _ _ _; refine lbx rfl spL (by rfl) ?_) | refine slen rfl ?_ | refine bnoF rfl ?_ | refine fad rfl ?_ | refine bld rfl rfl ?_) | refine s_nil ?_ | refine kh_normal ?_ | refine kh_exit ?_ | refine bh_exit ?_))
              refine bsl (l := [(⟨who, t + 600⟩ : Inv)]) rfl rfl (Vals.cons rfl Vals.nil) rfl rfl (by decide) (fun b9 => ?_)
              (repeat' (first | (show VH _ _ _ _ _ _ _; first | refine v_seq ?_ | refine r_seq ?_ | refine r_quiet hmix (by kernel_rfl) ?_ | refine v_block ?_ | refine v_ret ?_ | refine v_skip ?_ | refine v_exit ?_ | refine v_label ?_ | refine v_cond_t rfl tbL ?_ | refine v_cond_f rfl tbL ?_ | refine v_cond_dec rfl (fun h => ?_) (fun h => ?_) | refine v_cond_ndec rfl (fun h => ?_) (fun h => ?_) | refine v_cond rfl (fun h => ?_) (fun h => ?_)) | (show SH _ _ _ _ _ (_ :: _) _ _ _; first | (show SH _ _ _ _ _ (⟨_, _, _, _, _, some _⟩ :: _) _ _ _; first | (refine gif rfl rfl ?_; first | refine giTT tbL ?_ | refine giTF tbL ?_ | refine giFF tbL ?_ | refine giFT tbL ?_ | refine giTd (fun h => ?_) (fun h => ?_) | refine giFd (fun h => ?_) (fun h => ?_) | refine giT (fun h => ?_) (fun h => ?_) | refine giF (fun h => ?_) (fun h => ?_)) | refine gu rfl rfl ?_ | refine grT rfl rfl tbL ?_ | refine grF rfl rfl tbL ?_) | (show SH _ _ _ _ _ (⟨_, .move _, _, _, _, _⟩ :: _) _ _ _; refine mov evL ?_) | (show SH _ _ _ _ _ (⟨_, .assign _, _, _, _, _⟩ :: _) _ _ _; refine asg evL ?_) | (show SH _ _ _ _ _ (⟨_, .binOp .lss _ _ _ _, _, _, _, _⟩ :: _) _ _ _; first | refine lssT rfl rfl omD ?_ | refine lssF rfl rfl omD ?_ | refine lss rfl rfl ?_) | (show SH _ _ _ _ _ (⟨_, .binOp .gtr _ _ _ _, _, _, _, _⟩ :: _) _ _ _; first | refine gtrT rfl rfl omD ?_ | refine gtrF rfl rfl omD ?_ | refine gtr rfl rfl ?_) | (show SH _ _ _ _ _ (⟨_, .binOp .geq _ _ _ _, _, _, _, _⟩ :: _) _ _ _; first | refine geqT rfl rfl omD ?_ | refine geqF rfl rfl omD ?_ | refine geq rfl rfl ?_) | (show SH _ _ _ _ _ (⟨_, .binOp .eql _ _ _ _, _, _, _, _⟩ :: _) _ _ _; first | refine eqlT rfl rfl omD ?_ | refine eqlF rfl rfl omD ?_ | refine eql rfl rfl ?_ | refine eqn rfl rfl ?_ | refine eqb rfl rfl ?_) | (show SH _ _ _ _ _ (⟨_, .binOp .neq _ _ _ _, _, _, _, _⟩ :: _) _ _ _; first | refine neqT rfl rfl omD ?_ | refine neqF rfl rfl omD ?_ | refine neq rfl rfl ?_ | refine nen rfl rfl ?_ | refine neb rfl rfl ?_) | (show SH _ _ _ _ _ (⟨_, .binOp .add _ _ _ _, _, _, _, _⟩ :: _) _ _ _; refine add rfl rfl inL ?_) | (show SH _ _ _ _ _ (⟨_, .load _ _, _, _, _, _⟩ :: _) _ _ _; first | refine lbx rfl spL (by rfl) ?_ | refine lba rfl spL (by rfl) ?_ | refine lbs rfl spL (by rfl) (by rfl) ?_ | refine lgi rfl (fun _ _ => rdK) omL (by assumption) ?_ | refine lag rfl (fun _ _ => rdK) (by rfl) omL (by assumption) ?_ | refine lrg rfl (fun _ _ => rdK) (by rfl) omL (by assumption) (by rfl) ?_ | refine lin rfl (fun _ _ => rdK) omL ?_ | refine lbi rfl spL omL ?_ | refine lr1 rfl (fun _ _ => rdK) (by rfl) omL (by rfl) ?_ | refine lra rfl (fun _ _ => rdK) (by rfl) omL ?_ | refine lrf rfl (fun _ _ => rdK) (by rfl) omL (by rfl) ?_ | refine lcell rfl (fun w hw => hw.ext.cell (by assumption)) ?_ | refine lrs rfl (fun _ _ => rdK) (by rfl) omL (by rfl) (by rfl) ?_ | refine lca rfl (fun _ _ => rdK) (by rfl) ?_ | refine lcs rfl (fun _ _ => rdK) (by rfl) ?_ | refine lcf rfl (fun _ _ => rdK) (by rfl) ?_ | refine lrf rfl (fun _ _ => rdK) (by rfl) (by simp only [List.length_cons, List.length_nil]; omega) (by rfl) ?_ | refine lra rfl (fun _ _ => rdK) (by rfl) (by simp only [List.length_cons, List.length_nil]; omega) ?_) | (show SH _ _ _ _ _ (⟨_, .indexAddr _ _ _, _, _, _, _⟩ :: _) _ _ _; first | refine ix rfl rfl (by with_reducible rfl) (fun _ _ => rdK) (by rfl) omL omL ?_ | refine ixi rfl rfl (fun _ _ => rdK) (by rfl) omL omL omL ?_ | refine ixb rfl rfl omL ?_ | refine ixq rfl rfl (by assumption) omL omL ?_ | refine ixA _ rfl rfl rfl omL ?_ | refine ixi rfl rfl (fun _ _ => rdK) (by rfl) omL (by first | omega | (simp only [List.length_cons, List.length_nil]; omega)) (by simp only [List.length_cons, List.length_nil]; omega) ?_) | (show SH _ _ _ _ _ (⟨_, .call ⟨.builtin _, _, _⟩, _, _, _, _⟩ :: _) _ _ _; first | refine slen rfl ?_ | refine lnm rfl spL ?_) | (show SH _ _ _ _ _ (⟨_, .unOp .not _ _, _, _, _, _⟩ :: _) _ _ _; first | refine bnoT rfl ?_ | refine bnoF rfl ?_ | refine bnot rfl ?_) | (show SH _ _ _ _ _ (⟨_, .pick _ _ _, _, _, _, _⟩ :: _) _ _ _; first | refine pkt rfl tbL evL ?_ | refine pkf rfl tbL evL ?_) | refine extr rfl rfl ?_ | refine fad rfl ?_ | (show SH _ _ _ _ _ (⟨_, .build _ _, _, _, _, _⟩ :: _) _ _ _; first | refine bld rfl rfl ?_ | refine bldZ ?_ | refine bldZN ?_) | (show SH _ _ _ _ _ (⟨_, .alloc _, _, _, _, _⟩ :: _) _ _ _; first | refine al1 rfl (fun b => ?_) | refine ala rfl (fun b => ?_)) | (show SH _ _ _ _ _ (⟨_, .box _ _, _, _, _, _⟩ :: _) _ _ _; refine bxx rfl evL rfl (fun b => ?_)) | (show SH _ _ _ _ _ (⟨_, .store _ _ _, _, _, _, _⟩ :: _) _ _ _; first | refine stb rfl rfl evL spL rfl rfl (by first | decide | exact Nat.zero_lt_succ _ | exact of_decide_eq_true rfl) kpL ?_ | refine sta rfl rfl rfl spL (by rfl) (by rfl) (by rfl) kpL ?_ | refine sti rfl rfl rfl spL omL kpL ?_ | refine sbi rfl rfl rfl spL omL kpL ?_ | refine sbs rfl rfl evL spL (by rfl) (by rfl) (of_decide_eq_true rfl) kpL ?_) | (show SH _ _ _ _ _ (⟨_, .buildSlice _ _ _, _, _, _, _⟩ :: _) _ _ _; refine bsl (α := Int) rfl rfl (by repeat (first | exact Vals.nil | (apply Vals.cons; rfl))) rfl (by rfl) (by decide) (fun b => ?_))) | refine s_nil ?_ | refine s_fork ?_ ?_ | refine s_fork3 ?_ ?_ ?_ | refine s_fork4 ?_ ?_ ?_ ?_ | refine kh_normal ?_ | refine kh_ret ?_ | refine kh_exit ?_ | refine bh_normal ?_ | refine bh_ret ?_ | refine bh_exit ?_ | refine bh_exit_ne rfl ?_))
              refine app (l := F) (l2 := [(⟨who, t + 600⟩ : Inv)]) rfl rfl rfl spL (fun w hw => hw.rd spL) rfl rfl rfl (by simp only [List.length_singleton]; omega) (by simp only [List.length_singleton]; omega) (fun B4 d4 => ⟨enL, ?_⟩)
              have hGl : (F ++ [(⟨who, t + 600⟩ : Inv)]).length = F.length + 1 := by rw [List.length_append, List.length_singleton]
              generalize F ++ [(⟨who, t + 600⟩ : Inv)] = G at hGl ⊢
              (repeat' (first | (show VH _ _ _ _ _ _ _; first | refine v_seq ?_ | refine r_seq ?_ | refine v_ret ?_ | refine v_cond_t rfl tbL ?_) | (show SH _ _ _ _ _ (_ :: _) _ _ _; first | (show SH _ _ _ _ _ (⟨_, .move _, _, _, _, _⟩ :: _) _ _ _; refine mov evL ?_) | (show SH _ _ _ _ _ (⟨_, .assign _, _, _, _, _⟩ :: _) _ _ _; refine asg evL ?_) | (show SH _ _ _ _ _ (⟨_, .binOp .gtr _ _ _ _, _, _, _, _⟩ :: _) _ _ _; refine gtrT rfl rfl omD ?_) | (show SH _ _ _ _ _ (⟨_, .binOp .add _ _ _ _, _, _, _, _⟩ :: _) _ _ _; refine add rfl rfl inL ?_) | (show SH _ _ _ _ _ (⟨_, .load _ _, _, _, _, _⟩ :: _) _ _ _; refine lbx rfl spL (by rfl) ?_) | refine slen rfl ?_ | refine fad rfl ?_ | refine bld rfl rfl ?_ | (show SH _ _ _ _ _ (⟨_, .store _ _ _, _, _, _, _⟩ :: _) _ _ _; refine sta rfl rfl rfl spL (by rfl) (by rfl) (by rfl) kpL ?_)) | refine s_nil ?_ | refine kh_normal ?_ | refine kh_ret ?_))
              exact rhC2 rfl rfl rfl rfl (fun w hw => loadVar_bx hw spL (by rfl)) refC0 (Ent.trans (B := kno Φ :: H) enL ent_ref0)
  · rw [if_neg he]
    clear hok
    refine enterH Tryz.func68 rfl rfl Tryz.ntmps68 rfl (by assumption) ?_
    (repeat' (first | (show VH _ _ _ _ _ _ _; first | refine v_seq ?_ | refine r_seq ?_ | refine v_ret ?_ | refine v_cond_t rfl tbL ?_) | (show SH _ _ _ _ _ (_ :: _) _ _ _; first | (show SH _ _ _ _ _ (⟨_, .move _, _, _, _, _⟩ :: _) _ _ _; refine mov evL ?_) | (show SH _ _ _ _ _ (⟨_, .assign _, _, _, _, _⟩ :: _) _ _ _; refine asg evL ?_) | (show SH _ _ _ _ _ (⟨_, .binOp .neq _ _ _ _, _, _, _, _⟩ :: _) _ _ _; refine neqT rfl rfl omD ?_) | (show SH _ _ _ _ _ (⟨_, .load _ _, _, _, _, _⟩ :: _) _ _ _; refine lba rfl spL (by rfl) ?_) | (show SH _ _ _ _ _ (⟨_, .call ⟨.value (.func 100), _, _⟩, _, _, _, _⟩ :: _) _ _ _; refine cl (callee := .func 100) rfl (fun w hw => hQ w (hΦ _ (hw.kn spL))) rfl rfl ?_) | refine extr rfl rfl ?_ | refine bld rfl rfl ?_ | refine ala rfl (fun b => ?_) | (show SH _ _ _ _ _ (⟨_, .box _ _, _, _, _, _⟩ :: _) _ _ _; refine bxx rfl evL rfl (fun b => ?_)) | (show SH _ _ _ _ _ (⟨_, .store _ _ _, _, _, _, _⟩ :: _) _ _ _; refine sta rfl rfl rfl spL (by rfl) (by rfl) (by rfl) kpL ?_)) | refine s_nil ?_ | refine kh_normal ?_ | refine kh_ret ?_))
    exact rhC2 rfl rfl rfl rfl (fun w hw => loadVar_bx hw spL (by rfl)) refC0 (Ent.trans (B := kno Φ :: H) enL ent_ref0)
end Go.Proofs.YtlfbcoohfnoacaaGreat

/- The reference of layer 36: Accept, Decline. -/
namespace Go.Proofs.YtlfbcoohfnoacaaGreat
open Go.Fw Go.RowKit
theorem kept_at {tick who only : Int} {ps : List Pty} {k : Nat} (hk : k < ps.length) : (keptR tick who only ps).getD k pty0 = stayP tick who only (ps.getD k pty0) := by
  rw [keptR_map, List.getD_eq_getElem?_getD, List.getElem?_map, List.getD_eq_getElem?_getD, List.getElem?_eq_getElem hk]; rfl
set_option maxHeartbeats 4000000 in
set_option maxRecDepth 100000 in
theorem refDecline_spec (t la : Int) (A : Option Addr) (L : List PtyP) (c : Nat) (who id : Int) (Φ : World → Prop) (w0 : World) (H : List HP) (w : World) (hz : SzP L) (hc : L.length ≤ c) (hΦ : ∀ w, Φ w → RdP w A L) (hw : Wd w0 (kno Φ :: H) w) :
    Ret Tryz.prog 70 [hv36 t la A L c, .int .i64 who, .int .i64 id].toArray w (RP w0 (RefC Φ H (answerM ⟨t, la, ptys L⟩ who id false))) := by
  have hV := fun w' h => refValid_spec t la A L c w' hz h
  have hQ := fun w' h => refAsked_spec t la A L c who id w' hz h
  unfold askI at hQ
  unfold answerM
  simp only
  cases hv : validHal ⟨t, la, ptys L⟩ with
  | false =>
    simp only [hv] at hV
    rw [if_neg (by decide)]
    refine enterH Tryz.func70 rfl rfl Tryz.ntmps70 rfl (by assumption) ?_
    (repeat' (first | (show VH _ _ _ _ _ _ _; first | refine v_seq ?_ | refine r_seq ?_ | refine v_ret ?_ | refine v_cond_t rfl tbL ?_) | (show SH _ _ _ _ _ (_ :: _) _ _ _; first | (show SH _ _ _ _ _ (⟨_, .assign _, _, _, _, _⟩ :: _) _ _ _; refine asg evL ?_) | (show SH _ _ _ _ _ (⟨_, .load _ _, _, _, _, _⟩ :: _) _ _ _; refine lba rfl spL (by rfl) ?_) | (show SH _ _ _ _ _ (⟨_, .call ⟨.value (.func 9), _, _⟩, _, _, _, _⟩ :: _) _ _ _; refine cl (callee := .func 9) rfl (fun w hw => hV w (hΦ _ (hw.kn spL))) rfl rfl ?_) | refine bnoF rfl ?_ | refine bld rfl rfl ?_ | refine ala rfl (fun b => ?_) | (show SH _ _ _ _ _ (⟨_, .box _ _, _, _, _, _⟩ :: _) _ _ _; refine bxx rfl evL rfl (fun b => ?_)) | (show SH _ _ _ _ _ (⟨_, .store _ _ _, _, _, _, _⟩ :: _) _ _ _; refine sta rfl rfl rfl spL (by rfl) (by rfl) (by rfl) kpL ?_)) | refine s_nil ?_ | refine kh_normal ?_ | refine kh_ret ?_))
    exact rhC2 rfl rfl rfl rfl (fun w hw => loadVar_bx hw spL (by rfl)) refC0 (Ent.trans (B := kno Φ :: H) enL ent_ref0)
  | true =>
    simp only [hv] at hV
    rw [if_pos rfl]
    cases ha : askedM who id (ptys L) with
    | none =>
      simp only [ha] at hQ ⊢
      refine enterH Tryz.func70 rfl rfl Tryz.ntmps70 rfl (by assumption) ?_
      (repeat' (first | (show VH _ _ _ _ _ _ _; first | refine v_seq ?_ | refine r_seq ?_ | refine v_ret ?_ | refine v_skip ?_ | refine v_cond_t rfl tbL ?_ | refine v_cond_f rfl tbL ?_) | (show SH _ _ _ _ _ (_ :: _) _ _ _; first | (show SH _ _ _ _ _ (⟨_, .move _, _, _, _, _⟩ :: _) _ _ _; refine mov evL ?_) | (show SH _ _ _ _ _ (⟨_, .assign _, _, _, _, _⟩ :: _) _ _ _; refine asg evL ?_) | (show SH _ _ _ _ _ (⟨_, .binOp .lss _ _ _ _, _, _, _, _⟩ :: _) _ _ _; refine lssT rfl rfl omD ?_) | (show SH _ _ _ _ _ (⟨_, .load _ _, _, _, _, _⟩ :: _) _ _ _; refine lba rfl spL (by rfl) ?_) | (show SH _ _ _ _ _ (⟨_, .call ⟨.value (.func 9), _, _⟩, _, _, _, _⟩ :: _) _ _ _; refine cl (callee := .func 9) rfl (fun w hw => hV w (hΦ _ (hw.kn spL))) rfl rfl ?_) | (show SH _ _ _ _ _ (⟨_, .call ⟨.value (.func 102), _, _⟩, _, _, _, _⟩ :: _) _ _ _; refine cl (callee := .func 102) rfl (fun w hw => hQ w (hΦ _ (hw.kn spL))) rfl rfl ?_) | refine bnoT rfl ?_ | refine bld rfl rfl ?_ | refine ala rfl (fun b => ?_) | (show SH _ _ _ _ _ (⟨_, .box _ _, _, _, _, _⟩ :: _) _ _ _; refine bxx rfl evL rfl (fun b => ?_)) | (show SH _ _ _ _ _ (⟨_, .store _ _ _, _, _, _, _⟩ :: _) _ _ _; refine sta rfl rfl rfl spL (by rfl) (by rfl) (by rfl) kpL ?_)) | refine s_nil ?_ | refine kh_normal ?_ | refine kh_ret ?_))
      exact rhC2 rfl rfl rfl rfl (fun w hw => loadVar_bx hw spL (by rfl)) refC0 (Ent.trans (B := kno Φ :: H) enL ent_ref0)
    | some k =>
      simp only [ha] at hQ ⊢
      have hkn := kept_no (valid_iff.1 hv) ha
      simp only at hkn
      rw [← hkn, if_neg (by decide)]
      have hk := (askedM_some _ ha).1
      clear hkn ha
      rw [ptys_len] at hk
      refine enterH Tryz.func70 rfl rfl Tryz.ntmps70 rfl (by assumption) ?_
      (repeat' (first | (show VH _ _ _ _ _ _ _; first | refine v_seq ?_ | refine r_seq ?_ | refine v_skip ?_ | refine v_cond_f rfl tbL ?_) | (show SH _ _ _ _ _ (_ :: _) _ _ _; first | (show SH _ _ _ _ _ (⟨_, .move _, _, _, _, _⟩ :: _) _ _ _; refine mov evL ?_) | (show SH _ _ _ _ _ (⟨_, .assign _, _, _, _, _⟩ :: _) _ _ _; refine asg evL ?_) | (show SH _ _ _ _ _ (⟨_, .binOp .lss _ _ _ _, _, _, _, _⟩ :: _) _ _ _; refine lssF rfl rfl omD ?_) | (show SH _ _ _ _ _ (⟨_, .load _ _, _, _, _, _⟩ :: _) _ _ _; first | refine lbx rfl spL (by rfl) ?_ | refine lba rfl spL (by rfl) ?_) | (show SH _ _ _ _ _ (⟨_, .call ⟨.value (.func 9), _, _⟩, _, _, _, _⟩ :: _) _ _ _; refine cl (callee := .func 9) rfl (fun w hw => hV w (hΦ _ (hw.kn spL))) rfl rfl ?_) | (show SH _ _ _ _ _ (⟨_, .call ⟨.value (.func 102), _, _⟩, _, _, _, _⟩ :: _) _ _ _; refine cl (callee := .func 102) rfl (fun w hw => hQ w (hΦ _ (hw.kn spL))) rfl rfl ?_) | refine bnoT rfl ?_ | refine fad rfl ?_ | refine ala rfl (fun b => ?_) | (show SH _ _ _ _ _ (⟨_, .box _ _, _, _, _, _⟩ :: _) _ _ _; refine bxx rfl evL rfl (fun b => ?_))) | refine s_nil ?_ | refine kh_normal ?_))
      rename_i b3
      refine cm rfl (fun w2 hw2 => refKept_spec t la A L c t who id Φ w0 (bx b3 30 [.int .i64 t, .int .i64 la, .slice A L.length c] :: bx b 30 [.int .i64 0, .int .i64 0, .slice none 0 0] :: H) w2 hz hc hΦ (Ent.wd enL hw2)) rfl rfl ?_
      rintro _ _ ⟨A1, c1, M, hM, hcM, rfl, rfl⟩
      refine ⟨enL, ?_⟩
      (repeat' (first | refine v_ret ?_ | (show SH _ _ _ _ _ (_ :: _) _ _ _; first | (show SH _ _ _ _ _ (⟨_, .assign _, _, _, _, _⟩ :: _) _ _ _; refine asg evL ?_) | (show SH _ _ _ _ _ (⟨_, .store _ _ _, _, _, _, _⟩ :: _) _ _ _; refine sta rfl rfl rfl spL (by rfl) (by rfl) (by rfl) kpL ?_)) | refine s_nil ?_ | refine kh_normal ?_))
      exact rhC2 rfl rfl rfl rfl (fun w hw => loadVar_bx hw spL (by rfl)) ⟨A1, c1, M, hM, hcM, rfl, rfl⟩ enL
set_option maxHeartbeats 4000000 in
set_option maxRecDepth 100000 in
theorem refAccept_spec (t la : Int) (A : Option Addr) (L : List PtyP) (c : Nat) (who id : Int) (Φ : World → Prop) (w0 : World) (H : List HP) (w : World) (hz : SzP L) (hc : L.length ≤ c) (hΦ : ∀ w, Φ w → RdP w A L) (hw : Wd w0 (kno Φ :: H) w) :
    Ret Tryz.prog 69 [hv36 t la A L c, .int .i64 who, .int .i64 id].toArray w (RP w0 (RefC Φ H (answerM ⟨t, la, ptys L⟩ who id true))) := by
  have hV := fun w' h => refValid_spec t la A L c w' hz h
  have hQ := fun w' h => refAsked_spec t la A L c who id w' hz h
  unfold askI at hQ
  unfold answerM
  simp only
  cases hv : validHal ⟨t, la, ptys L⟩ with
  | false =>
    simp only [hv] at hV
    rw [if_neg (by decide)]
    refine enterH Tryz.func69 rfl rfl Tryz.ntmps69 rfl (by assumption) ?_
    (repeat' (first | (show VH _ _ _ _ _ _ _; first | refine v_seq ?_ | refine r_seq ?_ | refine v_ret ?_ | refine v_cond_t rfl tbL ?_) | (show SH _ _ _ _ _ (_ :: _) _ _ _; first | (show SH _ _ _ _ _ (⟨_, .assign _, _, _, _, _⟩ :: _) _ _ _; refine asg evL ?_) | (show SH _ _ _ _ _ (⟨_, .load _ _, _, _, _, _⟩ :: _) _ _ _; refine lba rfl spL (by rfl) ?_) | (show SH _ _ _ _ _ (⟨_, .call ⟨.value (.func 9), _, _⟩, _, _, _, _⟩ :: _) _ _ _; refine cl (callee := .func 9) rfl (fun w hw => hV w (hΦ _ (hw.kn spL))) rfl rfl ?_) | refine bnoF rfl ?_ | refine bld rfl rfl ?_ | refine ala rfl (fun b => ?_) | (show SH _ _ _ _ _ (⟨_, .box _ _, _, _, _, _⟩ :: _) _ _ _; refine bxx rfl evL rfl (fun b => ?_)) | (show SH _ _ _ _ _ (⟨_, .store _ _ _, _, _, _, _⟩ :: _) _ _ _; refine sta rfl rfl rfl spL (by rfl) (by rfl) (by rfl) kpL ?_)) | refine s_nil ?_ | refine kh_normal ?_ | refine kh_ret ?_))
    exact rhC2 rfl rfl rfl rfl (fun w hw => loadVar_bx hw spL (by rfl)) refC0 (Ent.trans (B := kno Φ :: H) enL ent_ref0)
  | true =>
    simp only [hv] at hV
    rw [if_pos rfl]
    cases ha : askedM who id (ptys L) with
    | none =>
      simp only [ha] at hQ ⊢
      refine enterH Tryz.func69 rfl rfl Tryz.ntmps69 rfl (by assumption) ?_
      (repeat' (first | (show VH _ _ _ _ _ _ _; first | refine v_seq ?_ | refine r_seq ?_ | refine v_ret ?_ | refine v_skip ?_ | refine v_cond_t rfl tbL ?_ | refine v_cond_f rfl tbL ?_) | (show SH _ _ _ _ _ (_ :: _) _ _ _; first | (show SH _ _ _ _ _ (⟨_, .move _, _, _, _, _⟩ :: _) _ _ _; refine mov evL ?_) | (show SH _ _ _ _ _ (⟨_, .assign _, _, _, _, _⟩ :: _) _ _ _; refine asg evL ?_) | (show SH _ _ _ _ _ (⟨_, .binOp .lss _ _ _ _, _, _, _, _⟩ :: _) _ _ _; refine lssT rfl rfl omD ?_) | (show SH _ _ _ _ _ (⟨_, .load _ _, _, _, _, _⟩ :: _) _ _ _; refine lba rfl spL (by rfl) ?_) | (show SH _ _ _ _ _ (⟨_, .call ⟨.value (.func 9), _, _⟩, _, _, _, _⟩ :: _) _ _ _; refine cl (callee := .func 9) rfl (fun w hw => hV w (hΦ _ (hw.kn spL))) rfl rfl ?_) | (show SH _ _ _ _ _ (⟨_, .call ⟨.value (.func 102), _, _⟩, _, _, _, _⟩ :: _) _ _ _; refine cl (callee := .func 102) rfl (fun w hw => hQ w (hΦ _ (hw.kn spL))) rfl rfl ?_) | refine bnoT rfl ?_ | refine bld rfl rfl ?_ | refine ala rfl (fun b => ?_) | (show SH _ _ _ _ _ (⟨_, .box _ _, _, _, _, _⟩ :: _) _ _ _; refine bxx rfl evL rfl (fun b => ?_)) | (show SH _ _ _ _ _ (⟨_, .store _ _ _, _, _, _, _⟩ :: _) _ _ _; refine sta rfl rfl rfl spL (by rfl) (by rfl) (by rfl) kpL ?_)) | refine s_nil ?_ | refine kh_normal ?_ | refine kh_ret ?_))
      exact rhC2 rfl rfl rfl rfl (fun w hw => loadVar_bx hw spL (by rfl)) refC0 (Ent.trans (B := kno Φ :: H) enL ent_ref0)
    | some k =>
      simp only [ha] at hQ ⊢
      have hkn := kept_yes (valid_iff.1 hv) who id
      simp only at hkn
      rw [← hkn, if_pos trivial]
      have hk := (askedM_some _ ha).1
      clear hkn ha
      have hka := kept_at (tick := t) (who := who) (only := 0) hk
      rw [ptys_len] at hk
      rw [ptys_at hk] at hka
      have hll := hz.len
      have hzm := hz.atm hk
      have hzi := hz.ati hk
      refine enterH Tryz.func69 rfl rfl Tryz.ntmps69 rfl (by assumption) ?_
      (repeat' (first | (show VH _ _ _ _ _ _ _; first | refine v_seq ?_ | refine r_seq ?_ | refine v_skip ?_ | refine v_cond_f rfl tbL ?_) | (show SH _ _ _ _ _ (_ :: _) _ _ _; first | (show SH _ _ _ _ _ (⟨_, .move _, _, _, _, _⟩ :: _) _ _ _; refine mov evL ?_) | (show SH _ _ _ _ _ (⟨_, .assign _, _, _, _, _⟩ :: _) _ _ _; refine asg evL ?_) | (show SH _ _ _ _ _ (⟨_, .binOp .lss _ _ _ _, _, _, _, _⟩ :: _) _ _ _; refine lssF rfl rfl omD ?_) | (show SH _ _ _ _ _ (⟨_, .load _ _, _, _, _, _⟩ :: _) _ _ _; first | refine lbx rfl spL (by rfl) ?_ | refine lba rfl spL (by rfl) ?_) | (show SH _ _ _ _ _ (⟨_, .call ⟨.value (.func 9), _, _⟩, _, _, _, _⟩ :: _) _ _ _; refine cl (callee := .func 9) rfl (fun w hw => hV w (hΦ _ (hw.kn spL))) rfl rfl ?_) | (show SH _ _ _ _ _ (⟨_, .call ⟨.value (.func 102), _, _⟩, _, _, _, _⟩ :: _) _ _ _; refine cl (callee := .func 102) rfl (fun w hw => hQ w (hΦ _ (hw.kn spL))) rfl rfl ?_) | refine bnoT rfl ?_ | refine fad rfl ?_ | refine ala rfl (fun b => ?_) | (show SH _ _ _ _ _ (⟨_, .box _ _, _, _, _, _⟩ :: _) _ _ _; refine bxx rfl evL rfl (fun b => ?_))) | refine s_nil ?_ | refine kh_normal ?_))
      rename_i b3
      refine cm rfl (fun w2 hw2 => refKept_spec t la A L c t who 0 Φ w0 (bx b3 30 [.int .i64 t, .int .i64 la, .slice A L.length c] :: bx b 30 [.int .i64 0, .int .i64 0, .slice none 0 0] :: H) w2 hz hc hΦ (Ent.wd enL hw2)) rfl rfl ?_
      rintro _ _ ⟨A1, c1, M, hM, hcM, rfl, rfl⟩
      refine ⟨enL, ?_⟩
      have hMl : M.length = L.length := by rw [← ptys_len, hM, keptR_map, List.length_map, ptys_len]
      rw [← hM] at hka
      rw [← hM]
      obtain ⟨Ψ, hΨ⟩ : ∃ Ψ : World → Prop, (fun w => Φ w ∧ RdP w A1 M) = Ψ := ⟨_, rfl⟩
      rw [hΨ]
      have hΨ2 : ∀ w, Ψ w → Φ w ∧ RdP w A1 M := fun w h => by rw [← hΨ] at h; exact h
      clear hΨ
      have hkM : k < M.length := by omega
      rw [ptys_at hkM] at hka ⊢
      have hml : (M.getD k Flat.dflt).p.mem.length ≤ 1000 := by rw [hka]; exact hzm
      have hvl : (M.getD k Flat.dflt).p.inv.length ≤ 1000 := by rw [hka]; exact Nat.le_trans (List.length_filter_le ..) hzi
      have hA : ∀ w, Ψ w → Rd w A1 M := fun w h => (hΨ2 w h).2.1
      have hB : ∀ w, Ψ w → Rd w (M.getD k Flat.dflt).A (M.getD k Flat.dflt).p.mem := fun w h => (hΨ2 w h).2.mem hkM
      have hin : ∀ y : PtyP, y.p.inv = (M.getD k Flat.dflt).p.inv → y.B = (M.getD k Flat.dflt).B → ∀ w, Ψ w → Rd w y.A y.p.mem → ∀ z ∈ M.set k y, Rd w z.A z.p.mem ∧ Rd w z.B z.p.inv := fun y h1 h2 w hw hr z hz => by
        rcases List.mem_or_eq_of_mem_set hz with h | h
        · exact (hΨ2 w hw).2.2 z h
        · rw [h, h1, h2]
          exact ⟨hr, (hΨ2 w hw).2.inv hkM⟩
      have hnx : ∀ y : PtyP, ptys (M.set k y) = (ptys M).set k y.p := fun y => ptys_set ..
      have hφ : ∀ w, Ψ w → Φ w := fun w h => (hΨ2 w h).1
      have hW := fun y w h => ret_cap (refWith_spec t la A1 M c1 k y w hkM (by omega) h)
      unfold hv36 at hW
      obtain ⟨x, hx⟩ : ∃ x, M.getD k Flat.dflt = x := ⟨_, rfl⟩
      have hxE := pty_enc hx
      rw [hx] at hml hvl hB hin ⊢
      clear hx hka hM hzm hzi hΨ2 hV hQ
      obtain ⟨⟨xi, xl, xm, xv⟩, xA, xca, xB, xcb⟩ := x
      simp only at hml hvl hB hin hxE ⊢
      (repeat' (first | (show VH _ _ _ _ _ _ _; first | refine v_seq ?_ | refine r_seq ?_) | (show SH _ _ _ _ _ (_ :: _) _ _ _; first | (show SH _ _ _ _ _ (⟨_, .move _, _, _, _, _⟩ :: _) _ _ _; refine mov evL ?_) | (show SH _ _ _ _ _ (⟨_, .load _ _, _, _, _, _⟩ :: _) _ _ _; first | refine lbx rfl spL (by rfl) ?_ | refine lag rfl (fun _ _ => rdK) (by rfl) omL (by assumption) ?_) | (show SH _ _ _ _ _ (⟨_, .indexAddr _ _ _, _, _, _, _⟩ :: _) _ _ _; refine ix rfl rfl (by with_reducible rfl) (fun _ _ => rdK) (by rfl) omL omL ?_) | refine fad rfl ?_ | refine ala rfl (fun b => ?_) | (show SH _ _ _ _ _ (⟨_, .store _ _ _, _, _, _, _⟩ :: _) _ _ _; refine sta rfl rfl rfl spL (by rfl) (by rfl) (by rfl) kpL ?_) | (show SH _ _ _ _ _ (⟨_, .buildSlice _ _ _, _, _, _, _⟩ :: _) _ _ _; refine bsl (α := Int) rfl rfl (by repeat (first | exact Vals.nil | (apply Vals.cons; rfl))) rfl (by rfl) (by decide) (fun b => ?_))) | refine s_nil ?_ | refine kh_normal ?_))
      refine app (l := ([] : List Int)) (l2 := xm) rfl rfl rfl spL (fun w hw => rd_thk hB hw spL) rfl rfl (by omega) (by simp only [List.length_nil]; omega) (by simp only [List.length_nil]; omega) (fun A2 c2 => ⟨enL, ?_⟩)
      (repeat' ((show SH _ _ _ _ _ (_ :: _) _ _ _; first | (show SH _ _ _ _ _ (⟨_, .move _, _, _, _, _⟩ :: _) _ _ _; refine mov evL ?_) | (show SH _ _ _ _ _ (⟨_, .buildSlice _ _ _, _, _, _, _⟩ :: _) _ _ _; refine bsl (α := Int) rfl rfl (by repeat (first | exact Vals.nil | (apply Vals.cons; rfl))) rfl (by rfl) (by decide) (fun b => ?_)))))
      refine app (l := [] ++ xm) (l2 := [who]) rfl rfl rfl spL (fun w hw => hw.rd spL) rfl rfl rfl (by simp only [List.length_cons, List.length_nil, List.nil_append]; omega) (by simp only [List.length_cons, List.length_nil, List.nil_append]; omega) (fun A3 c3 => ⟨enL, ?_⟩)
      (repeat' (first | (show VH _ _ _ _ _ _ _; first | refine v_seq ?_ | refine r_seq ?_) | (show SH _ _ _ _ _ (_ :: _) _ _ _; first | (show SH _ _ _ _ _ (⟨_, .move _, _, _, _, _⟩ :: _) _ _ _; refine mov evL ?_) | (show SH _ _ _ _ _ (⟨_, .load _ _, _, _, _, _⟩ :: _) _ _ _; refine lba rfl spL (by rfl) ?_) | (show SH _ _ _ _ _ (⟨_, .call ⟨.value (.func 101), _, _⟩, _, _, _, _⟩ :: _) _ _ _; refine cp (callee := .func 101) rfl (fun w hw => hW ⟨⟨xi, xl, xm ++ [who], xv⟩, A3, c3, xB, xcb⟩ w (rd_thk hA hw spL)) rfl rfl ?_) | refine fad rfl ?_ | (show SH _ _ _ _ _ (⟨_, .store _ _ _, _, _, _, _⟩ :: _) _ _ _; refine stb rfl rfl evL spL rfl rfl (by first | decide | exact Nat.zero_lt_succ _ | exact of_decide_eq_true rfl) kpL ?_)) | refine s_nil ?_ | refine kh_normal ?_))
      rintro _ _ ⟨A4, c4, hcap, rfl, rfl⟩
      (repeat' (first | refine v_ret ?_ | (show SH _ _ _ _ _ (_ :: _) _ _ _; first | (show SH _ _ _ _ _ (⟨_, .assign _, _, _, _, _⟩ :: _) _ _ _; refine asg evL ?_) | (show SH _ _ _ _ _ (⟨_, .store _ _ _, _, _, _, _⟩ :: _) _ _ _; refine sta rfl rfl rfl spL (by rfl) (by rfl) (by rfl) kpL ?_)) | refine s_nil ?_ | refine kh_normal ?_))
      exact rhC2 rfl rfl rfl rfl (fun w hw => loadVar_bx hw spL (by rfl)) ⟨A4, c4, M.set k ⟨⟨xi, xl, xm ++ [who], xv⟩, A3, c3, xB, xcb⟩, hnx _, hcap, rfl, rfl⟩ (Ent.trans (B := orow 43 A4 c4 (M.set k ⟨⟨xi, xl, xm ++ [who], xv⟩, A3, c3, xB, xcb⟩) :: orow 3 A3 c3 (xm ++ [who]) :: kno Ψ :: H) enL ((ent_ref_mem fun w h1 h2 => hin ⟨⟨xi, xl, xm ++ [who], xv⟩, A3, c3, xB, xcb⟩ rfl rfl w h1 h2).trans (ent_ref_fwd fun w h => ⟨hφ w h.1, h.2⟩)))
end Go.Proofs.YtlfbcoohfnoacaaGreat

/- The reference of layer 36: leave, Leave, Kick. -/
namespace Go.Proofs.YtlfbcoohfnoacaaGreat
open Go.Fw Go.RowKit
/-- The parties behind a leaving. -/
def leaveR (ps : List Pty) (k : Nat) (who : Int) : List Pty := match leftM who (ps.getD k pty0) with | none => ps.eraseIdx k | some p => ps.set k p
theorem leaveAt_p (t la : Int) (ps : List Pty) (k : Nat) (who : Int) : leaveAt ⟨t, la, ps⟩ k who = ⟨t, la, leaveR ps k who⟩ := by
  unfold leaveAt leaveR
  simp only
  cases leftM who (ps.getD k pty0) <;> rfl
theorem find_is {who : Int} {ps : List Pty} {k : Nat} (h : findM who ps = some k) : findI36 who ps = k := by
  unfold findI36; rw [h]
theorem find_isnt {who : Int} {ps : List Pty} {k : Nat} (h : findM who ps ≠ some k) : findI36 who ps ≠ k := by
  unfold findI36
  cases hf : findM who ps with
  | none => intro e; have e : (-1 : Int) = (k : Int) := e; omega
  | some j => intro e; have e : (j : Int) = (k : Int) := e; exact h (by rw [hf, show j = k by omega])
def stayM (who : Int) (n : Int) : Bool := !decide (n = who)
theorem ptys_erR (L : List PtyP) (k : Nat) : ptys (L.eraseIdx k) = (ptys L).eraseIdx k := by
  unfold ptys
  rw [List.eraseIdx_eq_take_drop_succ, List.eraseIdx_eq_take_drop_succ, List.map_append, List.map_take, List.map_drop]
set_option maxHeartbeats 4000000 in
set_option maxRecDepth 100000 in
theorem refLeft_spec (t la : Int) (A : Option Addr) (L : List PtyP) (c : Nat) (k : Nat) (who : Int) (Φ : World → Prop) (w0 : World) (H : List HP) (w : World) (hk : k < L.length) (hz : SzP L) (hc : L.length ≤ c) (hΦ : ∀ w, Φ w → RdP w A L) (hw : Wd w0 (kno Φ :: H) w) :
    Ret Tryz.prog 103 [hv36 t la A L c, .int .i64 (k : Nat), .int .i64 who].toArray w (RP w0 (RefH Φ H t la (leaveR (ptys L) k who))) := by
  have hll := hz.len
  have hml : (L.getD k Flat.dflt).p.mem.length ≤ 1000 := hz.atm hk
  have hvl : (L.getD k Flat.dflt).p.inv.length ≤ 1000 := hz.ati hk
  have hA : ∀ w, Φ w → Rd w A L := fun w h => (hΦ w h).1
  have hB : ∀ w, Φ w → Rd w (L.getD k Flat.dflt).A (L.getD k Flat.dflt).p.mem := fun w h => (hΦ w h).mem hk
  have hin : ∀ y : PtyP, y.p.inv = (L.getD k Flat.dflt).p.inv → y.B = (L.getD k Flat.dflt).B → ∀ w, Φ w → Rd w y.A y.p.mem → ∀ z ∈ L.set k y, Rd w z.A z.p.mem ∧ Rd w z.B z.p.inv := fun y h1 h2 w hw hr z hz => by
    rcases List.mem_or_eq_of_mem_set hz with h | h
    · exact (hΦ w hw).2 z h
    · rw [h, h1, h2]
      exact ⟨hr, (hΦ w hw).inv hk⟩
  have hie : ∀ w, Φ w → ∀ z ∈ L.eraseIdx k, Rd w z.A z.p.mem ∧ Rd w z.B z.p.inv := fun w hw z hz => (hΦ w hw).2 z (List.mem_of_mem_eraseIdx hz)
  have hnx : ∀ y : PtyP, ptys (L.set k y) = (ptys L).set k y.p := fun y => ptys_set ..
  have hne := ptys_erR L k
  unfold leaveR leftM
  rw [ptys_at hk]
  have hW := fun y w h => ret_cap (refWith_spec t la A L c k y w hk hll h)
  have hD := fun w h => ret_cap (refDrop_spec t la A L c k w hk hll hc h)
  unfold hv36 at hW hD
  obtain ⟨x, hx⟩ : ∃ x, L.getD k Flat.dflt = x := ⟨_, rfl⟩
  have hxE := pty_enc hx
  rw [hx] at hml hvl hB hin ⊢
  clear hx
  obtain ⟨⟨xi, xl, xm, xv⟩, xA, xca, xB, xcb⟩ := x
  simp only at hml hvl hB hin hxE ⊢
  rw [show (fun n => !decide (n = who)) = stayM who from rfl]
  refine enterH Tryz.func103 rfl rfl Tryz.ntmps103 rfl (by assumption) ?_
  (repeat' (first | (show VH _ _ _ _ _ _ _; first | refine v_seq ?_ | refine r_seq ?_ | refine v_block ?_) | (show SH _ _ _ _ _ (_ :: _) _ _ _; first | (show SH _ _ _ _ _ (⟨_, .move _, _, _, _, _⟩ :: _) _ _ _; refine mov evL ?_) | (show SH _ _ _ _ _ (⟨_, .assign _, _, _, _, _⟩ :: _) _ _ _; refine asg evL ?_) | (show SH _ _ _ _ _ (⟨_, .load _ _, _, _, _, _⟩ :: _) _ _ _; first | refine lbx rfl spL (by rfl) ?_ | refine lag rfl (fun _ _ => rdK) (by rfl) omL (by assumption) ?_) | (show SH _ _ _ _ _ (⟨_, .indexAddr _ _ _, _, _, _, _⟩ :: _) _ _ _; refine ix rfl rfl (by with_reducible rfl) (fun _ _ => rdK) (by rfl) omL omL ?_) | refine fad rfl ?_ | refine ala rfl (fun b => ?_) | (show SH _ _ _ _ _ (⟨_, .box _ _, _, _, _, _⟩ :: _) _ _ _; refine bxx rfl evL rfl (fun b => ?_)) | (show SH _ _ _ _ _ (⟨_, .store _ _ _, _, _, _, _⟩ :: _) _ _ _; refine sta rfl rfl rfl spL (by rfl) (by rfl) (by rfl) kpL ?_)) | refine s_nil ?_ | refine kh_normal ?_))
  rename_i b1 b2
  revert b
  intro b3
  refine v_norm [(1,_),(2,_),(3,_),(6,_),(7,_),(8,_),(9,_)] heL (fun g => ?_)
  refine VH.ent (G := orow 3 none 0 ([] : List Int) :: kno Φ :: bx b3 43 [.int .i64 xi, .int .i64 xl, .slice xA xm.length xca, .slice xB xv.length xcb] :: bx b1 30 [.int .i64 t, .int .i64 la, .slice A L.length c] :: bx b2 30 [.int .i64 0, .int .i64 0, .slice none 0 0] :: H) ?_ (ent_nilrow enL)
  refine v_loop [(8,9),(15,36)] (fun y : Nat × Option Addr × Nat => [(9, .int .i64 y.1), (8, .slice y.2.1 ((xm.take y.1).filter (stayM who)).length y.2.2)]) (fun y => orow 3 y.2.1 y.2.2 ((xm.take y.1).filter (stayM who)) :: kno Φ :: bx b3 43 [.int .i64 xi, .int .i64 xl, .slice xA xm.length xca, .slice xB xv.length xcb] :: bx b1 30 [.int .i64 t, .int .i64 la, .slice A L.length c] :: bx b2 30 [.int .i64 0, .int .i64 0, .slice none 0 0] :: H) (fun y => y.1 ≤ xm.length) (fun y => xm.length - y.1) (0, none, 0) hsL enL (Nat.zero_le _) ?_
  rintro ⟨i, B, d⟩ g hi
  simp only [sets]
  simp only at hi
  by_cases hil : i < xm.length
  · have htk := take_snoc (d := (0 : Int)) hil
    obtain ⟨v, hv⟩ : ∃ v, xm.getD i 0 = v := ⟨_, rfl⟩
    have hF : (xm.take (i + 1)).filter (stayM who) = (xm.take i).filter (stayM who) ++ (if stayM who v = true then [v] else []) := by
      rw [htk, List.filter_append, hv]
      congr 1
      rw [List.filter_cons, List.filter_nil]
    have hfl : ((xm.take i).filter (stayM who)).length ≤ 1000 := by
      have h1 := List.length_filter_le (stayM who) (xm.take i)
      rw [List.length_take] at h1; omega
    clear htk hnx hin hie hne hW hD
    generalize (xm.take i).filter (stayM who) = F at hF hfl ⊢
    by_cases h1 : v = who
    · rw [show stayM who v = false from by simp [stayM, h1], if_neg (by decide), List.append_nil] at hF
      (repeat' (first | (show VH _ _ _ _ _ _ _; first | refine v_seq ?_ | refine r_seq ?_ | refine v_block ?_ | refine v_skip ?_ | refine v_cond_t rfl tbL ?_ | refine v_cond_f rfl tbL ?_) | (show SH _ _ _ _ _ (_ :: _) _ _ _; first | (show SH _ _ _ _ _ (⟨_, .move _, _, _, _, _⟩ :: _) _ _ _; refine mov evL ?_) | (show SH _ _ _ _ _ (⟨_, .assign _, _, _, _, _⟩ :: _) _ _ _; refine asg evL ?_) | (show SH _ _ _ _ _ (⟨_, .binOp .lss _ _ _ _, _, _, _, _⟩ :: _) _ _ _; refine lssT rfl rfl omD ?_) | (show SH _ _ _ _ _ (⟨_, .binOp .neq _ _ _ _, _, _, _, _⟩ :: _) _ _ _; refine neqF rfl rfl omD ?_) | (show SH _ _ _ _ _ (⟨_, .binOp .add _ _ _ _, _, _, _, _⟩ :: _) _ _ _; refine add rfl rfl inL ?_) | (show SH _ _ _ _ _ (⟨_, .load _ _, _, _, _, _⟩ :: _) _ _ _; first | refine lbx rfl spL (by rfl) ?_ | refine lgi rfl (fun _ _ => rdK) omL (by assumption) ?_) | (show SH _ _ _ _ _ (⟨_, .indexAddr _ _ _, _, _, _, _⟩ :: _) _ _ _; refine ix rfl rfl (by with_reducible rfl) (fun _ _ => rdK) (by rfl) omL omL ?_) | refine slen rfl ?_ | refine fad rfl ?_) | refine s_nil ?_ | refine kh_normal ?_ | refine bh_normal ?_))
      exact ⟨agL, (i + 1, B, d), by rw [hF]; (repeat (first | exact trivial | refine And.intro rfl ?_)), by rw [hF]; exact enL, hil, by show xm.length - (i + 1) < xm.length - i; omega⟩
    · rw [show stayM who v = true from by simp [stayM, h1], if_pos rfl] at hF
      (repeat' (first | (show VH _ _ _ _ _ _ _; first | refine v_seq ?_ | refine r_seq ?_ | refine v_block ?_ | refine v_skip ?_ | refine v_cond_t rfl tbL ?_) | (show SH _ _ _ _ _ (_ :: _) _ _ _; first | (show SH _ _ _ _ _ (⟨_, .move _, _, _, _, _⟩ :: _) _ _ _; refine mov evL ?_) | (show SH _ _ _ _ _ (⟨_, .binOp .lss _ _ _ _, _, _, _, _⟩ :: _) _ _ _; refine lssT rfl rfl omD ?_) | (show SH _ _ _ _ _ (⟨_, .binOp .neq _ _ _ _, _, _, _, _⟩ :: _) _ _ _; refine neqT rfl rfl omD ?_) | (show SH _ _ _ _ _ (⟨_, .load _ _, _, _, _, _⟩ :: _) _ _ _; first | refine lbx rfl spL (by rfl) ?_ | refine lgi rfl (fun _ _ => rdK) omL (by assumption) ?_) | (show SH _ _ _ _ _ (⟨_, .indexAddr _ _ _, _, _, _, _⟩ :: _) _ _ _; refine ix rfl rfl (by with_reducible rfl) (fun _ _ => rdK) (by rfl) omL omL ?_) | refine slen rfl ?_ | refine fad rfl ?_ | (show SH _ _ _ _ _ (⟨_, .buildSlice _ _ _, _, _, _, _⟩ :: _) _ _ _; refine bsl (α := Int) rfl rfl (by repeat (first | exact Vals.nil | (apply Vals.cons; rfl))) rfl (by rfl) (by decide) (fun b => ?_))) | refine s_nil ?_ | refine kh_normal ?_))
      refine app (l := F) (l2 := [(v : Int)]) rfl rfl rfl spL (fun w hw => hw.rd spL) rfl rfl rfl (by simp only [List.length_singleton]; omega) (by simp only [List.length_singleton]; omega) (fun A4 c4 => ⟨enL, ?_⟩)
      (repeat' (first | refine r_seq ?_ | (show SH _ _ _ _ _ (_ :: _) _ _ _; first | (show SH _ _ _ _ _ (⟨_, .move _, _, _, _, _⟩ :: _) _ _ _; refine mov evL ?_) | (show SH _ _ _ _ _ (⟨_, .assign _, _, _, _, _⟩ :: _) _ _ _; refine asg evL ?_) | (show SH _ _ _ _ _ (⟨_, .binOp .add _ _ _ _, _, _, _, _⟩ :: _) _ _ _; refine add rfl rfl inL ?_)) | refine s_nil ?_ | refine kh_normal ?_ | refine bh_normal ?_))
      exact ⟨agL, (i + 1, A4, c4), by rw [hF]; (repeat (first | exact trivial | refine And.intro rfl ?_)), by rw [hF]; exact enL, hil, by show xm.length - (i + 1) < xm.length - i; omega⟩
  · obtain rfl : i = xm.length := by omega
    rw [List.take_length]
    cases hFE : xm.filter (stayM who) with
    | nil =>
      simp only
      (repeat' (first | (show VH _ _ _ _ _ _ _; first | refine v_seq ?_ | refine r_seq ?_ | refine v_exit ?_ | refine v_cond_t rfl tbL ?_ | refine v_cond_f rfl tbL ?_) | (show SH _ _ _ _ _ (_ :: _) _ _ _; first | (show SH _ _ _ _ _ (⟨_, .move _, _, _, _, _⟩ :: _) _ _ _; refine mov evL ?_) | (show SH _ _ _ _ _ (⟨_, .binOp .lss _ _ _ _, _, _, _, _⟩ :: _) _ _ _; refine lssF rfl rfl omD ?_) | refine eql rfl rfl ?_ | (show SH _ _ _ _ _ (⟨_, .load _ _, _, _, _, _⟩ :: _) _ _ _; first | refine lbx rfl spL (by rfl) ?_ | refine lba rfl spL (by rfl) ?_) | refine slen rfl ?_ | (show SH _ _ _ _ _ (⟨_, .call ⟨.value (.func 104), _, _⟩, _, _, _, _⟩ :: _) _ _ _; refine cp (callee := .func 104) rfl (fun w hw => hD w (rd_thk hA hw spL)) rfl rfl ?_) | refine fad rfl ?_) | refine s_nil ?_ | refine kh_normal ?_ | refine kh_exit ?_ | refine bh_exit ?_))
      rintro _ _ ⟨A2, c2, hcap, rfl, rfl⟩
      (repeat' (first | refine v_ret ?_ | (show SH _ _ _ _ _ (_ :: _) _ _ _; (show SH _ _ _ _ _ (⟨_, .store _ _ _, _, _, _, _⟩ :: _) _ _ _; refine sta rfl rfl rfl spL (by rfl) (by rfl) (by rfl) kpL ?_)) | refine s_nil ?_ | refine kh_normal ?_ | refine kh_ret ?_))
      exact rhC rfl rfl rfl (fun w hw => loadVar_bx hw spL (by rfl)) ⟨A2, c2, L.eraseIdx k, hne, hcap, rfl, rfl⟩ (Ent.trans (B := orow 43 A2 c2 (L.eraseIdx k) :: kno Φ :: H) enL (ent_ref_row hie))
    | cons y r =>
      simp only
      have hy0 : (y :: r).getD 0 0 = y := rfl
      have hyl : 0 < (y :: r).length := Nat.succ_pos _
      by_cases hl : xl = who
      · rw [if_pos hl]
        (repeat' (first | (show VH _ _ _ _ _ _ _; first | refine v_seq ?_ | refine r_seq ?_ | refine v_skip ?_ | refine v_exit ?_ | refine v_cond_t rfl tbL ?_ | refine v_cond_f rfl tbL ?_) | (show SH _ _ _ _ _ (_ :: _) _ _ _; first | (show SH _ _ _ _ _ (⟨_, .move _, _, _, _, _⟩ :: _) _ _ _; refine mov evL ?_) | (show SH _ _ _ _ _ (⟨_, .binOp .lss _ _ _ _, _, _, _, _⟩ :: _) _ _ _; refine lssF rfl rfl omD ?_) | (show SH _ _ _ _ _ (⟨_, .binOp .eql _ _ _ _, _, _, _, _⟩ :: _) _ _ _; first | refine eqlT rfl rfl omD ?_ | refine eqlF rfl rfl omD ?_) | (show SH _ _ _ _ _ (⟨_, .load _ _, _, _, _, _⟩ :: _) _ _ _; first | refine lbx rfl spL (by rfl) ?_ | refine lba rfl spL (by rfl) ?_ | refine lgi rfl (fun _ _ => rdK) omL (by assumption) ?_) | (show SH _ _ _ _ _ (⟨_, .indexAddr _ _ _, _, _, _, _⟩ :: _) _ _ _; first | refine ixi rfl rfl (fun _ _ => rdK) (by rfl) omL omL omL ?_ | refine ixi rfl rfl (fun _ _ => rdK) (by rfl) omL (by first | omega | (simp only [List.length_cons, List.length_nil]; omega)) (by simp only [List.length_cons, List.length_nil]; omega) ?_) | refine slen rfl ?_ | (show SH _ _ _ _ _ (⟨_, .call ⟨.value (.func 101), _, _⟩, _, _, _, _⟩ :: _) _ _ _; refine cp (callee := .func 101) rfl (fun w hw => hW ⟨⟨xi, y, y :: r, xv⟩, B, d, xB, xcb⟩ w (rd_thk hA hw spL)) rfl rfl ?_) | refine fad rfl ?_ | (show SH _ _ _ _ _ (⟨_, .store _ _ _, _, _, _, _⟩ :: _) _ _ _; refine stb rfl rfl evL spL rfl rfl (by first | decide | exact Nat.zero_lt_succ _ | exact of_decide_eq_true rfl) kpL ?_)) | refine s_nil ?_ | refine kh_normal ?_ | refine kh_exit ?_ | refine bh_exit ?_))
        rintro _ _ ⟨A2, c2, hcap, rfl, rfl⟩
        (repeat' (first | refine v_ret ?_ | (show SH _ _ _ _ _ (_ :: _) _ _ _; (show SH _ _ _ _ _ (⟨_, .store _ _ _, _, _, _, _⟩ :: _) _ _ _; refine sta rfl rfl rfl spL (by rfl) (by rfl) (by rfl) kpL ?_)) | refine s_nil ?_ | refine kh_normal ?_))
        exact rhC rfl rfl rfl (fun w hw => loadVar_bx hw spL (by rfl)) ⟨A2, c2, L.set k ⟨⟨xi, y, y :: r, xv⟩, B, d, xB, xcb⟩, hnx _, hcap, rfl, rfl⟩ (Ent.trans (B := orow 43 A2 c2 (L.set k ⟨⟨xi, y, y :: r, xv⟩, B, d, xB, xcb⟩) :: orow 3 B d (y :: r) :: kno Φ :: H) enL (ent_ref_mem fun w h1 h2 => hin ⟨⟨xi, y, y :: r, xv⟩, B, d, xB, xcb⟩ rfl rfl w h1 h2))
      · rw [if_neg hl]
        (repeat' (first | (show VH _ _ _ _ _ _ _; first | refine v_seq ?_ | refine r_seq ?_ | refine v_skip ?_ | refine v_exit ?_ | refine v_cond_f rfl tbL ?_) | (show SH _ _ _ _ _ (_ :: _) _ _ _; first | (show SH _ _ _ _ _ (⟨_, .move _, _, _, _, _⟩ :: _) _ _ _; refine mov evL ?_) | (show SH _ _ _ _ _ (⟨_, .binOp .lss _ _ _ _, _, _, _, _⟩ :: _) _ _ _; refine lssF rfl rfl omD ?_) | (show SH _ _ _ _ _ (⟨_, .binOp .eql _ _ _ _, _, _, _, _⟩ :: _) _ _ _; refine eqlF rfl rfl omD ?_) | (show SH _ _ _ _ _ (⟨_, .load _ _, _, _, _, _⟩ :: _) _ _ _; first | refine lbx rfl spL (by rfl) ?_ | refine lba rfl spL (by rfl) ?_) | refine slen rfl ?_ | (show SH _ _ _ _ _ (⟨_, .call ⟨.value (.func 101), _, _⟩, _, _, _, _⟩ :: _) _ _ _; refine cp (callee := .func 101) rfl (fun w hw => hW ⟨⟨xi, xl, y :: r, xv⟩, B, d, xB, xcb⟩ w (rd_thk hA hw spL)) rfl rfl ?_) | refine fad rfl ?_ | (show SH _ _ _ _ _ (⟨_, .store _ _ _, _, _, _, _⟩ :: _) _ _ _; refine stb rfl rfl evL spL rfl rfl (by first | decide | exact Nat.zero_lt_succ _ | exact of_decide_eq_true rfl) kpL ?_)) | refine s_nil ?_ | refine kh_normal ?_ | refine kh_exit ?_ | refine bh_exit ?_))
        rintro _ _ ⟨A2, c2, hcap, rfl, rfl⟩
        (repeat' (first | refine v_ret ?_ | (show SH _ _ _ _ _ (_ :: _) _ _ _; (show SH _ _ _ _ _ (⟨_, .store _ _ _, _, _, _, _⟩ :: _) _ _ _; refine sta rfl rfl rfl spL (by rfl) (by rfl) (by rfl) kpL ?_)) | refine s_nil ?_ | refine kh_normal ?_))
        exact rhC rfl rfl rfl (fun w hw => loadVar_bx hw spL (by rfl)) ⟨A2, c2, L.set k ⟨⟨xi, xl, y :: r, xv⟩, B, d, xB, xcb⟩, hnx _, hcap, rfl, rfl⟩ (Ent.trans (B := orow 43 A2 c2 (L.set k ⟨⟨xi, xl, y :: r, xv⟩, B, d, xB, xcb⟩) :: orow 3 B d (y :: r) :: kno Φ :: H) enL (ent_ref_mem fun w h1 h2 => hin ⟨⟨xi, xl, y :: r, xv⟩, B, d, xB, xcb⟩ rfl rfl w h1 h2))
set_option maxHeartbeats 4000000 in
set_option maxRecDepth 100000 in
theorem refLeave_spec (t la : Int) (A : Option Addr) (L : List PtyP) (c : Nat) (who : Int) (Φ : World → Prop) (w0 : World) (H : List HP) (w : World) (hz : SzP L) (hc : L.length ≤ c) (hΦ : ∀ w, Φ w → RdP w A L) (hw : Wd w0 (kno Φ :: H) w) :
    Ret Tryz.prog 71 [hv36 t la A L c, .int .i64 who].toArray w (RP w0 (RefC Φ H (leaveM ⟨t, la, ptys L⟩ who))) := by
  have hV := fun w' h => refValid_spec t la A L c w' hz h
  have hF := fun w' h => refFind_spec t la A L c who w' hz h
  unfold findI36 at hF
  unfold leaveM
  simp only
  cases hv : validHal ⟨t, la, ptys L⟩ with
  | false =>
    simp only [hv] at hV
    rw [if_neg (by decide)]
    refine enterH Tryz.func71 rfl rfl Tryz.ntmps71 rfl (by assumption) ?_
    (repeat' (first | (show VH _ _ _ _ _ _ _; first | refine v_seq ?_ | refine r_seq ?_ | refine v_ret ?_ | refine v_cond_t rfl tbL ?_) | (show SH _ _ _ _ _ (_ :: _) _ _ _; first | (show SH _ _ _ _ _ (⟨_, .assign _, _, _, _, _⟩ :: _) _ _ _; refine asg evL ?_) | (show SH _ _ _ _ _ (⟨_, .load _ _, _, _, _, _⟩ :: _) _ _ _; refine lba rfl spL (by rfl) ?_) | (show SH _ _ _ _ _ (⟨_, .call ⟨.value (.func 9), _, _⟩, _, _, _, _⟩ :: _) _ _ _; refine cl (callee := .func 9) rfl (fun w hw => hV w (hΦ _ (hw.kn spL))) rfl rfl ?_) | refine bnoF rfl ?_ | refine bld rfl rfl ?_ | refine ala rfl (fun b => ?_) | (show SH _ _ _ _ _ (⟨_, .box _ _, _, _, _, _⟩ :: _) _ _ _; refine bxx rfl evL rfl (fun b => ?_)) | (show SH _ _ _ _ _ (⟨_, .store _ _ _, _, _, _, _⟩ :: _) _ _ _; refine sta rfl rfl rfl spL (by rfl) (by rfl) (by rfl) kpL ?_)) | refine s_nil ?_ | refine kh_normal ?_ | refine kh_ret ?_))
    exact rhC2 rfl rfl rfl rfl (fun w hw => loadVar_bx hw spL (by rfl)) refC0 (Ent.trans (B := kno Φ :: H) enL ent_ref0)
  | true =>
    simp only [hv] at hV
    rw [if_pos rfl]
    cases hf : findM who (ptys L) with
    | none =>
      simp only [hf] at hF
      refine enterH Tryz.func71 rfl rfl Tryz.ntmps71 rfl (by assumption) ?_
      (repeat' (first | (show VH _ _ _ _ _ _ _; first | refine v_seq ?_ | refine r_seq ?_ | refine v_ret ?_ | refine v_skip ?_ | refine v_cond_t rfl tbL ?_ | refine v_cond_f rfl tbL ?_) | (show SH _ _ _ _ _ (_ :: _) _ _ _; first | (show SH _ _ _ _ _ (⟨_, .move _, _, _, _, _⟩ :: _) _ _ _; refine mov evL ?_) | (show SH _ _ _ _ _ (⟨_, .assign _, _, _, _, _⟩ :: _) _ _ _; refine asg evL ?_) | (show SH _ _ _ _ _ (⟨_, .binOp .lss _ _ _ _, _, _, _, _⟩ :: _) _ _ _; refine lssT rfl rfl omD ?_) | (show SH _ _ _ _ _ (⟨_, .load _ _, _, _, _, _⟩ :: _) _ _ _; refine lba rfl spL (by rfl) ?_) | (show SH _ _ _ _ _ (⟨_, .call ⟨.value (.func 9), _, _⟩, _, _, _, _⟩ :: _) _ _ _; refine cl (callee := .func 9) rfl (fun w hw => hV w (hΦ _ (hw.kn spL))) rfl rfl ?_) | (show SH _ _ _ _ _ (⟨_, .call ⟨.value (.func 75), _, _⟩, _, _, _, _⟩ :: _) _ _ _; refine cl (callee := .func 75) rfl (fun w hw => hF w (hΦ _ (hw.kn spL))) rfl rfl ?_) | refine bnoT rfl ?_ | refine bld rfl rfl ?_ | refine ala rfl (fun b => ?_) | (show SH _ _ _ _ _ (⟨_, .box _ _, _, _, _, _⟩ :: _) _ _ _; refine bxx rfl evL rfl (fun b => ?_)) | (show SH _ _ _ _ _ (⟨_, .store _ _ _, _, _, _, _⟩ :: _) _ _ _; refine sta rfl rfl rfl spL (by rfl) (by rfl) (by rfl) kpL ?_)) | refine s_nil ?_ | refine kh_normal ?_ | refine kh_ret ?_))
      exact rhC2 rfl rfl rfl rfl (fun w hw => loadVar_bx hw spL (by rfl)) refC0 (Ent.trans (B := kno Φ :: H) enL ent_ref0)
    | some k =>
      simp only [hf] at hF
      have hk := findM_lt hf
      rw [ptys_len] at hk
      simp only
      rw [leaveAt_p]
      refine enterH Tryz.func71 rfl rfl Tryz.ntmps71 rfl (by assumption) ?_
      (repeat' (first | (show VH _ _ _ _ _ _ _; first | refine v_seq ?_ | refine r_seq ?_ | refine v_skip ?_ | refine v_cond_f rfl tbL ?_) | (show SH _ _ _ _ _ (_ :: _) _ _ _; first | (show SH _ _ _ _ _ (⟨_, .move _, _, _, _, _⟩ :: _) _ _ _; refine mov evL ?_) | (show SH _ _ _ _ _ (⟨_, .assign _, _, _, _, _⟩ :: _) _ _ _; refine asg evL ?_) | (show SH _ _ _ _ _ (⟨_, .binOp .lss _ _ _ _, _, _, _, _⟩ :: _) _ _ _; refine lssF rfl rfl omD ?_) | (show SH _ _ _ _ _ (⟨_, .load _ _, _, _, _, _⟩ :: _) _ _ _; refine lba rfl spL (by rfl) ?_) | (show SH _ _ _ _ _ (⟨_, .call ⟨.value (.func 9), _, _⟩, _, _, _, _⟩ :: _) _ _ _; refine cl (callee := .func 9) rfl (fun w hw => hV w (hΦ _ (hw.kn spL))) rfl rfl ?_) | (show SH _ _ _ _ _ (⟨_, .call ⟨.value (.func 75), _, _⟩, _, _, _, _⟩ :: _) _ _ _; refine cl (callee := .func 75) rfl (fun w hw => hF w (hΦ _ (hw.kn spL))) rfl rfl ?_) | refine bnoT rfl ?_ | refine ala rfl (fun b => ?_) | (show SH _ _ _ _ _ (⟨_, .box _ _, _, _, _, _⟩ :: _) _ _ _; refine bxx rfl evL rfl (fun b => ?_))) | refine s_nil ?_ | refine kh_normal ?_))
      rename_i b2
      refine r_heldT [bx b2 30 [.int .i64 t, .int .i64 la, .slice A L.length c]] (tr [(0, true), (1, true), (2, true), (4, true), (3, false), (5, false), (6, false), (7, false)] .nil) hmix (by kernel_rfl) enL ?_
      (repeat' ((show SH _ _ _ _ _ (_ :: _) _ _ _; first | (show SH _ _ _ _ _ (⟨_, .move _, _, _, _, _⟩ :: _) _ _ _; refine mov evL ?_) | (show SH _ _ _ _ _ (⟨_, .load _ _, _, _, _, _⟩ :: _) _ _ _; refine lba rfl spL (by rfl) ?_) | (show SH _ _ _ _ _ (⟨_, .call ⟨.value (.func 75), _, _⟩, _, _, _, _⟩ :: _) _ _ _; refine cl (callee := .func 75) rfl (fun w hw => hF w (hΦ _ (hw.kn spL))) rfl rfl ?_))))
      refine cm rfl (fun w3 hw3 => refLeft_spec t la A L c k who Φ w0 (bx b2 30 [.int .i64 t, .int .i64 la, .slice A L.length c] :: bx b 30 [.int .i64 0, .int .i64 0, .slice none 0 0] :: H) w3 hk hz hc hΦ (Ent.wd enL hw3)) rfl rfl ?_
      rintro _ _ ⟨A1, c1, M, hM, hcM, rfl, rfl⟩
      refine ⟨enL, ?_⟩
      (repeat' (first | refine v_ret ?_ | (show SH _ _ _ _ _ (_ :: _) _ _ _; first | (show SH _ _ _ _ _ (⟨_, .assign _, _, _, _, _⟩ :: _) _ _ _; refine asg evL ?_) | (show SH _ _ _ _ _ (⟨_, .store _ _ _, _, _, _, _⟩ :: _) _ _ _; refine sta rfl rfl rfl spL (by rfl) (by rfl) (by rfl) kpL ?_)) | refine s_nil ?_ | refine kh_normal ?_))
      exact rhC2 rfl rfl rfl rfl (fun w hw => loadVar_bx hw spL (by rfl)) ⟨A1, c1, M, hM, hcM, rfl, rfl⟩ enL
set_option maxHeartbeats 4000000 in
set_option maxRecDepth 100000 in
theorem refKick_spec (t la : Int) (A : Option Addr) (L : List PtyP) (c : Nat) (by' who : Int) (Φ : World → Prop) (w0 : World) (H : List HP) (w : World) (hz : SzP L) (hc : L.length ≤ c) (hΦ : ∀ w, Φ w → RdP w A L) (hw : Wd w0 (kno Φ :: H) w) :
    Ret Tryz.prog 72 [hv36 t la A L c, .int .i64 by', .int .i64 who].toArray w (RP w0 (RefC Φ H (kickM ⟨t, la, ptys L⟩ by' who))) := by
  have hQ := fun w' h => refLead_spec t la A L c by' w' hz h
  have hF := fun w' h => refFind_spec t la A L c who w' hz h
  have hok := @leadQ_ok ⟨t, la, ptys L⟩ by'
  unfold kickM
  rw [leadM_q]
  generalize leadQ ⟨t, la, ptys L⟩ by' = q at hQ hok ⊢
  obtain ⟨k, e⟩ := q
  simp only at hQ hok ⊢
  by_cases he : e = 0
  · subst he
    obtain ⟨-, -, hk⟩ := hok rfl
    rw [if_pos rfl]
    clear hok
    rw [ptys_len] at hk
    by_cases hf : findM who (ptys L) = some k
    · rw [if_pos hf]
      rw [find_is hf] at hF
      by_cases hwb : who = by'
      · rw [if_pos hwb]
        refine enterH Tryz.func72 rfl rfl Tryz.ntmps72 rfl (by assumption) ?_
        (repeat' (first | (show VH _ _ _ _ _ _ _; first | refine v_seq ?_ | refine r_seq ?_ | refine v_ret ?_ | refine v_skip ?_ | refine v_cond_t rfl tbL ?_ | refine v_cond_f rfl tbL ?_) | (show SH _ _ _ _ _ (_ :: _) _ _ _; first | (show SH _ _ _ _ _ (⟨_, .move _, _, _, _, _⟩ :: _) _ _ _; refine mov evL ?_) | (show SH _ _ _ _ _ (⟨_, .assign _, _, _, _, _⟩ :: _) _ _ _; refine asg evL ?_) | (show SH _ _ _ _ _ (⟨_, .binOp .eql _ _ _ _, _, _, _, _⟩ :: _) _ _ _; refine eqlT rfl rfl omD ?_) | (show SH _ _ _ _ _ (⟨_, .binOp .neq _ _ _ _, _, _, _, _⟩ :: _) _ _ _; refine neqF rfl rfl omD ?_) | (show SH _ _ _ _ _ (⟨_, .load _ _, _, _, _, _⟩ :: _) _ _ _; refine lba rfl spL (by rfl) ?_) | (show SH _ _ _ _ _ (⟨_, .call ⟨.value (.func 100), _, _⟩, _, _, _, _⟩ :: _) _ _ _; refine cl (callee := .func 100) rfl (fun w hw => hQ w (hΦ _ (hw.kn spL))) rfl rfl ?_) | (show SH _ _ _ _ _ (⟨_, .call ⟨.value (.func 75), _, _⟩, _, _, _, _⟩ :: _) _ _ _; refine cl (callee := .func 75) rfl (fun w hw => hF w (hΦ _ (hw.kn spL))) rfl rfl ?_) | refine extr rfl rfl ?_ | refine bld rfl rfl ?_ | refine ala rfl (fun b => ?_) | (show SH _ _ _ _ _ (⟨_, .box _ _, _, _, _, _⟩ :: _) _ _ _; refine bxx rfl evL rfl (fun b => ?_)) | (show SH _ _ _ _ _ (⟨_, .store _ _ _, _, _, _, _⟩ :: _) _ _ _; refine sta rfl rfl rfl spL (by rfl) (by rfl) (by rfl) kpL ?_)) | refine s_nil ?_ | refine kh_normal ?_ | refine kh_ret ?_))
        exact rhC2 rfl rfl rfl rfl (fun w hw => loadVar_bx hw spL (by rfl)) refC0 (Ent.trans (B := kno Φ :: H) enL ent_ref0)
      · rw [if_neg hwb, leaveAt_p]
        refine enterH Tryz.func72 rfl rfl Tryz.ntmps72 rfl (by assumption) ?_
        (repeat' (first | (show VH _ _ _ _ _ _ _; first | refine v_seq ?_ | refine r_seq ?_ | refine v_skip ?_ | refine v_cond_f rfl tbL ?_) | (show SH _ _ _ _ _ (_ :: _) _ _ _; first | (show SH _ _ _ _ _ (⟨_, .move _, _, _, _, _⟩ :: _) _ _ _; refine mov evL ?_) | (show SH _ _ _ _ _ (⟨_, .assign _, _, _, _, _⟩ :: _) _ _ _; refine asg evL ?_) | (show SH _ _ _ _ _ (⟨_, .binOp .eql _ _ _ _, _, _, _, _⟩ :: _) _ _ _; refine eqlF rfl rfl omD ?_) | (show SH _ _ _ _ _ (⟨_, .binOp .neq _ _ _ _, _, _, _, _⟩ :: _) _ _ _; refine neqF rfl rfl omD ?_) | (show SH _ _ _ _ _ (⟨_, .load _ _, _, _, _, _⟩ :: _) _ _ _; refine lba rfl spL (by rfl) ?_) | (show SH _ _ _ _ _ (⟨_, .call ⟨.value (.func 100), _, _⟩, _, _, _, _⟩ :: _) _ _ _; refine cl (callee := .func 100) rfl (fun w hw => hQ w (hΦ _ (hw.kn spL))) rfl rfl ?_) | (show SH _ _ _ _ _ (⟨_, .call ⟨.value (.func 75), _, _⟩, _, _, _, _⟩ :: _) _ _ _; refine cl (callee := .func 75) rfl (fun w hw => hF w (hΦ _ (hw.kn spL))) rfl rfl ?_) | refine extr rfl rfl ?_ | refine ala rfl (fun b => ?_) | (show SH _ _ _ _ _ (⟨_, .box _ _, _, _, _, _⟩ :: _) _ _ _; refine bxx rfl evL rfl (fun b => ?_))) | refine s_nil ?_ | refine kh_normal ?_))
        rename_i b2
        refine cm rfl (fun w3 hw3 => refLeft_spec t la A L c k who Φ w0 (bx b2 30 [.int .i64 t, .int .i64 la, .slice A L.length c] :: bx b 30 [.int .i64 0, .int .i64 0, .slice none 0 0] :: H) w3 hk hz hc hΦ (Ent.wd enL hw3)) rfl rfl ?_
        rintro _ _ ⟨A1, c1, M, hM, hcM, rfl, rfl⟩
        refine ⟨enL, ?_⟩
        (repeat' (first | refine v_ret ?_ | (show SH _ _ _ _ _ (_ :: _) _ _ _; first | (show SH _ _ _ _ _ (⟨_, .assign _, _, _, _, _⟩ :: _) _ _ _; refine asg evL ?_) | (show SH _ _ _ _ _ (⟨_, .store _ _ _, _, _, _, _⟩ :: _) _ _ _; refine sta rfl rfl rfl spL (by rfl) (by rfl) (by rfl) kpL ?_)) | refine s_nil ?_ | refine kh_normal ?_))
        exact rhC2 rfl rfl rfl rfl (fun w hw => loadVar_bx hw spL (by rfl)) ⟨A1, c1, M, hM, hcM, rfl, rfl⟩ enL
    · rw [if_neg hf]
      have hfn := find_isnt hf
      generalize findI36 who (ptys L) = f at hF hfn
      refine enterH Tryz.func72 rfl rfl Tryz.ntmps72 rfl (by assumption) ?_
      (repeat' (first | (show VH _ _ _ _ _ _ _; first | refine v_seq ?_ | refine r_seq ?_ | refine v_ret ?_ | refine v_skip ?_ | refine v_cond_t rfl tbL ?_ | refine v_cond_f rfl tbL ?_) | (show SH _ _ _ _ _ (_ :: _) _ _ _; first | (show SH _ _ _ _ _ (⟨_, .move _, _, _, _, _⟩ :: _) _ _ _; refine mov evL ?_) | (show SH _ _ _ _ _ (⟨_, .assign _, _, _, _, _⟩ :: _) _ _ _; refine asg evL ?_) | (show SH _ _ _ _ _ (⟨_, .binOp .neq _ _ _ _, _, _, _, _⟩ :: _) _ _ _; first | refine neqT rfl rfl omD ?_ | refine neqF rfl rfl omD ?_) | (show SH _ _ _ _ _ (⟨_, .load _ _, _, _, _, _⟩ :: _) _ _ _; refine lba rfl spL (by rfl) ?_) | (show SH _ _ _ _ _ (⟨_, .call ⟨.value (.func 100), _, _⟩, _, _, _, _⟩ :: _) _ _ _; refine cl (callee := .func 100) rfl (fun w hw => hQ w (hΦ _ (hw.kn spL))) rfl rfl ?_) | (show SH _ _ _ _ _ (⟨_, .call ⟨.value (.func 75), _, _⟩, _, _, _, _⟩ :: _) _ _ _; refine cl (callee := .func 75) rfl (fun w hw => hF w (hΦ _ (hw.kn spL))) rfl rfl ?_) | refine extr rfl rfl ?_ | refine bld rfl rfl ?_ | refine ala rfl (fun b => ?_) | (show SH _ _ _ _ _ (⟨_, .box _ _, _, _, _, _⟩ :: _) _ _ _; refine bxx rfl evL rfl (fun b => ?_)) | (show SH _ _ _ _ _ (⟨_, .store _ _ _, _, _, _, _⟩ :: _) _ _ _; refine sta rfl rfl rfl spL (by rfl) (by rfl) (by rfl) kpL ?_)) | refine s_nil ?_ | refine kh_normal ?_ | refine kh_ret ?_))
      exact rhC2 rfl rfl rfl rfl (fun w hw => loadVar_bx hw spL (by rfl)) refC0 (Ent.trans (B := kno Φ :: H) enL ent_ref0)
  · rw [if_neg he]
    clear hok
    refine enterH Tryz.func72 rfl rfl Tryz.ntmps72 rfl (by assumption) ?_
    (repeat' (first | (show VH _ _ _ _ _ _ _; first | refine v_seq ?_ | refine r_seq ?_ | refine v_ret ?_ | refine v_cond_t rfl tbL ?_) | (show SH _ _ _ _ _ (_ :: _) _ _ _; first | (show SH _ _ _ _ _ (⟨_, .move _, _, _, _, _⟩ :: _) _ _ _; refine mov evL ?_) | (show SH _ _ _ _ _ (⟨_, .assign _, _, _, _, _⟩ :: _) _ _ _; refine asg evL ?_) | (show SH _ _ _ _ _ (⟨_, .binOp .neq _ _ _ _, _, _, _, _⟩ :: _) _ _ _; refine neqT rfl rfl omD ?_) | (show SH _ _ _ _ _ (⟨_, .load _ _, _, _, _, _⟩ :: _) _ _ _; refine lba rfl spL (by rfl) ?_) | (show SH _ _ _ _ _ (⟨_, .call ⟨.value (.func 100), _, _⟩, _, _, _, _⟩ :: _) _ _ _; refine cl (callee := .func 100) rfl (fun w hw => hQ w (hΦ _ (hw.kn spL))) rfl rfl ?_) | refine extr rfl rfl ?_ | refine bld rfl rfl ?_ | refine ala rfl (fun b => ?_) | (show SH _ _ _ _ _ (⟨_, .box _ _, _, _, _, _⟩ :: _) _ _ _; refine bxx rfl evL rfl (fun b => ?_)) | (show SH _ _ _ _ _ (⟨_, .store _ _ _, _, _, _, _⟩ :: _) _ _ _; refine sta rfl rfl rfl spL (by rfl) (by rfl) (by rfl) kpL ?_)) | refine s_nil ?_ | refine kh_normal ?_ | refine kh_ret ?_))
    exact rhC2 rfl rfl rfl rfl (fun w hw => loadVar_bx hw spL (by rfl)) refC0 (Ent.trans (B := kno Φ :: H) enL ent_ref0)
end Go.Proofs.YtlfbcoohfnoacaaGreat

/- The reference of layer 36: Promote, Disband, Share. -/
namespace Go.Proofs.YtlfbcoohfnoacaaGreat
open Go.Fw Go.RowKit
set_option maxHeartbeats 4000000 in
set_option maxRecDepth 100000 in
theorem refPromote_spec (t la : Int) (A : Option Addr) (L : List PtyP) (c : Nat) (by' who : Int) (Φ : World → Prop) (w0 : World) (H : List HP) (w : World) (hz : SzP L) (hc : L.length ≤ c) (hΦ : ∀ w, Φ w → RdP w A L) (hw : Wd w0 (kno Φ :: H) w) :
    Ret Tryz.prog 73 [hv36 t la A L c, .int .i64 by', .int .i64 who].toArray w (RP w0 (RefC Φ H (promoteM ⟨t, la, ptys L⟩ by' who))) := by
  have hQ := fun w' h => refLead_spec t la A L c by' w' hz h
  have hF := fun w' h => refFind_spec t la A L c who w' hz h
  have hok := @leadQ_ok ⟨t, la, ptys L⟩ by'
  unfold promoteM
  rw [leadM_q]
  generalize leadQ ⟨t, la, ptys L⟩ by' = q at hQ hok ⊢
  obtain ⟨k, e⟩ := q
  simp only at hQ hok ⊢
  by_cases he : e = 0
  · subst he
    obtain ⟨-, -, hk⟩ := hok rfl
    rw [if_pos rfl]
    clear hok
    rw [ptys_len] at hk
    by_cases hf : findM who (ptys L) = some k
    · rw [if_pos hf]
      rw [find_is hf] at hF
      have hll := hz.len
      have hA : ∀ w, Φ w → Rd w A L := fun w h => (hΦ w h).1
      have hin : ∀ y : PtyP, y.p.mem = (L.getD k Flat.dflt).p.mem → y.A = (L.getD k Flat.dflt).A → y.p.inv = (L.getD k Flat.dflt).p.inv → y.B = (L.getD k Flat.dflt).B → ∀ w, Φ w → ∀ z ∈ L.set k y, Rd w z.A z.p.mem ∧ Rd w z.B z.p.inv := fun y h1 h2 h3 h4 w hw z hz => by
        rcases List.mem_or_eq_of_mem_set hz with h | h
        · exact (hΦ w hw).2 z h
        · rw [h, h1, h2, h3, h4]
          exact ⟨(hΦ w hw).mem hk, (hΦ w hw).inv hk⟩
      have hnx : ∀ y : PtyP, ptys (L.set k y) = (ptys L).set k y.p := fun y => ptys_set ..
      rw [ptys_at hk]
      have hW := fun y w h => ret_cap (refWith_spec t la A L c k y w hk hll h)
      unfold hv36 at hW
      obtain ⟨x, hx⟩ : ∃ x, L.getD k Flat.dflt = x := ⟨_, rfl⟩
      have hxE := pty_enc hx
      rw [hx] at hin ⊢
      clear hx hf
      obtain ⟨⟨xi, xl, xm, xv⟩, xA, xca, xB, xcb⟩ := x
      simp only at hin hxE ⊢
      refine enterH Tryz.func73 rfl rfl Tryz.ntmps73 rfl (by assumption) ?_
      (repeat' (first | (show VH _ _ _ _ _ _ _; first | refine v_seq ?_ | refine r_seq ?_ | refine v_skip ?_ | refine v_cond_f rfl tbL ?_) | (show SH _ _ _ _ _ (_ :: _) _ _ _; first | (show SH _ _ _ _ _ (⟨_, .move _, _, _, _, _⟩ :: _) _ _ _; refine mov evL ?_) | (show SH _ _ _ _ _ (⟨_, .assign _, _, _, _, _⟩ :: _) _ _ _; refine asg evL ?_) | (show SH _ _ _ _ _ (⟨_, .binOp .neq _ _ _ _, _, _, _, _⟩ :: _) _ _ _; refine neqF rfl rfl omD ?_) | (show SH _ _ _ _ _ (⟨_, .load _ _, _, _, _, _⟩ :: _) _ _ _; first | refine lbx rfl spL (by rfl) ?_ | refine lba rfl spL (by rfl) ?_ | refine lag rfl (fun _ _ => rdK) (by rfl) omL (by assumption) ?_) | (show SH _ _ _ _ _ (⟨_, .indexAddr _ _ _, _, _, _, _⟩ :: _) _ _ _; refine ix rfl rfl (by with_reducible rfl) (fun _ _ => rdK) (by rfl) omL omL ?_) | (show SH _ _ _ _ _ (⟨_, .call ⟨.value (.func 100), _, _⟩, _, _, _, _⟩ :: _) _ _ _; refine cl (callee := .func 100) rfl (fun w hw => hQ w (hΦ _ (hw.kn spL))) rfl rfl ?_) | (show SH _ _ _ _ _ (⟨_, .call ⟨.value (.func 75), _, _⟩, _, _, _, _⟩ :: _) _ _ _; refine cl (callee := .func 75) rfl (fun w hw => hF w (hΦ _ (hw.kn spL))) rfl rfl ?_) | (show SH _ _ _ _ _ (⟨_, .call ⟨.value (.func 101), _, _⟩, _, _, _, _⟩ :: _) _ _ _; refine cp (callee := .func 101) rfl (fun w hw => hW ⟨⟨xi, who, xm, xv⟩, xA, xca, xB, xcb⟩ w (rd_thk hA hw spL)) rfl rfl ?_) | refine extr rfl rfl ?_ | refine fad rfl ?_ | refine ala rfl (fun b => ?_) | (show SH _ _ _ _ _ (⟨_, .box _ _, _, _, _, _⟩ :: _) _ _ _; refine bxx rfl evL rfl (fun b => ?_)) | (show SH _ _ _ _ _ (⟨_, .store _ _ _, _, _, _, _⟩ :: _) _ _ _; first | refine stb rfl rfl evL spL rfl rfl (by first | decide | exact Nat.zero_lt_succ _ | exact of_decide_eq_true rfl) kpL ?_ | refine sta rfl rfl rfl spL (by rfl) (by rfl) (by rfl) kpL ?_)) | refine s_nil ?_ | refine kh_normal ?_))
      rintro _ _ ⟨A2, c2, hcap, rfl, rfl⟩
      (repeat' (first | refine v_ret ?_ | (show SH _ _ _ _ _ (_ :: _) _ _ _; first | (show SH _ _ _ _ _ (⟨_, .assign _, _, _, _, _⟩ :: _) _ _ _; refine asg evL ?_) | (show SH _ _ _ _ _ (⟨_, .store _ _ _, _, _, _, _⟩ :: _) _ _ _; refine sta rfl rfl rfl spL (by rfl) (by rfl) (by rfl) kpL ?_)) | refine s_nil ?_ | refine kh_normal ?_))
      exact rhC2 rfl rfl rfl rfl (fun w hw => loadVar_bx hw spL (by rfl)) ⟨A2, c2, L.set k ⟨⟨xi, who, xm, xv⟩, xA, xca, xB, xcb⟩, hnx _, hcap, rfl, rfl⟩ (Ent.trans (B := orow 43 A2 c2 (L.set k ⟨⟨xi, who, xm, xv⟩, xA, xca, xB, xcb⟩) :: kno Φ :: H) enL (ent_ref_row fun w h => hin ⟨⟨xi, who, xm, xv⟩, xA, xca, xB, xcb⟩ rfl rfl rfl rfl w h))
    · rw [if_neg hf]
      have hfn := find_isnt hf
      generalize findI36 who (ptys L) = f at hF hfn
      refine enterH Tryz.func73 rfl rfl Tryz.ntmps73 rfl (by assumption) ?_
      (repeat' (first | (show VH _ _ _ _ _ _ _; first | refine v_seq ?_ | refine r_seq ?_ | refine v_ret ?_ | refine v_skip ?_ | refine v_cond_t rfl tbL ?_ | refine v_cond_f rfl tbL ?_) | (show SH _ _ _ _ _ (_ :: _) _ _ _; first | (show SH _ _ _ _ _ (⟨_, .move _, _, _, _, _⟩ :: _) _ _ _; refine mov evL ?_) | (show SH _ _ _ _ _ (⟨_, .assign _, _, _, _, _⟩ :: _) _ _ _; refine asg evL ?_) | (show SH _ _ _ _ _ (⟨_, .binOp .neq _ _ _ _, _, _, _, _⟩ :: _) _ _ _; first | refine neqT rfl rfl omD ?_ | refine neqF rfl rfl omD ?_) | (show SH _ _ _ _ _ (⟨_, .load _ _, _, _, _, _⟩ :: _) _ _ _; refine lba rfl spL (by rfl) ?_) | (show SH _ _ _ _ _ (⟨_, .call ⟨.value (.func 100), _, _⟩, _, _, _, _⟩ :: _) _ _ _; refine cl (callee := .func 100) rfl (fun w hw => hQ w (hΦ _ (hw.kn spL))) rfl rfl ?_) | (show SH _ _ _ _ _ (⟨_, .call ⟨.value (.func 75), _, _⟩, _, _, _, _⟩ :: _) _ _ _; refine cl (callee := .func 75) rfl (fun w hw => hF w (hΦ _ (hw.kn spL))) rfl rfl ?_) | refine extr rfl rfl ?_ | refine bld rfl rfl ?_ | refine ala rfl (fun b => ?_) | (show SH _ _ _ _ _ (⟨_, .box _ _, _, _, _, _⟩ :: _) _ _ _; refine bxx rfl evL rfl (fun b => ?_)) | (show SH _ _ _ _ _ (⟨_, .store _ _ _, _, _, _, _⟩ :: _) _ _ _; refine sta rfl rfl rfl spL (by rfl) (by rfl) (by rfl) kpL ?_)) | refine s_nil ?_ | refine kh_normal ?_ | refine kh_ret ?_))
      exact rhC2 rfl rfl rfl rfl (fun w hw => loadVar_bx hw spL (by rfl)) refC0 (Ent.trans (B := kno Φ :: H) enL ent_ref0)
  · rw [if_neg he]
    clear hok
    refine enterH Tryz.func73 rfl rfl Tryz.ntmps73 rfl (by assumption) ?_
    (repeat' (first | (show VH _ _ _ _ _ _ _; first | refine v_seq ?_ | refine r_seq ?_ | refine v_ret ?_ | refine v_cond_t rfl tbL ?_) | (show SH _ _ _ _ _ (_ :: _) _ _ _; first | (show SH _ _ _ _ _ (⟨_, .move _, _, _, _, _⟩ :: _) _ _ _; refine mov evL ?_) | (show SH _ _ _ _ _ (⟨_, .assign _, _, _, _, _⟩ :: _) _ _ _; refine asg evL ?_) | (show SH _ _ _ _ _ (⟨_, .binOp .neq _ _ _ _, _, _, _, _⟩ :: _) _ _ _; refine neqT rfl rfl omD ?_) | (show SH _ _ _ _ _ (⟨_, .load _ _, _, _, _, _⟩ :: _) _ _ _; refine lba rfl spL (by rfl) ?_) | (show SH _ _ _ _ _ (⟨_, .call ⟨.value (.func 100), _, _⟩, _, _, _, _⟩ :: _) _ _ _; refine cl (callee := .func 100) rfl (fun w hw => hQ w (hΦ _ (hw.kn spL))) rfl rfl ?_) | refine extr rfl rfl ?_ | refine bld rfl rfl ?_ | refine ala rfl (fun b => ?_) | (show SH _ _ _ _ _ (⟨_, .box _ _, _, _, _, _⟩ :: _) _ _ _; refine bxx rfl evL rfl (fun b => ?_)) | (show SH _ _ _ _ _ (⟨_, .store _ _ _, _, _, _, _⟩ :: _) _ _ _; refine sta rfl rfl rfl spL (by rfl) (by rfl) (by rfl) kpL ?_)) | refine s_nil ?_ | refine kh_normal ?_ | refine kh_ret ?_))
    exact rhC2 rfl rfl rfl rfl (fun w hw => loadVar_bx hw spL (by rfl)) refC0 (Ent.trans (B := kno Φ :: H) enL ent_ref0)
set_option maxHeartbeats 4000000 in
set_option maxRecDepth 100000 in
theorem refDisband_spec (t la : Int) (A : Option Addr) (L : List PtyP) (c : Nat) (by' : Int) (Φ : World → Prop) (w0 : World) (H : List HP) (w : World) (hz : SzP L) (hc : L.length ≤ c) (hΦ : ∀ w, Φ w → RdP w A L) (hw : Wd w0 (kno Φ :: H) w) :
    Ret Tryz.prog 74 [hv36 t la A L c, .int .i64 by'].toArray w (RP w0 (RefC Φ H (disbandM ⟨t, la, ptys L⟩ by'))) := by
  have hQ := fun w' h => refLead_spec t la A L c by' w' hz h
  have hok := @leadQ_ok ⟨t, la, ptys L⟩ by'
  unfold disbandM
  rw [leadM_q]
  generalize leadQ ⟨t, la, ptys L⟩ by' = q at hQ hok ⊢
  obtain ⟨k, e⟩ := q
  simp only at hQ hok ⊢
  by_cases he : e = 0
  · subst he
    obtain ⟨-, -, hk⟩ := hok rfl
    rw [if_pos rfl]
    clear hok
    rw [ptys_len] at hk
    have hll := hz.len
    have hA : ∀ w, Φ w → Rd w A L := fun w h => (hΦ w h).1
    have hie : ∀ w, Φ w → ∀ z ∈ L.eraseIdx k, Rd w z.A z.p.mem ∧ Rd w z.B z.p.inv := fun w hw z hz => (hΦ w hw).2 z (List.mem_of_mem_eraseIdx hz)
    have hne := ptys_erR L k
    have hD := fun w h => ret_cap (refDrop_spec t la A L c k w hk hll hc h)
    unfold hv36 at hD
    refine enterH Tryz.func74 rfl rfl Tryz.ntmps74 rfl (by assumption) ?_
    (repeat' (first | (show VH _ _ _ _ _ _ _; first | refine v_seq ?_ | refine r_seq ?_ | refine v_skip ?_ | refine v_cond_f rfl tbL ?_) | (show SH _ _ _ _ _ (_ :: _) _ _ _; first | (show SH _ _ _ _ _ (⟨_, .move _, _, _, _, _⟩ :: _) _ _ _; refine mov evL ?_) | (show SH _ _ _ _ _ (⟨_, .assign _, _, _, _, _⟩ :: _) _ _ _; refine asg evL ?_) | (show SH _ _ _ _ _ (⟨_, .binOp .neq _ _ _ _, _, _, _, _⟩ :: _) _ _ _; refine neqF rfl rfl omD ?_) | (show SH _ _ _ _ _ (⟨_, .load _ _, _, _, _, _⟩ :: _) _ _ _; refine lba rfl spL (by rfl) ?_) | (show SH _ _ _ _ _ (⟨_, .call ⟨.value (.func 100), _, _⟩, _, _, _, _⟩ :: _) _ _ _; refine cl (callee := .func 100) rfl (fun w hw => hQ w (hΦ _ (hw.kn spL))) rfl rfl ?_) | (show SH _ _ _ _ _ (⟨_, .call ⟨.value (.func 104), _, _⟩, _, _, _, _⟩ :: _) _ _ _; refine cp (callee := .func 104) rfl (fun w hw => hD w (rd_thk hA hw spL)) rfl rfl ?_) | refine extr rfl rfl ?_ | refine ala rfl (fun b => ?_) | (show SH _ _ _ _ _ (⟨_, .box _ _, _, _, _, _⟩ :: _) _ _ _; refine bxx rfl evL rfl (fun b => ?_))) | refine s_nil ?_ | refine kh_normal ?_))
    rintro _ _ ⟨A2, c2, hcap, rfl, rfl⟩
    (repeat' (first | refine v_ret ?_ | (show SH _ _ _ _ _ (_ :: _) _ _ _; first | (show SH _ _ _ _ _ (⟨_, .assign _, _, _, _, _⟩ :: _) _ _ _; refine asg evL ?_) | (show SH _ _ _ _ _ (⟨_, .store _ _ _, _, _, _, _⟩ :: _) _ _ _; refine sta rfl rfl rfl spL (by rfl) (by rfl) (by rfl) kpL ?_)) | refine s_nil ?_ | refine kh_normal ?_))
    exact rhC2 rfl rfl rfl rfl (fun w hw => loadVar_bx hw spL (by rfl)) ⟨A2, c2, L.eraseIdx k, hne, hcap, rfl, rfl⟩ (Ent.trans (B := orow 43 A2 c2 (L.eraseIdx k) :: kno Φ :: H) enL (ent_ref_row hie))
  · rw [if_neg he]
    clear hok
    refine enterH Tryz.func74 rfl rfl Tryz.ntmps74 rfl (by assumption) ?_
    (repeat' (first | (show VH _ _ _ _ _ _ _; first | refine v_seq ?_ | refine r_seq ?_ | refine v_ret ?_ | refine v_cond_t rfl tbL ?_) | (show SH _ _ _ _ _ (_ :: _) _ _ _; first | (show SH _ _ _ _ _ (⟨_, .move _, _, _, _, _⟩ :: _) _ _ _; refine mov evL ?_) | (show SH _ _ _ _ _ (⟨_, .assign _, _, _, _, _⟩ :: _) _ _ _; refine asg evL ?_) | (show SH _ _ _ _ _ (⟨_, .binOp .neq _ _ _ _, _, _, _, _⟩ :: _) _ _ _; refine neqT rfl rfl omD ?_) | (show SH _ _ _ _ _ (⟨_, .load _ _, _, _, _, _⟩ :: _) _ _ _; refine lba rfl spL (by rfl) ?_) | (show SH _ _ _ _ _ (⟨_, .call ⟨.value (.func 100), _, _⟩, _, _, _, _⟩ :: _) _ _ _; refine cl (callee := .func 100) rfl (fun w hw => hQ w (hΦ _ (hw.kn spL))) rfl rfl ?_) | refine extr rfl rfl ?_ | refine bld rfl rfl ?_ | refine ala rfl (fun b => ?_) | (show SH _ _ _ _ _ (⟨_, .box _ _, _, _, _, _⟩ :: _) _ _ _; refine bxx rfl evL rfl (fun b => ?_)) | (show SH _ _ _ _ _ (⟨_, .store _ _ _, _, _, _, _⟩ :: _) _ _ _; refine sta rfl rfl rfl spL (by rfl) (by rfl) (by rfl) kpL ?_)) | refine s_nil ?_ | refine kh_normal ?_ | refine kh_ret ?_))
    exact rhC2 rfl rfl rfl rfl (fun w hw => loadVar_bx hw spL (by rfl)) refC0 (Ent.trans (B := kno Φ :: H) enL ent_ref0)
/-! Share -/
theorem idxP_first {id : Int} : ∀ {ps : List Pty} {k : Nat}, k < ps.length → (∀ j, j < k → (ps.getD j pty0).id ≠ id) → (ps.getD k pty0).id = id → idxP id ps = some k
  | p :: ps, 0, _, _, h => by rw [idxP, if_pos (show p.id = id from h)]
  | p :: ps, k + 1, h, hn, he => by
    rw [idxP, if_neg (show ¬ p.id = id from hn 0 (by omega)), idxP_first (ps := ps) (k := k) (by simpa using h) (fun j hj => by simpa using hn (j + 1) (by omega)) (by simpa using he)]
    rfl
theorem idxP_no {id : Int} : ∀ {ps : List Pty}, (∀ j, j < ps.length → (ps.getD j pty0).id ≠ id) → idxP id ps = none
  | [], _ => rfl
  | p :: ps, hn => by
    rw [idxP, if_neg (show ¬ p.id = id from hn 0 (by simp)), idxP_no (ps := ps) (fun j hj => by simpa using hn (j + 1) (by simpa using hj))]
    rfl
/-- What is left of an amount behind j shares of n. -/
def leftS (amount : Int) (n j : Nat) : Int := amount / (n : Int) * ((n : Int) - j) + max 0 (amount % (n : Int) - j)
theorem leftS_zero {amount : Int} {n : Nat} (hn : 0 < n) : leftS amount n 0 = amount := by
  unfold leftS
  have h1 := Int.emod_nonneg amount (show (n : Int) ≠ 0 by omega)
  have h2 := Int.mul_ediv_add_emod amount (n : Int)
  rw [Int.mul_comm] at h2
  simp only [Int.natCast_zero, Int.sub_zero]
  omega
theorem shares_at' (amount : Int) {n j : Nat} (hj : j < n) : (sharesM amount n).take (j + 1) = (sharesM amount n).take j ++ [amount / (n : Int) + (if (j : Int) < amount % (n : Int) then 1 else 0)] := by
  have hl : (sharesM amount n).length = n := by unfold sharesM; rw [List.length_map, List.length_range]
  rw [take_snoc (d := (0 : Int)) (by omega), List.getD_eq_getElem?_getD, List.getElem?_eq_getElem (by omega)]
  unfold sharesM
  simp
theorem leftS_step {amount : Int} {n j : Nat} (h0 : 0 ≤ amount) (hj : j < n) : (leftS amount n j + ((n : Int) - j) - 1) / ((n : Int) - j) = amount / (n : Int) + (if (j : Int) < amount % (n : Int) then 1 else 0) ∧ leftS amount n j - (amount / (n : Int) + (if (j : Int) < amount % (n : Int) then 1 else 0)) = leftS amount n (j + 1) := by
  have hr := Int.emod_lt_of_pos amount (show 0 < (n : Int) by omega)
  unfold leftS
  generalize amount / (n : Int) = q
  generalize amount % (n : Int) = r at hr
  have e1 : q * ((n : Int) - ((j + 1 : Nat) : Int)) = q * ((n : Int) - j) - q := by
    rw [show (n : Int) - ((j + 1 : Nat) : Int) = (n : Int) - j - 1 by omega, Int.mul_sub, Int.mul_one]
  rw [e1]
  by_cases hjr : (j : Int) < r
  · rw [if_pos hjr]
    refine ⟨?_, by omega⟩
    rw [show q * ((n : Int) - j) + max 0 (r - (j : Int)) + ((n : Int) - j) - 1 = (r - (j : Int) - 1) + (q + 1) * ((n : Int) - j) by rw [Int.add_mul, Int.one_mul]; omega, Int.add_mul_ediv_right _ _ (by omega), Int.ediv_eq_zero_of_lt (by omega) (by omega)]
    omega
  · rw [if_neg hjr]
    refine ⟨?_, by omega⟩
    rw [show q * ((n : Int) - j) + max 0 (r - (j : Int)) + ((n : Int) - j) - 1 = ((n : Int) - j - 1) + q * ((n : Int) - j) by omega, Int.add_mul_ediv_right _ _ (by omega), Int.ediv_eq_zero_of_lt (by omega) (by omega)]
    omega
theorem leftS_in {amount : Int} {n j : Nat} (h0 : 0 ≤ amount) (hn : 0 < n) (hj : j ≤ n) : 0 ≤ leftS amount n j ∧ leftS amount n j ≤ amount := by
  have h1 := Int.emod_nonneg amount (show (n : Int) ≠ 0 by omega)
  have h2 := Int.mul_ediv_add_emod amount (n : Int)
  have h3 := Int.ediv_nonneg h0 (show (0 : Int) ≤ n by omega)
  rw [Int.mul_comm] at h2
  unfold leftS
  generalize amount / (n : Int) = q at h2 h3
  have e1 : q * ((n : Int) - j) = q * n - q * j := Int.mul_sub ..
  have e2 : 0 ≤ q * (j : Int) := Int.mul_nonneg h3 (by omega)
  have e3 : 0 ≤ q * ((n : Int) - j) := Int.mul_nonneg h3 (by omega)
  omega
set_option maxHeartbeats 1000000 in
set_option maxRecDepth 100000 in
theorem refShare_spec (t la : Int) (A : Option Addr) (L : List PtyP) (c : Nat) (id amount : Int) (w : World) (hz : SzP L) (hr : RdP w A L) :
    Ret Tryz.prog 33 [hv36 t la A L c, .int .i64 id, .int .i64 amount].toArray w (RP w (FreshE 3 (shareM ⟨t, la, ptys L⟩ id amount).1 (shareM ⟨t, la, ptys L⟩ id amount).2)) := by
  have hV := fun w' h => refValid_spec t la A L c w' hz h
  have hll := hz.len
  have hrA := hr.1
  unfold shareM
  cases hv : validHal ⟨t, la, ptys L⟩ with
  | false =>
    rw [hv] at hV
    refine enterH Tryz.func33 rfl rfl Tryz.ntmps33 rfl (Wd.refl _) ?_
    (repeat' (first | (show VH _ _ _ _ _ _ _; first | refine v_seq ?_ | refine r_seq ?_ | refine v_ret ?_ | refine v_cond_t rfl tbL ?_) | (show SH _ _ _ _ _ (_ :: _) _ _ _; first | (show SH _ _ _ _ _ (⟨_, .assign _, _, _, _, _⟩ :: _) _ _ _; refine asg evL ?_) | (show SH _ _ _ _ _ (⟨_, .load _ _, _, _, _, _⟩ :: _) _ _ _; refine lba rfl spL (by rfl) ?_) | (show SH _ _ _ _ _ (⟨_, .call ⟨.value (.func 9), _, _⟩, _, _, _, _⟩ :: _) _ _ _; refine cl (callee := .func 9) rfl (fun w hw => hV w (hr.ext hw.ext)) rfl rfl ?_) | refine bnoF rfl ?_ | (show SH _ _ _ _ _ (⟨_, .box _ _, _, _, _, _⟩ :: _) _ _ _; refine bxx rfl evL rfl (fun b => ?_))) | refine s_nil ?_ | refine kh_normal ?_ | refine kh_ret ?_))
    exact rh2 rfl rfl rfl ⟨none, 0, rfl, rfl⟩ (ent_nilrow (ent_nil _))
  | true =>
    rw [hv] at hV
    rw [if_pos rfl]
    have hpos := fun (k : Nat) (hk : k < L.length) => ((valid_iff.1 hv).ok ((ptys L).getD k pty0) (by rw [List.getD_eq_getElem?_getD, List.getElem?_eq_getElem (by rw [ptys_len]; exact hk)]; exact List.getElem_mem _)).2.1
    refine enterH Tryz.func33 rfl rfl Tryz.ntmps33 rfl (Wd.refl _) ?_
    (repeat' (first | (show VH _ _ _ _ _ _ _; first | refine v_seq ?_ | refine r_seq ?_ | refine v_block ?_ | refine v_skip ?_ | refine v_cond_f rfl tbL ?_) | (show SH _ _ _ _ _ (_ :: _) _ _ _; first | (show SH _ _ _ _ _ (⟨_, .assign _, _, _, _, _⟩ :: _) _ _ _; refine asg evL ?_) | (show SH _ _ _ _ _ (⟨_, .load _ _, _, _, _, _⟩ :: _) _ _ _; refine lba rfl spL (by rfl) ?_) | (show SH _ _ _ _ _ (⟨_, .call ⟨.value (.func 9), _, _⟩, _, _, _, _⟩ :: _) _ _ _; refine cl (callee := .func 9) rfl (fun w hw => hV w (hr.ext hw.ext)) rfl rfl ?_) | refine bnoT rfl ?_ | (show SH _ _ _ _ _ (⟨_, .box _ _, _, _, _, _⟩ :: _) _ _ _; refine bxx rfl evL rfl (fun b => ?_))) | refine s_nil ?_ | refine kh_normal ?_))
    refine v_norm [(1,_),(2,_),(3,_),(8,_)] heL (fun g => ?_)
    refine v_loop [(6,12),(16,62)] (fun i : Nat => [(8, .int .i64 i)]) (fun _ => [bx b 30 [.int .i64 t, .int .i64 la, .slice A L.length c]]) (fun i => i ≤ L.length ∧ ∀ j, j < i → ((ptys L).getD j pty0).id ≠ id) (fun i => L.length - i) 0 hsL enL ⟨Nat.zero_le _, fun j h => absurd h (by omega)⟩ ?_
    rintro i g ⟨hi, hno⟩
    simp only [sets]
    by_cases hil : i < L.length
    · have hpi := ptys_at hil
      have hp1 := hpos i hil
      have hml := hz.atm hil
      obtain ⟨x, hx⟩ : ∃ x, L.getD i Flat.dflt = x := ⟨_, rfl⟩
      have hxE := pty_enc hx
      rw [hpi] at hp1
      rw [hx] at hpi hp1 hml
      clear hx hpos
      obtain ⟨⟨xi, xl, xm, xv⟩, xA, xca, xB, xcb⟩ := x
      simp only at hpi hp1 hml hxE
      by_cases hid : xi = id
      · have hidx : idxP id (ptys L) = some i := idxP_first (by rw [ptys_len]; exact hil) hno (by rw [hpi]; exact hid)
        rw [hidx]
        simp only
        rw [hpi]
        clear hno hidx hpi
        simp only
        by_cases hb : 0 ≤ amount ∧ amount ≤ 1099511627776
        · rw [if_pos hb]
          obtain ⟨b1_, b2_⟩ := hb
          (repeat' ((fail_if_success (show VH _ _ (.seq (.region 12 _ _) _) _ _ _ _)); first | (show VH _ _ _ _ _ _ _; first | refine v_seq ?_ | refine r_seq ?_ | refine v_block ?_ | refine v_skip ?_ | refine v_cond_t rfl tbL ?_ | refine v_cond_f rfl tbL ?_) | (show SH _ _ _ _ _ (_ :: _) _ _ _; first | (show SH _ _ _ _ _ (⟨_, _, _, _, _, some _⟩ :: _) _ _ _; (refine gif rfl rfl ?_; refine giFF tbL ?_)) | (show SH _ _ _ _ _ (⟨_, .move _, _, _, _, _⟩ :: _) _ _ _; refine mov evL ?_) | (show SH _ _ _ _ _ (⟨_, .assign _, _, _, _, _⟩ :: _) _ _ _; refine asg evL ?_) | (show SH _ _ _ _ _ (⟨_, .binOp .lss _ _ _ _, _, _, _, _⟩ :: _) _ _ _; first | refine lssT rfl rfl omD ?_ | refine lssF rfl rfl omD ?_) | (show SH _ _ _ _ _ (⟨_, .binOp .gtr _ _ _ _, _, _, _, _⟩ :: _) _ _ _; refine gtrF rfl rfl omD ?_) | (show SH _ _ _ _ _ (⟨_, .binOp .neq _ _ _ _, _, _, _, _⟩ :: _) _ _ _; refine neqF rfl rfl omD ?_) | (show SH _ _ _ _ _ (⟨_, .load _ _, _, _, _, _⟩ :: _) _ _ _; first | refine lbx rfl spL (by rfl) ?_ | refine lrg rfl (fun _ _ => rdK) (by rfl) omL (by assumption) (by rfl) ?_) | (show SH _ _ _ _ _ (⟨_, .indexAddr _ _ _, _, _, _, _⟩ :: _) _ _ _; refine ix rfl rfl (by with_reducible rfl) (fun _ _ => rdK) (by rfl) omL omL ?_) | refine slen rfl ?_ | (show SH _ _ _ _ _ (⟨_, .pick _ _ _, _, _, _, _⟩ :: _) _ _ _; refine pkf rfl tbL evL ?_) | refine fad rfl ?_) | refine s_nil ?_ | refine kh_normal ?_))
          refine v_normS [(6,12),(16,62)] _ agL [(9,_),(10,_),(11,_)] heL (fun g => ?_)
          refine VH.ent (G := [orow 3 none 0 ([] : List Int), bx b 30 [.int .i64 t, .int .i64 la, .slice A L.length c]]) ?_ (ent_nilrow enL)
          refine v_loop [(9,12),(45,61)] (fun y : Int × Int × Nat × List Int × Option Addr × Nat => [(11, .int .i64 y.1), (10, .int .i64 y.2.1), (9, .slice y.2.2.2.2.1 y.2.2.2.1.length y.2.2.2.2.2)]) (fun y => [orow 3 y.2.2.2.2.1 y.2.2.2.2.2 y.2.2.2.1, bx b 30 [.int .i64 t, .int .i64 la, .slice A L.length c]]) (fun y => y.2.2.1 ≤ xm.length ∧ y.1 = (xm.length : Int) - (y.2.2.1 : Int) ∧ y.2.1 = leftS amount xm.length y.2.2.1 ∧ y.2.2.2.1 = (sharesM amount xm.length).take y.2.2.1) (fun y => xm.length - y.2.2.1) ((xm.length : Int), amount, 0, [], none, 0) hsL enL ⟨Nat.zero_le _, by show (xm.length : Int) = (xm.length : Int) - ((0 : Nat) : Int); omega, (leftS_zero hp1).symm, rfl⟩ ?_
          rintro ⟨m, l, j, F, B, d⟩ g2 ⟨hj, hm, hl, hF⟩
          simp only at hj hm hl hF
          simp only [sets]
          by_cases hjl : j < xm.length
          · have hin := leftS_in b1_ hp1 hj
            have hst := leftS_step b1_ hjl
            have hsa := shares_at' amount hjl
            have hFl : F.length ≤ 1000 := by rw [hF, List.length_take]; omega
            rw [← hm, ← hl] at hst
            rw [← hl] at hin
            rw [← hst.1, ← hF] at hsa
            have hst2 := hst.2
            rw [← hst.1] at hst2
            have hm0 : 0 < m := by omega
            have hm1 : m ≤ 1000 := by omega
            have hq0 : 0 ≤ (l + m - 1) / m := Int.ediv_nonneg (by omega) (by omega)
            have hq1 : (l + m - 1) / m ≤ l + m - 1 := Int.ediv_le_self _ (by omega)
            clear hl hst hF hp1
            (repeat' (first | (show VH _ _ _ _ _ _ _; first | refine v_seq ?_ | refine r_seq ?_ | refine v_block ?_ | refine v_skip ?_ | refine v_cond_t rfl tbL ?_) | (show SH _ _ _ _ _ (_ :: _) _ _ _; first | (show SH _ _ _ _ _ (⟨_, .move _, _, _, _, _⟩ :: _) _ _ _; refine mov evL ?_) | (show SH _ _ _ _ _ (⟨_, .assign _, _, _, _, _⟩ :: _) _ _ _; refine asg evL ?_) | (show SH _ _ _ _ _ (⟨_, .binOp .gtr _ _ _ _, _, _, _, _⟩ :: _) _ _ _; refine gtrT rfl rfl omD ?_) | (show SH _ _ _ _ _ (⟨_, .binOp .add _ _ _ _, _, _, _, _⟩ :: _) _ _ _; refine add rfl rfl inL ?_) | (show SH _ _ _ _ _ (⟨_, .binOp .sub _ _ _ _, _, _, _, _⟩ :: _) _ _ _; refine sub rfl rfl inL ?_) | (show SH _ _ _ _ _ (⟨_, .binOp .quo _ _ _ _, _, _, _, _⟩ :: _) _ _ _; refine quo rfl rfl omL omL omL ?_) | (show SH _ _ _ _ _ (⟨_, .buildSlice _ _ _, _, _, _, _⟩ :: _) _ _ _; refine bsl (α := Int) rfl rfl (by repeat (first | exact Vals.nil | (apply Vals.cons; rfl))) rfl (by rfl) (by decide) (fun b => ?_))) | refine s_nil ?_ | refine kh_normal ?_))
            refine app (l := F) (l2 := [((l + m - 1) / m : Int)]) rfl rfl rfl spL (fun w hw => hw.rd spL) rfl rfl rfl (by simp only [List.length_singleton]; omega) (by simp only [List.length_singleton]; omega) (fun A4 c4 => ⟨enL, ?_⟩)
            (repeat' (first | refine r_seq ?_ | (show SH _ _ _ _ _ (_ :: _) _ _ _; first | (show SH _ _ _ _ _ (⟨_, .move _, _, _, _, _⟩ :: _) _ _ _; refine mov evL ?_) | (show SH _ _ _ _ _ (⟨_, .assign _, _, _, _, _⟩ :: _) _ _ _; refine asg evL ?_) | (show SH _ _ _ _ _ (⟨_, .binOp .sub _ _ _ _, _, _, _, _⟩ :: _) _ _ _; refine sub rfl rfl inL ?_)) | refine s_nil ?_ | refine kh_normal ?_ | refine bh_normal ?_))
            exact ⟨agL, (m - 1, l - (l + m - 1) / m, j + 1, F ++ [(l + m - 1) / m], A4, c4), hsL, enL, ⟨hjl, by show m - 1 = (xm.length : Int) - ((j + 1 : Nat) : Int); omega, hst2, hsa.symm⟩, by show xm.length - (j + 1) < xm.length - j; omega⟩
          · obtain rfl : j = xm.length := by omega
            have hm0 : m = 0 := by omega
            have hall : F = sharesM amount xm.length := by
              rw [hF, List.take_of_length_le]
              unfold sharesM
              rw [List.length_map, List.length_range]
              exact Nat.le_refl _
            rw [← hall]
            clear hF hall hl hm
            (repeat' (first | (show VH _ _ _ _ _ _ _; first | refine v_seq ?_ | refine r_seq ?_ | refine v_ret ?_ | refine v_exit ?_ | refine v_cond_f rfl tbL ?_) | (show SH _ _ _ _ _ (_ :: _) _ _ _; first | (show SH _ _ _ _ _ (⟨_, .move _, _, _, _, _⟩ :: _) _ _ _; refine mov evL ?_) | (show SH _ _ _ _ _ (⟨_, .assign _, _, _, _, _⟩ :: _) _ _ _; refine asg evL ?_) | (show SH _ _ _ _ _ (⟨_, .binOp .gtr _ _ _ _, _, _, _, _⟩ :: _) _ _ _; refine gtrF rfl rfl omD ?_)) | refine s_nil ?_ | refine kh_normal ?_ | refine kh_ret ?_ | refine kh_exit ?_ | refine bh_ret ?_ | refine bh_exit ?_))
            exact rh2 rfl rfl rfl ⟨B, d, rfl, rfl⟩ enL
        · rw [if_neg hb]
          have hcc : Hid _ := hb
          clear hb
          (repeat' (first | (show VH _ _ _ _ _ _ _; first | refine v_seq ?_ | refine r_seq ?_ | refine v_block ?_ | refine v_ret ?_ | refine v_skip ?_ | refine v_cond_t rfl tbL ?_ | refine v_cond_f rfl tbL ?_ | refine v_cond_dec rfl (fun h => ?_) (fun h => ?_)) | (show SH _ _ _ _ _ (_ :: _) _ _ _; first | (show SH _ _ _ _ _ (⟨_, _, _, _, _, some _⟩ :: _) _ _ _; (refine gif rfl rfl ?_; first | refine giFF tbL ?_ | refine giFT tbL ?_ | refine giFd (fun h => ?_) (fun h => ?_))) | (show SH _ _ _ _ _ (⟨_, .move _, _, _, _, _⟩ :: _) _ _ _; refine mov evL ?_) | (show SH _ _ _ _ _ (⟨_, .assign _, _, _, _, _⟩ :: _) _ _ _; refine asg evL ?_) | (show SH _ _ _ _ _ (⟨_, .binOp .lss _ _ _ _, _, _, _, _⟩ :: _) _ _ _; first | refine lssT rfl rfl omD ?_ | refine lss rfl rfl ?_) | refine gtr rfl rfl ?_ | (show SH _ _ _ _ _ (⟨_, .binOp .neq _ _ _ _, _, _, _, _⟩ :: _) _ _ _; refine neqF rfl rfl omD ?_) | (show SH _ _ _ _ _ (⟨_, .load _ _, _, _, _, _⟩ :: _) _ _ _; first | refine lbx rfl spL (by rfl) ?_ | refine lrg rfl (fun _ _ => rdK) (by rfl) omL (by assumption) (by rfl) ?_) | (show SH _ _ _ _ _ (⟨_, .indexAddr _ _ _, _, _, _, _⟩ :: _) _ _ _; refine ix rfl rfl (by with_reducible rfl) (fun _ _ => rdK) (by rfl) omL omL ?_) | refine slen rfl ?_ | (show SH _ _ _ _ _ (⟨_, .pick _ _ _, _, _, _, _⟩ :: _) _ _ _; first | refine pkt rfl tbL evL ?_ | refine pkf rfl tbL evL ?_) | refine fad rfl ?_) | refine s_nil ?_ | refine kh_normal ?_ | refine kh_ret ?_ | refine bh_ret ?_))
          all_goals first
            | exact rh2 rfl rfl rfl ⟨none, 0, rfl, rfl⟩ (ent_nilrow (ent_nil _))
            | exact absurd ⟨by omega, by omega⟩ hcc
      · (repeat' (first | (show VH _ _ _ _ _ _ _; first | refine v_seq ?_ | refine r_seq ?_ | refine v_block ?_ | refine v_skip ?_ | refine v_exit ?_ | refine v_cond_t rfl tbL ?_) | (show SH _ _ _ _ _ (_ :: _) _ _ _; first | (show SH _ _ _ _ _ (⟨_, .move _, _, _, _, _⟩ :: _) _ _ _; refine mov evL ?_) | (show SH _ _ _ _ _ (⟨_, .assign _, _, _, _, _⟩ :: _) _ _ _; refine asg evL ?_) | (show SH _ _ _ _ _ (⟨_, .binOp .lss _ _ _ _, _, _, _, _⟩ :: _) _ _ _; refine lssT rfl rfl omD ?_) | (show SH _ _ _ _ _ (⟨_, .binOp .neq _ _ _ _, _, _, _, _⟩ :: _) _ _ _; refine neqT rfl rfl omD ?_) | (show SH _ _ _ _ _ (⟨_, .binOp .add _ _ _ _, _, _, _, _⟩ :: _) _ _ _; refine add rfl rfl inL ?_) | (show SH _ _ _ _ _ (⟨_, .load _ _, _, _, _, _⟩ :: _) _ _ _; first | refine lbx rfl spL (by rfl) ?_ | refine lrg rfl (fun _ _ => rdK) (by rfl) omL (by assumption) (by rfl) ?_) | (show SH _ _ _ _ _ (⟨_, .indexAddr _ _ _, _, _, _, _⟩ :: _) _ _ _; refine ix rfl rfl (by with_reducible rfl) (fun _ _ => rdK) (by rfl) omL omL ?_) | refine slen rfl ?_ | refine fad rfl ?_) | refine s_nil ?_ | refine kh_normal ?_ | refine kh_exit ?_ | refine bh_exit ?_))
        exact ⟨agL, i + 1, hsL, enL, ⟨hil, fun j hj => by
          by_cases e : j = i
          · rw [e, hpi]; exact hid
          · exact hno j (by omega)⟩, by show L.length - (i + 1) < L.length - i; omega⟩
    · obtain rfl : i = L.length := by omega
      rw [idxP_no (by rw [ptys_len]; exact hno)]
      simp only
      (repeat' (first | (show VH _ _ _ _ _ _ _; first | refine v_seq ?_ | refine r_seq ?_ | refine v_ret ?_ | refine v_exit ?_ | refine v_cond_f rfl tbL ?_) | (show SH _ _ _ _ _ (_ :: _) _ _ _; first | (show SH _ _ _ _ _ (⟨_, .move _, _, _, _, _⟩ :: _) _ _ _; refine mov evL ?_) | (show SH _ _ _ _ _ (⟨_, .assign _, _, _, _, _⟩ :: _) _ _ _; refine asg evL ?_) | (show SH _ _ _ _ _ (⟨_, .binOp .lss _ _ _ _, _, _, _, _⟩ :: _) _ _ _; refine lssF rfl rfl omD ?_) | (show SH _ _ _ _ _ (⟨_, .load _ _, _, _, _, _⟩ :: _) _ _ _; refine lbx rfl spL (by rfl) ?_) | refine slen rfl ?_ | refine fad rfl ?_) | refine s_nil ?_ | refine kh_normal ?_ | refine kh_exit ?_ | refine bh_exit ?_))
      exact rh2 rfl rfl rfl ⟨none, 0, rfl, rfl⟩ (ent_nilrow (ent_nil _))
end Go.Proofs.YtlfbcoohfnoacaaGreat

/- marcheslaw36: same (printed by gen_sm36.py). -/
namespace Go.Proofs.YtlfbcoohfnoacaaGreat
open Go.Fw Go.RowKit
set_option maxHeartbeats 4000000 in
set_option maxRecDepth 100000 in
theorem sameR_spec (t la : Int) (A : Option Addr) (L : List PtyP) (c : Nat) (kind p q : Int) (Φ : World → Prop) (w0 : World) (H : List HP) (w : World) (hz : SzP L) (hc : L.length ≤ c) (hΦ : ∀ w, Φ w → RdP w A L) (hw : Wd w0 (kno Φ :: H) w) :
    Ret Tryz.prog 31 [hv36 t la A L c, .agg #[.int .i64 kind, .int .i64 p, .int .i64 q]].toArray w (RP w0 (RefC Φ H (doR ⟨t, la, ptys L⟩ kind p q))) := by
  have hpk := fun w => pick_spec kind 9 w (by omega) (by omega)
  have hm : kind % 9 = 0 ∨ kind % 9 = 1 ∨ kind % 9 = 2 ∨ kind % 9 = 3 ∨ kind % 9 = 4 ∨ kind % 9 = 5 ∨ kind % 9 = 6 ∨ kind % 9 = 7 ∨ kind % 9 = 8 := by omega
  unfold doR
  rcases hm with hm | hm | hm | hm | hm | hm | hm | hm | hm
  · rw [hm] at hpk ⊢
    refine enterH Tryz.func31 rfl rfl Tryz.ntmps31 rfl (by assumption) ?_
    (repeat' (first | (show VH _ _ _ _ _ _ _; first | refine v_seq ?_ | refine r_seq ?_ | refine v_block ?_ | refine v_cond_t rfl tbL ?_) | (show SH _ _ _ _ _ (_ :: _) _ _ _; first | (show SH _ _ _ _ _ (⟨_, .assign _, _, _, _, _⟩ :: _) _ _ _; refine asg evL ?_) | (show SH _ _ _ _ _ (⟨_, .binOp .eql _ _ _ _, _, _, _, _⟩ :: _) _ _ _; refine eqlT rfl rfl omD ?_) | (show SH _ _ _ _ _ (⟨_, .load _ _, _, _, _, _⟩ :: _) _ _ _; first | refine lbx rfl spL (by rfl) ?_ | refine lba rfl spL (by rfl) ?_) | (show SH _ _ _ _ _ (⟨_, .call ⟨.value (.func 38), _, _⟩, _, _, _, _⟩ :: _) _ _ _; refine cl (callee := .func 38) rfl (fun w hw => hpk w) rfl rfl ?_) | refine fad rfl ?_ | refine ala rfl (fun b => ?_) | (show SH _ _ _ _ _ (⟨_, .box _ _, _, _, _, _⟩ :: _) _ _ _; refine bxx rfl evL rfl (fun b => ?_))) | refine s_nil ?_ | refine kh_normal ?_))
    rename_i b1 b2
    refine cm rfl (fun w3 hw3 => refAdvance_spec t la A L c p Φ w0 (bx b1 30 [.int .i64 t, .int .i64 la, .slice A L.length c] :: bx b2 36 [.int .i64 kind, .int .i64 p, .int .i64 q] :: bx b 30 [.int .i64 0, .int .i64 0, .slice none 0 0] :: H) w3 hz hc hΦ (Ent.wd enL hw3)) rfl rfl ?_
    rintro _ _ ⟨A1, c1, M, hM, hcM, rfl, rfl⟩
    refine ⟨enL, ?_⟩
    (repeat' (first | refine v_ret ?_ | (show SH _ _ _ _ _ (_ :: _) _ _ _; first | (show SH _ _ _ _ _ (⟨_, .assign _, _, _, _, _⟩ :: _) _ _ _; refine asg evL ?_) | refine extr rfl rfl ?_ | (show SH _ _ _ _ _ (⟨_, .store _ _ _, _, _, _, _⟩ :: _) _ _ _; refine sta rfl rfl rfl spL (by rfl) (by rfl) (by rfl) kpL ?_)) | refine s_nil ?_ | refine kh_normal ?_ | refine kh_ret ?_ | refine bh_ret ?_))
    exact rhC2 rfl rfl rfl rfl (fun w hw => loadVar_bx hw spL (by rfl)) ⟨A1, c1, M, hM, hcM, rfl, rfl⟩ enL
  · rw [hm] at hpk ⊢
    refine enterH Tryz.func31 rfl rfl Tryz.ntmps31 rfl (by assumption) ?_
    (repeat' (first | (show VH _ _ _ _ _ _ _; first | refine v_seq ?_ | refine r_seq ?_ | refine v_block ?_ | refine v_cond_t rfl tbL ?_ | refine v_cond_f rfl tbL ?_) | (show SH _ _ _ _ _ (_ :: _) _ _ _; first | (show SH _ _ _ _ _ (⟨_, .assign _, _, _, _, _⟩ :: _) _ _ _; refine asg evL ?_) | (show SH _ _ _ _ _ (⟨_, .binOp .eql _ _ _ _, _, _, _, _⟩ :: _) _ _ _; first | refine eqlT rfl rfl omD ?_ | refine eqlF rfl rfl omD ?_) | (show SH _ _ _ _ _ (⟨_, .load _ _, _, _, _, _⟩ :: _) _ _ _; first | refine lbx rfl spL (by rfl) ?_ | refine lba rfl spL (by rfl) ?_) | (show SH _ _ _ _ _ (⟨_, .call ⟨.value (.func 38), _, _⟩, _, _, _, _⟩ :: _) _ _ _; refine cl (callee := .func 38) rfl (fun w hw => hpk w) rfl rfl ?_) | refine fad rfl ?_ | refine ala rfl (fun b => ?_) | (show SH _ _ _ _ _ (⟨_, .box _ _, _, _, _, _⟩ :: _) _ _ _; refine bxx rfl evL rfl (fun b => ?_))) | refine s_nil ?_ | refine kh_normal ?_))
    rename_i b1 b2
    refine cm rfl (fun w3 hw3 => refCreate_spec t la A L c p Φ w0 (bx b1 30 [.int .i64 t, .int .i64 la, .slice A L.length c] :: bx b2 36 [.int .i64 kind, .int .i64 p, .int .i64 q] :: bx b 30 [.int .i64 0, .int .i64 0, .slice none 0 0] :: H) w3 hz hc hΦ (Ent.wd enL hw3)) rfl rfl ?_
    rintro _ _ ⟨A1, c1, M, hM, hcM, rfl, rfl⟩
    refine ⟨enL, ?_⟩
    (repeat' (first | refine v_ret ?_ | (show SH _ _ _ _ _ (_ :: _) _ _ _; first | (show SH _ _ _ _ _ (⟨_, .assign _, _, _, _, _⟩ :: _) _ _ _; refine asg evL ?_) | refine extr rfl rfl ?_ | (show SH _ _ _ _ _ (⟨_, .store _ _ _, _, _, _, _⟩ :: _) _ _ _; refine sta rfl rfl rfl spL (by rfl) (by rfl) (by rfl) kpL ?_)) | refine s_nil ?_ | refine kh_normal ?_ | refine kh_ret ?_ | refine bh_ret ?_))
    exact rhC2 rfl rfl rfl rfl (fun w hw => loadVar_bx hw spL (by rfl)) ⟨A1, c1, M, hM, hcM, rfl, rfl⟩ enL
  · rw [hm] at hpk ⊢
    refine enterH Tryz.func31 rfl rfl Tryz.ntmps31 rfl (by assumption) ?_
    (repeat' (first | (show VH _ _ _ _ _ _ _; first | refine v_seq ?_ | refine r_seq ?_ | refine v_block ?_ | refine v_cond_t rfl tbL ?_ | refine v_cond_f rfl tbL ?_) | (show SH _ _ _ _ _ (_ :: _) _ _ _; first | (show SH _ _ _ _ _ (⟨_, .assign _, _, _, _, _⟩ :: _) _ _ _; refine asg evL ?_) | (show SH _ _ _ _ _ (⟨_, .binOp .eql _ _ _ _, _, _, _, _⟩ :: _) _ _ _; first | refine eqlT rfl rfl omD ?_ | refine eqlF rfl rfl omD ?_) | (show SH _ _ _ _ _ (⟨_, .load _ _, _, _, _, _⟩ :: _) _ _ _; first | refine lbx rfl spL (by rfl) ?_ | refine lba rfl spL (by rfl) ?_) | (show SH _ _ _ _ _ (⟨_, .call ⟨.value (.func 38), _, _⟩, _, _, _, _⟩ :: _) _ _ _; refine cl (callee := .func 38) rfl (fun w hw => hpk w) rfl rfl ?_) | refine fad rfl ?_ | refine ala rfl (fun b => ?_) | (show SH _ _ _ _ _ (⟨_, .box _ _, _, _, _, _⟩ :: _) _ _ _; refine bxx rfl evL rfl (fun b => ?_))) | refine s_nil ?_ | refine kh_normal ?_))
    rename_i b1 b2
    refine cm rfl (fun w3 hw3 => refInvited_spec t la A L c p q Φ w0 (bx b1 30 [.int .i64 t, .int .i64 la, .slice A L.length c] :: bx b2 36 [.int .i64 kind, .int .i64 p, .int .i64 q] :: bx b 30 [.int .i64 0, .int .i64 0, .slice none 0 0] :: H) w3 hz hc hΦ (Ent.wd enL hw3)) rfl rfl ?_
    rintro _ _ ⟨A1, c1, M, hM, hcM, rfl, rfl⟩
    refine ⟨enL, ?_⟩
    (repeat' (first | refine v_ret ?_ | (show SH _ _ _ _ _ (_ :: _) _ _ _; first | (show SH _ _ _ _ _ (⟨_, .assign _, _, _, _, _⟩ :: _) _ _ _; refine asg evL ?_) | refine extr rfl rfl ?_ | (show SH _ _ _ _ _ (⟨_, .store _ _ _, _, _, _, _⟩ :: _) _ _ _; refine sta rfl rfl rfl spL (by rfl) (by rfl) (by rfl) kpL ?_)) | refine s_nil ?_ | refine kh_normal ?_ | refine kh_ret ?_ | refine bh_ret ?_))
    exact rhC2 rfl rfl rfl rfl (fun w hw => loadVar_bx hw spL (by rfl)) ⟨A1, c1, M, hM, hcM, rfl, rfl⟩ enL
  · rw [hm] at hpk ⊢
    refine enterH Tryz.func31 rfl rfl Tryz.ntmps31 rfl (by assumption) ?_
    (repeat' (first | (show VH _ _ _ _ _ _ _; first | refine v_seq ?_ | refine r_seq ?_ | refine v_block ?_ | refine v_cond_t rfl tbL ?_ | refine v_cond_f rfl tbL ?_) | (show SH _ _ _ _ _ (_ :: _) _ _ _; first | (show SH _ _ _ _ _ (⟨_, .assign _, _, _, _, _⟩ :: _) _ _ _; refine asg evL ?_) | (show SH _ _ _ _ _ (⟨_, .binOp .eql _ _ _ _, _, _, _, _⟩ :: _) _ _ _; first | refine eqlT rfl rfl omD ?_ | refine eqlF rfl rfl omD ?_) | (show SH _ _ _ _ _ (⟨_, .load _ _, _, _, _, _⟩ :: _) _ _ _; first | refine lbx rfl spL (by rfl) ?_ | refine lba rfl spL (by rfl) ?_) | (show SH _ _ _ _ _ (⟨_, .call ⟨.value (.func 38), _, _⟩, _, _, _, _⟩ :: _) _ _ _; refine cl (callee := .func 38) rfl (fun w hw => hpk w) rfl rfl ?_) | refine fad rfl ?_ | refine ala rfl (fun b => ?_) | (show SH _ _ _ _ _ (⟨_, .box _ _, _, _, _, _⟩ :: _) _ _ _; refine bxx rfl evL rfl (fun b => ?_))) | refine s_nil ?_ | refine kh_normal ?_))
    rename_i b1 b2
    refine cm rfl (fun w3 hw3 => refAccept_spec t la A L c p q Φ w0 (bx b1 30 [.int .i64 t, .int .i64 la, .slice A L.length c] :: bx b2 36 [.int .i64 kind, .int .i64 p, .int .i64 q] :: bx b 30 [.int .i64 0, .int .i64 0, .slice none 0 0] :: H) w3 hz hc hΦ (Ent.wd enL hw3)) rfl rfl ?_
    rintro _ _ ⟨A1, c1, M, hM, hcM, rfl, rfl⟩
    refine ⟨enL, ?_⟩
    (repeat' (first | refine v_ret ?_ | (show SH _ _ _ _ _ (_ :: _) _ _ _; first | (show SH _ _ _ _ _ (⟨_, .assign _, _, _, _, _⟩ :: _) _ _ _; refine asg evL ?_) | refine extr rfl rfl ?_ | (show SH _ _ _ _ _ (⟨_, .store _ _ _, _, _, _, _⟩ :: _) _ _ _; refine sta rfl rfl rfl spL (by rfl) (by rfl) (by rfl) kpL ?_)) | refine s_nil ?_ | refine kh_normal ?_ | refine kh_ret ?_ | refine bh_ret ?_))
    exact rhC2 rfl rfl rfl rfl (fun w hw => loadVar_bx hw spL (by rfl)) ⟨A1, c1, M, hM, hcM, rfl, rfl⟩ enL
  · rw [hm] at hpk ⊢
    refine enterH Tryz.func31 rfl rfl Tryz.ntmps31 rfl (by assumption) ?_
    (repeat' (first | (show VH _ _ _ _ _ _ _; first | refine v_seq ?_ | refine r_seq ?_ | refine v_block ?_ | refine v_cond_t rfl tbL ?_ | refine v_cond_f rfl tbL ?_) | (show SH _ _ _ _ _ (_ :: _) _ _ _; first | (show SH _ _ _ _ _ (⟨_, .assign _, _, _, _, _⟩ :: _) _ _ _; refine asg evL ?_) | (show SH _ _ _ _ _ (⟨_, .binOp .eql _ _ _ _, _, _, _, _⟩ :: _) _ _ _; first | refine eqlT rfl rfl omD ?_ | refine eqlF rfl rfl omD ?_) | (show SH _ _ _ _ _ (⟨_, .load _ _, _, _, _, _⟩ :: _) _ _ _; first | refine lbx rfl spL (by rfl) ?_ | refine lba rfl spL (by rfl) ?_) | (show SH _ _ _ _ _ (⟨_, .call ⟨.value (.func 38), _, _⟩, _, _, _, _⟩ :: _) _ _ _; refine cl (callee := .func 38) rfl (fun w hw => hpk w) rfl rfl ?_) | refine fad rfl ?_ | refine ala rfl (fun b => ?_) | (show SH _ _ _ _ _ (⟨_, .box _ _, _, _, _, _⟩ :: _) _ _ _; refine bxx rfl evL rfl (fun b => ?_))) | refine s_nil ?_ | refine kh_normal ?_))
    rename_i b1 b2
    refine cm rfl (fun w3 hw3 => refDecline_spec t la A L c p q Φ w0 (bx b1 30 [.int .i64 t, .int .i64 la, .slice A L.length c] :: bx b2 36 [.int .i64 kind, .int .i64 p, .int .i64 q] :: bx b 30 [.int .i64 0, .int .i64 0, .slice none 0 0] :: H) w3 hz hc hΦ (Ent.wd enL hw3)) rfl rfl ?_
    rintro _ _ ⟨A1, c1, M, hM, hcM, rfl, rfl⟩
    refine ⟨enL, ?_⟩
    (repeat' (first | refine v_ret ?_ | (show SH _ _ _ _ _ (_ :: _) _ _ _; first | (show SH _ _ _ _ _ (⟨_, .assign _, _, _, _, _⟩ :: _) _ _ _; refine asg evL ?_) | refine extr rfl rfl ?_ | (show SH _ _ _ _ _ (⟨_, .store _ _ _, _, _, _, _⟩ :: _) _ _ _; refine sta rfl rfl rfl spL (by rfl) (by rfl) (by rfl) kpL ?_)) | refine s_nil ?_ | refine kh_normal ?_ | refine kh_ret ?_ | refine bh_ret ?_))
    exact rhC2 rfl rfl rfl rfl (fun w hw => loadVar_bx hw spL (by rfl)) ⟨A1, c1, M, hM, hcM, rfl, rfl⟩ enL
  · rw [hm] at hpk ⊢
    refine enterH Tryz.func31 rfl rfl Tryz.ntmps31 rfl (by assumption) ?_
    (repeat' (first | (show VH _ _ _ _ _ _ _; first | refine v_seq ?_ | refine r_seq ?_ | refine v_block ?_ | refine v_cond_t rfl tbL ?_ | refine v_cond_f rfl tbL ?_) | (show SH _ _ _ _ _ (_ :: _) _ _ _; first | (show SH _ _ _ _ _ (⟨_, .assign _, _, _, _, _⟩ :: _) _ _ _; refine asg evL ?_) | (show SH _ _ _ _ _ (⟨_, .binOp .eql _ _ _ _, _, _, _, _⟩ :: _) _ _ _; first | refine eqlT rfl rfl omD ?_ | refine eqlF rfl rfl omD ?_) | (show SH _ _ _ _ _ (⟨_, .load _ _, _, _, _, _⟩ :: _) _ _ _; first | refine lbx rfl spL (by rfl) ?_ | refine lba rfl spL (by rfl) ?_) | (show SH _ _ _ _ _ (⟨_, .call ⟨.value (.func 38), _, _⟩, _, _, _, _⟩ :: _) _ _ _; refine cl (callee := .func 38) rfl (fun w hw => hpk w) rfl rfl ?_) | refine fad rfl ?_ | refine ala rfl (fun b => ?_) | (show SH _ _ _ _ _ (⟨_, .box _ _, _, _, _, _⟩ :: _) _ _ _; refine bxx rfl evL rfl (fun b => ?_))) | refine s_nil ?_ | refine kh_normal ?_))
    rename_i b1 b2
    refine cm rfl (fun w3 hw3 => refLeave_spec t la A L c p Φ w0 (bx b1 30 [.int .i64 t, .int .i64 la, .slice A L.length c] :: bx b2 36 [.int .i64 kind, .int .i64 p, .int .i64 q] :: bx b 30 [.int .i64 0, .int .i64 0, .slice none 0 0] :: H) w3 hz hc hΦ (Ent.wd enL hw3)) rfl rfl ?_
    rintro _ _ ⟨A1, c1, M, hM, hcM, rfl, rfl⟩
    refine ⟨enL, ?_⟩
    (repeat' (first | refine v_ret ?_ | (show SH _ _ _ _ _ (_ :: _) _ _ _; first | (show SH _ _ _ _ _ (⟨_, .assign _, _, _, _, _⟩ :: _) _ _ _; refine asg evL ?_) | refine extr rfl rfl ?_ | (show SH _ _ _ _ _ (⟨_, .store _ _ _, _, _, _, _⟩ :: _) _ _ _; refine sta rfl rfl rfl spL (by rfl) (by rfl) (by rfl) kpL ?_)) | refine s_nil ?_ | refine kh_normal ?_ | refine kh_ret ?_ | refine bh_ret ?_))
    exact rhC2 rfl rfl rfl rfl (fun w hw => loadVar_bx hw spL (by rfl)) ⟨A1, c1, M, hM, hcM, rfl, rfl⟩ enL
  · rw [hm] at hpk ⊢
    refine enterH Tryz.func31 rfl rfl Tryz.ntmps31 rfl (by assumption) ?_
    (repeat' (first | (show VH _ _ _ _ _ _ _; first | refine v_seq ?_ | refine r_seq ?_ | refine v_block ?_ | refine v_cond_t rfl tbL ?_ | refine v_cond_f rfl tbL ?_) | (show SH _ _ _ _ _ (_ :: _) _ _ _; first | (show SH _ _ _ _ _ (⟨_, .assign _, _, _, _, _⟩ :: _) _ _ _; refine asg evL ?_) | (show SH _ _ _ _ _ (⟨_, .binOp .eql _ _ _ _, _, _, _, _⟩ :: _) _ _ _; first | refine eqlT rfl rfl omD ?_ | refine eqlF rfl rfl omD ?_) | (show SH _ _ _ _ _ (⟨_, .load _ _, _, _, _, _⟩ :: _) _ _ _; first | refine lbx rfl spL (by rfl) ?_ | refine lba rfl spL (by rfl) ?_) | (show SH _ _ _ _ _ (⟨_, .call ⟨.value (.func 38), _, _⟩, _, _, _, _⟩ :: _) _ _ _; refine cl (callee := .func 38) rfl (fun w hw => hpk w) rfl rfl ?_) | refine fad rfl ?_ | refine ala rfl (fun b => ?_) | (show SH _ _ _ _ _ (⟨_, .box _ _, _, _, _, _⟩ :: _) _ _ _; refine bxx rfl evL rfl (fun b => ?_))) | refine s_nil ?_ | refine kh_normal ?_))
    rename_i b1 b2
    refine cm rfl (fun w3 hw3 => refKick_spec t la A L c p q Φ w0 (bx b1 30 [.int .i64 t, .int .i64 la, .slice A L.length c] :: bx b2 36 [.int .i64 kind, .int .i64 p, .int .i64 q] :: bx b 30 [.int .i64 0, .int .i64 0, .slice none 0 0] :: H) w3 hz hc hΦ (Ent.wd enL hw3)) rfl rfl ?_
    rintro _ _ ⟨A1, c1, M, hM, hcM, rfl, rfl⟩
    refine ⟨enL, ?_⟩
    (repeat' (first | refine v_ret ?_ | (show SH _ _ _ _ _ (_ :: _) _ _ _; first | (show SH _ _ _ _ _ (⟨_, .assign _, _, _, _, _⟩ :: _) _ _ _; refine asg evL ?_) | refine extr rfl rfl ?_ | (show SH _ _ _ _ _ (⟨_, .store _ _ _, _, _, _, _⟩ :: _) _ _ _; refine sta rfl rfl rfl spL (by rfl) (by rfl) (by rfl) kpL ?_)) | refine s_nil ?_ | refine kh_normal ?_ | refine kh_ret ?_ | refine bh_ret ?_))
    exact rhC2 rfl rfl rfl rfl (fun w hw => loadVar_bx hw spL (by rfl)) ⟨A1, c1, M, hM, hcM, rfl, rfl⟩ enL
  · rw [hm] at hpk ⊢
    refine enterH Tryz.func31 rfl rfl Tryz.ntmps31 rfl (by assumption) ?_
    (repeat' (first | (show VH _ _ _ _ _ _ _; first | refine v_seq ?_ | refine r_seq ?_ | refine v_block ?_ | refine v_cond_t rfl tbL ?_ | refine v_cond_f rfl tbL ?_) | (show SH _ _ _ _ _ (_ :: _) _ _ _; first | (show SH _ _ _ _ _ (⟨_, .assign _, _, _, _, _⟩ :: _) _ _ _; refine asg evL ?_) | (show SH _ _ _ _ _ (⟨_, .binOp .eql _ _ _ _, _, _, _, _⟩ :: _) _ _ _; first | refine eqlT rfl rfl omD ?_ | refine eqlF rfl rfl omD ?_) | (show SH _ _ _ _ _ (⟨_, .load _ _, _, _, _, _⟩ :: _) _ _ _; first | refine lbx rfl spL (by rfl) ?_ | refine lba rfl spL (by rfl) ?_) | (show SH _ _ _ _ _ (⟨_, .call ⟨.value (.func 38), _, _⟩, _, _, _, _⟩ :: _) _ _ _; refine cl (callee := .func 38) rfl (fun w hw => hpk w) rfl rfl ?_) | refine fad rfl ?_ | refine ala rfl (fun b => ?_) | (show SH _ _ _ _ _ (⟨_, .box _ _, _, _, _, _⟩ :: _) _ _ _; refine bxx rfl evL rfl (fun b => ?_))) | refine s_nil ?_ | refine kh_normal ?_))
    rename_i b1 b2
    refine cm rfl (fun w3 hw3 => refPromote_spec t la A L c p q Φ w0 (bx b1 30 [.int .i64 t, .int .i64 la, .slice A L.length c] :: bx b2 36 [.int .i64 kind, .int .i64 p, .int .i64 q] :: bx b 30 [.int .i64 0, .int .i64 0, .slice none 0 0] :: H) w3 hz hc hΦ (Ent.wd enL hw3)) rfl rfl ?_
    rintro _ _ ⟨A1, c1, M, hM, hcM, rfl, rfl⟩
    refine ⟨enL, ?_⟩
    (repeat' (first | refine v_ret ?_ | (show SH _ _ _ _ _ (_ :: _) _ _ _; first | (show SH _ _ _ _ _ (⟨_, .assign _, _, _, _, _⟩ :: _) _ _ _; refine asg evL ?_) | refine extr rfl rfl ?_ | (show SH _ _ _ _ _ (⟨_, .store _ _ _, _, _, _, _⟩ :: _) _ _ _; refine sta rfl rfl rfl spL (by rfl) (by rfl) (by rfl) kpL ?_)) | refine s_nil ?_ | refine kh_normal ?_ | refine kh_ret ?_ | refine bh_ret ?_))
    exact rhC2 rfl rfl rfl rfl (fun w hw => loadVar_bx hw spL (by rfl)) ⟨A1, c1, M, hM, hcM, rfl, rfl⟩ enL
  · rw [hm] at hpk ⊢
    refine enterH Tryz.func31 rfl rfl Tryz.ntmps31 rfl (by assumption) ?_
    (repeat' (first | (show VH _ _ _ _ _ _ _; first | refine v_seq ?_ | refine r_seq ?_ | refine v_block ?_ | refine v_skip ?_ | refine v_cond_f rfl tbL ?_) | (show SH _ _ _ _ _ (_ :: _) _ _ _; first | (show SH _ _ _ _ _ (⟨_, .assign _, _, _, _, _⟩ :: _) _ _ _; refine asg evL ?_) | (show SH _ _ _ _ _ (⟨_, .binOp .eql _ _ _ _, _, _, _, _⟩ :: _) _ _ _; refine eqlF rfl rfl omD ?_) | (show SH _ _ _ _ _ (⟨_, .load _ _, _, _, _, _⟩ :: _) _ _ _; first | refine lbx rfl spL (by rfl) ?_ | refine lba rfl spL (by rfl) ?_) | (show SH _ _ _ _ _ (⟨_, .call ⟨.value (.func 38), _, _⟩, _, _, _, _⟩ :: _) _ _ _; refine cl (callee := .func 38) rfl (fun w hw => hpk w) rfl rfl ?_) | refine fad rfl ?_ | refine ala rfl (fun b => ?_) | (show SH _ _ _ _ _ (⟨_, .box _ _, _, _, _, _⟩ :: _) _ _ _; refine bxx rfl evL rfl (fun b => ?_))) | refine s_nil ?_ | refine kh_normal ?_ | refine bh_normal ?_))
    rename_i b1 b2
    refine cm rfl (fun w3 hw3 => refDisband_spec t la A L c p Φ w0 (bx b1 30 [.int .i64 t, .int .i64 la, .slice A L.length c] :: bx b2 36 [.int .i64 kind, .int .i64 p, .int .i64 q] :: bx b 30 [.int .i64 0, .int .i64 0, .slice none 0 0] :: H) w3 hz hc hΦ (Ent.wd enL hw3)) rfl rfl ?_
    rintro _ _ ⟨A1, c1, M, hM, hcM, rfl, rfl⟩
    refine ⟨enL, ?_⟩
    (repeat' (first | refine v_ret ?_ | (show SH _ _ _ _ _ (_ :: _) _ _ _; first | (show SH _ _ _ _ _ (⟨_, .assign _, _, _, _, _⟩ :: _) _ _ _; refine asg evL ?_) | refine extr rfl rfl ?_ | (show SH _ _ _ _ _ (⟨_, .store _ _ _, _, _, _, _⟩ :: _) _ _ _; refine sta rfl rfl rfl spL (by rfl) (by rfl) (by rfl) kpL ?_)) | refine s_nil ?_ | refine kh_normal ?_))
    exact rhC2 rfl rfl rfl rfl (fun w hw => loadVar_bx hw spL (by rfl)) ⟨A1, c1, M, hM, hcM, rfl, rfl⟩ enL
end Go.Proofs.YtlfbcoohfnoacaaGreat

/- Layer 36: what is overwritten: a block of which only the size is known. -/
namespace Go.Proofs.YtlfbcoohfnoacaaGreat
open Go.Fw Go.RowKit
section
variable {md : Md} {P : Program} {n : Nat} {Q : HQ} {f : Fr} {w0 : World} {H R : List HP} {ops : Array Oper} {rest : List Oper} {d : Nat} {op : Op} {ty : TypeId} {pos : String} {aft : Array Edge} {v : Value} {x y c : Operand}
theorem ixj {t e : TypeId} {sz by_ : Nat} {g off m cp i : Nat} {K : IntKind} [TSl P t e sz by_] (hx : ev n f x = .slice (some ⟨g, off, none⟩) m cp) {j : Int} (hy : ev n f y = .int K j) (hj : j = (i : Int)) (h1 : i < m) (k : SH (nx md) P n ops Q rest (upd f d (.pointer (some ⟨g, off + i * sz, none⟩))) w0 H) : SH md P n ops Q (⟨some d, .indexAddr t x y, ty, pos, aft, none⟩ :: rest) f w0 H := s_val (fun w hw => by
  have := ox_index (P := P) (t := t) (w := w) (ty := ty) hx hy (by omega) (by omega)
  subst hj
  rwa [Int.toNat_natCast, Addr.add_lit] at this) k
theorem stj {t te : TypeId} {z : Value} {b off : Nat} {cs : List Value} [h : TOne P t z] (hm : addOK md = true) (hx : ev n f x = .pointer (some ⟨b, off, none⟩)) (hy : ev n f y = v) (hs : Split H (bx b te cs) R) (hv : v.cells = #[v]) (hone : v.oneCell' = true) (hoff : off < cs.length)
    (hk : keeps md (bx b te (cs.set off v) :: R)) (k : SH (nx md) P n ops Q rest f w0 (bx b te (cs.set off v) :: R)) : SH md P n ops Q (⟨none, .store t x y, ty, pos, aft, none⟩ :: rest) f w0 H :=
  s_wh hm (wh_storeBx hx hy hs hv hone hoff (wh_nil ⟨rfl, hk, k⟩))
end
/-- A row is a block, of which the first cells are known. -/
theorem row_bx {α : Type} [F : Flat α] {w0 w : World} {H : List HP} {e : TypeId} {A : Option Addr} {cp : Nat} {l : List α} (hw : Wd w0 (orow e A cp l :: H) w) :
    (A = none ∧ l = [] ∧ cp = 0) ∨ ∃ g cs, A = some ⟨g, 0, none⟩ ∧ cs.length = cp * F.sz ∧ cp ≤ maxLen ∧ l.length ≤ cp ∧ cs.take (l.length * F.sz) = encs l ∧ Wd w0 (bx g e cs :: H) w := by
  obtain ⟨p, q, hx, hq, hd, hp, hqi⟩ := hw.open_
  rcases hx.2 with ⟨h1, h2, h3⟩ | ⟨g, cur, h1, h2, h3, h4, h5, h6⟩
  · exact .inl ⟨h1, List.eq_nil_of_length_eq_zero h2, h3⟩
  · refine .inr ⟨g, cur.toList, h1, by simpa using h5, h4, h3, h6, Wd.close hw.1 (p := p) ?_ hq hd hp hqi⟩
    show p = pone g (.cells cur.toList.toArray e (0, 0))
    rw [h2, Array.toArray_toList]
set_option maxRecDepth 100000 in
theorem mark_spec (a b : Int) (w : World) (h1 : 0 ≤ a) (h2 : a ≤ 1000) (h3 : 0 ≤ b) (h4 : b ≤ 2000000) : Ret Tryz.prog 105 [.int .i64 a, .int .i64 b].toArray w (Out w (.int .i64 (1000003 * (a + 7) + b))) := by
  refine enterH Tryz.func105 rfl rfl Tryz.ntmps105 rfl (Wd.refl _) ?_
  (repeat' (first | (show VH _ _ _ _ _ _ _; first | refine v_seq ?_ | refine r_seq ?_ | refine v_ret ?_) | (show SH _ _ _ _ _ (_ :: _) _ _ _; first | (show SH _ _ _ _ _ (⟨_, .move _, _, _, _, _⟩ :: _) _ _ _; refine mov evL ?_) | (show SH _ _ _ _ _ (⟨_, .assign _, _, _, _, _⟩ :: _) _ _ _; refine asg evL ?_) | (show SH _ _ _ _ _ (⟨_, .binOp .add _ _ _ _, _, _, _, _⟩ :: _) _ _ _; refine add rfl rfl inL ?_) | (show SH _ _ _ _ _ (⟨_, .binOp .mul _ _ _ _, _, _, _, _⟩ :: _) _ _ _; refine mul rfl rfl inL ?_)) | refine s_nil ?_ | refine kh_normal ?_))
  exact rh1 rfl rfl ⟨rfl, rfl⟩ (ent_nil _)
set_option maxHeartbeats 1000000 in
set_option maxRecDepth 100000 in
theorem overInts_spec (A : Option Addr) (l : List Int) (c : Nat) (w0 : World) (H : List HP) (w : World) (hl : l.length ≤ 1000000) (hw : Wd w0 (orow 3 A c l :: H) w) :
    Ret Tryz.prog 76 [.slice A l.length c].toArray w (RP w0 fun _ H' => H' = H) := by
  have hmk := fun (i : Nat) (hi : i < 2000000) w => mark_spec 2 i w (by omega) (by omega) (by omega) (by omega)
  rcases row_bx hw with ⟨rfl, hl0, hc0⟩ | ⟨g0, cs, rfl, hcs, hcm, hlc, -, hw⟩
  · replace hw := hw.drop
    replace hl0 := congrArg List.length hl0
    rw [List.length_nil] at hl0
    have ht : (min (c : Int) ((l.length : Int) + 12)).toNat = 0 := by omega
    have ht2 : 0 ≤ min (c : Int) ((l.length : Int) + 12) ∧ min (c : Int) ((l.length : Int) + 12) ≤ (c : Int) := by omega
    refine enterH Tryz.func76 rfl rfl Tryz.ntmps76 rfl (by assumption) ?_
    (repeat' (first | (show VH _ _ _ _ _ _ _; first | refine v_seq ?_ | refine r_seq ?_) | (show SH _ _ _ _ _ (_ :: _) _ _ _; (show SH _ _ _ _ _ (⟨_, .move _, _, _, _, _⟩ :: _) _ _ _; refine mov evL ?_))))
    refine bcp rfl ?_
    (repeat' (first | (show VH _ _ _ _ _ _ _; first | refine v_seq ?_ | refine r_seq ?_ | refine v_block ?_) | (show SH _ _ _ _ _ (_ :: _) _ _ _; first | (show SH _ _ _ _ _ (⟨_, .move _, _, _, _, _⟩ :: _) _ _ _; refine mov evL ?_) | (show SH _ _ _ _ _ (⟨_, .assign _, _, _, _, _⟩ :: _) _ _ _; refine asg evL ?_) | (show SH _ _ _ _ _ (⟨_, .binOp .add _ _ _ _, _, _, _, _⟩ :: _) _ _ _; refine add rfl rfl inL ?_) | (show SH _ _ _ _ _ (⟨_, .call ⟨.builtin _, _, _⟩, _, _, _, _⟩ :: _) _ _ _; first | refine slen rfl ?_ | refine bmin rfl rfl ?_) | (show SH _ _ _ _ _ (⟨_, .slice _ _ _ _ _, _, _, _, _⟩ :: _) _ _ _; refine slh rfl rfl omL omL ?_)) | refine s_nil ?_ | refine kh_normal ?_))
    rw [ht]
    refine v_norm [(2,_),(3,_)] heL (fun g => ?_)
    refine v_loop [(3,3),(12,22)] (fun s : Nat => [(3, .int .i64 s)]) (fun s => H) (fun s => s = 0) (fun s => 0) 0 hsL enL rfl ?_
    rintro k g rfl
    simp only [sets]
    clear hmk ht ht2 hl0 hc0
    (repeat' (first | (show VH _ _ _ _ _ _ _; first | refine v_seq ?_ | refine r_seq ?_ | refine v_exit ?_ | refine v_cond_f rfl tbL ?_) | (show SH _ _ _ _ _ (_ :: _) _ _ _; first | (show SH _ _ _ _ _ (⟨_, .move _, _, _, _, _⟩ :: _) _ _ _; refine mov evL ?_) | (show SH _ _ _ _ _ (⟨_, .binOp .lss _ _ _ _, _, _, _, _⟩ :: _) _ _ _; refine lssF rfl rfl omD ?_) | refine slen rfl ?_) | refine s_nil ?_ | refine kh_normal ?_ | refine kh_exit ?_ | refine bh_exit ?_))
    exact rh0n rfl rfl enL
  · rw [show Flat.sz Int = 1 from rfl, Nat.mul_one] at hcs
    have hml : maxLen ≤ 9223372036854775807 := by decide
    have hc : c ≤ 9223372036854775807 := Nat.le_trans hcm hml
    clear hcm hml
    have ht : (min (c : Int) ((l.length : Int) + 12)).toNat = min c (l.length + 12) := by omega
    have ht2 : 0 ≤ min (c : Int) ((l.length : Int) + 12) ∧ min (c : Int) ((l.length : Int) + 12) ≤ (c : Int) := by omega
    refine enterH Tryz.func76 rfl rfl Tryz.ntmps76 rfl (by assumption) ?_
    (repeat' (first | (show VH _ _ _ _ _ _ _; first | refine v_seq ?_ | refine r_seq ?_) | (show SH _ _ _ _ _ (_ :: _) _ _ _; (show SH _ _ _ _ _ (⟨_, .move _, _, _, _, _⟩ :: _) _ _ _; refine mov evL ?_))))
    refine bcp rfl ?_
    (repeat' (first | (show VH _ _ _ _ _ _ _; first | refine v_seq ?_ | refine r_seq ?_ | refine v_block ?_) | (show SH _ _ _ _ _ (_ :: _) _ _ _; first | (show SH _ _ _ _ _ (⟨_, .move _, _, _, _, _⟩ :: _) _ _ _; refine mov evL ?_) | (show SH _ _ _ _ _ (⟨_, .assign _, _, _, _, _⟩ :: _) _ _ _; refine asg evL ?_) | (show SH _ _ _ _ _ (⟨_, .binOp .add _ _ _ _, _, _, _, _⟩ :: _) _ _ _; refine add rfl rfl inL ?_) | (show SH _ _ _ _ _ (⟨_, .call ⟨.builtin _, _, _⟩, _, _, _, _⟩ :: _) _ _ _; first | refine slen rfl ?_ | refine bmin rfl rfl ?_) | (show SH _ _ _ _ _ (⟨_, .slice _ _ _ _ _, _, _, _, _⟩ :: _) _ _ _; refine slh rfl rfl omL omL ?_)) | refine s_nil ?_ | refine kh_normal ?_))
    rw [ht]
    generalize hm : min c (l.length + 12) = m
    have hm1 : m ≤ c := by omega
    have hm2 : m ≤ 1000012 := by omega
    refine v_norm [(2,_),(3,_)] heL (fun g => ?_)
    refine v_loop [(3,3),(12,22)] (fun s : Nat × List Value => [(3, .int .i64 s.1)]) (fun s => bx g0 3 s.2 :: H) (fun s => s.1 ≤ m ∧ s.2.length = c) (fun s => m - s.1) (0, cs) hsL enL ⟨Nat.zero_le _, hcs⟩ ?_
    rintro ⟨k, l2⟩ g ⟨hk, hl2⟩
    simp only [sets]
    simp only at hk hl2
    by_cases hlt : k < m
    · have hq := hmk k (by omega)
      clear hmk ht ht2 hm
      (repeat' (first | (show VH _ _ _ _ _ _ _; first | refine v_seq ?_ | refine r_seq ?_ | refine v_block ?_ | refine v_skip ?_ | refine v_cond_t rfl tbL ?_) | (show SH _ _ _ _ _ (_ :: _) _ _ _; first | (show SH _ _ _ _ _ (⟨_, .move _, _, _, _, _⟩ :: _) _ _ _; refine mov evL ?_) | (show SH _ _ _ _ _ (⟨_, .binOp .lss _ _ _ _, _, _, _, _⟩ :: _) _ _ _; refine lssT rfl rfl omD ?_) | refine slen rfl ?_ | (show SH _ _ _ _ _ (⟨_, .call ⟨.value (.func 105), _, _⟩, _, _, _, _⟩ :: _) _ _ _; refine cl (callee := .func 105) rfl (fun w hw => hq w) rfl rfl ?_)) | refine s_nil ?_ | refine kh_normal ?_))
      refine ixj (i := k) rfl rfl rfl (by omega) ?_
      (repeat' (first | (show VH _ _ _ _ _ _ _; first | refine v_seq ?_ | refine r_seq ?_ | refine r_quiet hmix (by kernel_rfl) ?_ | refine v_block ?_ | refine v_ret ?_ | refine v_skip ?_ | refine v_exit ?_ | refine v_label ?_ | refine v_cond_t rfl tbL ?_ | refine v_cond_f rfl tbL ?_ | refine v_cond_dec rfl (fun h => ?_) (fun h => ?_) | refine v_cond_ndec rfl (fun h => ?_) (fun h => ?_) | refine v_cond rfl (fun h => ?_) (fun h => ?_)) | (show SH _ _ _ _ _ (_ :: _) _ _ _; first | (show SH _ _ _ _ _ (⟨_, .move _, _, _, _, _⟩ :: _) _ _ _; refine mov evL ?_) | (show SH _ _ _ _ _ (⟨_, .assign _, _, _, _, _⟩ :: _) _ _ _; refine asg evL ?_) | (show SH _ _ _ _ _ (⟨_, .binOp .lss _ _ _ _, _, _, _, _⟩ :: _) _ _ _; first | refine lssT rfl rfl omD ?_ | refine lssF rfl rfl omD ?_ | refine lss rfl rfl ?_) | (show SH _ _ _ _ _ (⟨_, .binOp .add _ _ _ _, _, _, _, _⟩ :: _) _ _ _; refine add rfl rfl inL ?_) | (show SH _ _ _ _ _ (⟨_, .indexAddr _ _ _, _, _, _, _⟩ :: _) _ _ _; first | refine ix rfl rfl (by with_reducible rfl) (fun _ _ => rdK) (by rfl) omL omL ?_ | refine ixi rfl rfl (fun _ _ => rdK) (by rfl) omL omL omL ?_ | refine ixb rfl rfl omL ?_ | refine ixq rfl rfl (by assumption) omL omL ?_ | refine ixA _ rfl rfl rfl omL ?_ | refine ixi rfl rfl (fun _ _ => rdK) (by rfl) omL (by first | omega | (simp only [List.length_cons, List.length_nil]; omega)) (by simp only [List.length_cons, List.length_nil]; omega) ?_) | (show SH _ _ _ _ _ (⟨_, .call ⟨.builtin _, _, _⟩, _, _, _, _⟩ :: _) _ _ _; first | refine slen rfl ?_ | refine bmin rfl rfl ?_ | refine lnm rfl spL ?_) | (show SH _ _ _ _ _ (⟨_, .slice _ _ _ _ _, _, _, _, _⟩ :: _) _ _ _; first | refine sla rfl rfl omL omL ?_ | refine slh rfl rfl omL omL ?_ | refine sll rfl rfl omL omL ?_) | (show SH _ _ _ _ _ (⟨_, .store _ _ _, _, _, _, _⟩ :: _) _ _ _; first | refine stb rfl rfl evL spL rfl rfl (by first | decide | exact Nat.zero_lt_succ _ | exact of_decide_eq_true rfl) kpL ?_ | refine sta rfl rfl rfl spL (by rfl) (by rfl) (by rfl) kpL ?_ | refine sti rfl rfl rfl spL omL kpL ?_ | refine sbi rfl rfl rfl spL omL kpL ?_ | refine sbs rfl rfl evL spL (by rfl) (by rfl) (of_decide_eq_true rfl) kpL ?_)) | refine s_nil ?_ | refine s_fork ?_ ?_ | refine s_fork3 ?_ ?_ ?_ | refine s_fork4 ?_ ?_ ?_ ?_ | refine kh_normal ?_ | refine kh_ret ?_ | refine kh_exit ?_ | refine bh_normal ?_ | refine bh_ret ?_ | refine bh_exit ?_ | refine bh_exit_ne rfl ?_))
      refine stj rfl rfl rfl spL rfl rfl (by omega) trivial ?_
      (repeat' (first | refine r_seq ?_ | (show SH _ _ _ _ _ (_ :: _) _ _ _; first | (show SH _ _ _ _ _ (⟨_, .move _, _, _, _, _⟩ :: _) _ _ _; refine mov evL ?_) | (show SH _ _ _ _ _ (⟨_, .assign _, _, _, _, _⟩ :: _) _ _ _; refine asg evL ?_) | (show SH _ _ _ _ _ (⟨_, .binOp .add _ _ _ _, _, _, _, _⟩ :: _) _ _ _; refine add rfl rfl inL ?_)) | refine s_nil ?_ | refine kh_normal ?_ | refine bh_normal ?_))
      exact ⟨agL, (k + 1, l2.set _ _), hsL, enL, ⟨hlt, by rw [List.length_set]; exact hl2⟩, by show _ - (k + 1) < _ - k; omega⟩
    · clear hmk ht ht2 hm
      (repeat' (first | (show VH _ _ _ _ _ _ _; first | refine v_seq ?_ | refine r_seq ?_ | refine v_exit ?_ | refine v_cond_f rfl tbL ?_) | (show SH _ _ _ _ _ (_ :: _) _ _ _; first | (show SH _ _ _ _ _ (⟨_, .move _, _, _, _, _⟩ :: _) _ _ _; refine mov evL ?_) | (show SH _ _ _ _ _ (⟨_, .binOp .lss _ _ _ _, _, _, _, _⟩ :: _) _ _ _; refine lssF rfl rfl omD ?_) | refine slen rfl ?_) | refine s_nil ?_ | refine kh_normal ?_ | refine kh_exit ?_ | refine bh_exit ?_))
      exact rh0n rfl rfl enL
end Go.Proofs.YtlfbcoohfnoacaaGreat

/- marcheslaw36: over. -/
namespace Go.Proofs.YtlfbcoohfnoacaaGreat
open Go.Fw Go.RowKit
set_option maxHeartbeats 1000000 in
set_option maxRecDepth 100000 in
theorem over_spec (bg off : Nat) (te : TypeId) (cs : List Value) (A : Option Addr) (xm : List Int) (ca : Nat) (B : Option Addr) (xv : List Inv) (cb : Nat) (w0 : World) (H : List HP) (w : World) (hlen : off + 3 < cs.length)
    (h2 : cs[off + 2]? = some (.slice A xm.length ca)) (h3 : cs[off + 3]? = some (.slice B xv.length cb)) (hxm : xm.length ≤ 1000) (hxv : xv.length ≤ 1000)
    (hw : Wd w0 (orow 3 A ca xm :: orow 61 B cb xv :: bx bg te cs :: H) w) :
    Ret Tryz.prog 37 [.pointer (some ⟨bg, off, none⟩)].toArray w (RP w0 fun _ H' => H' = bx bg te (cs.set off (.int .i64 (-1))) :: H) := by
  have hO := fun w h => overInts_spec A xm ca w0 (orow 61 B cb xv :: bx bg te cs :: H) w (by omega) h
  refine enterH Tryz.func37 rfl rfl Tryz.ntmps37 rfl (by assumption) ?_
  (repeat' (first | (show VH _ _ _ _ _ _ _; first | refine v_seq ?_ | refine r_seq ?_) | (show SH _ _ _ _ _ (_ :: _) _ _ _; first | (show SH _ _ _ _ _ (⟨_, .move _, _, _, _, _⟩ :: _) _ _ _; refine mov evL ?_) | refine nlc rfl ?_ | refine fad rfl ?_)))
  refine lcell rfl (fun w hw => hw.cell spL h2) ?_
  (repeat' (first | (show VH _ _ _ _ _ _ _; first | refine v_seq ?_ | refine r_seq ?_ | refine r_quiet hmix (by kernel_rfl) ?_ | refine v_block ?_ | refine v_ret ?_ | refine v_skip ?_ | refine v_exit ?_ | refine v_label ?_ | refine v_cond_t rfl tbL ?_ | refine v_cond_f rfl tbL ?_ | refine v_cond_dec rfl (fun h => ?_) (fun h => ?_) | refine v_cond_ndec rfl (fun h => ?_) (fun h => ?_) | refine v_cond rfl (fun h => ?_) (fun h => ?_)) | (show SH _ _ _ _ _ (_ :: _) _ _ _; first | (show SH _ _ _ _ _ (⟨_, .move _, _, _, _, _⟩ :: _) _ _ _; refine mov evL ?_) | (show SH _ _ _ _ _ (⟨_, .assign _, _, _, _, _⟩ :: _) _ _ _; refine asg evL ?_) | (show SH _ _ _ _ _ (⟨_, .binOp .lss _ _ _ _, _, _, _, _⟩ :: _) _ _ _; first | refine lssT rfl rfl omD ?_ | refine lssF rfl rfl omD ?_ | refine lss rfl rfl ?_) | (show SH _ _ _ _ _ (⟨_, .binOp .add _ _ _ _, _, _, _, _⟩ :: _) _ _ _; refine add rfl rfl inL ?_) | (show SH _ _ _ _ _ (⟨_, .load _ _, _, _, _, _⟩ :: _) _ _ _; first | refine lbx rfl spL (by rfl) ?_ | refine lba rfl spL (by rfl) ?_ | refine lbs rfl spL (by rfl) (by rfl) ?_ | refine lgi rfl (fun _ _ => rdK) omL (by assumption) ?_ | refine lag rfl (fun _ _ => rdK) (by rfl) omL (by assumption) ?_ | refine lrg rfl (fun _ _ => rdK) (by rfl) omL (by assumption) (by rfl) ?_ | refine lin rfl (fun _ _ => rdK) omL ?_ | refine lbi rfl spL omL ?_ | refine lr1 rfl (fun _ _ => rdK) (by rfl) omL (by rfl) ?_ | refine lra rfl (fun _ _ => rdK) (by rfl) omL ?_ | refine lrf rfl (fun _ _ => rdK) (by rfl) omL (by rfl) ?_ | refine lcell rfl (fun w hw => hw.ext.cell (by assumption)) ?_ | refine lrs rfl (fun _ _ => rdK) (by rfl) omL (by rfl) (by rfl) ?_ | refine lca rfl (fun _ _ => rdK) (by rfl) ?_ | refine lcs rfl (fun _ _ => rdK) (by rfl) ?_ | refine lcf rfl (fun _ _ => rdK) (by rfl) ?_ | refine lrf rfl (fun _ _ => rdK) (by rfl) (by simp only [List.length_cons, List.length_nil]; omega) (by rfl) ?_ | refine lra rfl (fun _ _ => rdK) (by rfl) (by simp only [List.length_cons, List.length_nil]; omega) ?_) | (show SH _ _ _ _ _ (⟨_, .indexAddr _ _ _, _, _, _, _⟩ :: _) _ _ _; first | refine ix rfl rfl (by with_reducible rfl) (fun _ _ => rdK) (by rfl) omL omL ?_ | refine ixi rfl rfl (fun _ _ => rdK) (by rfl) omL omL omL ?_ | refine ixb rfl rfl omL ?_ | refine ixq rfl rfl (by assumption) omL omL ?_ | refine ixA _ rfl rfl rfl omL ?_ | refine ixi rfl rfl (fun _ _ => rdK) (by rfl) omL (by first | omega | (simp only [List.length_cons, List.length_nil]; omega)) (by simp only [List.length_cons, List.length_nil]; omega) ?_) | (show SH _ _ _ _ _ (⟨_, .call ⟨.builtin _, _, _⟩, _, _, _, _⟩ :: _) _ _ _; first | refine slen rfl ?_ | refine lnm rfl spL ?_) | refine nlc rfl ?_ | refine fad rfl ?_ | (show SH _ _ _ _ _ (⟨_, .store _ _ _, _, _, _, _⟩ :: _) _ _ _; first | refine stb rfl rfl evL spL rfl rfl (by first | decide | exact Nat.zero_lt_succ _ | exact of_decide_eq_true rfl) kpL ?_ | refine sta rfl rfl rfl spL (by rfl) (by rfl) (by rfl) kpL ?_ | refine sti rfl rfl rfl spL omL kpL ?_ | refine sbi rfl rfl rfl spL omL kpL ?_ | refine sbs rfl rfl evL spL (by rfl) (by rfl) (of_decide_eq_true rfl) kpL ?_)) | refine s_nil ?_ | refine s_fork ?_ ?_ | refine s_fork3 ?_ ?_ ?_ | refine s_fork4 ?_ ?_ ?_ ?_ | refine kh_normal ?_ | refine kh_ret ?_ | refine kh_exit ?_ | refine bh_normal ?_ | refine bh_ret ?_ | refine bh_exit ?_ | refine bh_exit_ne rfl ?_))
  refine cm rfl (fun w hw => hO w (Ent.wd enL hw)) rfl rfl ?_
  rintro _ _ rfl
  refine ⟨enL, ?_⟩
  (repeat' (first | (show VH _ _ _ _ _ _ _; first | refine v_seq ?_ | refine r_seq ?_ | refine v_block ?_) | (show SH _ _ _ _ _ (_ :: _) _ _ _; (show SH _ _ _ _ _ (⟨_, .assign _, _, _, _, _⟩ :: _) _ _ _; refine asg evL ?_)) | refine s_nil ?_ | refine kh_normal ?_))
  refine v_norm [(0,_),(2,_)] heL (fun g => ?_)
  clear hO h2
  refine v_loop [(2,2),(8,23)] (fun s : Nat × List Inv => [(2, .int .i64 s.1)]) (fun s => orow 61 B cb s.2 :: bx bg te cs :: H) (fun s => s.1 ≤ xv.length ∧ s.2.length = xv.length) (fun s => xv.length - s.1) (0, xv) hsL enL ⟨Nat.zero_le _, rfl⟩ ?_
  rintro ⟨k, l2⟩ g2 ⟨hk, hl2⟩
  simp only [sets]
  simp only at hk hl2
  by_cases hlt : k < xv.length
  · obtain ⟨v, hv⟩ : ∃ v, l2.getD k Flat.dflt = v := ⟨_, rfl⟩
    have hvE := inv_enc hv
    clear hv
    obtain ⟨vw, vt⟩ := v
    simp only at hvE
    (repeat' (first | (show VH _ _ _ _ _ _ _; first | refine v_seq ?_ | refine r_seq ?_) | (show SH _ _ _ _ _ (_ :: _) _ _ _; first | (show SH _ _ _ _ _ (⟨_, .move _, _, _, _, _⟩ :: _) _ _ _; refine mov evL ?_) | refine nlc rfl ?_ | refine fad rfl ?_)))
    refine lcell rfl (fun w hw => hw.cell spL h3) ?_
    (repeat' (first | (show VH _ _ _ _ _ _ _; first | refine v_seq ?_ | refine r_seq ?_ | refine v_block ?_ | refine v_skip ?_ | refine v_cond_t rfl tbL ?_) | (show SH _ _ _ _ _ (_ :: _) _ _ _; first | (show SH _ _ _ _ _ (⟨_, .move _, _, _, _, _⟩ :: _) _ _ _; refine mov evL ?_) | (show SH _ _ _ _ _ (⟨_, .binOp .lss _ _ _ _, _, _, _, _⟩ :: _) _ _ _; refine lssT rfl rfl omD ?_) | refine slen rfl ?_ | refine nlc rfl ?_ | refine fad rfl ?_) | refine s_nil ?_ | refine kh_normal ?_))
    refine lcell rfl (fun w hw => hw.cell spL h3) ?_
    (repeat' ((show SH _ _ _ _ _ (_ :: _) _ _ _; first | (show SH _ _ _ _ _ (⟨_, .move _, _, _, _, _⟩ :: _) _ _ _; refine mov evL ?_) | (show SH _ _ _ _ _ (⟨_, .indexAddr _ _ _, _, _, _, _⟩ :: _) _ _ _; refine ix rfl rfl (by with_reducible rfl) (fun _ _ => rdK) (by rfl) omL omL ?_) | refine fad rfl ?_)))
    refine stf (⟨-1, vt⟩ : Inv) rfl rfl rfl spL rfl (by omega) rfl rfl (by decide) (by rw [hvE]; rfl) trivial ?_
    (repeat' (first | refine r_seq ?_ | (show SH _ _ _ _ _ (_ :: _) _ _ _; first | (show SH _ _ _ _ _ (⟨_, .move _, _, _, _, _⟩ :: _) _ _ _; refine mov evL ?_) | (show SH _ _ _ _ _ (⟨_, .assign _, _, _, _, _⟩ :: _) _ _ _; refine asg evL ?_) | (show SH _ _ _ _ _ (⟨_, .binOp .add _ _ _ _, _, _, _, _⟩ :: _) _ _ _; refine add rfl rfl inL ?_)) | refine s_nil ?_ | refine kh_normal ?_ | refine bh_normal ?_))
    exact ⟨agL, (k + 1, l2.set k ⟨-1, vt⟩), hsL, enL, ⟨hlt, by rw [List.length_set]; exact hl2⟩, by show _ - (k + 1) < _ - k; omega⟩
  · (repeat' (first | (show VH _ _ _ _ _ _ _; first | refine v_seq ?_ | refine r_seq ?_) | (show SH _ _ _ _ _ (_ :: _) _ _ _; first | (show SH _ _ _ _ _ (⟨_, .move _, _, _, _, _⟩ :: _) _ _ _; refine mov evL ?_) | refine nlc rfl ?_ | refine fad rfl ?_)))
    refine lcell rfl (fun w hw => hw.cell spL h3) ?_
    (repeat' (first | (show VH _ _ _ _ _ _ _; first | refine r_seq ?_ | refine v_exit ?_ | refine v_cond_f rfl tbL ?_) | (show SH _ _ _ _ _ (_ :: _) _ _ _; first | (show SH _ _ _ _ _ (⟨_, .move _, _, _, _, _⟩ :: _) _ _ _; refine mov evL ?_) | (show SH _ _ _ _ _ (⟨_, .binOp .lss _ _ _ _, _, _, _, _⟩ :: _) _ _ _; refine lssF rfl rfl omD ?_) | refine slen rfl ?_ | refine nlc rfl ?_ | refine fad rfl ?_) | refine s_nil ?_ | refine kh_normal ?_ | refine kh_exit ?_ | refine bh_exit ?_))
    refine stj rfl rfl rfl spL rfl rfl (by omega) trivial ?_
    (repeat' (refine s_nil ?_))
    exact rh0n rfl rfl enL
end Go.Proofs.YtlfbcoohfnoacaaGreat

