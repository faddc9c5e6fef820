/- Package party: isID, members, places. -/
import Derived.Test.YtlfbcoohfnoacaaGreatYTwp
import Derived.Test.YtlfbcoohfnoacaaGreatYMp
import Derived.Test.YtlfbcoohfnoacaaGreatYWz
import Derived.Test.YtlfbcoohfnoacaaGreatYUs
import Derived.Test.YtlfbcoohfnoacaaGreatYUp
set_option linter.unusedSimpArgs false
set_option linter.unusedVariables false
namespace Go.Proofs.YtlfbcoohfnoacaaGreat
open Go.Fw Go.RowKit
abbrev hv36 (t l : Int) (A : Option Addr) (L : List PtyP) (c : Nat) : Value := .agg #[.int .i64 t, .int .i64 l, .slice A L.length c]
abbrev hb36 (b : Nat) (t l : Int) (A : Option Addr) (L : List PtyP) (c : Nat) : HP := bx b 24 [.int .i64 t, .int .i64 l, .slice A L.length c]
theorem pty_enc {L : List PtyP} {k : Nat} {x : PtyP} (hx : L.getD k Flat.dflt = x) : Flat.enc (L.getD k Flat.dflt) = [.int .i64 x.p.id, .int .i64 x.p.leader, .slice x.A x.p.mem.length x.ca, .slice x.B x.p.inv.length x.cb] := by rw [hx]; rfl
theorem inv_enc {l : List Inv} {k : Nat} {x : Inv} (hx : l.getD k Flat.dflt = x) : Flat.enc (l.getD k Flat.dflt) = [.int .i64 x.who, .int .i64 x.till] := by rw [hx]; rfl
theorem isID_spec (n : Int) (w : World) : Ret Tryz.prog 25 [.int .i64 n].toArray w (Out w (.bool (isIdB n))) := by
  refine enterH Tryz.func25 rfl rfl Tryz.ntmps25 rfl (Wd.refl _) ?_
  (repeat' (first | (show VH _ _ _ _ _ _ _; first | refine v_seq ?_ | refine r_seq ?_ | refine v_ret ?_) | (show SH _ _ _ _ _ (_ :: _) _ _ _; first | (show SH _ _ _ _ _ (⟨_, _, _, _, _, some _⟩ :: _) _ _ _; (refine gif rfl rfl ?_; first | refine giTT tbL ?_ | refine giTF tbL ?_ | refine giTd (fun h => ?_) (fun h => ?_))) | (show SH _ _ _ _ _ (⟨_, .move _, _, _, _, _⟩ :: _) _ _ _; refine mov evL ?_) | (show SH _ _ _ _ _ (⟨_, .assign _, _, _, _, _⟩ :: _) _ _ _; refine asg evL ?_) | refine leq rfl rfl ?_ | refine geq rfl rfl ?_ | (show SH _ _ _ _ _ (⟨_, .pick _ _ _, _, _, _, _⟩ :: _) _ _ _; first | refine pkt rfl tbL evL ?_ | refine pkf rfl tbL evL ?_)) | refine s_nil ?_ | refine kh_normal ?_))
  all_goals exact rh1 rfl rfl ⟨congrArg Value.bool (by unfold isIdB; simp [*]), rfl⟩ (ent_nil _)
set_option maxHeartbeats 1000000 in
set_option maxRecDepth 100000 in
theorem members1_spec (l : Nat) (t la : Int) (A : Option Addr) (L : List PtyP) (c bh : Nat) (J : Nat → Nat → List HP → Prop) (w0 : World) (G0 : List HP) (w : World) (hz : SzP L) (hr : RdP w0 A L)
    (hY : ∀ k j G, k < L.length → j < (L.getD k Flat.dflt).p.mem.length → J k j G → ∀ X w, Wd w0 (G ++ X) w → Yld Tryz.prog l [.int .i64 k, .int .i64 ((L.getD k Flat.dflt).p.mem.getD j 0)] w (RP w0 fun v H' => v = .bool true ∧ ∃ G', J k (j + 1) G' ∧ H' = G' ++ X))
    (hE : ∀ k G, k < L.length → J k (L.getD k Flat.dflt).p.mem.length G → J (k + 1) 0 G)
    (hJ : J 0 0 G0) (hw : Wd w0 (hb36 bh t la A L c :: G0) w) :
    Ret Tryz.prog 98 [.func (.yield l) #[] #[], .pointer (some ⟨bh, 0, none⟩)].toArray w
      (RP w0 fun _ H' => ∃ G, J L.length 0 G ∧ H' = hb36 bh t la A L c :: G) := by
  have hrA := hr.1
  have hll := hz.len
  refine enterH Tryz.func98 rfl rfl Tryz.ntmps98 rfl (by assumption) ?_
  (repeat' (first | (show VH _ _ _ _ _ _ _; first | refine v_seq ?_ | refine r_seq ?_ | refine v_block ?_) | (show SH _ _ _ _ _ (_ :: _) _ _ _; first | (show SH _ _ _ _ _ (⟨_, .move _, _, _, _, _⟩ :: _) _ _ _; refine mov evL ?_) | (show SH _ _ _ _ _ (⟨_, .load _ _, _, _, _, _⟩ :: _) _ _ _; refine lbx rfl spL (by rfl) ?_) | refine slen rfl ?_ | refine fad rfl ?_) | refine s_nil ?_ | refine kh_normal ?_))
  refine v_norm [(0,_),(1,_),(8,_),(9,_),(10,_)] heL (fun g => ?_)
  refine v_loop [(3,4),(6,6),(10,28)] (fun y : Nat × List HP => [(10, .int .i64 y.1)]) (fun y => hb36 bh t la A L c :: y.2) (fun y => y.1 ≤ L.length ∧ J y.1 0 y.2) (fun y => L.length - y.1) (0, G0) hsL (ent_refl _) ⟨Nat.zero_le _, hJ⟩ ?_
  rintro ⟨k, G⟩ g ⟨hk, hJk⟩
  simp only [sets]
  simp only at hk hJk
  by_cases hkl : k < L.length
  · have hY' := fun j G => hY k j G hkl
    have hE' := fun G => hE k G hkl
    have hm := hr.mem hkl
    have hml := hz.atm hkl
    clear hY hE hz hr
    obtain ⟨x, hx⟩ : ∃ x, L.getD k Flat.dflt = x := ⟨_, rfl⟩
    have hxE := pty_enc hx
    rw [hx] at hY' hE' hm hml
    clear hx
    obtain ⟨⟨xi, xl, xm, xv⟩, xA, xca, xB, xcb⟩ := x
    simp only at hY' hE' hm hml hxE
    (repeat' (first | (show VH _ _ _ _ _ _ _; first | refine v_seq ?_ | refine r_seq ?_ | refine v_block ?_ | refine v_skip ?_ | refine v_cond_t rfl tbL ?_) | (show SH _ _ _ _ _ (_ :: _) _ _ _; first | (show SH _ _ _ _ _ (⟨_, .move _, _, _, _, _⟩ :: _) _ _ _; refine mov evL ?_) | (show SH _ _ _ _ _ (⟨_, .assign _, _, _, _, _⟩ :: _) _ _ _; refine asg evL ?_) | (show SH _ _ _ _ _ (⟨_, .binOp .lss _ _ _ _, _, _, _, _⟩ :: _) _ _ _; refine lssT rfl rfl omD ?_) | (show SH _ _ _ _ _ (⟨_, .load _ _, _, _, _, _⟩ :: _) _ _ _; first | refine lbx rfl spL (by rfl) ?_ | refine lag rfl (fun _ _ => rdP) (by rfl) omL (by assumption) ?_) | (show SH _ _ _ _ _ (⟨_, .indexAddr _ _ _, _, _, _, _⟩ :: _) _ _ _; refine ix rfl rfl (by with_reducible rfl) (fun _ _ => rdP) (by rfl) omL omL ?_) | refine slen rfl ?_ | refine fad rfl ?_ | refine ala rfl (fun b => ?_) | (show SH _ _ _ _ _ (⟨_, .store _ _ _, _, _, _, _⟩ :: _) _ _ _; refine sta rfl rfl rfl spL (by rfl) (by rfl) (by rfl) kpL ?_)) | refine s_nil ?_ | refine kh_normal ?_))
    refine v_normS [(3,4),(6,6),(10,28)] _ agL [(3,_),(10,_),(16,_),(17,_),(18,_)] heL (fun g => ?_)
    refine v_loop [(6,6),(18,27)] (fun y : Nat × List HP => [(18, .int .i64 y.1)]) (fun y => bx b 46 _ :: hb36 bh t la A L c :: y.2) (fun y => y.1 ≤ xm.length ∧ J k y.1 y.2) (fun y => xm.length - y.1) (0, G) hsL (ent_refl _) ⟨Nat.zero_le _, hJk⟩ ?_
    rintro ⟨j, G⟩ g2 ⟨hj, hJj⟩
    simp only [sets]
    simp only at hj hJj
    by_cases hjl : j < xm.length
    · have hY2 := hY' j G hjl hJj
      (repeat' (first | (show VH _ _ _ _ _ _ _; first | refine v_seq ?_ | refine r_seq ?_ | refine v_block ?_ | refine v_skip ?_ | refine v_cond_t rfl tbL ?_) | (show SH _ _ _ _ _ (_ :: _) _ _ _; first | (show SH _ _ _ _ _ (⟨_, .move _, _, _, _, _⟩ :: _) _ _ _; refine mov evL ?_) | (show SH _ _ _ _ _ (⟨_, .assign _, _, _, _, _⟩ :: _) _ _ _; refine asg evL ?_) | (show SH _ _ _ _ _ (⟨_, .binOp .lss _ _ _ _, _, _, _, _⟩ :: _) _ _ _; refine lssT rfl rfl omD ?_) | (show SH _ _ _ _ _ (⟨_, .load _ _, _, _, _, _⟩ :: _) _ _ _; refine lin rfl (fun _ _ => rdP) omL ?_) | (show SH _ _ _ _ _ (⟨_, .indexAddr _ _ _, _, _, _, _⟩ :: _) _ _ _; refine ix rfl rfl (by with_reducible rfl) (fun _ _ => rdP) (by rfl) omL omL ?_)) | refine s_nil ?_ | refine kh_normal ?_))
      refine cy (fun w hw => hY2 [_, _] w (Ent.wd (ent_swap [_, _] G) hw)) rfl rfl ?_
      rintro _ _ ⟨rfl, G', hJ', rfl⟩
      (repeat' (first | (show VH _ _ _ _ _ _ _; first | refine r_seq ?_ | refine v_skip ?_ | refine v_cond_f rfl tbL ?_) | (show SH _ _ _ _ _ (_ :: _) _ _ _; first | (show SH _ _ _ _ _ (⟨_, .move _, _, _, _, _⟩ :: _) _ _ _; refine mov evL ?_) | (show SH _ _ _ _ _ (⟨_, .binOp .add _ _ _ _, _, _, _, _⟩ :: _) _ _ _; refine add rfl rfl inL ?_) | refine bnoT rfl ?_) | refine s_nil ?_ | refine kh_normal ?_ | refine bh_normal ?_))
      exact ⟨agL, (j + 1, G'), hsL, ent_swap G' [_, _], ⟨hjl, hJ'⟩, by show xm.length - (j + 1) < xm.length - j; omega⟩
    · have hjE : j = xm.length := by omega
      subst hjE
      have := hE' G hJj
      (repeat' (first | (show VH _ _ _ _ _ _ _; first | refine v_seq ?_ | refine r_seq ?_ | refine v_exit ?_ | refine v_cond_f rfl tbL ?_) | (show SH _ _ _ _ _ (_ :: _) _ _ _; first | (show SH _ _ _ _ _ (⟨_, .move _, _, _, _, _⟩ :: _) _ _ _; refine mov evL ?_) | (show SH _ _ _ _ _ (⟨_, .binOp .lss _ _ _ _, _, _, _, _⟩ :: _) _ _ _; refine lssF rfl rfl omD ?_) | (show SH _ _ _ _ _ (⟨_, .binOp .add _ _ _ _, _, _, _, _⟩ :: _) _ _ _; refine add rfl rfl inL ?_)) | refine s_nil ?_ | refine kh_normal ?_ | refine kh_exit ?_ | refine bh_normal ?_ | refine bh_exit ?_))
      exact ⟨agL, (k + 1, G), hsL, ent_drop (ent_refl _), ⟨hkl, this⟩, by show L.length - (k + 1) < L.length - k; omega⟩
  · have hkE : k = L.length := by omega
    subst hkE
    (repeat' (first | (show VH _ _ _ _ _ _ _; first | refine v_seq ?_ | refine r_seq ?_ | refine v_exit ?_ | refine v_cond_f rfl tbL ?_) | (show SH _ _ _ _ _ (_ :: _) _ _ _; (show SH _ _ _ _ _ (⟨_, .binOp .lss _ _ _ _, _, _, _, _⟩ :: _) _ _ _; refine lssF rfl rfl omD ?_)) | refine s_nil ?_ | refine kh_normal ?_ | refine kh_exit ?_ | refine bh_exit ?_))
    exact rh0n rfl ⟨G, hJk, rfl⟩ (ent_refl _)
set_option maxRecDepth 100000 in
theorem members_spec (t la : Int) (A : Option Addr) (L : List PtyP) (c : Nat) (w : World) :
    Ret Tryz.prog 63 [hv36 t la A L c].toArray w (RP w fun v H' => ∃ bh, v = .func (.func 98) #[] #[.pointer (some ⟨bh, 0, none⟩)] ∧ H' = [hb36 bh t la A L c]) := by
  refine enterH Tryz.func63 rfl rfl Tryz.ntmps63 rfl (Wd.refl _) ?_
  (repeat' (first | (show VH _ _ _ _ _ _ _; first | refine v_seq ?_ | refine r_seq ?_ | refine v_ret ?_) | (show SH _ _ _ _ _ (_ :: _) _ _ _; first | (show SH _ _ _ _ _ (⟨_, .assign _, _, _, _, _⟩ :: _) _ _ _; refine asg evL ?_) | (show SH _ _ _ _ _ (⟨_, .makeFunc _ _ _, _, _, _, _⟩ :: _) _ _ _; refine mf1 evL ?_) | (show SH _ _ _ _ _ (⟨_, .box _ _, _, _, _, _⟩ :: _) _ _ _; refine bxx rfl evL rfl (fun b => ?_))) | refine s_nil ?_ | refine kh_normal ?_))
  exact rh1 rfl rfl ⟨_, rfl, rfl⟩ enL
end Go.Proofs.YtlfbcoohfnoacaaGreat
