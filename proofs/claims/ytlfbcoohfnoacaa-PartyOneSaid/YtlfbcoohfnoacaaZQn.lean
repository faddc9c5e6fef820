/- PartyOne answers true, whatever the input; no condition. -/
import Derived.Test.YtlfbcoohfnoacaaZUxv
import Derived.Test.YtlfbcoohfnoacaaZTwp
import Derived.Test.YtlfbcoohfnoacaaZMp
import Derived.Test.YtlfbcoohfnoacaaZWz
import Derived.Test.YtlfbcoohfnoacaaZUm
import Derived.Test.YtlfbcoohfnoacaaZUq
set_option linter.unusedSimpArgs false
set_option linter.unusedVariables false
/- Layer 36 (party): a hall that is known in all worlds behind a given one. -/
namespace Go.Proofs.Ytlfbcoohfnoacaa
open Go.Fw Go.RowKit
def kne (W : World) (A : Option Addr) (L : List PtyP) : HP := kno fun w => Ext W w → RdP w A L
section
variable {w0 w : World} {H R G : List HP} {A B : Option Addr} {L : List PtyP}
theorem Wd.ke (h : Wd w0 H w) (hs : Split H (kne w0 A L) R) : RdP w A L := (Wd.kn h hs) h.ext
theorem Wd.ke1 (h : Wd w0 H w) (hs : Split H (kne w0 A L) R) : Rd w A L := (Wd.ke h hs).1
theorem rd_the {α : Type} [Flat α] {l : List α} (h : ∀ w, RdP w A L → Rd w B l) (hw : Wd w0 H w) (hs : Split H (kne w0 A L) R) : Rd w B l := h w (Wd.ke hw hs)
theorem ent_ke0 (hr : RdP w0 A L) : Ent G (kne w0 A L :: G) := ent_kno_nil (fun _ he => hr.ext he) (ent_refl _)
theorem ent_kpe : Ent (knp A L :: G) (kne w0 A L :: G) := by
  unfold knp kne
  exact ent_kno_imp (fun w h _ => h) Split.head (ent_refl _)
end
attribute [irreducible] kne
theorem rdE {p : Prop} (h : p := by first | exact rd_via (by assumption) (by assumption) | exact Wd.ke1 (by assumption) spL | exact Wd.kp1 (by assumption) spL | exact rd_thp (by assumption) (by assumption) spL | exact rd_the (by assumption) (by assumption) spL | exact Wd.rd (by assumption) spL | exact Wd.rd1 (by assumption) spL | exact Wd.rd2 (by assumption) spL) : p := h
end Go.Proofs.Ytlfbcoohfnoacaa

/- marcheslaw36: sound. -/
namespace Go.Proofs.Ytlfbcoohfnoacaa
open Go.Fw Go.RowKit
set_option maxHeartbeats 4000000 in
set_option maxRecDepth 100000 in
theorem sound_spec (t la : Int) (A : Option Addr) (L : List PtyP) (c : Nat) (w : World) (hV : VHal ⟨t, la, ptys L⟩) (hr : RdP w A L) :
    Ret Try.prog 13 [hv36 t la A L c].toArray w (Out w (.bool true)) := by
  have hz := szP_val hV (L := L) rfl
  have hll := hz.len
  have hrA := hr.1
  have h32 : L.length ≤ 32 := by have := hV.len; rwa [ptys_len] at this
  refine enterH Try.func13 rfl rfl Try.ntmps13 rfl (Wd.refl _) ?_
  (repeat' (first | (show VH _ _ _ _ _ _ _; first | refine v_seq ?_ | refine r_seq ?_ | refine v_block ?_) | (show SH _ _ _ _ _ (_ :: _) _ _ _; first | (show SH _ _ _ _ _ (⟨_, .assign _, _, _, _, _⟩ :: _) _ _ _; refine asg evL ?_) | (show SH _ _ _ _ _ (⟨_, .box _ _, _, _, _, _⟩ :: _) _ _ _; refine bxx rfl evL rfl (fun b => ?_)) | refine mkm rfl (fun b => ?_)) | refine s_nil ?_ | refine kh_normal ?_))
  rename_i b1
  revert b
  intro rm
  refine v_norm [(1,_),(3,_),(4,_)] heL (fun g => ?_)
  refine VH.ent (G := [mpp rm [], bx b1 24 [.int .i64 t, .int .i64 la, .slice A L.length c]]) ?_ enL
  refine v_loop [(2,2),(4,7),(12,68)] (fun y : Nat × List (Int × Int) => [(4, .int .i64 y.1)]) (fun y => [mpp rm y.2, bx b1 24 [.int .i64 t, .int .i64 la, .slice A L.length c]]) (fun y => y.1 ≤ L.length ∧ ∀ u, mget y.2 u = if u ∈ ahead36 (ptys L) y.1 0 then 1 else 0) (fun y => L.length - y.1) (0, []) hsL enL ⟨Nat.zero_le _, fun u => by rw [ahead_zero]; rfl⟩ ?_
  rintro ⟨i, M⟩ g ⟨hi, hM⟩
  simp only [sets]
  simp only at hi hM
  by_cases hil : i < L.length
  · have hpk := ptys_at hil
    have hil' : i < (ptys L).length := by rw [ptys_len]; exact hil
    have hnew := fun k (hk : k < (L.getD i Flat.dflt).p.mem.length) => ahead_new hV (i := i) (k := k) hil' (by show k < ((ptys L).getD i pty0).mem.length; rw [hpk]; exact hk)
    have hnxt := fun k (hk : k < (L.getD i Flat.dflt).p.mem.length) => ahead_next (ps := ptys L) (i := i) (k := k) (by rw [hpk]; exact hk)
    have hall := ahead_all hil'
    have hled := led_one hV (i := i) hil'
    have hokk := hV.ok _ (List.mem_map_of_mem (f := PtyP.p) (getD_mem (d := Flat.dflt) hil))
    have h5 : (L.getD i Flat.dflt).p.mem.length + (L.getD i Flat.dflt).p.inv.length ≤ 5 := hokk.2.2.1
    have hm := hr.mem hil
    simp only [hpk] at hnew hnxt hall hled
    obtain ⟨x, hx⟩ : ∃ x, L.getD i Flat.dflt = x := ⟨_, rfl⟩
    have hxE := pty_enc hx
    rw [hx] at hnew hnxt hall hled h5 hm
    clear hx hokk hpk
    obtain ⟨⟨xi, xl, xm, xv⟩, xA, xca, xB, xcb⟩ := x
    simp only at hnew hnxt hall hled h5 hm hxE
    (repeat' (first | (show VH _ _ _ _ _ _ _; first | refine v_seq ?_ | refine r_seq ?_ | refine v_block ?_ | refine v_skip ?_ | refine v_cond_t rfl tbL ?_) | (show SH _ _ _ _ _ (_ :: _) _ _ _; first | (show SH _ _ _ _ _ (⟨_, .move _, _, _, _, _⟩ :: _) _ _ _; refine mov evL ?_) | (show SH _ _ _ _ _ (⟨_, .assign _, _, _, _, _⟩ :: _) _ _ _; refine asg evL ?_) | (show SH _ _ _ _ _ (⟨_, .binOp .lss _ _ _ _, _, _, _, _⟩ :: _) _ _ _; refine lssT rfl rfl omD ?_) | (show SH _ _ _ _ _ (⟨_, .load _ _, _, _, _, _⟩ :: _) _ _ _; first | refine lbx rfl spL (by rfl) ?_ | refine lag rfl (fun _ _ => rdP) (by rfl) omL (by assumption) ?_) | (show SH _ _ _ _ _ (⟨_, .indexAddr _ _ _, _, _, _, _⟩ :: _) _ _ _; refine ix rfl rfl (by with_reducible rfl) (fun _ _ => rdP) (by rfl) omL omL ?_) | refine slen rfl ?_ | refine fad rfl ?_ | refine ala rfl (fun b => ?_) | (show SH _ _ _ _ _ (⟨_, .store _ _ _, _, _, _, _⟩ :: _) _ _ _; refine sta rfl rfl rfl spL (by rfl) (by rfl) (by rfl) kpL ?_)) | refine s_nil ?_ | refine kh_normal ?_))
    revert b
    intro b5
    refine v_normS [(2,2),(4,7),(12,68)] _ agL [(4,_),(5,_),(6,_),(7,_)] heL (fun g => ?_)
    refine v_loop [(2,2),(6,7),(24,56)] (fun y : Nat × List (Int × Int) => [(7, .int .i64 y.1), (6, .int .i64 (((xm.take y.1).count xl : Nat) : Int))]) (fun y => [mpp rm y.2, bx b5 37 [.int .i64 xi, .int .i64 xl, .slice xA xm.length xca, .slice xB xv.length xcb], bx b1 24 [.int .i64 t, .int .i64 la, .slice A L.length c]]) (fun y => y.1 ≤ xm.length ∧ ∀ u, mget y.2 u = if u ∈ ahead36 (ptys L) i y.1 then 1 else 0) (fun y => xm.length - y.1) (0, M) hsL enL ⟨Nat.zero_le _, hM⟩ ?_
    rintro ⟨k, N⟩ g2 ⟨hk, hN⟩
    simp only [sets]
    simp only at hk hN
    by_cases hkl : k < xm.length
    · have e1 := hnew k hkl
      have e2 := hnxt k hkl
      have e3 := led_next (l := xm) hkl xl
      obtain ⟨u, hu⟩ : ∃ u, xm.getD k 0 = u := ⟨_, rfl⟩
      rw [hu] at e1 e2 e3
      have e4 : mget N u = 0 := by rw [hN u, if_neg e1]
      have e5 : mget (mput N u (mget N u + 1)) u = 1 := by rw [mget_put, if_pos rfl, e4]; rfl
      have e6 : ∀ v, mget (mput N u (mget N u + 1)) v = if v ∈ ahead36 (ptys L) i (k + 1) then 1 else 0 := fun v => by
        rw [mget_put, e2]
        by_cases hvu : u = v
        · subst hvu; rw [if_pos rfl, if_pos (by simp), e4]; rfl
        · rw [if_neg hvu, hN v]
          by_cases hva : v ∈ ahead36 (ptys L) i k
          · rw [if_pos hva, if_pos (List.mem_append_left _ hva)]
          · rw [if_neg hva, if_neg (fun h => (List.mem_append.1 h).elim hva (fun h => hvu (List.mem_singleton.1 h).symm))]
      have hcb : (xm.take k).count xl ≤ 5 := by have h1 : (xm.take k).count xl ≤ (xm.take k).length := List.count_le_length; rw [List.length_take] at h1; omega
      clear hnew hnxt hall hled hM hN e1 e2
      by_cases hul : u = xl
      · rw [if_pos hul] at e3
        (repeat' (first | (show VH _ _ _ _ _ _ _; first | refine v_seq ?_ | refine r_seq ?_ | refine r_quiet hmix (by kernel_rfl) ?_ | refine v_block ?_ | refine v_skip ?_ | refine v_cond_t rfl tbL ?_ | refine v_cond_f rfl tbL ?_) | (show SH _ _ _ _ _ (_ :: _) _ _ _; first | (show SH _ _ _ _ _ (⟨_, .move _, _, _, _, _⟩ :: _) _ _ _; refine mov evL ?_) | (show SH _ _ _ _ _ (⟨_, .assign _, _, _, _, _⟩ :: _) _ _ _; refine asg evL ?_) | (show SH _ _ _ _ _ (⟨_, .binOp .lss _ _ _ _, _, _, _, _⟩ :: _) _ _ _; refine lssT rfl rfl omD ?_) | (show SH _ _ _ _ _ (⟨_, .binOp .gtr _ _ _ _, _, _, _, _⟩ :: _) _ _ _; refine gtrF rfl rfl omD ?_) | (show SH _ _ _ _ _ (⟨_, .binOp .eql _ _ _ _, _, _, _, _⟩ :: _) _ _ _; refine eqlT rfl rfl omD ?_) | (show SH _ _ _ _ _ (⟨_, .binOp .add _ _ _ _, _, _, _, _⟩ :: _) _ _ _; refine add rfl rfl inL ?_) | (show SH _ _ _ _ _ (⟨_, .load _ _, _, _, _, _⟩ :: _) _ _ _; first | refine lbx rfl spL (by rfl) ?_ | refine lgi rfl (fun _ _ => rdP) omL (by assumption) ?_) | (show SH _ _ _ _ _ (⟨_, .indexAddr _ _ _, _, _, _, _⟩ :: _) _ _ _; refine ix rfl rfl (by with_reducible rfl) (fun _ _ => rdP) (by rfl) omL omL ?_) | refine slen rfl ?_ | (show SH _ _ _ _ _ (⟨_, .lookup _ _ _ false, _, _, _, _⟩ :: _) _ _ _; refine lkm rfl rfl spL ?_) | refine fad rfl ?_ | (show SH _ _ _ _ _ (⟨_, .mapUpdate _ _ _ _, _, _, _, _⟩ :: _) _ _ _; refine mup rfl rfl rfl rfl spL kpL ?_)) | refine s_nil ?_ | refine kh_normal ?_ | refine bh_normal ?_))
        exact ⟨agL, (k + 1, mput N u (mget N u + 1)), by rw [e3]; (repeat (first | exact trivial | refine And.intro rfl ?_)), enL, ⟨hkl, e6⟩, by show xm.length - (k + 1) < xm.length - k; omega⟩
      · rw [if_neg hul, Nat.add_zero] at e3
        (repeat' (first | (show VH _ _ _ _ _ _ _; first | refine v_seq ?_ | refine r_seq ?_ | refine r_quiet hmix (by kernel_rfl) ?_ | refine v_block ?_ | refine v_skip ?_ | refine v_cond_t rfl tbL ?_ | refine v_cond_f rfl tbL ?_) | (show SH _ _ _ _ _ (_ :: _) _ _ _; first | (show SH _ _ _ _ _ (⟨_, .move _, _, _, _, _⟩ :: _) _ _ _; refine mov evL ?_) | (show SH _ _ _ _ _ (⟨_, .assign _, _, _, _, _⟩ :: _) _ _ _; refine asg evL ?_) | (show SH _ _ _ _ _ (⟨_, .binOp .lss _ _ _ _, _, _, _, _⟩ :: _) _ _ _; refine lssT rfl rfl omD ?_) | (show SH _ _ _ _ _ (⟨_, .binOp .gtr _ _ _ _, _, _, _, _⟩ :: _) _ _ _; refine gtrF rfl rfl omD ?_) | (show SH _ _ _ _ _ (⟨_, .binOp .eql _ _ _ _, _, _, _, _⟩ :: _) _ _ _; refine eqlF rfl rfl omD ?_) | (show SH _ _ _ _ _ (⟨_, .binOp .add _ _ _ _, _, _, _, _⟩ :: _) _ _ _; refine add rfl rfl inL ?_) | (show SH _ _ _ _ _ (⟨_, .load _ _, _, _, _, _⟩ :: _) _ _ _; first | refine lbx rfl spL (by rfl) ?_ | refine lgi rfl (fun _ _ => rdP) omL (by assumption) ?_) | (show SH _ _ _ _ _ (⟨_, .indexAddr _ _ _, _, _, _, _⟩ :: _) _ _ _; refine ix rfl rfl (by with_reducible rfl) (fun _ _ => rdP) (by rfl) omL omL ?_) | refine slen rfl ?_ | (show SH _ _ _ _ _ (⟨_, .lookup _ _ _ false, _, _, _, _⟩ :: _) _ _ _; refine lkm rfl rfl spL ?_) | refine fad rfl ?_ | (show SH _ _ _ _ _ (⟨_, .mapUpdate _ _ _ _, _, _, _, _⟩ :: _) _ _ _; refine mup rfl rfl rfl rfl spL kpL ?_)) | refine s_nil ?_ | refine kh_normal ?_ | refine bh_normal ?_))
        exact ⟨agL, (k + 1, mput N u (mget N u + 1)), by rw [e3]; (repeat (first | exact trivial | refine And.intro rfl ?_)), enL, ⟨hkl, e6⟩, by show xm.length - (k + 1) < xm.length - k; omega⟩
    · obtain rfl : k = xm.length := by omega
      rw [List.take_length, hled]
      rw [hall] at hN
      clear hnew hnxt hall hM hled
      (repeat' (first | (show VH _ _ _ _ _ _ _; first | refine v_seq ?_ | refine r_seq ?_ | refine v_skip ?_ | refine v_exit ?_ | refine v_cond_f rfl tbL ?_) | (show SH _ _ _ _ _ (_ :: _) _ _ _; first | (show SH _ _ _ _ _ (⟨_, _, _, _, _, some _⟩ :: _) _ _ _; (refine gif rfl rfl ?_; refine giFF tbL ?_)) | (show SH _ _ _ _ _ (⟨_, .move _, _, _, _, _⟩ :: _) _ _ _; refine mov evL ?_) | (show SH _ _ _ _ _ (⟨_, .assign _, _, _, _, _⟩ :: _) _ _ _; refine asg evL ?_) | (show SH _ _ _ _ _ (⟨_, .binOp .lss _ _ _ _, _, _, _, _⟩ :: _) _ _ _; refine lssF rfl rfl omD ?_) | (show SH _ _ _ _ _ (⟨_, .binOp .gtr _ _ _ _, _, _, _, _⟩ :: _) _ _ _; refine gtrF rfl rfl omD ?_) | (show SH _ _ _ _ _ (⟨_, .binOp .neq _ _ _ _, _, _, _, _⟩ :: _) _ _ _; refine neqF rfl rfl omD ?_) | (show SH _ _ _ _ _ (⟨_, .binOp .add _ _ _ _, _, _, _, _⟩ :: _) _ _ _; refine add rfl rfl inL ?_) | (show SH _ _ _ _ _ (⟨_, .load _ _, _, _, _, _⟩ :: _) _ _ _; refine lbx rfl spL (by rfl) ?_) | refine slen rfl ?_ | (show SH _ _ _ _ _ (⟨_, .pick _ _ _, _, _, _, _⟩ :: _) _ _ _; refine pkf rfl tbL evL ?_) | refine fad rfl ?_) | refine s_nil ?_ | refine kh_normal ?_ | refine kh_exit ?_ | refine bh_normal ?_ | refine bh_exit ?_))
      exact ⟨agL, (i + 1, N), hsL, enL, ⟨hil, hN⟩, by show L.length - (i + 1) < L.length - i; omega⟩
  · obtain rfl : i = L.length := by omega
    have hM' : ∀ u, u ∉ allM (ptys L) → mget M u = 0 := fun u h => by
      have he := ahead_end (ptys L)
      rw [ptys_len] at he
      rw [hM u, he, if_neg h]
    clear hM
    (repeat' (first | (show VH _ _ _ _ _ _ _; first | refine v_seq ?_ | refine r_seq ?_ | refine v_block ?_ | refine v_exit ?_ | refine v_cond_f rfl tbL ?_) | (show SH _ _ _ _ _ (_ :: _) _ _ _; first | (show SH _ _ _ _ _ (⟨_, .move _, _, _, _, _⟩ :: _) _ _ _; refine mov evL ?_) | (show SH _ _ _ _ _ (⟨_, .assign _, _, _, _, _⟩ :: _) _ _ _; refine asg evL ?_) | (show SH _ _ _ _ _ (⟨_, .binOp .lss _ _ _ _, _, _, _, _⟩ :: _) _ _ _; refine lssF rfl rfl omD ?_) | (show SH _ _ _ _ _ (⟨_, .load _ _, _, _, _, _⟩ :: _) _ _ _; refine lbx rfl spL (by rfl) ?_) | refine slen rfl ?_ | refine fad rfl ?_) | refine s_nil ?_ | refine kh_normal ?_ | refine kh_exit ?_ | refine bh_exit ?_))
    refine v_norm [(1,_),(3,_),(8,_)] heL (fun g => ?_)
    refine v_loop0 [(2,2),(8,10),(69,107)] (fun i : Nat => [(8, .int .i64 i)]) (fun i => i ≤ L.length) (fun i => L.length - i) 0 hsL (Nat.zero_le _) ?_
    rintro i g3 hi3
    simp only [sets]
    by_cases hil : i < L.length
    · have hpk := ptys_at hil
      have hsnd := fun k hk => inv_sound hV (i := i) (k := k) (by show i < (ptys L).length; rw [ptys_len]; exact hil) hk
      simp only [hpk] at hsnd
      have hv := hr.inv hil
      have hv1 := hz.ati hil
      obtain ⟨x, hx⟩ : ∃ x, L.getD i Flat.dflt = x := ⟨_, rfl⟩
      have hxE := pty_enc hx
      rw [hx] at hsnd hv hv1
      clear hx hpk
      obtain ⟨⟨xi, xl, xm, xv⟩, xA, xca, xB, xcb⟩ := x
      simp only at hsnd hv hv1 hxE
      (repeat' (first | (show VH _ _ _ _ _ _ _; first | refine v_seq ?_ | refine r_seq ?_ | refine v_block ?_ | refine v_skip ?_ | refine v_cond_t rfl tbL ?_) | (show SH _ _ _ _ _ (_ :: _) _ _ _; first | (show SH _ _ _ _ _ (⟨_, .move _, _, _, _, _⟩ :: _) _ _ _; refine mov evL ?_) | (show SH _ _ _ _ _ (⟨_, .assign _, _, _, _, _⟩ :: _) _ _ _; refine asg evL ?_) | (show SH _ _ _ _ _ (⟨_, .binOp .lss _ _ _ _, _, _, _, _⟩ :: _) _ _ _; refine lssT rfl rfl omD ?_) | (show SH _ _ _ _ _ (⟨_, .load _ _, _, _, _, _⟩ :: _) _ _ _; refine lbx rfl spL (by rfl) ?_) | refine slen rfl ?_ | refine fad rfl ?_) | refine s_nil ?_ | refine kh_normal ?_))
      refine v_normS [(2,2),(8,10),(69,107)] _ agL [(8,_),(9,_)] heL (fun g => ?_)
      refine v_loop0 [(2,2),(9,10),(76,107)] (fun k : Nat => [(9, .int .i64 k)]) (fun k => k ≤ xv.length) (fun k => xv.length - k) 0 hsL (Nat.zero_le _) ?_
      rintro k g4 hk
      simp only [sets]
      by_cases hkv : k < xv.length
      · obtain ⟨e1, e2⟩ := hsnd k hkv
        obtain ⟨v, hvv⟩ : ∃ v, xv.getD k Flat.dflt = v := ⟨_, rfl⟩
        have hvv' : xv.getD k ⟨0, 0⟩ = v := hvv
        have hvE := inv_enc hvv
        rw [hvv'] at e1 e2
        have e3 := hM' _ e1
        obtain ⟨vw, vt⟩ := v
        simp only at e2 e3 hvE
        clear hM' e1 hsnd hvv hvv'
        (repeat' (first | (show VH _ _ _ _ _ _ _; first | refine v_seq ?_ | refine r_seq ?_ | refine v_block ?_ | refine v_skip ?_ | refine v_cond_t rfl tbL ?_ | refine v_cond_f rfl tbL ?_) | (show SH _ _ _ _ _ (_ :: _) _ _ _; first | (show SH _ _ _ _ _ (⟨_, _, _, _, _, some _⟩ :: _) _ _ _; (refine gif rfl rfl ?_; refine giFF tbL ?_)) | (show SH _ _ _ _ _ (⟨_, .move _, _, _, _, _⟩ :: _) _ _ _; refine mov evL ?_) | (show SH _ _ _ _ _ (⟨_, .assign _, _, _, _, _⟩ :: _) _ _ _; refine asg evL ?_) | (show SH _ _ _ _ _ (⟨_, .binOp .lss _ _ _ _, _, _, _, _⟩ :: _) _ _ _; refine lssT rfl rfl omD ?_) | (show SH _ _ _ _ _ (⟨_, .binOp .leq _ _ _ _, _, _, _, _⟩ :: _) _ _ _; refine leqF rfl rfl omD ?_) | (show SH _ _ _ _ _ (⟨_, .binOp .gtr _ _ _ _, _, _, _, _⟩ :: _) _ _ _; refine gtrF rfl rfl omD ?_) | (show SH _ _ _ _ _ (⟨_, .binOp .add _ _ _ _, _, _, _, _⟩ :: _) _ _ _; refine add rfl rfl inL ?_) | (show SH _ _ _ _ _ (⟨_, .load _ _, _, _, _, _⟩ :: _) _ _ _; first | refine lbx rfl spL (by rfl) ?_ | refine lag rfl (fun _ _ => rdP) (by rfl) omL (by assumption) ?_ | refine lrg rfl (fun _ _ => rdP) (by rfl) omL (by assumption) (by rfl) ?_) | (show SH _ _ _ _ _ (⟨_, .indexAddr _ _ _, _, _, _, _⟩ :: _) _ _ _; refine ix rfl rfl (by with_reducible rfl) (fun _ _ => rdP) (by rfl) omL omL ?_) | refine slen rfl ?_ | (show SH _ _ _ _ _ (⟨_, .lookup _ _ _ false, _, _, _, _⟩ :: _) _ _ _; refine lkm rfl rfl spL ?_) | (show SH _ _ _ _ _ (⟨_, .pick _ _ _, _, _, _, _⟩ :: _) _ _ _; refine pkf rfl tbL evL ?_) | refine fad rfl ?_ | refine ala rfl (fun b => ?_) | (show SH _ _ _ _ _ (⟨_, .store _ _ _, _, _, _, _⟩ :: _) _ _ _; refine sta rfl rfl rfl spL (by rfl) (by rfl) (by rfl) kpL ?_)) | refine s_nil ?_ | refine kh_normal ?_ | refine bh_normal ?_))
        exact ⟨agL, k + 1, hsL, enL, hkv, by omega⟩
      · obtain rfl : k = xv.length := by omega
        clear hsnd hM'
        (repeat' (first | (show VH _ _ _ _ _ _ _; first | refine v_seq ?_ | refine r_seq ?_ | refine v_exit ?_ | refine v_cond_f rfl tbL ?_) | (show SH _ _ _ _ _ (_ :: _) _ _ _; first | (show SH _ _ _ _ _ (⟨_, .move _, _, _, _, _⟩ :: _) _ _ _; refine mov evL ?_) | (show SH _ _ _ _ _ (⟨_, .assign _, _, _, _, _⟩ :: _) _ _ _; refine asg evL ?_) | (show SH _ _ _ _ _ (⟨_, .binOp .lss _ _ _ _, _, _, _, _⟩ :: _) _ _ _; refine lssF rfl rfl omD ?_) | (show SH _ _ _ _ _ (⟨_, .binOp .add _ _ _ _, _, _, _, _⟩ :: _) _ _ _; refine add rfl rfl inL ?_) | (show SH _ _ _ _ _ (⟨_, .load _ _, _, _, _, _⟩ :: _) _ _ _; first | refine lbx rfl spL (by rfl) ?_ | refine lrg rfl (fun _ _ => rdP) (by rfl) omL (by assumption) (by rfl) ?_) | (show SH _ _ _ _ _ (⟨_, .indexAddr _ _ _, _, _, _, _⟩ :: _) _ _ _; refine ix rfl rfl (by with_reducible rfl) (fun _ _ => rdP) (by rfl) omL omL ?_) | refine slen rfl ?_ | refine fad rfl ?_) | refine s_nil ?_ | refine kh_normal ?_ | refine kh_exit ?_ | refine bh_normal ?_ | refine bh_exit ?_))
        exact ⟨agL, i + 1, hsL, enL, hil, by omega⟩
    · obtain rfl : i = L.length := by omega
      clear hM'
      (repeat' (first | (show VH _ _ _ _ _ _ _; first | refine v_seq ?_ | refine r_seq ?_ | refine v_ret ?_ | refine v_exit ?_ | refine v_cond_f rfl tbL ?_) | (show SH _ _ _ _ _ (_ :: _) _ _ _; first | (show SH _ _ _ _ _ (⟨_, .move _, _, _, _, _⟩ :: _) _ _ _; refine mov evL ?_) | (show SH _ _ _ _ _ (⟨_, .assign _, _, _, _, _⟩ :: _) _ _ _; refine asg evL ?_) | (show SH _ _ _ _ _ (⟨_, .binOp .lss _ _ _ _, _, _, _, _⟩ :: _) _ _ _; refine lssF rfl rfl omD ?_) | (show SH _ _ _ _ _ (⟨_, .binOp .leq _ _ _ _, _, _, _, _⟩ :: _) _ _ _; refine leqT rfl rfl omD ?_) | (show SH _ _ _ _ _ (⟨_, .load _ _, _, _, _, _⟩ :: _) _ _ _; refine lbx rfl spL (by rfl) ?_) | refine slen rfl ?_ | refine fad rfl ?_) | refine s_nil ?_ | refine kh_normal ?_ | refine kh_exit ?_ | refine bh_exit ?_))
      exact rh1 rfl rfl ⟨rfl, rfl⟩ (ent_nil _)
end Go.Proofs.Ytlfbcoohfnoacaa

/- PartyOne: from the law's function. -/
namespace Go.Proofs.Ytlfbcoohfnoacaa
open Go.Fw Go.RowKit
theorem rdP0 (w : World) : RdP w none [] := ⟨Rd.nil _ _, fun _ h => by simp at h⟩
theorem any_next {L : List PtyP} {j : Nat} (hj : j < L.length) (f : PtyP → Bool) : (L.take (j + 1)).any f = ((L.take j).any f || f (L.getD j Flat.dflt)) := by
  rw [take_snoc (d := Flat.dflt) hj, List.any_append]; simp
set_option maxHeartbeats 8000000 in
set_option maxRecDepth 100000 in
theorem oneLaw (t0 la0 : Int) (A0 : Option Addr) (L0 : List PtyP) (c0 : Nat) (A1 : Option Addr) (c1_ : Nat) (l : List Do3) (W : World) (hl : L0.length ≤ maxLen) (hr : RdP W A0 L0) (hl1 : l.length ≤ maxLen) (hr1 : Rd W A1 l) :
    Ret Try.prog 3 [hv36 t0 la0 A0 L0 c0, .slice A1 l.length c1_].toArray W (Out W (.bool true)) := by
  have hml : maxLen ≤ 9223372036854775807 := by decide
  have haw := fun w => awake36_spec w
  have hrA := hr.1
  have hsm := fun w h => small36_spec t0 la0 A0 L0 c0 w hl h
  by_cases hS : SmallP L0
  case neg =>
    simp only [decide_eq_false hS] at hsm
    clear hl hl1
    refine enterH Try.func3 rfl rfl Try.ntmps3 rfl (Wd.refl _) ?_
    (repeat' (first | (show VH _ _ _ _ _ _ _; first | refine v_seq ?_ | refine r_seq ?_ | refine v_ret ?_ | refine v_skip ?_ | refine v_cond_t rfl tbL ?_ | refine v_cond_f rfl tbL ?_) | (show SH _ _ _ _ _ (_ :: _) _ _ _; first | (show SH _ _ _ _ _ (⟨_, _, _, _, _, some _⟩ :: _) _ _ _; (refine gif rfl rfl ?_; refine giFT tbL ?_)) | (show SH _ _ _ _ _ (⟨_, .move _, _, _, _, _⟩ :: _) _ _ _; refine mov evL ?_) | (show SH _ _ _ _ _ (⟨_, .assign _, _, _, _, _⟩ :: _) _ _ _; refine asg evL ?_) | (show SH _ _ _ _ _ (⟨_, .load _ _, _, _, _, _⟩ :: _) _ _ _; refine lba rfl spL (by rfl) ?_) | (show SH _ _ _ _ _ (⟨_, .call ⟨.value (.func 10), _, _⟩, _, _, _, _⟩ :: _) _ _ _; refine cl (callee := .func 10) rfl (fun w hw => haw w) rfl rfl ?_) | (show SH _ _ _ _ _ (⟨_, .call ⟨.value (.func 11), _, _⟩, _, _, _, _⟩ :: _) _ _ _; refine cl (callee := .func 11) rfl (fun w hw => hsm w (hrA.ext hw.ext)) rfl rfl ?_) | (show SH _ _ _ _ _ (⟨_, .unOp .not _ _, _, _, _, _⟩ :: _) _ _ _; first | refine bnoT rfl ?_ | refine bnoF rfl ?_) | (show SH _ _ _ _ _ (⟨_, .pick _ _ _, _, _, _, _⟩ :: _) _ _ _; refine pkt rfl tbL evL ?_) | (show SH _ _ _ _ _ (⟨_, .box _ _, _, _, _, _⟩ :: _) _ _ _; refine bxx rfl evL rfl (fun b => ?_))) | refine s_nil ?_ | refine kh_normal ?_ | refine kh_ret ?_))
    exact rh1 rfl rfl ⟨rfl, rfl⟩ (ent_nil _)
  simp only [decide_eq_true hS] at hsm
  generalize maxLen = ml at hl hl1 hml
  by_cases h60 : l.length ≤ 60
  case neg =>
    refine enterH Try.func3 rfl rfl Try.ntmps3 rfl (Wd.refl _) ?_
    (repeat' (first | (show VH _ _ _ _ _ _ _; first | refine v_seq ?_ | refine r_seq ?_ | refine v_ret ?_ | refine v_skip ?_ | refine v_cond_t rfl tbL ?_ | refine v_cond_f rfl tbL ?_) | (show SH _ _ _ _ _ (_ :: _) _ _ _; first | (show SH _ _ _ _ _ (⟨_, _, _, _, _, some _⟩ :: _) _ _ _; (refine gif rfl rfl ?_; first | refine giFF tbL ?_ | refine giFT tbL ?_)) | (show SH _ _ _ _ _ (⟨_, .move _, _, _, _, _⟩ :: _) _ _ _; refine mov evL ?_) | (show SH _ _ _ _ _ (⟨_, .assign _, _, _, _, _⟩ :: _) _ _ _; refine asg evL ?_) | (show SH _ _ _ _ _ (⟨_, .binOp .gtr _ _ _ _, _, _, _, _⟩ :: _) _ _ _; refine gtrT rfl rfl omD ?_) | (show SH _ _ _ _ _ (⟨_, .load _ _, _, _, _, _⟩ :: _) _ _ _; refine lba rfl spL (by rfl) ?_) | refine slen rfl ?_ | (show SH _ _ _ _ _ (⟨_, .call ⟨.value (.func 10), _, _⟩, _, _, _, _⟩ :: _) _ _ _; refine cl (callee := .func 10) rfl (fun w hw => haw w) rfl rfl ?_) | (show SH _ _ _ _ _ (⟨_, .call ⟨.value (.func 11), _, _⟩, _, _, _, _⟩ :: _) _ _ _; refine cl (callee := .func 11) rfl (fun w hw => hsm w (hrA.ext hw.ext)) rfl rfl ?_) | refine bnoT rfl ?_ | (show SH _ _ _ _ _ (⟨_, .pick _ _ _, _, _, _, _⟩ :: _) _ _ _; first | refine pkt rfl tbL evL ?_ | refine pkf rfl tbL evL ?_) | (show SH _ _ _ _ _ (⟨_, .box _ _, _, _, _, _⟩ :: _) _ _ _; refine bxx rfl evL rfl (fun b => ?_))) | refine s_nil ?_ | refine kh_normal ?_ | refine kh_ret ?_))
    exact rh1 rfl rfl ⟨rfl, rfl⟩ (ent_nil _)
  have hz := hS.sz
  have hvs := fun w hr => valid_spec t0 la0 A0 L0 c0 w hz hr
  cases hval : validHal ⟨t0, la0, ptys L0⟩ with
  | false =>
    rw [hval] at hvs
    refine enterH Try.func3 rfl rfl Try.ntmps3 rfl (Wd.refl _) ?_
    (repeat' (first | (show VH _ _ _ _ _ _ _; first | refine v_seq ?_ | refine r_seq ?_ | refine v_ret ?_ | refine v_skip ?_ | refine v_cond_t rfl tbL ?_ | refine v_cond_f rfl tbL ?_) | (show SH _ _ _ _ _ (_ :: _) _ _ _; first | (show SH _ _ _ _ _ (⟨_, _, _, _, _, some _⟩ :: _) _ _ _; (refine gif rfl rfl ?_; refine giFF tbL ?_)) | (show SH _ _ _ _ _ (⟨_, .move _, _, _, _, _⟩ :: _) _ _ _; refine mov evL ?_) | (show SH _ _ _ _ _ (⟨_, .assign _, _, _, _, _⟩ :: _) _ _ _; refine asg evL ?_) | (show SH _ _ _ _ _ (⟨_, .binOp .gtr _ _ _ _, _, _, _, _⟩ :: _) _ _ _; refine gtrF rfl rfl omD ?_) | (show SH _ _ _ _ _ (⟨_, .load _ _, _, _, _, _⟩ :: _) _ _ _; refine lba rfl spL (by rfl) ?_) | refine slen rfl ?_ | (show SH _ _ _ _ _ (⟨_, .call ⟨.value (.func 10), _, _⟩, _, _, _, _⟩ :: _) _ _ _; refine cl (callee := .func 10) rfl (fun w hw => haw w) rfl rfl ?_) | (show SH _ _ _ _ _ (⟨_, .call ⟨.value (.func 11), _, _⟩, _, _, _, _⟩ :: _) _ _ _; refine cl (callee := .func 11) rfl (fun w hw => hsm w (hrA.ext hw.ext)) rfl rfl ?_) | (show SH _ _ _ _ _ (⟨_, .call ⟨.value (.func 12), _, _⟩, _, _, _, _⟩ :: _) _ _ _; refine cl (callee := .func 12) rfl (fun w hw => hvs w (hr.ext hw.ext)) rfl rfl ?_) | (show SH _ _ _ _ _ (⟨_, .unOp .not _ _, _, _, _, _⟩ :: _) _ _ _; first | refine bnoT rfl ?_ | refine bnoF rfl ?_) | (show SH _ _ _ _ _ (⟨_, .pick _ _ _, _, _, _, _⟩ :: _) _ _ _; refine pkf rfl tbL evL ?_) | (show SH _ _ _ _ _ (⟨_, .box _ _, _, _, _, _⟩ :: _) _ _ _; refine bxx rfl evL rfl (fun b => ?_))) | refine s_nil ?_ | refine kh_normal ?_ | refine kh_ret ?_))
    exact rh1 rfl rfl ⟨rfl, rfl⟩ (ent_nil _)
  | true =>
    rw [hval] at hvs
    have hV := valid_iff.1 hval
    have hsd := fun w hr => sound_spec t0 la0 A0 L0 c0 w hV hr
    refine enterH Try.func3 rfl rfl Try.ntmps3 rfl (Wd.refl _) ?_
    (repeat' (first | (show VH _ _ _ _ _ _ _; first | refine v_seq ?_ | refine r_seq ?_ | refine v_block ?_ | refine v_skip ?_ | refine v_cond_f rfl tbL ?_) | (show SH _ _ _ _ _ (_ :: _) _ _ _; first | (show SH _ _ _ _ _ (⟨_, _, _, _, _, some _⟩ :: _) _ _ _; (refine gif rfl rfl ?_; refine giFF tbL ?_)) | (show SH _ _ _ _ _ (⟨_, .move _, _, _, _, _⟩ :: _) _ _ _; refine mov evL ?_) | (show SH _ _ _ _ _ (⟨_, .assign _, _, _, _, _⟩ :: _) _ _ _; refine asg evL ?_) | (show SH _ _ _ _ _ (⟨_, .binOp .gtr _ _ _ _, _, _, _, _⟩ :: _) _ _ _; refine gtrF rfl rfl omD ?_) | (show SH _ _ _ _ _ (⟨_, .load _ _, _, _, _, _⟩ :: _) _ _ _; refine lba rfl spL (by rfl) ?_) | refine slen rfl ?_ | (show SH _ _ _ _ _ (⟨_, .call ⟨.value (.func 10), _, _⟩, _, _, _, _⟩ :: _) _ _ _; refine cl (callee := .func 10) rfl (fun w hw => haw w) rfl rfl ?_) | (show SH _ _ _ _ _ (⟨_, .call ⟨.value (.func 11), _, _⟩, _, _, _, _⟩ :: _) _ _ _; refine cl (callee := .func 11) rfl (fun w hw => hsm w (hrA.ext hw.ext)) rfl rfl ?_) | (show SH _ _ _ _ _ (⟨_, .call ⟨.value (.func 12), _, _⟩, _, _, _, _⟩ :: _) _ _ _; refine cl (callee := .func 12) rfl (fun w hw => hvs w (hr.ext hw.ext)) rfl rfl ?_) | (show SH _ _ _ _ _ (⟨_, .call ⟨.value (.func 13), _, _⟩, _, _, _, _⟩ :: _) _ _ _; refine cl (callee := .func 13) rfl (fun w hw => hsd w (hr.ext hw.ext)) rfl rfl ?_) | refine bnoT rfl ?_ | (show SH _ _ _ _ _ (⟨_, .pick _ _ _, _, _, _, _⟩ :: _) _ _ _; refine pkf rfl tbL evL ?_) | (show SH _ _ _ _ _ (⟨_, .box _ _, _, _, _, _⟩ :: _) _ _ _; refine bxx rfl evL rfl (fun b => ?_))) | refine s_nil ?_ | refine kh_normal ?_))
    revert b
    intro b2
    clear hsd hvs hsm haw hl hl1 hml hval
    refine v_norm [(1,_),(2,_),(5,_)] heL (fun g => ?_)
    refine VH.ent (G := [bx b2 24 [.int .i64 t0, .int .i64 la0, .slice A0 L0.length c0], kne W A0 L0]) ?_ ((ent_ke0 hr).trans enL)
    refine v_loop [(4,11),(30,119)] (fun y : Nat × Hal × Option Addr × Nat × List PtyP => [(5, .int .i64 y.1)]) (fun y => [bx b2 24 [.int .i64 y.2.1.tick, .int .i64 y.2.1.last, .slice y.2.2.1 y.2.2.2.2.length y.2.2.2.1], kne W y.2.2.1 y.2.2.2.2]) (fun y => y.1 ≤ l.length ∧ y.2.1.ps = ptys y.2.2.2.2 ∧ VHal y.2.1) (fun y => l.length - y.1) (0, ⟨t0, la0, ptys L0⟩, A0, c0, L0) hsL enL ⟨Nat.zero_le _, rfl, hV⟩ ?_
    rintro ⟨i, ⟨t, la, ps⟩, A, c, L⟩ g ⟨hi, hps, hVh⟩
    simp only [sets]
    simp only at hi hps hVh
    subst hps
    clear hV hS hz hr hrA
    by_cases hil : i < l.length
    · have hz := szP_val hVh (L := L) rfl
      have hll := hz.len
      obtain ⟨x, hx⟩ : ∃ x, l.getD i Flat.dflt = x := ⟨_, rfl⟩
      have hxE := do3_enc hx
      clear hx
      obtain ⟨xk, xa, xb⟩ := x
      simp only at hxE
      obtain ⟨r, hrr⟩ : ∃ r, doR ⟨t, la, ptys L⟩ xk xa xb = r := ⟨_, rfl⟩
      have hdo := fun w hr => outK_of hrr (one36_spec t la A L c xk xa xb w hz hr)
      have hfo := do_fol ⟨t, la, ptys L⟩ (xk % 9).toNat xa xb
      rw [show doM ⟨t, la, ptys L⟩ (xk % 9).toNat xa xb = r from hrr] at hfo
      clear hrr
      obtain ⟨⟨nt, nl, nps⟩, e⟩ := r
      simp only at hfo
      (repeat' (first | (show VH _ _ _ _ _ _ _; first | refine v_seq ?_ | refine r_seq ?_ | refine v_block ?_ | refine v_skip ?_ | refine v_cond_t rfl tbL ?_) | (show SH _ _ _ _ _ (_ :: _) _ _ _; first | (show SH _ _ _ _ _ (⟨_, .move _, _, _, _, _⟩ :: _) _ _ _; refine mov evL ?_) | (show SH _ _ _ _ _ (⟨_, .binOp .lss _ _ _ _, _, _, _, _⟩ :: _) _ _ _; refine lssT rfl rfl omD ?_) | refine slen rfl ?_) | refine s_nil ?_ | refine kh_normal ?_))
      refine r_heldT [bx b2 24 _, kne W A L] (tr [(0, true), (1, true), (2, true), (3, true), (4, true)] (.fork 5 (tr [(6, true), (7, true), (8, true), (9, false), (10, false), (11, false)] .nil) 9 (tr [(5, false), (6, false), (7, true), (8, true), (10, false), (11, false)] .nil))) hmix (by kernel_rfl) enL ?_
      (repeat' (first | (show SH _ _ _ _ _ (_ :: _) _ _ _; first | (show SH _ _ _ _ _ (⟨_, .move _, _, _, _, _⟩ :: _) _ _ _; refine mov evL ?_) | (show SH _ _ _ _ _ (⟨_, .load _ _, _, _, _, _⟩ :: _) _ _ _; first | refine lba rfl spL (by rfl) ?_ | refine lag rfl (fun _ _ => rdE) (by rfl) omL (by assumption) ?_) | (show SH _ _ _ _ _ (⟨_, .indexAddr _ _ _, _, _, _, _⟩ :: _) _ _ _; refine ix rfl rfl (by with_reducible rfl) (fun _ _ => rdE) (by rfl) omL omL ?_) | (show SH _ _ _ _ _ (⟨_, .call ⟨.value (.func 14), _, _⟩, _, _, _, _⟩ :: _) _ _ _; refine cp (callee := .func 14) rfl (fun w hw => hdo w (Wd.ke hw spL)) rfl rfl ?_) | refine ala rfl (fun b => ?_)) | refine s_fork ?_ ?_))
      all_goals
        rintro _ _ ⟨Ax, cx, Lx, hpx, rfl, rfl⟩
        simp only at hpx ⊢
        rcases hfo with ⟨he, h0⟩ | ⟨he, _, hF⟩
        · injection h0 with h1 h2 h3
          subst h1 h2 h3
          have hsame := fun w h1 h2 => same36_spec 0 0 0 0 Ax none Lx [] cx 0 w (szQ_sz hpx (by decide)) (szQ_sz (ps := []) rfl (by decide)) h1 h2
          rw [show decide ((⟨0, 0, ptys Lx⟩ : Hal) = ⟨0, 0, ptys []⟩) = true from decide_eq_true (by rw [hpx]; rfl)] at hsame
          (repeat' (first | (show VH _ _ _ _ _ _ _; first | refine v_seq ?_ | refine r_seq ?_ | refine v_skip ?_ | refine v_exit ?_ | refine v_cond_t rfl tbL ?_ | refine v_cond_f rfl tbL ?_) | (show SH _ _ _ _ _ (_ :: _) _ _ _; first | (show SH _ _ _ _ _ (⟨_, .move _, _, _, _, _⟩ :: _) _ _ _; refine mov evL ?_) | (show SH _ _ _ _ _ (⟨_, .assign _, _, _, _, _⟩ :: _) _ _ _; refine asg evL ?_) | (show SH _ _ _ _ _ (⟨_, .binOp .neq _ _ _ _, _, _, _, _⟩ :: _) _ _ _; refine neqT rfl rfl omD ?_) | (show SH _ _ _ _ _ (⟨_, .binOp .add _ _ _ _, _, _, _, _⟩ :: _) _ _ _; refine add rfl rfl inL ?_) | (show SH _ _ _ _ _ (⟨_, .load _ _, _, _, _, _⟩ :: _) _ _ _; refine lba rfl spL (by rfl) ?_) | (show SH _ _ _ _ _ (⟨_, .call ⟨.value (.func 15), _, _⟩, _, _, _, _⟩ :: _) _ _ _; refine cl (callee := .func 15) rfl (fun w hw => hsame w (Wd.kp hw spL) (rdP0 w)) rfl rfl ?_) | refine bnoT rfl ?_ | refine extr rfl rfl ?_ | refine bld rfl rfl ?_ | refine ala rfl (fun b => ?_) | (show SH _ _ _ _ _ (⟨_, .store _ _ _, _, _, _, _⟩ :: _) _ _ _; refine sta rfl rfl rfl spL (by rfl) (by rfl) (by rfl) kpL ?_)) | refine s_nil ?_ | refine kh_normal ?_ | refine kh_exit ?_ | refine bh_exit ?_))
          exact ⟨agL, (i + 1, ⟨t, la, ptys L⟩, A, c, L), hsL, enL, ⟨hil, rfl, hVh⟩, by show l.length - (i + 1) < l.length - i; omega⟩
        · subst he
          have hVn := hF.valid
          have hzx := szP_val hVn hpx
          have hvn := fun w hr => valid_spec nt nl Ax Lx cx w hzx hr
          rw [hpx, valid_iff.2 hVn] at hvn
          have hsn := fun w hr => sound_spec nt nl Ax Lx cx w (by rw [hpx]; exact hVn) hr
          have f1 : la ≤ nl := hF.last
          have f2 : t ≤ nt := hF.tick
          have f3 : 0 ≤ la ∧ la ≤ 1048576 := ⟨hVh.l0, hVh.l1⟩
          have hids := hF.ids
          have hllx := hzx.len
          clear hF hdo
          (repeat' (first | (show VH _ _ _ _ _ _ _; first | refine v_seq ?_ | refine r_seq ?_ | refine v_block ?_ | refine v_skip ?_ | refine v_cond_f rfl tbL ?_) | (show SH _ _ _ _ _ (_ :: _) _ _ _; first | (show SH _ _ _ _ _ (⟨_, _, _, _, _, some _⟩ :: _) _ _ _; (refine gif rfl rfl ?_; refine giFF tbL ?_)) | (show SH _ _ _ _ _ (⟨_, .move _, _, _, _, _⟩ :: _) _ _ _; refine mov evL ?_) | (show SH _ _ _ _ _ (⟨_, .assign _, _, _, _, _⟩ :: _) _ _ _; refine asg evL ?_) | (show SH _ _ _ _ _ (⟨_, .binOp .lss _ _ _ _, _, _, _, _⟩ :: _) _ _ _; refine lssF rfl rfl omD ?_) | (show SH _ _ _ _ _ (⟨_, .binOp .neq _ _ _ _, _, _, _, _⟩ :: _) _ _ _; refine neqF rfl rfl omD ?_) | (show SH _ _ _ _ _ (⟨_, .load _ _, _, _, _, _⟩ :: _) _ _ _; first | refine lbx rfl spL (by rfl) ?_ | refine lba rfl spL (by rfl) ?_) | (show SH _ _ _ _ _ (⟨_, .call ⟨.value (.func 12), _, _⟩, _, _, _, _⟩ :: _) _ _ _; refine cl (callee := .func 12) rfl (fun w hw => hvn w (Wd.kp hw spL)) rfl rfl ?_) | (show SH _ _ _ _ _ (⟨_, .call ⟨.value (.func 13), _, _⟩, _, _, _, _⟩ :: _) _ _ _; refine cl (callee := .func 13) rfl (fun w hw => hsn w (Wd.kp hw spL)) rfl rfl ?_) | refine bnoT rfl ?_ | (show SH _ _ _ _ _ (⟨_, .pick _ _ _, _, _, _, _⟩ :: _) _ _ _; refine pkf rfl tbL evL ?_) | refine extr rfl rfl ?_ | refine fad rfl ?_ | refine ala rfl (fun b => ?_) | (show SH _ _ _ _ _ (⟨_, .store _ _ _, _, _, _, _⟩ :: _) _ _ _; refine sta rfl rfl rfl spL (by rfl) (by rfl) (by rfl) kpL ?_)) | refine s_nil ?_ | refine kh_normal ?_))
          revert b
          intro b6
          refine v_normS [(4,11),(30,119)] _ agL [(5,_),(6,_),(8,_)] heL (fun g => ?_)
          refine VH.ent (G := [bx b6 24 [.int .i64 nt, .int .i64 nl, .slice Ax Lx.length cx], knp Ax Lx, bx b2 24 [.int .i64 t, .int .i64 la, .slice A L.length c], kne W A L]) ?_ enL
          refine v_loop0 [(4,4),(8,11),(73,118)] (fun k : Nat => [(8, .int .i64 k)]) (fun k => k ≤ Lx.length) (fun k => Lx.length - k) 0 hsL (Nat.zero_le _) ?_
          rintro k g2 hk
          simp only [sets]
          by_cases hkx : k < Lx.length
          · have hidk := hids (Lx.getD k Flat.dflt).p (by rw [← hpx]; exact List.mem_map_of_mem (f := PtyP.p) (getD_mem (d := Flat.dflt) hkx))
            obtain ⟨y, hy⟩ : ∃ y, Lx.getD k Flat.dflt = y := ⟨_, rfl⟩
            have hyE := pty_enc hy
            rw [hy] at hidk
            clear hy hids hvn hsn
            obtain ⟨⟨yi, yl, ym, yv⟩, yA, yca, yB, ycb⟩ := y
            simp only at hidk hyE
            (repeat' (first | (show VH _ _ _ _ _ _ _; first | refine v_seq ?_ | refine r_seq ?_ | refine v_block ?_ | refine v_skip ?_ | refine v_cond_t rfl tbL ?_) | (show SH _ _ _ _ _ (_ :: _) _ _ _; first | (show SH _ _ _ _ _ (⟨_, .move _, _, _, _, _⟩ :: _) _ _ _; refine mov evL ?_) | (show SH _ _ _ _ _ (⟨_, .assign _, _, _, _, _⟩ :: _) _ _ _; refine asg evL ?_) | (show SH _ _ _ _ _ (⟨_, .binOp .lss _ _ _ _, _, _, _, _⟩ :: _) _ _ _; refine lssT rfl rfl omD ?_) | (show SH _ _ _ _ _ (⟨_, .load _ _, _, _, _, _⟩ :: _) _ _ _; first | refine lbx rfl spL (by rfl) ?_ | refine lrg rfl (fun _ _ => rdE) (by rfl) omL (by assumption) (by rfl) ?_) | (show SH _ _ _ _ _ (⟨_, .indexAddr _ _ _, _, _, _, _⟩ :: _) _ _ _; refine ix rfl rfl (by with_reducible rfl) (fun _ _ => rdE) (by rfl) omL omL ?_) | refine slen rfl ?_ | refine fad rfl ?_) | refine s_nil ?_ | refine kh_normal ?_))
            refine v_normS [(4,4),(8,11),(73,118)] _ agL [(8,_),(9,_),(10,_),(11,_)] heL (fun g => ?_)
            refine v_loop0 [(10,11),(86,103)] (fun j : Nat => [(11, .int .i64 j), (10, .bool ((L.take j).any fun x => decide (x.p.id = yi)))]) (fun j => j ≤ L.length) (fun j => L.length - j) 0 hsL (Nat.zero_le _) ?_
            rintro j g3 hj
            simp only [sets]
            by_cases hjl : j < L.length
            · have han := any_next hjl (fun x => decide (x.p.id = yi))
              obtain ⟨z, hzz⟩ : ∃ z, L.getD j Flat.dflt = z := ⟨_, rfl⟩
              have hzE := pty_enc hzz
              rw [hzz] at han
              clear hzz hidk
              obtain ⟨⟨zi, zl, zm, zv⟩, zA, zca, zB, zcb⟩ := z
              simp only at han hzE
              cases hold : (L.take j).any fun x => decide (x.p.id = yi) with
              | true =>
                rw [hold, Bool.true_or] at han
                (repeat' (first | (show VH _ _ _ _ _ _ _; first | refine v_seq ?_ | refine r_seq ?_ | refine v_block ?_ | refine v_skip ?_ | refine v_cond_t rfl tbL ?_) | (show SH _ _ _ _ _ (_ :: _) _ _ _; first | (show SH _ _ _ _ _ (⟨_, _, _, _, _, some _⟩ :: _) _ _ _; (refine gif rfl rfl ?_; refine giFT tbL ?_)) | (show SH _ _ _ _ _ (⟨_, .move _, _, _, _, _⟩ :: _) _ _ _; refine mov evL ?_) | (show SH _ _ _ _ _ (⟨_, .assign _, _, _, _, _⟩ :: _) _ _ _; refine asg evL ?_) | (show SH _ _ _ _ _ (⟨_, .binOp .lss _ _ _ _, _, _, _, _⟩ :: _) _ _ _; refine lssT rfl rfl omD ?_) | (show SH _ _ _ _ _ (⟨_, .binOp .add _ _ _ _, _, _, _, _⟩ :: _) _ _ _; refine add rfl rfl inL ?_) | (show SH _ _ _ _ _ (⟨_, .load _ _, _, _, _, _⟩ :: _) _ _ _; refine lbx rfl spL (by rfl) ?_) | refine slen rfl ?_ | (show SH _ _ _ _ _ (⟨_, .pick _ _ _, _, _, _, _⟩ :: _) _ _ _; refine pkt rfl tbL evL ?_) | refine fad rfl ?_) | refine s_nil ?_ | refine kh_normal ?_ | refine bh_normal ?_))
                exact ⟨agL, j + 1, by rw [han]; (repeat (first | exact trivial | refine And.intro rfl ?_)), enL, hjl, by omega⟩
              | false =>
                rw [hold, Bool.false_or] at han
                (repeat' (first | (show VH _ _ _ _ _ _ _; first | refine v_seq ?_ | refine r_seq ?_ | refine v_block ?_ | refine v_skip ?_ | refine v_cond_t rfl tbL ?_) | (show SH _ _ _ _ _ (_ :: _) _ _ _; first | (show SH _ _ _ _ _ (⟨_, _, _, _, _, some _⟩ :: _) _ _ _; (refine gif rfl rfl ?_; refine giFF tbL ?_)) | (show SH _ _ _ _ _ (⟨_, .move _, _, _, _, _⟩ :: _) _ _ _; refine mov evL ?_) | (show SH _ _ _ _ _ (⟨_, .assign _, _, _, _, _⟩ :: _) _ _ _; refine asg evL ?_) | (show SH _ _ _ _ _ (⟨_, .binOp .lss _ _ _ _, _, _, _, _⟩ :: _) _ _ _; refine lssT rfl rfl omD ?_) | refine eql rfl rfl ?_ | (show SH _ _ _ _ _ (⟨_, .binOp .add _ _ _ _, _, _, _, _⟩ :: _) _ _ _; refine add rfl rfl inL ?_) | (show SH _ _ _ _ _ (⟨_, .load _ _, _, _, _, _⟩ :: _) _ _ _; first | refine lbx rfl spL (by rfl) ?_ | refine lrg rfl (fun _ _ => rdE) (by rfl) omL (by assumption) (by rfl) ?_) | (show SH _ _ _ _ _ (⟨_, .indexAddr _ _ _, _, _, _, _⟩ :: _) _ _ _; refine ix rfl rfl (by with_reducible rfl) (fun _ _ => rdE) (by rfl) omL omL ?_) | refine slen rfl ?_ | (show SH _ _ _ _ _ (⟨_, .pick _ _ _, _, _, _, _⟩ :: _) _ _ _; refine pkf rfl tbL evL ?_) | refine fad rfl ?_) | refine s_nil ?_ | refine kh_normal ?_ | refine bh_normal ?_))
                exact ⟨agL, j + 1, by rw [han]; (repeat (first | exact trivial | refine And.intro rfl ?_)), enL, hjl, by omega⟩
            · obtain rfl : j = L.length := by omega
              rw [List.take_length]
              cases hold : L.any fun x => decide (x.p.id = yi) with
              | true =>
                clear hidk
                (repeat' (first | (show VH _ _ _ _ _ _ _; first | refine v_seq ?_ | refine r_seq ?_ | refine v_skip ?_ | refine v_exit ?_ | refine v_cond_f rfl tbL ?_) | (show SH _ _ _ _ _ (_ :: _) _ _ _; first | (show SH _ _ _ _ _ (⟨_, _, _, _, _, some _⟩ :: _) _ _ _; first | (refine gif rfl rfl ?_; refine giTF tbL ?_) | refine gu rfl rfl ?_) | (show SH _ _ _ _ _ (⟨_, .move _, _, _, _, _⟩ :: _) _ _ _; refine mov evL ?_) | (show SH _ _ _ _ _ (⟨_, .assign _, _, _, _, _⟩ :: _) _ _ _; refine asg evL ?_) | (show SH _ _ _ _ _ (⟨_, .binOp .lss _ _ _ _, _, _, _, _⟩ :: _) _ _ _; refine lssF rfl rfl omD ?_) | (show SH _ _ _ _ _ (⟨_, .binOp .add _ _ _ _, _, _, _, _⟩ :: _) _ _ _; refine add rfl rfl inL ?_) | (show SH _ _ _ _ _ (⟨_, .load _ _, _, _, _, _⟩ :: _) _ _ _; refine lbx rfl spL (by rfl) ?_) | refine slen rfl ?_ | refine bnoT rfl ?_ | (show SH _ _ _ _ _ (⟨_, .pick _ _ _, _, _, _, _⟩ :: _) _ _ _; refine pkf rfl tbL evL ?_) | refine fad rfl ?_) | refine s_nil ?_ | refine kh_normal ?_ | refine kh_exit ?_ | refine bh_normal ?_ | refine bh_exit ?_))
                exact ⟨agL, k + 1, hsL, enL, hkx, by omega⟩
              | false =>
                have hid2 : yi = la + 1 ∧ nl = yi := hidk.resolve_left fun ⟨q, hq, hqi⟩ => by
                  obtain ⟨x, hx, hxq⟩ := List.mem_map.1 hq
                  have := List.any_eq_false.1 hold x hx
                  rw [hxq] at this
                  exact this (decide_eq_true hqi)
                clear hidk
                obtain ⟨k1_, k2_⟩ := hid2
                (repeat' (first | (show VH _ _ _ _ _ _ _; first | refine v_seq ?_ | refine r_seq ?_ | refine v_skip ?_ | refine v_exit ?_ | refine v_cond_f rfl tbL ?_) | (show SH _ _ _ _ _ (_ :: _) _ _ _; first | (show SH _ _ _ _ _ (⟨_, _, _, _, _, some _⟩ :: _) _ _ _; (refine gif rfl rfl ?_; first | refine giTT tbL ?_ | refine giFF tbL ?_)) | (show SH _ _ _ _ _ (⟨_, .move _, _, _, _, _⟩ :: _) _ _ _; refine mov evL ?_) | (show SH _ _ _ _ _ (⟨_, .assign _, _, _, _, _⟩ :: _) _ _ _; refine asg evL ?_) | (show SH _ _ _ _ _ (⟨_, .binOp .lss _ _ _ _, _, _, _, _⟩ :: _) _ _ _; refine lssF rfl rfl omD ?_) | (show SH _ _ _ _ _ (⟨_, .binOp .neq _ _ _ _, _, _, _, _⟩ :: _) _ _ _; refine neqF rfl rfl omD ?_) | (show SH _ _ _ _ _ (⟨_, .binOp .add _ _ _ _, _, _, _, _⟩ :: _) _ _ _; refine add rfl rfl inL ?_) | (show SH _ _ _ _ _ (⟨_, .load _ _, _, _, _, _⟩ :: _) _ _ _; refine lbx rfl spL (by rfl) ?_) | refine slen rfl ?_ | refine bnoF rfl ?_ | (show SH _ _ _ _ _ (⟨_, .pick _ _ _, _, _, _, _⟩ :: _) _ _ _; first | refine pkt rfl tbL evL ?_ | refine pkf rfl tbL evL ?_) | refine fad rfl ?_) | refine s_nil ?_ | refine kh_normal ?_ | refine kh_exit ?_ | refine bh_normal ?_ | refine bh_exit ?_))
                exact ⟨agL, k + 1, hsL, enL, hkx, by omega⟩
          · obtain rfl : k = Lx.length := by omega
            clear hids hvn hsn
            (repeat' (first | (show VH _ _ _ _ _ _ _; first | refine v_seq ?_ | refine r_seq ?_ | refine v_exit ?_ | refine v_cond_f rfl tbL ?_) | (show SH _ _ _ _ _ (_ :: _) _ _ _; first | (show SH _ _ _ _ _ (⟨_, .move _, _, _, _, _⟩ :: _) _ _ _; refine mov evL ?_) | (show SH _ _ _ _ _ (⟨_, .assign _, _, _, _, _⟩ :: _) _ _ _; refine asg evL ?_) | (show SH _ _ _ _ _ (⟨_, .binOp .lss _ _ _ _, _, _, _, _⟩ :: _) _ _ _; refine lssF rfl rfl omD ?_) | (show SH _ _ _ _ _ (⟨_, .binOp .add _ _ _ _, _, _, _, _⟩ :: _) _ _ _; refine add rfl rfl inL ?_) | (show SH _ _ _ _ _ (⟨_, .load _ _, _, _, _, _⟩ :: _) _ _ _; first | refine lbx rfl spL (by rfl) ?_ | refine lba rfl spL (by rfl) ?_) | refine slen rfl ?_ | refine fad rfl ?_ | (show SH _ _ _ _ _ (⟨_, .store _ _ _, _, _, _, _⟩ :: _) _ _ _; refine sta rfl rfl rfl spL (by rfl) (by rfl) (by rfl) kpL ?_)) | refine s_nil ?_ | refine kh_normal ?_ | refine kh_exit ?_ | refine bh_normal ?_ | refine bh_exit ?_))
            exact ⟨agL, (i + 1, ⟨nt, nl, ptys Lx⟩, Ax, cx, Lx), hsL, Ent.trans (B := [knp Ax Lx, bx b2 24 [.int .i64 nt, .int .i64 nl, .slice Ax Lx.length cx]]) enL (ent_kpe.trans enL), ⟨hil, rfl, by rw [hpx]; exact hVn⟩, by show l.length - (i + 1) < l.length - i; omega⟩
    · obtain rfl : i = l.length := by omega
      (repeat' (first | (show VH _ _ _ _ _ _ _; first | refine v_seq ?_ | refine r_seq ?_ | refine v_ret ?_ | refine v_exit ?_ | refine v_cond_f rfl tbL ?_) | (show SH _ _ _ _ _ (_ :: _) _ _ _; first | (show SH _ _ _ _ _ (⟨_, .move _, _, _, _, _⟩ :: _) _ _ _; refine mov evL ?_) | (show SH _ _ _ _ _ (⟨_, .assign _, _, _, _, _⟩ :: _) _ _ _; refine asg evL ?_) | (show SH _ _ _ _ _ (⟨_, .binOp .lss _ _ _ _, _, _, _, _⟩ :: _) _ _ _; refine lssF rfl rfl omD ?_) | refine slen rfl ?_) | refine s_nil ?_ | refine kh_normal ?_ | refine kh_exit ?_ | refine bh_exit ?_))
      exact rh1 rfl rfl ⟨rfl, rfl⟩ (ent_nil _)
end Go.Proofs.Ytlfbcoohfnoacaa

/- PartyOne answers true, whatever the input; no condition. -/
namespace Go.Proofs.Ytlfbcoohfnoacaa
open Go.Fw Go.RowKit Go.ChangeShapes Go.WideShapes Go.ChangeAt
set_option maxRecDepth 100000 in
theorem one_lifted (os : Os) (started : os.Started) (H : Type) (enc : TypeId × Value → H) :
    ReturnsInHanded {} Try.checked os 3 .any (Rows.partyOneSpec.pre6 enc Try.prog Try.f3 Rows.partyOneRow.domain false) (Rows.partyOneSpec.post enc Try.prog Try.f3 false true false false) := by
  refine returnsInHanded_of_change (C := Try.checked) ownK started (by kernel_rfl) Try.func3
    (ChangeSpec.witness6 (enc := enc) (C := Try.checked) false ⟨#[], #[.agg #[.int .i64 0, .int .i64 0, .slice none 0 0], .slice none 0 0], []⟩ 8 (by kernel_rfl) (by kernel_rfl) (by kernel_rfl) (by kernel_rfl)) ?_
  intro W base args ds gs before hval0 hW _ _
  have hval : ∀ (j : Nat) t v, Try.f3.params[j]? = some t → args[j]? = some v → Value.okWide Try.prog W .any base t v := hval0
  have hW' := hW
  obtain ⟨p, q, hA0, hV, rfl, _, _⟩ := hW
  have hA : DataW.TrodAll enc Try.prog W 0 (fun _ => true) true Try.f3.params.toList args.toList ds p := hA0
  rw [Try.params3] at hA hval
  obtain ⟨v0, vs0, d0, ds0, p0, q0, hargs, rfl, rfl, h0, r0⟩ := trodAll_cons hA
  obtain ⟨v1, vs1, d1, ds1, p1, q1, rfl, rfl, rfl, h1, r1⟩ := trodAll_cons r0
  obtain ⟨rfl, rfl, rfl⟩ := trodAll_nil r1
  obtain rfl : args = #[v0, v1] := by cases args; simp_all
  obtain ⟨t0, la0, A0, L0, c0, rfl, hr0, hl0⟩ := open_hall (hval 0 24 v0 rfl rfl) h0
  obtain ⟨A1, c1, l1, rfl, hr1, hl1⟩ := open_dos36 (hval 1 25 v1 rfl rfl) h1
  refine ((oneLaw t0 la0 A0 L0 c0 A1 c1 l1 W hl0 hr0 hl1 hr1).2).mono fun e W' ⟨v, he, hR, ⟨hv, _⟩, hext⟩ => ?_
  subst hv
  exact ⟨_, he, law_post (P := Try.prog) (tb := 4) laidK (by kernel_rfl) rfl Try.underlying4 rfl ⟨rfl, rfl, rfl⟩ hW' hext.ext⟩
theorem one_holds : Rows.PartyOneSaid :=
  OpenClaim.holds_of_wide 3 Try.f3 rfl rfl rfl rfl rfl rfl rfl ⟨rfl, rfl, rfl, rfl, rfl⟩ rfl rfl rfl rfl rfl (by kernel_rfl) Try.func3 (by kernel_rfl)
    (of_decide_eq_true (by kernel_rfl)) (by unfold Func.isWrapper; first | (rw [if_pos (by decide +kernel)]; kernel_rfl) | (rw [if_neg (by decide +kernel)]; exact ⟨rfl, rfl⟩))
    (fun os started H enc _ => one_lifted os started H enc)
end Go.Proofs.Ytlfbcoohfnoacaa

