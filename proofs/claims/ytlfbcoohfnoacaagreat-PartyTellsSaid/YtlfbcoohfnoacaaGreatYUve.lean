/- Package party: uninvite. -/
import Derived.Test.YtlfbcoohfnoacaaGreatYTwp
import Derived.Test.YtlfbcoohfnoacaaGreatYMp
import Derived.Test.YtlfbcoohfnoacaaGreatYWz
import Derived.Test.YtlfbcoohfnoacaaGreatYUvd
set_option linter.unusedSimpArgs false
set_option linter.unusedVariables false
namespace Go.Proofs.YtlfbcoohfnoacaaGreat
open Go.Fw Go.RowKit
/-- A party with the invitations only of which 'is' is false. -/
def unP (is : Pty → Inv → Bool) (x : PtyP) : PtyP := { x with p := { x.p with inv := x.p.inv.filter fun i => !is x.p i } }
theorem ptys_un (is : Pty → Inv → Bool) (L : List PtyP) : ptys (L.map (unP is)) = uninvM is (ptys L) := by
  unfold ptys uninvM
  rw [List.map_map, List.map_map]; rfl
theorem rowM_un (is : Pty → Inv → Bool) (L : List PtyP) : (L.map (unP is)).map rowM = L.map rowM := by
  rw [List.map_map]; rfl
/-- A function of a party and an invitation. -/
def IsFun (w0 : World) (H : List HP) (fv : Value) (is : Pty → Inv → Bool) : Prop :=
  ∃ g fst cap, fv = .func (.func g) fst cap ∧ ∀ w', Wd w0 H w' → ∀ (x : PtyP) (i : Inv), Ret Tryz.prog g (fst.toList ++ [Value.agg (Flat.enc x).toArray, Value.agg (Flat.enc i).toArray] ++ cap.toList).toArray w' (Out w' (.bool (is x.p i)))
set_option maxRecDepth 100000 in
theorem uninv1_spec (x : PtyP) (i : Inv) (g0 : FuncId) (fst cap : Array Value) (z : Bool) (a1 a2 : Addr) (w : World) (h1 : w.cell? a1 = some (.func (.func g0) fst cap)) (h2 : Rd w (some a2) [x])
    (hp : ∀ w', Ext w w' → Ret Tryz.prog g0 (fst.toList ++ [Value.agg (Flat.enc x).toArray, Value.agg (Flat.enc i).toArray] ++ cap.toList).toArray w' (Out w' (.bool z))) :
    Ret Tryz.prog 96 [.agg (Flat.enc i).toArray, .pointer (some a1), .pointer (some a2)].toArray w (Out w (.bool z)) := by
  refine enterH Tryz.func96 rfl rfl Tryz.ntmps96 rfl (Wd.refl _) ?_
  (repeat' (first | (show VH _ _ _ _ _ _ _; first | refine v_seq ?_ | refine r_seq ?_ | refine v_ret ?_) | (show SH _ _ _ _ _ (_ :: _) _ _ _; first | (show SH _ _ _ _ _ (⟨_, .assign _, _, _, _, _⟩ :: _) _ _ _; refine asg evL ?_) | (show SH _ _ _ _ _ (⟨_, .load _ _, _, _, _, _⟩ :: _) _ _ _; first | refine lba rfl spL (by rfl) ?_ | refine lcell rfl (fun w hw => hw.ext.cell (by assumption)) ?_ | refine lca rfl (fun _ _ => rdP) (by rfl) ?_) | (show SH _ _ _ _ _ (⟨_, .call ⟨.value (.tmp _), _, _⟩, _, _, _, _⟩ :: _) _ _ _; refine cl (callee := .tmp _) rfl (fun w hw => hp _ hw.ext) rfl rfl ?_) | (show SH _ _ _ _ _ (⟨_, .box _ _, _, _, _, _⟩ :: _) _ _ _; refine bxx rfl evL rfl (fun b => ?_))) | refine s_nil ?_ | refine kh_normal ?_))
  exact rh1 rfl rfl ⟨rfl, rfl⟩ (ent_nil _)
set_option maxRecDepth 100000 in
theorem withoutIv_spec (A : Option Addr) (l : List Inv) (cp : Nat) (fv : Value) (p : Inv → Bool) (w0 : World) (H : List HP) (w : World) (hl : l.length ≤ 1000000) (hf : AsksHIv w0 H fv p) (hw : Wd w0 (orow 61 A cp l :: H) w) :
    Ret Tryz.prog 95 [.slice A l.length cp, fv].toArray w (RP w0 fun v H' => v = .slice A (l.filter fun x => !p x).length cp ∧ H' = orow 61 A cp (l.filter fun x => !p x) :: H) := by
  refine enterH Tryz.func95 rfl rfl Tryz.ntmps95 rfl (by assumption) ?_
  (repeat' (first | (show VH _ _ _ _ _ _ _; first | refine v_seq ?_ | refine r_seq ?_) | (show SH _ _ _ _ _ (_ :: _) _ _ _; first | (show SH _ _ _ _ _ (⟨_, .move _, _, _, _, _⟩ :: _) _ _ _; refine mov evL ?_) | (show SH _ _ _ _ _ (⟨_, .assign _, _, _, _, _⟩ :: _) _ _ _; refine asg evL ?_)) | refine s_nil ?_ | refine kh_normal ?_))
  refine cm rfl (fun w hw => deleteFuncIv_spec A l cp fv p w0 H w hl hf hw) rfl rfl ?_
  rintro _ _ ⟨rfl, rfl⟩
  refine ⟨trivial, ?_⟩
  (repeat' (first | refine v_ret ?_ | (show SH _ _ _ _ _ (_ :: _) _ _ _; (show SH _ _ _ _ _ (⟨_, .assign _, _, _, _, _⟩ :: _) _ _ _; refine asg evL ?_)) | refine s_nil ?_ | refine kh_normal ?_))
  exact rh1 rfl rfl ⟨rfl, rfl⟩ (ent_refl _)
set_option maxRecDepth 100000 in
theorem without_spec (A : Option Addr) (l : List Int) (cp : Nat) (fv : Value) (p : Int → Bool) (w0 : World) (H : List HP) (w : World) (hl : l.length ≤ 1000000) (hf : AsksH w0 H fv p) (hw : Wd w0 (orow 3 A cp l :: H) w) :
    Ret Tryz.prog 93 [.slice A l.length cp, fv].toArray w (RP w0 fun v H' => v = .slice A (l.filter fun x => !p x).length cp ∧ H' = orow 3 A cp (l.filter fun x => !p x) :: H) := by
  refine enterH Tryz.func93 rfl rfl Tryz.ntmps93 rfl (by assumption) ?_
  (repeat' (first | (show VH _ _ _ _ _ _ _; first | refine v_seq ?_ | refine r_seq ?_) | (show SH _ _ _ _ _ (_ :: _) _ _ _; first | (show SH _ _ _ _ _ (⟨_, .move _, _, _, _, _⟩ :: _) _ _ _; refine mov evL ?_) | (show SH _ _ _ _ _ (⟨_, .assign _, _, _, _, _⟩ :: _) _ _ _; refine asg evL ?_)) | refine s_nil ?_ | refine kh_normal ?_))
  refine cm rfl (fun w hw => deleteFunc_spec A l cp fv p w0 H w hl hf hw) rfl rfl ?_
  rintro _ _ ⟨rfl, rfl⟩
  refine ⟨trivial, ?_⟩
  (repeat' (first | refine v_ret ?_ | (show SH _ _ _ _ _ (_ :: _) _ _ _; (show SH _ _ _ _ _ (⟨_, .assign _, _, _, _, _⟩ :: _) _ _ _; refine asg evL ?_)) | refine s_nil ?_ | refine kh_normal ?_))
  exact rh1 rfl rfl ⟨rfl, rfl⟩ (ent_refl _)
/-- The hall on the way: k parties are done. -/
def unAt (is : Pty → Inv → Bool) (L : List PtyP) (k : Nat) : List PtyP := (L.take k).map (unP is) ++ L.drop k
theorem unAt_len (is : Pty → Inv → Bool) (L : List PtyP) (k : Nat) : (unAt is L k).length = L.length := by
  unfold unAt
  rw [List.length_append, List.length_map, ← List.length_append, List.take_append_drop]
theorem unAt_at {is : Pty → Inv → Bool} {L : List PtyP} {k : Nat} (hk : k < L.length) : (unAt is L k).getD k Flat.dflt = L.getD k Flat.dflt := by
  have hl : ((L.take k).map (unP is)).length = k := by rw [List.length_map, List.length_take]; omega
  unfold unAt
  rw [List.getD_eq_getElem?_getD, List.getElem?_append_right (by omega), List.getElem?_drop, hl, Nat.sub_self, Nat.add_zero, ← List.getD_eq_getElem?_getD]
theorem unAt_next {is : Pty → Inv → Bool} {L : List PtyP} {k : Nat} (hk : k < L.length) : (unAt is L k).set k (unP is (L.getD k Flat.dflt)) = unAt is L (k + 1) := by
  have hl : ((L.take k).map (unP is)).length = k := by rw [List.length_map, List.length_take]; omega
  unfold unAt
  rw [drop_cons (d := Flat.dflt) hk, List.set_append_right _ _ (by omega), hl, Nat.sub_self, List.set_cons_zero, take_snoc (d := Flat.dflt) hk, List.map_append, List.append_assoc]
  rfl
theorem unAt_all (is : Pty → Inv → Bool) (L : List PtyP) : unAt is L L.length = L.map (unP is) := by
  unfold unAt
  rw [List.take_length, List.drop_length, List.append_nil]
set_option maxHeartbeats 1000000 in
set_option maxRecDepth 100000 in
theorem uninv_spec (t la : Int) (A : Option Addr) (L : List PtyP) (c bh : Nat) (fv : Value) (is : Pty → Inv → Bool) (w0 : World) (H : List HP) (w : World) (hz : SzP L) (hf : IsFun w0 H fv is)
    (hw : Wd w0 (hb36 bh t la A L c :: orow 46 A c L :: allH (L.map rowM) :: allH (L.map rowI) :: H) w) :
    Ret Tryz.prog 55 [.pointer (some ⟨bh, 0, none⟩), fv].toArray w
      (RP w0 fun _ H' => H' = hb36 bh t la A (L.map (unP is)) c :: orow 46 A c (L.map (unP is)) :: allH ((L.map (unP is)).map rowM) :: allH ((L.map (unP is)).map rowI) :: H) := by
  have hll := hz.len
  obtain ⟨g0, fst, cap, rfl, hp⟩ := hf
  rw [rowM_un]
  unfold hb36 at hw ⊢
  rw [List.length_map]
  refine enterH Tryz.func55 rfl rfl Tryz.ntmps55 rfl (by assumption) ?_
  (repeat' (first | (show VH _ _ _ _ _ _ _; first | refine v_seq ?_ | refine r_seq ?_ | refine v_block ?_) | (show SH _ _ _ _ _ (_ :: _) _ _ _; first | (show SH _ _ _ _ _ (⟨_, .move _, _, _, _, _⟩ :: _) _ _ _; refine mov evL ?_) | (show SH _ _ _ _ _ (⟨_, .load _ _, _, _, _, _⟩ :: _) _ _ _; refine lbx rfl spL (by rfl) ?_) | refine slen rfl ?_ | refine nlc rfl ?_ | refine fad rfl ?_ | (show SH _ _ _ _ _ (⟨_, .box _ _, _, _, _, _⟩ :: _) _ _ _; refine bxx rfl evL rfl (fun b => ?_))) | refine s_nil ?_ | refine kh_normal ?_))
  revert b
  intro b3
  refine v_norm [(0,_),(3,_),(9,_),(10,_),(11,_)] heL (fun g => ?_)
  refine v_loop [(4,5),(11,27)] (fun k : Nat => [(11, .int .i64 k)]) (fun k => [bx bh 24 [.int .i64 t, .int .i64 la, .slice A L.length c], orow 46 A c (unAt is L k), allH (L.map rowM), allH ((unAt is L k).map rowI), bx b3 92 [.func (.func g0) fst cap]] ++ H) (fun k => k ≤ L.length) (fun k => L.length - k) 0 hsL enL (Nat.zero_le _) ?_
  rintro k g hk
  simp only [sets, List.cons_append, List.nil_append]
  have hDl := unAt_len is L k
  by_cases hkl : k < L.length
  · have hn := unAt_next (is := is) hkl
    have hxg := unAt_at (is := is) hkl
    have hil := hz.ati hkl
    obtain ⟨x, hx⟩ : ∃ x, L.getD k Flat.dflt = x := ⟨_, rfl⟩
    rw [hx] at hn hxg hil
    have hxE := pty_enc hxg
    clear hx hz
    have hop : ∀ G, Ent (allH ((unAt is L k).map rowI) :: G) (rowI x :: allH (((unAt is L k).eraseIdx k).map rowI) :: G) := fun G => by
      have := ent_all_open (f := rowI) (L := unAt is L k) (k := k) (d := Flat.dflt) (G := G) (by omega)
      rw [hxg] at this
      exact this
    have hcl : ∀ G, Ent (rowI (unP is x) :: allH (((unAt is L k).eraseIdx k).map rowI) :: G) (allH (((unAt is L k).set k (unP is x)).map rowI) :: G) := fun G => ent_all_close (by omega)
    generalize unAt is L k = D at hDl hxE hop hcl hn ⊢
    have hp' := fun w' h => hp w' h x
    clear hxg hp
    unfold unP at hcl hn
    unfold rowI at hop hcl
    obtain ⟨⟨xi, xl, xm, xv⟩, xA, xca, xB, xcb⟩ := x
    simp only at hil hxE hop hcl hn
    (repeat' (first | (show VH _ _ _ _ _ _ _; first | refine v_seq ?_ | refine r_seq ?_ | refine v_block ?_ | refine v_skip ?_ | refine v_cond_t rfl tbL ?_) | (show SH _ _ _ _ _ (_ :: _) _ _ _; first | (show SH _ _ _ _ _ (⟨_, .move _, _, _, _, _⟩ :: _) _ _ _; refine mov evL ?_) | (show SH _ _ _ _ _ (⟨_, .assign _, _, _, _, _⟩ :: _) _ _ _; refine asg evL ?_) | (show SH _ _ _ _ _ (⟨_, .binOp .lss _ _ _ _, _, _, _, _⟩ :: _) _ _ _; refine lssT rfl rfl omD ?_) | (show SH _ _ _ _ _ (⟨_, .load _ _, _, _, _, _⟩ :: _) _ _ _; refine lag rfl (fun _ _ => rdP) (by rfl) omL (by assumption) ?_) | (show SH _ _ _ _ _ (⟨_, .indexAddr _ _ _, _, _, _, _⟩ :: _) _ _ _; refine ix rfl rfl (by with_reducible rfl) (fun _ _ => rdP) (by rfl) omL omL ?_) | refine ala rfl (fun b => ?_) | (show SH _ _ _ _ _ (⟨_, .store _ _ _, _, _, _, _⟩ :: _) _ _ _; refine sta rfl rfl rfl spL (by rfl) (by rfl) (by rfl) kpL ?_)) | refine s_nil ?_ | refine kh_normal ?_))
    revert b
    intro b5
    refine VH.ent (G := bx bh 24 [.int .i64 t, .int .i64 la, .slice A L.length c] :: bx b5 46 [.int .i64 xi, .int .i64 xl, .slice xA xm.length xca, .slice xB xv.length xcb] :: orow 61 xB xcb xv :: allH ((D.eraseIdx k).map rowI) :: bx b3 92 [.func (.func g0) fst cap] :: orow 46 A c D :: allH (L.map rowM) :: H) ?_ ?_
    · refine r_heldT [bx bh 24 _, bx b5 46 _] (tr [(0, true), (1, true), (2, true), (3, true), (4, true), (5, true), (6, true), (7, false), (8, false), (9, false), (10, false), (11, false)] .nil) hmix (by kernel_rfl) enL ?_
      (repeat' ((show SH _ _ _ _ _ (_ :: _) _ _ _; first | (show SH _ _ _ _ _ (⟨_, .move _, _, _, _, _⟩ :: _) _ _ _; refine mov evL ?_) | (show SH _ _ _ _ _ (⟨_, .load _ _, _, _, _, _⟩ :: _) _ _ _; refine lbx rfl spL (by rfl) ?_) | refine nlc rfl ?_ | refine fad rfl ?_ | (show SH _ _ _ _ _ (⟨_, .makeFunc _ _ _, _, _, _, _⟩ :: _) _ _ _; refine mf2 evL evL ?_))))
      refine cm rfl (fun w hw => withoutIv_spec xB xv xcb _ (fun i => is ⟨xi, xl, xm, xv⟩ i) _ (bx bh 24 [.int .i64 t, .int .i64 la, .slice A L.length c] :: bx b5 46 [.int .i64 xi, .int .i64 xl, .slice xA xm.length xca, .slice xB xv.length xcb] :: allH ((D.eraseIdx k).map rowI) :: bx b3 92 [.func (.func g0) fst cap] :: orow 46 A c D :: allH (L.map rowM) :: H) w (by omega) ⟨96, #[], #[.pointer (some ⟨b3, 0, none⟩), .pointer (some ⟨b5, 0, none⟩)], rfl, fun w' hw' i _ => uninv1_spec ⟨⟨xi, xl, xm, xv⟩, xA, xca, xB, xcb⟩ i g0 fst cap _ _ _ w' (hw'.cell (cs := [.func (.func g0) fst cap]) spL rfl) (rd_box hw' (u := (⟨⟨xi, xl, xm, xv⟩, xA, xca, xB, xcb⟩ : PtyP)) spL rfl) (fun w2 he => hp' w2 ((Ent.wd enL hw').step he) i)⟩ (Ent.wd enL hw)) rfl rfl ?_
      rintro _ _ ⟨rfl, rfl⟩
      refine ⟨enL, ?_⟩
      (repeat' ((show SH _ _ _ _ _ (_ :: _) _ _ _; first | (show SH _ _ _ _ _ (⟨_, .indexAddr _ _ _, _, _, _, _⟩ :: _) _ _ _; refine ix rfl rfl (by with_reducible rfl) (fun _ _ => rdP) (by rfl) omL omL ?_) | refine fad rfl ?_)))
      refine stf (⟨⟨xi, xl, xm, xv.filter fun i => !is ⟨xi, xl, xm, xv⟩ i⟩, xA, xca, xB, xcb⟩ : PtyP) rfl rfl rfl spL rfl (by omega) rfl rfl (by decide) (by rw [hxE]; rfl) enL ?_
      rw [hn]
      (repeat' (first | refine r_seq ?_ | (show SH _ _ _ _ _ (_ :: _) _ _ _; first | (show SH _ _ _ _ _ (⟨_, .move _, _, _, _, _⟩ :: _) _ _ _; refine mov evL ?_) | (show SH _ _ _ _ _ (⟨_, .binOp .add _ _ _ _, _, _, _, _⟩ :: _) _ _ _; refine add rfl rfl inL ?_)) | refine s_nil ?_ | refine kh_normal ?_ | refine bh_normal ?_))
      refine ⟨agL, k + 1, hsL, ?_, hkl, by show L.length - (k + 1) < L.length - k; omega⟩
      rw [← hn]
      exact Ent.trans (B := orow 61 xB xcb (xv.filter fun i => !is ⟨xi, xl, xm, xv⟩ i) :: allH ((D.eraseIdx k).map rowI) :: bx bh 24 [.int .i64 t, .int .i64 la, .slice A L.length c] :: orow 46 A c (D.set k ⟨⟨xi, xl, xm, xv.filter fun i => !is ⟨xi, xl, xm, xv⟩ i⟩, xA, xca, xB, xcb⟩) :: allH (L.map rowM) :: bx b3 92 [.func (.func g0) fst cap] :: H) enL ((hcl _).trans enL)
    · exact (show Ent _ (allH (D.map rowI) :: bx b5 46 [.int .i64 xi, .int .i64 xl, .slice xA xm.length xca, .slice xB xv.length xcb] :: bx bh 24 [.int .i64 t, .int .i64 la, .slice A L.length c] :: orow 46 A c D :: allH (L.map rowM) :: bx b3 92 [.func (.func g0) fst cap] :: H) from enL).trans ((hop _).trans enL)
  · have hkE : k = L.length := by omega
    subst hkE
    rw [unAt_all]
    (repeat' (first | (show VH _ _ _ _ _ _ _; first | refine v_seq ?_ | refine r_seq ?_ | refine v_exit ?_ | refine v_cond_f rfl tbL ?_) | (show SH _ _ _ _ _ (_ :: _) _ _ _; (show SH _ _ _ _ _ (⟨_, .binOp .lss _ _ _ _, _, _, _, _⟩ :: _) _ _ _; refine lssF rfl rfl omD ?_)) | refine s_nil ?_ | refine kh_normal ?_ | refine kh_exit ?_ | refine bh_exit ?_))
    exact rh0n rfl rfl enL
end Go.Proofs.YtlfbcoohfnoacaaGreat
