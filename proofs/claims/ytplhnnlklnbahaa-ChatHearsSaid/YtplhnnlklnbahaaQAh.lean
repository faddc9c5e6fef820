/- Layer 37 (chat): the functions of rooms at rooms that are known. -/
import Derived.Test.YtplhnnlklnbahaaQAa
import Derived.Test.YtplhnnlklnbahaaQAb
import Derived.Test.YtplhnnlklnbahaaQAc
import Derived.Test.YtplhnnlklnbahaaQAd
import Derived.Test.YtplhnnlklnbahaaQAe
import Derived.Test.YtplhnnlklnbahaaQAf
import Derived.Test.YtplhnnlklnbahaaQAg
set_option linter.unusedSimpArgs false
set_option linter.unusedVariables false
/- Layer 37 (chat): Hear. -/
namespace Go.Proofs.Ytplhnnlklnbahaa
open Go.Fw Go.RowKit
def hearO (r : Rom) (after : Int) : Option Nat → List Msg
  | none => []
  | some k => hearL r.log (r.ms.getD k mbr0).ign after
theorem hear_eq (r : Rom) (id after : Int) : hearR r id after = (hearO r after (reach37 r id), (memberR r id fun _ => (r, 0)).2) := by
  unfold hearR reach37 memberR
  split
  · split <;> rename_i h <;> simp only [h] <;> rfl
  · rfl
/-- The messages that come out, and an error. -/
def OutHe (r : List Msg × Int) (v : Value) (H' : List HP) : Prop := ∃ B d, v = .tuple #[.slice B r.1.length d, .int .i64 r.2] ∧ H' = [orow 36 B d r.1]
set_option maxHeartbeats 1000000 in
set_option maxRecDepth 100000 in
theorem memberH_spec (t s : Int) (A : Option Addr) (L : List MbrP) (c : Nat) (B : Option Addr) (gl : List Msg) (d : Nat) (id after : Int) (ba bo : Nat) (H : List HP) (w0 w : World) (hz : SzR L gl) (hs : -9223372036854775808 ≤ s) (hr : RdR w0 A L B gl)
    (hw : Wd w0 (bx ba 3 [.int .i64 after] :: bx bo 23 [.slice none 0 0] :: H) w) :
    Ret Try.prog 37 [rv37 t s A L c B gl d, .int .i64 id, .func (.func 38) #[] #[.pointer (some ⟨ba, 0, none⟩), .pointer (some ⟨bo, 0, none⟩)]].toArray w
      (RP w0 fun v H' => ∃ V B2 d2, v = .tuple #[V, .int .i64 (hearR (rom t s L gl) id after).2] ∧ (∃ t1 s1 A1 n1 c1 B1 m1 e1, V = .agg #[.int .i64 t1, .int .i64 s1, .slice A1 n1 c1, .slice B1 m1 e1]) ∧ H' = bx ba 3 [.int .i64 after] :: bx bo 23 [.slice B2 (hearR (rom t s L gl) id after).1.length d2] :: orow 36 B2 d2 (hearR (rom t s L gl) id after).1 :: H) := by
  rw [hear_eq]
  refine (member_spec t s A L c B gl d id 38 #[] #[.pointer (some ⟨ba, 0, none⟩), .pointer (some ⟨bo, 0, none⟩)] (fun _ => (rom t s L gl, 0)) (fun o => HearQ ba bo after (hearO (rom t s L gl) after o)) (allH (hearP ba bo after none 0 [])) H w0 w hz hs hr ⟨none, 0, rfl⟩ (fun k h => absurd rfl h) (fun k _ hk => hear1_spec t s L gl k after ba bo w0 (by have := (findR37_lt hk).1; rwa [mbrs_len] at this)) (Ent.wd (Ent.trans (B := hearP ba bo after none 0 [] ++ H) (ent_cons Split.head (ent_cons Split.head (ent_nilrow (ent_refl _)))) (ent_all_in _)) hw)).mono ?_
  rintro v w' ⟨H', ⟨A1, c1, L1, B1, d1, q, hp, rfl, ⟨B2, d2, rfl⟩, rfl⟩, hw'⟩
  exact ⟨_, ⟨_, B2, d2, rfl, ⟨_, _, _, _, _, _, _, _, rfl⟩, rfl⟩, Ent.wd (Ent.trans (B := allH (hearP ba bo after B2 d2 (hearO (rom t s L gl) after (reach37 (rom t s L gl) id))) :: H) enL (ent_all_out _)) hw'⟩
set_option maxHeartbeats 1000000 in
set_option maxRecDepth 100000 in
theorem hear37_spec (t s : Int) (A : Option Addr) (L : List MbrP) (c : Nat) (B : Option Addr) (gl : List Msg) (d : Nat) (id after : Int) (w : World) (hz : SzR L gl) (hs : -9223372036854775808 ≤ s) (hr : RdR w A L B gl) :
    Ret Try.prog 15 [rv37 t s A L c B gl d, .int .i64 id, .int .i64 after].toArray w (RP w (OutHe (hearR (rom t s L gl) id after))) := by
  have hm := fun (ba bo : Nat) (H : List HP) w2 => memberH_spec t s A L c B gl d id after ba bo H w w2 hz hs hr
  unfold rv37 at hm ⊢
  refine enterH Try.func15 rfl rfl Try.ntmps15 rfl (Wd.refl _) ?_
  (repeat' (first | (show VH _ _ _ _ _ _ _; first | refine v_seq ?_ | refine r_seq ?_) | (show SH _ _ _ _ _ (_ :: _) _ _ _; first | (show SH _ _ _ _ _ (⟨_, .move _, _, _, _, _⟩ :: _) _ _ _; refine mov evL ?_) | (show SH _ _ _ _ _ (⟨_, .assign _, _, _, _, _⟩ :: _) _ _ _; refine asg evL ?_) | (show SH _ _ _ _ _ (⟨_, .load _ _, _, _, _, _⟩ :: _) _ _ _; refine lba rfl spL (by rfl) ?_) | (show SH _ _ _ _ _ (⟨_, .makeFunc _ _ _, _, _, _, _⟩ :: _) _ _ _; refine mf2 evL evL ?_) | refine al1 rfl (fun b => ?_) | (show SH _ _ _ _ _ (⟨_, .box _ _, _, _, _, _⟩ :: _) _ _ _; refine bxx rfl evL rfl (fun b => ?_))) | refine s_nil ?_ | refine kh_normal ?_))
  rename_i b3 b5
  refine cm rfl (fun w2 hw => hm b5 b [bx b3 25 [.int .i64 t, .int .i64 s, .slice A L.length c, .slice B gl.length d]] w2 (Ent.wd enL hw)) rfl rfl ?_
  rintro _ _ ⟨_, B2, d2, rfl, ⟨t1, s1, A1, n1, c1, B1, m1, e1, rfl⟩, rfl⟩
  refine ⟨trivial, ?_⟩
  (repeat' (first | (show VH _ _ _ _ _ _ _; first | refine v_seq ?_ | refine r_seq ?_ | refine v_ret ?_) | (show SH _ _ _ _ _ (_ :: _) _ _ _; first | (show SH _ _ _ _ _ (⟨_, .move _, _, _, _, _⟩ :: _) _ _ _; refine mov evL ?_) | (show SH _ _ _ _ _ (⟨_, .assign _, _, _, _, _⟩ :: _) _ _ _; refine asg evL ?_) | (show SH _ _ _ _ _ (⟨_, .load _ _, _, _, _, _⟩ :: _) _ _ _; refine lbx rfl spL (by rfl) ?_) | refine extr rfl rfl ?_ | refine ala rfl (fun b => ?_) | (show SH _ _ _ _ _ (⟨_, .store _ _ _, _, _, _, _⟩ :: _) _ _ _; refine sta rfl rfl rfl spL (by rfl) (by rfl) (by rfl) kpL ?_)) | refine s_nil ?_ | refine kh_normal ?_))
  exact rh2 rfl rfl rfl ⟨B2, d2, rfl, rfl⟩ enL
end Go.Proofs.Ytplhnnlklnbahaa

/- Layer 37 (chat): matches. -/
namespace Go.Proofs.Ytplhnnlklnbahaa
open Go.Fw Go.RowKit
/-- A filter's value, of which the nodes are known. -/
def FilW (w : World) (fv : Value) (N : List Nod) : Prop := (fv = .pointer none ∧ N = []) ∨ ∃ a B c, fv = .pointer (some a) ∧ w.cell? (a.add 0) = some (.slice B N.length c) ∧ Rd w B N
theorem FilW.ext {w w' : World} {fv : Value} {N : List Nod} (h : FilW w fv N) (he : Ext w w') : FilW w' fv N := by
  rcases h with h | ⟨a, B, c, h1, h2, h3⟩
  · exact .inl h
  · exact .inr ⟨a, B, c, h1, he.cell h2, h3.ext he⟩
set_option maxHeartbeats 2000000 in
set_option maxRecDepth 100000 in
/-- The function that yields the occurrences, whatever is done with them. -/
theorem matches1_spec (l bf bt : Nat) (fv : Value) (N : List Nod) (V : List (List Nat)) (s : List UInt8) (J : Nat → List HP → Prop) (w0 : World) (G0 : List HP) (w : World) (hs : s.length ≤ 1000000) (hNl : N.length ≤ 1000000) (hf : FilW w0 fv N) (hV : N = [] ∨ FilV N V)
    (hY : ∀ i G, i < (matL N s).length → J i G → ∀ X w, Wd w0 (bx bf 46 [fv] :: bx bt 9 [.string (bs s)] :: (G ++ X)) w →
      Yld Try.prog l [.agg (Flat.enc ((matL N s).getD i Flat.dflt)).toArray] w (RP w0 fun v H' => v = .bool true ∧ ∃ G', J (i + 1) G' ∧ H' = bx bf 46 [fv] :: bx bt 9 [.string (bs s)] :: (G' ++ X)))
    (hJ : J 0 G0) (hw : Wd w0 (bx bf 46 [fv] :: bx bt 9 [.string (bs s)] :: G0) w) :
    Ret Try.prog 87 [.func (.yield l) #[] #[], .pointer (some ⟨bf, 0, none⟩), .pointer (some ⟨bt, 0, none⟩)].toArray w
      (RP w0 fun _ H' => ∃ G, J (matL N s).length G ∧ H' = bx bf 46 [fv] :: bx bt 9 [.string (bs s)] :: G) := by
  rcases hf with ⟨rfl, rfl⟩ | ⟨a, B, c, rfl, hc, hr⟩
  · rw [matL_nil]
    clear hY hV
    refine enterH Try.func87 rfl rfl Try.ntmps87 rfl (by assumption) ?_
    (repeat' (first | (show VH _ _ _ _ _ _ _; first | refine v_seq ?_ | refine r_seq ?_ | refine v_ret ?_ | refine v_cond_t rfl tbL ?_) | (show SH _ _ _ _ _ (_ :: _) _ _ _; first | (show SH _ _ _ _ _ (⟨_, _, _, _, _, some _⟩ :: _) _ _ _; (refine gif rfl rfl ?_; refine giFT tbL ?_)) | (show SH _ _ _ _ _ (⟨_, .move _, _, _, _, _⟩ :: _) _ _ _; refine mov evL ?_) | refine peq rfl rfl ?_ | (show SH _ _ _ _ _ (⟨_, .load _ _, _, _, _, _⟩ :: _) _ _ _; refine lbx rfl spL (by rfl) ?_) | (show SH _ _ _ _ _ (⟨_, .pick _ _ _, _, _, _, _⟩ :: _) _ _ _; refine pkt rfl tbL evL ?_)) | refine s_nil ?_ | refine kh_normal ?_ | refine kh_ret ?_))
    exact rh0 rfl ⟨G0, hJ, rfl⟩ enL
  · by_cases hN0 : N.length = 0
    · obtain rfl := List.eq_nil_of_length_eq_zero hN0
      rw [matL_nil]
      clear hY hV hN0
      refine enterH Try.func87 rfl rfl Try.ntmps87 rfl (by assumption) ?_
      (repeat' (first | (show VH _ _ _ _ _ _ _; first | refine v_seq ?_ | refine r_seq ?_ | refine v_ret ?_ | refine v_cond_t rfl tbL ?_) | (show SH _ _ _ _ _ (_ :: _) _ _ _; first | (show SH _ _ _ _ _ (⟨_, _, _, _, _, some _⟩ :: _) _ _ _; (refine gif rfl rfl ?_; refine giFF tbL ?_)) | (show SH _ _ _ _ _ (⟨_, .move _, _, _, _, _⟩ :: _) _ _ _; refine mov evL ?_) | (show SH _ _ _ _ _ (⟨_, .binOp .eql _ _ _ _, _, _, _, _⟩ :: _) _ _ _; first | refine eql rfl rfl ?_ | refine peq rfl rfl ?_) | (show SH _ _ _ _ _ (⟨_, .load _ _, _, _, _, _⟩ :: _) _ _ _; first | refine lbx rfl spL (by rfl) ?_ | refine lcell rfl (fun w hw => hw.ext.cell (by assumption)) ?_) | refine slen rfl ?_ | (show SH _ _ _ _ _ (⟨_, .pick _ _ _, _, _, _, _⟩ :: _) _ _ _; refine pkf rfl tbL evL ?_) | refine nlc rfl ?_ | refine fad rfl ?_) | refine s_nil ?_ | refine kh_normal ?_ | refine kh_ret ?_))
      exact rh0 rfl ⟨G0, hJ, rfl⟩ enL
    · have hV' : FilV N V := hV.resolve_left (fun h => hN0 (by rw [h]; rfl))
      clear hV
      refine enterH Try.func87 rfl rfl Try.ntmps87 rfl (by assumption) ?_
      (repeat' (first | (show VH _ _ _ _ _ _ _; first | refine v_seq ?_ | refine r_seq ?_ | refine v_block ?_ | refine v_skip ?_ | refine v_cond_f rfl tbL ?_) | (show SH _ _ _ _ _ (_ :: _) _ _ _; first | (show SH _ _ _ _ _ (⟨_, _, _, _, _, some _⟩ :: _) _ _ _; (refine gif rfl rfl ?_; refine giFF tbL ?_)) | (show SH _ _ _ _ _ (⟨_, .move _, _, _, _, _⟩ :: _) _ _ _; refine mov evL ?_) | (show SH _ _ _ _ _ (⟨_, .assign _, _, _, _, _⟩ :: _) _ _ _; refine asg evL ?_) | (show SH _ _ _ _ _ (⟨_, .binOp .eql _ _ _ _, _, _, _, _⟩ :: _) _ _ _; first | refine eqlF rfl rfl omD ?_ | refine peq rfl rfl ?_) | (show SH _ _ _ _ _ (⟨_, .load _ _, _, _, _, _⟩ :: _) _ _ _; first | refine lbx rfl spL (by rfl) ?_ | refine lcell rfl (fun w hw => hw.ext.cell (by assumption)) ?_) | (show SH _ _ _ _ _ (⟨_, .call ⟨.builtin _, _, _⟩, _, _, _, _⟩ :: _) _ _ _; first | refine slen rfl ?_ | refine sln rfl ?_) | (show SH _ _ _ _ _ (⟨_, .pick _ _ _, _, _, _, _⟩ :: _) _ _ _; refine pkf rfl tbL evL ?_) | refine nlc rfl ?_ | refine fad rfl ?_) | refine s_nil ?_ | refine kh_normal ?_))
      refine v_norm [(0,_),(1,_),(2,_),(4,_),(19,_),(20,_)] heL (fun g => ?_)
      refine v_loop [(4,7),(20,76)] (fun y : Nat × List HP => [(20, .int .i64 y.1), (4, .int .i32 (stK N s y.1 : Nat))]) (fun y => bx bf 46 [.pointer (some a)] :: bx bt 9 [.string (bs s)] :: y.2) (fun y => y.1 ≤ s.length ∧ J (matK N s y.1).length y.2) (fun y => s.length - y.1) (0, G0) hsL (ent_refl _) ⟨Nat.zero_le _, hJ⟩ ?_
      rintro ⟨i, G⟩ g ⟨hi, hJi⟩
      simp only [sets]
      simp only at hi hJi
      by_cases hil : i < s.length
      · obtain ⟨hk, _⟩ := hV'.at s i
        obtain ⟨hk1, hk2⟩ := hV'.at s (i + 1)
        have hst := stK_succ N hil
        have hF := fun w => fold_spec (s.getD i 0) w
        have hb8 := (foldU (s.getD i 0)).toNat_lt
        obtain ⟨R, hR⟩ := matK_pre N s (show i + 1 ≤ s.length by omega)
        have hR' : matL N s = matK N s (i + 1) ++ R := hR
        have hin : ∀ (D : List Mat) (x : Mat) (E : List Mat), D ++ x :: E = matK N s (i + 1) → D.length < (matL N s).length ∧ (matL N s).getD D.length Flat.dflt = x := fun D x E h => by
          rw [hR', ← h]
          refine ⟨by simp only [List.length_append, List.length_cons]; omega, ?_⟩
          rw [List.append_assoc, List.getD_eq_getElem?_getD, List.getElem?_append_right (Nat.le_refl _), Nat.sub_self]; rfl
        have hsucc := matK_succ N s i
        clear hR hR'
        (repeat' (first | (show VH _ _ _ _ _ _ _; first | refine v_seq ?_ | refine r_seq ?_ | refine r_quiet hmix (by kernel_rfl) ?_ | refine v_block ?_ | refine v_skip ?_ | refine v_cond_t rfl tbL ?_) | (show SH _ _ _ _ _ (_ :: _) _ _ _; first | (show SH _ _ _ _ _ (⟨_, .move _, _, _, _, _⟩ :: _) _ _ _; refine mov evL ?_) | (show SH _ _ _ _ _ (⟨_, .assign _, _, _, _, _⟩ :: _) _ _ _; refine asg evL ?_) | (show SH _ _ _ _ _ (⟨_, .binOp .lss _ _ _ _, _, _, _, _⟩ :: _) _ _ _; refine lssT rfl rfl omD ?_) | (show SH _ _ _ _ _ (⟨_, .load _ _, _, _, _, _⟩ :: _) _ _ _; first | refine lbx rfl spL (by rfl) ?_ | refine lcell rfl (fun w hw => hw.ext.cell (by assumption)) ?_) | (show SH _ _ _ _ _ (⟨_, .indexAddr _ _ _, _, _, _, _⟩ :: _) _ _ _; first | refine ix rfl rfl (by with_reducible rfl) (fun _ _ => rdS) (by rfl) omL omL ?_ | refine ixA _ rfl rfl rfl omL ?_) | (show SH _ _ _ _ _ (⟨_, .index _ _ _, _, _, _, _⟩ :: _) _ _ _; refine six rfl rfl (by with_reducible rfl) omL ?_) | (show SH _ _ _ _ _ (⟨_, .call ⟨.value (.func 86), _, _⟩, _, _, _, _⟩ :: _) _ _ _; refine cl (callee := .func 86) rfl (fun w hw => hF w) rfl rfl ?_) | refine nlc rfl ?_ | refine fad rfl ?_) | refine s_nil ?_ | refine kh_normal ?_))
        refine ldn (N := N) (A := B) (k := stK N s i) (b := (foldU (s.getD i 0)).toNat) rfl (fun w hw => hr.ext hw.ext) hk (by omega) ?_
        rw [← hst]
        clear hst hF hb8 hk
        (repeat' (first | (show VH _ _ _ _ _ _ _; first | refine v_seq ?_ | refine r_seq ?_ | refine v_block ?_) | (show SH _ _ _ _ _ (_ :: _) _ _ _; first | (show SH _ _ _ _ _ (⟨_, .move _, _, _, _, _⟩ :: _) _ _ _; refine mov evL ?_) | (show SH _ _ _ _ _ (⟨_, .assign _, _, _, _, _⟩ :: _) _ _ _; refine asg evL ?_)) | refine s_nil ?_ | refine kh_normal ?_))
        refine v_normS [(4,7),(20,76)] _ agL [(4,_),(5,_),(6,_),(20,_)] heL (fun g => ?_)
        refine v_loop [(6,7),(37,75)] (fun y : Nat × List Mat × List HP => [(6, .int .i32 (y.1 : Nat))]) (fun y => bx bf 46 [.pointer (some a)] :: bx bt 9 [.string (bs s)] :: y.2.2) (fun y => y.1 < N.length ∧ (nodA N y.1).size ≤ i + 1 ∧ y.2.1 ++ emK N i y.1 = matK N s (i + 1) ∧ J y.2.1.length y.2.2) (fun y => (nodA N y.1).size) (stK N s (i + 1), matK N s i, G) hsL (ent_refl _) ⟨hk1, hk2, hsucc.symm, hJi⟩ ?_
        rintro ⟨k, D, G1⟩ g2 ⟨hkN, hks, hD, hJ1⟩
        simp only [sets]
        simp only at hkN hks hD hJ1
        by_cases hk0 : k = 0
        · subst hk0
          rw [emK_zero, List.append_nil] at hD
          subst hD
          (repeat' (first | (show VH _ _ _ _ _ _ _; first | refine v_seq ?_ | refine r_seq ?_ | refine v_exit ?_ | refine v_cond_f rfl tbL ?_) | (show SH _ _ _ _ _ (_ :: _) _ _ _; first | (show SH _ _ _ _ _ (⟨_, .move _, _, _, _, _⟩ :: _) _ _ _; refine mov evL ?_) | (show SH _ _ _ _ _ (⟨_, .binOp .gtr _ _ _ _, _, _, _, _⟩ :: _) _ _ _; refine gtrF rfl rfl omD ?_) | (show SH _ _ _ _ _ (⟨_, .binOp .add _ _ _ _, _, _, _, _⟩ :: _) _ _ _; refine add rfl rfl inL ?_)) | refine s_nil ?_ | refine kh_normal ?_ | refine kh_exit ?_ | refine bh_normal ?_ | refine bh_exit ?_))
          exact ⟨agL, (i + 1, G1), hsL, enL, ⟨hil, hJ1⟩, by show s.length - (i + 1) < s.length - i; omega⟩
        · obtain ⟨hs1, hs2, _⟩ := hV'.step hkN hk0
          obtain ⟨hw1, hw2⟩ := hV'.num hkN
          have hem := hV'.em (i := i) hkN hk0
          have hpos : (0 : Int) < (k : Int) := by omega
          by_cases hwd : 0 < (nodA N k).word
          · rw [if_pos hwd] at hem
            have hsz : (N.getD k Flat.dflt).size ≤ 20 := hw2 hwd
            have hww : (N.getD k Flat.dflt).word ≤ 100 := hw1
            have hwp : 0 < (N.getD k Flat.dflt).word := hwd
            have hwi : (0 : Int) < ((N.getD k Flat.dflt).word : Int) := by omega
            have hks' : (N.getD k Flat.dflt).size ≤ i + 1 := hks
            obtain ⟨hin1, hin2⟩ := hin D _ _ (hem ▸ hD)
            have hyy := hY D.length G1 hin1 hJ1
            rw [hin2] at hyy
            have hD2 := hD
            rw [hem, ← List.append_assoc] at hD2
            rw [show ((i + 1 : Nat) : Int) - ((nodA N k).size : Nat) = (i : Int) + 1 - ((N.getD k Flat.dflt).size : Nat) from rfl, show (((nodA N k).word - 1 : Nat) : Int) = ((N.getD k Flat.dflt).word : Int) - 1 by show (((N.getD k Flat.dflt).word - 1 : Nat) : Int) = _; omega] at hyy hD2
            clear hw2 hwd hw1 hks hin hin1 hin2 hY
            (repeat' (first | (show VH _ _ _ _ _ _ _; first | refine v_seq ?_ | refine r_seq ?_ | refine v_block ?_ | refine v_skip ?_ | refine v_cond_t rfl tbL ?_) | (show SH _ _ _ _ _ (_ :: _) _ _ _; first | (show SH _ _ _ _ _ (⟨_, _, _, _, _, some _⟩ :: _) _ _ _; (refine gif rfl rfl ?_; refine giTT tbL ?_)) | (show SH _ _ _ _ _ (⟨_, .move _, _, _, _, _⟩ :: _) _ _ _; refine mov evL ?_) | (show SH _ _ _ _ _ (⟨_, .binOp .gtr _ _ _ _, _, _, _, _⟩ :: _) _ _ _; refine gtrT rfl rfl omD ?_) | (show SH _ _ _ _ _ (⟨_, .binOp .add _ _ _ _, _, _, _, _⟩ :: _) _ _ _; refine add rfl rfl inL ?_) | (show SH _ _ _ _ _ (⟨_, .binOp .sub _ _ _ _, _, _, _, _⟩ :: _) _ _ _; refine sub rfl rfl inL ?_) | (show SH _ _ _ _ _ (⟨_, .load _ _, _, _, _, _⟩ :: _) _ _ _; first | refine lbx rfl spL (by rfl) ?_ | refine lra rfl (fun _ _ => rdS) (by rfl) omL ?_ | refine lcell rfl (fun w hw => hw.ext.cell (by assumption)) ?_ | refine lra rfl (fun _ _ => rdS) (by rfl) (by simp only [List.length_cons, List.length_nil]; omega) ?_) | (show SH _ _ _ _ _ (⟨_, .indexAddr _ _ _, _, _, _, _⟩ :: _) _ _ _; refine ix rfl rfl (by with_reducible rfl) (fun _ _ => rdS) (by rfl) omL omL ?_) | refine nlc rfl ?_ | refine fad rfl ?_ | (show SH _ _ _ _ _ (⟨_, .convert _ _ _, _, _, _, _⟩ :: _) _ _ _; refine c64 rfl inL ?_) | refine bld rfl rfl ?_ | refine ala rfl (fun b => ?_) | (show SH _ _ _ _ _ (⟨_, .store _ _ _, _, _, _, _⟩ :: _) _ _ _; refine sta rfl rfl rfl spL (by rfl) (by rfl) (by rfl) kpL ?_)) | refine s_nil ?_ | refine kh_normal ?_))
            refine cy (fun w hw => hyy [_] w (Ent.wd (ent_swap [_] (_ :: _ :: G1)) hw)) rfl rfl ?_
            rintro _ _ ⟨rfl, G', hJ', rfl⟩
            (repeat' (first | (show VH _ _ _ _ _ _ _; first | refine r_seq ?_ | refine v_skip ?_ | refine v_cond_f rfl tbL ?_) | (show SH _ _ _ _ _ (_ :: _) _ _ _; first | (show SH _ _ _ _ _ (⟨_, _, _, _, _, some _⟩ :: _) _ _ _; (refine gif rfl rfl ?_; refine giTT tbL ?_)) | (show SH _ _ _ _ _ (⟨_, .move _, _, _, _, _⟩ :: _) _ _ _; refine mov evL ?_) | (show SH _ _ _ _ _ (⟨_, .assign _, _, _, _, _⟩ :: _) _ _ _; refine asg evL ?_) | (show SH _ _ _ _ _ (⟨_, .load _ _, _, _, _, _⟩ :: _) _ _ _; first | refine lbx rfl spL (by rfl) ?_ | refine lrf rfl (fun _ _ => rdS) (by rfl) omL (by rfl) ?_ | refine lcell rfl (fun w hw => hw.ext.cell (by assumption)) ?_ | refine lrf rfl (fun _ _ => rdS) (by rfl) (by simp only [List.length_cons, List.length_nil]; omega) (by rfl) ?_) | (show SH _ _ _ _ _ (⟨_, .indexAddr _ _ _, _, _, _, _⟩ :: _) _ _ _; refine ix rfl rfl (by with_reducible rfl) (fun _ _ => rdS) (by rfl) omL omL ?_) | refine bnoT rfl ?_ | (show SH _ _ _ _ _ (⟨_, .pick _ _ _, _, _, _, _⟩ :: _) _ _ _; refine pkt rfl tbL evL ?_) | refine nlc rfl ?_ | refine fad rfl ?_) | refine s_nil ?_ | refine kh_normal ?_ | refine bh_normal ?_))
            exact ⟨agL, ((nodA N k).stop, D ++ [⟨(i : Int) + 1 - ((N.getD k Flat.dflt).size : Nat), ((N.getD k Flat.dflt).size : Nat), ((N.getD k Flat.dflt).word : Int) - 1⟩], G'), hsL, (ent_swap (_ :: _ :: G') [_]).trans (ent_drop (ent_refl _)), ⟨hs1, by show (nodA N (nodA N k).stop).size ≤ i + 1; have : (nodA N k).size ≤ i + 1 := hks'; omega, hD2, by simp only [List.length_append, List.length_singleton]; exact hJ'⟩, hs2⟩
          · have hwi : ¬ (0 : Int) < ((nodA N k).word : Int) := by omega
            rw [if_neg hwd, List.nil_append] at hem
            clear hw2 hwd
            (repeat' (first | (show VH _ _ _ _ _ _ _; first | refine v_seq ?_ | refine r_seq ?_ | refine v_block ?_ | refine v_skip ?_ | refine v_cond_t rfl tbL ?_ | refine v_cond_f rfl tbL ?_) | (show SH _ _ _ _ _ (_ :: _) _ _ _; first | (show SH _ _ _ _ _ (⟨_, _, _, _, _, some _⟩ :: _) _ _ _; (refine gif rfl rfl ?_; refine giTF tbL ?_)) | (show SH _ _ _ _ _ (⟨_, .move _, _, _, _, _⟩ :: _) _ _ _; refine mov evL ?_) | (show SH _ _ _ _ _ (⟨_, .assign _, _, _, _, _⟩ :: _) _ _ _; refine asg evL ?_) | (show SH _ _ _ _ _ (⟨_, .binOp .gtr _ _ _ _, _, _, _, _⟩ :: _) _ _ _; first | refine gtrT rfl rfl omD ?_ | refine gtrF rfl rfl omD ?_) | (show SH _ _ _ _ _ (⟨_, .load _ _, _, _, _, _⟩ :: _) _ _ _; first | refine lbx rfl spL (by rfl) ?_ | refine lra rfl (fun _ _ => rdS) (by rfl) omL ?_ | refine lrf rfl (fun _ _ => rdS) (by rfl) omL (by rfl) ?_ | refine lcell rfl (fun w hw => hw.ext.cell (by assumption)) ?_ | refine lrf rfl (fun _ _ => rdS) (by rfl) (by simp only [List.length_cons, List.length_nil]; omega) (by rfl) ?_ | refine lra rfl (fun _ _ => rdS) (by rfl) (by simp only [List.length_cons, List.length_nil]; omega) ?_) | (show SH _ _ _ _ _ (⟨_, .indexAddr _ _ _, _, _, _, _⟩ :: _) _ _ _; refine ix rfl rfl (by with_reducible rfl) (fun _ _ => rdS) (by rfl) omL omL ?_) | (show SH _ _ _ _ _ (⟨_, .pick _ _ _, _, _, _, _⟩ :: _) _ _ _; refine pkf rfl tbL evL ?_) | refine nlc rfl ?_ | refine fad rfl ?_ | refine ala rfl (fun b => ?_) | (show SH _ _ _ _ _ (⟨_, .store _ _ _, _, _, _, _⟩ :: _) _ _ _; refine sta rfl rfl rfl spL (by rfl) (by rfl) (by rfl) kpL ?_)) | refine s_nil ?_ | refine kh_normal ?_ | refine bh_normal ?_))
            exact ⟨agL, ((nodA N k).stop, D, G1), hsL, enL, ⟨hs1, by show (nodA N (nodA N k).stop).size ≤ i + 1; omega, by rw [← hem]; exact hD, hJ1⟩, hs2⟩
      · obtain rfl : i = s.length := by omega
        (repeat' (first | (show VH _ _ _ _ _ _ _; first | refine v_seq ?_ | refine r_seq ?_ | refine v_exit ?_ | refine v_cond_f rfl tbL ?_) | (show SH _ _ _ _ _ (_ :: _) _ _ _; (show SH _ _ _ _ _ (⟨_, .binOp .lss _ _ _ _, _, _, _, _⟩ :: _) _ _ _; refine lssF rfl rfl omD ?_)) | refine s_nil ?_ | refine kh_normal ?_ | refine kh_exit ?_ | refine bh_exit ?_))
        exact rh0n rfl ⟨G, hJi, rfl⟩ enL
end Go.Proofs.Ytplhnnlklnbahaa

/- Layer 37 (chat): Find, Mask. -/
namespace Go.Proofs.Ytplhnnlklnbahaa
open Go.Fw Go.RowKit
instance : TOne Try.prog 62 (.slice none 0 0) := ⟨fun w => by kernel_rfl, fun w => by kernel_rfl, fun w => by kernel_rfl, rfl⟩
theorem emK_len {N : List Nod} {V : List (List Nat)} (h : FilV N V) (i : Nat) : ∀ n k, k < N.length → (nodA N k).size ≤ n → (emK N i k).length ≤ n := by
  intro n
  induction n with
  | zero =>
    intro k hk hn
    by_cases h0 : k = 0
    · subst h0; rw [emK_zero]; exact Nat.le_refl _
    · have := (h.step hk h0).2.1; omega
  | succ n ih =>
    intro k hk hn
    by_cases h0 : k = 0
    · subst h0; rw [emK_zero]; exact Nat.zero_le _
    · obtain ⟨h1, h2, _⟩ := h.step hk h0
      rw [h.em hk h0, List.length_append]
      have := ih _ h1 (by omega)
      split <;> simp only [List.length_singleton, List.length_nil] <;> omega
theorem matK_len {N : List Nod} {V : List (List Nat)} (h : FilV N V) (s : List UInt8) : ∀ i, i ≤ s.length → (matK N s i).length ≤ i * s.length
  | 0, _ => Nat.zero_le _
  | i + 1, hi => by
    have ih := matK_len h s i (by omega)
    obtain ⟨h1, h2⟩ := h.at s (i + 1)
    have := emK_len h i (i + 1) _ h1 h2
    rw [matK_succ, List.length_append, Nat.succ_mul]
    omega
theorem matL_len {N : List Nod} {V : List (List Nat)} (h : N = [] ∨ FilV N V) {s : List UInt8} (hs : s.length ≤ 1000000) : (matL N s).length ≤ 1000000000000 := by
  rcases h with rfl | h
  · rw [matL_nil]; exact Nat.zero_le _
  · exact Nat.le_trans (matK_len h s _ (Nat.le_refl _)) (Nat.le_trans (Nat.mul_le_mul hs hs) (by omega))
theorem mat_enc (x : Mat) : Flat.enc x = [.int .i64 x.at', .int .i64 x.len, .int .i64 x.word] := rfl
set_option maxHeartbeats 2000000 in
set_option maxRecDepth 100000 in
theorem appendSeq37_spec (bf bt : Nat) (fv : Value) (N : List Nod) (V : List (List Nat)) (s : List UInt8) (w0 w : World) (hs : s.length ≤ 1000000) (hNl : N.length ≤ 1000000) (hf : FilW w0 fv N) (hV : N = [] ∨ FilV N V)
    (hw : Wd w0 [bx bf 46 [fv], bx bt 9 [.string (bs s)]] w) :
    Ret Try.prog 88 [.slice none 0 0, .func (.func 87) #[] #[.pointer (some ⟨bf, 0, none⟩), .pointer (some ⟨bt, 0, none⟩)]].toArray w
      (RP w0 fun v H' => ∃ A c, v = .slice A (matL N s).length c ∧ H' = [orow 53 A c (matL N s)]) := by
  have hlen := matL_len hV hs
  refine enterH Try.func88 rfl rfl Try.ntmps88 rfl (by assumption) ?_
  (repeat' (first | (show VH _ _ _ _ _ _ _; first | refine v_seq ?_ | refine r_seq ?_ | refine v_block ?_) | (show SH _ _ _ _ _ (_ :: _) _ _ _; first | (show SH _ _ _ _ _ (⟨_, .move _, _, _, _, _⟩ :: _) _ _ _; refine mov evL ?_) | (show SH _ _ _ _ _ (⟨_, .assign _, _, _, _, _⟩ :: _) _ _ _; refine asg evL ?_) | (show SH _ _ _ _ _ (⟨_, .box _ _, _, _, _, _⟩ :: _) _ _ _; refine bxx rfl evL rfl (fun b => ?_))) | refine s_nil ?_ | refine kh_normal ?_))
  refine VH.ent (G := [bx bf 46 [fv], bx bt 9 [.string (bs s)], bx b 50 [.slice none 0 0]]) ?_ enL
  refine v_range (lb := [.pointer (some ⟨bf, 0, none⟩), .pointer (some ⟨bt, 0, none⟩)]) rfl rfl ?_
  intro fn l D mk hmk w1 hw1
  have key := matches1_spec l bf bt fv N V s (fun i G => ∃ A c, G = [lp l mk .ready none, dfr D, bx b 50 [.slice A ((matL N s).take i).length c], orow 53 A c ((matL N s).take i)]) w0 _ w1 hs hNl hf hV ?hY ⟨none, 0, by rw [List.take_zero]; rfl⟩ (Ent.wd (ent_cons (Split.tail (Split.tail Split.head)) (ent_cons (Split.tail (Split.tail Split.head)) (ent_cons Split.head (ent_cons Split.head (ent_cons Split.head (ent_nilrow (ent_nil _))))))) hw1)
  case hY =>
    rintro i _ hi ⟨A, c, rfl⟩ X w2 hw2
    simp only [List.cons_append, List.nil_append] at hw2 ⊢
    have hnext := take_snoc (d := (Flat.dflt : Mat)) hi
    have htl : ((matL N s).take i).length = i := by rw [List.length_take]; omega
    generalize (matL N s).getD i Flat.dflt = x at hnext ⊢
    rw [hnext]
    generalize hM : (matL N s).take i = M at htl hw2 ⊢
    clear hM hnext
    have hil : i < 1000000000000 := by omega
    rw [mat_enc]
    refine yld_of (ps := [7]) hmk rfl spL ?_ hw2
    (repeat' (first | refine r_seq ?_ | (show SH _ _ _ _ _ (_ :: _) _ _ _; first | refine ala rfl (fun b => ?_) | (show SH _ _ _ _ _ (⟨_, .store _ _ _, _, _, _, _⟩ :: _) _ _ _; refine sta rfl rfl rfl spL (by rfl) (by rfl) (by rfl) kpL ?_)) | refine s_nil ?_ | refine kh_normal ?_))
    refine ⟨_, spL, ?_⟩
    (repeat' (first | (show VH _ _ _ _ _ _ _; first | refine r_seq ?_ | refine v_block ?_) | (show SH _ _ _ _ _ (_ :: _) _ _ _; (show SH _ _ _ _ _ (⟨_, .load _ _, _, _, _, _⟩ :: _) _ _ _; first | refine lbx rfl spL (by rfl) ?_ | refine lba rfl spL (by rfl) ?_))))
    refine bsl (l := [x]) rfl rfl (Vals.cons rfl Vals.nil) rfl rfl (by decide) (fun b9 => ?_)
    (repeat' (first | (show VH _ _ _ _ _ _ _; first | refine v_seq ?_ | refine r_seq ?_ | refine r_quiet hmix (by kernel_rfl) ?_ | refine v_block ?_ | refine v_ret ?_ | refine v_skip ?_ | refine v_exit ?_ | refine v_label ?_ | refine v_cond_t rfl tbL ?_ | refine v_cond_f rfl tbL ?_ | refine v_cond_dec rfl (fun h => ?_) (fun h => ?_) | refine v_cond_ndec rfl (fun h => ?_) (fun h => ?_) | refine v_cond rfl (fun h => ?_) (fun h => ?_)) | (show SH _ _ _ _ _ (_ :: _) _ _ _; first | (show SH _ _ _ _ _ (⟨_, .move _, _, _, _, _⟩ :: _) _ _ _; refine mov evL ?_) | (show SH _ _ _ _ _ (⟨_, .assign _, _, _, _, _⟩ :: _) _ _ _; refine asg evL ?_) | (show SH _ _ _ _ _ (⟨_, .load _ _, _, _, _, _⟩ :: _) _ _ _; first | refine lbx rfl spL (by rfl) ?_ | refine lba rfl spL (by rfl) ?_ | refine lbs rfl spL (by rfl) (by rfl) ?_ | refine lgi rfl (fun _ _ => rdS) omL (by assumption) ?_ | refine lag rfl (fun _ _ => rdS) (by rfl) omL (by assumption) ?_ | refine lrg rfl (fun _ _ => rdS) (by rfl) omL (by assumption) (by rfl) ?_ | refine lin rfl (fun _ _ => rdS) omL ?_ | refine lbi rfl spL omL ?_ | refine lr1 rfl (fun _ _ => rdS) (by rfl) omL (by rfl) ?_ | refine lra rfl (fun _ _ => rdS) (by rfl) omL ?_ | refine lrf rfl (fun _ _ => rdS) (by rfl) omL (by rfl) ?_ | refine lcell rfl (fun w hw => hw.ext.cell (by assumption)) ?_ | refine lrs rfl (fun _ _ => rdS) (by rfl) omL (by rfl) (by rfl) ?_ | refine lca rfl (fun _ _ => rdS) (by rfl) ?_ | refine lcs rfl (fun _ _ => rdS) (by rfl) ?_ | refine lcf rfl (fun _ _ => rdS) (by rfl) ?_ | refine lrf rfl (fun _ _ => rdS) (by rfl) (by simp only [List.length_cons, List.length_nil]; omega) (by rfl) ?_ | refine lra rfl (fun _ _ => rdS) (by rfl) (by simp only [List.length_cons, List.length_nil]; omega) ?_) | (show SH _ _ _ _ _ (⟨_, .alloc _, _, _, _, _⟩ :: _) _ _ _; first | refine al1 rfl (fun b => ?_) | refine ala rfl (fun b => ?_)) | (show SH _ _ _ _ _ (⟨_, .box _ _, _, _, _, _⟩ :: _) _ _ _; refine bxx rfl evL rfl (fun b => ?_)) | (show SH _ _ _ _ _ (⟨_, .store _ _ _, _, _, _, _⟩ :: _) _ _ _; first | refine stb rfl rfl evL spL rfl rfl (by first | decide | exact Nat.zero_lt_succ _ | exact of_decide_eq_true rfl) kpL ?_ | refine sta rfl rfl rfl spL (by rfl) (by rfl) (by rfl) kpL ?_ | refine sti rfl rfl rfl spL omL kpL ?_ | refine sbi rfl rfl rfl spL omL kpL ?_ | refine sbs rfl rfl evL spL (by rfl) (by rfl) (of_decide_eq_true rfl) kpL ?_) | (show SH _ _ _ _ _ (⟨_, .buildSlice _ _ _, _, _, _, _⟩ :: _) _ _ _; refine bsl (α := Int) rfl rfl (by repeat (first | exact Vals.nil | (apply Vals.cons; rfl))) rfl (by rfl) (by decide) (fun b => ?_))) | refine s_nil ?_ | refine s_fork ?_ ?_ | refine s_fork3 ?_ ?_ ?_ | refine s_fork4 ?_ ?_ ?_ ?_ | refine kh_normal ?_ | refine kh_ret ?_ | refine kh_exit ?_ | refine bh_normal ?_ | refine bh_ret ?_ | refine bh_exit ?_ | refine bh_exit_ne rfl ?_))
    refine app (l := M) (l2 := [x]) rfl rfl rfl spL (fun w hw => hw.rd spL) rfl rfl rfl (by simp only [List.length_singleton]; omega) (by simp only [List.length_singleton]; omega) (fun A4 c4 => ⟨enL, ?_⟩)
    (repeat' (first | (show SH _ _ _ _ _ (_ :: _) _ _ _; (show SH _ _ _ _ _ (⟨_, .store _ _ _, _, _, _, _⟩ :: _) _ _ _; refine stb rfl rfl evL spL rfl rfl (by first | decide | exact Nat.zero_lt_succ _ | exact of_decide_eq_true rfl) kpL ?_)) | refine s_nil ?_ | refine bh_normal ?_))
    exact ro_normal spL ⟨rfl, _, ⟨A4, c4, rfl⟩, rfl⟩ enL
  refine key.mono fun v w3 ⟨H3, ⟨G, ⟨A, c, hG⟩, hH⟩, hw3⟩ => ⟨_, ⟨.ready, none, bx bf 46 [fv] :: bx bt 9 [.string (bs s)] :: G.tail, ?_, by simp, ?_⟩, hw3⟩
  · rw [hH, hG]; exact spL
  rw [hG, List.take_length]
  simp only [List.tail_cons]
  (repeat' (first | (show VH _ _ _ _ _ _ _; first | refine v_seq ?_ | refine r_seq ?_ | refine v_ret ?_) | (show SH _ _ _ _ _ (_ :: _) _ _ _; first | (show SH _ _ _ _ _ (⟨_, .assign _, _, _, _, _⟩ :: _) _ _ _; refine asg evL ?_) | (show SH _ _ _ _ _ (⟨_, .load _ _, _, _, _, _⟩ :: _) _ _ _; refine lbx rfl spL (by rfl) ?_)) | refine s_nil ?_ | refine kh_normal ?_ | refine bh_normal ?_))
  refine rh_mark rfl spL ?_
  exact rh1 rfl rfl ⟨A, c, rfl, rfl⟩ enL
set_option maxRecDepth 100000 in
theorem collect37_spec (bf bt : Nat) (fv : Value) (N : List Nod) (V : List (List Nat)) (s : List UInt8) (w0 w : World) (hs : s.length ≤ 1000000) (hNl : N.length ≤ 1000000) (hf : FilW w0 fv N) (hV : N = [] ∨ FilV N V)
    (hw : Wd w0 [bx bf 46 [fv], bx bt 9 [.string (bs s)]] w) :
    Ret Try.prog 60 [.func (.func 87) #[] #[.pointer (some ⟨bf, 0, none⟩), .pointer (some ⟨bt, 0, none⟩)]].toArray w
      (RP w0 fun v H' => ∃ A c, v = .slice A (matL N s).length c ∧ H' = [orow 53 A c (matL N s)]) := by
  refine enterH Try.func60 rfl rfl Try.ntmps60 rfl (by assumption) ?_
  (repeat' (first | (show VH _ _ _ _ _ _ _; first | refine v_seq ?_ | refine r_seq ?_) | (show SH _ _ _ _ _ (_ :: _) _ _ _; first | (show SH _ _ _ _ _ (⟨_, .move _, _, _, _, _⟩ :: _) _ _ _; refine mov evL ?_) | (show SH _ _ _ _ _ (⟨_, .assign _, _, _, _, _⟩ :: _) _ _ _; refine asg evL ?_)) | refine s_nil ?_ | refine kh_normal ?_))
  refine cm rfl (fun w hw => appendSeq37_spec bf bt fv N V s w0 w hs hNl hf hV (Ent.wd enL hw)) rfl rfl ?_
  rintro _ _ ⟨A, c, rfl, rfl⟩
  refine ⟨trivial, ?_⟩
  (repeat' (first | refine v_ret ?_ | (show SH _ _ _ _ _ (_ :: _) _ _ _; (show SH _ _ _ _ _ (⟨_, .assign _, _, _, _, _⟩ :: _) _ _ _; refine asg evL ?_)) | refine s_nil ?_ | refine kh_normal ?_))
  exact rh1 rfl rfl ⟨A, c, rfl, rfl⟩ enL
set_option maxRecDepth 100000 in
theorem matches_spec (p : Option Addr) (s : List UInt8) (w : World) : Ret Try.prog 59 [.pointer p, .string (bs s)].toArray w (RP w fun v H' => ∃ bf bt, v = .func (.func 87) #[] #[.pointer (some ⟨bf, 0, none⟩), .pointer (some ⟨bt, 0, none⟩)] ∧ H' = [bx bf 46 [.pointer p], bx bt 9 [.string (bs s)]]) := by
  refine enterH Try.func59 rfl rfl Try.ntmps59 rfl (Wd.refl _) ?_
  (repeat' (first | (show VH _ _ _ _ _ _ _; first | refine v_seq ?_ | refine r_seq ?_ | refine v_ret ?_) | (show SH _ _ _ _ _ (_ :: _) _ _ _; first | (show SH _ _ _ _ _ (⟨_, .assign _, _, _, _, _⟩ :: _) _ _ _; refine asg evL ?_) | (show SH _ _ _ _ _ (⟨_, .makeFunc _ _ _, _, _, _, _⟩ :: _) _ _ _; refine mf2 evL evL ?_) | (show SH _ _ _ _ _ (⟨_, .box _ _, _, _, _, _⟩ :: _) _ _ _; refine bxx rfl evL rfl (fun b => ?_))) | refine s_nil ?_ | refine kh_normal ?_))
  exact rh1 rfl rfl ⟨_, _, rfl, rfl⟩ enL
theorem FilW.ptr {w : World} {fv : Value} {N : List Nod} (h : FilW w fv N) : ∃ p, fv = .pointer p := by
  rcases h with ⟨h, _⟩ | ⟨a, _, _, h, _⟩
  · exact ⟨_, h⟩
  · exact ⟨_, h⟩
set_option maxRecDepth 100000 in
theorem find37F_spec (fv : Value) (N : List Nod) (V : List (List Nat)) (s : List UInt8) (w : World) (hs : s.length ≤ 1000000) (hNl : N.length ≤ 1000000) (hf : FilW w fv N) (hV : N = [] ∨ FilV N V) :
    Ret Try.prog 25 [fv, .string (bs s)].toArray w (RP w fun v H' => ∃ A c, v = .slice A (matL N s).length c ∧ H' = [orow 53 A c (matL N s)]) := by
  have hc := fun (bf bt : Nat) w2 => collect37_spec bf bt fv N V s w w2 hs hNl hf hV
  obtain ⟨p, rfl⟩ := hf.ptr
  have hm := fun w => matches_spec p s w
  refine enterH Try.func25 rfl rfl Try.ntmps25 rfl (Wd.refl _) ?_
  (repeat' (first | (show VH _ _ _ _ _ _ _; first | refine v_seq ?_ | refine r_seq ?_) | (show SH _ _ _ _ _ (_ :: _) _ _ _; first | (show SH _ _ _ _ _ (⟨_, .move _, _, _, _, _⟩ :: _) _ _ _; refine mov evL ?_) | (show SH _ _ _ _ _ (⟨_, .assign _, _, _, _, _⟩ :: _) _ _ _; refine asg evL ?_) | (show SH _ _ _ _ _ (⟨_, .call ⟨.value (.func 59), _, _⟩, _, _, _, _⟩ :: _) _ _ _; refine cp (callee := .func 59) rfl (fun w hw => hm w) rfl rfl ?_)) | refine s_nil ?_ | refine kh_normal ?_))
  rintro _ _ ⟨bf, bt, rfl, rfl⟩
  (repeat' (first | (show VH _ _ _ _ _ _ _; first | refine v_seq ?_ | refine r_seq ?_ | refine r_quiet hmix (by kernel_rfl) ?_ | refine v_block ?_ | refine v_ret ?_ | refine v_skip ?_ | refine v_exit ?_ | refine v_label ?_ | refine v_cond_t rfl tbL ?_ | refine v_cond_f rfl tbL ?_ | refine v_cond_dec rfl (fun h => ?_) (fun h => ?_) | refine v_cond_ndec rfl (fun h => ?_) (fun h => ?_) | refine v_cond rfl (fun h => ?_) (fun h => ?_)) | (show SH _ _ _ _ _ (_ :: _) _ _ _; first | (show SH _ _ _ _ _ (⟨_, .move _, _, _, _, _⟩ :: _) _ _ _; refine mov evL ?_) | (show SH _ _ _ _ _ (⟨_, .assign _, _, _, _, _⟩ :: _) _ _ _; refine asg evL ?_)) | refine s_nil ?_ | refine s_fork ?_ ?_ | refine s_fork3 ?_ ?_ ?_ | refine s_fork4 ?_ ?_ ?_ ?_ | refine kh_normal ?_ | refine kh_ret ?_ | refine kh_exit ?_ | refine bh_normal ?_ | refine bh_ret ?_ | refine bh_exit ?_ | refine bh_exit_ne rfl ?_))
  refine cm rfl (fun w hw => hc bf bt w (Ent.wd enL hw)) rfl rfl ?_
  rintro _ _ ⟨A, c, rfl, rfl⟩
  refine ⟨trivial, ?_⟩
  (repeat' (first | refine v_ret ?_ | (show SH _ _ _ _ _ (_ :: _) _ _ _; (show SH _ _ _ _ _ (⟨_, .assign _, _, _, _, _⟩ :: _) _ _ _; refine asg evL ?_)) | refine s_nil ?_ | refine kh_normal ?_))
  exact rh1 rfl rfl ⟨A, c, rfl, rfl⟩ enL
set_option maxHeartbeats 2000000 in
set_option maxRecDepth 100000 in
theorem mask37_spec (fv : Value) (N : List Nod) (V : List (List Nat)) (s : List UInt8) (w : World) (hs : s.length ≤ 1000000) (hNl : N.length ≤ 1000000) (hf : FilW w fv N) (hV : N = [] ∨ FilV N V) :
    Ret Try.prog 24 [fv, .string (bs s)].toArray w (Out w (.string (bs (maskB N s)))) := by
  have hin : ∀ i, i < (matL N s).length → ∃ a l x : Nat, (matL N s).getD i Flat.dflt = ⟨a, l, x⟩ ∧ a + l ≤ s.length := fun i hi => by
    rcases hV with rfl | hV
    · rw [matL_nil] at hi; exact absurd hi (Nat.not_lt_zero i)
    · obtain ⟨a, l, x, h1, h2, _⟩ := hV.mat_in (getD_mem hi)
      exact ⟨a, l, x, h1, h2⟩
  have hm1 := fun l bf bt J w0 G0 w2 hf => matches1_spec l bf bt fv N V s J w0 G0 w2 hs hNl hf hV
  obtain ⟨p, rfl⟩ := hf.ptr
  have hm := fun w => matches_spec p s w
  unfold maskB
  refine enterH Try.func24 rfl rfl Try.ntmps24 rfl (Wd.refl _) ?_
  (repeat' ((fail_if_success (show VH _ _ (.seq (.region 2 _ _) _) _ _ _ _)); first | (show VH _ _ _ _ _ _ _; first | refine v_seq ?_ | refine r_seq ?_) | (show SH _ _ _ _ _ (_ :: _) _ _ _; first | (show SH _ _ _ _ _ (⟨_, .move _, _, _, _, _⟩ :: _) _ _ _; refine mov evL ?_) | (show SH _ _ _ _ _ (⟨_, .assign _, _, _, _, _⟩ :: _) _ _ _; refine asg evL ?_) | refine s2b rfl rfl (fun b cp => ?_) | refine al1 rfl (fun b => ?_) | (show SH _ _ _ _ _ (⟨_, .store _ _ _, _, _, _, _⟩ :: _) _ _ _; refine stb rfl rfl evL spL rfl rfl (by first | decide | exact Nat.zero_lt_succ _ | exact of_decide_eq_true rfl) kpL ?_)) | refine s_nil ?_ | refine kh_normal ?_))
  rename_i b1
  revert b cp
  intro cq b5
  (repeat' (first | (show VH _ _ _ _ _ _ _; first | refine v_seq ?_ | refine r_seq ?_) | (show SH _ _ _ _ _ (_ :: _) _ _ _; first | (show SH _ _ _ _ _ (⟨_, .move _, _, _, _, _⟩ :: _) _ _ _; refine mov evL ?_) | (show SH _ _ _ _ _ (⟨_, .call ⟨.value (.func 59), _, _⟩, _, _, _, _⟩ :: _) _ _ _; refine cp (callee := .func 59) rfl (fun w hw => hm w) rfl rfl ?_))))
  rintro _ _ ⟨bf, bt, rfl, rfl⟩
  (repeat' (first | refine v_block ?_ | refine s_nil ?_ | refine kh_normal ?_))
  refine VH.ent (G := [bx bf 46 [.pointer p], bx bt 9 [.string (bs s)], bx b5 62 [.slice (some ⟨b1, 0, none⟩) s.length cq], brow 5 b1 cq s]) ?_ enL
  refine v_range (lb := [.pointer (some ⟨bf, 0, none⟩), .pointer (some ⟨bt, 0, none⟩)]) rfl rfl ?_
  intro fn l D mk hmk w1 hw1
  have key := hm1 l bf bt (fun i G => G = [lp l mk .ready none, dfr D, bx b5 62 [.slice (some ⟨b1, 0, none⟩) s.length cq], brow 5 b1 cq (mask8 s ((matL N s).take i))]) w _ w1 hf ?hY rfl (by rw [List.take_zero]; exact Ent.wd enL hw1)
  case hY =>
    rintro i _ hi rfl X w2 hw2
    simp only [List.cons_append, List.nil_append] at hw2 ⊢
    obtain ⟨a, m, x, hx, ham⟩ := hin i hi
    have hnext := take_snoc (d := (Flat.dflt : Mat)) hi
    rw [hx] at hnext ⊢
    rw [hnext, mask8_snoc]
    have hMl := mask8_len ((matL N s).take i) s
    generalize mask8 s ((matL N s).take i) = M at hw2 hMl ⊢
    clear hnext hx hin hm1
    simp only [Int.toNat_natCast]
    rw [mat_enc]
    refine yld_of (ps := [13]) hmk rfl spL ?_ hw2
    (repeat' (first | refine r_seq ?_ | (show SH _ _ _ _ _ (_ :: _) _ _ _; first | refine ala rfl (fun b => ?_) | (show SH _ _ _ _ _ (⟨_, .store _ _ _, _, _, _, _⟩ :: _) _ _ _; refine sta rfl rfl rfl spL (by rfl) (by rfl) (by rfl) kpL ?_)) | refine s_nil ?_ | refine kh_normal ?_))
    refine ⟨_, spL, ?_⟩
    (repeat' (first | (show VH _ _ _ _ _ _ _; first | refine v_seq ?_ | refine r_seq ?_ | refine v_block ?_) | (show SH _ _ _ _ _ (_ :: _) _ _ _; first | (show SH _ _ _ _ _ (⟨_, .move _, _, _, _, _⟩ :: _) _ _ _; refine mov evL ?_) | (show SH _ _ _ _ _ (⟨_, .load _ _, _, _, _, _⟩ :: _) _ _ _; refine lbx rfl spL (by rfl) ?_) | refine fad rfl ?_) | refine s_nil ?_ | refine kh_normal ?_))
    refine v_norm [(5,_),(6,_),(15,_),(16,_)] heL (fun g => ?_)
    refine v_loop [(7,7),(16,25)] (fun j : Nat => [(16, .int .i64 j)]) (fun j => brow 5 b1 cq (star8 M a j) :: bx b 53 [.int .i64 a, .int .i64 m, .int .i64 x] :: lp l mk .busy none :: bx bf 46 [.pointer p] :: bx bt 9 [.string (bs s)] :: dfr D :: bx b5 62 [.slice (some ⟨b1, 0, none⟩) s.length cq] :: X) (fun j => j ≤ m) (fun j => m - j) 0 hsL (by simp only [star8_zero]; exact enL) (Nat.zero_le _) ?_
    rintro j g hj
    simp only [sets]
    have hsl := star8_len M a j
    have hsu := star8_succ M a j
    by_cases hjm : j < m
    · generalize star8 M a j = C at hsl hsu ⊢
      (repeat' (first | (show VH _ _ _ _ _ _ _; first | refine v_seq ?_ | refine r_seq ?_ | refine v_block ?_ | refine v_skip ?_ | refine v_cond_t rfl tbL ?_) | (show SH _ _ _ _ _ (_ :: _) _ _ _; first | (show SH _ _ _ _ _ (⟨_, .move _, _, _, _, _⟩ :: _) _ _ _; refine mov evL ?_) | (show SH _ _ _ _ _ (⟨_, .assign _, _, _, _, _⟩ :: _) _ _ _; refine asg evL ?_) | (show SH _ _ _ _ _ (⟨_, .binOp .lss _ _ _ _, _, _, _, _⟩ :: _) _ _ _; refine lssT rfl rfl omD ?_) | (show SH _ _ _ _ _ (⟨_, .binOp .add _ _ _ _, _, _, _, _⟩ :: _) _ _ _; refine add rfl rfl inL ?_) | (show SH _ _ _ _ _ (⟨_, .load _ _, _, _, _, _⟩ :: _) _ _ _; refine lbx rfl spL (by rfl) ?_) | (show SH _ _ _ _ _ (⟨_, .indexAddr _ _ _, _, _, _, _⟩ :: _) _ _ _; first | refine ixi rfl rfl (fun _ _ => rdS) (by rfl) omL omL omL ?_ | refine ixi rfl rfl (fun _ _ => rdS) (by rfl) omL (by first | omega | (simp only [List.length_cons, List.length_nil]; omega)) (by simp only [List.length_cons, List.length_nil]; omega) ?_) | refine fad rfl ?_) | refine s_nil ?_ | refine kh_normal ?_))
      rw [show ((a : Int) + (j : Int)).toNat = a + j by omega]
      refine stb8 (i := a + j) 42 rfl rfl rfl spL (by omega) trivial ?_
      rw [← hsu]
      (repeat' (first | refine r_seq ?_ | (show SH _ _ _ _ _ (_ :: _) _ _ _; first | (show SH _ _ _ _ _ (⟨_, .move _, _, _, _, _⟩ :: _) _ _ _; refine mov evL ?_) | (show SH _ _ _ _ _ (⟨_, .binOp .add _ _ _ _, _, _, _, _⟩ :: _) _ _ _; refine add rfl rfl inL ?_)) | refine s_nil ?_ | refine kh_normal ?_ | refine bh_normal ?_))
      exact ⟨agL, j + 1, hsL, enL, hjm, by omega⟩
    · obtain rfl : j = m := by omega
      (repeat' (first | (show VH _ _ _ _ _ _ _; first | refine v_seq ?_ | refine r_seq ?_ | refine v_exit ?_ | refine v_cond_f rfl tbL ?_) | (show SH _ _ _ _ _ (_ :: _) _ _ _; (show SH _ _ _ _ _ (⟨_, .binOp .lss _ _ _ _, _, _, _, _⟩ :: _) _ _ _; refine lssF rfl rfl omD ?_)) | refine s_nil ?_ | refine kh_normal ?_ | refine kh_exit ?_ | refine bh_normal ?_ | refine bh_exit ?_))
      exact ro_normal spL ⟨rfl, _, rfl, rfl⟩ enL
  refine key.mono fun v w3 ⟨H3, ⟨G, hG, hH⟩, hw3⟩ => ⟨_, ⟨.ready, none, bx bf 46 [.pointer p] :: bx bt 9 [.string (bs s)] :: G.tail, ?_, by simp, ?_⟩, hw3⟩
  · rw [hH, hG]; exact spL
  rw [hG, List.take_length]
  simp only [List.tail_cons]
  have hml : s.length = (mask8 s (matL N s)).length := (mask8_len _ _).symm
  generalize mask8 s (matL N s) = M2 at hml ⊢
  (repeat' (first | (show VH _ _ _ _ _ _ _; first | refine v_seq ?_ | refine r_seq ?_ | refine v_ret ?_) | (show SH _ _ _ _ _ (_ :: _) _ _ _; first | (show SH _ _ _ _ _ (⟨_, .assign _, _, _, _, _⟩ :: _) _ _ _; refine asg evL ?_) | (show SH _ _ _ _ _ (⟨_, .load _ _, _, _, _, _⟩ :: _) _ _ _; refine lbx rfl spL (by rfl) ?_) | (show SH _ _ _ _ _ (⟨_, .convert _ _ _, _, _, _, _⟩ :: _) _ _ _; refine b2s rfl (fun _ _ => rdS) (by first | rfl | omega | simp) ?_)) | refine s_nil ?_ | refine kh_normal ?_ | refine bh_normal ?_))
  refine rh_mark rfl spL ?_
  exact rh1 rfl rfl ⟨rfl, rfl⟩ enL
end Go.Proofs.Ytplhnnlklnbahaa

/- Layer 37 (chat): Say. -/
namespace Go.Proofs.Ytplhnnlklnbahaa
open Go.Fw Go.RowKit
/-- What Say's change makes of a room. -/
def sayK (mt : List UInt8) (t s : Int) (ms : List Mbr) (log : List Msg) (id tick : Int) (txt : List UInt8) : ResR :=
    if tick37 tick = true then
      if tick < t then (rom0, 370)
      else if textB txt = true then
        if 1099511627776 ≤ s then (rom0, 4)
        else if 4 ≤ recentR log id tick then (rom0, 372)
        else (⟨tick, s + 1, ms, (log ++ [(⟨s + 1, tick, id, mt⟩ : Msg)]).drop (log.length + 1 - 50)⟩, 0)
      else (rom0, 371)
    else (rom0, 2)
theorem sayK0 (mt : List UInt8) (t s : Int) (ms : List Mbr) (log : List Msg) (id tick : Int) (txt : List UInt8) : (sayK mt t s ms log id tick txt).2 ≠ 0 → (sayK mt t s ms log id tick txt).1 = rom0 := by
  unfold sayK
  repeat' split
  all_goals first
    | exact fun _ => rfl
    | exact fun h => absurd rfl h
set_option maxHeartbeats 4000000 in
set_option maxRecDepth 100000 in
theorem say1_spec (t s : Int) (L0 : List MbrP) (gl : List Msg) (k : Nat) (id tick : Int) (txt : List UInt8) (fv : Value) (N : List Nod) (V : List (List Nat)) (a2 a3 a4 a5 : Addr) (w0 : World) (htx : txt.length ≤ 1000000) (hNl : N.length ≤ 1000000) (hf : FilW w0 fv N) (hV : N = [] ∨ FilV N V) (hvr : VRom (rom t s L0 gl))
    (e2 : w0.cell? a2 = some (.int .i64 tick)) (e3 : w0.cell? a3 = some (.string (bs txt))) (e4 : w0.cell? a4 = some (.int .i64 id)) (e5 : w0.cell? a5 = some fv) (hs : -9223372036854775808 ≤ s) :
    Acts37 w0 t s L0 gl k 61 #[] #[.pointer (some a2), .pointer (some a3), .pointer (some a4), .pointer (some a5)] (sayK (maskB N txt) t s (mbrs L0) gl id tick txt) (allH []) (· = allH []) := by
  refine acts37_of (cap := [.pointer (some a2), .pointer (some a3), .pointer (some a4), .pointer (some a5)]) fun w' b A c L B d H hz hp hw => ?_
  have hgl : gl.length ≤ 50 := hvr.logl
  have hti := fun w => isTick37_spec tick w
  have hte := fun w => isText_spec txt w htx
  have hma := fun w (he : Ext w0 w) => mask37_spec fv N V txt w htx hNl (hf.ext he) hV
  have hrc := fun ht w hr => recent_spec t s A L.length c B gl d id tick w (by omega) ht hr
  unfold sayK
  rw [← hp]
  obtain ⟨p, rfl⟩ := hf.ptr
  clear hf hV hp hvr hz
  generalize maskB N txt = mt at hma ⊢
  by_cases h1 : tick37 tick = true
  · rw [if_pos h1]
    have hrc := hrc (tick37_iff.1 h1)
    obtain ⟨ht0, ht1⟩ := tick37_iff.1 h1
    rw [h1] at hti
    clear h1
    by_cases h2 : tick < t
    · rw [if_pos h2]
      refine enterH Try.func61 rfl rfl Try.ntmps61 rfl (by assumption) ?_
      (repeat' (first | (show VH _ _ _ _ _ _ _; first | refine v_seq ?_ | refine r_seq ?_ | refine r_quiet hmix (by kernel_rfl) ?_ | refine v_block ?_ | refine v_ret ?_ | refine v_cond_t rfl tbL ?_ | refine v_cond_f rfl tbL ?_) | (show SH _ _ _ _ _ (_ :: _) _ _ _; first | (show SH _ _ _ _ _ (⟨_, .move _, _, _, _, _⟩ :: _) _ _ _; refine mov evL ?_) | (show SH _ _ _ _ _ (⟨_, .assign _, _, _, _, _⟩ :: _) _ _ _; refine asg evL ?_) | (show SH _ _ _ _ _ (⟨_, .binOp .lss _ _ _ _, _, _, _, _⟩ :: _) _ _ _; refine lssT rfl rfl omD ?_) | (show SH _ _ _ _ _ (⟨_, .load _ _, _, _, _, _⟩ :: _) _ _ _; first | refine lbx rfl spL (by rfl) ?_ | refine lcell rfl (fun w hw => hw.ext.cell (by assumption)) ?_) | (show SH _ _ _ _ _ (⟨_, .call ⟨.value (.func 31), _, _⟩, _, _, _, _⟩ :: _) _ _ _; refine cl (callee := .func 31) rfl (fun w hw => hti w) rfl rfl ?_) | refine bnoT rfl ?_ | refine nlc rfl ?_ | refine fad rfl ?_) | refine s_nil ?_ | refine kh_normal ?_ | refine kh_ret ?_ | refine bh_ret ?_))
      exact rh1 rfl rfl ⟨rfl, allH [], rfl, rfl⟩ enL
    · rw [if_neg h2]
      by_cases h3 : textB txt = true
      · rw [if_pos h3]
        rw [h3] at hte
        clear h3
        by_cases h4 : 1099511627776 ≤ s
        · rw [if_pos h4]
          refine enterH Try.func61 rfl rfl Try.ntmps61 rfl (by assumption) ?_
          (repeat' (first | (show VH _ _ _ _ _ _ _; first | refine v_seq ?_ | refine r_seq ?_ | refine r_quiet hmix (by kernel_rfl) ?_ | refine v_block ?_ | refine v_ret ?_ | refine v_cond_t rfl tbL ?_ | refine v_cond_f rfl tbL ?_) | (show SH _ _ _ _ _ (_ :: _) _ _ _; first | (show SH _ _ _ _ _ (⟨_, .move _, _, _, _, _⟩ :: _) _ _ _; refine mov evL ?_) | (show SH _ _ _ _ _ (⟨_, .assign _, _, _, _, _⟩ :: _) _ _ _; refine asg evL ?_) | (show SH _ _ _ _ _ (⟨_, .binOp .lss _ _ _ _, _, _, _, _⟩ :: _) _ _ _; refine lssF rfl rfl omD ?_) | (show SH _ _ _ _ _ (⟨_, .binOp .geq _ _ _ _, _, _, _, _⟩ :: _) _ _ _; refine geqT rfl rfl omD ?_) | (show SH _ _ _ _ _ (⟨_, .load _ _, _, _, _, _⟩ :: _) _ _ _; first | refine lbx rfl spL (by rfl) ?_ | refine lcell rfl (fun w hw => hw.ext.cell (by assumption)) ?_) | (show SH _ _ _ _ _ (⟨_, .call ⟨.value (.func 31), _, _⟩, _, _, _, _⟩ :: _) _ _ _; refine cl (callee := .func 31) rfl (fun w hw => hti w) rfl rfl ?_) | (show SH _ _ _ _ _ (⟨_, .call ⟨.value (.func 36), _, _⟩, _, _, _, _⟩ :: _) _ _ _; refine cl (callee := .func 36) rfl (fun w hw => hte w) rfl rfl ?_) | refine bnoT rfl ?_ | refine nlc rfl ?_ | refine fad rfl ?_) | refine s_nil ?_ | refine kh_normal ?_ | refine kh_ret ?_ | refine bh_ret ?_))
          exact rh1 rfl rfl ⟨rfl, allH [], rfl, rfl⟩ enL
        · rw [if_neg h4]
          generalize recentR gl id tick = n at hrc ⊢
          by_cases h5 : 4 ≤ n
          · rw [if_pos h5]
            refine enterH Try.func61 rfl rfl Try.ntmps61 rfl (by assumption) ?_
            (repeat' (first | (show VH _ _ _ _ _ _ _; first | refine v_seq ?_ | refine r_seq ?_ | refine r_quiet hmix (by kernel_rfl) ?_ | refine v_block ?_ | refine v_ret ?_ | refine v_cond_t rfl tbL ?_ | refine v_cond_f rfl tbL ?_) | (show SH _ _ _ _ _ (_ :: _) _ _ _; first | (show SH _ _ _ _ _ (⟨_, .move _, _, _, _, _⟩ :: _) _ _ _; refine mov evL ?_) | (show SH _ _ _ _ _ (⟨_, .assign _, _, _, _, _⟩ :: _) _ _ _; refine asg evL ?_) | (show SH _ _ _ _ _ (⟨_, .binOp .lss _ _ _ _, _, _, _, _⟩ :: _) _ _ _; refine lssF rfl rfl omD ?_) | (show SH _ _ _ _ _ (⟨_, .binOp .geq _ _ _ _, _, _, _, _⟩ :: _) _ _ _; first | refine geqT rfl rfl omD ?_ | refine geqF rfl rfl omD ?_) | (show SH _ _ _ _ _ (⟨_, .load _ _, _, _, _, _⟩ :: _) _ _ _; first | refine lbx rfl spL (by rfl) ?_ | refine lba rfl spL (by rfl) ?_ | refine lcell rfl (fun w hw => hw.ext.cell (by assumption)) ?_) | (show SH _ _ _ _ _ (⟨_, .call ⟨.value (.func 31), _, _⟩, _, _, _, _⟩ :: _) _ _ _; refine cl (callee := .func 31) rfl (fun w hw => hti w) rfl rfl ?_) | (show SH _ _ _ _ _ (⟨_, .call ⟨.value (.func 36), _, _⟩, _, _, _, _⟩ :: _) _ _ _; refine cl (callee := .func 36) rfl (fun w hw => hte w) rfl rfl ?_) | (show SH _ _ _ _ _ (⟨_, .call ⟨.value (.func 62), _, _⟩, _, _, _, _⟩ :: _) _ _ _; refine cl (callee := .func 62) rfl (fun w hw => hrc w (hw.rd spL)) rfl rfl ?_) | refine bnoT rfl ?_ | refine nlc rfl ?_ | refine fad rfl ?_) | refine s_nil ?_ | refine kh_normal ?_ | refine kh_ret ?_ | refine bh_ret ?_))
            exact rh1 rfl rfl ⟨rfl, allH [], rfl, rfl⟩ enL
          · rw [if_neg h5]
            obtain ⟨m, hm⟩ : ∃ m : Msg, m = ⟨s + 1, tick, id, mt⟩ := ⟨_, rfl⟩
            rw [← hm]
            have hme : Flat.enc m = [.int .i64 (s + 1), .int .i64 tick, .int .i64 id, .string (bs mt)] := by rw [hm]; rfl
            clear hm
            have hMl : (gl ++ [m]).length = gl.length + 1 := by rw [List.length_append]; rfl
            refine enterH Try.func61 rfl rfl Try.ntmps61 rfl (by assumption) ?_
            (repeat' ((fail_if_success (show VH _ _ (.seq (.region 13 _ _) _) _ _ _ _)); first | (show VH _ _ _ _ _ _ _; first | refine v_seq ?_ | refine r_seq ?_ | refine r_quiet hmix (by kernel_rfl) ?_ | refine v_block ?_ | refine v_skip ?_ | refine v_cond_f rfl tbL ?_) | (show SH _ _ _ _ _ (_ :: _) _ _ _; first | (show SH _ _ _ _ _ (⟨_, .move _, _, _, _, _⟩ :: _) _ _ _; refine mov evL ?_) | (show SH _ _ _ _ _ (⟨_, .assign _, _, _, _, _⟩ :: _) _ _ _; refine asg evL ?_) | (show SH _ _ _ _ _ (⟨_, .binOp .lss _ _ _ _, _, _, _, _⟩ :: _) _ _ _; refine lssF rfl rfl omD ?_) | (show SH _ _ _ _ _ (⟨_, .binOp .geq _ _ _ _, _, _, _, _⟩ :: _) _ _ _; refine geqF rfl rfl omD ?_) | (show SH _ _ _ _ _ (⟨_, .binOp .add _ _ _ _, _, _, _, _⟩ :: _) _ _ _; refine add rfl rfl inL ?_) | (show SH _ _ _ _ _ (⟨_, .load _ _, _, _, _, _⟩ :: _) _ _ _; first | refine lbx rfl spL (by rfl) ?_ | refine lba rfl spL (by rfl) ?_ | refine lcell rfl (fun w hw => hw.ext.cell (by assumption)) ?_) | (show SH _ _ _ _ _ (⟨_, .call ⟨.value (.func 31), _, _⟩, _, _, _, _⟩ :: _) _ _ _; refine cl (callee := .func 31) rfl (fun w hw => hti w) rfl rfl ?_) | (show SH _ _ _ _ _ (⟨_, .call ⟨.value (.func 36), _, _⟩, _, _, _, _⟩ :: _) _ _ _; refine cl (callee := .func 36) rfl (fun w hw => hte w) rfl rfl ?_) | (show SH _ _ _ _ _ (⟨_, .call ⟨.value (.func 62), _, _⟩, _, _, _, _⟩ :: _) _ _ _; refine cl (callee := .func 62) rfl (fun w hw => hrc w (hw.rd spL)) rfl rfl ?_) | refine bnoT rfl ?_ | refine nlc rfl ?_ | refine fad rfl ?_ | (show SH _ _ _ _ _ (⟨_, .store _ _ _, _, _, _, _⟩ :: _) _ _ _; refine stb rfl rfl evL spL rfl rfl (by first | decide | exact Nat.zero_lt_succ _ | exact of_decide_eq_true rfl) kpL ?_)) | refine s_nil ?_ | refine kh_normal ?_ | refine bh_normal ?_))
            refine VH.ent (G := bxR b tick (s + 1) A L.length c B gl.length d :: orow 31 A c L :: orow 36 B d gl :: allH (L.map rowG) :: allH [] :: H) ?_ enL
            refine v_seq ?_
            refine v_cut [(49, 67)] (fun _ : Option Addr × Nat => []) (fun y => bxR b tick (s + 1) A L.length c y.1 (gl ++ [m]).length y.2 :: orow 31 A c L :: orow 36 y.1 y.2 (gl ++ [m]) :: allH (L.map rowG) :: allH [] :: H) (fun _ => True) ?_ ?_ ent_vh
            · refine r_heldT [] (tr [(0, true), (1, true), (2, true), (3, true), (5, true), (6, true), (7, true), (9, true), (10, true), (11, true), (12, true)] (.fork3 4 (tr [] (.fork 8 (tr [(13, false), (14, false), (15, false), (16, false), (17, false), (18, false), (19, false)] .nil) 13 (tr [(8, false), (14, false), (15, false), (16, false), (17, false), (18, false), (19, false)] .nil))) 8 (tr [] (.fork 4 (tr [(13, false), (14, false), (15, false), (16, false), (17, false), (18, false), (19, false)] .nil) 13 (tr [(14, true)] (.fork 4 (tr [(15, false), (16, false), (17, false), (18, false), (19, false)] .nil) 15 (tr [(4, false), (16, false), (17, false), (18, false), (19, false)] .nil))))) 13 (tr [] (.fork 4 (tr [(8, false), (14, false), (15, false), (16, false), (17, false), (18, false), (19, false)] .nil) 8 (tr [(14, true)] (.fork 4 (tr [(15, false), (16, false), (17, false), (18, false), (19, false)] .nil) 15 (tr [(4, false), (16, false), (17, false), (18, false), (19, false)] .nil))))))) hmix (by kernel_rfl) (ent_nil _) ?_
              (repeat' (first | (show SH _ _ _ _ _ (_ :: _) _ _ _; first | (show SH _ _ _ _ _ (⟨_, .move _, _, _, _, _⟩ :: _) _ _ _; refine mov evL ?_) | (show SH _ _ _ _ _ (⟨_, .load _ _, _, _, _, _⟩ :: _) _ _ _; first | refine lbx rfl spL (by rfl) ?_ | refine lcell rfl (fun w hw => hw.ext.cell (by assumption)) ?_) | (show SH _ _ _ _ _ (⟨_, .call ⟨.value (.func 24), _, _⟩, _, _, _, _⟩ :: _) _ _ _; refine cl (callee := .func 24) rfl (fun w hw => hma w hw.ext) rfl rfl ?_) | refine nlc rfl ?_ | refine fad rfl ?_ | refine bld rfl rfl ?_) | refine s_fork ?_ ?_ | refine s_fork3 ?_ ?_ ?_))
              all_goals
                refine bsl (l := [m]) rfl rfl (Vals.cons hme.symm Vals.nil) rfl rfl (by decide) (fun b9 => ?_)
                (repeat' ((show SH _ _ _ _ _ (_ :: _) _ _ _; (show SH _ _ _ _ _ (⟨_, .load _ _, _, _, _, _⟩ :: _) _ _ _; refine lbx rfl spL (by rfl) ?_))))
                refine app (l := gl) (l2 := [m]) rfl rfl rfl spL (fun w hw => hw.rd spL) rfl rfl rfl (by simp only [List.length_singleton]; omega) (by simp only [List.length_singleton]; omega) (fun A4 c4 => ⟨enL, ?_⟩)
                (repeat' (first | (show SH _ _ _ _ _ (_ :: _) _ _ _; first | refine nlc rfl ?_ | refine fad rfl ?_ | (show SH _ _ _ _ _ (⟨_, .store _ _ _, _, _, _, _⟩ :: _) _ _ _; refine stb rfl rfl evL spL rfl rfl (by first | decide | exact Nat.zero_lt_succ _ | exact of_decide_eq_true rfl) kpL ?_)) | refine s_nil ?_ | refine kh_normal ?_))
                exact ⟨agL, (A4, c4), hsL, enL, trivial⟩
            rintro ⟨B2, d2⟩ gg _ G rfl
            simp only [sets]
            generalize hM : gl ++ [m] = M at hMl ⊢
            by_cases h6 : 50 < gl.length + 1
            · rw [show gl.length + 1 - 50 = 1 by omega, List.drop_one, ← List.eraseIdx_zero]
              clear hM
              (repeat' (first | (show VH _ _ _ _ _ _ _; first | refine v_seq ?_ | refine r_seq ?_ | refine v_cond_t rfl tbL ?_) | (show SH _ _ _ _ _ (_ :: _) _ _ _; first | (show SH _ _ _ _ _ (⟨_, .move _, _, _, _, _⟩ :: _) _ _ _; refine mov evL ?_) | (show SH _ _ _ _ _ (⟨_, .binOp .gtr _ _ _ _, _, _, _, _⟩ :: _) _ _ _; refine gtrT rfl rfl omD ?_) | (show SH _ _ _ _ _ (⟨_, .load _ _, _, _, _, _⟩ :: _) _ _ _; refine lbx rfl spL (by rfl) ?_) | refine slen rfl ?_ | refine nlc rfl ?_ | refine fad rfl ?_) | refine s_nil ?_ | refine kh_normal ?_))
              refine cm rfl (fun w2 hw2 => deleteG_spec B2 M d2 0 w0 (bxR b tick (s + 1) A L.length c B2 M.length d2 :: orow 31 A c L :: allH (L.map rowG) :: allH [] :: H) w2 (by omega) (by omega) (Ent.wd enL hw2)) rfl rfl ?_
              rintro _ _ ⟨rfl, rfl⟩
              refine ⟨trivial, ?_⟩
              (repeat' (first | (show VH _ _ _ _ _ _ _; first | refine v_seq ?_ | refine r_seq ?_ | refine v_ret ?_) | (show SH _ _ _ _ _ (_ :: _) _ _ _; first | (show SH _ _ _ _ _ (⟨_, .assign _, _, _, _, _⟩ :: _) _ _ _; refine asg evL ?_) | refine nlc rfl ?_ | refine fad rfl ?_ | (show SH _ _ _ _ _ (⟨_, .store _ _ _, _, _, _, _⟩ :: _) _ _ _; refine stb rfl rfl evL spL rfl rfl (by first | decide | exact Nat.zero_lt_succ _ | exact of_decide_eq_true rfl) kpL ?_)) | refine s_nil ?_ | refine kh_normal ?_))
              exact rh1 rfl rfl ⟨rfl, allH [], rfl, A, c, L, B2, d2, rfl, rfl⟩ enL
            · rw [show gl.length + 1 - 50 = 0 by omega, List.drop_zero]
              clear hM
              (repeat' (first | (show VH _ _ _ _ _ _ _; first | refine v_seq ?_ | refine r_seq ?_ | refine v_ret ?_ | refine v_skip ?_ | refine v_cond_f rfl tbL ?_) | (show SH _ _ _ _ _ (_ :: _) _ _ _; first | (show SH _ _ _ _ _ (⟨_, .move _, _, _, _, _⟩ :: _) _ _ _; refine mov evL ?_) | (show SH _ _ _ _ _ (⟨_, .assign _, _, _, _, _⟩ :: _) _ _ _; refine asg evL ?_) | (show SH _ _ _ _ _ (⟨_, .binOp .gtr _ _ _ _, _, _, _, _⟩ :: _) _ _ _; refine gtrF rfl rfl omD ?_) | (show SH _ _ _ _ _ (⟨_, .load _ _, _, _, _, _⟩ :: _) _ _ _; refine lbx rfl spL (by rfl) ?_) | refine slen rfl ?_ | refine nlc rfl ?_ | refine fad rfl ?_) | refine s_nil ?_ | refine kh_normal ?_))
              exact rh1 rfl rfl ⟨rfl, allH [], rfl, A, c, L, B2, d2, rfl, rfl⟩ enL
      · rw [if_neg h3]
        rw [Bool.not_eq_true] at h3
        rw [h3] at hte
        clear h3
        refine enterH Try.func61 rfl rfl Try.ntmps61 rfl (by assumption) ?_
        (repeat' (first | (show VH _ _ _ _ _ _ _; first | refine v_seq ?_ | refine r_seq ?_ | refine r_quiet hmix (by kernel_rfl) ?_ | refine v_block ?_ | refine v_ret ?_ | refine v_cond_t rfl tbL ?_ | refine v_cond_f rfl tbL ?_) | (show SH _ _ _ _ _ (_ :: _) _ _ _; first | (show SH _ _ _ _ _ (⟨_, .move _, _, _, _, _⟩ :: _) _ _ _; refine mov evL ?_) | (show SH _ _ _ _ _ (⟨_, .assign _, _, _, _, _⟩ :: _) _ _ _; refine asg evL ?_) | (show SH _ _ _ _ _ (⟨_, .binOp .lss _ _ _ _, _, _, _, _⟩ :: _) _ _ _; refine lssF rfl rfl omD ?_) | (show SH _ _ _ _ _ (⟨_, .load _ _, _, _, _, _⟩ :: _) _ _ _; first | refine lbx rfl spL (by rfl) ?_ | refine lcell rfl (fun w hw => hw.ext.cell (by assumption)) ?_) | (show SH _ _ _ _ _ (⟨_, .call ⟨.value (.func 31), _, _⟩, _, _, _, _⟩ :: _) _ _ _; refine cl (callee := .func 31) rfl (fun w hw => hti w) rfl rfl ?_) | (show SH _ _ _ _ _ (⟨_, .call ⟨.value (.func 36), _, _⟩, _, _, _, _⟩ :: _) _ _ _; refine cl (callee := .func 36) rfl (fun w hw => hte w) rfl rfl ?_) | (show SH _ _ _ _ _ (⟨_, .unOp .not _ _, _, _, _, _⟩ :: _) _ _ _; first | refine bnoT rfl ?_ | refine bnoF rfl ?_) | refine nlc rfl ?_ | refine fad rfl ?_) | refine s_nil ?_ | refine kh_normal ?_ | refine kh_ret ?_ | refine bh_ret ?_))
        exact rh1 rfl rfl ⟨rfl, allH [], rfl, rfl⟩ enL
  · rw [if_neg h1]
    rw [Bool.not_eq_true] at h1
    rw [h1] at hti
    clear h1
    refine enterH Try.func61 rfl rfl Try.ntmps61 rfl (by assumption) ?_
    (repeat' (first | (show VH _ _ _ _ _ _ _; first | refine v_seq ?_ | refine r_seq ?_ | refine v_block ?_ | refine v_ret ?_ | refine v_cond_t rfl tbL ?_) | (show SH _ _ _ _ _ (_ :: _) _ _ _; first | (show SH _ _ _ _ _ (⟨_, .assign _, _, _, _, _⟩ :: _) _ _ _; refine asg evL ?_) | (show SH _ _ _ _ _ (⟨_, .load _ _, _, _, _, _⟩ :: _) _ _ _; refine lcell rfl (fun w hw => hw.ext.cell (by assumption)) ?_) | (show SH _ _ _ _ _ (⟨_, .call ⟨.value (.func 31), _, _⟩, _, _, _, _⟩ :: _) _ _ _; refine cl (callee := .func 31) rfl (fun w hw => hti w) rfl rfl ?_) | refine bnoF rfl ?_) | refine s_nil ?_ | refine kh_normal ?_ | refine kh_ret ?_ | refine bh_ret ?_))
    exact rh1 rfl rfl ⟨rfl, allH [], rfl, rfl⟩ enL
end Go.Proofs.Ytplhnnlklnbahaa

/- Layer 37 (chat): Say. -/
namespace Go.Proofs.Ytplhnnlklnbahaa
open Go.Fw Go.RowKit
section
variable {md : Md} {P : Program} {n : Nat} {Q : HQ} {f : Fr} {w0 : World} {H : List HP} {ops : Array Oper} {rest : List Oper} {d : Nat} {ty : TypeId} {pos : String} {aft : Array Edge}
theorem mf4 {fn : Fn} {c0 c1 c2 c3 : Operand} {v0 v1 v2 v3 : Value} (h0 : ev n f c0 = v0) (h1 : ev n f c1 = v1) (h2 : ev n f c2 = v2) (h3 : ev n f c3 = v3) (k : SH (nx md) P n ops Q rest (upd f d (.func fn #[] #[v0, v1, v2, v3])) w0 H) : SH md P n ops Q (⟨some d, .makeFunc fn #[] #[c0, c1, c2, c3], ty, pos, aft, none⟩ :: rest) f w0 H := s_val (fun w hw => by
  intro d pos aft g; simp [execOp, Instr.makeFunc, h0, h1, h2, h3]) k
end
set_option maxHeartbeats 1000000 in
set_option maxRecDepth 100000 in
theorem say37_spec (t s : Int) (A : Option Addr) (L : List MbrP) (c : Nat) (B : Option Addr) (gl : List Msg) (d : Nat) (fv : Value) (N : List Nod) (V : List (List Nat)) (id tick : Int) (txt : List UInt8) (w : World) (hz : SzR L gl) (hs : -9223372036854775808 ≤ s) (hr : RdR w A L B gl) (htx : txt.length ≤ 1000000) (hNl : N.length ≤ 1000000) (hf : FilW w fv N) (hV : N = [] ∨ FilV N V) :
    Ret Try.prog 27 [rv37 t s A L c B gl d, fv, .int .i64 id, .int .i64 tick, .string (bs txt)].toArray w (RP w (OutR (sayR (maskB N) (rom t s L gl) id tick txt))) := by
  have hm := fun (p6 p7 p8 p9 : Nat) w (hr : RdR w A L B gl) (hf : FilW w fv N) e2 e3 e4 e5 => memberP_spec t s A L c B gl d id 61 #[] #[.pointer (some ⟨p8, 0, none⟩), .pointer (some ⟨p9, 0, none⟩), .pointer (some ⟨p7, 0, none⟩), .pointer (some ⟨p6, 0, none⟩)] (fun _ => sayK (maskB N txt) t s (mbrs L) gl id tick txt) w hz hs hr (fun _ => sayK0 _ _ _ _ _ _ _ _) (fun k hv hk => say1_spec t s L gl k id tick txt fv N V ⟨p8, 0, none⟩ ⟨p9, 0, none⟩ ⟨p7, 0, none⟩ ⟨p6, 0, none⟩ w htx hNl hf hV hv e2 e3 e4 e5 hs)
  rw [show sayR (maskB N) (rom t s L gl) id tick txt = memberR (rom t s L gl) id (fun _ => sayK (maskB N txt) t s (mbrs L) gl id tick txt) from rfl]
  obtain ⟨p, rfl⟩ := hf.ptr
  unfold rv37 at hm ⊢
  refine enterH Try.func27 rfl rfl Try.ntmps27 rfl (Wd.refl _) ?_
  (repeat' (first | (show VH _ _ _ _ _ _ _; first | refine v_seq ?_ | refine r_seq ?_) | (show SH _ _ _ _ _ (_ :: _) _ _ _; first | (show SH _ _ _ _ _ (⟨_, .assign _, _, _, _, _⟩ :: _) _ _ _; refine asg evL ?_) | (show SH _ _ _ _ _ (⟨_, .load _ _, _, _, _, _⟩ :: _) _ _ _; first | refine lbx rfl spL (by rfl) ?_ | refine lba rfl spL (by rfl) ?_) | refine ala rfl (fun b => ?_) | (show SH _ _ _ _ _ (⟨_, .box _ _, _, _, _, _⟩ :: _) _ _ _; refine bxx rfl evL rfl (fun b => ?_))) | refine s_nil ?_ | refine kh_normal ?_))
  rename_i b5 b6 b7 b8 b9
  refine mf4 rfl rfl rfl rfl ?_
  refine cp rfl (fun w2 hw => hm b6 b7 b8 b9 w2 (hr.ext hw.ext) (hf.ext hw.ext) (hw.cell (cs := [.int .i64 tick]) spL rfl) (hw.cell (cs := [.string (bs txt)]) spL rfl) (hw.cell (cs := [.int .i64 id]) spL rfl) (hw.cell (cs := [.pointer p]) spL rfl)) rfl rfl ?_
  rintro _ _ ⟨A1, c1, L1, B1, d1, hp1, rfl, rfl⟩
  (repeat' (first | refine v_ret ?_ | (show SH _ _ _ _ _ (_ :: _) _ _ _; first | (show SH _ _ _ _ _ (⟨_, .assign _, _, _, _, _⟩ :: _) _ _ _; refine asg evL ?_) | refine extr rfl rfl ?_ | (show SH _ _ _ _ _ (⟨_, .store _ _ _, _, _, _, _⟩ :: _) _ _ _; refine sta rfl rfl rfl spL (by rfl) (by rfl) (by rfl) kpL ?_)) | refine s_nil ?_ | refine kh_normal ?_))
  exact rhC2 rfl rfl rfl rfl (fun w hw => loadVar_bx hw spL (by rfl)) ⟨A1, c1, L1, B1, d1, hp1, rfl, rfl⟩ enL
end Go.Proofs.Ytplhnnlklnbahaa

/- Layer 37 (chat): filters and rooms of which the memory is known. -/
namespace Go.Proofs.Ytplhnnlklnbahaa
open Go.Fw Go.RowKit
/-- A filter whose nodes are known. -/
def kfil (p : Addr) (N : List Nod) : HP := kno fun w => FilW w (.pointer (some p)) N
theorem ent_fil {b c : Nat} {t e : TypeId} {A : Option Addr} {N : List Nod} {G : List HP} : Ent (bx b t [.slice A N.length c] :: orow e A c N :: G) (kfil ⟨b, 0, none⟩ N :: G) := by
  have h1 : Ent (bx b t [.slice A N.length c] :: orow e A c N :: G) (kno (fun w => w.cell? ((⟨b, 0, none⟩ : Addr).add 0) = some (.slice A N.length c)) :: orow e A c N :: G) := ent_head fun p hp w lo hi => by
    have hp : p = pone b (.cells ([Value.slice A N.length c] : List Value).toArray t (0, 0)) := hp
    subst hp
    have := (hi b _ (pone_at _ _)).2
    rw [Addr.add_lit]
    simp [World.cell?, this]
  exact h1.trans ((ent_cons Split.head (ent_kno_row Split.head (ent_refl _))).trans (ent_kno_and.trans (ent_kno_imp (fun w h => .inr ⟨_, A, c, rfl, h.1, h.2⟩) Split.head (ent_refl _))))
/-- A room whose memory is known. -/
def knr (A : Option Addr) (L : List MbrP) (B : Option Addr) (gl : List Msg) : HP := kno fun w => RdR w A L B gl
theorem ent_knr {e ei em : TypeId} {A : Option Addr} {c d : Nat} {L : List MbrP} {B : Option Addr} {gl : List Msg} {G : List HP} : Ent (orow e A c L :: orow em B d gl :: allH (L.map fun x => orow ei x.A x.ca x.m.ign) :: G) (knr A L B gl :: G) := by
  have h1 : Ent (allH (L.map fun x => orow ei x.A x.ca x.m.ign) :: G) (kno (fun w => ∀ x ∈ L, Rd w x.A x.m.ign) :: G) :=
    (ent_all_out _).trans (ent_kno_map (fun x G => ent_kno_row Split.head (ent_refl _)) L)
  have h3 : Ent (orow e A c L :: orow em B d gl :: allH (L.map fun x => orow ei x.A x.ca x.m.ign) :: G) (kno (fun w => Rd w A L) :: kno (fun w => Rd w B gl) :: kno (fun w => ∀ x ∈ L, Rd w x.A x.m.ign) :: G) :=
    ent_kno_row Split.head (ent_kno_row Split.head h1)
  exact h3.trans ((ent_cons Split.head ent_kno_and).trans (ent_kno_and.trans (ent_kno_imp (fun w h => ⟨h.1, h.2.2, h.2.1⟩) Split.head (ent_refl _))))
theorem Wd.kr {w0 w : World} {H R : List HP} {A : Option Addr} {L : List MbrP} {B : Option Addr} {gl : List Msg} (h : Wd w0 H w) (hs : Split H (knr A L B gl) R) : RdR w A L B gl := h.kn hs
theorem Wd.kf {w0 w : World} {H R : List HP} {p : Addr} {N : List Nod} (h : Wd w0 H w) (hs : Split H (kfil p N) R) : FilW w (.pointer (some p)) N := h.kn hs
/-- A room that comes out, and an error. -/
def OutRK (r : ResR) (v : Value) (H' : List HP) : Prop := ∃ A c L B d, mbrs L = r.1.ms ∧ v = .tuple #[rv37 r.1.tick r.1.said A L c B r.1.log d, .int .i64 r.2] ∧ H' = [knr A L B r.1.log]
theorem outRK_of {r r' : ResR} {g : FuncId} {args : List Value} {w : World} (e : r = r') (h : Ret Try.prog g args.toArray w (RP w (OutR r))) : Ret Try.prog g args.toArray w (RP w (OutRK r')) := by
  subst e
  exact h.mono fun v w' ⟨H', ⟨A, c, L, B, d, hp, hv, hH⟩, hw⟩ => ⟨_, ⟨A, c, L, B, d, hp, hv, rfl⟩, Ent.wd (hH ▸ ent_knr) hw⟩
/-- The words, folded. -/
def voc (ws : List (List UInt8)) : List (List Nat) := (ws.map n8).map foldW
/-- A filter that comes out. -/
def OutBK (ws : List (List UInt8)) (v : Value) (H' : List HP) : Prop :=
  (rightW (ws.map n8) ∧ ∃ p N, v = .tuple #[.pointer (some p), .int .i64 0] ∧ FilV N (voc ws) ∧ N.length ≤ 3000 ∧ H' = [kfil p N]) ∨ (¬ rightW (ws.map n8) ∧ v = .tuple #[.pointer none, .int .i64 2] ∧ H' = [])
theorem buildM_len {ws : List (List Nat)} {N : List Nod} (hb : ∀ w ∈ ws, ∀ b ∈ w, b < 256) (h : buildM ws = some N) : N.length ≤ 3000 := by
  unfold buildM at h
  split at h
  · rename_i h100
    have := trieM_spec ws Trie.zero List.nodup_nil hb
    rw [List.length_nil, List.nil_append] at this
    cases hT : trieM ws [nod0 0] 0 with
    | none => rw [hT] at h; cases h
    | some M =>
      rw [hT] at this h
      obtain ⟨_, _, ⟨P, h3⟩, h4⟩ := this
      obtain ⟨D, L, hl⟩ := linkQ_spec M.length h3.link (by simp)
      injection h with h
      rw [← h, hl]
      simp only [List.length_singleton] at h4
      omega
  · cases h
theorem n8s_lt (ws : List (List UInt8)) : ∀ w ∈ ws.map n8, ∀ b ∈ w, b < 256 := fun w hw => by
  obtain ⟨s, _, rfl⟩ := List.mem_map.1 hw
  exact n8_lt s
theorem buildK_spec (A0 : Option Addr) (c0 : Nat) (ws : List (List UInt8)) (w : World) (hl : ws.length ≤ 1000000) (hsz : ∀ s ∈ ws, s.length ≤ 1000000) (hr : Rd w A0 ws) :
    Ret Try.prog 23 [.slice A0 ws.length c0].toArray w (RP w (OutBK ws)) := by
  refine (build37_spec A0 c0 ws w hl hsz hr).mono fun v w' ⟨H', hB, hw⟩ => ?_
  have hs := buildM_spec (ws.map n8) (n8s_lt ws)
  cases hM : buildM (ws.map n8) with
  | none =>
    rw [hM] at hB hs
    obtain ⟨rfl, rfl⟩ := hB
    exact ⟨[], .inr ⟨hs, rfl, rfl⟩, hw⟩
  | some N =>
    rw [hM] at hB hs
    obtain ⟨b, A, c, rfl, rfl⟩ := hB
    obtain ⟨hR, P, hA⟩ := hs
    refine ⟨[kfil ⟨b, 0, none⟩ N], .inl ⟨hR, ⟨b, 0, none⟩, N, rfl, ⟨?_, fun v hv => (right_len hR v hv).2, P, hA⟩, buildM_len (n8s_lt ws) hM, rfl⟩, Ent.wd ent_fil hw⟩
    unfold voc
    rw [List.length_map]
    exact hR.1
/-- Sizes of a room. -/
def SzM (ms : List Mbr) (gl : List Msg) : Prop := ms.length ≤ 1000 ∧ gl.length ≤ 1000 ∧ (∀ m ∈ ms, m.ign.length ≤ 1000) ∧ ∀ x ∈ gl, x.txt.length ≤ 1000
instance (ms : List Mbr) (gl : List Msg) : Decidable (SzM ms gl) := inferInstanceAs (Decidable (_ ∧ _))
theorem szM_sz {L : List MbrP} {ms : List Mbr} {gl : List Msg} (hp : mbrs L = ms) (h : SzM ms gl) : SzR L gl := by
  subst hp
  obtain ⟨h1, h2, h3, h4⟩ := h
  rw [mbrs_len] at h1
  exact ⟨by omega, by omega, fun x hx => by have := h3 x.m (List.mem_map_of_mem hx); omega, fun x hx => by have := h4 x hx; omega⟩
theorem vrom_sz {r : Rom} (h : VRom r) : SzM r.ms r.log := by
  refine ⟨by have := h.msl; omega, by have := h.logl; omega, fun m hm => by have := (h.mok m hm).len; omega, fun x hx => ?_⟩
  have := h.log.txt x hx
  unfold textB at this
  simp only [Bool.and_eq_true, decide_eq_true_eq] at this
  omega
theorem say_mask {m1 m2 : List UInt8 → List UInt8} {r : Rom} {id tick : Int} {txt : List UInt8} (h : m1 txt = m2 txt) : sayR m1 r id tick txt = sayR m2 r id tick txt := by unfold sayR; rw [h]
theorem FilV.mask_is {N : List Nod} {V : List (List Nat)} (h : FilV N V) {s t : List UInt8} (e : maskS V (n8 s) = n8 t) : maskB N s = t := n8_inj ((h.mask s).trans e)
end Go.Proofs.Ytplhnnlklnbahaa

/- marcheslaw37: awake. -/
namespace Go.Proofs.Ytplhnnlklnbahaa
open Go.Fw Go.RowKit
instance : DecidableEq Mat := fun x y => decidable_of_iff (x.at' = y.at' ∧ x.len = y.len ∧ x.word = y.word) ⟨fun ⟨a, b, c⟩ => by cases x; cases y; simp_all, fun h => by subst h; exact ⟨rfl, rfl, rfl⟩⟩
instance : TCmp Try.prog 53 Mat := ⟨by kernel_rfl, fun x y w => by
  rw [show (10000 : Nat) = 9999 + 1 from rfl, run_equalIn_agg w 9999 _ _ _ (by kernel_rfl) (by kernel_rfl)]
  have ha : ∀ w, (isAgg 3).run Try.prog w = .ok false w := fun w => by kernel_rfl
  simp only [Program.fieldsOf, Try.underlying53, Op.eqFields, part, ha, Sem.run_bind, Result.andThen_ok]
  obtain ⟨a0, a1, a2⟩ := x
  obtain ⟨b0, b1, b2⟩ := y
  by_cases h0 : a0 = b0
  case neg => simp [Flat.enc, ha, run_equalIn_int w 9998 _ .i64 .i64 _ _ Try.underlying3, h0]
  by_cases h1 : a1 = b1
  case neg => simp [Flat.enc, ha, run_equalIn_int w 9998 _ .i64 .i64 _ _ Try.underlying3, h0, h1]
  by_cases h2 : a2 = b2
  case neg => simp [Flat.enc, ha, run_equalIn_int w 9998 _ .i64 .i64 _ _ Try.underlying3, h0, h1, h2]
  simp [Flat.enc, ha, run_equalIn_int w 9998 _ .i64 .i64 _ _ Try.underlying3, h0, h1, h2]⟩
abbrev awW : List (List UInt8) := [[104, 101], [115, 104, 101], [104, 105, 115], [104, 101, 114, 115]]
abbrev awV : List (List UInt8) := [[97, 98], [98, 99]]
instance (ws : List (List Nat)) : Decidable (rightW ws) := inferInstanceAs (Decidable (_ ∧ _))
/-- A filter of words that are right. -/
theorem buildR_spec (A0 : Option Addr) (c0 : Nat) (ws : List (List UInt8)) (w : World) (hl : ws.length ≤ 1000000) (hsz : ∀ s ∈ ws, s.length ≤ 1000000) (hR : rightW (ws.map n8)) (hr : Rd w A0 ws) :
    Ret Try.prog 23 [.slice A0 ws.length c0].toArray w (RP w fun v H' => ∃ p N, v = .tuple #[.pointer (some p), .int .i64 0] ∧ FilV N (voc ws) ∧ N.length ≤ 3000 ∧ H' = [kfil p N]) :=
  (buildK_spec A0 c0 ws w hl hsz hr).mono fun v w' ⟨H', hB, hw⟩ => ⟨H', by
    rcases hB with ⟨_, h⟩ | ⟨h, _⟩
    · exact h
    · exact absurd hR h, hw⟩
theorem aw_rW : rightW (awW.map n8) := by decide
theorem aw_rV : rightW (awV.map n8) := by decide
theorem rd0 {w : World} : RdR w none [] none [] := ⟨Rd.nil _ none, fun x h => (by cases h), Rd.nil _ none⟩
def awG (k : Nat) : List Msg := ⟨1, 5, 1, [117, 42, 42, 42, 42, 42]⟩ :: ([⟨2, 6, 1, [42, 42]⟩, ⟨3, 7, 1, [42, 42]⟩, ⟨4, 8, 1, [42, 42]⟩] : List Msg).take k
theorem aw_sz37 (k : Nat) : SzM [⟨1, []⟩, ⟨2, [1]⟩] (awG k) := by
  refine ⟨by decide, ?_, by decide, fun x hx => ?_⟩
  · unfold awG
    rw [List.length_cons, List.length_take]
    show min k 3 + 1 ≤ 1000
    omega
  · have : x ∈ awG 3 := by
      rcases List.mem_cons.1 hx with rfl | h
      · exact List.mem_cons_self
      · exact List.mem_cons_of_mem _ (List.mem_of_mem_take h)
    revert this
    exact (by decide : ∀ x ∈ awG 3, x.txt.length ≤ 1000) x
theorem aw_say : ∀ k, k < 3 → sayR (fun _ => [42, 42]) (⟨5 + (k : Nat), 1 + (k : Nat), [⟨1, []⟩, ⟨2, [1]⟩], awG k⟩ : Rom) 1 (6 + (k : Nat)) [104, 101] = ((⟨5 + ((k + 1 : Nat) : Int), 1 + ((k + 1 : Nat) : Int), [⟨1, []⟩, ⟨2, [1]⟩], awG (k + 1)⟩ : Rom), 0)
  | 0, _ => by kernel_rfl
  | 1, _ => by kernel_rfl
  | 2, _ => by kernel_rfl
  | n + 3, h => by omega
set_option maxHeartbeats 8000000 in
set_option maxRecDepth 100000 in
theorem awake37_spec (w : World) : Ret Try.prog 11 ([] : List Value).toArray w (Out w (.bool true)) := by
  have hB1 := fun A c w hr => buildR_spec A c awW w (by decide) (by decide) aw_rW hr
  have hB2 := fun A c w hr => buildR_spec A c awV w (by decide) (by decide) aw_rV hr
  refine enterH Try.func11 rfl rfl Try.ntmps11 rfl (Wd.refl _) ?_
  (repeat' (first | (show VH _ _ _ _ _ _ _; first | refine v_seq ?_ | refine r_seq ?_) | (show SH _ _ _ _ _ (_ :: _) _ _ _; (show SH _ _ _ _ _ (⟨_, .assign _, _, _, _, _⟩ :: _) _ _ _; refine asg evL ?_)) | refine s_nil ?_ | refine kh_normal ?_))
  refine bsl (l := awW) rfl rfl (Vals.cons rfl (Vals.cons rfl (Vals.cons rfl (Vals.cons rfl Vals.nil)))) rfl rfl (by decide) (fun b1 => ?_)
  (repeat' ((show SH _ _ _ _ _ (⟨_, .call ⟨.value (.func 23), _, _⟩, _, _, _, _⟩ :: _) _ _ _; refine cp (callee := .func 23) rfl (fun w hw => hB1 _ _ w (hw.rd spL)) rfl rfl ?_)))
  rintro _ _ ⟨p1, N1, rfl, hV1, hN1, rfl⟩
  (repeat' (first | (show VH _ _ _ _ _ _ _; first | refine v_seq ?_ | refine r_seq ?_) | (show SH _ _ _ _ _ (_ :: _) _ _ _; first | (show SH _ _ _ _ _ (⟨_, .move _, _, _, _, _⟩ :: _) _ _ _; refine mov evL ?_) | (show SH _ _ _ _ _ (⟨_, .assign _, _, _, _, _⟩ :: _) _ _ _; refine asg evL ?_) | refine extr rfl rfl ?_) | refine s_nil ?_ | refine kh_normal ?_))
  refine bsl (l := awV) rfl rfl (Vals.cons rfl (Vals.cons rfl Vals.nil)) rfl rfl (by decide) (fun b2 => ?_)
  (repeat' ((show SH _ _ _ _ _ (⟨_, .call ⟨.value (.func 23), _, _⟩, _, _, _, _⟩ :: _) _ _ _; refine cp (callee := .func 23) rfl (fun w hw => hB2 _ _ w (hw.rd spL)) rfl rfl ?_)))
  rintro _ _ ⟨p2, N2, rfl, hV2, hN2, rfl⟩
  have hm1 : matL N1 [117, 115, 104, 101, 114, 115] = [⟨1, 3, 1⟩, ⟨2, 2, 0⟩, ⟨2, 4, 3⟩] := (hV1.mats _).trans (by kernel_rfl)
  have hk1 : maskB N1 [117, 83, 104, 101, 114, 115, 32, 97, 110, 100, 32, 84, 72, 73, 83] = [117, 42, 42, 42, 42, 42, 32, 97, 110, 100, 32, 84, 42, 42, 42] := hV1.mask_is (by kernel_rfl)
  have hk2 : maskB N2 [97, 98, 99, 97, 98] = [42, 42, 42, 42, 42] := hV2.mask_is (by kernel_rfl)
  have hk3 : maskB N1 [117, 115, 104, 101, 114, 115] = [117, 42, 42, 42, 42, 42] := hV1.mask_is (by kernel_rfl)
  have hk4 : maskB N1 [104, 101] = [42, 42] := hV1.mask_is (by kernel_rfl)
  have hF := fun w hf => find37F_spec (.pointer (some p1)) N1 _ [117, 115, 104, 101, 114, 115] w (by decide) (by omega) hf (.inr hV1)
  have hM1 := fun w hf => mask37_spec (.pointer (some p1)) N1 _ [117, 83, 104, 101, 114, 115, 32, 97, 110, 100, 32, 84, 72, 73, 83] w (by decide) (by omega) hf (.inr hV1)
  have hM2 := fun w hf => mask37_spec (.pointer (some p2)) N2 _ [97, 98, 99, 97, 98] w (by decide) (by omega) hf (.inr hV2)
  rw [hm1] at hF
  rw [hk1] at hM1
  rw [hk2] at hM2
  clear hm1 hk1 hk2 hB1 hB2
  (repeat' (first | (show VH _ _ _ _ _ _ _; first | refine v_seq ?_ | refine r_seq ?_ | refine v_skip ?_ | refine v_cond_f rfl tbL ?_) | (show SH _ _ _ _ _ (_ :: _) _ _ _; first | (show SH _ _ _ _ _ (⟨_, _, _, _, _, some _⟩ :: _) _ _ _; (refine gif rfl rfl ?_; refine giFF tbL ?_)) | (show SH _ _ _ _ _ (⟨_, .move _, _, _, _, _⟩ :: _) _ _ _; refine mov evL ?_) | (show SH _ _ _ _ _ (⟨_, .assign _, _, _, _, _⟩ :: _) _ _ _; refine asg evL ?_) | refine peq rfl rfl ?_ | (show SH _ _ _ _ _ (⟨_, .binOp .neq _ _ _ _, _, _, _, _⟩ :: _) _ _ _; refine neqF rfl rfl omD ?_) | (show SH _ _ _ _ _ (⟨_, .call ⟨.value (.func 25), _, _⟩, _, _, _, _⟩ :: _) _ _ _; refine cp (callee := .func 25) rfl (fun w hw => hF w (Wd.kf hw spL)) rfl rfl ?_) | (show SH _ _ _ _ _ (⟨_, .pick _ _ _, _, _, _, _⟩ :: _) _ _ _; refine pkf rfl tbL evL ?_) | refine extr rfl rfl ?_) | refine s_nil ?_ | refine kh_normal ?_))
  rintro _ _ ⟨A5, c5, rfl, rfl⟩
  (repeat' (first | (show VH _ _ _ _ _ _ _; first | refine v_seq ?_ | refine r_seq ?_) | (show SH _ _ _ _ _ (_ :: _) _ _ _; first | (show SH _ _ _ _ _ (⟨_, _, _, _, _, some _⟩ :: _) _ _ _; (refine gif rfl rfl ?_; refine giFF tbL ?_)) | (show SH _ _ _ _ _ (⟨_, .move _, _, _, _, _⟩ :: _) _ _ _; refine mov evL ?_) | (show SH _ _ _ _ _ (⟨_, .assign _, _, _, _, _⟩ :: _) _ _ _; refine asg evL ?_) | refine neq rfl rfl ?_ | (show SH _ _ _ _ _ (⟨_, .load _ _, _, _, _, _⟩ :: _) _ _ _; first | refine lra rfl (fun _ _ => rdS) (by rfl) omL ?_ | refine lra rfl (fun _ _ => rdS) (by rfl) (by simp only [List.length_cons, List.length_nil]; omega) ?_) | (show SH _ _ _ _ _ (⟨_, .indexAddr _ _ _, _, _, _, _⟩ :: _) _ _ _; first | refine ixi rfl rfl (fun _ _ => rdS) (by rfl) omL omL omL ?_ | refine ixi rfl rfl (fun _ _ => rdS) (by rfl) omL (by first | omega | (simp only [List.length_cons, List.length_nil]; omega)) (by simp only [List.length_cons, List.length_nil]; omega) ?_) | refine slen rfl ?_ | refine bld rfl rfl ?_) | refine s_nil ?_ | refine kh_normal ?_))
  refine nea (⟨1, 3, 1⟩ : Mat) (⟨1, 3, 1⟩ : Mat) rfl rfl ?_
  rw [show (!decide ((⟨1, 3, 1⟩ : Mat) = (⟨1, 3, 1⟩ : Mat))) = false by decide]
  (repeat' ((show SH _ _ _ _ _ (_ :: _) _ _ _; first | (show SH _ _ _ _ _ (⟨_, _, _, _, _, some _⟩ :: _) _ _ _; (refine gif rfl rfl ?_; refine giFF tbL ?_)) | (show SH _ _ _ _ _ (⟨_, .move _, _, _, _, _⟩ :: _) _ _ _; refine mov evL ?_) | (show SH _ _ _ _ _ (⟨_, .load _ _, _, _, _, _⟩ :: _) _ _ _; first | refine lra rfl (fun _ _ => rdS) (by rfl) omL ?_ | refine lra rfl (fun _ _ => rdS) (by rfl) (by simp only [List.length_cons, List.length_nil]; omega) ?_) | (show SH _ _ _ _ _ (⟨_, .indexAddr _ _ _, _, _, _, _⟩ :: _) _ _ _; first | refine ixi rfl rfl (fun _ _ => rdS) (by rfl) omL omL omL ?_ | refine ixi rfl rfl (fun _ _ => rdS) (by rfl) omL (by first | omega | (simp only [List.length_cons, List.length_nil]; omega)) (by simp only [List.length_cons, List.length_nil]; omega) ?_) | (show SH _ _ _ _ _ (⟨_, .pick _ _ _, _, _, _, _⟩ :: _) _ _ _; refine pkf rfl tbL evL ?_) | refine bld rfl rfl ?_)))
  refine nea (⟨2, 2, 0⟩ : Mat) (⟨2, 2, 0⟩ : Mat) rfl rfl ?_
  rw [show (!decide ((⟨2, 2, 0⟩ : Mat) = (⟨2, 2, 0⟩ : Mat))) = false by decide]
  (repeat' ((show SH _ _ _ _ _ (_ :: _) _ _ _; first | (show SH _ _ _ _ _ (⟨_, _, _, _, _, some _⟩ :: _) _ _ _; (refine gif rfl rfl ?_; refine giFF tbL ?_)) | (show SH _ _ _ _ _ (⟨_, .move _, _, _, _, _⟩ :: _) _ _ _; refine mov evL ?_) | (show SH _ _ _ _ _ (⟨_, .load _ _, _, _, _, _⟩ :: _) _ _ _; first | refine lra rfl (fun _ _ => rdS) (by rfl) omL ?_ | refine lra rfl (fun _ _ => rdS) (by rfl) (by simp only [List.length_cons, List.length_nil]; omega) ?_) | (show SH _ _ _ _ _ (⟨_, .indexAddr _ _ _, _, _, _, _⟩ :: _) _ _ _; first | refine ixi rfl rfl (fun _ _ => rdS) (by rfl) omL omL omL ?_ | refine ixi rfl rfl (fun _ _ => rdS) (by rfl) omL (by first | omega | (simp only [List.length_cons, List.length_nil]; omega)) (by simp only [List.length_cons, List.length_nil]; omega) ?_) | (show SH _ _ _ _ _ (⟨_, .pick _ _ _, _, _, _, _⟩ :: _) _ _ _; refine pkf rfl tbL evL ?_) | refine bld rfl rfl ?_)))
  refine nea (⟨2, 4, 3⟩ : Mat) (⟨2, 4, 3⟩ : Mat) rfl rfl ?_
  rw [show (!decide ((⟨2, 4, 3⟩ : Mat) = (⟨2, 4, 3⟩ : Mat))) = false by decide]
  (repeat' ((show SH _ _ _ _ _ (_ :: _) _ _ _; first | (show SH _ _ _ _ _ (⟨_, _, _, _, _, some _⟩ :: _) _ _ _; (refine gif rfl rfl ?_; refine giFF tbL ?_)) | (show SH _ _ _ _ _ (⟨_, .move _, _, _, _, _⟩ :: _) _ _ _; refine mov evL ?_) | (show SH _ _ _ _ _ (⟨_, .call ⟨.value (.func 24), _, _⟩, _, _, _, _⟩ :: _) _ _ _; refine cl (callee := .func 24) rfl (fun w hw => hM1 w (Wd.kf hw spL)) rfl rfl ?_) | (show SH _ _ _ _ _ (⟨_, .pick _ _ _, _, _, _, _⟩ :: _) _ _ _; refine pkf rfl tbL evL ?_))))
  refine sneF (s := [117, 42, 42, 42, 42, 42, 32, 97, 110, 100, 32, 84, 42, 42, 42]) (t := [117, 42, 42, 42, 42, 42, 32, 97, 110, 100, 32, 84, 42, 42, 42]) rfl rfl rfl ?_
  (repeat' ((show SH _ _ _ _ _ (_ :: _) _ _ _; first | (show SH _ _ _ _ _ (⟨_, _, _, _, _, some _⟩ :: _) _ _ _; (refine gif rfl rfl ?_; refine giFF tbL ?_)) | (show SH _ _ _ _ _ (⟨_, .move _, _, _, _, _⟩ :: _) _ _ _; refine mov evL ?_) | (show SH _ _ _ _ _ (⟨_, .call ⟨.value (.func 24), _, _⟩, _, _, _, _⟩ :: _) _ _ _; refine cl (callee := .func 24) rfl (fun w hw => hM2 w (Wd.kf hw spL)) rfl rfl ?_) | (show SH _ _ _ _ _ (⟨_, .pick _ _ _, _, _, _, _⟩ :: _) _ _ _; refine pkf rfl tbL evL ?_))))
  refine sneF (s := [42, 42, 42, 42, 42]) (t := [42, 42, 42, 42, 42]) rfl rfl rfl ?_
  (repeat' (first | (show VH _ _ _ _ _ _ _; first | refine v_seq ?_ | refine r_seq ?_ | refine v_skip ?_ | refine v_cond_f rfl tbL ?_) | (show SH _ _ _ _ _ (_ :: _) _ _ _; first | (show SH _ _ _ _ _ (⟨_, .pick _ _ _, _, _, _, _⟩ :: _) _ _ _; refine pkf rfl tbL evL ?_) | refine bld rfl rfl ?_) | refine s_nil ?_ | refine kh_normal ?_))
  clear hF hM1 hM2
  have hz0 : SzR [] [] := szM_sz (L := []) (ms := []) rfl (by decide)
  have h1 := fun w => outRK_of (r' := ((⟨0, 0, [⟨2, []⟩], []⟩ : Rom), 0)) (by kernel_rfl) (join37_spec 0 0 none [] 0 none [] 0 2 w hz0 (by omega) rd0)
  simp only [OutRK, rv37] at h1
  (repeat' ((show SH _ _ _ _ _ (⟨_, .call ⟨.value (.func 18), _, _⟩, _, _, _, _⟩ :: _) _ _ _; refine cp (callee := .func 18) rfl (fun w hw => h1 w) rfl rfl ?_)))
  rintro _ _ ⟨A6, c6, L6, B6, d6, hp6, rfl, rfl⟩
  have h7 := fun w hr => outRK_of (r' := ((⟨0, 0, [⟨1, []⟩, ⟨2, []⟩], []⟩ : Rom), 0)) (by unfold rom; rw [hp6]; kernel_rfl) (join37_spec 0 0 A6 L6 c6 B6 [] d6 1 w (szM_sz hp6 (by decide)) (by omega) hr)
  simp only [OutRK, rv37] at h7
  (repeat' (first | (show VH _ _ _ _ _ _ _; first | refine v_seq ?_ | refine r_seq ?_) | (show SH _ _ _ _ _ (_ :: _) _ _ _; first | (show SH _ _ _ _ _ (⟨_, .move _, _, _, _, _⟩ :: _) _ _ _; refine mov evL ?_) | (show SH _ _ _ _ _ (⟨_, .assign _, _, _, _, _⟩ :: _) _ _ _; refine asg evL ?_) | (show SH _ _ _ _ _ (⟨_, .load _ _, _, _, _, _⟩ :: _) _ _ _; refine lba rfl spL (by rfl) ?_) | (show SH _ _ _ _ _ (⟨_, .call ⟨.value (.func 18), _, _⟩, _, _, _, _⟩ :: _) _ _ _; refine cp (callee := .func 18) rfl (fun w hw => h7 w (Wd.kr hw spL)) rfl rfl ?_) | refine extr rfl rfl ?_ | refine ala rfl (fun b => ?_) | (show SH _ _ _ _ _ (⟨_, .store _ _ _, _, _, _, _⟩ :: _) _ _ _; refine sta rfl rfl rfl spL (by rfl) (by rfl) (by rfl) kpL ?_)) | refine s_nil ?_ | refine kh_normal ?_))
  rintro _ _ ⟨A7, c7, L7, B7, d7, hp7, rfl, rfl⟩
  have h8 := fun w hr hf => outRK_of (r' := ((⟨5, 1, [⟨1, []⟩, ⟨2, []⟩], [⟨1, 5, 1, [117, 42, 42, 42, 42, 42]⟩]⟩ : Rom), 0)) (by unfold rom; rw [hp7]; rw [say_mask (m2 := fun _ => [117, 42, 42, 42, 42, 42]) hk3]; kernel_rfl) (say37_spec 0 0 A7 L7 c7 B7 [] d7 (.pointer (some p1)) N1 _ 1 5 [117, 115, 104, 101, 114, 115] w (szM_sz hp7 (by decide)) (by omega) hr (by decide) (by omega) hf (.inr hV1))
  simp only [OutRK, rv37] at h8
  (repeat' (first | (show VH _ _ _ _ _ _ _; first | refine v_seq ?_ | refine r_seq ?_) | (show SH _ _ _ _ _ (_ :: _) _ _ _; first | (show SH _ _ _ _ _ (⟨_, .move _, _, _, _, _⟩ :: _) _ _ _; refine mov evL ?_) | (show SH _ _ _ _ _ (⟨_, .assign _, _, _, _, _⟩ :: _) _ _ _; refine asg evL ?_) | (show SH _ _ _ _ _ (⟨_, .load _ _, _, _, _, _⟩ :: _) _ _ _; refine lba rfl spL (by rfl) ?_) | (show SH _ _ _ _ _ (⟨_, .call ⟨.value (.func 27), _, _⟩, _, _, _, _⟩ :: _) _ _ _; refine cp (callee := .func 27) rfl (fun w hw => h8 w (Wd.kr hw spL) (Wd.kf hw spL)) rfl rfl ?_) | refine extr rfl rfl ?_ | (show SH _ _ _ _ _ (⟨_, .store _ _ _, _, _, _, _⟩ :: _) _ _ _; refine sta rfl rfl rfl spL (by rfl) (by rfl) (by rfl) kpL ?_)) | refine s_nil ?_ | refine kh_normal ?_))
  rintro _ _ ⟨A8, c8, L8, B8, d8, hp8, rfl, rfl⟩
  have h9 := fun w hr => outRK_of (r' := ((⟨5, 1, [⟨1, []⟩, ⟨2, [1]⟩], [⟨1, 5, 1, [117, 42, 42, 42, 42, 42]⟩]⟩ : Rom), 0)) (by unfold rom; rw [hp8]; kernel_rfl) (ignore37_spec 5 1 A8 L8 c8 B8 [⟨1, 5, 1, [117, 42, 42, 42, 42, 42]⟩] d8 2 1 true w (szM_sz hp8 (by decide)) (by omega) hr)
  simp only [OutRK, rv37] at h9
  (repeat' (first | (show VH _ _ _ _ _ _ _; first | refine v_seq ?_ | refine r_seq ?_) | (show SH _ _ _ _ _ (_ :: _) _ _ _; first | (show SH _ _ _ _ _ (⟨_, .move _, _, _, _, _⟩ :: _) _ _ _; refine mov evL ?_) | (show SH _ _ _ _ _ (⟨_, .assign _, _, _, _, _⟩ :: _) _ _ _; refine asg evL ?_) | (show SH _ _ _ _ _ (⟨_, .load _ _, _, _, _, _⟩ :: _) _ _ _; refine lba rfl spL (by rfl) ?_) | (show SH _ _ _ _ _ (⟨_, .call ⟨.value (.func 19), _, _⟩, _, _, _, _⟩ :: _) _ _ _; refine cp (callee := .func 19) rfl (fun w hw => h9 w (Wd.kr hw spL)) rfl rfl ?_) | refine extr rfl rfl ?_ | (show SH _ _ _ _ _ (⟨_, .store _ _ _, _, _, _, _⟩ :: _) _ _ _; refine sta rfl rfl rfl spL (by rfl) (by rfl) (by rfl) kpL ?_)) | refine s_nil ?_ | refine kh_normal ?_))
  rintro _ _ ⟨A9, c9, L9, B9, d9, hp9, rfl, rfl⟩
  have e10 : hearR (rom 5 1 L9 [⟨1, 5, 1, [117, 42, 42, 42, 42, 42]⟩]) 1 0 = ([⟨1, 5, 1, [117, 42, 42, 42, 42, 42]⟩], 0) := by unfold rom; rw [hp9]; kernel_rfl
  have h10 := fun w hr => hear37_spec 5 1 A9 L9 c9 B9 [⟨1, 5, 1, [117, 42, 42, 42, 42, 42]⟩] d9 1 0 w (szM_sz hp9 (by decide)) (by omega) hr
  rw [e10] at h10
  simp only [OutHe, rv37] at h10
  (repeat' (first | (show VH _ _ _ _ _ _ _; first | refine v_seq ?_ | refine r_seq ?_) | (show SH _ _ _ _ _ (_ :: _) _ _ _; first | (show SH _ _ _ _ _ (⟨_, .move _, _, _, _, _⟩ :: _) _ _ _; refine mov evL ?_) | (show SH _ _ _ _ _ (⟨_, .assign _, _, _, _, _⟩ :: _) _ _ _; refine asg evL ?_) | (show SH _ _ _ _ _ (⟨_, .load _ _, _, _, _, _⟩ :: _) _ _ _; refine lba rfl spL (by rfl) ?_) | (show SH _ _ _ _ _ (⟨_, .call ⟨.value (.func 15), _, _⟩, _, _, _, _⟩ :: _) _ _ _; refine cp (callee := .func 15) rfl (fun w hw => h10 w (Wd.kr hw spL)) rfl rfl ?_) | refine extr rfl rfl ?_ | (show SH _ _ _ _ _ (⟨_, .store _ _ _, _, _, _, _⟩ :: _) _ _ _; refine sta rfl rfl rfl spL (by rfl) (by rfl) (by rfl) kpL ?_)) | refine s_nil ?_ | refine kh_normal ?_))
  rintro _ _ ⟨B10, d10, rfl, rfl⟩
  have e11 : hearR (rom 5 1 L9 [⟨1, 5, 1, [117, 42, 42, 42, 42, 42]⟩]) 2 0 = ([], 0) := by unfold rom; rw [hp9]; kernel_rfl
  have h11 := fun w hr => hear37_spec 5 1 A9 L9 c9 B9 [⟨1, 5, 1, [117, 42, 42, 42, 42, 42]⟩] d9 2 0 w (szM_sz hp9 (by decide)) (by omega) hr
  rw [e11] at h11
  simp only [OutHe, rv37] at h11
  (repeat' (first | (show VH _ _ _ _ _ _ _; first | refine v_seq ?_ | refine r_seq ?_) | (show SH _ _ _ _ _ (_ :: _) _ _ _; first | (show SH _ _ _ _ _ (⟨_, .move _, _, _, _, _⟩ :: _) _ _ _; refine mov evL ?_) | (show SH _ _ _ _ _ (⟨_, .assign _, _, _, _, _⟩ :: _) _ _ _; refine asg evL ?_) | (show SH _ _ _ _ _ (⟨_, .load _ _, _, _, _, _⟩ :: _) _ _ _; refine lba rfl spL (by rfl) ?_) | (show SH _ _ _ _ _ (⟨_, .call ⟨.value (.func 15), _, _⟩, _, _, _, _⟩ :: _) _ _ _; refine cp (callee := .func 15) rfl (fun w hw => h11 w (Wd.kr hw spL)) rfl rfl ?_) | refine extr rfl rfl ?_) | refine s_nil ?_ | refine kh_normal ?_))
  rintro _ _ ⟨B11, d11, rfl, rfl⟩
  (repeat' (first | (show VH _ _ _ _ _ _ _; first | refine v_seq ?_ | refine r_seq ?_ | refine v_block ?_) | (show SH _ _ _ _ _ (_ :: _) _ _ _; first | (show SH _ _ _ _ _ (⟨_, .move _, _, _, _, _⟩ :: _) _ _ _; refine mov evL ?_) | (show SH _ _ _ _ _ (⟨_, .assign _, _, _, _, _⟩ :: _) _ _ _; refine asg evL ?_) | refine extr rfl rfl ?_) | refine s_nil ?_ | refine kh_normal ?_))
  revert b
  intro b6
  trace_state
  refine v_norm [(0,_),(1,_),(6,_),(7,_),(8,_),(9,_),(10,_),(11,_),(12,_),(13,_),(14,_),(15,_)] heL (fun g => ?_)
  refine VH.ent (G := [bx b6 25 [.int .i64 (5 + (0 : Nat)), .int .i64 (1 + (0 : Nat)), .slice A9 L9.length c9, .slice B9 (awG 0).length d9], knr A9 L9 B9 (awG 0), kfil p1 N1, orow 36 B10 d10 ([⟨1, 5, 1, [117, 42, 42, 42, 42, 42]⟩] : List Msg)]) ?_ enL
  refine v_loop [(15,15),(110,120)] (fun y : Nat × (Option Addr × Nat × List MbrP × Option Addr × Nat) => [(15, .int .i64 (6 + (y.1 : Nat)))]) (fun y => [bx b6 25 [.int .i64 (5 + (y.1 : Nat)), .int .i64 (1 + (y.1 : Nat)), .slice y.2.1 y.2.2.2.1.length y.2.2.1, .slice y.2.2.2.2.1 (awG y.1).length y.2.2.2.2.2], knr y.2.1 y.2.2.2.1 y.2.2.2.2.1 (awG y.1), kfil p1 N1, orow 36 B10 d10 ([⟨1, 5, 1, [117, 42, 42, 42, 42, 42]⟩] : List Msg)]) (fun y => y.1 ≤ 3 ∧ mbrs y.2.2.2.1 = [⟨1, []⟩, ⟨2, [1]⟩]) (fun y => 3 - y.1) (0, A9, c9, L9, B9, d9) hsL (ent_refl _) ⟨Nat.zero_le 3, hp9⟩ ?_
  rintro ⟨k, A, c, L, B, d⟩ g ⟨hk, hp⟩
  simp only [sets]
  simp only at hk hp
  have hzk : SzR L (awG k) := szM_sz hp (aw_sz37 k)
  by_cases hk3' : k < 3
  · have e12 : sayR (maskB N1) (rom (5 + (k : Nat)) (1 + (k : Nat)) L (awG k)) 1 (6 + (k : Nat)) [104, 101] = ((⟨5 + ((k + 1 : Nat) : Int), 1 + ((k + 1 : Nat) : Int), [⟨1, []⟩, ⟨2, [1]⟩], awG (k + 1)⟩ : Rom), 0) := by
      unfold rom
      rw [hp, say_mask (m2 := fun _ => [42, 42]) hk4]
      exact aw_say k hk3'
    have h12 := fun w hr hf => outRK_of e12 (say37_spec (5 + (k : Nat)) (1 + (k : Nat)) A L c B (awG k) d (.pointer (some p1)) N1 _ 1 (6 + (k : Nat)) [104, 101] w hzk (by omega) hr (by decide) (by omega) hf (.inr hV1))
    simp only [OutRK, rv37] at h12
    clear e12
    have e6 : (6 : Int) + (k : Nat) + 1 = 6 + ((k + 1 : Nat) : Int) := by omega
    have hk6 : (6 : Int) + (k : Nat) < 9 := by omega
    (repeat' (first | (show VH _ _ _ _ _ _ _; first | refine v_seq ?_ | refine r_seq ?_ | refine v_block ?_ | refine v_skip ?_ | refine v_cond_t rfl tbL ?_) | (show SH _ _ _ _ _ (_ :: _) _ _ _; first | (show SH _ _ _ _ _ (⟨_, .move _, _, _, _, _⟩ :: _) _ _ _; refine mov evL ?_) | (show SH _ _ _ _ _ (⟨_, .binOp .lss _ _ _ _, _, _, _, _⟩ :: _) _ _ _; refine lssT rfl rfl omD ?_) | (show SH _ _ _ _ _ (⟨_, .load _ _, _, _, _, _⟩ :: _) _ _ _; refine lba rfl spL (by rfl) ?_) | (show SH _ _ _ _ _ (⟨_, .call ⟨.value (.func 27), _, _⟩, _, _, _, _⟩ :: _) _ _ _; refine cp (callee := .func 27) rfl (fun w hw => h12 w (Wd.kr hw spL) (Wd.kf hw spL)) rfl rfl ?_)) | refine s_nil ?_ | refine kh_normal ?_))
    rintro _ _ ⟨A', c', L', B', d', hp', rfl, rfl⟩
    (repeat' (first | refine r_seq ?_ | (show SH _ _ _ _ _ (_ :: _) _ _ _; first | (show SH _ _ _ _ _ (⟨_, .move _, _, _, _, _⟩ :: _) _ _ _; refine mov evL ?_) | (show SH _ _ _ _ _ (⟨_, .assign _, _, _, _, _⟩ :: _) _ _ _; refine asg evL ?_) | (show SH _ _ _ _ _ (⟨_, .binOp .add _ _ _ _, _, _, _, _⟩ :: _) _ _ _; refine add rfl rfl inL ?_) | refine extr rfl rfl ?_ | (show SH _ _ _ _ _ (⟨_, .store _ _ _, _, _, _, _⟩ :: _) _ _ _; refine sta rfl rfl rfl spL (by rfl) (by rfl) (by rfl) kpL ?_)) | refine s_nil ?_ | refine kh_normal ?_ | refine bh_normal ?_))
    rw [e6]
    exact ⟨agL, (k + 1, A', c', L', B', d'), hsL, enL, ⟨hk3', hp'⟩, by show 3 - (k + 1) < 3 - k; omega⟩
  · obtain rfl : k = 3 := by omega
    have e13 : sayR (maskB N1) (rom (5 + (3 : Nat)) (1 + (3 : Nat)) L (awG 3)) 1 104 [104, 101] = (rom0, 372) := by
      unfold rom
      rw [hp, say_mask (m2 := fun _ => [42, 42]) hk4]
      kernel_rfl
    have h13 := fun w hr hf => outRK_of e13 (say37_spec (5 + (3 : Nat)) (1 + (3 : Nat)) A L c B (awG 3) d (.pointer (some p1)) N1 _ 1 104 [104, 101] w hzk (by omega) hr (by decide) (by omega) hf (.inr hV1))
    have e14 : sayR (maskB N1) (rom (5 + (3 : Nat)) (1 + (3 : Nat)) L (awG 3)) 1 105 [104, 101] = ((⟨105, 5, [⟨1, []⟩, ⟨2, [1]⟩], (awG 3 ++ [(⟨5, 105, 1, [42, 42]⟩ : Msg)])⟩ : Rom), 0) := by
      unfold rom
      rw [hp, say_mask (m2 := fun _ => [42, 42]) hk4]
      kernel_rfl
    have h14 := fun w hr hf => outRK_of e14 (say37_spec (5 + (3 : Nat)) (1 + (3 : Nat)) A L c B (awG 3) d (.pointer (some p1)) N1 _ 1 105 [104, 101] w hzk (by omega) hr (by decide) (by omega) hf (.inr hV1))
    simp only [OutRK, rv37, rom0] at h13 h14
    clear e13 e14
    have h69 : ¬ (6 : Int) + ((3 : Nat) : Int) < 9 := by omega
    (repeat' (first | (show VH _ _ _ _ _ _ _; first | refine v_seq ?_ | refine r_seq ?_ | refine v_exit ?_ | refine v_cond_f rfl tbL ?_) | (show SH _ _ _ _ _ (_ :: _) _ _ _; first | (show SH _ _ _ _ _ (⟨_, .move _, _, _, _, _⟩ :: _) _ _ _; refine mov evL ?_) | (show SH _ _ _ _ _ (⟨_, .binOp .lss _ _ _ _, _, _, _, _⟩ :: _) _ _ _; refine lssF rfl rfl omD ?_) | (show SH _ _ _ _ _ (⟨_, .load _ _, _, _, _, _⟩ :: _) _ _ _; refine lba rfl spL (by rfl) ?_) | (show SH _ _ _ _ _ (⟨_, .call ⟨.value (.func 27), _, _⟩, _, _, _, _⟩ :: _) _ _ _; refine cp (callee := .func 27) rfl (fun w hw => h13 w (Wd.kr hw spL) (Wd.kf hw spL)) rfl rfl ?_)) | refine s_nil ?_ | refine kh_normal ?_ | refine kh_exit ?_ | refine bh_exit ?_))
    rintro _ _ ⟨A13, c13, L13, B13, d13, hp13, rfl, rfl⟩
    (repeat' (first | (show VH _ _ _ _ _ _ _; first | refine v_seq ?_ | refine r_seq ?_) | (show SH _ _ _ _ _ (_ :: _) _ _ _; first | (show SH _ _ _ _ _ (⟨_, .move _, _, _, _, _⟩ :: _) _ _ _; refine mov evL ?_) | (show SH _ _ _ _ _ (⟨_, .assign _, _, _, _, _⟩ :: _) _ _ _; refine asg evL ?_) | (show SH _ _ _ _ _ (⟨_, .load _ _, _, _, _, _⟩ :: _) _ _ _; refine lba rfl spL (by rfl) ?_) | (show SH _ _ _ _ _ (⟨_, .call ⟨.value (.func 27), _, _⟩, _, _, _, _⟩ :: _) _ _ _; refine cp (callee := .func 27) rfl (fun w hw => h14 w (Wd.kr hw spL) (Wd.kf hw spL)) rfl rfl ?_) | refine extr rfl rfl ?_ | refine ala rfl (fun b => ?_) | (show SH _ _ _ _ _ (⟨_, .store _ _ _, _, _, _, _⟩ :: _) _ _ _; refine sta rfl rfl rfl spL (by rfl) (by rfl) (by rfl) kpL ?_)) | refine s_nil ?_ | refine kh_normal ?_))
    rintro _ _ ⟨A14, c14, L14, B14, d14, hp14, rfl, rfl⟩
    have hval : validRm (rom 105 5 L14 (awG 3 ++ [(⟨5, 105, 1, [42, 42]⟩ : Msg)])) = true := by unfold rom; rw [hp14]; kernel_rfl
    have hv := fun w hr => valid37_spec 105 5 A14 L14 c14 B14 (awG 3 ++ [(⟨5, 105, 1, [42, 42]⟩ : Msg)]) d14 w (szM_sz hp14 (by decide)) (by omega) hr
    rw [hval] at hv
    simp only [rv37] at hv
    clear hval hzk
    generalize (awG 3 ++ [(⟨5, 105, 1, [42, 42]⟩ : Msg)]) = G5 at hv ⊢
    (repeat' (first | (show VH _ _ _ _ _ _ _; first | refine v_seq ?_ | refine r_seq ?_) | (show SH _ _ _ _ _ (_ :: _) _ _ _; first | (show SH _ _ _ _ _ (⟨_, _, _, _, _, some _⟩ :: _) _ _ _; (refine gif rfl rfl ?_; refine giTT tbL ?_)) | (show SH _ _ _ _ _ (⟨_, .move _, _, _, _, _⟩ :: _) _ _ _; refine mov evL ?_) | (show SH _ _ _ _ _ (⟨_, .assign _, _, _, _, _⟩ :: _) _ _ _; refine asg evL ?_) | (show SH _ _ _ _ _ (⟨_, .binOp .eql _ _ _ _, _, _, _, _⟩ :: _) _ _ _; first | refine eqlT rfl rfl omD ?_ | refine eql rfl rfl ?_) | (show SH _ _ _ _ _ (⟨_, .load _ _, _, _, _, _⟩ :: _) _ _ _; first | refine lra rfl (fun _ _ => rdS) (by rfl) omL ?_ | refine lra rfl (fun _ _ => rdS) (by rfl) (by simp only [List.length_cons, List.length_nil]; omega) ?_) | (show SH _ _ _ _ _ (⟨_, .indexAddr _ _ _, _, _, _, _⟩ :: _) _ _ _; first | refine ixi rfl rfl (fun _ _ => rdS) (by rfl) omL omL omL ?_ | refine ixi rfl rfl (fun _ _ => rdS) (by rfl) omL (by first | omega | (simp only [List.length_cons, List.length_nil]; omega)) (by simp only [List.length_cons, List.length_nil]; omega) ?_) | refine slen rfl ?_ | (show SH _ _ _ _ _ (⟨_, .pick _ _ _, _, _, _, _⟩ :: _) _ _ _; refine pkt rfl tbL evL ?_) | refine extr rfl rfl ?_ | refine bld rfl rfl ?_ | (show SH _ _ _ _ _ (⟨_, .store _ _ _, _, _, _, _⟩ :: _) _ _ _; refine sta rfl rfl rfl spL (by rfl) (by rfl) (by rfl) kpL ?_)) | refine s_nil ?_ | refine kh_normal ?_))
    trace_state
    refine eqa ((⟨1, 5, 1, [117, 42, 42, 42, 42, 42]⟩) : Msg) (⟨1, 5, 1, [117, 42, 42, 42, 42, 42]⟩) rfl rfl ?_
    rw [show decide (((⟨1, 5, 1, [117, 42, 42, 42, 42, 42]⟩) : Msg) = (⟨1, 5, 1, [117, 42, 42, 42, 42, 42]⟩)) = true by decide]
    (repeat' (first | refine v_ret ?_ | (show SH _ _ _ _ _ (_ :: _) _ _ _; first | (show SH _ _ _ _ _ (⟨_, _, _, _, _, some _⟩ :: _) _ _ _; (refine gif rfl rfl ?_; refine giTT tbL ?_)) | (show SH _ _ _ _ _ (⟨_, .move _, _, _, _, _⟩ :: _) _ _ _; refine mov evL ?_) | (show SH _ _ _ _ _ (⟨_, .assign _, _, _, _, _⟩ :: _) _ _ _; refine asg evL ?_) | refine eql rfl rfl ?_ | (show SH _ _ _ _ _ (⟨_, .load _ _, _, _, _, _⟩ :: _) _ _ _; first | refine lbx rfl spL (by rfl) ?_ | refine lba rfl spL (by rfl) ?_) | refine slen rfl ?_ | (show SH _ _ _ _ _ (⟨_, .call ⟨.value (.func 13), _, _⟩, _, _, _, _⟩ :: _) _ _ _; refine cl (callee := .func 13) rfl (fun w hw => hv w (Wd.kr hw spL)) rfl rfl ?_) | (show SH _ _ _ _ _ (⟨_, .pick _ _ _, _, _, _, _⟩ :: _) _ _ _; refine pkt rfl tbL evL ?_) | refine fad rfl ?_) | refine s_nil ?_ | refine kh_normal ?_))
    exact rh1 rfl rfl ⟨rfl, rfl⟩ (ent_nil _)
end Go.Proofs.Ytplhnnlklnbahaa

/- Layer 37 (chat): SameInts, CopyInts, Pick; sameMessages.  -/
namespace Go.Proofs.Ytplhnnlklnbahaa
open Go.Fw Go.RowKit
section
variable {md : Md} {P : Program} {n : Nat} {Q : HQ} {f : Fr} {w0 : World} {H R : List HP} {ops : Array Oper} {rest : List Oper} {d : Nat} {op : Op} {ty : TypeId} {pos : String} {aft : Array Edge} {v : Value} {x y : Operand}
theorem remT {a b : Int} {t1 t2 : TypeId} (hx : ev n f x = .int .i64 a) (hy : ev n f y = .int .i64 b) (hb : b ≠ 0) (k : SH (nx md) P n ops Q rest (upd f d (.int .i64 (a.tmod b))) w0 H) : SH md P n ops Q (⟨some d, .binOp .rem t1 x y t2, ty, pos, aft, none⟩ :: rest) f w0 H :=
  s_val (fun w _ => ox_rem hx hy hb) k
end
theorem pick_eq {n k : Int} (hk : 0 < k) : (n.tmod k < 0 → n.tmod k + k = n % k) ∧ (¬ n.tmod k < 0 → n.tmod k = n % k) ∧ -k < n.tmod k ∧ n.tmod k < k := by
  have h1 := Int.emod_nonneg n (show k ≠ 0 by omega)
  have h2 := Int.emod_lt_of_pos n hk
  have h3 := Int.tmod_eq_emod (a := n) (b := k)
  have h4 : (k.natAbs : Int) = k := by omega
  have h5 : ¬ k ∣ n → n % k ≠ 0 := fun h e => h (Int.dvd_of_emod_eq_zero e)
  split at h3
  · omega
  · rename_i h6
    have := h5 (fun h => h6 (.inr h))
    omega
set_option maxRecDepth 100000 in
theorem pick_spec (n k : Int) (w : World) (h1 : 1 ≤ k) (h2 : k ≤ 2000000000000) : Ret Try.prog 14 [.int .i64 n, .int .i64 k].toArray w (Out w (.int .i64 (n % k))) := by
  obtain ⟨e1, e2, e3, e4⟩ := pick_eq (n := n) (show 0 < k by omega)
  refine enterH Try.func14 rfl rfl Try.ntmps14 rfl (Wd.refl _) ?_
  (repeat' (first | (show VH _ _ _ _ _ _ _; first | refine v_seq ?_ | refine r_seq ?_ | refine v_skip ?_ | refine v_cond_f rfl tbL ?_) | (show SH _ _ _ _ _ (_ :: _) _ _ _; first | (show SH _ _ _ _ _ (⟨_, .move _, _, _, _, _⟩ :: _) _ _ _; refine mov evL ?_) | (show SH _ _ _ _ _ (⟨_, .assign _, _, _, _, _⟩ :: _) _ _ _; refine asg evL ?_) | (show SH _ _ _ _ _ (⟨_, .binOp .lss _ _ _ _, _, _, _, _⟩ :: _) _ _ _; refine lssF rfl rfl omD ?_)) | refine s_nil ?_ | refine kh_normal ?_))
  refine remT rfl rfl (by omega) ?_
  generalize n.tmod k = r at e1 e2 e3 e4 ⊢
  (repeat' (first | (show VH _ _ _ _ _ _ _; first | refine v_seq ?_ | refine r_seq ?_ | refine v_ret ?_ | refine v_skip ?_ | refine v_cond_dec rfl (fun h => ?_) (fun h => ?_)) | (show SH _ _ _ _ _ (_ :: _) _ _ _; first | (show SH _ _ _ _ _ (⟨_, .move _, _, _, _, _⟩ :: _) _ _ _; refine mov evL ?_) | (show SH _ _ _ _ _ (⟨_, .assign _, _, _, _, _⟩ :: _) _ _ _; refine asg evL ?_) | refine lss rfl rfl ?_ | (show SH _ _ _ _ _ (⟨_, .binOp .add _ _ _ _, _, _, _, _⟩ :: _) _ _ _; refine add rfl rfl inL ?_)) | refine s_nil ?_ | refine kh_normal ?_))
  · exact rh1 rfl rfl ⟨congrArg (Value.int .i64) (e1 (by omega)), rfl⟩ (ent_nil _)
  · exact rh1 rfl rfl ⟨congrArg (Value.int .i64) (e2 (by omega)), rfl⟩ (ent_nil _)
set_option maxHeartbeats 1000000 in
set_option maxRecDepth 100000 in
theorem sameMessages_spec (A B : Option Addr) (l m : List Msg) (c1 c2 : Nat) (w : World) (hl : l.length ≤ 1000000) (hl2 : m.length ≤ 1000000) (hA : Rd w A l) (hB : Rd w B m) :
    Ret Try.prog 16 [.slice A l.length c1, .slice B m.length c2].toArray w (Out w (.bool (decide (l = m)))) := by
  by_cases hlen : l.length = m.length
  · refine enterH Try.func16 rfl rfl Try.ntmps16 rfl (Wd.refl _) ?_
    (repeat' (first | (show VH _ _ _ _ _ _ _; first | refine v_seq ?_ | refine r_seq ?_ | refine v_block ?_ | refine v_skip ?_ | refine v_cond_f rfl tbL ?_) | (show SH _ _ _ _ _ (_ :: _) _ _ _; first | (show SH _ _ _ _ _ (⟨_, .move _, _, _, _, _⟩ :: _) _ _ _; refine mov evL ?_) | (show SH _ _ _ _ _ (⟨_, .assign _, _, _, _, _⟩ :: _) _ _ _; refine asg evL ?_) | (show SH _ _ _ _ _ (⟨_, .binOp .neq _ _ _ _, _, _, _, _⟩ :: _) _ _ _; refine neqF rfl rfl omD ?_) | refine slen rfl ?_) | refine s_nil ?_ | refine kh_normal ?_))
    refine v_norm [(0,_),(1,_),(5,_)] heL (fun g => ?_)
    refine v_loop0 [(4,5),(11,25)] (fun k : Nat => [(5, .int .i64 k)]) (fun k => k ≤ l.length ∧ l.take k = m.take k) (fun k => l.length - k) 0 hsL ⟨Nat.zero_le _, rfl⟩ ?_
    rintro k g ⟨hk, hok⟩
    simp only [sets]
    by_cases hkl : k < l.length
    · have hkm : k < m.length := by omega
      by_cases he : l.getD k Flat.dflt = m.getD k Flat.dflt
      · have hok' : l.take (k + 1) = m.take (k + 1) := by rw [take_snoc (d := Flat.dflt) hkl, take_snoc (d := Flat.dflt) hkm, hok, he]
        clear hok
        (repeat' (first | (show VH _ _ _ _ _ _ _; first | refine v_seq ?_ | refine r_seq ?_ | refine r_quiet hmix (by kernel_rfl) ?_ | refine v_block ?_ | refine v_skip ?_ | refine v_cond_t rfl tbL ?_) | (show SH _ _ _ _ _ (_ :: _) _ _ _; first | (show SH _ _ _ _ _ (⟨_, .move _, _, _, _, _⟩ :: _) _ _ _; refine mov evL ?_) | (show SH _ _ _ _ _ (⟨_, .binOp .lss _ _ _ _, _, _, _, _⟩ :: _) _ _ _; refine lssT rfl rfl omD ?_) | (show SH _ _ _ _ _ (⟨_, .load _ _, _, _, _, _⟩ :: _) _ _ _; first | refine lra rfl (fun _ _ => rdS) (by rfl) omL ?_ | refine lra rfl (fun _ _ => rdS) (by rfl) (by simp only [List.length_cons, List.length_nil]; omega) ?_) | (show SH _ _ _ _ _ (⟨_, .indexAddr _ _ _, _, _, _, _⟩ :: _) _ _ _; refine ix rfl rfl (by with_reducible rfl) (fun _ _ => rdS) (by rfl) omL omL ?_) | refine slen rfl ?_) | refine s_nil ?_ | refine kh_normal ?_))
        refine nea (l.getD k Flat.dflt) (m.getD k Flat.dflt) rfl rfl ?_
        rw [decide_eq_true he]
        (repeat' (first | (show VH _ _ _ _ _ _ _; first | refine r_seq ?_ | refine v_skip ?_ | refine v_cond_f rfl tbL ?_) | (show SH _ _ _ _ _ (_ :: _) _ _ _; first | (show SH _ _ _ _ _ (⟨_, .move _, _, _, _, _⟩ :: _) _ _ _; refine mov evL ?_) | (show SH _ _ _ _ _ (⟨_, .assign _, _, _, _, _⟩ :: _) _ _ _; refine asg evL ?_) | (show SH _ _ _ _ _ (⟨_, .binOp .add _ _ _ _, _, _, _, _⟩ :: _) _ _ _; refine add rfl rfl inL ?_)) | refine s_nil ?_ | refine kh_normal ?_ | refine bh_normal ?_))
        exact ⟨agL, k + 1, hsL, enL, ⟨hkl, hok'⟩, by omega⟩
      · have hne : ¬ l = m := fun e => he (by rw [e])
        rw [decide_eq_false hne]
        clear hok hne
        (repeat' (first | (show VH _ _ _ _ _ _ _; first | refine v_seq ?_ | refine r_seq ?_ | refine r_quiet hmix (by kernel_rfl) ?_ | refine v_block ?_ | refine v_skip ?_ | refine v_cond_t rfl tbL ?_) | (show SH _ _ _ _ _ (_ :: _) _ _ _; first | (show SH _ _ _ _ _ (⟨_, .move _, _, _, _, _⟩ :: _) _ _ _; refine mov evL ?_) | (show SH _ _ _ _ _ (⟨_, .binOp .lss _ _ _ _, _, _, _, _⟩ :: _) _ _ _; refine lssT rfl rfl omD ?_) | (show SH _ _ _ _ _ (⟨_, .load _ _, _, _, _, _⟩ :: _) _ _ _; first | refine lra rfl (fun _ _ => rdS) (by rfl) omL ?_ | refine lra rfl (fun _ _ => rdS) (by rfl) (by simp only [List.length_cons, List.length_nil]; omega) ?_) | (show SH _ _ _ _ _ (⟨_, .indexAddr _ _ _, _, _, _, _⟩ :: _) _ _ _; refine ix rfl rfl (by with_reducible rfl) (fun _ _ => rdS) (by rfl) omL omL ?_) | refine slen rfl ?_) | refine s_nil ?_ | refine kh_normal ?_))
        refine nea (l.getD k Flat.dflt) (m.getD k Flat.dflt) rfl rfl ?_
        rw [decide_eq_false he]
        (repeat' (first | (show VH _ _ _ _ _ _ _; first | refine v_seq ?_ | refine r_seq ?_ | refine v_ret ?_ | refine v_cond_t rfl tbL ?_) | (show SH _ _ _ _ _ (_ :: _) _ _ _; (show SH _ _ _ _ _ (⟨_, .assign _, _, _, _, _⟩ :: _) _ _ _; refine asg evL ?_)) | refine s_nil ?_ | refine kh_normal ?_ | refine kh_ret ?_ | refine bh_ret ?_))
        exact rh1 rfl rfl ⟨rfl, rfl⟩ (ent_nil _)
    · obtain rfl : k = l.length := by omega
      rw [List.take_length, hlen, List.take_length] at hok
      rw [decide_eq_true hok]
      clear hok
      (repeat' (first | (show VH _ _ _ _ _ _ _; first | refine v_seq ?_ | refine r_seq ?_ | refine v_ret ?_ | refine v_exit ?_ | refine v_cond_f rfl tbL ?_) | (show SH _ _ _ _ _ (_ :: _) _ _ _; first | (show SH _ _ _ _ _ (⟨_, .move _, _, _, _, _⟩ :: _) _ _ _; refine mov evL ?_) | (show SH _ _ _ _ _ (⟨_, .assign _, _, _, _, _⟩ :: _) _ _ _; refine asg evL ?_) | (show SH _ _ _ _ _ (⟨_, .binOp .lss _ _ _ _, _, _, _, _⟩ :: _) _ _ _; refine lssF rfl rfl omD ?_) | refine slen rfl ?_) | refine s_nil ?_ | refine kh_normal ?_ | refine kh_exit ?_ | refine bh_exit ?_))
      exact rh1 rfl rfl ⟨rfl, rfl⟩ (ent_nil _)
  · have hne : ¬ l = m := fun e => hlen (by rw [e])
    rw [decide_eq_false hne]
    clear hne
    refine enterH Try.func16 rfl rfl Try.ntmps16 rfl (Wd.refl _) ?_
    (repeat' (first | (show VH _ _ _ _ _ _ _; first | refine v_seq ?_ | refine r_seq ?_ | refine v_ret ?_ | refine v_cond_t rfl tbL ?_) | (show SH _ _ _ _ _ (_ :: _) _ _ _; first | (show SH _ _ _ _ _ (⟨_, .move _, _, _, _, _⟩ :: _) _ _ _; refine mov evL ?_) | (show SH _ _ _ _ _ (⟨_, .assign _, _, _, _, _⟩ :: _) _ _ _; refine asg evL ?_) | (show SH _ _ _ _ _ (⟨_, .binOp .neq _ _ _ _, _, _, _, _⟩ :: _) _ _ _; refine neqT rfl rfl omD ?_) | refine slen rfl ?_) | refine s_nil ?_ | refine kh_normal ?_ | refine kh_ret ?_))
    all_goals first
      | exact rh1 rfl rfl ⟨rfl, rfl⟩ (ent_nil _)
      | exact absurd (by omega) hlen
end Go.Proofs.Ytplhnnlklnbahaa

/- marcheslaw37: small, Same. -/
namespace Go.Proofs.Ytplhnnlklnbahaa
open Go.Fw Go.RowKit
/-- A room that is examined. -/
def SmallM (ms : List Mbr) (gl : List Msg) : Prop := ms.length ≤ 40 ∧ gl.length ≤ 60 ∧ (∀ m ∈ ms, m.ign.length ≤ 40) ∧ ∀ x ∈ gl, x.txt.length ≤ 400
instance (ms : List Mbr) (gl : List Msg) : Decidable (SmallM ms gl) := inferInstanceAs (Decidable (_ ∧ _))
theorem small_sz {ms : List Mbr} {gl : List Msg} (h : SmallM ms gl) : SzM ms gl := by
  obtain ⟨h1, h2, h3, h4⟩ := h
  exact ⟨by omega, by omega, fun m hm => by have := h3 m hm; omega, fun x hx => by have := h4 x hx; omega⟩
theorem all_at {α : Type} (d : α) {l : List α} {p : α → Prop} (h : ∀ j, j < l.length → p (l.getD j d)) : ∀ x ∈ l, p x := fun x hx => by
  obtain ⟨j, hj, e⟩ := List.mem_iff_getElem.1 hx
  have := h j hj
  rwa [List.getD_eq_getElem?_getD, List.getElem?_eq_getElem hj, Option.getD_some, e] at this
set_option maxHeartbeats 2000000 in
set_option maxRecDepth 100000 in
theorem small37_spec (t s : Int) (A : Option Addr) (L : List MbrP) (c : Nat) (B : Option Addr) (gl : List Msg) (d : Nat) (w : World) (hl : L.length ≤ maxLen) (hgl : gl.length ≤ maxLen) (hr : RdR w A L B gl) :
    Ret Try.prog 12 [rv37 t s A L c B gl d].toArray w (Out w (.bool (decide (SmallM (mbrs L) gl)))) := by
  have hml : maxLen ≤ 9223372036854775807 := by decide
  generalize maxLen = ml at hl hgl hml
  obtain ⟨hrA, _, hrB⟩ := hr
  unfold rv37
  have hno : ∀ b, b = false → ¬ SmallM (mbrs L) gl → decide (SmallM (mbrs L) gl) = b := fun b hb h => by rw [hb]; exact decide_eq_false h
  by_cases h40 : L.length ≤ 40 ∧ gl.length ≤ 60
  · obtain ⟨h40, h60⟩ := h40
    refine enterH Try.func12 rfl rfl Try.ntmps12 rfl (Wd.refl _) ?_
    (repeat' (first | (show VH _ _ _ _ _ _ _; first | refine v_seq ?_ | refine r_seq ?_ | refine v_block ?_ | refine v_skip ?_ | refine v_cond_f rfl tbL ?_) | (show SH _ _ _ _ _ (_ :: _) _ _ _; first | (show SH _ _ _ _ _ (⟨_, _, _, _, _, some _⟩ :: _) _ _ _; (refine gif rfl rfl ?_; refine giFF tbL ?_)) | (show SH _ _ _ _ _ (⟨_, .move _, _, _, _, _⟩ :: _) _ _ _; refine mov evL ?_) | (show SH _ _ _ _ _ (⟨_, .assign _, _, _, _, _⟩ :: _) _ _ _; refine asg evL ?_) | (show SH _ _ _ _ _ (⟨_, .binOp .gtr _ _ _ _, _, _, _, _⟩ :: _) _ _ _; refine gtrF rfl rfl omD ?_) | (show SH _ _ _ _ _ (⟨_, .load _ _, _, _, _, _⟩ :: _) _ _ _; refine lbx rfl spL (by rfl) ?_) | refine slen rfl ?_ | (show SH _ _ _ _ _ (⟨_, .pick _ _ _, _, _, _, _⟩ :: _) _ _ _; refine pkf rfl tbL evL ?_) | refine fad rfl ?_ | (show SH _ _ _ _ _ (⟨_, .box _ _, _, _, _, _⟩ :: _) _ _ _; refine bxx rfl evL rfl (fun b => ?_))) | refine s_nil ?_ | refine kh_normal ?_))
    refine v_norm [(1,_),(3,_)] heL (fun g => ?_)
    refine v_loop [(2,3),(15,29)] (fun k : Nat => [(3, .int .i64 k)]) (fun _ => [bxR b t s A L.length c B gl.length d]) (fun k => k ≤ L.length ∧ ∀ j, j < k → (L.getD j Flat.dflt).m.ign.length ≤ 40) (fun k => L.length - k) 0 hsL enL ⟨Nat.zero_le _, fun j h => absurd h (by omega)⟩ ?_
    rintro k g ⟨hk, hok⟩
    simp only [sets]
    by_cases hkl : k < L.length
    · have hme := mbr_enc (l := L) (k := k) rfl
      by_cases hc : (L.getD k Flat.dflt).m.ign.length ≤ 40
      · have hok' : ∀ j, j < k + 1 → (L.getD j Flat.dflt).m.ign.length ≤ 40 := fun j hj => by
          by_cases e : j = k
          · rw [e]; exact hc
          · exact hok j (by omega)
        clear hok hno
        (repeat' (first | (show VH _ _ _ _ _ _ _; first | refine v_seq ?_ | refine r_seq ?_ | refine v_block ?_ | refine v_skip ?_ | refine v_cond_t rfl tbL ?_ | refine v_cond_f rfl tbL ?_) | (show SH _ _ _ _ _ (_ :: _) _ _ _; first | (show SH _ _ _ _ _ (⟨_, .move _, _, _, _, _⟩ :: _) _ _ _; refine mov evL ?_) | (show SH _ _ _ _ _ (⟨_, .assign _, _, _, _, _⟩ :: _) _ _ _; refine asg evL ?_) | (show SH _ _ _ _ _ (⟨_, .binOp .lss _ _ _ _, _, _, _, _⟩ :: _) _ _ _; refine lssT rfl rfl omD ?_) | (show SH _ _ _ _ _ (⟨_, .binOp .gtr _ _ _ _, _, _, _, _⟩ :: _) _ _ _; refine gtrF rfl rfl omD ?_) | (show SH _ _ _ _ _ (⟨_, .binOp .add _ _ _ _, _, _, _, _⟩ :: _) _ _ _; refine add rfl rfl inL ?_) | (show SH _ _ _ _ _ (⟨_, .load _ _, _, _, _, _⟩ :: _) _ _ _; first | refine lbx rfl spL (by rfl) ?_ | refine lrg rfl (fun _ _ => rdS) (by rfl) omL (by assumption) (by rfl) ?_) | (show SH _ _ _ _ _ (⟨_, .indexAddr _ _ _, _, _, _, _⟩ :: _) _ _ _; refine ix rfl rfl (by with_reducible rfl) (fun _ _ => rdS) (by rfl) omL omL ?_) | refine slen rfl ?_ | refine fad rfl ?_) | refine s_nil ?_ | refine kh_normal ?_ | refine bh_normal ?_))
        exact ⟨agL, k + 1, hsL, enL, ⟨hkl, hok'⟩, by omega⟩
      · rw [hno false rfl (fun h => hc (h.2.2.1 _ (List.mem_map_of_mem (getD_mem hkl))))]
        clear hok hno
        (repeat' (first | (show VH _ _ _ _ _ _ _; first | refine v_seq ?_ | refine r_seq ?_ | refine v_block ?_ | refine v_ret ?_ | refine v_skip ?_ | refine v_cond_t rfl tbL ?_) | (show SH _ _ _ _ _ (_ :: _) _ _ _; first | (show SH _ _ _ _ _ (⟨_, .move _, _, _, _, _⟩ :: _) _ _ _; refine mov evL ?_) | (show SH _ _ _ _ _ (⟨_, .assign _, _, _, _, _⟩ :: _) _ _ _; refine asg evL ?_) | (show SH _ _ _ _ _ (⟨_, .binOp .lss _ _ _ _, _, _, _, _⟩ :: _) _ _ _; refine lssT rfl rfl omD ?_) | (show SH _ _ _ _ _ (⟨_, .binOp .gtr _ _ _ _, _, _, _, _⟩ :: _) _ _ _; refine gtrT rfl rfl omD ?_) | (show SH _ _ _ _ _ (⟨_, .load _ _, _, _, _, _⟩ :: _) _ _ _; first | refine lbx rfl spL (by rfl) ?_ | refine lrg rfl (fun _ _ => rdS) (by rfl) omL (by assumption) (by rfl) ?_) | (show SH _ _ _ _ _ (⟨_, .indexAddr _ _ _, _, _, _, _⟩ :: _) _ _ _; refine ix rfl rfl (by with_reducible rfl) (fun _ _ => rdS) (by rfl) omL omL ?_) | refine slen rfl ?_ | refine fad rfl ?_) | refine s_nil ?_ | refine kh_normal ?_ | refine kh_ret ?_ | refine bh_ret ?_))
        exact rh1 rfl rfl ⟨rfl, rfl⟩ (ent_nil _)
    · obtain rfl : k = L.length := by omega
      clear hkl hk
      (repeat' (first | (show VH _ _ _ _ _ _ _; first | refine v_seq ?_ | refine r_seq ?_ | refine v_block ?_ | refine v_exit ?_ | refine v_cond_f rfl tbL ?_) | (show SH _ _ _ _ _ (_ :: _) _ _ _; first | (show SH _ _ _ _ _ (⟨_, .move _, _, _, _, _⟩ :: _) _ _ _; refine mov evL ?_) | (show SH _ _ _ _ _ (⟨_, .assign _, _, _, _, _⟩ :: _) _ _ _; refine asg evL ?_) | (show SH _ _ _ _ _ (⟨_, .binOp .lss _ _ _ _, _, _, _, _⟩ :: _) _ _ _; refine lssF rfl rfl omD ?_) | (show SH _ _ _ _ _ (⟨_, .load _ _, _, _, _, _⟩ :: _) _ _ _; refine lbx rfl spL (by rfl) ?_) | refine slen rfl ?_ | refine fad rfl ?_) | refine s_nil ?_ | refine kh_normal ?_ | refine kh_exit ?_ | refine bh_exit ?_))
      refine v_norm [(1,_),(4,_)] heL (fun g => ?_)
      refine v_loop [(2,2),(4,4),(30,44)] (fun k : Nat => [(4, .int .i64 k)]) (fun _ => [bxR b t s A L.length c B gl.length d]) (fun k => k ≤ gl.length ∧ ∀ j, j < k → (gl.getD j Flat.dflt).txt.length ≤ 400) (fun k => gl.length - k) 0 hsL enL ⟨Nat.zero_le _, fun j h => absurd h (by omega)⟩ ?_
      rintro k g ⟨hk, hok2⟩
      simp only [sets]
      by_cases hkl : k < gl.length
      · have hme := msg_enc (l := gl) (k := k) rfl
        by_cases hc : (gl.getD k Flat.dflt).txt.length ≤ 400
        · have hok' : ∀ j, j < k + 1 → (gl.getD j Flat.dflt).txt.length ≤ 400 := fun j hj => by
            by_cases e : j = k
            · rw [e]; exact hc
            · exact hok2 j (by omega)
          clear hok hok2 hno
          (repeat' (first | (show VH _ _ _ _ _ _ _; first | refine v_seq ?_ | refine r_seq ?_ | refine v_block ?_ | refine v_skip ?_ | refine v_cond_t rfl tbL ?_ | refine v_cond_f rfl tbL ?_) | (show SH _ _ _ _ _ (_ :: _) _ _ _; first | (show SH _ _ _ _ _ (⟨_, .move _, _, _, _, _⟩ :: _) _ _ _; refine mov evL ?_) | (show SH _ _ _ _ _ (⟨_, .assign _, _, _, _, _⟩ :: _) _ _ _; refine asg evL ?_) | (show SH _ _ _ _ _ (⟨_, .binOp .lss _ _ _ _, _, _, _, _⟩ :: _) _ _ _; refine lssT rfl rfl omD ?_) | (show SH _ _ _ _ _ (⟨_, .binOp .gtr _ _ _ _, _, _, _, _⟩ :: _) _ _ _; refine gtrF rfl rfl omD ?_) | (show SH _ _ _ _ _ (⟨_, .binOp .add _ _ _ _, _, _, _, _⟩ :: _) _ _ _; refine add rfl rfl inL ?_) | (show SH _ _ _ _ _ (⟨_, .load _ _, _, _, _, _⟩ :: _) _ _ _; first | refine lbx rfl spL (by rfl) ?_ | refine lrg rfl (fun _ _ => rdS) (by rfl) omL (by assumption) (by rfl) ?_) | (show SH _ _ _ _ _ (⟨_, .indexAddr _ _ _, _, _, _, _⟩ :: _) _ _ _; refine ix rfl rfl (by with_reducible rfl) (fun _ _ => rdS) (by rfl) omL omL ?_) | (show SH _ _ _ _ _ (⟨_, .call ⟨.builtin _, _, _⟩, _, _, _, _⟩ :: _) _ _ _; first | refine slen rfl ?_ | refine sln rfl ?_) | refine fad rfl ?_) | refine s_nil ?_ | refine kh_normal ?_ | refine bh_normal ?_))
          exact ⟨agL, k + 1, hsL, enL, ⟨hkl, hok'⟩, by omega⟩
        · rw [hno false rfl (fun h => hc (h.2.2.2 _ (getD_mem hkl)))]
          clear hok hok2 hno
          (repeat' (first | (show VH _ _ _ _ _ _ _; first | refine v_seq ?_ | refine r_seq ?_ | refine v_block ?_ | refine v_ret ?_ | refine v_skip ?_ | refine v_cond_t rfl tbL ?_) | (show SH _ _ _ _ _ (_ :: _) _ _ _; first | (show SH _ _ _ _ _ (⟨_, .move _, _, _, _, _⟩ :: _) _ _ _; refine mov evL ?_) | (show SH _ _ _ _ _ (⟨_, .assign _, _, _, _, _⟩ :: _) _ _ _; refine asg evL ?_) | (show SH _ _ _ _ _ (⟨_, .binOp .lss _ _ _ _, _, _, _, _⟩ :: _) _ _ _; refine lssT rfl rfl omD ?_) | (show SH _ _ _ _ _ (⟨_, .binOp .gtr _ _ _ _, _, _, _, _⟩ :: _) _ _ _; refine gtrT rfl rfl omD ?_) | (show SH _ _ _ _ _ (⟨_, .load _ _, _, _, _, _⟩ :: _) _ _ _; first | refine lbx rfl spL (by rfl) ?_ | refine lrg rfl (fun _ _ => rdS) (by rfl) omL (by assumption) (by rfl) ?_) | (show SH _ _ _ _ _ (⟨_, .indexAddr _ _ _, _, _, _, _⟩ :: _) _ _ _; refine ix rfl rfl (by with_reducible rfl) (fun _ _ => rdS) (by rfl) omL omL ?_) | (show SH _ _ _ _ _ (⟨_, .call ⟨.builtin _, _, _⟩, _, _, _, _⟩ :: _) _ _ _; first | refine slen rfl ?_ | refine sln rfl ?_) | refine fad rfl ?_) | refine s_nil ?_ | refine kh_normal ?_ | refine kh_ret ?_ | refine bh_ret ?_))
          exact rh1 rfl rfl ⟨rfl, rfl⟩ (ent_nil _)
      · obtain rfl : k = gl.length := by omega
        rw [decide_eq_true (show SmallM (mbrs L) gl from ⟨by rw [mbrs_len]; exact h40, h60, fun m hm => by
          obtain ⟨x, hx, rfl⟩ := List.mem_map.1 hm
          exact all_at (p := fun x : MbrP => x.m.ign.length ≤ 40) Flat.dflt hok x hx, all_at (p := fun x : Msg => x.txt.length ≤ 400) Flat.dflt hok2⟩)]
        clear hok hok2 hno
        (repeat' (first | (show VH _ _ _ _ _ _ _; first | refine v_seq ?_ | refine r_seq ?_ | refine v_ret ?_ | refine v_exit ?_ | refine v_cond_f rfl tbL ?_) | (show SH _ _ _ _ _ (_ :: _) _ _ _; first | (show SH _ _ _ _ _ (⟨_, .move _, _, _, _, _⟩ :: _) _ _ _; refine mov evL ?_) | (show SH _ _ _ _ _ (⟨_, .assign _, _, _, _, _⟩ :: _) _ _ _; refine asg evL ?_) | (show SH _ _ _ _ _ (⟨_, .binOp .lss _ _ _ _, _, _, _, _⟩ :: _) _ _ _; refine lssF rfl rfl omD ?_) | (show SH _ _ _ _ _ (⟨_, .load _ _, _, _, _, _⟩ :: _) _ _ _; refine lbx rfl spL (by rfl) ?_) | refine slen rfl ?_ | refine fad rfl ?_) | refine s_nil ?_ | refine kh_normal ?_ | refine kh_exit ?_ | refine bh_exit ?_))
        exact rh1 rfl rfl ⟨rfl, rfl⟩ (ent_nil _)
  · have hcc : ∀ z : List Value, z = z → ¬ (L.length ≤ 40 ∧ gl.length ≤ 60) := fun _ _ => h40
    rw [hno false rfl (fun h => h40 ⟨by have := h.1; rwa [mbrs_len] at this, h.2.1⟩)]
    clear hno h40
    refine enterH Try.func12 rfl rfl Try.ntmps12 rfl (Wd.refl _) ?_
    by_cases h1 : L.length ≤ 40
    · have h2 : ¬ gl.length ≤ 60 := fun h => hcc [] rfl ⟨h1, h⟩
      clear hcc
      (repeat' (first | (show VH _ _ _ _ _ _ _; first | refine v_seq ?_ | refine r_seq ?_ | refine v_ret ?_ | refine v_cond_t rfl tbL ?_) | (show SH _ _ _ _ _ (_ :: _) _ _ _; first | (show SH _ _ _ _ _ (⟨_, _, _, _, _, some _⟩ :: _) _ _ _; (refine gif rfl rfl ?_; refine giFF tbL ?_)) | (show SH _ _ _ _ _ (⟨_, .move _, _, _, _, _⟩ :: _) _ _ _; refine mov evL ?_) | (show SH _ _ _ _ _ (⟨_, .assign _, _, _, _, _⟩ :: _) _ _ _; refine asg evL ?_) | (show SH _ _ _ _ _ (⟨_, .binOp .gtr _ _ _ _, _, _, _, _⟩ :: _) _ _ _; first | refine gtrT rfl rfl omD ?_ | refine gtrF rfl rfl omD ?_) | (show SH _ _ _ _ _ (⟨_, .load _ _, _, _, _, _⟩ :: _) _ _ _; refine lbx rfl spL (by rfl) ?_) | refine slen rfl ?_ | (show SH _ _ _ _ _ (⟨_, .pick _ _ _, _, _, _, _⟩ :: _) _ _ _; refine pkf rfl tbL evL ?_) | refine fad rfl ?_ | (show SH _ _ _ _ _ (⟨_, .box _ _, _, _, _, _⟩ :: _) _ _ _; refine bxx rfl evL rfl (fun b => ?_))) | refine s_nil ?_ | refine kh_normal ?_ | refine kh_ret ?_))
      exact rh1 rfl rfl ⟨rfl, rfl⟩ (ent_nil _)
    · clear hcc
      (repeat' (first | (show VH _ _ _ _ _ _ _; first | refine v_seq ?_ | refine r_seq ?_ | refine v_ret ?_ | refine v_cond_t rfl tbL ?_) | (show SH _ _ _ _ _ (_ :: _) _ _ _; first | (show SH _ _ _ _ _ (⟨_, _, _, _, _, some _⟩ :: _) _ _ _; (refine gif rfl rfl ?_; refine giFT tbL ?_)) | (show SH _ _ _ _ _ (⟨_, .move _, _, _, _, _⟩ :: _) _ _ _; refine mov evL ?_) | (show SH _ _ _ _ _ (⟨_, .assign _, _, _, _, _⟩ :: _) _ _ _; refine asg evL ?_) | (show SH _ _ _ _ _ (⟨_, .binOp .gtr _ _ _ _, _, _, _, _⟩ :: _) _ _ _; refine gtrT rfl rfl omD ?_) | (show SH _ _ _ _ _ (⟨_, .load _ _, _, _, _, _⟩ :: _) _ _ _; refine lbx rfl spL (by rfl) ?_) | refine slen rfl ?_ | (show SH _ _ _ _ _ (⟨_, .pick _ _ _, _, _, _, _⟩ :: _) _ _ _; refine pkt rfl tbL evL ?_) | refine fad rfl ?_ | (show SH _ _ _ _ _ (⟨_, .box _ _, _, _, _, _⟩ :: _) _ _ _; refine bxx rfl evL rfl (fun b => ?_))) | refine s_nil ?_ | refine kh_normal ?_ | refine kh_ret ?_))
      exact rh1 rfl rfl ⟨rfl, rfl⟩ (ent_nil _)
end Go.Proofs.Ytplhnnlklnbahaa

/- Layer 37 (chat): the functions of rooms at rooms that are known. -/
namespace Go.Proofs.Ytplhnnlklnbahaa
open Go.Fw Go.RowKit
theorem vrom_said {r : Rom} (h : VRom r) : 0 ≤ r.said := by
  by_cases hl : r.log.length < 50
  · have := h.said hl; omega
  · have h1 := h.logl
    have := (h.log.num 0 (by omega)).2
    omega
theorem vrom_said' {r : Rom} (h : VRom r) : -9223372036854775808 ≤ r.said := by have := vrom_said h; omega
/-- A room that is known comes out, and an error. -/
def OutKM (t s : Int) (ms : List Mbr) (gl : List Msg) (e : Int) (v : Value) (H' : List HP) : Prop := ∃ (A : Option Addr) (c : Nat) (L : List MbrP) (B : Option Addr) (d : Nat), mbrs L = ms ∧ v = .tuple #[.agg #[.int .i64 t, .int .i64 s, .slice A L.length c, .slice B gl.length d], .int .i64 e] ∧ H' = [knr A L B gl]
theorem outKM_of {t s : Int} {ms : List Mbr} {gl : List Msg} {e : Int} {r : ResR} {g : FuncId} {args : List Value} {w : World} (he : r = (⟨t, s, ms, gl⟩, e)) (h : Ret Try.prog g args.toArray w (RP w (OutR r))) : Ret Try.prog g args.toArray w (RP w (OutKM t s ms gl e)) :=
  outRK_of he h
/-- A room as a value. -/
abbrev rvx (t s : Int) (A : Option Addr) (L : List MbrP) (c : Nat) (B : Option Addr) (gl : List Msg) (d : Nat) : Value := .agg #[.int .i64 t, .int .i64 s, .slice A L.length c, .slice B gl.length d]
variable {t s : Int} {A : Option Addr} {L : List MbrP} {c : Nat} {B : Option Addr} {gl : List Msg} {d : Nat} {t' s' : Int} {ms' : List Mbr} {gl' : List Msg} {e : Int} {w : World}
theorem vsz (hV : VRom (rom t s L gl)) : SzR L gl := szM_sz rfl (vrom_sz hV)
theorem leave_k {id : Int} (hV : VRom (rom t s L gl)) (he : leaveRm (rom t s L gl) id = (⟨t', s', ms', gl'⟩, e)) (hr : RdR w A L B gl) : Ret Try.prog 17 [rvx t s A L c B gl d, .int .i64 id].toArray w (RP w (OutKM t' s' ms' gl' e)) :=
  outKM_of he (leave37_spec t s A L c B gl d id w (vsz hV) (vrom_said' hV) hr)
theorem ignore_k {id whom : Int} {on : Bool} (hV : VRom (rom t s L gl)) (he : ignoreR (rom t s L gl) id whom on = (⟨t', s', ms', gl'⟩, e)) (hr : RdR w A L B gl) : Ret Try.prog 19 [rvx t s A L c B gl d, .int .i64 id, .int .i64 whom, .bool on].toArray w (RP w (OutKM t' s' ms' gl' e)) :=
  outKM_of he (ignore37_spec t s A L c B gl d id whom on w (vsz hV) (vrom_said' hV) hr)
theorem valid_k (hV : VRom (rom t s L gl)) (hr : RdR w A L B gl) : Ret Try.prog 13 [rvx t s A L c B gl d].toArray w (Out w (.bool true)) := by
  have := valid37_spec t s A L c B gl d w (vsz hV) (vrom_said' hV) hr
  rwa [vrom_iff.2 hV] at this
end Go.Proofs.Ytplhnnlklnbahaa

