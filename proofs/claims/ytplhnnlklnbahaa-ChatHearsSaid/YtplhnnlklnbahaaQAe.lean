/- Layer 37 (chat): Build. -/
import Derived.Test.YtplhnnlklnbahaaQAa
import Derived.Test.YtplhnnlklnbahaaQAb
import Derived.Test.YtplhnnlklnbahaaQAc
import Derived.Test.YtplhnnlklnbahaaQAd
import Derived.Lib.IndexLaws
set_option linter.unusedSimpArgs false
set_option linter.unusedVariables false
/- Layer 37 (chat): isText, Contains, right. -/
namespace Go.Proofs.Ytplhnnlklnbahaa
open Go.Fw Go.RowKit
theorem good_bad (c : UInt8) : (decide (32 ≤ c.toNat) && decide (c.toNat ≤ 126)) = !(badC c) := by
  unfold badC
  rw [Bool.eq_iff_iff]
  simp
theorem all_bad : ∀ s : List UInt8, (s.all fun c => decide (32 ≤ c.toNat) && decide (c.toNat ≤ 126)) = !(s.any badC)
  | [] => rfl
  | c :: s => by rw [List.all_cons, List.any_cons, all_bad s, good_bad, Bool.not_or]
theorem idx_lt {α : Type} (p : α → Bool) (l : List α) : decide (idxFrom p 0 l < 0) = !(l.any p) := by
  rw [← idxFrom_any p l 0 (by omega)]
  by_cases h : 0 ≤ idxFrom p 0 l
  · rw [decide_eq_true h, decide_eq_false (by omega)]; rfl
  · rw [decide_eq_false h, decide_eq_true (by omega)]; rfl
set_option maxHeartbeats 1000000 in
set_option maxRecDepth 100000 in
theorem indexTextF_spec (s : List UInt8) (w : World) (hl : s.length ≤ 1000000) : Ret Try.prog 68 [.string (bs s), .func (.func 69) #[] #[]].toArray w (Out w (.int .i64 (idxFrom badC 0 s))) := by
  refine enterH Try.func68 rfl rfl Try.ntmps68 rfl (Wd.refl _) ?_
  (repeat' (first | (show VH _ _ _ _ _ _ _; first | refine v_seq ?_ | refine r_seq ?_ | refine v_ret ?_) | (show SH _ _ _ _ _ (_ :: _) _ _ _; first | (show SH _ _ _ _ _ (⟨_, .move _, _, _, _, _⟩ :: _) _ _ _; refine mov evL ?_) | (show SH _ _ _ _ _ (⟨_, .assign _, _, _, _, _⟩ :: _) _ _ _; refine asg evL ?_) | (show SH _ _ _ _ _ (⟨_, .call ⟨.value (.func 89), _, _⟩, _, _, _, _⟩ :: _) _ _ _; refine cl (callee := .func 89) rfl (fun w hw => indexText_spec s w hl) rfl rfl ?_)) | refine s_nil ?_ | refine kh_normal ?_))
  exact rh1 rfl rfl ⟨rfl, rfl⟩ (ent_nil _)
set_option maxHeartbeats 1000000 in
set_option maxRecDepth 100000 in
theorem isText_spec (s : List UInt8) (w : World) (hl : s.length ≤ 1000000) : Ret Try.prog 36 [.string (bs s)].toArray w (Out w (.bool (textB s))) := by
  have hf := fun w' => indexTextF_spec s w' hl
  have hb := idx_lt badC s
  unfold textB
  rw [all_bad, ← hb]
  generalize idxFrom badC 0 s = j at hf ⊢
  clear hb
  by_cases h1 : 1 ≤ s.length
  · rw [decide_eq_true h1, Bool.true_and]
    by_cases h2 : s.length ≤ 200
    · rw [decide_eq_true h2, Bool.true_and]
      refine enterH Try.func36 rfl rfl Try.ntmps36 rfl (Wd.refl _) ?_
      (repeat' (first | (show VH _ _ _ _ _ _ _; first | refine v_seq ?_ | refine r_seq ?_ | refine v_ret ?_) | (show SH _ _ _ _ _ (_ :: _) _ _ _; first | (show SH _ _ _ _ _ (⟨_, _, _, _, _, some _⟩ :: _) _ _ _; (refine gif rfl rfl ?_; refine giTT tbL ?_)) | (show SH _ _ _ _ _ (⟨_, .move _, _, _, _, _⟩ :: _) _ _ _; refine mov evL ?_) | (show SH _ _ _ _ _ (⟨_, .assign _, _, _, _, _⟩ :: _) _ _ _; refine asg evL ?_) | refine lss rfl rfl ?_ | (show SH _ _ _ _ _ (⟨_, .binOp .leq _ _ _ _, _, _, _, _⟩ :: _) _ _ _; refine leqT rfl rfl omD ?_) | (show SH _ _ _ _ _ (⟨_, .binOp .geq _ _ _ _, _, _, _, _⟩ :: _) _ _ _; refine geqT rfl rfl omD ?_) | refine sln rfl ?_ | (show SH _ _ _ _ _ (⟨_, .call ⟨.value (.func 68), _, _⟩, _, _, _, _⟩ :: _) _ _ _; refine cl (callee := .func 68) rfl (fun w hw => hf w) rfl rfl ?_) | (show SH _ _ _ _ _ (⟨_, .pick _ _ _, _, _, _, _⟩ :: _) _ _ _; refine pkt rfl tbL evL ?_)) | refine s_nil ?_ | refine kh_normal ?_))
      exact rh1 rfl rfl ⟨rfl, rfl⟩ (ent_nil _)
    · rw [decide_eq_false h2, Bool.false_and]
      refine enterH Try.func36 rfl rfl Try.ntmps36 rfl (Wd.refl _) ?_
      (repeat' (first | (show VH _ _ _ _ _ _ _; first | refine v_seq ?_ | refine r_seq ?_ | refine v_ret ?_) | (show SH _ _ _ _ _ (_ :: _) _ _ _; first | (show SH _ _ _ _ _ (⟨_, _, _, _, _, some _⟩ :: _) _ _ _; (refine gif rfl rfl ?_; first | refine giTT tbL ?_ | refine giTF tbL ?_)) | (show SH _ _ _ _ _ (⟨_, .move _, _, _, _, _⟩ :: _) _ _ _; refine mov evL ?_) | (show SH _ _ _ _ _ (⟨_, .assign _, _, _, _, _⟩ :: _) _ _ _; refine asg evL ?_) | (show SH _ _ _ _ _ (⟨_, .binOp .leq _ _ _ _, _, _, _, _⟩ :: _) _ _ _; refine leqF rfl rfl omD ?_) | (show SH _ _ _ _ _ (⟨_, .binOp .geq _ _ _ _, _, _, _, _⟩ :: _) _ _ _; refine geqT rfl rfl omD ?_) | refine sln rfl ?_ | (show SH _ _ _ _ _ (⟨_, .pick _ _ _, _, _, _, _⟩ :: _) _ _ _; first | refine pkt rfl tbL evL ?_ | refine pkf rfl tbL evL ?_)) | refine s_nil ?_ | refine kh_normal ?_))
      exact rh1 rfl rfl ⟨rfl, rfl⟩ (ent_nil _)
  · rw [decide_eq_false h1, Bool.false_and, Bool.false_and]
    refine enterH Try.func36 rfl rfl Try.ntmps36 rfl (Wd.refl _) ?_
    (repeat' (first | (show VH _ _ _ _ _ _ _; first | refine v_seq ?_ | refine r_seq ?_ | refine v_ret ?_) | (show SH _ _ _ _ _ (_ :: _) _ _ _; first | (show SH _ _ _ _ _ (⟨_, _, _, _, _, some _⟩ :: _) _ _ _; (refine gif rfl rfl ?_; refine giTF tbL ?_)) | (show SH _ _ _ _ _ (⟨_, .move _, _, _, _, _⟩ :: _) _ _ _; refine mov evL ?_) | (show SH _ _ _ _ _ (⟨_, .assign _, _, _, _, _⟩ :: _) _ _ _; refine asg evL ?_) | (show SH _ _ _ _ _ (⟨_, .binOp .geq _ _ _ _, _, _, _, _⟩ :: _) _ _ _; refine geqF rfl rfl omD ?_) | refine sln rfl ?_ | (show SH _ _ _ _ _ (⟨_, .pick _ _ _, _, _, _, _⟩ :: _) _ _ _; refine pkf rfl tbL evL ?_)) | refine s_nil ?_ | refine kh_normal ?_))
    exact rh1 rfl rfl ⟨rfl, rfl⟩ (ent_nil _)
theorem mem_any (l : List Int) (x : Int) : (l.any fun y => decide (x = y)) = decide (x ∈ l) := by
  rw [Bool.eq_iff_iff, List.any_eq_true, decide_eq_true_eq]
  exact ⟨fun ⟨y, h1, h2⟩ => by rw [of_decide_eq_true h2]; exact h1, fun h => ⟨x, h, decide_eq_true rfl⟩⟩
set_option maxHeartbeats 1000000 in
set_option maxRecDepth 100000 in
theorem containsI37_spec (A : Option Addr) (l : List Int) (c : Nat) (x : Int) (w : World) (hl : l.length ≤ 1000000) (hr : Rd w A l) :
    Ret Try.prog 39 [.slice A l.length c, .int .i64 x].toArray w (Out w (.bool (decide (x ∈ l)))) := by
  have h := idxFrom_any (fun y => decide (x = y)) l 0 (by omega)
  rw [mem_any] at h
  rw [← h]
  refine enterH Try.func39 rfl rfl Try.ntmps39 rfl (Wd.refl _) ?_
  (repeat' (first | (show VH _ _ _ _ _ _ _; first | refine v_seq ?_ | refine r_seq ?_ | refine v_ret ?_) | (show SH _ _ _ _ _ (_ :: _) _ _ _; first | (show SH _ _ _ _ _ (⟨_, .move _, _, _, _, _⟩ :: _) _ _ _; refine mov evL ?_) | (show SH _ _ _ _ _ (⟨_, .assign _, _, _, _, _⟩ :: _) _ _ _; refine asg evL ?_) | refine geq rfl rfl ?_ | (show SH _ _ _ _ _ (⟨_, .call ⟨.value (.func 70), _, _⟩, _, _, _, _⟩ :: _) _ _ _; refine cl (callee := .func 70) rfl (fun w hw => indexI37_spec A l c x w hl (hr.ext hw.ext)) rfl rfl ?_)) | refine s_nil ?_ | refine kh_normal ?_))
  exact rh1 rfl rfl ⟨rfl, rfl⟩ (ent_nil _)
set_option maxHeartbeats 1000000 in
set_option maxRecDepth 100000 in
theorem rightM_spec (id : Int) (l : List Int) (A : Option Addr) (c : Nat) (w : World) (hl : l.length ≤ 1000000) (hr : Rd w A l) :
    Ret Try.prog 30 [.agg #[.int .i64 id, .slice A l.length c]].toArray w (Out w (.bool (rightM ⟨id, l⟩))) := by
  have hc := fun w' (he : Ext w w') => containsI37_spec A l c id w' hl (hr.ext he)
  have hi := fun w' (he : Ext w w') => risingI_spec A l c w' hl (hr.ext he)
  unfold rightM
  simp only
  by_cases h1 : l.length ≤ 32
  · rw [decide_eq_true h1, Bool.true_and]
    cases hq : risB 0 l
    · rw [hq] at hi
      rw [Bool.false_and]
      clear hq
      refine enterH Try.func30 rfl rfl Try.ntmps30 rfl (Wd.refl _) ?_
      (repeat' (first | (show VH _ _ _ _ _ _ _; first | refine v_seq ?_ | refine r_seq ?_ | refine v_ret ?_) | (show SH _ _ _ _ _ (_ :: _) _ _ _; first | (show SH _ _ _ _ _ (⟨_, _, _, _, _, some _⟩ :: _) _ _ _; (refine gif rfl rfl ?_; first | refine giTT tbL ?_ | refine giTF tbL ?_)) | (show SH _ _ _ _ _ (⟨_, .move _, _, _, _, _⟩ :: _) _ _ _; refine mov evL ?_) | (show SH _ _ _ _ _ (⟨_, .assign _, _, _, _, _⟩ :: _) _ _ _; refine asg evL ?_) | (show SH _ _ _ _ _ (⟨_, .binOp .leq _ _ _ _, _, _, _, _⟩ :: _) _ _ _; refine leqT rfl rfl omD ?_) | (show SH _ _ _ _ _ (⟨_, .load _ _, _, _, _, _⟩ :: _) _ _ _; refine lbx rfl spL (by rfl) ?_) | refine slen rfl ?_ | (show SH _ _ _ _ _ (⟨_, .call ⟨.value (.func 65), _, _⟩, _, _, _, _⟩ :: _) _ _ _; refine cl (callee := .func 65) rfl (fun w hw => hi _ hw.ext) rfl rfl ?_) | (show SH _ _ _ _ _ (⟨_, .pick _ _ _, _, _, _, _⟩ :: _) _ _ _; first | refine pkt rfl tbL evL ?_ | refine pkf rfl tbL evL ?_) | refine fad rfl ?_ | (show SH _ _ _ _ _ (⟨_, .box _ _, _, _, _, _⟩ :: _) _ _ _; refine bxx rfl evL rfl (fun b => ?_))) | refine s_nil ?_ | refine kh_normal ?_))
      exact rh1 rfl rfl ⟨rfl, rfl⟩ (ent_nil _)
    · rw [hq] at hi
      rw [Bool.true_and]
      clear hq
      generalize decide (id ∈ l) = q at hc ⊢
      refine enterH Try.func30 rfl rfl Try.ntmps30 rfl (Wd.refl _) ?_
      (repeat' (first | (show VH _ _ _ _ _ _ _; first | refine v_seq ?_ | refine r_seq ?_ | refine v_ret ?_) | (show SH _ _ _ _ _ (_ :: _) _ _ _; first | (show SH _ _ _ _ _ (⟨_, _, _, _, _, some _⟩ :: _) _ _ _; (refine gif rfl rfl ?_; refine giTT tbL ?_)) | (show SH _ _ _ _ _ (⟨_, .move _, _, _, _, _⟩ :: _) _ _ _; refine mov evL ?_) | (show SH _ _ _ _ _ (⟨_, .assign _, _, _, _, _⟩ :: _) _ _ _; refine asg evL ?_) | (show SH _ _ _ _ _ (⟨_, .binOp .leq _ _ _ _, _, _, _, _⟩ :: _) _ _ _; refine leqT rfl rfl omD ?_) | (show SH _ _ _ _ _ (⟨_, .load _ _, _, _, _, _⟩ :: _) _ _ _; refine lbx rfl spL (by rfl) ?_) | refine slen rfl ?_ | (show SH _ _ _ _ _ (⟨_, .call ⟨.value (.func 65), _, _⟩, _, _, _, _⟩ :: _) _ _ _; refine cl (callee := .func 65) rfl (fun w hw => hi _ hw.ext) rfl rfl ?_) | (show SH _ _ _ _ _ (⟨_, .call ⟨.value (.func 39), _, _⟩, _, _, _, _⟩ :: _) _ _ _; refine cl (callee := .func 39) rfl (fun w hw => hc _ hw.ext) rfl rfl ?_) | refine bnot rfl ?_ | (show SH _ _ _ _ _ (⟨_, .pick _ _ _, _, _, _, _⟩ :: _) _ _ _; refine pkt rfl tbL evL ?_) | refine fad rfl ?_ | (show SH _ _ _ _ _ (⟨_, .box _ _, _, _, _, _⟩ :: _) _ _ _; refine bxx rfl evL rfl (fun b => ?_))) | refine s_nil ?_ | refine kh_normal ?_))
      exact rh1 rfl rfl ⟨rfl, rfl⟩ (ent_nil _)
  · rw [decide_eq_false h1, Bool.false_and, Bool.false_and]
    refine enterH Try.func30 rfl rfl Try.ntmps30 rfl (Wd.refl _) ?_
    (repeat' (first | (show VH _ _ _ _ _ _ _; first | refine v_seq ?_ | refine r_seq ?_ | refine v_ret ?_) | (show SH _ _ _ _ _ (_ :: _) _ _ _; first | (show SH _ _ _ _ _ (⟨_, _, _, _, _, some _⟩ :: _) _ _ _; (refine gif rfl rfl ?_; refine giTF tbL ?_)) | (show SH _ _ _ _ _ (⟨_, .move _, _, _, _, _⟩ :: _) _ _ _; refine mov evL ?_) | (show SH _ _ _ _ _ (⟨_, .assign _, _, _, _, _⟩ :: _) _ _ _; refine asg evL ?_) | (show SH _ _ _ _ _ (⟨_, .binOp .leq _ _ _ _, _, _, _, _⟩ :: _) _ _ _; refine leqF rfl rfl omD ?_) | (show SH _ _ _ _ _ (⟨_, .load _ _, _, _, _, _⟩ :: _) _ _ _; refine lbx rfl spL (by rfl) ?_) | refine slen rfl ?_ | (show SH _ _ _ _ _ (⟨_, .pick _ _ _, _, _, _, _⟩ :: _) _ _ _; refine pkf rfl tbL evL ?_) | refine fad rfl ?_ | (show SH _ _ _ _ _ (⟨_, .box _ _, _, _, _, _⟩ :: _) _ _ _; refine bxx rfl evL rfl (fun b => ?_))) | refine s_nil ?_ | refine kh_normal ?_))
    exact rh1 rfl rfl ⟨rfl, rfl⟩ (ent_nil _)
end Go.Proofs.Ytplhnnlklnbahaa

/- Layer 37 (chat): functions of members: rising, ContainsFunc. -/
namespace Go.Proofs.Ytplhnnlklnbahaa
open Go.Fw Go.RowKit
abbrev AsksM (w : World) (fv : Value) (l : List MbrP) (p : MbrP → Bool) : Prop := Fun1 Try.prog w fv (fun x : MbrP => .agg (Flat.enc x).toArray) (fun x => .bool (p x)) (· ∈ l)
set_option maxHeartbeats 1000000 in
set_option maxRecDepth 100000 in
theorem mbrID_spec (x : MbrP) (w : World) : Ret Try.prog 33 [.agg (Flat.enc x).toArray].toArray w (Out w (.int .i64 x.m.id)) := by
  refine enterH Try.func33 rfl rfl Try.ntmps33 rfl (Wd.refl _) ?_
  (repeat' (first | (show VH _ _ _ _ _ _ _; first | refine v_seq ?_ | refine r_seq ?_ | refine v_ret ?_) | (show SH _ _ _ _ _ (_ :: _) _ _ _; first | (show SH _ _ _ _ _ (⟨_, .assign _, _, _, _, _⟩ :: _) _ _ _; refine asg evL ?_) | (show SH _ _ _ _ _ (⟨_, .load _ _, _, _, _, _⟩ :: _) _ _ _; refine lbx rfl spL (by rfl) ?_) | refine fad rfl ?_ | (show SH _ _ _ _ _ (⟨_, .box _ _, _, _, _, _⟩ :: _) _ _ _; refine bxx rfl evL rfl (fun b => ?_))) | refine s_nil ?_ | refine kh_normal ?_))
  exact rh1 rfl rfl ⟨rfl, rfl⟩ (ent_nil _)
set_option maxHeartbeats 1000000 in
set_option maxRecDepth 100000 in
theorem risingM_spec (A : Option Addr) (l : List MbrP) (c : Nat) (w : World) (hl : l.length ≤ 1000000) (hr : Rd w A l) :
    Ret Try.prog 32 [.slice A l.length c, .func (.func 33) #[] #[]].toArray w (Out w (.bool (risB 0 ((mbrs l).map Mbr.id)))) := by
  generalize hL : (mbrs l).map Mbr.id = L
  have hLl : L.length = l.length := by rw [← hL, List.length_map, mbrs_len]
  have hLa : ∀ k, k < l.length → L.getD k 0 = (l.getD k Flat.dflt).m.id := fun k hk => by
    rw [← hL, ← mbrs_at hk, List.getD_eq_getElem?_getD, List.getElem?_map, List.getD_eq_getElem?_getD, List.getElem?_eq_getElem (by rw [mbrs_len]; exact hk)]
    rfl
  clear hL
  refine enterH Try.func32 rfl rfl Try.ntmps32 rfl (Wd.refl _) ?_
  (repeat' (first | (show VH _ _ _ _ _ _ _; first | refine v_seq ?_ | refine r_seq ?_ | refine v_block ?_) | (show SH _ _ _ _ _ (_ :: _) _ _ _; first | (show SH _ _ _ _ _ (⟨_, .move _, _, _, _, _⟩ :: _) _ _ _; refine mov evL ?_) | (show SH _ _ _ _ _ (⟨_, .assign _, _, _, _, _⟩ :: _) _ _ _; refine asg evL ?_) | refine slen rfl ?_) | refine s_nil ?_ | refine kh_normal ?_))
  refine v_norm [(1,_),(5,_),(8,_),(9,_),(10,_)] heL (fun g => ?_)
  refine v_loop0 [(4,5),(7,7),(10,29)] (fun y : Nat × Int => [(10, .int .i64 y.1), (5, .int .i64 y.2)]) (fun y => y.1 ≤ l.length ∧ risB 0 L = risB y.2 (L.drop y.1)) (fun y => l.length - y.1) (0, 0) hsL ⟨Nat.zero_le _, rfl⟩ ?_
  rintro ⟨k, last⟩ g ⟨hk, hok⟩
  simp only [sets]
  simp only at hk hok
  by_cases hkl : k < l.length
  · have hd : L.drop k = L.getD k 0 :: L.drop (k + 1) := by rw [getD_at 0 (by omega)]; exact List.drop_eq_getElem_cons (by omega)
    rw [hd, hLa k hkl, risB] at hok
    obtain ⟨x, hx⟩ : ∃ x, l.getD k Flat.dflt = x := ⟨_, rfl⟩
    rw [hx] at hok
    have hp := fun w => mbrID_spec x w
    have hi := fun w => isID37_spec x.m.id w
    have hme := mbr_enc hx
    rw [show Flat.enc x = [.int .i64 x.m.id, .slice x.A x.m.ign.length x.ca] from rfl] at hp
    clear hLa hd hLl hx
    generalize x.m.id = d at hp hi hme hok
    by_cases h1 : id37 d = true
    · rw [h1] at hi hok
      by_cases h2 : last < d
      · rw [decide_eq_true h2] at hok
        have hok' : risB 0 L = risB d (L.drop (k + 1)) := by rw [hok]; rfl
        clear hok h1
        (repeat' (first | (show VH _ _ _ _ _ _ _; first | refine v_seq ?_ | refine r_seq ?_ | refine v_block ?_ | refine v_skip ?_ | refine v_cond_t rfl tbL ?_ | refine v_cond_f rfl tbL ?_) | (show SH _ _ _ _ _ (_ :: _) _ _ _; first | (show SH _ _ _ _ _ (⟨_, _, _, _, _, some _⟩ :: _) _ _ _; (refine gif rfl rfl ?_; refine giFF tbL ?_)) | (show SH _ _ _ _ _ (⟨_, .move _, _, _, _, _⟩ :: _) _ _ _; refine mov evL ?_) | (show SH _ _ _ _ _ (⟨_, .assign _, _, _, _, _⟩ :: _) _ _ _; refine asg evL ?_) | (show SH _ _ _ _ _ (⟨_, .binOp .lss _ _ _ _, _, _, _, _⟩ :: _) _ _ _; refine lssT rfl rfl omD ?_) | (show SH _ _ _ _ _ (⟨_, .binOp .leq _ _ _ _, _, _, _, _⟩ :: _) _ _ _; refine leqF rfl rfl omD ?_) | (show SH _ _ _ _ _ (⟨_, .binOp .add _ _ _ _, _, _, _, _⟩ :: _) _ _ _; refine add rfl rfl inL ?_) | (show SH _ _ _ _ _ (⟨_, .load _ _, _, _, _, _⟩ :: _) _ _ _; first | refine lba rfl spL (by rfl) ?_ | refine lag rfl (fun _ _ => rdS) (by rfl) omL (by assumption) ?_) | (show SH _ _ _ _ _ (⟨_, .indexAddr _ _ _, _, _, _, _⟩ :: _) _ _ _; refine ix rfl rfl (by with_reducible rfl) (fun _ _ => rdS) (by rfl) omL omL ?_) | (show SH _ _ _ _ _ (⟨_, .call ⟨.value (.tmp _), _, _⟩, _, _, _, _⟩ :: _) _ _ _; refine cl (callee := .tmp _) rfl (fun w hw => hp w) rfl rfl ?_) | (show SH _ _ _ _ _ (⟨_, .call ⟨.value (.func 35), _, _⟩, _, _, _, _⟩ :: _) _ _ _; refine cl (callee := .func 35) rfl (fun w hw => hi w) rfl rfl ?_) | refine bnoT rfl ?_ | (show SH _ _ _ _ _ (⟨_, .pick _ _ _, _, _, _, _⟩ :: _) _ _ _; refine pkf rfl tbL evL ?_) | refine ala rfl (fun b => ?_) | (show SH _ _ _ _ _ (⟨_, .store _ _ _, _, _, _, _⟩ :: _) _ _ _; refine sta rfl rfl rfl spL (by rfl) (by rfl) (by rfl) kpL ?_)) | refine s_nil ?_ | refine kh_normal ?_ | refine bh_normal ?_))
        exact ⟨agL, (k + 1, d), hsL, enL, ⟨hkl, hok'⟩, by show l.length - (k + 1) < l.length - k; omega⟩
      · rw [decide_eq_false h2] at hok
        rw [show risB 0 L = false by rw [hok]; rfl]
        clear hok h1
        (repeat' (first | (show VH _ _ _ _ _ _ _; first | refine v_seq ?_ | refine r_seq ?_ | refine v_block ?_ | refine v_ret ?_ | refine v_skip ?_ | refine v_cond_t rfl tbL ?_) | (show SH _ _ _ _ _ (_ :: _) _ _ _; first | (show SH _ _ _ _ _ (⟨_, _, _, _, _, some _⟩ :: _) _ _ _; (refine gif rfl rfl ?_; refine giFF tbL ?_)) | (show SH _ _ _ _ _ (⟨_, .move _, _, _, _, _⟩ :: _) _ _ _; refine mov evL ?_) | (show SH _ _ _ _ _ (⟨_, .assign _, _, _, _, _⟩ :: _) _ _ _; refine asg evL ?_) | (show SH _ _ _ _ _ (⟨_, .binOp .lss _ _ _ _, _, _, _, _⟩ :: _) _ _ _; refine lssT rfl rfl omD ?_) | (show SH _ _ _ _ _ (⟨_, .binOp .leq _ _ _ _, _, _, _, _⟩ :: _) _ _ _; refine leqT rfl rfl omD ?_) | (show SH _ _ _ _ _ (⟨_, .load _ _, _, _, _, _⟩ :: _) _ _ _; first | refine lba rfl spL (by rfl) ?_ | refine lag rfl (fun _ _ => rdS) (by rfl) omL (by assumption) ?_) | (show SH _ _ _ _ _ (⟨_, .indexAddr _ _ _, _, _, _, _⟩ :: _) _ _ _; refine ix rfl rfl (by with_reducible rfl) (fun _ _ => rdS) (by rfl) omL omL ?_) | (show SH _ _ _ _ _ (⟨_, .call ⟨.value (.tmp _), _, _⟩, _, _, _, _⟩ :: _) _ _ _; refine cl (callee := .tmp _) rfl (fun w hw => hp w) rfl rfl ?_) | (show SH _ _ _ _ _ (⟨_, .call ⟨.value (.func 35), _, _⟩, _, _, _, _⟩ :: _) _ _ _; refine cl (callee := .func 35) rfl (fun w hw => hi w) rfl rfl ?_) | refine bnoT rfl ?_ | (show SH _ _ _ _ _ (⟨_, .pick _ _ _, _, _, _, _⟩ :: _) _ _ _; refine pkf rfl tbL evL ?_) | refine ala rfl (fun b => ?_) | (show SH _ _ _ _ _ (⟨_, .store _ _ _, _, _, _, _⟩ :: _) _ _ _; refine sta rfl rfl rfl spL (by rfl) (by rfl) (by rfl) kpL ?_)) | refine s_nil ?_ | refine kh_normal ?_ | refine kh_ret ?_ | refine bh_ret ?_))
        exact rh1 rfl rfl ⟨rfl, rfl⟩ (ent_nil _)
    · rw [Bool.not_eq_true] at h1
      rw [h1] at hi hok
      rw [show risB 0 L = false by rw [hok]; rfl]
      clear hok h1
      (repeat' (first | (show VH _ _ _ _ _ _ _; first | refine v_seq ?_ | refine r_seq ?_ | refine v_block ?_ | refine v_ret ?_ | refine v_skip ?_ | refine v_cond_t rfl tbL ?_) | (show SH _ _ _ _ _ (_ :: _) _ _ _; first | (show SH _ _ _ _ _ (⟨_, _, _, _, _, some _⟩ :: _) _ _ _; (refine gif rfl rfl ?_; refine giFT tbL ?_)) | (show SH _ _ _ _ _ (⟨_, .move _, _, _, _, _⟩ :: _) _ _ _; refine mov evL ?_) | (show SH _ _ _ _ _ (⟨_, .assign _, _, _, _, _⟩ :: _) _ _ _; refine asg evL ?_) | (show SH _ _ _ _ _ (⟨_, .binOp .lss _ _ _ _, _, _, _, _⟩ :: _) _ _ _; refine lssT rfl rfl omD ?_) | (show SH _ _ _ _ _ (⟨_, .load _ _, _, _, _, _⟩ :: _) _ _ _; first | refine lba rfl spL (by rfl) ?_ | refine lag rfl (fun _ _ => rdS) (by rfl) omL (by assumption) ?_) | (show SH _ _ _ _ _ (⟨_, .indexAddr _ _ _, _, _, _, _⟩ :: _) _ _ _; refine ix rfl rfl (by with_reducible rfl) (fun _ _ => rdS) (by rfl) omL omL ?_) | (show SH _ _ _ _ _ (⟨_, .call ⟨.value (.tmp _), _, _⟩, _, _, _, _⟩ :: _) _ _ _; refine cl (callee := .tmp _) rfl (fun w hw => hp w) rfl rfl ?_) | (show SH _ _ _ _ _ (⟨_, .call ⟨.value (.func 35), _, _⟩, _, _, _, _⟩ :: _) _ _ _; refine cl (callee := .func 35) rfl (fun w hw => hi w) rfl rfl ?_) | refine bnoF rfl ?_ | (show SH _ _ _ _ _ (⟨_, .pick _ _ _, _, _, _, _⟩ :: _) _ _ _; refine pkt rfl tbL evL ?_) | refine ala rfl (fun b => ?_) | (show SH _ _ _ _ _ (⟨_, .store _ _ _, _, _, _, _⟩ :: _) _ _ _; refine sta rfl rfl rfl spL (by rfl) (by rfl) (by rfl) kpL ?_)) | refine s_nil ?_ | refine kh_normal ?_ | refine kh_ret ?_ | refine bh_ret ?_))
      exact rh1 rfl rfl ⟨rfl, rfl⟩ (ent_nil _)
  · obtain rfl : k = l.length := by omega
    rw [hok, ← hLl, List.drop_length]
    (repeat' (first | (show VH _ _ _ _ _ _ _; first | refine v_seq ?_ | refine r_seq ?_ | refine v_ret ?_ | refine v_exit ?_ | refine v_cond_f rfl tbL ?_) | (show SH _ _ _ _ _ (_ :: _) _ _ _; first | (show SH _ _ _ _ _ (⟨_, .assign _, _, _, _, _⟩ :: _) _ _ _; refine asg evL ?_) | (show SH _ _ _ _ _ (⟨_, .binOp .lss _ _ _ _, _, _, _, _⟩ :: _) _ _ _; refine lssF rfl rfl omD ?_)) | refine s_nil ?_ | refine kh_normal ?_ | refine kh_exit ?_ | refine bh_exit ?_))
    exact rh1 rfl rfl ⟨rfl, rfl⟩ (ent_nil _)
set_option maxHeartbeats 1000000 in
set_option maxRecDepth 100000 in
theorem indexFuncM_spec (A : Option Addr) (l : List MbrP) (cp : Nat) (fv : Value) (p : MbrP → Bool) (w : World) (hl : l.length ≤ 1000000) (hr : Rd w A l) (hp : AsksM w fv l p) :
    Ret Try.prog 67 [.slice A l.length cp, fv].toArray w (Out w (.int .i64 (idxOf p l))) := by
  obtain ⟨g0, fst, cap, rfl, hp⟩ := hp
  refine enterH Try.func67 rfl rfl Try.ntmps67 rfl (Wd.refl _) ?_
  (repeat' (first | (show VH _ _ _ _ _ _ _; first | refine v_seq ?_ | refine r_seq ?_ | refine v_block ?_) | (show SH _ _ _ _ _ (_ :: _) _ _ _; first | (show SH _ _ _ _ _ (⟨_, .move _, _, _, _, _⟩ :: _) _ _ _; refine mov evL ?_) | (show SH _ _ _ _ _ (⟨_, .assign _, _, _, _, _⟩ :: _) _ _ _; refine asg evL ?_) | refine slen rfl ?_) | refine s_nil ?_ | refine kh_normal ?_))
  refine v_loop0 [(4,5),(8,18)] (fun k : Nat => [(8, .int .i64 k)]) (fun k => k ≤ l.length ∧ idxFrom p k (l.drop k) = idxOf p l) (fun k => l.length - k) 0 hsL ⟨Nat.zero_le _, rfl⟩ ?_
  rintro k g ⟨hk, hv⟩
  simp only [sets]
  by_cases hkl : k < l.length
  · have hp' := fun w he => hp w he (l.getD k Flat.dflt) (getD_mem hkl)
    rw [drop_cons (d := Flat.dflt) hkl, idxFrom] at hv
    cases hb : p (l.getD k Flat.dflt) with
    | true =>
      simp only [hb] at hp'
      rw [if_pos hb] at hv
      (repeat' (first | (show VH _ _ _ _ _ _ _; first | refine v_seq ?_ | refine r_seq ?_ | refine v_block ?_ | refine v_ret ?_ | refine v_skip ?_ | refine v_cond_t rfl tbL ?_) | (show SH _ _ _ _ _ (_ :: _) _ _ _; first | (show SH _ _ _ _ _ (⟨_, .move _, _, _, _, _⟩ :: _) _ _ _; refine mov evL ?_) | (show SH _ _ _ _ _ (⟨_, .assign _, _, _, _, _⟩ :: _) _ _ _; refine asg evL ?_) | (show SH _ _ _ _ _ (⟨_, .binOp .lss _ _ _ _, _, _, _, _⟩ :: _) _ _ _; refine lssT rfl rfl omD ?_) | (show SH _ _ _ _ _ (⟨_, .load _ _, _, _, _, _⟩ :: _) _ _ _; first | refine lra rfl (fun _ _ => rdS) (by rfl) omL ?_ | refine lra rfl (fun _ _ => rdS) (by rfl) (by simp only [List.length_cons, List.length_nil]; omega) ?_) | (show SH _ _ _ _ _ (⟨_, .indexAddr _ _ _, _, _, _, _⟩ :: _) _ _ _; refine ix rfl rfl (by with_reducible rfl) (fun _ _ => rdS) (by rfl) omL omL ?_) | (show SH _ _ _ _ _ (⟨_, .call ⟨.value (.tmp _), _, _⟩, _, _, _, _⟩ :: _) _ _ _; refine cl (callee := .tmp _) rfl (fun w hw => hp' _ hw.ext) rfl rfl ?_)) | refine s_nil ?_ | refine kh_normal ?_ | refine kh_ret ?_ | refine bh_ret ?_))
      exact rh1 rfl rfl ⟨congrArg (Value.int .i64) hv, rfl⟩ (ent_nil _)
    | false =>
      simp only [hb] at hp'
      rw [if_neg (by rw [hb]; simp)] at hv
      (repeat' (first | (show VH _ _ _ _ _ _ _; first | refine v_seq ?_ | refine r_seq ?_ | refine v_block ?_ | refine v_skip ?_ | refine v_cond_t rfl tbL ?_ | refine v_cond_f rfl tbL ?_) | (show SH _ _ _ _ _ (_ :: _) _ _ _; first | (show SH _ _ _ _ _ (⟨_, .move _, _, _, _, _⟩ :: _) _ _ _; refine mov evL ?_) | (show SH _ _ _ _ _ (⟨_, .assign _, _, _, _, _⟩ :: _) _ _ _; refine asg evL ?_) | (show SH _ _ _ _ _ (⟨_, .binOp .lss _ _ _ _, _, _, _, _⟩ :: _) _ _ _; refine lssT rfl rfl omD ?_) | (show SH _ _ _ _ _ (⟨_, .binOp .add _ _ _ _, _, _, _, _⟩ :: _) _ _ _; refine add rfl rfl inL ?_) | (show SH _ _ _ _ _ (⟨_, .load _ _, _, _, _, _⟩ :: _) _ _ _; first | refine lra rfl (fun _ _ => rdS) (by rfl) omL ?_ | refine lra rfl (fun _ _ => rdS) (by rfl) (by simp only [List.length_cons, List.length_nil]; omega) ?_) | (show SH _ _ _ _ _ (⟨_, .indexAddr _ _ _, _, _, _, _⟩ :: _) _ _ _; refine ix rfl rfl (by with_reducible rfl) (fun _ _ => rdS) (by rfl) omL omL ?_) | (show SH _ _ _ _ _ (⟨_, .call ⟨.value (.tmp _), _, _⟩, _, _, _, _⟩ :: _) _ _ _; refine cl (callee := .tmp _) rfl (fun w hw => hp' _ hw.ext) rfl rfl ?_)) | refine s_nil ?_ | refine kh_normal ?_ | refine bh_normal ?_))
      exact ⟨agL, k + 1, hsL, enL, ⟨by omega, hv⟩, by omega⟩
  · rw [List.drop_of_length_le (by omega), idxFrom] at hv
    (repeat' (first | (show VH _ _ _ _ _ _ _; first | refine v_seq ?_ | refine r_seq ?_ | refine v_ret ?_ | refine v_exit ?_ | refine v_cond_f rfl tbL ?_) | (show SH _ _ _ _ _ (_ :: _) _ _ _; first | (show SH _ _ _ _ _ (⟨_, .assign _, _, _, _, _⟩ :: _) _ _ _; refine asg evL ?_) | (show SH _ _ _ _ _ (⟨_, .binOp .lss _ _ _ _, _, _, _, _⟩ :: _) _ _ _; refine lssF rfl rfl omD ?_)) | refine s_nil ?_ | refine kh_normal ?_ | refine kh_exit ?_ | refine bh_exit ?_))
    exact rh1 rfl rfl ⟨congrArg (Value.int .i64) hv, rfl⟩ (ent_nil _)
set_option maxRecDepth 100000 in
theorem containsFuncM_spec (A : Option Addr) (l : List MbrP) (cp : Nat) (fv : Value) (p : MbrP → Bool) (w : World) (hl : l.length ≤ 1000000) (hr : Rd w A l) (hp : AsksM w fv l p) :
    Ret Try.prog 34 [.slice A l.length cp, fv].toArray w (Out w (.bool (l.any p))) := by
  refine enterH Try.func34 rfl rfl Try.ntmps34 rfl (Wd.refl _) ?_
  (repeat' (first | (show VH _ _ _ _ _ _ _; first | refine v_seq ?_ | refine r_seq ?_ | refine v_ret ?_) | (show SH _ _ _ _ _ (_ :: _) _ _ _; first | (show SH _ _ _ _ _ (⟨_, .move _, _, _, _, _⟩ :: _) _ _ _; refine mov evL ?_) | (show SH _ _ _ _ _ (⟨_, .assign _, _, _, _, _⟩ :: _) _ _ _; refine asg evL ?_) | refine geq rfl rfl ?_ | (show SH _ _ _ _ _ (⟨_, .call ⟨.value (.func 67), _, _⟩, _, _, _, _⟩ :: _) _ _ _; refine cl (callee := .func 67) rfl (fun w hw => indexFuncM_spec A l cp fv p w hl (hr.ext hw.ext) (hp.ext hw.ext)) rfl rfl ?_)) | refine s_nil ?_ | refine kh_normal ?_))
  exact rh1 rfl rfl ⟨congrArg Value.bool (idxFrom_any p l 0 (by omega)), rfl⟩ (ent_nil _)
/-- Sizes that fit into memory. -/
structure SzR (l : List MbrP) (g : List Msg) : Prop where
  ml : l.length ≤ 1000000
  gl : g.length ≤ 1000000
  ig : ∀ x ∈ l, x.m.ign.length ≤ 1000000
  tx : ∀ x ∈ g, x.txt.length ≤ 1000000
set_option maxHeartbeats 1000000 in
set_option maxRecDepth 100000 in
theorem notRight37 (w : World) (l : List MbrP) (hs : ∀ x ∈ l, x.m.ign.length ≤ 1000000) (hr : ∀ x ∈ l, Rd w x.A x.m.ign) : AsksM w (.func (.func 29) #[] #[]) l (fun x => !rightM x.m) := fun1_of fun w' he x hx => by
  have hr' := (hr x hx).ext he
  have hs' := hs x hx
  obtain ⟨⟨id, l⟩, A, ca⟩ := x
  have hc := fun w'' (he : Ext w' w'') => rightM_spec id l A ca w'' hs' (hr'.ext he)
  rw [show Flat.enc (⟨⟨id, l⟩, A, ca⟩ : MbrP) = [.int .i64 id, .slice A l.length ca] from rfl]
  simp only
  refine enterH Try.func29 rfl rfl Try.ntmps29 rfl (Wd.refl _) ?_
  (repeat' (first | (show VH _ _ _ _ _ _ _; first | refine v_seq ?_ | refine r_seq ?_ | refine v_ret ?_) | (show SH _ _ _ _ _ (_ :: _) _ _ _; first | (show SH _ _ _ _ _ (⟨_, .assign _, _, _, _, _⟩ :: _) _ _ _; refine asg evL ?_) | (show SH _ _ _ _ _ (⟨_, .load _ _, _, _, _, _⟩ :: _) _ _ _; refine lba rfl spL (by rfl) ?_) | (show SH _ _ _ _ _ (⟨_, .call ⟨.value (.func 30), _, _⟩, _, _, _, _⟩ :: _) _ _ _; refine cl (callee := .func 30) rfl (fun w hw => hc w hw.ext) rfl rfl ?_) | refine bnot rfl ?_ | (show SH _ _ _ _ _ (⟨_, .box _ _, _, _, _, _⟩ :: _) _ _ _; refine bxx rfl evL rfl (fun b => ?_))) | refine s_nil ?_ | refine kh_normal ?_))
  exact rh1 rfl rfl ⟨rfl, rfl⟩ (ent_nil _)
theorem any_right (l : List MbrP) : (l.any fun x => !rightM x.m) = !((mbrs l).all rightM) := by
  unfold mbrs
  induction l with
  | nil => rfl
  | cons x l ih => rw [List.any_cons, List.map_cons, List.all_cons, ih, Bool.not_and]
end Go.Proofs.Ytplhnnlklnbahaa

/- Layer 37 (chat): package strings: IndexAny, ContainsAny. -/
namespace Go.Proofs.Ytplhnnlklnbahaa
open Go.Fw Go.RowKit
/-- A space or an asterisk. -/
def isSp (c : UInt8) : Bool := decide (c.toNat = 32) || decide (c.toNat = 42)
theorem isSp_high {c : UInt8} (h : 128 ≤ c.toNat) : isSp c = false := by
  unfold isSp
  rw [decide_eq_false (by omega), decide_eq_false (by omega)]; rfl
theorem isSp_byte (c : UInt8) : (0 ≤ Go.Lib.indexByte spS c) ↔ isSp c = true := by
  unfold isSp
  have h32 : ((32 : UInt8) == c) = decide (c.toNat = 32) := by
    rw [Bool.eq_iff_iff, beq_iff_eq, decide_eq_true_eq]
    exact ⟨fun h => by rw [← h]; rfl, fun h => UInt8.toNat_inj.1 h.symm⟩
  have h42 : ((42 : UInt8) == c) = decide (c.toNat = 42) := by
    rw [Bool.eq_iff_iff, beq_iff_eq, decide_eq_true_eq]
    exact ⟨fun h => by rw [← h]; rfl, fun h => UInt8.toNat_inj.1 h.symm⟩
  simp only [Go.Lib.indexByte, h32, h42]
  by_cases a : c.toNat = 32
  · simp [a]
  · by_cases b : c.toNat = 42
    · simp [a, b]
    · simp [a, b]
theorem idx_skip (p : UInt8 → Bool) (s : List UInt8) {i j : Nat} (hij : i ≤ j) (h : ∀ q, i ≤ q → q < j → p (s.getD q 0) = false) : idxFrom p i (s.drop i) = idxFrom p j (s.drop j) := by
  obtain ⟨d, rfl⟩ := Nat.exists_eq_add_of_le hij
  clear hij
  induction d with
  | zero => rfl
  | succ d ih =>
    rw [ih (fun q h1 h2 => h q h1 (by omega))]
    by_cases hl : i + d < s.length
    · have hd : s.drop (i + d) = s.getD (i + d) 0 :: s.drop (i + d + 1) := by rw [getD_at 0 hl]; exact List.drop_eq_getElem_cons hl
      rw [hd, idxFrom, if_neg (by rw [h (i + d) (by omega) (by omega)]; simp)]; rfl
    · rw [List.drop_of_length_le (by omega), List.drop_of_length_le (by omega)]; rfl
def setC : Nat → List Value
  | 0 => List.replicate 256 (.bool false)
  | 1 => (List.replicate 256 (.bool false)).set 32 (.bool true)
  | _ => ((List.replicate 256 (.bool false)).set 32 (.bool true)).set 42 (.bool true)
theorem setC_at (c : UInt8) : (setC 2)[c.toNat]? = some (.bool (isSp c)) := by
  have hc := c.toNat_lt
  unfold isSp
  show (((List.replicate 256 (Value.bool false)).set 32 (.bool true)).set 42 (.bool true))[c.toNat]? = _
  rw [List.getElem?_set, List.getElem?_set, List.getElem?_replicate, if_pos hc]
  simp only [List.length_set, List.length_replicate]
  by_cases a : 42 = c.toNat
  · rw [← a]; rfl
  · rw [if_neg a]
    by_cases b : 32 = c.toNat
    · rw [← b]; rfl
    · rw [if_neg b, decide_eq_false (fun h => b h.symm), decide_eq_false (fun h => a h.symm)]; rfl
set_option maxRecDepth 100000 in
theorem useSet_spec (k : Int) (w : World) : Ret Try.prog 95 [.int .i64 k].toArray w (Out w (.bool (decide (8 < k)))) := by
  refine enterH Try.func95 rfl rfl Try.ntmps95 rfl (Wd.refl _) ?_
  (repeat' (first | (show VH _ _ _ _ _ _ _; first | refine v_seq ?_ | refine r_seq ?_ | refine v_ret ?_) | (show SH _ _ _ _ _ (_ :: _) _ _ _; first | (show SH _ _ _ _ _ (⟨_, .move _, _, _, _, _⟩ :: _) _ _ _; refine mov evL ?_) | (show SH _ _ _ _ _ (⟨_, .assign _, _, _, _, _⟩ :: _) _ _ _; refine asg evL ?_) | refine gtr rfl rfl ?_) | refine s_nil ?_ | refine kh_normal ?_))
  all_goals exact rh1 rfl rfl ⟨rfl, rfl⟩ (ent_nil _)
set_option maxRecDepth 100000 in
theorem setHas_spec (b : Nat) (c : UInt8) (v : Bool) (w : World) (hc : w.cell? ⟨b, c.toNat, none⟩ = some (.bool v)) : Ret Try.prog 97 [.pointer (some ⟨b, 0, none⟩), .int .u8 c.toNat].toArray w (Out w (.bool v)) := by
  have hl := c.toNat_lt
  have hc : w.cell? ((⟨b, 0, none⟩ : Addr).add (c.toNat * 1)) = some (.bool v) := by rw [Addr.add_lit, Nat.zero_add, Nat.mul_one]; exact hc
  refine enterH Try.func97 rfl rfl Try.ntmps97 rfl (Wd.refl _) ?_
  (repeat' (first | (show VH _ _ _ _ _ _ _; first | refine v_seq ?_ | refine r_seq ?_ | refine v_ret ?_) | (show SH _ _ _ _ _ (_ :: _) _ _ _; first | (show SH _ _ _ _ _ (⟨_, .move _, _, _, _, _⟩ :: _) _ _ _; refine mov evL ?_) | (show SH _ _ _ _ _ (⟨_, .assign _, _, _, _, _⟩ :: _) _ _ _; refine asg evL ?_) | (show SH _ _ _ _ _ (⟨_, .load _ _, _, _, _, _⟩ :: _) _ _ _; refine lcell rfl (fun w hw => hw.ext.cell (by assumption)) ?_) | (show SH _ _ _ _ _ (⟨_, .indexAddr _ _ _, _, _, _, _⟩ :: _) _ _ _; refine ixA _ rfl rfl rfl omL ?_) | refine nlc rfl ?_) | refine s_nil ?_ | refine kh_normal ?_))
  exact rh1 rfl rfl ⟨rfl, rfl⟩ (ent_nil _)
set_option maxHeartbeats 2000000 in
set_option maxRecDepth 100000 in
theorem makeSet_spec (w : World) : Ret Try.prog 96 [.string (bs spS)].toArray w (Out w (.tuple #[.agg (setC 2).toArray, .bool true])) := by
  have h0 : (spS.getD 0 0).toNat = 32 := rfl
  have h1 : (spS.getD 1 0).toNat = 42 := rfl
  have h2 : spS.length = 2 := rfl
  refine enterH Try.func96 rfl rfl Try.ntmps96 rfl (Wd.refl _) ?_
  (repeat' (first | (show VH _ _ _ _ _ _ _; first | refine v_seq ?_ | refine r_seq ?_ | refine v_block ?_) | (show SH _ _ _ _ _ (_ :: _) _ _ _; first | (show SH _ _ _ _ _ (⟨_, .assign _, _, _, _, _⟩ :: _) _ _ _; refine asg evL ?_) | refine ala rfl (fun b => ?_)) | refine s_nil ?_ | refine kh_normal ?_))
  refine v_norm [(0,_),(2,_),(4,_)] heL (fun g => ?_)
  refine v_loop [(3,19)] (fun k : Nat => [(4, .int .i64 k)]) (fun k => [bx b 132 (setC k)]) (fun k => k ≤ 2) (fun k => 2 - k) 0 hsL enL (Nat.zero_le _) ?_
  rintro k g hk
  simp only [sets]
  have hk' : k = 0 ∨ k = 1 ∨ k = 2 := by omega
  rcases hk' with rfl | rfl | rfl
  · (repeat' (first | (show VH _ _ _ _ _ _ _; first | refine v_seq ?_ | refine r_seq ?_ | refine v_block ?_ | refine v_skip ?_ | refine v_cond_t rfl tbL ?_ | refine v_cond_f rfl tbL ?_) | (show SH _ _ _ _ _ (_ :: _) _ _ _; first | (show SH _ _ _ _ _ (⟨_, .move _, _, _, _, _⟩ :: _) _ _ _; refine mov evL ?_) | (show SH _ _ _ _ _ (⟨_, .assign _, _, _, _, _⟩ :: _) _ _ _; refine asg evL ?_) | (show SH _ _ _ _ _ (⟨_, .binOp .lss _ _ _ _, _, _, _, _⟩ :: _) _ _ _; refine lssT rfl rfl omD ?_) | (show SH _ _ _ _ _ (⟨_, .binOp .geq _ _ _ _, _, _, _, _⟩ :: _) _ _ _; refine geqF rfl rfl omD ?_) | (show SH _ _ _ _ _ (⟨_, .binOp .add _ _ _ _, _, _, _, _⟩ :: _) _ _ _; refine add rfl rfl inL ?_) | (show SH _ _ _ _ _ (⟨_, .indexAddr _ _ _, _, _, _, _⟩ :: _) _ _ _; refine ixA _ rfl rfl rfl omL ?_) | refine sln rfl ?_ | (show SH _ _ _ _ _ (⟨_, .index _ _ _, _, _, _, _⟩ :: _) _ _ _; refine six rfl rfl (by with_reducible rfl) omL ?_) | (show SH _ _ _ _ _ (⟨_, .store _ _ _, _, _, _, _⟩ :: _) _ _ _; refine stb rfl rfl evL spL rfl rfl (by first | decide | exact Nat.zero_lt_succ _ | exact of_decide_eq_true rfl) kpL ?_)) | refine s_nil ?_ | refine kh_normal ?_ | refine bh_normal ?_))
    exact ⟨agL, 1, hsL, ent_refl _, by decide, by decide⟩
  · (repeat' (first | (show VH _ _ _ _ _ _ _; first | refine v_seq ?_ | refine r_seq ?_ | refine v_block ?_ | refine v_skip ?_ | refine v_cond_t rfl tbL ?_ | refine v_cond_f rfl tbL ?_) | (show SH _ _ _ _ _ (_ :: _) _ _ _; first | (show SH _ _ _ _ _ (⟨_, .move _, _, _, _, _⟩ :: _) _ _ _; refine mov evL ?_) | (show SH _ _ _ _ _ (⟨_, .assign _, _, _, _, _⟩ :: _) _ _ _; refine asg evL ?_) | (show SH _ _ _ _ _ (⟨_, .binOp .lss _ _ _ _, _, _, _, _⟩ :: _) _ _ _; refine lssT rfl rfl omD ?_) | (show SH _ _ _ _ _ (⟨_, .binOp .geq _ _ _ _, _, _, _, _⟩ :: _) _ _ _; refine geqF rfl rfl omD ?_) | (show SH _ _ _ _ _ (⟨_, .binOp .add _ _ _ _, _, _, _, _⟩ :: _) _ _ _; refine add rfl rfl inL ?_) | (show SH _ _ _ _ _ (⟨_, .indexAddr _ _ _, _, _, _, _⟩ :: _) _ _ _; refine ixA _ rfl rfl rfl omL ?_) | refine sln rfl ?_ | (show SH _ _ _ _ _ (⟨_, .index _ _ _, _, _, _, _⟩ :: _) _ _ _; refine six rfl rfl (by with_reducible rfl) omL ?_) | (show SH _ _ _ _ _ (⟨_, .store _ _ _, _, _, _, _⟩ :: _) _ _ _; refine stb rfl rfl evL spL rfl rfl (by first | decide | exact Nat.zero_lt_succ _ | exact of_decide_eq_true rfl) kpL ?_)) | refine s_nil ?_ | refine kh_normal ?_ | refine bh_normal ?_))
    exact ⟨agL, 2, hsL, ent_refl _, by decide, by decide⟩
  · (repeat' (first | (show VH _ _ _ _ _ _ _; first | refine v_seq ?_ | refine r_seq ?_ | refine v_ret ?_ | refine v_exit ?_ | refine v_cond_f rfl tbL ?_) | (show SH _ _ _ _ _ (_ :: _) _ _ _; first | (show SH _ _ _ _ _ (⟨_, .move _, _, _, _, _⟩ :: _) _ _ _; refine mov evL ?_) | (show SH _ _ _ _ _ (⟨_, .assign _, _, _, _, _⟩ :: _) _ _ _; refine asg evL ?_) | (show SH _ _ _ _ _ (⟨_, .binOp .lss _ _ _ _, _, _, _, _⟩ :: _) _ _ _; refine lssF rfl rfl omD ?_) | (show SH _ _ _ _ _ (⟨_, .load _ _, _, _, _, _⟩ :: _) _ _ _; refine lba rfl spL (by rfl) ?_) | refine sln rfl ?_ | (show SH _ _ _ _ _ (⟨_, .store _ _ _, _, _, _, _⟩ :: _) _ _ _; refine sta rfl rfl rfl spL (by rfl) (by rfl) (by rfl) kpL ?_)) | refine s_nil ?_ | refine kh_normal ?_ | refine kh_exit ?_ | refine bh_exit ?_))
    exact rhC2 rfl rfl rfl rfl (fun w hw => loadVar_bx hw spL (by rfl)) ⟨rfl, rfl⟩ (ent_nil _)
set_option maxHeartbeats 4000000 in
set_option maxRecDepth 100000 in
theorem indexAny_spec (s : List UInt8) (w : World) (hs : s.length ≤ 1000000) : Ret Try.prog 85 [.string (bs s), .string (bs spS)].toArray w (Out w (.int .i64 (idxFrom isSp 0 s))) := by
  have hu := fun w => useSet_spec s.length w
  have hmk := fun w => makeSet_spec w
  have h2 : spS.length = 2 := rfl
  have hne : ¬ spS = [] := by decide
  by_cases hl : 8 < s.length
  · rw [decide_eq_true (show (8 : Int) < (s.length : Int) by omega)] at hu
    refine enterH Try.func85 rfl rfl Try.ntmps85 rfl (Wd.refl _) ?_
    (repeat' (first | (show VH _ _ _ _ _ _ _; first | refine v_seq ?_ | refine r_seq ?_ | refine v_block ?_ | refine v_skip ?_ | refine v_cond_t rfl tbL ?_ | refine v_cond_f rfl tbL ?_) | (show SH _ _ _ _ _ (_ :: _) _ _ _; first | (show SH _ _ _ _ _ (⟨_, .move _, _, _, _, _⟩ :: _) _ _ _; refine mov evL ?_) | (show SH _ _ _ _ _ (⟨_, .assign _, _, _, _, _⟩ :: _) _ _ _; refine asg evL ?_) | (show SH _ _ _ _ _ (⟨_, .binOp .eql _ _ _ _, _, _, _, _⟩ :: _) _ _ _; first | refine eqlF rfl rfl omD ?_ | refine seqF rfl rfl (by assumption) ?_) | refine sln rfl ?_ | (show SH _ _ _ _ _ (⟨_, .call ⟨.value (.func 95), _, _⟩, _, _, _, _⟩ :: _) _ _ _; refine cl (callee := .func 95) rfl (fun w hw => hu w) rfl rfl ?_) | (show SH _ _ _ _ _ (⟨_, .call ⟨.value (.func 96), _, _⟩, _, _, _, _⟩ :: _) _ _ _; refine cl (callee := .func 96) rfl (fun w hw => hmk w) rfl rfl ?_) | refine extr rfl rfl ?_ | refine ala rfl (fun b => ?_) | (show SH _ _ _ _ _ (⟨_, .store _ _ _, _, _, _, _⟩ :: _) _ _ _; refine sta rfl rfl rfl spL (by rfl) (by rfl) (by rfl) kpL ?_)) | refine s_nil ?_ | refine kh_normal ?_))
    refine v_norm [(0,_),(6,_),(8,_)] heL (fun g => ?_)
    refine v_loop [(4,4),(8,8),(33,43)] (fun k : Nat => [(8, .int .i64 k)]) (fun _ => [bx b 132 (setC 2)]) (fun k => k ≤ s.length ∧ idxFrom isSp 0 s = idxFrom isSp k (s.drop k)) (fun k => s.length - k) 0 hsL enL ⟨Nat.zero_le _, rfl⟩ ?_
    rintro k g ⟨hk, hok⟩
    simp only [sets]
    by_cases hkl : k < s.length
    · have hd : s.drop k = s.getD k 0 :: s.drop (k + 1) := by rw [getD_at 0 hkl]; exact List.drop_eq_getElem_cons hkl
      rw [hd, idxFrom] at hok
      have hset := setC_at (s.getD k 0)
      generalize setC 2 = C at hset ⊢
      generalize hv : isSp (s.getD k 0) = v at hset hok
      clear hd hu hmk
      cases v with
      | true =>
        rw [if_pos rfl] at hok
        rw [hok]
        clear hok hv
        (repeat' (first | (show VH _ _ _ _ _ _ _; first | refine v_seq ?_ | refine r_seq ?_ | refine v_block ?_ | refine v_ret ?_ | refine v_skip ?_ | refine v_cond_t rfl tbL ?_) | (show SH _ _ _ _ _ (_ :: _) _ _ _; first | (show SH _ _ _ _ _ (⟨_, .move _, _, _, _, _⟩ :: _) _ _ _; refine mov evL ?_) | (show SH _ _ _ _ _ (⟨_, .assign _, _, _, _, _⟩ :: _) _ _ _; refine asg evL ?_) | (show SH _ _ _ _ _ (⟨_, .binOp .lss _ _ _ _, _, _, _, _⟩ :: _) _ _ _; refine lssT rfl rfl omD ?_) | refine sln rfl ?_ | (show SH _ _ _ _ _ (⟨_, .index _ _ _, _, _, _, _⟩ :: _) _ _ _; refine six rfl rfl (by with_reducible rfl) omL ?_) | (show SH _ _ _ _ _ (⟨_, .call ⟨.value (.func 97), _, _⟩, _, _, _, _⟩ :: _) _ _ _; refine cl (callee := .func 97) rfl (fun w hw => setHas_spec b (s.getD k 0) true w (hw.cell (cs := C) spL hset)) rfl rfl ?_)) | refine s_nil ?_ | refine kh_normal ?_ | refine kh_ret ?_ | refine bh_ret ?_))
        exact rh1 rfl rfl ⟨rfl, rfl⟩ (ent_nil _)
      | false =>
        rw [if_neg (by simp)] at hok
        clear hv
        (repeat' (first | (show VH _ _ _ _ _ _ _; first | refine v_seq ?_ | refine r_seq ?_ | refine v_block ?_ | refine v_skip ?_ | refine v_cond_t rfl tbL ?_ | refine v_cond_f rfl tbL ?_) | (show SH _ _ _ _ _ (_ :: _) _ _ _; first | (show SH _ _ _ _ _ (⟨_, .move _, _, _, _, _⟩ :: _) _ _ _; refine mov evL ?_) | (show SH _ _ _ _ _ (⟨_, .assign _, _, _, _, _⟩ :: _) _ _ _; refine asg evL ?_) | (show SH _ _ _ _ _ (⟨_, .binOp .lss _ _ _ _, _, _, _, _⟩ :: _) _ _ _; refine lssT rfl rfl omD ?_) | (show SH _ _ _ _ _ (⟨_, .binOp .add _ _ _ _, _, _, _, _⟩ :: _) _ _ _; refine add rfl rfl inL ?_) | refine sln rfl ?_ | (show SH _ _ _ _ _ (⟨_, .index _ _ _, _, _, _, _⟩ :: _) _ _ _; refine six rfl rfl (by with_reducible rfl) omL ?_) | (show SH _ _ _ _ _ (⟨_, .call ⟨.value (.func 97), _, _⟩, _, _, _, _⟩ :: _) _ _ _; refine cl (callee := .func 97) rfl (fun w hw => setHas_spec b (s.getD k 0) false w (hw.cell (cs := C) spL hset)) rfl rfl ?_)) | refine s_nil ?_ | refine kh_normal ?_ | refine bh_normal ?_))
        exact ⟨agL, k + 1, hsL, enL, ⟨hkl, hok⟩, by omega⟩
    · obtain rfl : k = s.length := by omega
      rw [hok, List.drop_length]
      clear hok
      generalize setC 2 = C
      (repeat' (first | (show VH _ _ _ _ _ _ _; first | refine v_seq ?_ | refine r_seq ?_ | refine v_ret ?_ | refine v_exit ?_ | refine v_cond_f rfl tbL ?_) | (show SH _ _ _ _ _ (_ :: _) _ _ _; first | (show SH _ _ _ _ _ (⟨_, .move _, _, _, _, _⟩ :: _) _ _ _; refine mov evL ?_) | (show SH _ _ _ _ _ (⟨_, .assign _, _, _, _, _⟩ :: _) _ _ _; refine asg evL ?_) | (show SH _ _ _ _ _ (⟨_, .binOp .lss _ _ _ _, _, _, _, _⟩ :: _) _ _ _; refine lssF rfl rfl omD ?_) | refine sln rfl ?_) | refine s_nil ?_ | refine kh_normal ?_ | refine kh_ret ?_ | refine kh_exit ?_ | refine bh_exit ?_))
      exact rh1 rfl rfl ⟨rfl, rfl⟩ (ent_nil _)
  · rw [decide_eq_false (show ¬ (8 : Int) < (s.length : Int) by omega)] at hu
    refine enterH Try.func85 rfl rfl Try.ntmps85 rfl (Wd.refl _) ?_
    (repeat' (first | (show VH _ _ _ _ _ _ _; first | refine v_seq ?_ | refine r_seq ?_ | refine v_skip ?_ | refine v_cond_f rfl tbL ?_) | (show SH _ _ _ _ _ (_ :: _) _ _ _; first | (show SH _ _ _ _ _ (⟨_, .move _, _, _, _, _⟩ :: _) _ _ _; refine mov evL ?_) | (show SH _ _ _ _ _ (⟨_, .assign _, _, _, _, _⟩ :: _) _ _ _; refine asg evL ?_) | (show SH _ _ _ _ _ (⟨_, .binOp .eql _ _ _ _, _, _, _, _⟩ :: _) _ _ _; first | refine eqlF rfl rfl omD ?_ | refine seqF rfl rfl (by assumption) ?_) | refine sln rfl ?_ | (show SH _ _ _ _ _ (⟨_, .call ⟨.value (.func 95), _, _⟩, _, _, _, _⟩ :: _) _ _ _; refine cl (callee := .func 95) rfl (fun w hw => hu w) rfl rfl ?_)) | refine s_nil ?_ | refine kh_normal ?_))
    refine rgs rfl rfl fun b => ?_
    (repeat' (first | refine v_block ?_ | refine s_nil ?_ | refine kh_normal ?_))
    refine v_norm [(0,_),(1,_),(45,_)] heL (fun g => ?_)
    refine v_loop [(4,4),(9,10),(46,54)] (fun _ : Nat => []) (fun k => [itr b s k]) (fun k => idxFrom isSp 0 s = idxFrom isSp k (s.drop k)) (fun k => s.length - k) 0 hsL enL rfl ?_
    rintro k g hok
    simp only [sets]
    by_cases hkl : k < s.length
    · by_cases ha : (s.getD k 0).toNat < 128
      · have hd : s.drop k = s.getD k 0 :: s.drop (k + 1) := by rw [getD_at 0 hkl]; exact List.drop_eq_getElem_cons hkl
        rw [hd, idxFrom] at hok
        have hR := fun w => indexRuneA_spec (s.getD k 0) ha w
        have hby := isSp_byte (s.getD k 0)
        generalize Go.Lib.indexByte spS (s.getD k 0) = z at hR hby
        clear hd hu hmk
        by_cases hv : isSp (s.getD k 0) = true
        · rw [if_pos hv] at hok
          rw [hok]
          have hz := hby.2 hv
          clear hok hv hby
          (repeat' ((show VH _ _ _ _ _ _ _; first | refine v_seq ?_ | refine r_seq ?_)))
          refine nxA rfl rfl spL hkl ha trivial ?_
          (repeat' (first | (show VH _ _ _ _ _ _ _; first | refine v_seq ?_ | refine r_seq ?_ | refine v_block ?_ | refine v_ret ?_ | refine v_skip ?_ | refine v_cond_t rfl tbL ?_) | (show SH _ _ _ _ _ (_ :: _) _ _ _; first | (show SH _ _ _ _ _ (⟨_, .move _, _, _, _, _⟩ :: _) _ _ _; refine mov evL ?_) | (show SH _ _ _ _ _ (⟨_, .assign _, _, _, _, _⟩ :: _) _ _ _; refine asg evL ?_) | (show SH _ _ _ _ _ (⟨_, .binOp .geq _ _ _ _, _, _, _, _⟩ :: _) _ _ _; refine geqT rfl rfl omD ?_) | (show SH _ _ _ _ _ (⟨_, .call ⟨.value (.func 94), _, _⟩, _, _, _, _⟩ :: _) _ _ _; refine cl (callee := .func 94) rfl (fun w hw => hR w) rfl rfl ?_) | refine extr rfl rfl ?_) | refine s_nil ?_ | refine kh_normal ?_ | refine kh_ret ?_ | refine bh_ret ?_))
          exact rh1 rfl rfl ⟨rfl, rfl⟩ (ent_nil _)
        · rw [if_neg hv] at hok
          have hz : ¬ 0 ≤ z := fun h => hv (hby.1 h)
          clear hv hby
          (repeat' ((show VH _ _ _ _ _ _ _; first | refine v_seq ?_ | refine r_seq ?_)))
          refine nxA rfl rfl spL hkl ha trivial ?_
          (repeat' (first | (show VH _ _ _ _ _ _ _; first | refine v_seq ?_ | refine r_seq ?_ | refine v_block ?_ | refine v_skip ?_ | refine v_cond_t rfl tbL ?_ | refine v_cond_f rfl tbL ?_) | (show SH _ _ _ _ _ (_ :: _) _ _ _; first | (show SH _ _ _ _ _ (⟨_, .move _, _, _, _, _⟩ :: _) _ _ _; refine mov evL ?_) | (show SH _ _ _ _ _ (⟨_, .assign _, _, _, _, _⟩ :: _) _ _ _; refine asg evL ?_) | (show SH _ _ _ _ _ (⟨_, .binOp .geq _ _ _ _, _, _, _, _⟩ :: _) _ _ _; refine geqF rfl rfl omD ?_) | (show SH _ _ _ _ _ (⟨_, .call ⟨.value (.func 94), _, _⟩, _, _, _, _⟩ :: _) _ _ _; refine cl (callee := .func 94) rfl (fun w hw => hR w) rfl rfl ?_) | refine extr rfl rfl ?_) | refine s_nil ?_ | refine kh_normal ?_ | refine bh_normal ?_))
          exact ⟨agL, k + 1, hsL, enL, hok, by omega⟩
      · have ha' : 128 ≤ (s.getD k 0).toNat := by omega
        clear hu hmk ha
        (repeat' ((show VH _ _ _ _ _ _ _; first | refine v_seq ?_ | refine r_seq ?_)))
        refine nxR rfl rfl spL hkl ha' (fun _ => trivial) fun r' j' h1 h2 h3 h4 => ?_
        have hR := fun w => indexRuneH_spec r' h1 h2 w
        have hok' := hok.trans (idx_skip isSp s (Nat.le_of_lt h3) (fun q h5 h6 => isSp_high (h4 q h5 h6)))
        clear h1 h2 h4 ha' hok
        (repeat' (first | (show VH _ _ _ _ _ _ _; first | refine v_seq ?_ | refine r_seq ?_ | refine v_block ?_ | refine v_skip ?_ | refine v_cond_t rfl tbL ?_ | refine v_cond_f rfl tbL ?_) | (show SH _ _ _ _ _ (_ :: _) _ _ _; first | (show SH _ _ _ _ _ (⟨_, .move _, _, _, _, _⟩ :: _) _ _ _; refine mov evL ?_) | (show SH _ _ _ _ _ (⟨_, .assign _, _, _, _, _⟩ :: _) _ _ _; refine asg evL ?_) | (show SH _ _ _ _ _ (⟨_, .binOp .geq _ _ _ _, _, _, _, _⟩ :: _) _ _ _; refine geqF rfl rfl omD ?_) | (show SH _ _ _ _ _ (⟨_, .call ⟨.value (.func 94), _, _⟩, _, _, _, _⟩ :: _) _ _ _; refine cl (callee := .func 94) rfl (fun w hw => hR w) rfl rfl ?_) | refine extr rfl rfl ?_) | refine s_nil ?_ | refine kh_normal ?_ | refine bh_normal ?_))
        exact ⟨agL, j', hsL, enL, hok', by omega⟩
    · rw [List.drop_of_length_le (by omega)] at hok
      rw [hok]
      clear hok
      have hks : s.length ≤ k := by omega
      (repeat' ((show VH _ _ _ _ _ _ _; first | refine v_seq ?_ | refine r_seq ?_)))
      refine nxE rfl rfl spL hks trivial ?_
      (repeat' (first | (show VH _ _ _ _ _ _ _; first | refine v_seq ?_ | refine r_seq ?_ | refine v_ret ?_ | refine v_exit ?_ | refine v_cond_f rfl tbL ?_) | (show SH _ _ _ _ _ (_ :: _) _ _ _; first | (show SH _ _ _ _ _ (⟨_, .assign _, _, _, _, _⟩ :: _) _ _ _; refine asg evL ?_) | refine extr rfl rfl ?_) | refine s_nil ?_ | refine kh_normal ?_ | refine kh_exit ?_ | refine bh_exit ?_))
      exact rh1 rfl rfl ⟨rfl, rfl⟩ (ent_nil _)
set_option maxRecDepth 100000 in
theorem containsAny_spec (s : List UInt8) (w : World) (hs : s.length ≤ 1000000) : Ret Try.prog 56 [.string (bs s), .string (bs spS)].toArray w (Out w (.bool (s.any isSp))) := by
  have h := fun w => indexAny_spec s w hs
  rw [← idxFrom_any isSp s 0 (by omega)]
  generalize idxFrom isSp 0 s = z at h ⊢
  refine enterH Try.func56 rfl rfl Try.ntmps56 rfl (Wd.refl _) ?_
  (repeat' (first | (show VH _ _ _ _ _ _ _; first | refine v_seq ?_ | refine r_seq ?_ | refine v_ret ?_) | (show SH _ _ _ _ _ (_ :: _) _ _ _; first | (show SH _ _ _ _ _ (⟨_, .move _, _, _, _, _⟩ :: _) _ _ _; refine mov evL ?_) | (show SH _ _ _ _ _ (⟨_, .assign _, _, _, _, _⟩ :: _) _ _ _; refine asg evL ?_) | refine geq rfl rfl ?_ | (show SH _ _ _ _ _ (⟨_, .call ⟨.value (.func 85), _, _⟩, _, _, _, _⟩ :: _) _ _ _; refine cl (callee := .func 85) rfl (fun w hw => h w) rfl rfl ?_)) | refine s_nil ?_ | refine kh_normal ?_))
  exact rh1 rfl rfl ⟨rfl, rfl⟩ (ent_nil _)
end Go.Proofs.Ytplhnnlklnbahaa

/- Slices are made whose elements have more than one cell. -/
namespace Go.Fw
open Go.RowKit
theorem made_zero (z : Array Value) (k : Nat) : madeCells z (k * z.size) = Builtin.zeroCells z k := rfl
section
variable {md : Md} {P : Program} {n : Nat} {Q : HQ} {f : Fr} {w0 : World} {H R : List HP} {ops : Array Oper} {rest : List Oper} {d : Nat} {ty : TypeId} {pos : String} {aft : Array Edge} {x y : Operand}
theorem mkzA {α : Type} [F : Flat α] {t e : TypeId} {sz by_ : Nat} {z : Value} {k1 k2 : IntKind} {m cp : Int} [ht : TSl P t e sz by_] [he : TEl P e sz by_] (hz : (P.info? e).bind (·.zero) = some z) (hm : addOK md = true) (hx : ev n f x = .int k1 m) (hy : ev n f y = .int k2 cp) (hsz : sz = F.sz) (hzc : z.cells.toList = F.enc F.dflt)
    (h0 : 0 ≤ m) (h1 : m ≤ cp) (hbig : cp * by_ ≤ 140737488355328) (h63 : cp ≤ 140737488355328)
    (k : ∀ b, SH (nx md) P n ops Q rest (upd f d (.slice (some ⟨b, 0, none⟩) m.toNat cp.toNat)) w0 (orow e (some ⟨b, 0, none⟩) cp.toNat (List.replicate m.toNat (F.dflt : α)) :: H)) :
    SH md P n ops Q (⟨some d, .makeSlice t x y, ty, pos, aft, none⟩ :: rest) f w0 H := by
  refine s_add hm fun w hw => ?_
  obtain ⟨i, z', hi, hisz, hiby, hz', hzs⟩ := he.inf
  have e1 : z' = z := by rw [hi] at hz; simp only [Option.bind_some] at hz; rw [hz'] at hz; injection hz
  subst e1
  have hrun := run_make (P := P) w t e i z' ht.und hi hz' k1 k2 m cp h0 h1 (by rw [hiby, Int.mul_comm]; omega) (by omega)
  have hmc : m.toNat ≤ cp.toNat := by omega
  have hzz : z'.cells.size = i.size := by rw [hisz, hzs]
  refine wl_val (v := .slice (some ⟨w.heap.size, 0, none⟩) m.toNat cp.toNat) (w' := w.alloc (.cells (madeCells z'.cells (cp.toNat * i.size)) e)) ?_ (wl_nil ⟨rfl, Ext.alloc w _, _, k _, hw.newRow (Ext.alloc w _) ?_⟩)
  · intro d pos aft g
    simp [execOp, hx, hy, hrun]
  · have hrl : (List.replicate m.toNat (F.dflt : α)).length = m.toNat := List.length_replicate
    refine ⟨by rw [encs_len, hrl], .inr ⟨w.heap.size, cp.toNat, _, by rw [hrl], Nat.le_refl _, heap_alloc_new w _, by rw [hrl]; exact hmc, by simp only [maxLen]; omega, by rw [size_madeCells, hisz, hsz], ?_⟩⟩
    rw [← hzz, made_zero, encs_zero z'.cells hzc, hrl, encs_take, List.take_replicate, Nat.min_eq_left hmc]
end
end Go.Fw

/- Layer 37 (chat): Build. -/
namespace Go.Proofs.Ytplhnnlklnbahaa
open Go.Fw Go.RowKit
theorem okW_eq (s : List UInt8) : okW (n8 s) = (decide (1 ≤ s.length) && decide (s.length ≤ 20) && !(s.any isSp)) := by
  unfold okW
  rw [n8_len]
  have h : (!decide (32 ∈ n8 s) && !decide (42 ∈ n8 s)) = !(s.any isSp) := by
    rw [← Bool.not_or]
    congr 1
    unfold n8
    induction s with
    | nil => rfl
    | cons c s ih =>
      rw [List.any_cons, ← ih]
      unfold isSp
      simp only [List.map_cons, List.mem_cons]
      by_cases a : c.toNat = 32
      · simp [a]
      · by_cases b : c.toNat = 42
        · simp [b]
        · have a' : ¬ 32 = c.toNat := fun h => a h.symm
          have b' : ¬ 42 = c.toNat := fun h => b h.symm
          simp [a, b, a', b']
  rw [Bool.and_assoc (_ && _), h]
theorem nodE_new (k : Nat) : nodE (nod0 k) = (List.replicate 260 (Value.int .i32 0)).set 258 (.int .i32 (k : Nat)) := by
  refine nodE_ext (nodE_len _) (by rw [List.length_set, List.length_replicate]) (fun b hb => ?_) (fun j hj => ?_)
  · rw [nodE_next _ hb, List.getElem?_set_ne (by omega), List.getElem?_replicate, if_pos (by omega)]
    show some (Value.int .i32 (((List.replicate 256 0).getD b 0 : Nat) : Int)) = _
    rw [List.getD_eq_getElem?_getD, List.getElem?_replicate, if_pos hb]; rfl
  · rw [nodE_num]
    have hj' : j = 0 ∨ j = 1 ∨ j = 2 ∨ j = 3 := by omega
    rcases hj' with rfl | rfl | rfl | rfl
    · rw [List.getElem?_set_ne (by omega), List.getElem?_replicate, if_pos (by omega)]; rfl
    · rw [List.getElem?_set_ne (by omega), List.getElem?_replicate, if_pos (by omega)]; rfl
    · rw [List.getElem?_set_self (by rw [List.length_replicate]; omega)]; rfl
    · rw [List.getElem?_set_ne (by omega), List.getElem?_replicate, if_pos (by omega)]; rfl
theorem nodE_zero : nodE (nod0 0) = List.replicate 260 (Value.int .i32 0) := by
  rw [nodE_new]
  refine List.ext_getElem? fun i => ?_
  by_cases h : i = 258
  · subst h
    rw [List.getElem?_set_self (by rw [List.length_replicate]; omega), List.getElem?_replicate, if_pos (by omega)]; rfl
  · rw [List.getElem?_set_ne (fun e => h e.symm)]
theorem trie_word {N : List Nod} {P V : List (List Nat)} (T : Trie N P V) {w : List Nat} (hb : ∀ b ∈ w, b < 256) (ok : okW w = true) (h0 : (nodA (insW N (foldW w)).1 (insW N (foldW w)).2).word = 0) :
    ∃ P' V', Trie ((insW N (foldW w)).1.set (insW N (foldW w)).2 { nodA (insW N (foldW w)).1 (insW N (foldW w)).2 with word := V.length + 1 }) P' V' ∧ V'.length = V.length + 1 := by
  obtain ⟨P1, t1, e1, l1, m1, n1⟩ := T.insW (foldW_lt hb)
  have hlen := okW_pos ok
  have hv := (t1.word_zero l1).1 h0
  have hne : P1.getD (insW N (foldW w)).2 [] ≠ [] := by
    rw [e1]
    intro e
    have := congrArg List.length e
    rw [foldW_len, List.length_nil] at this
    omega
  exact ⟨_, _, t1.mark l1 hv hne, by rw [List.length_append]; rfl⟩
/-- The letters of a word, one by one. -/
theorem ins_steps {N : List Nod} {P V : List (List Nat)} (T : Trie N P V) {fw : List Nat} (hb : ∀ b ∈ fw, b < 256) :
    ∃ S : Nat → List Nod × Nat, S 0 = (N, 0) ∧ (∀ j, j < fw.length → S (j + 1) = insB (S j) (fw.getD j 0)) ∧ (∀ j, j ≤ fw.length → (S j).2 < (S j).1.length ∧ (S j).1.length ≤ N.length + j ∧ (nodA (S j).1 (S j).2).size = j ∧ (∀ k, k < (S j).1.length → (nodA (S j).1 k).next.length = 256) ∧ (∀ k b, k < (S j).1.length → b < 256 → nxt (S j).1 k b < (S j).1.length)) ∧ S fw.length = insW N fw := by
  refine ⟨fun j => (fw.take j).foldl insB (N, 0), rfl, fun j hj => ?_, fun j hj => ?_, by simp only [List.take_length]; rfl⟩
  · simp only
    rw [take_snoc (d := (0 : Nat)) hj, List.foldl_append]; rfl
  · obtain ⟨P', t, _, e, l, m, n⟩ := T.fold (fw.take j) (k := 0) (by rw [← T.len]; exact T.root.2) (fun b h => hb b (List.mem_of_mem_take h))
    have hlj : (fw.take j).length = j := by rw [List.length_take]; omega
    rw [hlj] at m
    refine ⟨l, m, ?_, t.wid, fun k b hk hb => ?_⟩
    · simp only
      rw [t.size _ l, e, T.root.1, List.nil_append, hlj]
    · exact t.link.nxt_lt hk hb
instance : TStN Try.prog 98 [(0, 256), (256, 1), (257, 1), (258, 1), (259, 1)] (List.replicate 260 (Value.int .i32 0)) := ⟨⟨_, Try.underlying98, fun w => by kernel_rfl⟩, fun w => by kernel_rfl⟩
theorem fill_node (v : Value) (hv : v.cells = #[v]) (zs : List Value) (hz : zs.length = 260) : Instr.fill (([(0, 256), (256, 1), (257, 1), (258, 1), (259, 1)] : List (Nat × Nat)).toArray[·]?) zs.toArray [(3, v)] = some (zs.set 258 v).toArray := by
  unfold Instr.fill
  simp [hv, hz, Instr.fill]
def OutB (r : Option (List Nod)) (v : Value) (H' : List HP) : Prop :=
  match r with
  | none => v = .tuple #[.pointer none, .int .i64 2] ∧ H' = []
  | some N => ∃ b A c, v = .tuple #[.pointer (some ⟨b, 0, none⟩), .int .i64 0] ∧ H' = [bx b 61 [.slice A N.length c], orow 98 A c N]
section
variable {md : Md} {P : Program} {n : Nat} {Q : HQ} {f : Fr} {w0 : World} {H R : List HP} {ops : Array Oper} {rest : List Oper} {d : Nat} {ty : TypeId} {pos : String} {aft : Array Edge} {x y : Operand}
theorem ixk {t e : TypeId} {sz by_ k : Nat} {A : Option Addr} {m cp : Nat} {K : IntKind} [TSl P t e sz by_] (hx : ev n f x = .slice A m cp) (hy : ev n f y = .int K (k : Nat)) (hA : A = some (adr A)) (h1 : k < m)
    (kk : SH (nx md) P n ops Q rest (upd f d (.pointer (some ((adr A).add (k * sz))))) w0 H) : SH md P n ops Q (⟨some d, .indexAddr t x y, ty, pos, aft, none⟩ :: rest) f w0 H :=
  ixq hx hy hA (by omega) (by omega) (by rw [Int.toNat_natCast]; exact kk)
end
set_option maxHeartbeats 4000000 in
set_option maxRecDepth 100000 in
theorem build37_spec (A0 : Option Addr) (c0 : Nat) (ws : List (List UInt8)) (w : World) (hl : ws.length ≤ 1000000) (hsz : ∀ s ∈ ws, s.length ≤ 1000000) (hr : Rd w A0 ws) :
    Ret Try.prog 23 [.slice A0 ws.length c0].toArray w (RP w (OutB (buildM (ws.map n8)))) := by
  unfold buildM
  rw [List.length_map]
  by_cases h100 : ws.length ≤ 100
  · rw [if_pos h100]
    obtain ⟨Z, hZ⟩ : ∃ Z, trieM (ws.map n8) [nod0 0] 0 = Z := ⟨_, rfl⟩
    rw [hZ]
    refine enterH Try.func23 rfl rfl Try.ntmps23 rfl (Wd.refl _) ?_
    (repeat' (first | (show VH _ _ _ _ _ _ _; first | refine v_seq ?_ | refine r_seq ?_ | refine v_skip ?_ | refine v_cond_f rfl tbL ?_) | (show SH _ _ _ _ _ (_ :: _) _ _ _; first | (show SH _ _ _ _ _ (⟨_, .move _, _, _, _, _⟩ :: _) _ _ _; refine mov evL ?_) | (show SH _ _ _ _ _ (⟨_, .assign _, _, _, _, _⟩ :: _) _ _ _; refine asg evL ?_) | (show SH _ _ _ _ _ (⟨_, .binOp .gtr _ _ _ _, _, _, _, _⟩ :: _) _ _ _; refine gtrF rfl rfl omD ?_) | refine slen rfl ?_) | refine s_nil ?_ | refine kh_normal ?_))
    refine mkzA (α := Nod) (z := .agg (List.replicate 260 (Value.int .i32 0)).toArray) (by kernel_rfl) rfl rfl rfl rfl (by show (List.replicate 260 (Value.int .i32 0)).toArray.toList = nodE (nod0 0); rw [nodE_zero]) (by omega) (by omega) (by omega) (by omega) (fun bm => ?_)
    (repeat' (first | (show VH _ _ _ _ _ _ _; first | refine v_seq ?_ | refine r_seq ?_ | refine v_block ?_) | (show SH _ _ _ _ _ (_ :: _) _ _ _; first | (show SH _ _ _ _ _ (⟨_, .move _, _, _, _, _⟩ :: _) _ _ _; refine mov evL ?_) | (show SH _ _ _ _ _ (⟨_, .assign _, _, _, _, _⟩ :: _) _ _ _; refine asg evL ?_) | refine slen rfl ?_ | refine bld rfl rfl ?_ | (show SH _ _ _ _ _ (⟨_, .box _ _, _, _, _, _⟩ :: _) _ _ _; refine bxx rfl evL rfl (fun b => ?_))) | refine s_nil ?_ | refine kh_normal ?_))
    have h1L : (List.replicate (Int.toNat 1) (Flat.dflt : Nod)) = [nod0 0] := rfl
    rw [h1L]
    clear h1L
    refine v_norm [(0,_),(4,_),(16,_),(17,_),(18,_)] heL (fun g => ?_)
    refine v_loop [(2,3),(5,7),(9,9),(18,119)] (fun y : Nat × (Option Addr × Nat) × List Nod => [(18, .int .i64 y.1)]) (fun y => [bx b 61 [.slice y.2.1.1 y.2.2.length y.2.1.2], orow 98 y.2.1.1 y.2.1.2 y.2.2]) (fun y => y.1 ≤ ws.length ∧ (∃ P V, Trie y.2.2 P V ∧ V.length = y.1) ∧ trieM ((ws.map n8).drop y.1) y.2.2 y.1 = Z ∧ y.2.2.length ≤ 1 + 20 * y.1) (fun y => ws.length - y.1) (0, (some ⟨bm, 0, none⟩, 1), [nod0 0]) hsL enL ⟨Nat.zero_le _, ⟨_, _, Trie.zero, rfl⟩, hZ, Nat.le_refl 1⟩ ?_
    rintro ⟨i, ⟨A, c⟩, N⟩ g ⟨hi, ⟨P, V, hT, hV⟩, hZi, hNl⟩
    simp only [sets]
    simp only at hi hT hV hZi hNl
    by_cases hil : i < ws.length
    · have hd : (ws.map n8).drop i = n8 (ws.getD i []) :: (ws.map n8).drop (i + 1) := by
        have hli : i < (ws.map n8).length := by rw [List.length_map]; exact hil
        rw [List.drop_eq_getElem_cons hli, List.getElem_map, getD_at [] hil]
      have hss : (ws.getD i []).length ≤ 1000000 := hsz _ (getD_mem (α := List UInt8) hil)
      rw [hd] at hZi
      clear hd
      obtain ⟨s, hs⟩ : ∃ s, ws.getD i (Flat.dflt : List UInt8) = s := ⟨_, rfl⟩
      have hs' : ws.getD i [] = s := hs
      rw [hs'] at hZi hss
      clear hs' hZ
      have hok := okW_eq s
      (repeat' ((fail_if_success (show VH _ _ (.seq (.region 7 _ _) _) _ _ _ _)); first | (show VH _ _ _ _ _ _ _; first | refine v_seq ?_ | refine r_seq ?_ | refine v_block ?_ | refine v_skip ?_ | refine v_cond_t rfl tbL ?_) | (show SH _ _ _ _ _ (_ :: _) _ _ _; first | (show SH _ _ _ _ _ (⟨_, .move _, _, _, _, _⟩ :: _) _ _ _; refine mov evL ?_) | (show SH _ _ _ _ _ (⟨_, .assign _, _, _, _, _⟩ :: _) _ _ _; refine asg evL ?_) | (show SH _ _ _ _ _ (⟨_, .binOp .lss _ _ _ _, _, _, _, _⟩ :: _) _ _ _; refine lssT rfl rfl omD ?_) | (show SH _ _ _ _ _ (⟨_, .load _ _, _, _, _, _⟩ :: _) _ _ _; refine lr1 rfl (fun _ _ => rdS) (by rfl) omL (by rfl) ?_) | (show SH _ _ _ _ _ (⟨_, .indexAddr _ _ _, _, _, _, _⟩ :: _) _ _ _; refine ix rfl rfl (by with_reducible rfl) (fun _ _ => rdS) (by rfl) omL omL ?_)) | refine s_nil ?_ | refine kh_normal ?_))
      rw [hs]
      clear hs
      by_cases h1 : s.length < 1
      · rw [decide_eq_false (show ¬ 1 ≤ s.length by omega), Bool.false_and, Bool.false_and] at hok
        rw [trieM, hok, if_neg (by simp)] at hZi
        rw [← hZi]
        (repeat' (first | (show VH _ _ _ _ _ _ _; first | refine v_seq ?_ | refine r_seq ?_ | refine v_ret ?_ | refine v_cond_t rfl tbL ?_) | (show SH _ _ _ _ _ (_ :: _) _ _ _; first | (show SH _ _ _ _ _ (⟨_, _, _, _, _, some _⟩ :: _) _ _ _; (refine gif rfl rfl ?_; refine giFT tbL ?_)) | (show SH _ _ _ _ _ (⟨_, .move _, _, _, _, _⟩ :: _) _ _ _; refine mov evL ?_) | (show SH _ _ _ _ _ (⟨_, .assign _, _, _, _, _⟩ :: _) _ _ _; refine asg evL ?_) | (show SH _ _ _ _ _ (⟨_, .binOp .lss _ _ _ _, _, _, _, _⟩ :: _) _ _ _; refine lssT rfl rfl omD ?_) | refine sln rfl ?_ | (show SH _ _ _ _ _ (⟨_, .pick _ _ _, _, _, _, _⟩ :: _) _ _ _; refine pkt rfl tbL evL ?_)) | refine s_nil ?_ | refine kh_normal ?_ | refine kh_ret ?_ | refine bh_ret ?_))
        exact rh2 rfl rfl rfl ⟨rfl, rfl⟩ (ent_nil _)
      · by_cases h2 : 20 < s.length
        · rw [decide_eq_false (show ¬ s.length ≤ 20 by omega), Bool.and_false, Bool.false_and] at hok
          rw [trieM, hok, if_neg (by simp)] at hZi
          rw [← hZi]
          (repeat' (first | (show VH _ _ _ _ _ _ _; first | refine v_seq ?_ | refine r_seq ?_ | refine v_ret ?_ | refine v_cond_t rfl tbL ?_) | (show SH _ _ _ _ _ (_ :: _) _ _ _; first | (show SH _ _ _ _ _ (⟨_, _, _, _, _, some _⟩ :: _) _ _ _; (refine gif rfl rfl ?_; first | refine giFF tbL ?_ | refine giFT tbL ?_)) | (show SH _ _ _ _ _ (⟨_, .move _, _, _, _, _⟩ :: _) _ _ _; refine mov evL ?_) | (show SH _ _ _ _ _ (⟨_, .assign _, _, _, _, _⟩ :: _) _ _ _; refine asg evL ?_) | (show SH _ _ _ _ _ (⟨_, .binOp .lss _ _ _ _, _, _, _, _⟩ :: _) _ _ _; refine lssF rfl rfl omD ?_) | (show SH _ _ _ _ _ (⟨_, .binOp .gtr _ _ _ _, _, _, _, _⟩ :: _) _ _ _; refine gtrT rfl rfl omD ?_) | refine sln rfl ?_ | (show SH _ _ _ _ _ (⟨_, .pick _ _ _, _, _, _, _⟩ :: _) _ _ _; first | refine pkt rfl tbL evL ?_ | refine pkf rfl tbL evL ?_)) | refine s_nil ?_ | refine kh_normal ?_ | refine kh_ret ?_ | refine bh_ret ?_))
          exact rh2 rfl rfl rfl ⟨rfl, rfl⟩ (ent_nil _)
        · have hca := fun w => containsAny_spec s w hss
          cases h3 : s.any isSp with
          | true =>
            rw [h3, Bool.not_true, Bool.and_false] at hok
            rw [h3] at hca
            rw [trieM, hok, if_neg (by simp)] at hZi
            rw [← hZi]
            clear h3
            (repeat' (first | (show VH _ _ _ _ _ _ _; first | refine v_seq ?_ | refine r_seq ?_ | refine v_ret ?_ | refine v_cond_t rfl tbL ?_) | (show SH _ _ _ _ _ (_ :: _) _ _ _; first | (show SH _ _ _ _ _ (⟨_, _, _, _, _, some _⟩ :: _) _ _ _; (refine gif rfl rfl ?_; refine giFF tbL ?_)) | (show SH _ _ _ _ _ (⟨_, .move _, _, _, _, _⟩ :: _) _ _ _; refine mov evL ?_) | (show SH _ _ _ _ _ (⟨_, .assign _, _, _, _, _⟩ :: _) _ _ _; refine asg evL ?_) | (show SH _ _ _ _ _ (⟨_, .binOp .lss _ _ _ _, _, _, _, _⟩ :: _) _ _ _; refine lssF rfl rfl omD ?_) | (show SH _ _ _ _ _ (⟨_, .binOp .gtr _ _ _ _, _, _, _, _⟩ :: _) _ _ _; refine gtrF rfl rfl omD ?_) | refine sln rfl ?_ | (show SH _ _ _ _ _ (⟨_, .call ⟨.value (.func 56), _, _⟩, _, _, _, _⟩ :: _) _ _ _; refine cl (callee := .func 56) rfl (fun w hw => hca w) rfl rfl ?_) | (show SH _ _ _ _ _ (⟨_, .pick _ _ _, _, _, _, _⟩ :: _) _ _ _; refine pkf rfl tbL evL ?_)) | refine s_nil ?_ | refine kh_normal ?_ | refine kh_ret ?_ | refine bh_ret ?_))
            exact rh2 rfl rfl rfl ⟨rfl, rfl⟩ (ent_nil _)
          | false =>
            rw [h3, decide_eq_true (show 1 ≤ s.length by omega), decide_eq_true (show s.length ≤ 20 by omega)] at hok
            have hok : okW (n8 s) = true := hok
            rw [h3] at hca
            rw [trieM, hok, if_pos rfl] at hZi
            obtain ⟨S, hS0, hSs, hSh, hSe⟩ := ins_steps hT (foldW_lt (n8_lt s))
            have hfl : (foldW (n8 s)).length = s.length := by rw [foldW_len, n8_len]
            have htw := trie_word hT (n8_lt s) hok
            have hfo := fun w => folded_spec s w hss
            have hat : ∀ j, j < s.length → (foldW (n8 s)).getD j 0 = ((s.map foldU).getD j 0).toNat := fun j hj => by
              rw [← n8_fold, n8_at _ (by rw [List.length_map]; exact hj)]
            have hml : (s.map foldU).length = s.length := List.length_map ..
            rw [hfl] at hSs hSh hSe
            clear h3 hok hT
            generalize insW N (foldW (n8 s)) = sE at hZi htw hSe
            generalize foldW (n8 s) = fw at hat hSs hfl
            generalize hfw : s.map foldU = f8 at hat hml hfo
            clear hfw
            (repeat' (first | (show VH _ _ _ _ _ _ _; first | refine v_seq ?_ | refine r_seq ?_ | refine v_block ?_ | refine v_skip ?_ | refine v_cond_f rfl tbL ?_) | (show SH _ _ _ _ _ (_ :: _) _ _ _; first | (show SH _ _ _ _ _ (⟨_, _, _, _, _, some _⟩ :: _) _ _ _; (refine gif rfl rfl ?_; refine giFF tbL ?_)) | (show SH _ _ _ _ _ (⟨_, .move _, _, _, _, _⟩ :: _) _ _ _; refine mov evL ?_) | (show SH _ _ _ _ _ (⟨_, .assign _, _, _, _, _⟩ :: _) _ _ _; refine asg evL ?_) | (show SH _ _ _ _ _ (⟨_, .binOp .lss _ _ _ _, _, _, _, _⟩ :: _) _ _ _; refine lssF rfl rfl omD ?_) | (show SH _ _ _ _ _ (⟨_, .binOp .gtr _ _ _ _, _, _, _, _⟩ :: _) _ _ _; refine gtrF rfl rfl omD ?_) | (show SH _ _ _ _ _ (⟨_, .call ⟨.builtin _, _, _⟩, _, _, _, _⟩ :: _) _ _ _; first | refine slen rfl ?_ | refine sln rfl ?_) | (show SH _ _ _ _ _ (⟨_, .call ⟨.value (.func 56), _, _⟩, _, _, _, _⟩ :: _) _ _ _; refine cl (callee := .func 56) rfl (fun w hw => hca w) rfl rfl ?_) | (show SH _ _ _ _ _ (⟨_, .call ⟨.value (.func 57), _, _⟩, _, _, _, _⟩ :: _) _ _ _; refine cl (callee := .func 57) rfl (fun w hw => hfo w) rfl rfl ?_) | (show SH _ _ _ _ _ (⟨_, .pick _ _ _, _, _, _, _⟩ :: _) _ _ _; refine pkf rfl tbL evL ?_) | refine s2b rfl rfl (fun b cp => ?_)) | refine s_nil ?_ | refine kh_normal ?_))
            revert b cp
            intro b7 cq
            rw [hml]
            refine v_normS [(2,3),(5,7),(9,9),(18,119)] _ agL [(5,_),(7,_),(18,_),(37,_),(38,_),(39,_)] heL (fun g => ?_)
            refine v_loop [(7,7),(9,9),(39,99)] (fun y : Nat × Option Addr × Nat => [(39, .int .i64 y.1), (7, .int .i32 ((S y.1).2 : Nat))]) (fun y => [brow 5 b7 cq f8, bx b 61 [.slice y.2.1 (S y.1).1.length y.2.2], orow 98 y.2.1 y.2.2 (S y.1).1]) (fun y => y.1 ≤ s.length) (fun y => s.length - y.1) (0, A, c) (by simp only [hS0]; (repeat (first | exact trivial | refine And.intro rfl ?_))) (by simp only [hS0]; exact enL) (Nat.zero_le _) ?_
            rintro ⟨j, A1, c1⟩ g2 hj
            simp only [sets]
            simp only at hj
            by_cases hj2 : j < s.length
            · obtain ⟨hk, hl1, hsz1, hwd, hnl⟩ := hSh j hj
              have hnx := hSs j hj2
              rw [hat j hj2] at hnx
              clear hSh hSs hS0 hSe hat htw hZi hca hfo hsz hr
              generalize S j = s1 at hk hl1 hsz1 hwd hnl hnx ⊢
              obtain ⟨N1, k⟩ := s1
              simp only at hk hl1 hsz1 hwd hnl ⊢
              unfold insB at hnx
              simp only at hnx
              have hu8 := (f8.getD j 0).toNat_lt
              have hnk := hnl k (f8.getD j 0).toNat hk (by omega)
              by_cases hz : nxt N1 k (f8.getD j 0).toNat = 0
              · have hn0 : nod0 ((nodA N1 k).size + 1) = nod0 (j + 1) := by rw [hsz1]
                rw [if_pos hz, hn0] at hnx
                clear hn0
                refine v_some (l := N1) spL (by omega) (fun hA1 => ?_)
                (repeat' (first | (show VH _ _ _ _ _ _ _; first | refine v_seq ?_ | refine r_seq ?_ | refine v_block ?_ | refine v_skip ?_ | refine v_cond_t rfl tbL ?_) | (show SH _ _ _ _ _ (_ :: _) _ _ _; first | (show SH _ _ _ _ _ (⟨_, .move _, _, _, _, _⟩ :: _) _ _ _; refine mov evL ?_) | (show SH _ _ _ _ _ (⟨_, .assign _, _, _, _, _⟩ :: _) _ _ _; refine asg evL ?_) | (show SH _ _ _ _ _ (⟨_, .binOp .lss _ _ _ _, _, _, _, _⟩ :: _) _ _ _; refine lssT rfl rfl omD ?_) | (show SH _ _ _ _ _ (⟨_, .load _ _, _, _, _, _⟩ :: _) _ _ _; first | refine lbx rfl spL (by rfl) ?_ | refine lr1 rfl (fun _ _ => rdS) (by rfl) omL (by rfl) ?_) | (show SH _ _ _ _ _ (⟨_, .indexAddr _ _ _, _, _, _, _⟩ :: _) _ _ _; first | refine ix rfl rfl (by with_reducible rfl) (fun _ _ => rdS) (by rfl) omL omL ?_ | refine ixA _ rfl rfl rfl omL ?_) | refine nlc rfl ?_ | refine fad rfl ?_) | refine s_nil ?_ | refine kh_normal ?_))
                refine ldn (N := N1) (A := A1) (k := k) (b := (f8.getD j 0).toNat) rfl (fun w hw => hw.rd spL) hk (by omega) ?_
                rw [hz]
                have hsz2 : (N1.getD k Flat.dflt).size = j := hsz1
                have hvE : (Value.agg ((List.replicate 260 (Value.int .i32 0)).set 258 (.int .i32 (((N1.getD k Flat.dflt).size : Nat) + 1 : Int))).toArray).cells.toList = Flat.enc (nod0 (j + 1)) := by
                  rw [hsz2]
                  show _ = nodE (nod0 (j + 1))
                  rw [nodE_new]; rfl
                (repeat' (first | (show VH _ _ _ _ _ _ _; first | refine v_seq ?_ | refine v_cond_t rfl tbL ?_) | (show SH _ _ _ _ _ (_ :: _) _ _ _; (show SH _ _ _ _ _ (⟨_, .binOp .eql _ _ _ _, _, _, _, _⟩ :: _) _ _ _; refine eqlT rfl rfl omD ?_)) | refine s_nil ?_ | refine kh_normal ?_))
                refine v_cut [(54, 72)] (fun _ : Option Addr × Nat => []) (fun y => [brow 5 b7 cq f8, bx b 61 [.slice y.1 (N1 ++ [nod0 (j + 1)]).length y.2], orow 98 y.1 y.2 (N1 ++ [nod0 (j + 1)])]) (fun _ => True) ?_ ?_ ent_vh
                · refine r_heldT [] (tr [(0, true), (1, true), (2, true), (3, true), (5, true), (6, true), (7, true), (9, true)] (.fork 4 (tr [(8, false), (10, false), (11, false), (12, false), (13, false), (14, false), (15, false), (16, false), (17, false), (18, false), (19, false)] .nil) 8 (tr [(10, true), (11, true)] (.fork 4 (tr [(12, false), (13, false), (14, false), (15, false), (16, false), (17, false), (18, false), (19, false)] .nil) 12 (tr [(13, true), (14, true)] (.fork 4 (tr [(15, false), (16, false), (17, false), (18, false), (19, false)] .nil) 15 (tr [(4, false), (16, false), (17, false), (18, false), (19, false)] .nil))))))) hmix (by kernel_rfl) (ent_nil _) ?_
                  (repeat' (first | (show SH _ _ _ _ _ (_ :: _) _ _ _; first | (show SH _ _ _ _ _ (⟨_, .move _, _, _, _, _⟩ :: _) _ _ _; refine mov evL ?_) | (show SH _ _ _ _ _ (⟨_, .binOp .add _ _ _ _, _, _, _, _⟩ :: _) _ _ _; refine adI rfl rfl omL ?_) | (show SH _ _ _ _ _ (⟨_, .load _ _, _, _, _, _⟩ :: _) _ _ _; first | refine lbx rfl spL (by rfl) ?_ | refine lrf rfl (fun _ _ => rdS) (by rfl) omL (by rfl) ?_ | refine lrf rfl (fun _ _ => rdS) (by rfl) (by simp only [List.length_cons, List.length_nil]; omega) (by rfl) ?_) | (show SH _ _ _ _ _ (⟨_, .indexAddr _ _ _, _, _, _, _⟩ :: _) _ _ _; first | refine ix rfl rfl (by with_reducible rfl) (fun _ _ => rdS) (by rfl) omL omL ?_ | refine ixq rfl rfl (by assumption) omL omL ?_) | refine nlc rfl ?_ | refine fad rfl ?_) | refine s_fork ?_ ?_))
                  all_goals repeat' first
                    | refine s_fork ?_ ?_
                    | (rw [show ((k : Int)).toNat = k from Int.toNat_natCast k]; (repeat' ((show SH _ _ _ _ _ (_ :: _) _ _ _; (show SH _ _ _ _ _ (⟨_, .binOp .add _ _ _ _, _, _, _, _⟩ :: _) _ _ _; refine adI rfl rfl omL ?_)))))
                    | (refine ixk rfl rfl hA1 hk ?_; (repeat' (first | (show VH _ _ _ _ _ _ _; first | refine r_seq ?_ | refine v_skip ?_ | refine v_cond_f rfl tbL ?_) | (show SH _ _ _ _ _ (_ :: _) _ _ _; first | (show SH _ _ _ _ _ (⟨_, .move _, _, _, _, _⟩ :: _) _ _ _; refine mov evL ?_) | (show SH _ _ _ _ _ (⟨_, .binOp .eql _ _ _ _, _, _, _, _⟩ :: _) _ _ _; refine eqlF rfl rfl omD ?_) | (show SH _ _ _ _ _ (⟨_, .load _ _, _, _, _, _⟩ :: _) _ _ _; refine lbx rfl spL (by rfl) ?_) | (show SH _ _ _ _ _ (⟨_, .indexAddr _ _ _, _, _, _, _⟩ :: _) _ _ _; first | refine ix rfl rfl (by with_reducible rfl) (fun _ _ => rdS) (by rfl) omL omL ?_ | refine ixA _ rfl rfl rfl omL ?_) | refine nlc rfl ?_ | refine fad rfl ?_) | refine s_nil ?_ | refine kh_normal ?_)))
                    | (refine bldN (fill_node _ rfl _ (by rw [List.length_replicate])) ?_; (repeat' (first | (show SH _ _ _ _ _ (_ :: _) _ _ _; (show SH _ _ _ _ _ (⟨_, .load _ _, _, _, _, _⟩ :: _) _ _ _; refine lbx rfl spL (by rfl) ?_)) | refine s_fork ?_ ?_)))
                    | (refine bsl (l := [nod0 (j + 1)]) rfl rfl (Vals.cons hvE Vals.nil) rfl rfl (by show 1 * 260 ≤ 16777216; omega) (fun b9 => ?_); (repeat' ((show SH _ _ _ _ _ (_ :: _) _ _ _; (show SH _ _ _ _ _ (⟨_, .load _ _, _, _, _, _⟩ :: _) _ _ _; refine lbx rfl spL (by rfl) ?_)))))
                    | (refine app (l := N1) (l2 := [nod0 (j + 1)]) rfl rfl rfl spL (fun w hw => hw.rd spL) rfl rfl rfl (by simp only [List.length_singleton]; omega) (by simp only [List.length_singleton]; omega) (fun A4 c4 => ⟨enL, ?_⟩); (repeat' (first | (show SH _ _ _ _ _ (_ :: _) _ _ _; first | refine nlc rfl ?_ | refine fad rfl ?_ | (show SH _ _ _ _ _ (⟨_, .store _ _ _, _, _, _, _⟩ :: _) _ _ _; refine stb rfl rfl evL spL rfl rfl (by first | decide | exact Nat.zero_lt_succ _ | exact of_decide_eq_true rfl) kpL ?_)) | refine s_nil ?_ | refine kh_normal ?_)))
                  all_goals exact ⟨agL, (_, _), hsL, enL, trivial⟩
                rintro ⟨A2, c2⟩ g3 _ G rfl
                simp only [sets]
                have hMl : (N1 ++ [nod0 (j + 1)]).length = N1.length + 1 := by rw [List.length_append]; rfl
                have hMk : nodA (N1 ++ [nod0 (j + 1)]) k = nodA N1 k := by
                  unfold nodA
                  rw [List.getD_eq_getElem?_getD, List.getElem?_append_left hk, ← List.getD_eq_getElem?_getD]
                rw [← hMk] at hnx
                have hwk : (nodA (N1 ++ [nod0 (j + 1)]) k).next.length = 256 := by rw [hMk]; exact hwd k hk
                generalize N1 ++ [nod0 (j + 1)] = M at hnx hMl hwk ⊢
                clear hMk hsz2 hvE hwd hnl hnk hsz1 hA1
                refine v_some (l := M) spL (by omega) (fun hA2 => ?_)
                have hwr : IntKind.i32.wrap ((M.length : Int) - 1) = (N1.length : Int) := by rw [IntKind.wrap_i32]; omega
                (repeat' (first | (show VH _ _ _ _ _ _ _; first | refine v_seq ?_ | refine r_seq ?_ | refine v_block ?_ | refine v_ret ?_ | refine v_skip ?_ | refine v_exit ?_ | refine v_label ?_ | refine v_cond_t rfl tbL ?_ | refine v_cond_f rfl tbL ?_ | refine v_cond_dec rfl (fun h => ?_) (fun h => ?_) | refine v_cond_ndec rfl (fun h => ?_) (fun h => ?_) | refine v_cond rfl (fun h => ?_) (fun h => ?_)) | (show SH _ _ _ _ _ (_ :: _) _ _ _; first | (show SH _ _ _ _ _ (⟨_, _, _, _, _, some _⟩ :: _) _ _ _; first | (refine gif rfl rfl ?_; first | refine giTT tbL ?_ | refine giTF tbL ?_ | refine giFF tbL ?_ | refine giFT tbL ?_ | refine giTd (fun h => ?_) (fun h => ?_) | refine giFd (fun h => ?_) (fun h => ?_) | refine giT (fun h => ?_) (fun h => ?_) | refine giF (fun h => ?_) (fun h => ?_)) | refine gu rfl rfl ?_ | refine grT rfl rfl tbL ?_ | refine grF rfl rfl tbL ?_) | (show SH _ _ _ _ _ (⟨_, .move _, _, _, _, _⟩ :: _) _ _ _; refine mov evL ?_) | (show SH _ _ _ _ _ (⟨_, .assign _, _, _, _, _⟩ :: _) _ _ _; refine asg evL ?_) | (show SH _ _ _ _ _ (⟨_, .binOp .lss _ _ _ _, _, _, _, _⟩ :: _) _ _ _; first | refine lssT rfl rfl omD ?_ | refine lssF rfl rfl omD ?_ | refine lss rfl rfl ?_) | (show SH _ _ _ _ _ (⟨_, .binOp .gtr _ _ _ _, _, _, _, _⟩ :: _) _ _ _; first | refine gtrT rfl rfl omD ?_ | refine gtrF rfl rfl omD ?_ | refine gtr rfl rfl ?_) | (show SH _ _ _ _ _ (⟨_, .binOp .eql _ _ _ _, _, _, _, _⟩ :: _) _ _ _; first | refine eqlT rfl rfl omD ?_ | refine eqlF rfl rfl omD ?_ | refine eql rfl rfl ?_ | refine eqn rfl rfl ?_ | refine eqb rfl rfl ?_ | refine seqT rfl rfl (by assumption) ?_ | refine seqF rfl rfl (by assumption) ?_) | (show SH _ _ _ _ _ (⟨_, .binOp .add _ _ _ _, _, _, _, _⟩ :: _) _ _ _; first | refine add rfl rfl inL ?_ | refine sad rfl rfl omL ?_ | refine adU rfl rfl omL ?_ | refine adI rfl rfl omL ?_) | (show SH _ _ _ _ _ (⟨_, .binOp .sub _ _ _ _, _, _, _, _⟩ :: _) _ _ _; first | refine sub rfl rfl inL ?_ | refine sbU rfl rfl omL ?_ | refine sbI rfl rfl omL ?_) | (show SH _ _ _ _ _ (⟨_, .load _ _, _, _, _, _⟩ :: _) _ _ _; first | refine lbx rfl spL (by rfl) ?_ | refine lba rfl spL (by rfl) ?_ | refine lbs rfl spL (by rfl) (by rfl) ?_ | refine lgi rfl (fun _ _ => rdS) omL (by assumption) ?_ | refine lag rfl (fun _ _ => rdS) (by rfl) omL (by assumption) ?_ | refine lrg rfl (fun _ _ => rdS) (by rfl) omL (by assumption) (by rfl) ?_ | refine lin rfl (fun _ _ => rdS) omL ?_ | refine lbi rfl spL omL ?_ | refine lr1 rfl (fun _ _ => rdS) (by rfl) omL (by rfl) ?_ | refine lra rfl (fun _ _ => rdS) (by rfl) omL ?_ | refine lrf rfl (fun _ _ => rdS) (by rfl) omL (by rfl) ?_ | refine lcell rfl (fun w hw => hw.ext.cell (by assumption)) ?_ | refine lrs rfl (fun _ _ => rdS) (by rfl) omL (by rfl) (by rfl) ?_ | refine lca rfl (fun _ _ => rdS) (by rfl) ?_ | refine lcs rfl (fun _ _ => rdS) (by rfl) ?_ | refine lcf rfl (fun _ _ => rdS) (by rfl) ?_ | refine lrf rfl (fun _ _ => rdS) (by rfl) (by simp only [List.length_cons, List.length_nil]; omega) (by rfl) ?_ | refine lra rfl (fun _ _ => rdS) (by rfl) (by simp only [List.length_cons, List.length_nil]; omega) ?_) | (show SH _ _ _ _ _ (⟨_, .indexAddr _ _ _, _, _, _, _⟩ :: _) _ _ _; first | refine ix rfl rfl (by with_reducible rfl) (fun _ _ => rdS) (by rfl) omL omL ?_ | refine ixi rfl rfl (fun _ _ => rdS) (by rfl) omL omL omL ?_ | refine ixb rfl rfl omL ?_ | refine ixq rfl rfl (by assumption) omL omL ?_ | refine ixA _ rfl rfl rfl omL ?_ | refine ixi rfl rfl (fun _ _ => rdS) (by rfl) omL (by first | omega | (simp only [List.length_cons, List.length_nil]; omega)) (by simp only [List.length_cons, List.length_nil]; omega) ?_) | (show SH _ _ _ _ _ (⟨_, .call ⟨.builtin _, _, _⟩, _, _, _, _⟩ :: _) _ _ _; first | refine slen rfl ?_ | refine sln rfl ?_) | (show SH _ _ _ _ _ (⟨_, .pick _ _ _, _, _, _, _⟩ :: _) _ _ _; first | refine pkt rfl tbL evL ?_ | refine pkf rfl tbL evL ?_) | refine nlc rfl ?_ | refine fad rfl ?_ | (show SH _ _ _ _ _ (⟨_, .convert _ _ _, _, _, _, _⟩ :: _) _ _ _; first | refine c64 rfl inL ?_ | refine cu64 rfl omL omL ?_ | refine cnv rfl ?_ | refine s2b rfl rfl (fun b cp => ?_) | refine b2s rfl (fun _ _ => rdS) (by first | rfl | omega | simp) ?_) | (show SH _ _ _ _ _ (⟨_, .build _ _, _, _, _, _⟩ :: _) _ _ _; first | refine bld rfl rfl ?_ | refine bldZ ?_ | refine bldZN ?_) | (show SH _ _ _ _ _ (⟨_, .box _ _, _, _, _, _⟩ :: _) _ _ _; refine bxx rfl evL rfl (fun b => ?_)) | (show SH _ _ _ _ _ (⟨_, .store _ _ _, _, _, _, _⟩ :: _) _ _ _; first | refine stb rfl rfl evL spL rfl rfl (by first | decide | exact Nat.zero_lt_succ _ | exact of_decide_eq_true rfl) kpL ?_ | refine sta rfl rfl rfl spL (by rfl) (by rfl) (by rfl) kpL ?_ | refine sti rfl rfl rfl spL omL kpL ?_ | refine sbi rfl rfl rfl spL omL kpL ?_ | refine sbs rfl rfl evL spL (by rfl) (by rfl) (of_decide_eq_true rfl) kpL ?_) | (show SH _ _ _ _ _ (⟨_, .buildSlice _ _ _, _, _, _, _⟩ :: _) _ _ _; refine bsl (α := Int) rfl rfl (by repeat (first | exact Vals.nil | (apply Vals.cons; rfl))) rfl (by rfl) (by decide) (fun b => ?_))) | refine s_nil ?_ | refine s_fork ?_ ?_ | refine s_fork3 ?_ ?_ ?_ | refine s_fork4 ?_ ?_ ?_ ?_ | refine kh_normal ?_ | refine kh_ret ?_ | refine kh_exit ?_ | refine bh_normal ?_ | refine bh_ret ?_ | refine bh_exit ?_ | refine bh_exit_ne rfl ?_))
                refine v_cut [(73, 88)] (fun _ : Unit => []) (fun _ => [brow 5 b7 cq f8, bx b 61 [.slice A2 M.length c2], orow 98 A2 c2 (M.set k { nodA M k with next := (nodA M k).next.set (f8.getD j 0).toNat N1.length })]) (fun _ => True) ?_ ?_ ent_vh
                · refine r_heldT [bx b 61 [.slice A2 M.length c2]] (tr [(0, true), (1, true), (2, true), (3, true), (4, true), (5, true), (6, true), (7, true), (8, true), (9, true), (10, true), (11, true), (12, true), (13, false), (14, false), (15, false), (16, false)] .nil) hmix (by kernel_rfl) enL ?_
                  (repeat' ((show SH _ _ _ _ _ (_ :: _) _ _ _; first | (show SH _ _ _ _ _ (⟨_, .move _, _, _, _, _⟩ :: _) _ _ _; refine mov evL ?_) | (show SH _ _ _ _ _ (⟨_, .binOp .sub _ _ _ _, _, _, _, _⟩ :: _) _ _ _; refine sub rfl rfl inL ?_) | (show SH _ _ _ _ _ (⟨_, .load _ _, _, _, _, _⟩ :: _) _ _ _; refine lbx rfl spL (by rfl) ?_) | (show SH _ _ _ _ _ (⟨_, .indexAddr _ _ _, _, _, _, _⟩ :: _) _ _ _; first | refine ix rfl rfl (by with_reducible rfl) (fun _ _ => rdS) (by rfl) omL omL ?_ | refine ixA _ rfl rfl rfl omL ?_) | refine slen rfl ?_ | refine nlc rfl ?_ | refine fad rfl ?_ | refine cnv rfl ?_)))
                  refine stn (N := M) (k := k) (b := (f8.getD j 0).toNat) (u := N1.length) rfl rfl (by show Value.int .i32 (IntKind.i32.wrap _) = _; rw [hwr]) spL (by omega) (by omega) hwk enL ?_
                  (repeat' (first | refine s_nil ?_ | refine kh_normal ?_))
                  exact ⟨agL, (), hsL, enL, trivial⟩
                rintro _ g4 _ G rfl
                simp only [sets]
                have hkM : k < M.length := by omega
                have hset := nodA_set (x := { nodA M k with next := (nodA M k).next.set (f8.getD j 0).toNat N1.length }) hkM
                have hnx2 : nxt (M.set k { nodA M k with next := (nodA M k).next.set (f8.getD j 0).toNat N1.length }) k (f8.getD j 0).toNat = N1.length := by
                  unfold nxt
                  rw [hset, List.getD_eq_getElem?_getD, List.getElem?_set_self (by rw [hwk]; omega)]; rfl
                have hl2 : (M.set k { nodA M k with next := (nodA M k).next.set (f8.getD j 0).toNat N1.length }).length = M.length := List.length_set
                clear hset hwk hwr
                generalize M.set k { nodA M k with next := (nodA M k).next.set (f8.getD j 0).toNat N1.length } = M2 at hnx hnx2 hl2 ⊢
                rw [← hl2]
                (repeat' (first | refine r_seq ?_ | (show SH _ _ _ _ _ (_ :: _) _ _ _; first | (show SH _ _ _ _ _ (⟨_, .move _, _, _, _, _⟩ :: _) _ _ _; refine mov evL ?_) | (show SH _ _ _ _ _ (⟨_, .load _ _, _, _, _, _⟩ :: _) _ _ _; refine lbx rfl spL (by rfl) ?_) | (show SH _ _ _ _ _ (⟨_, .indexAddr _ _ _, _, _, _, _⟩ :: _) _ _ _; first | refine ix rfl rfl (by with_reducible rfl) (fun _ _ => rdS) (by rfl) omL omL ?_ | refine ixA _ rfl rfl rfl omL ?_) | refine nlc rfl ?_ | refine fad rfl ?_)))
                refine ldn (N := M2) (A := A2) (k := k) (b := (f8.getD j 0).toNat) rfl (fun w hw => hw.rd spL) (by omega) (by omega) ?_
                rw [hnx2]
                (repeat' (first | refine r_seq ?_ | (show SH _ _ _ _ _ (_ :: _) _ _ _; first | (show SH _ _ _ _ _ (⟨_, .move _, _, _, _, _⟩ :: _) _ _ _; refine mov evL ?_) | (show SH _ _ _ _ _ (⟨_, .assign _, _, _, _, _⟩ :: _) _ _ _; refine asg evL ?_) | (show SH _ _ _ _ _ (⟨_, .binOp .add _ _ _ _, _, _, _, _⟩ :: _) _ _ _; refine add rfl rfl inL ?_)) | refine s_nil ?_ | refine kh_normal ?_ | refine bh_normal ?_))
                exact ⟨agL, (j + 1, A2, c2), by simp only [hnx]; (repeat (first | exact trivial | refine And.intro rfl ?_)), by simp only [hnx]; exact enL, hj2, by show s.length - (j + 1) < s.length - j; omega⟩
              · rw [if_neg hz] at hnx
                have hz' : ¬ ((nxt N1 k (f8.getD j 0).toNat : Nat) : Int) = 0 := by omega
                (repeat' (first | (show VH _ _ _ _ _ _ _; first | refine v_seq ?_ | refine r_seq ?_ | refine v_block ?_ | refine v_skip ?_ | refine v_cond_t rfl tbL ?_) | (show SH _ _ _ _ _ (_ :: _) _ _ _; first | (show SH _ _ _ _ _ (⟨_, .move _, _, _, _, _⟩ :: _) _ _ _; refine mov evL ?_) | (show SH _ _ _ _ _ (⟨_, .assign _, _, _, _, _⟩ :: _) _ _ _; refine asg evL ?_) | (show SH _ _ _ _ _ (⟨_, .binOp .lss _ _ _ _, _, _, _, _⟩ :: _) _ _ _; refine lssT rfl rfl omD ?_) | (show SH _ _ _ _ _ (⟨_, .load _ _, _, _, _, _⟩ :: _) _ _ _; first | refine lbx rfl spL (by rfl) ?_ | refine lr1 rfl (fun _ _ => rdS) (by rfl) omL (by rfl) ?_) | (show SH _ _ _ _ _ (⟨_, .indexAddr _ _ _, _, _, _, _⟩ :: _) _ _ _; first | refine ix rfl rfl (by with_reducible rfl) (fun _ _ => rdS) (by rfl) omL omL ?_ | refine ixA _ rfl rfl rfl omL ?_) | refine nlc rfl ?_ | refine fad rfl ?_) | refine s_nil ?_ | refine kh_normal ?_))
                refine ldn (N := N1) (A := A1) (k := k) (b := (f8.getD j 0).toNat) rfl (fun w hw => hw.rd spL) hk (by omega) ?_
                (repeat' (first | (show VH _ _ _ _ _ _ _; first | refine r_seq ?_ | refine v_skip ?_ | refine v_cond_f rfl tbL ?_) | (show SH _ _ _ _ _ (_ :: _) _ _ _; first | (show SH _ _ _ _ _ (⟨_, .move _, _, _, _, _⟩ :: _) _ _ _; refine mov evL ?_) | (show SH _ _ _ _ _ (⟨_, .binOp .eql _ _ _ _, _, _, _, _⟩ :: _) _ _ _; refine eqlF rfl rfl omD ?_) | (show SH _ _ _ _ _ (⟨_, .load _ _, _, _, _, _⟩ :: _) _ _ _; refine lbx rfl spL (by rfl) ?_) | (show SH _ _ _ _ _ (⟨_, .indexAddr _ _ _, _, _, _, _⟩ :: _) _ _ _; first | refine ix rfl rfl (by with_reducible rfl) (fun _ _ => rdS) (by rfl) omL omL ?_ | refine ixA _ rfl rfl rfl omL ?_) | refine nlc rfl ?_ | refine fad rfl ?_) | refine s_nil ?_ | refine kh_normal ?_))
                refine ldn (N := N1) (A := A1) (k := k) (b := (f8.getD j 0).toNat) rfl (fun w hw => hw.rd spL) hk (by omega) ?_
                (repeat' (first | refine r_seq ?_ | (show SH _ _ _ _ _ (_ :: _) _ _ _; first | (show SH _ _ _ _ _ (⟨_, .move _, _, _, _, _⟩ :: _) _ _ _; refine mov evL ?_) | (show SH _ _ _ _ _ (⟨_, .assign _, _, _, _, _⟩ :: _) _ _ _; refine asg evL ?_) | (show SH _ _ _ _ _ (⟨_, .binOp .add _ _ _ _, _, _, _, _⟩ :: _) _ _ _; refine add rfl rfl inL ?_)) | refine s_nil ?_ | refine kh_normal ?_ | refine bh_normal ?_))
                exact ⟨agL, (j + 1, A1, c1), by simp only [hnx]; (repeat (first | exact trivial | refine And.intro rfl ?_)), by simp only [hnx]; exact enL, hj2, by show s.length - (j + 1) < s.length - j; omega⟩
            · obtain rfl : j = s.length := by omega
              rw [hSe]
              have hhk := (hSh s.length (Nat.le_refl _)).1
              have hhl := (hSh s.length (Nat.le_refl _)).2.1
              have hhw := (hSh s.length (Nat.le_refl _)).2.2.2.1
              rw [hSe] at hhk hhl hhw
              clear hSh hSs hS0 hSe hat hca hfo
              obtain ⟨N1, k⟩ := sE
              simp only at hhk hhl hhw hZi htw ⊢
              by_cases hw0 : (nodA N1 k).word = 0
              · rw [if_pos hw0] at hZi
                obtain ⟨P2, V2, hT2, hV2⟩ := htw hw0
                rw [hV] at hT2 hV2
                have hw1 : ¬ (0 : Int) < (((N1.getD k Flat.dflt).word : Nat) : Int) := by show ¬ (0 : Int) < (((nodA N1 k).word : Nat) : Int); omega
                have hwr : IntKind.i32.wrap ((i : Int) + 1) = ((i + 1 : Nat) : Int) := by rw [IntKind.wrap_i32]; omega
                clear htw hw0
                (repeat' (first | (show VH _ _ _ _ _ _ _; first | refine v_seq ?_ | refine r_seq ?_ | refine v_skip ?_ | refine v_exit ?_ | refine v_cond_f rfl tbL ?_) | (show SH _ _ _ _ _ (_ :: _) _ _ _; first | (show SH _ _ _ _ _ (⟨_, .move _, _, _, _, _⟩ :: _) _ _ _; refine mov evL ?_) | (show SH _ _ _ _ _ (⟨_, .binOp .lss _ _ _ _, _, _, _, _⟩ :: _) _ _ _; refine lssF rfl rfl omD ?_) | (show SH _ _ _ _ _ (⟨_, .binOp .gtr _ _ _ _, _, _, _, _⟩ :: _) _ _ _; refine gtrF rfl rfl omD ?_) | (show SH _ _ _ _ _ (⟨_, .binOp .add _ _ _ _, _, _, _, _⟩ :: _) _ _ _; refine add rfl rfl inL ?_) | (show SH _ _ _ _ _ (⟨_, .load _ _, _, _, _, _⟩ :: _) _ _ _; first | refine lbx rfl spL (by rfl) ?_ | refine lrf rfl (fun _ _ => rdS) (by rfl) omL (by rfl) ?_ | refine lrf rfl (fun _ _ => rdS) (by rfl) (by simp only [List.length_cons, List.length_nil]; omega) (by rfl) ?_) | (show SH _ _ _ _ _ (⟨_, .indexAddr _ _ _, _, _, _, _⟩ :: _) _ _ _; refine ix rfl rfl (by with_reducible rfl) (fun _ _ => rdS) (by rfl) omL omL ?_) | refine nlc rfl ?_ | refine fad rfl ?_ | refine cnv rfl ?_) | refine s_nil ?_ | refine kh_normal ?_ | refine kh_exit ?_ | refine bh_exit ?_))
                refine stm (N := N1) (k := k) 1 { nodA N1 k with word := i + 1 } rfl rfl (by show Value.int .i32 (IntKind.i32.wrap _) = _; rw [hwr]) spL hhk (by omega) rfl rfl rfl rfl trivial ?_
                (repeat' (first | refine r_seq ?_ | (show SH _ _ _ _ _ (_ :: _) _ _ _; first | (show SH _ _ _ _ _ (⟨_, .move _, _, _, _, _⟩ :: _) _ _ _; refine mov evL ?_) | (show SH _ _ _ _ _ (⟨_, .binOp .add _ _ _ _, _, _, _, _⟩ :: _) _ _ _; refine add rfl rfl inL ?_)) | refine s_nil ?_ | refine kh_normal ?_ | refine bh_normal ?_))
                have hl2 : (N1.set k { nodA N1 k with word := i + 1 }).length = N1.length := List.length_set
                exact ⟨agL, (i + 1, (A1, c1), N1.set k { nodA N1 k with word := i + 1 }), hsL, by simp only [hl2]; exact enL, ⟨hil, ⟨P2, V2, hT2, hV2⟩, hZi, by simp only [hl2]; omega⟩, by show ws.length - (i + 1) < ws.length - i; omega⟩
              · rw [if_neg hw0] at hZi
                rw [← hZi]
                have hw1 : (0 : Int) < (((N1.getD k Flat.dflt).word : Nat) : Int) := by show (0 : Int) < (((nodA N1 k).word : Nat) : Int); omega
                clear htw hw0
                (repeat' (first | (show VH _ _ _ _ _ _ _; first | refine v_seq ?_ | refine r_seq ?_ | refine v_ret ?_ | refine v_exit ?_ | refine v_cond_t rfl tbL ?_ | refine v_cond_f rfl tbL ?_) | (show SH _ _ _ _ _ (_ :: _) _ _ _; first | (show SH _ _ _ _ _ (⟨_, .move _, _, _, _, _⟩ :: _) _ _ _; refine mov evL ?_) | (show SH _ _ _ _ _ (⟨_, .assign _, _, _, _, _⟩ :: _) _ _ _; refine asg evL ?_) | (show SH _ _ _ _ _ (⟨_, .binOp .lss _ _ _ _, _, _, _, _⟩ :: _) _ _ _; refine lssF rfl rfl omD ?_) | (show SH _ _ _ _ _ (⟨_, .binOp .gtr _ _ _ _, _, _, _, _⟩ :: _) _ _ _; refine gtrT rfl rfl omD ?_) | (show SH _ _ _ _ _ (⟨_, .load _ _, _, _, _, _⟩ :: _) _ _ _; first | refine lbx rfl spL (by rfl) ?_ | refine lrf rfl (fun _ _ => rdS) (by rfl) omL (by rfl) ?_ | refine lrf rfl (fun _ _ => rdS) (by rfl) (by simp only [List.length_cons, List.length_nil]; omega) (by rfl) ?_) | (show SH _ _ _ _ _ (⟨_, .indexAddr _ _ _, _, _, _, _⟩ :: _) _ _ _; refine ix rfl rfl (by with_reducible rfl) (fun _ _ => rdS) (by rfl) omL omL ?_) | refine nlc rfl ?_ | refine fad rfl ?_) | refine s_nil ?_ | refine kh_normal ?_ | refine kh_ret ?_ | refine kh_exit ?_ | refine bh_ret ?_ | refine bh_exit ?_))
                exact rh2 rfl rfl rfl ⟨rfl, rfl⟩ (ent_nil _)
    · obtain rfl : i = ws.length := by omega
      have hlq : (linkQ N.length N [0]).length = N.length := by
        obtain ⟨_, _, h⟩ := linkQ_spec N.length hT.link (by simp)
        exact h
      rw [List.drop_of_length_le (by rw [List.length_map]; exact Nat.le_refl _), trieM] at hZi
      rw [← hZi, Option.map_some]
      (repeat' (first | (show VH _ _ _ _ _ _ _; first | refine v_seq ?_ | refine r_seq ?_ | refine v_exit ?_ | refine v_cond_f rfl tbL ?_) | (show SH _ _ _ _ _ (_ :: _) _ _ _; first | (show SH _ _ _ _ _ (⟨_, .move _, _, _, _, _⟩ :: _) _ _ _; refine mov evL ?_) | (show SH _ _ _ _ _ (⟨_, .binOp .lss _ _ _ _, _, _, _, _⟩ :: _) _ _ _; refine lssF rfl rfl omD ?_)) | refine s_nil ?_ | refine kh_normal ?_ | refine kh_exit ?_ | refine bh_exit ?_))
      refine cm rfl (fun w2 hw2 => link_spec b A c N P V w [] w2 hT (by omega) (Ent.wd enL hw2)) rfl rfl ?_
      rintro _ _ rfl
      refine ⟨trivial, ?_⟩
      generalize linkQ N.length N [0] = M at hlq ⊢
      (repeat' (first | (show VH _ _ _ _ _ _ _; first | refine v_seq ?_ | refine r_seq ?_ | refine v_ret ?_) | (show SH _ _ _ _ _ (_ :: _) _ _ _; first | (show SH _ _ _ _ _ (⟨_, .move _, _, _, _, _⟩ :: _) _ _ _; refine mov evL ?_) | (show SH _ _ _ _ _ (⟨_, .assign _, _, _, _, _⟩ :: _) _ _ _; refine asg evL ?_)) | refine s_nil ?_ | refine kh_normal ?_))
      exact rh2 rfl rfl rfl ⟨b, A, c, rfl, rfl⟩ (by rw [hlq]; exact enL)
  · rw [if_neg h100]
    refine enterH Try.func23 rfl rfl Try.ntmps23 rfl (Wd.refl _) ?_
    (repeat' (first | (show VH _ _ _ _ _ _ _; first | refine v_seq ?_ | refine r_seq ?_ | refine v_ret ?_ | refine v_cond_t rfl tbL ?_) | (show SH _ _ _ _ _ (_ :: _) _ _ _; first | (show SH _ _ _ _ _ (⟨_, .move _, _, _, _, _⟩ :: _) _ _ _; refine mov evL ?_) | (show SH _ _ _ _ _ (⟨_, .assign _, _, _, _, _⟩ :: _) _ _ _; refine asg evL ?_) | (show SH _ _ _ _ _ (⟨_, .binOp .gtr _ _ _ _, _, _, _, _⟩ :: _) _ _ _; refine gtrT rfl rfl omD ?_) | refine slen rfl ?_) | refine s_nil ?_ | refine kh_normal ?_ | refine kh_ret ?_))
    exact rh2 rfl rfl rfl ⟨rfl, rfl⟩ (ent_nil _)
end Go.Proofs.Ytplhnnlklnbahaa

