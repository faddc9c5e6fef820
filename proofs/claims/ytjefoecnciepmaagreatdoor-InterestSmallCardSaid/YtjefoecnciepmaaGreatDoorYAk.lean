/- The kit: flatWorlds: slices that lie side by side (printed by gen_kw.py). -/
import Derived.Test.YtjefoecnciepmaaGreatDoorYAa
import Derived.Test.YtjefoecnciepmaaGreatDoorYAb
import Derived.Test.YtjefoecnciepmaaGreatDoorYAc
import Derived.Test.YtjefoecnciepmaaGreatDoorYAd
import Derived.Test.YtjefoecnciepmaaGreatDoorYAe
import Derived.Test.YtjefoecnciepmaaGreatDoorYAf
import Derived.Test.YtjefoecnciepmaaGreatDoorYAg
import Derived.Test.YtjefoecnciepmaaGreatDoorYAh
import Derived.Test.YtjefoecnciepmaaGreatDoorYAi
import Derived.Test.YtjefoecnciepmaaGreatDoorYAj
set_option linter.unusedSimpArgs false
set_option linter.unusedVariables false
/- The kit: flatComps: slices that lie side by side (printed by gen_kw.py). -/
namespace Go.Proofs.YtjefoecnciepmaaGreatDoor
open Go.Fw Go.RowKit
set_option maxHeartbeats 4000000 in
set_option maxRecDepth 100000 in
theorem flatComps_spec (A0 : Option Addr) (c0 : Nat) (rs : List (RowG Comp)) (w0 : World) (H : List HP) (w : World) (hn : rs.length ≤ 100000) (hll : ∀ r ∈ rs.map slv, r.m ≤ 1000000)
    (hw : Wd w0 (orow 29 A0 c0 (rs.map slv) :: (rs.map (rowP 37) ++ H)) w) :
    Ret Tryz.prog 75 [.slice A0 rs.length c0].toArray w (RP w0 fun v H' => v = .bool true ∧ H' = H) := by
  obtain ⟨sl, hsl⟩ : ∃ sl, sl = rs.map slv := ⟨_, rfl⟩
  have hsn : sl.length = rs.length := by rw [hsl, List.length_map]
  rw [← hsl] at hw hll
  refine enterH Tryz.func75 rfl rfl Tryz.ntmps75 rfl (by assumption) ?_
  (repeat' (first | (show VH _ _ _ _ _ _ _; first | refine v_seq ?_ | refine r_seq ?_ | refine v_block ?_) | (show SH _ _ _ _ _ (_ :: _) _ _ _; (show SH _ _ _ _ _ (⟨_, .assign _, _, _, _, _⟩ :: _) _ _ _; refine asg evL ?_)) | refine s_nil ?_ | refine kh_normal ?_))
  refine v_norm [(0,_),(3,_)] heL (fun g => ?_)
  have hsub : ∀ {rs' : List (RowG Comp)} {k : Nat} {A1 c1 l1}, rs'.map slv = sl → k < rs'.length → rs'.getD k rowD = ⟨A1, c1, l1⟩ → sl.getD k Flat.dflt = ⟨A1, l1.length, c1⟩ ∧ l1.length ≤ 1000000 := fun {rs' k A1 c1 l1} h1 h2 h3 => by
    have e : sl.getD k Flat.dflt = ⟨A1, l1.length, c1⟩ := by rw [← h1, getD_map' (d := rowD) h2, h3]; rfl
    refine ⟨e, ?_⟩
    have := hll (sl.getD k Flat.dflt) (getD_mem (by rw [← h1, List.length_map]; exact h2))
    rw [e] at this; exact this
  /- the marks are written -/
  refine v_loop [(3,4),(16,39)] (fun y : Nat × List (RowG Comp) => [(3, .int .i64 y.1)]) (fun y => orow 29 A0 c0 sl :: (y.2.map (rowP 37) ++ H)) (fun y => y.1 ≤ rs.length ∧ y.2.map slv = sl ∧ Marked mkC y.2 y.1) (fun y => rs.length - y.1) (0, rs) hsL (ent_refl _) ⟨Nat.zero_le _, hsl.symm, fun j hj => absurd hj (Nat.not_lt_zero j)⟩ ?_
  rintro ⟨k, rs1⟩ g ⟨hk, hs1, hm1⟩
  simp only [sets]
  simp only at hk hs1 hm1
  have hl1 : rs1.length = rs.length := by rw [← hsn, ← hs1, List.length_map]
  by_cases hkn : k < rs.length
  · obtain ⟨A1, c1, l1, hr⟩ : ∃ A1 c1 l1, rs1.getD k rowD = ⟨A1, c1, l1⟩ := ⟨_, _, _, rfl⟩
    obtain ⟨hg, hlen⟩ := hsub hs1 (by omega) hr
    refine VH.ent (G := orow 29 A0 c0 sl :: rowP 37 ⟨A1, c1, l1⟩ :: ((rs1.eraseIdx k).map (rowP 37) ++ H)) ?_ (ent_cons Split.head (hr ▸ ent_map_open (d := rowD) (by omega)))
    simp only [rowP]
    (repeat' (first | (show VH _ _ _ _ _ _ _; first | refine v_seq ?_ | refine r_seq ?_ | refine v_block ?_ | refine v_skip ?_ | refine v_cond_t rfl tbL ?_) | (show SH _ _ _ _ _ (_ :: _) _ _ _; first | (show SH _ _ _ _ _ (⟨_, .move _, _, _, _, _⟩ :: _) _ _ _; refine mov evL ?_) | (show SH _ _ _ _ _ (⟨_, .assign _, _, _, _, _⟩ :: _) _ _ _; refine asg evL ?_) | refine lss rfl rfl ?_ | refine slen rfl ?_) | refine s_nil ?_ | refine kh_normal ?_))
    refine v_loop [(4,4),(22,39)] (fun y : Nat × List Comp => [(4, .int .i64 y.1)]) (fun y => orow 29 A0 c0 sl :: orow 37 A1 c1 y.2 :: ((rs1.eraseIdx k).map (rowP 37) ++ H)) (fun y => y.1 ≤ l1.length ∧ y.2.length = l1.length ∧ y.2.take y.1 = marksG mkC k 0 y.1) (fun y => l1.length - y.1) (0, l1) hsL (ent_refl _) ⟨Nat.zero_le _, rfl, rfl⟩ ?_
    rintro ⟨i, l2⟩ g2 ⟨hi, h2, ht2⟩
    simp only [sets]
    simp only at hi h2 ht2
    (repeat' (first | (show VH _ _ _ _ _ _ _; first | refine v_seq ?_ | refine r_seq ?_ | refine v_block ?_ | refine v_skip ?_ | refine v_exit ?_ | refine v_cond_dec rfl (fun h => ?_) (fun h => ?_)) | (show SH _ _ _ _ _ (_ :: _) _ _ _; first | (show SH _ _ _ _ _ (⟨_, .move _, _, _, _, _⟩ :: _) _ _ _; refine mov evL ?_) | (show SH _ _ _ _ _ (⟨_, .assign _, _, _, _, _⟩ :: _) _ _ _; refine asg evL ?_) | (show SH _ _ _ _ _ (⟨_, .binOp .add _ _ _ _, _, _, _, _⟩ :: _) _ _ _; refine add rfl rfl inL ?_) | refine lss rfl rfl ?_ | (show SH _ _ _ _ _ (⟨_, .load _ _, _, _, _, _⟩ :: _) _ _ _; refine lsl rfl (fun _ _ => rdL) omL (by assumption) ?_) | (show SH _ _ _ _ _ (⟨_, .indexAddr _ _ _, _, _, _, _⟩ :: _) _ _ _; refine ix rfl rfl (by with_reducible rfl) (fun _ _ => rdL) (by rfl) omL omL ?_) | refine slen rfl ?_) | refine s_nil ?_ | refine kh_normal ?_ | refine kh_exit ?_ | refine bh_normal ?_ | refine bh_exit ?_))
    · refine r_held (orow 29 A0 c0 sl :: ((rs1.eraseIdx k).map (rowP 37) ++ H)) [(0, true), (1, true), (2, true), (3, true), (4, true), (5, true), (6, false), (7, false), (8, false), (9, false)] hmix (by kernel_rfl) (ent_cons spL (ent_drop (ent_refl _))) ?_
      have hq := fun w => markComp_spec k i w (by omega) (by omega)
      (repeat' ((show SH _ _ _ _ _ (_ :: _) _ _ _; first | (show SH _ _ _ _ _ (⟨_, .move _, _, _, _, _⟩ :: _) _ _ _; refine mov evL ?_) | (show SH _ _ _ _ _ (⟨_, .load _ _, _, _, _, _⟩ :: _) _ _ _; refine lsl rfl (fun _ _ => rdL) omL (by assumption) ?_) | (show SH _ _ _ _ _ (⟨_, .indexAddr _ _ _, _, _, _, _⟩ :: _) _ _ _; refine ix rfl rfl (by with_reducible rfl) (fun _ _ => rdL) (by rfl) omL omL ?_) | (show SH _ _ _ _ _ (⟨_, .call ⟨.value (.func 113), _, _⟩, _, _, _, _⟩ :: _) _ _ _; refine cl (callee := .func 113) rfl (fun w hw => hq w) rfl rfl ?_))))
      refine stv (i := i) (l := l2) (A := A1) (mkC k i) rfl rfl rfl spL rfl (by omega) rfl kpL ?_
      (repeat' (first | refine r_seq ?_ | (show SH _ _ _ _ _ (_ :: _) _ _ _; first | (show SH _ _ _ _ _ (⟨_, .move _, _, _, _, _⟩ :: _) _ _ _; refine mov evL ?_) | (show SH _ _ _ _ _ (⟨_, .assign _, _, _, _, _⟩ :: _) _ _ _; refine asg evL ?_) | (show SH _ _ _ _ _ (⟨_, .binOp .add _ _ _ _, _, _, _, _⟩ :: _) _ _ _; refine add rfl rfl inL ?_)) | refine s_nil ?_ | refine kh_normal ?_ | refine bh_normal ?_))
      refine ⟨agL, (i + 1, l2.set i (mkC k i)), hsL, enL, ⟨by show i + 1 ≤ _; omega, by show (l2.set i _).length = _; rw [List.length_set]; exact h2, ?_⟩, by show _ - (i + 1) < _ - i; omega⟩
      show (l2.set i (mkC k i)).take (i + 1) = _
      rw [take_set_snoc _ _ _ (by omega), ht2, marksG_snoc, Nat.zero_add]
    · have hil : i = l1.length := by omega
      subst hil
      rw [List.take_of_length_le (by omega)] at ht2
      (repeat' (first | (show VH _ _ _ _ _ _ _; first | refine v_seq ?_ | refine r_seq ?_ | refine r_quiet hmix (by kernel_rfl) ?_ | refine v_block ?_ | refine v_ret ?_ | refine v_skip ?_ | refine v_exit ?_ | refine v_label ?_ | refine v_cond_t rfl tbL ?_ | refine v_cond_f rfl tbL ?_ | refine v_cond_dec rfl (fun h => ?_) (fun h => ?_) | refine v_cond_ndec rfl (fun h => ?_) (fun h => ?_) | refine v_cond rfl (fun h => ?_) (fun h => ?_)) | (show SH _ _ _ _ _ (_ :: _) _ _ _; first | (show SH _ _ _ _ _ (⟨_, _, _, _, _, some _⟩ :: _) _ _ _; first | (refine gif rfl rfl ?_; first | refine giTT tbL ?_ | refine giTF tbL ?_ | refine giFF tbL ?_ | refine giFT tbL ?_ | refine giTd (fun h => ?_) (fun h => ?_) | refine giFd (fun h => ?_) (fun h => ?_) | refine giT (fun h => ?_) (fun h => ?_) | refine giF (fun h => ?_) (fun h => ?_)) | refine gu rfl rfl ?_ | refine grT rfl rfl tbL ?_ | refine grF rfl rfl tbL ?_) | (show SH _ _ _ _ _ (⟨_, .move _, _, _, _, _⟩ :: _) _ _ _; refine mov evL ?_) | (show SH _ _ _ _ _ (⟨_, .assign _, _, _, _, _⟩ :: _) _ _ _; refine asg evL ?_) | (show SH _ _ _ _ _ (⟨_, .binOp .add _ _ _ _, _, _, _, _⟩ :: _) _ _ _; refine add rfl rfl inL ?_) | refine lss rfl rfl ?_ | (show SH _ _ _ _ _ (⟨_, .binOp .eql _ _ _ _, _, _, _, _⟩ :: _) _ _ _; first | refine eql rfl rfl ?_ | refine eqn rfl rfl ?_ | refine eqb rfl rfl ?_) | (show SH _ _ _ _ _ (⟨_, .load _ _, _, _, _, _⟩ :: _) _ _ _; first | refine lsl rfl (fun _ _ => rdL) omL (by assumption) ?_ | refine lgi rfl (fun _ _ => rdY) omL (by assumption) ?_ | refine lag rfl (fun _ _ => rdY) (by rfl) omL (by assumption) ?_ | refine lrg rfl (fun _ _ => rdY) (by rfl) omL (by assumption) (by rfl) ?_ | refine lin rfl (fun _ _ => rdL) omL ?_ | refine lbx rfl spL (by rfl) ?_ | refine lba rfl spL (by rfl) ?_ | refine lbi rfl spL omL ?_ | refine lr1 rfl (fun _ _ => rdL) (by rfl) omL (by rfl) ?_ | refine lra rfl (fun _ _ => rdL) (by rfl) omL ?_ | refine lrf rfl (fun _ _ => rdL) (by rfl) omL (by rfl) ?_ | refine lcell rfl (fun w hw => hw.ext.cell (by assumption)) ?_) | (show SH _ _ _ _ _ (⟨_, .indexAddr _ _ _, _, _, _, _⟩ :: _) _ _ _; first | refine ix rfl rfl (by with_reducible rfl) (fun _ _ => rdL) (by rfl) omL omL ?_ | refine ixi rfl rfl (fun _ _ => rdL) (by rfl) omL omL omL ?_ | refine ixb rfl rfl omL ?_ | refine ixq rfl rfl (by assumption) omL omL ?_) | refine slen rfl ?_ | (show SH _ _ _ _ _ (⟨_, .pick _ _ _, _, _, _, _⟩ :: _) _ _ _; first | refine pkt rfl tbL evL ?_ | refine pkf rfl tbL evL ?_) | refine bnot rfl ?_ | (show SH _ _ _ _ _ (⟨_, .store _ _ _, _, _, _, _⟩ :: _) _ _ _; first | refine stb rfl rfl evL spL rfl rfl (by first | decide | exact Nat.zero_lt_succ _ | exact of_decide_eq_true rfl) kpL ?_ | refine sta rfl rfl rfl spL (by rfl) (by rfl) (by rfl) kpL ?_ | refine sti rfl rfl rfl spL omL kpL ?_ | refine sbi rfl rfl rfl spL omL kpL ?_) | (show SH _ _ _ _ _ (⟨_, .buildSlice _ _ _, _, _, _, _⟩ :: _) _ _ _; refine bsl (α := Int) rfl rfl (by repeat (first | exact Vals.nil | (apply Vals.cons; rfl))) rfl (by rfl) (by decide) (fun b => ?_))) | refine s_nil ?_ | refine kh_normal ?_ | refine kh_ret ?_ | refine kh_exit ?_ | refine bh_normal ?_ | refine bh_ret ?_ | refine bh_exit ?_ | refine bh_exit_ne rfl ?_))
      refine ⟨agL, (k + 1, rs1.set k ⟨A1, c1, l2⟩), hsL, ent_cons Split.head (ent_map_close (f := rowP 37) (x := ⟨A1, c1, l2⟩) (by omega)), ⟨by show k + 1 ≤ _; omega, ?_, fun j hj => ?_⟩, by show _ - (k + 1) < _ - k; omega⟩
      · show (rs1.set k ⟨A1, c1, l2⟩).map slv = sl
        rw [set_map' (d := rowD) (by omega) (by rw [hr]; simp only [slv, h2]), hs1]
      · show ((rs1.set k ⟨A1, c1, l2⟩).getD j rowD).l = marksG mkC j 0 ((rs1.set k ⟨A1, c1, l2⟩).getD j rowD).l.length
        by_cases e : j = k
        · subst e
          rw [getD_set_self' (by omega)]
          simp only
          rw [h2]; exact ht2
        · rw [getD_set_ne2 (by omega)]
          exact hm1 j (by omega)
  have hke : k = rs.length := by omega
  subst hke
  have hmk : ∀ {k A1 c1 l1}, k < rs.length → rs1.getD k rowD = ⟨A1, c1, l1⟩ → l1 = marksG mkC k 0 l1.length := fun {k A1 c1 l1} h1 h2 => by
    have := hm1 k h1
    rw [h2] at this; exact this
  refine VH.ent (G := orow 29 A0 c0 sl :: ((rs1.map selfT).map (twP 37) ++ H)) ?_ (ent_cons Split.head (ent_row_selfs rs1))
  (repeat' (first | (show VH _ _ _ _ _ _ _; first | refine v_seq ?_ | refine r_seq ?_ | refine v_exit ?_ | refine v_cond_f rfl tbL ?_) | (show SH _ _ _ _ _ (_ :: _) _ _ _; first | (show SH _ _ _ _ _ (⟨_, .move _, _, _, _, _⟩ :: _) _ _ _; refine mov evL ?_) | refine lss rfl rfl ?_ | refine slen rfl ?_) | refine s_nil ?_ | refine kh_normal ?_ | refine kh_exit ?_ | refine bh_exit ?_))
  refine mkz (α := SliceV) (z := .slice none 0 0) (by kernel_rfl) rfl rfl rfl rfl rfl rfl (by omega) (by omega) (by omega) (by omega) (fun bk => ?_)
  simp only [Int.toNat_natCast]
  (repeat' (first | (show VH _ _ _ _ _ _ _; first | refine v_seq ?_ | refine r_seq ?_ | refine v_block ?_) | (show SH _ _ _ _ _ (_ :: _) _ _ _; (show SH _ _ _ _ _ (⟨_, .assign _, _, _, _, _⟩ :: _) _ _ _; refine asg evL ?_)) | refine s_nil ?_ | refine kh_normal ?_))
  refine v_norm [(0,_),(5,_),(6,_)] heL (fun g => ?_)
  /- each slice is extended, an element at a time -/
  refine v_loop [(6,8),(43,72)] (fun y : Nat × (List (TwG Comp) × List SliceV) => [(6, .int .i64 y.1)]) (fun y => orow 29 (some ⟨bk, 0, none⟩) rs.length y.2.2 :: orow 29 A0 c0 sl :: (y.2.1.map (twP 37) ++ H)) (fun y => y.1 ≤ rs.length ∧ Tw (fun j l => l ++ marksG mkC j l.length 64) rs1 y.1 y.2.1 y.2.2) (fun y => rs.length - y.1) (0, (rs1.map selfT, List.replicate rs.length Flat.dflt)) hsL (ent_refl _) ⟨Nat.zero_le _, tw_start (by rw [List.length_replicate, hl1])⟩ ?_
  rintro ⟨k, ts, gl⟩ g ⟨hk, htw⟩
  simp only [sets]
  simp only at hk htw
  have htl := htw.tlen
  have hgl := htw.len
  by_cases hkn : k < rs.length
  · obtain ⟨A1, c1, l1, hr⟩ : ∃ A1 c1 l1, rs1.getD k rowD = ⟨A1, c1, l1⟩ := ⟨_, _, _, rfl⟩
    obtain ⟨hg, hlen⟩ := hsub hs1 (by omega) hr
    have hts := htw.self k (Nat.le_refl _) (by omega)
    rw [hr] at hts
    have h0 : l1 = l1 ++ marksG mkC k l1.length 0 := by rw [marksG_zero, List.append_nil]
    refine VH.ent (G := orow 29 (some ⟨bk, 0, none⟩) rs.length gl :: orow 29 A0 c0 sl :: twin 37 A1 c1 l1 A1 c1 l1 :: ((ts.eraseIdx k).map (twP 37) ++ H)) ?_ (ent_cons Split.head (ent_cons Split.head (by have := ent_map_open (f := twP 37) (d := twD) (H := H) (L := ts) (k := k) (by omega); rw [hts] at this; exact this)))
    (repeat' (first | (show VH _ _ _ _ _ _ _; first | refine v_seq ?_ | refine r_seq ?_ | refine v_block ?_ | refine v_skip ?_ | refine v_cond_t rfl tbL ?_) | (show SH _ _ _ _ _ (_ :: _) _ _ _; first | (show SH _ _ _ _ _ (⟨_, .move _, _, _, _, _⟩ :: _) _ _ _; refine mov evL ?_) | (show SH _ _ _ _ _ (⟨_, .assign _, _, _, _, _⟩ :: _) _ _ _; refine asg evL ?_) | refine lss rfl rfl ?_ | (show SH _ _ _ _ _ (⟨_, .load _ _, _, _, _, _⟩ :: _) _ _ _; refine lsl rfl (fun _ _ => rdL) omL (by assumption) ?_) | (show SH _ _ _ _ _ (⟨_, .indexAddr _ _ _, _, _, _, _⟩ :: _) _ _ _; refine ix rfl rfl (by with_reducible rfl) (fun _ _ => rdL) (by rfl) omL omL ?_) | refine slen rfl ?_) | refine s_nil ?_ | refine kh_normal ?_))
    refine v_normS [(6,8),(43,72)] _ agL [(6,_),(7,_),(8,_)] heL (fun g => ?_)
    refine v_loop [(7,8),(53,68)] (fun y : Nat × (Option Addr × Nat) => [(8, .int .i64 y.1), (7, .slice y.2.1 (l1 ++ marksG mkC k l1.length y.1).length y.2.2)]) (fun y => orow 29 (some ⟨bk, 0, none⟩) rs.length gl :: orow 29 A0 c0 sl :: twin 37 A1 c1 l1 y.2.1 y.2.2 (l1 ++ marksG mkC k l1.length y.1) :: ((ts.eraseIdx k).map (twP 37) ++ H)) (fun y => y.1 ≤ 64) (fun y => 64 - y.1) (0, (A1, c1)) ⟨rfl, congrArg (fun L : List Comp => Value.slice A1 L.length c1) h0, trivial⟩ (by rw [← h0]; exact ent_refl _) (Nat.zero_le _) ?_
    rintro ⟨i, A2, cp2⟩ g2 hi
    simp only [sets]
    simp only at hi
    have hlen2 : (l1 ++ marksG mkC k l1.length i).length = l1.length + i := by rw [List.length_append, marksG_len]
    (repeat' (first | (show VH _ _ _ _ _ _ _; first | refine v_seq ?_ | refine r_seq ?_ | refine v_block ?_ | refine v_skip ?_ | refine v_exit ?_ | refine v_cond_dec rfl (fun h => ?_) (fun h => ?_)) | (show SH _ _ _ _ _ (_ :: _) _ _ _; first | (show SH _ _ _ _ _ (⟨_, .move _, _, _, _, _⟩ :: _) _ _ _; refine mov evL ?_) | (show SH _ _ _ _ _ (⟨_, .binOp .add _ _ _ _, _, _, _, _⟩ :: _) _ _ _; refine add rfl rfl inL ?_) | refine lss rfl rfl ?_ | (show SH _ _ _ _ _ (⟨_, .load _ _, _, _, _, _⟩ :: _) _ _ _; refine lsl rfl (fun _ _ => rdL) omL (by assumption) ?_) | (show SH _ _ _ _ _ (⟨_, .indexAddr _ _ _, _, _, _, _⟩ :: _) _ _ _; refine ix rfl rfl (by with_reducible rfl) (fun _ _ => rdL) (by rfl) omL omL ?_) | refine slen rfl ?_ | (show SH _ _ _ _ _ (⟨_, .call ⟨.value (.func 113), _, _⟩, _, _, _, _⟩ :: _) _ _ _; refine cl (callee := .func 113) rfl (fun w hw => markComp_spec _ _ w (by omega) (by omega)) rfl rfl ?_)) | refine s_nil ?_ | refine kh_normal ?_ | refine kh_exit ?_ | refine bh_exit ?_))
    · refine bsl (l := [mkC k ((l1.length : Int) + (i : Int))]) rfl rfl (Vals.cons rfl Vals.nil) rfl rfl (of_decide_eq_true rfl) (fun b9 => ?_)
      (repeat' (first | (show VH _ _ _ _ _ _ _; first | refine v_seq ?_ | refine r_seq ?_ | refine r_quiet hmix (by kernel_rfl) ?_ | refine v_block ?_ | refine v_ret ?_ | refine v_skip ?_ | refine v_exit ?_ | refine v_label ?_ | refine v_cond_t rfl tbL ?_ | refine v_cond_f rfl tbL ?_ | refine v_cond_dec rfl (fun h => ?_) (fun h => ?_) | refine v_cond_ndec rfl (fun h => ?_) (fun h => ?_) | refine v_cond rfl (fun h => ?_) (fun h => ?_)) | (show SH _ _ _ _ _ (_ :: _) _ _ _; first | (show SH _ _ _ _ _ (⟨_, _, _, _, _, some _⟩ :: _) _ _ _; first | (refine gif rfl rfl ?_; first | refine giTT tbL ?_ | refine giTF tbL ?_ | refine giFF tbL ?_ | refine giFT tbL ?_ | refine giTd (fun h => ?_) (fun h => ?_) | refine giFd (fun h => ?_) (fun h => ?_) | refine giT (fun h => ?_) (fun h => ?_) | refine giF (fun h => ?_) (fun h => ?_)) | refine gu rfl rfl ?_ | refine grT rfl rfl tbL ?_ | refine grF rfl rfl tbL ?_) | (show SH _ _ _ _ _ (⟨_, .move _, _, _, _, _⟩ :: _) _ _ _; refine mov evL ?_) | (show SH _ _ _ _ _ (⟨_, .assign _, _, _, _, _⟩ :: _) _ _ _; refine asg evL ?_) | (show SH _ _ _ _ _ (⟨_, .binOp .add _ _ _ _, _, _, _, _⟩ :: _) _ _ _; refine add rfl rfl inL ?_) | refine lss rfl rfl ?_ | (show SH _ _ _ _ _ (⟨_, .binOp .eql _ _ _ _, _, _, _, _⟩ :: _) _ _ _; first | refine eql rfl rfl ?_ | refine eqn rfl rfl ?_ | refine eqb rfl rfl ?_) | (show SH _ _ _ _ _ (⟨_, .load _ _, _, _, _, _⟩ :: _) _ _ _; first | refine lsl rfl (fun _ _ => rdL) omL (by assumption) ?_ | refine lgi rfl (fun _ _ => rdY) omL (by assumption) ?_ | refine lag rfl (fun _ _ => rdY) (by rfl) omL (by assumption) ?_ | refine lrg rfl (fun _ _ => rdY) (by rfl) omL (by assumption) (by rfl) ?_ | refine lin rfl (fun _ _ => rdL) omL ?_ | refine lbx rfl spL (by rfl) ?_ | refine lba rfl spL (by rfl) ?_ | refine lbi rfl spL omL ?_ | refine lr1 rfl (fun _ _ => rdL) (by rfl) omL (by rfl) ?_ | refine lra rfl (fun _ _ => rdL) (by rfl) omL ?_ | refine lrf rfl (fun _ _ => rdL) (by rfl) omL (by rfl) ?_ | refine lcell rfl (fun w hw => hw.ext.cell (by assumption)) ?_) | (show SH _ _ _ _ _ (⟨_, .indexAddr _ _ _, _, _, _, _⟩ :: _) _ _ _; first | refine ix rfl rfl (by with_reducible rfl) (fun _ _ => rdL) (by rfl) omL omL ?_ | refine ixi rfl rfl (fun _ _ => rdL) (by rfl) omL omL omL ?_ | refine ixb rfl rfl omL ?_ | refine ixq rfl rfl (by assumption) omL omL ?_) | refine slen rfl ?_ | (show SH _ _ _ _ _ (⟨_, .pick _ _ _, _, _, _, _⟩ :: _) _ _ _; first | refine pkt rfl tbL evL ?_ | refine pkf rfl tbL evL ?_) | refine bnot rfl ?_ | (show SH _ _ _ _ _ (⟨_, .store _ _ _, _, _, _, _⟩ :: _) _ _ _; first | refine stb rfl rfl evL spL rfl rfl (by first | decide | exact Nat.zero_lt_succ _ | exact of_decide_eq_true rfl) kpL ?_ | refine sta rfl rfl rfl spL (by rfl) (by rfl) (by rfl) kpL ?_ | refine sti rfl rfl rfl spL omL kpL ?_ | refine sbi rfl rfl rfl spL omL kpL ?_) | (show SH _ _ _ _ _ (⟨_, .buildSlice _ _ _, _, _, _, _⟩ :: _) _ _ _; refine bsl (α := Int) rfl rfl (by repeat (first | exact Vals.nil | (apply Vals.cons; rfl))) rfl (by rfl) (by decide) (fun b => ?_))) | refine s_nil ?_ | refine kh_normal ?_ | refine kh_ret ?_ | refine kh_exit ?_ | refine bh_normal ?_ | refine bh_ret ?_ | refine bh_exit ?_ | refine bh_exit_ne rfl ?_))
      refine app3 rfl rfl rfl spL (fun w hw => hw.rd spL) rfl rfl rfl (by simp only [List.length_cons, List.length_nil]; omega) (by simp only [List.length_cons, List.length_nil]; omega) (fun A3 cp3 => ⟨trivial, ?_⟩)
      have hsn : l1 ++ marksG mkC k l1.length (i + 1) = (l1 ++ marksG mkC k l1.length i) ++ [mkC k ((l1.length : Int) + (i : Int))] := by rw [marksG_snoc, List.append_assoc, Int.natCast_add]
      (repeat' (first | refine r_seq ?_ | (show SH _ _ _ _ _ (_ :: _) _ _ _; first | (show SH _ _ _ _ _ (⟨_, .move _, _, _, _, _⟩ :: _) _ _ _; refine mov evL ?_) | (show SH _ _ _ _ _ (⟨_, .assign _, _, _, _, _⟩ :: _) _ _ _; refine asg evL ?_) | (show SH _ _ _ _ _ (⟨_, .binOp .add _ _ _ _, _, _, _, _⟩ :: _) _ _ _; refine add rfl rfl inL ?_)) | refine s_nil ?_ | refine kh_normal ?_ | refine bh_normal ?_))
      refine ⟨agL, (i + 1, (A3, cp3)), ⟨rfl, congrArg (fun L : List Comp => Value.slice A3 L.length cp3) hsn.symm, trivial⟩, ?_, by show i + 1 ≤ _; omega, by show _ - (i + 1) < _ - i; omega⟩
      show Ent _ (_ :: _ :: twin _ _ _ _ A3 cp3 (l1 ++ marksG mkC k l1.length (i + 1)) :: _)
      rw [hsn]
      (repeat (first | exact ent_refl _ | exact ent_nil _ | refine ent_nilrow ?_ | refine ent_cons spL ?_ | refine ent_drop ?_))
    · have hi64 : i = 64 := by omega
      subst hi64
      (repeat' (first | (show VH _ _ _ _ _ _ _; first | refine v_seq ?_ | refine r_seq ?_ | refine r_quiet hmix (by kernel_rfl) ?_ | refine v_block ?_ | refine v_ret ?_ | refine v_skip ?_ | refine v_exit ?_ | refine v_label ?_ | refine v_cond_t rfl tbL ?_ | refine v_cond_f rfl tbL ?_ | refine v_cond_dec rfl (fun h => ?_) (fun h => ?_) | refine v_cond_ndec rfl (fun h => ?_) (fun h => ?_) | refine v_cond rfl (fun h => ?_) (fun h => ?_)) | (show SH _ _ _ _ _ (_ :: _) _ _ _; first | (show SH _ _ _ _ _ (⟨_, _, _, _, _, some _⟩ :: _) _ _ _; first | (refine gif rfl rfl ?_; first | refine giTT tbL ?_ | refine giTF tbL ?_ | refine giFF tbL ?_ | refine giFT tbL ?_ | refine giTd (fun h => ?_) (fun h => ?_) | refine giFd (fun h => ?_) (fun h => ?_) | refine giT (fun h => ?_) (fun h => ?_) | refine giF (fun h => ?_) (fun h => ?_)) | refine gu rfl rfl ?_ | refine grT rfl rfl tbL ?_ | refine grF rfl rfl tbL ?_) | (show SH _ _ _ _ _ (⟨_, .move _, _, _, _, _⟩ :: _) _ _ _; refine mov evL ?_) | (show SH _ _ _ _ _ (⟨_, .assign _, _, _, _, _⟩ :: _) _ _ _; refine asg evL ?_) | (show SH _ _ _ _ _ (⟨_, .binOp .add _ _ _ _, _, _, _, _⟩ :: _) _ _ _; refine add rfl rfl inL ?_) | refine lss rfl rfl ?_ | (show SH _ _ _ _ _ (⟨_, .binOp .eql _ _ _ _, _, _, _, _⟩ :: _) _ _ _; first | refine eql rfl rfl ?_ | refine eqn rfl rfl ?_ | refine eqb rfl rfl ?_) | (show SH _ _ _ _ _ (⟨_, .load _ _, _, _, _, _⟩ :: _) _ _ _; first | refine lsl rfl (fun _ _ => rdL) omL (by assumption) ?_ | refine lgi rfl (fun _ _ => rdY) omL (by assumption) ?_ | refine lag rfl (fun _ _ => rdY) (by rfl) omL (by assumption) ?_ | refine lrg rfl (fun _ _ => rdY) (by rfl) omL (by assumption) (by rfl) ?_ | refine lin rfl (fun _ _ => rdL) omL ?_ | refine lbx rfl spL (by rfl) ?_ | refine lba rfl spL (by rfl) ?_ | refine lbi rfl spL omL ?_ | refine lr1 rfl (fun _ _ => rdL) (by rfl) omL (by rfl) ?_ | refine lra rfl (fun _ _ => rdL) (by rfl) omL ?_ | refine lrf rfl (fun _ _ => rdL) (by rfl) omL (by rfl) ?_ | refine lcell rfl (fun w hw => hw.ext.cell (by assumption)) ?_) | (show SH _ _ _ _ _ (⟨_, .indexAddr _ _ _, _, _, _, _⟩ :: _) _ _ _; first | refine ix rfl rfl (by with_reducible rfl) (fun _ _ => rdL) (by rfl) omL omL ?_ | refine ixi rfl rfl (fun _ _ => rdL) (by rfl) omL omL omL ?_ | refine ixb rfl rfl omL ?_ | refine ixq rfl rfl (by assumption) omL omL ?_) | refine slen rfl ?_ | (show SH _ _ _ _ _ (⟨_, .pick _ _ _, _, _, _, _⟩ :: _) _ _ _; first | refine pkt rfl tbL evL ?_ | refine pkf rfl tbL evL ?_) | refine bnot rfl ?_ | (show SH _ _ _ _ _ (⟨_, .store _ _ _, _, _, _, _⟩ :: _) _ _ _; first | refine stb rfl rfl evL spL rfl rfl (by first | decide | exact Nat.zero_lt_succ _ | exact of_decide_eq_true rfl) kpL ?_ | refine sta rfl rfl rfl spL (by rfl) (by rfl) (by rfl) kpL ?_ | refine sti rfl rfl rfl spL omL kpL ?_ | refine sbi rfl rfl rfl spL omL kpL ?_) | (show SH _ _ _ _ _ (⟨_, .buildSlice _ _ _, _, _, _, _⟩ :: _) _ _ _; refine bsl (α := Int) rfl rfl (by repeat (first | exact Vals.nil | (apply Vals.cons; rfl))) rfl (by rfl) (by decide) (fun b => ?_))) | refine s_nil ?_ | refine kh_normal ?_ | refine kh_ret ?_ | refine kh_exit ?_ | refine bh_normal ?_ | refine bh_ret ?_ | refine bh_exit ?_ | refine bh_exit_ne rfl ?_))
      refine st1 (α := SliceV) ⟨A2, (l1 ++ marksG mkC k l1.length 64).length, cp2⟩ rfl rfl rfl spL rfl (by omega) rfl rfl rfl trivial ?_
      (repeat' (first | refine r_seq ?_ | (show SH _ _ _ _ _ (_ :: _) _ _ _; first | (show SH _ _ _ _ _ (⟨_, .move _, _, _, _, _⟩ :: _) _ _ _; refine mov evL ?_) | (show SH _ _ _ _ _ (⟨_, .assign _, _, _, _, _⟩ :: _) _ _ _; refine asg evL ?_) | (show SH _ _ _ _ _ (⟨_, .binOp .add _ _ _ _, _, _, _, _⟩ :: _) _ _ _; refine add rfl rfl inL ?_)) | refine s_nil ?_ | refine kh_normal ?_ | refine bh_normal ?_))
      exact ⟨agL, (k + 1, (ts.set k ⟨A1, c1, l1, A2, cp2, l1 ++ marksG mkC k l1.length 64⟩, gl.set k ⟨A2, (l1 ++ marksG mkC k l1.length 64).length, cp2⟩)), hsL, ent_cons Split.head (ent_cons Split.head (ent_map_close (f := twP 37) (x := ⟨A1, c1, l1, A2, cp2, l1 ++ marksG mkC k l1.length 64⟩) (by omega))), ⟨by show k + 1 ≤ _; omega, htw.step (by omega) hr rfl⟩, by show _ - (k + 1) < _ - k; omega⟩
  have hke : k = rs.length := by omega
  subst hke
  have hdone := htw.done
  have hbase : ∀ {j A1 c1 l1 A2 c2 L}, j < rs.length → ts.getD j twD = ⟨A1, c1, l1, A2, c2, L⟩ → rs1.getD j rowD = ⟨A1, c1, l1⟩ := fun {j A1 c1 l1 A2 c2 L} h1 h2 => by
    rw [← htw.base, getD_map' (d := twD) (by omega), h2]; rfl
  (repeat' (first | (show VH _ _ _ _ _ _ _; first | refine v_seq ?_ | refine r_seq ?_ | refine v_block ?_ | refine v_exit ?_ | refine v_cond_f rfl tbL ?_) | (show SH _ _ _ _ _ (_ :: _) _ _ _; first | (show SH _ _ _ _ _ (⟨_, .move _, _, _, _, _⟩ :: _) _ _ _; refine mov evL ?_) | (show SH _ _ _ _ _ (⟨_, .assign _, _, _, _, _⟩ :: _) _ _ _; refine asg evL ?_) | refine lss rfl rfl ?_ | refine slen rfl ?_) | refine s_nil ?_ | refine kh_normal ?_ | refine kh_exit ?_ | refine bh_exit ?_))
  refine v_norm [(0,_),(5,_),(9,_)] heL (fun g => ?_)
  /- all are read -/
  refine v_loop0 [(2,2),(9,10),(73,122)] (fun k : Nat => [(9, .int .i64 k)]) (fun k => k ≤ rs.length) (fun k => rs.length - k) 0 hsL (Nat.zero_le _) ?_
  rintro k g hk
  simp only [sets]
  by_cases hkn : k < rs.length
  · obtain ⟨A1, c1, l1, A2, c2, L, ht⟩ : ∃ A1 c1 l1 A2 c2 L, ts.getD k twD = ⟨A1, c1, l1, A2, c2, L⟩ := ⟨_, _, _, _, _, _, rfl⟩
    have hr := hbase hkn ht
    obtain ⟨hg, hlen⟩ := hsub hs1 (by omega) hr
    obtain ⟨hg2, hL⟩ := hdone k hkn
    rw [ht] at hg2 hL
    simp only at hg2 hL
    have hmk1 := hmk hkn hr
    have hL2 : L = marksG mkC k 0 (l1.length + 64) := by rw [hL, ← marksG_add]; congr 1
    have hLn : L.length = l1.length + 64 := by rw [hL2, marksG_len]
    have hv1 : ∀ i, i < L.length → L.getD i Flat.dflt = mkC k i := fun i hi => by rw [hL2, marksG_get _ _ (by omega), Nat.zero_add]
    have hv2 : ∀ i, i < l1.length → l1.getD i Flat.dflt = mkC k i := fun i hi => by rw [hmk1, marksG_get _ _ hi, Nat.zero_add]
    refine VH.ent (G := orow 29 (some ⟨bk, 0, none⟩) rs.length gl :: orow 29 A0 c0 sl :: twin 37 A1 c1 l1 A2 c2 L :: ((ts.eraseIdx k).map (twP 37) ++ H)) ?_ (ent_cons Split.head (ent_cons Split.head (by have := ent_map_open (f := twP 37) (d := twD) (H := H) (L := ts) (k := k) (by omega); rw [ht] at this; exact this)))
    clear hL hL2 hmk1
    (repeat' (first | (show VH _ _ _ _ _ _ _; first | refine v_seq ?_ | refine r_seq ?_ | refine v_block ?_ | refine v_skip ?_ | refine v_cond_t rfl tbL ?_) | (show SH _ _ _ _ _ (_ :: _) _ _ _; first | (show SH _ _ _ _ _ (⟨_, .move _, _, _, _, _⟩ :: _) _ _ _; refine mov evL ?_) | (show SH _ _ _ _ _ (⟨_, .assign _, _, _, _, _⟩ :: _) _ _ _; refine asg evL ?_) | refine lss rfl rfl ?_ | refine slen rfl ?_) | refine s_nil ?_ | refine kh_normal ?_))
    refine v_normS [(2,2),(9,10),(73,122)] _ agL [(9,_),(10,_)] heL (fun g => ?_)
    refine v_loop0 [(2,2),(10,10),(79,122)] (fun i : Nat => [(10, .int .i64 i)]) (fun i => i ≤ L.length) (fun i => L.length - i) 0 hsL (Nat.zero_le _) ?_
    rintro i g2 hi
    simp only [sets]
    by_cases hil : i < L.length
    · have e1 := hv1 i hil
      by_cases hi1 : i < l1.length
      · have e2 := hv2 i hi1
        have hq := fun w => markComp_spec k i w (by omega) (by omega)
        generalize mkC k i = q at e1 hq e2
        have f1 : Flat.enc (L.getD i Flat.dflt) = Flat.enc q := by rw [e1]
        have f2 : Flat.enc (l1.getD i Flat.dflt) = Flat.enc q := by rw [e2]
        clear hv1 hv2 e1 e2
        (repeat' (first | (show VH _ _ _ _ _ _ _; first | refine v_seq ?_ | refine r_seq ?_ | refine r_quiet hmix (by kernel_rfl) ?_ | refine v_block ?_ | refine v_skip ?_ | refine v_cond_t rfl tbL ?_) | (show SH _ _ _ _ _ (_ :: _) _ _ _; first | (show SH _ _ _ _ _ (⟨_, .move _, _, _, _, _⟩ :: _) _ _ _; refine mov evL ?_) | refine lss rfl rfl ?_ | (show SH _ _ _ _ _ (⟨_, .load _ _, _, _, _, _⟩ :: _) _ _ _; first | refine lsl rfl (fun _ _ => rdL) omL (by assumption) ?_ | refine lag rfl (fun _ _ => rdY) (by rfl) omL (by assumption) ?_) | (show SH _ _ _ _ _ (⟨_, .indexAddr _ _ _, _, _, _, _⟩ :: _) _ _ _; refine ix rfl rfl (by with_reducible rfl) (fun _ _ => rdL) (by rfl) omL omL ?_) | refine slen rfl ?_ | (show SH _ _ _ _ _ (⟨_, .call ⟨.value (.func 113), _, _⟩, _, _, _, _⟩ :: _) _ _ _; refine cl (callee := .func 113) rfl (fun w hw => hq w) rfl rfl ?_)) | refine s_nil ?_ | refine kh_normal ?_))
        refine eqa q q rfl rfl ?_
        rw [decide_eq_true rfl]
        (repeat' ((show SH _ _ _ _ _ (_ :: _) _ _ _; first | (show SH _ _ _ _ _ (⟨_, _, _, _, _, some _⟩ :: _) _ _ _; (refine gif rfl rfl ?_; first | refine giTT tbL ?_ | refine giFF tbL ?_)) | (show SH _ _ _ _ _ (⟨_, .move _, _, _, _, _⟩ :: _) _ _ _; refine mov evL ?_) | refine lss rfl rfl ?_ | (show SH _ _ _ _ _ (⟨_, .load _ _, _, _, _, _⟩ :: _) _ _ _; first | refine lsl rfl (fun _ _ => rdL) omL (by assumption) ?_ | refine lag rfl (fun _ _ => rdY) (by rfl) omL (by assumption) ?_) | (show SH _ _ _ _ _ (⟨_, .indexAddr _ _ _, _, _, _, _⟩ :: _) _ _ _; refine ix rfl rfl (by with_reducible rfl) (fun _ _ => rdL) (by rfl) omL omL ?_) | refine slen rfl ?_ | (show SH _ _ _ _ _ (⟨_, .call ⟨.value (.func 113), _, _⟩, _, _, _, _⟩ :: _) _ _ _; refine cl (callee := .func 113) rfl (fun w hw => hq w) rfl rfl ?_) | refine bnot rfl ?_)))
        refine eqa q q rfl rfl ?_
        rw [decide_eq_true rfl]
        (repeat' (first | (show VH _ _ _ _ _ _ _; first | refine r_seq ?_ | refine v_skip ?_ | refine v_cond_f rfl tbL ?_) | (show SH _ _ _ _ _ (_ :: _) _ _ _; first | (show SH _ _ _ _ _ (⟨_, _, _, _, _, some _⟩ :: _) _ _ _; (refine gif rfl rfl ?_; first | refine giTT tbL ?_ | refine giFF tbL ?_)) | (show SH _ _ _ _ _ (⟨_, .move _, _, _, _, _⟩ :: _) _ _ _; refine mov evL ?_) | (show SH _ _ _ _ _ (⟨_, .assign _, _, _, _, _⟩ :: _) _ _ _; refine asg evL ?_) | (show SH _ _ _ _ _ (⟨_, .binOp .add _ _ _ _, _, _, _, _⟩ :: _) _ _ _; refine add rfl rfl inL ?_) | (show SH _ _ _ _ _ (⟨_, .pick _ _ _, _, _, _, _⟩ :: _) _ _ _; first | refine pkt rfl tbL evL ?_ | refine pkf rfl tbL evL ?_) | refine bnot rfl ?_) | refine s_nil ?_ | refine kh_normal ?_ | refine bh_normal ?_))
        exact ⟨agL, i + 1, hsL, enL, by omega, by omega⟩
      · have hq := fun w => markComp_spec k i w (by omega) (by omega)
        generalize mkC k i = q at e1 hq
        have f1 : Flat.enc (L.getD i Flat.dflt) = Flat.enc q := by rw [e1]
        clear hv1 hv2 e1
        (repeat' (first | (show VH _ _ _ _ _ _ _; first | refine v_seq ?_ | refine r_seq ?_ | refine r_quiet hmix (by kernel_rfl) ?_ | refine v_block ?_ | refine v_skip ?_ | refine v_cond_t rfl tbL ?_) | (show SH _ _ _ _ _ (_ :: _) _ _ _; first | (show SH _ _ _ _ _ (⟨_, .move _, _, _, _, _⟩ :: _) _ _ _; refine mov evL ?_) | refine lss rfl rfl ?_ | (show SH _ _ _ _ _ (⟨_, .load _ _, _, _, _, _⟩ :: _) _ _ _; first | refine lsl rfl (fun _ _ => rdL) omL (by assumption) ?_ | refine lag rfl (fun _ _ => rdY) (by rfl) omL (by assumption) ?_) | (show SH _ _ _ _ _ (⟨_, .indexAddr _ _ _, _, _, _, _⟩ :: _) _ _ _; refine ix rfl rfl (by with_reducible rfl) (fun _ _ => rdL) (by rfl) omL omL ?_) | refine slen rfl ?_ | (show SH _ _ _ _ _ (⟨_, .call ⟨.value (.func 113), _, _⟩, _, _, _, _⟩ :: _) _ _ _; refine cl (callee := .func 113) rfl (fun w hw => hq w) rfl rfl ?_)) | refine s_nil ?_ | refine kh_normal ?_))
        refine eqa q q rfl rfl ?_
        rw [decide_eq_true rfl]
        (repeat' (first | (show VH _ _ _ _ _ _ _; first | refine r_seq ?_ | refine v_skip ?_ | refine v_cond_f rfl tbL ?_) | (show SH _ _ _ _ _ (_ :: _) _ _ _; first | (show SH _ _ _ _ _ (⟨_, _, _, _, _, some _⟩ :: _) _ _ _; (refine gif rfl rfl ?_; first | refine giTF tbL ?_ | refine giFF tbL ?_)) | (show SH _ _ _ _ _ (⟨_, .move _, _, _, _, _⟩ :: _) _ _ _; refine mov evL ?_) | (show SH _ _ _ _ _ (⟨_, .assign _, _, _, _, _⟩ :: _) _ _ _; refine asg evL ?_) | (show SH _ _ _ _ _ (⟨_, .binOp .add _ _ _ _, _, _, _, _⟩ :: _) _ _ _; refine add rfl rfl inL ?_) | refine lss rfl rfl ?_ | (show SH _ _ _ _ _ (⟨_, .load _ _, _, _, _, _⟩ :: _) _ _ _; refine lsl rfl (fun _ _ => rdL) omL (by assumption) ?_) | (show SH _ _ _ _ _ (⟨_, .indexAddr _ _ _, _, _, _, _⟩ :: _) _ _ _; refine ix rfl rfl (by with_reducible rfl) (fun _ _ => rdL) (by rfl) omL omL ?_) | refine slen rfl ?_ | (show SH _ _ _ _ _ (⟨_, .pick _ _ _, _, _, _, _⟩ :: _) _ _ _; refine pkf rfl tbL evL ?_) | refine bnot rfl ?_) | refine s_nil ?_ | refine kh_normal ?_ | refine bh_normal ?_))
        exact ⟨agL, i + 1, hsL, enL, by omega, by omega⟩
    · (repeat' (first | (show VH _ _ _ _ _ _ _; first | refine v_seq ?_ | refine r_seq ?_ | refine v_exit ?_ | refine v_cond_f rfl tbL ?_) | (show SH _ _ _ _ _ (_ :: _) _ _ _; first | (show SH _ _ _ _ _ (⟨_, .move _, _, _, _, _⟩ :: _) _ _ _; refine mov evL ?_) | (show SH _ _ _ _ _ (⟨_, .assign _, _, _, _, _⟩ :: _) _ _ _; refine asg evL ?_) | (show SH _ _ _ _ _ (⟨_, .binOp .add _ _ _ _, _, _, _, _⟩ :: _) _ _ _; refine add rfl rfl inL ?_) | refine lss rfl rfl ?_ | (show SH _ _ _ _ _ (⟨_, .load _ _, _, _, _, _⟩ :: _) _ _ _; refine lsl rfl (fun _ _ => rdL) omL (by assumption) ?_) | (show SH _ _ _ _ _ (⟨_, .indexAddr _ _ _, _, _, _, _⟩ :: _) _ _ _; refine ix rfl rfl (by with_reducible rfl) (fun _ _ => rdL) (by rfl) omL omL ?_) | refine slen rfl ?_) | refine s_nil ?_ | refine kh_normal ?_ | refine kh_exit ?_ | refine bh_normal ?_ | refine bh_exit ?_))
      exact ⟨agL, k + 1, hsL, ent_cons Split.head (ent_cons Split.head (by have := ent_map_back (f := twP 37) (d := twD) (H := H) (L := ts) (k := k) (by omega); rw [ht] at this; exact this)), by omega, by omega⟩
  have hke : k = rs.length := by omega
  subst hke
  refine VH.ent (G := orow 29 (some ⟨bk, 0, none⟩) rs.length gl :: orow 29 A0 c0 sl :: ((rs1.map selfT).map (twP 37) ++ H)) ?_ (ent_cons Split.head (ent_cons Split.head (by have := ent_tw_selfs (e := 37) (H := H) ts; rw [htw.base] at this; exact this)))
  (repeat' (first | (show VH _ _ _ _ _ _ _; first | refine v_seq ?_ | refine r_seq ?_ | refine v_block ?_ | refine v_exit ?_ | refine v_cond_f rfl tbL ?_) | (show SH _ _ _ _ _ (_ :: _) _ _ _; first | (show SH _ _ _ _ _ (⟨_, .move _, _, _, _, _⟩ :: _) _ _ _; refine mov evL ?_) | (show SH _ _ _ _ _ (⟨_, .assign _, _, _, _, _⟩ :: _) _ _ _; refine asg evL ?_) | refine lss rfl rfl ?_ | refine slen rfl ?_) | refine s_nil ?_ | refine kh_normal ?_ | refine kh_exit ?_ | refine bh_exit ?_))
  refine v_norm [(0,_),(5,_),(11,_)] heL (fun g => ?_)
  clear hdone hbase htw
  /- each slice is extended by many at once -/
  refine v_loop [(11,13),(123,151)] (fun y : Nat × (List (TwG Comp) × List SliceV) => [(11, .int .i64 y.1)]) (fun y => orow 29 (some ⟨bk, 0, none⟩) rs.length y.2.2 :: orow 29 A0 c0 sl :: (y.2.1.map (twP 37) ++ H)) (fun y => y.1 ≤ rs.length ∧ Tw (fun j l => l ++ marksG mkC ((j : Int) + (rs.length : Int)) 0 64) rs1 y.1 y.2.1 y.2.2) (fun y => rs.length - y.1) (0, (rs1.map selfT, gl)) hsL (ent_refl _) ⟨Nat.zero_le _, tw_start hgl⟩ ?_
  rintro ⟨k, ts, gl⟩ g ⟨hk, htw⟩
  simp only [sets]
  simp only at hk htw
  have htl := htw.tlen
  have hgl := htw.len
  by_cases hkn : k < rs.length
  · obtain ⟨A1, c1, l1, hr⟩ : ∃ A1 c1 l1, rs1.getD k rowD = ⟨A1, c1, l1⟩ := ⟨_, _, _, rfl⟩
    obtain ⟨hg, hlen⟩ := hsub hs1 (by omega) hr
    have hts := htw.self k (Nat.le_refl _) (by omega)
    rw [hr] at hts
    refine VH.ent (G := orow 29 (some ⟨bk, 0, none⟩) rs.length gl :: orow 29 A0 c0 sl :: twin 37 A1 c1 l1 A1 c1 l1 :: ((ts.eraseIdx k).map (twP 37) ++ H)) ?_ (ent_cons Split.head (ent_cons Split.head (by have := ent_map_open (f := twP 37) (d := twD) (H := H) (L := ts) (k := k) (by omega); rw [hts] at this; exact this)))
    (repeat' (first | (show VH _ _ _ _ _ _ _; first | refine v_seq ?_ | refine r_seq ?_ | refine v_block ?_ | refine v_skip ?_ | refine v_cond_t rfl tbL ?_) | (show SH _ _ _ _ _ (_ :: _) _ _ _; first | (show SH _ _ _ _ _ (⟨_, .move _, _, _, _, _⟩ :: _) _ _ _; refine mov evL ?_) | refine lss rfl rfl ?_ | refine slen rfl ?_) | refine s_nil ?_ | refine kh_normal ?_))
    refine mkzA (α := Comp) (z := .agg #[.int .u8 0, .int .i64 0, .int .i64 0, .int .i64 0, .int .i64 0]) (by kernel_rfl) rfl rfl rfl rfl rfl (by omega) (by omega) (by omega) (by omega) (fun bm => ?_)
    simp only [show (64 : Int).toNat = 64 from rfl]
    (repeat' (first | (show VH _ _ _ _ _ _ _; first | refine v_seq ?_ | refine r_seq ?_ | refine v_block ?_) | (show SH _ _ _ _ _ (_ :: _) _ _ _; (show SH _ _ _ _ _ (⟨_, .assign _, _, _, _, _⟩ :: _) _ _ _; refine asg evL ?_)) | refine s_nil ?_ | refine kh_normal ?_))
    refine v_normS [(11,13),(123,151)] _ agL [(11,_),(12,_),(13,_)] heL (fun g => ?_)
    refine v_loop [(13,13),(130,142)] (fun y : Nat × List Comp => [(13, .int .i64 y.1)]) (fun y => orow 37 (some ⟨bm, 0, none⟩) 64 y.2 :: orow 29 (some ⟨bk, 0, none⟩) rs.length gl :: orow 29 A0 c0 sl :: twin 37 A1 c1 l1 A1 c1 l1 :: ((ts.eraseIdx k).map (twP 37) ++ H)) (fun y => y.1 ≤ 64 ∧ y.2.length = 64 ∧ y.2.take y.1 = marksG mkC ((k : Int) + (rs.length : Int)) 0 y.1) (fun y => 64 - y.1) (0, List.replicate 64 (Flat.dflt : Comp)) hsL (ent_refl _) ⟨Nat.zero_le _, List.length_replicate, rfl⟩ ?_
    rintro ⟨i, ml⟩ g2 ⟨hi, h2, ht2⟩
    simp only [sets]
    simp only at hi h2 ht2
    (repeat' (first | (show VH _ _ _ _ _ _ _; first | refine v_seq ?_ | refine r_seq ?_ | refine v_block ?_ | refine v_skip ?_ | refine v_exit ?_ | refine v_cond_dec rfl (fun h => ?_) (fun h => ?_)) | (show SH _ _ _ _ _ (_ :: _) _ _ _; first | (show SH _ _ _ _ _ (⟨_, .move _, _, _, _, _⟩ :: _) _ _ _; refine mov evL ?_) | (show SH _ _ _ _ _ (⟨_, .binOp .add _ _ _ _, _, _, _, _⟩ :: _) _ _ _; refine add rfl rfl inL ?_) | refine lss rfl rfl ?_ | (show SH _ _ _ _ _ (⟨_, .load _ _, _, _, _, _⟩ :: _) _ _ _; refine lsl rfl (fun _ _ => rdL) omL (by assumption) ?_) | (show SH _ _ _ _ _ (⟨_, .indexAddr _ _ _, _, _, _, _⟩ :: _) _ _ _; refine ix rfl rfl (by with_reducible rfl) (fun _ _ => rdL) (by rfl) omL omL ?_) | refine slen rfl ?_ | (show SH _ _ _ _ _ (⟨_, .call ⟨.value (.func 113), _, _⟩, _, _, _, _⟩ :: _) _ _ _; refine cl (callee := .func 113) rfl (fun w hw => markComp_spec _ _ w (by omega) (by omega)) rfl rfl ?_)) | refine s_nil ?_ | refine kh_normal ?_ | refine kh_exit ?_ | refine bh_exit ?_))
    · refine stv (i := i) (l := ml) (A := some ⟨bm, 0, none⟩) (mkC ((k : Int) + (rs.length : Int)) i) rfl rfl rfl spL rfl (by omega) rfl trivial ?_
      (repeat' (first | refine r_seq ?_ | (show SH _ _ _ _ _ (_ :: _) _ _ _; first | (show SH _ _ _ _ _ (⟨_, .move _, _, _, _, _⟩ :: _) _ _ _; refine mov evL ?_) | (show SH _ _ _ _ _ (⟨_, .assign _, _, _, _, _⟩ :: _) _ _ _; refine asg evL ?_) | (show SH _ _ _ _ _ (⟨_, .binOp .add _ _ _ _, _, _, _, _⟩ :: _) _ _ _; refine add rfl rfl inL ?_)) | refine s_nil ?_ | refine kh_normal ?_ | refine bh_normal ?_))
      refine ⟨agL, (i + 1, ml.set i (mkC ((k : Int) + (rs.length : Int)) i)), hsL, enL, ⟨by show i + 1 ≤ _; omega, by show (ml.set i _).length = _; rw [List.length_set]; exact h2, ?_⟩, by show _ - (i + 1) < _ - i; omega⟩
      show (ml.set i (mkC ((k : Int) + (rs.length : Int)) i)).take (i + 1) = _
      rw [take_set_snoc _ _ _ (by omega), ht2, marksG_snoc, Nat.zero_add]
    · have hi64 : i = 64 := by omega
      subst hi64
      rw [List.take_of_length_le (by omega)] at ht2
      subst ht2
      refine app3 rfl rfl rfl spL (fun w hw => hw.rd spL) rfl rfl (by rw [marksG_len]) (by rw [marksG_len]; omega) (by rw [marksG_len]; omega) (fun A2 cp2 => ⟨trivial, ?_⟩)
      (repeat' ((show SH _ _ _ _ _ (_ :: _) _ _ _; (show SH _ _ _ _ _ (⟨_, .indexAddr _ _ _, _, _, _, _⟩ :: _) _ _ _; refine ix rfl rfl (by with_reducible rfl) (fun _ _ => rdL) (by rfl) omL omL ?_))))
      refine st1 (α := SliceV) ⟨A2, (l1 ++ marksG mkC ((k : Int) + (rs.length : Int)) 0 64).length, cp2⟩ rfl rfl rfl spL rfl (by omega) rfl rfl rfl trivial ?_
      (repeat' (first | refine r_seq ?_ | (show SH _ _ _ _ _ (_ :: _) _ _ _; first | (show SH _ _ _ _ _ (⟨_, .move _, _, _, _, _⟩ :: _) _ _ _; refine mov evL ?_) | (show SH _ _ _ _ _ (⟨_, .assign _, _, _, _, _⟩ :: _) _ _ _; refine asg evL ?_) | (show SH _ _ _ _ _ (⟨_, .binOp .add _ _ _ _, _, _, _, _⟩ :: _) _ _ _; refine add rfl rfl inL ?_)) | refine s_nil ?_ | refine kh_normal ?_ | refine bh_normal ?_))
      exact ⟨agL, (k + 1, (ts.set k ⟨A1, c1, l1, A2, cp2, l1 ++ marksG mkC ((k : Int) + (rs.length : Int)) 0 64⟩, gl.set k ⟨A2, (l1 ++ marksG mkC ((k : Int) + (rs.length : Int)) 0 64).length, cp2⟩)), hsL, ent_cons spL (ent_cons spL ((ent_cons Split.head (ent_drop (ent_refl _))).trans (ent_map_close (f := twP 37) (x := ⟨A1, c1, l1, A2, cp2, l1 ++ marksG mkC ((k : Int) + (rs.length : Int)) 0 64⟩) (by omega)))), ⟨by show k + 1 ≤ _; omega, htw.step (by omega) hr rfl⟩, by show _ - (k + 1) < _ - k; omega⟩
  have hke : k = rs.length := by omega
  subst hke
  have hdone := htw.done
  have hbase : ∀ {j A1 c1 l1 A2 c2 L}, j < rs.length → ts.getD j twD = ⟨A1, c1, l1, A2, c2, L⟩ → rs1.getD j rowD = ⟨A1, c1, l1⟩ := fun {j A1 c1 l1 A2 c2 L} h1 h2 => by
    rw [← htw.base, getD_map' (d := twD) (by omega), h2]; rfl
  (repeat' (first | (show VH _ _ _ _ _ _ _; first | refine v_seq ?_ | refine r_seq ?_ | refine v_block ?_ | refine v_exit ?_ | refine v_cond_f rfl tbL ?_) | (show SH _ _ _ _ _ (_ :: _) _ _ _; first | (show SH _ _ _ _ _ (⟨_, .move _, _, _, _, _⟩ :: _) _ _ _; refine mov evL ?_) | (show SH _ _ _ _ _ (⟨_, .assign _, _, _, _, _⟩ :: _) _ _ _; refine asg evL ?_) | refine lss rfl rfl ?_ | refine slen rfl ?_) | refine s_nil ?_ | refine kh_normal ?_ | refine kh_exit ?_ | refine bh_exit ?_))
  refine v_norm [(0,_),(5,_),(14,_)] heL (fun g => ?_)
  refine v_loop0 [(2,2),(14,15),(152,192)] (fun k : Nat => [(14, .int .i64 k)]) (fun k => k ≤ rs.length) (fun k => rs.length - k) 0 hsL (Nat.zero_le _) ?_
  rintro k g hk
  simp only [sets]
  by_cases hkn : k < rs.length
  · obtain ⟨A1, c1, l1, A2, c2, L, ht⟩ : ∃ A1 c1 l1 A2 c2 L, ts.getD k twD = ⟨A1, c1, l1, A2, c2, L⟩ := ⟨_, _, _, _, _, _, rfl⟩
    have hr := hbase hkn ht
    obtain ⟨hg, hlen⟩ := hsub hs1 (by omega) hr
    obtain ⟨hg2, hL⟩ := hdone k hkn
    rw [ht] at hg2 hL
    simp only at hg2 hL
    have hmk1 := hmk hkn hr
    have hLn : L.length = l1.length + 64 := by rw [hL, List.length_append, marksG_len]
    have hv2 : ∀ i, i < l1.length → l1.getD i Flat.dflt = mkC k i := fun i hi => by rw [hmk1, marksG_get _ _ hi, Nat.zero_add]
    have hv1 : ∀ i, i < l1.length → L.getD i Flat.dflt = mkC k i := fun i hi => by
      rw [← hv2 i hi, hL]; simp [List.getD_eq_getElem?_getD, List.getElem?_append_left hi]
    refine VH.ent (G := orow 29 (some ⟨bk, 0, none⟩) rs.length gl :: orow 29 A0 c0 sl :: twin 37 A1 c1 l1 A2 c2 L :: ((ts.eraseIdx k).map (twP 37) ++ H)) ?_ (ent_cons Split.head (ent_cons Split.head (by have := ent_map_open (f := twP 37) (d := twD) (H := H) (L := ts) (k := k) (by omega); rw [ht] at this; exact this)))
    clear hL hmk1
    (repeat' (first | (show VH _ _ _ _ _ _ _; first | refine v_seq ?_ | refine r_seq ?_ | refine v_block ?_ | refine v_skip ?_ | refine v_cond_t rfl tbL ?_) | (show SH _ _ _ _ _ (_ :: _) _ _ _; first | (show SH _ _ _ _ _ (⟨_, .move _, _, _, _, _⟩ :: _) _ _ _; refine mov evL ?_) | (show SH _ _ _ _ _ (⟨_, .assign _, _, _, _, _⟩ :: _) _ _ _; refine asg evL ?_) | refine lss rfl rfl ?_ | refine slen rfl ?_) | refine s_nil ?_ | refine kh_normal ?_))
    refine v_normS [(2,2),(14,15),(152,192)] _ agL [(14,_),(15,_)] heL (fun g => ?_)
    refine v_loop0 [(2,2),(15,15),(158,192)] (fun i : Nat => [(15, .int .i64 i)]) (fun i => i ≤ l1.length) (fun i => l1.length - i) 0 hsL (Nat.zero_le _) ?_
    rintro i g2 hi
    simp only [sets]
    by_cases hil : i < l1.length
    · have e1 := hv1 i hil
      have e2 := hv2 i hil
      have hq := fun w => markComp_spec k i w (by omega) (by omega)
      generalize mkC k i = q at e1 hq e2
      have f1 : Flat.enc (L.getD i Flat.dflt) = Flat.enc q := by rw [e1]
      have f2 : Flat.enc (l1.getD i Flat.dflt) = Flat.enc q := by rw [e2]
      clear hv1 hv2 e1 e2
      (repeat' (first | (show VH _ _ _ _ _ _ _; first | refine v_seq ?_ | refine r_seq ?_ | refine r_quiet hmix (by kernel_rfl) ?_ | refine v_block ?_ | refine v_skip ?_ | refine v_cond_t rfl tbL ?_) | (show SH _ _ _ _ _ (_ :: _) _ _ _; first | (show SH _ _ _ _ _ (⟨_, .move _, _, _, _, _⟩ :: _) _ _ _; refine mov evL ?_) | refine lss rfl rfl ?_ | (show SH _ _ _ _ _ (⟨_, .load _ _, _, _, _, _⟩ :: _) _ _ _; first | refine lsl rfl (fun _ _ => rdL) omL (by assumption) ?_ | refine lag rfl (fun _ _ => rdY) (by rfl) omL (by assumption) ?_) | (show SH _ _ _ _ _ (⟨_, .indexAddr _ _ _, _, _, _, _⟩ :: _) _ _ _; refine ix rfl rfl (by with_reducible rfl) (fun _ _ => rdL) (by rfl) omL omL ?_) | refine slen rfl ?_ | (show SH _ _ _ _ _ (⟨_, .call ⟨.value (.func 113), _, _⟩, _, _, _, _⟩ :: _) _ _ _; refine cl (callee := .func 113) rfl (fun w hw => hq w) rfl rfl ?_)) | refine s_nil ?_ | refine kh_normal ?_))
      refine eqa q q rfl rfl ?_
      rw [decide_eq_true rfl]
      (repeat' ((show SH _ _ _ _ _ (_ :: _) _ _ _; first | (show SH _ _ _ _ _ (⟨_, _, _, _, _, some _⟩ :: _) _ _ _; (refine gif rfl rfl ?_; refine giFF tbL ?_)) | (show SH _ _ _ _ _ (⟨_, .move _, _, _, _, _⟩ :: _) _ _ _; refine mov evL ?_) | (show SH _ _ _ _ _ (⟨_, .load _ _, _, _, _, _⟩ :: _) _ _ _; first | refine lsl rfl (fun _ _ => rdL) omL (by assumption) ?_ | refine lag rfl (fun _ _ => rdY) (by rfl) omL (by assumption) ?_) | (show SH _ _ _ _ _ (⟨_, .indexAddr _ _ _, _, _, _, _⟩ :: _) _ _ _; refine ix rfl rfl (by with_reducible rfl) (fun _ _ => rdL) (by rfl) omL omL ?_) | (show SH _ _ _ _ _ (⟨_, .call ⟨.value (.func 113), _, _⟩, _, _, _, _⟩ :: _) _ _ _; refine cl (callee := .func 113) rfl (fun w hw => hq w) rfl rfl ?_) | refine bnot rfl ?_)))
      refine eqa q q rfl rfl ?_
      rw [decide_eq_true rfl]
      (repeat' (first | (show VH _ _ _ _ _ _ _; first | refine r_seq ?_ | refine v_skip ?_ | refine v_cond_f rfl tbL ?_) | (show SH _ _ _ _ _ (_ :: _) _ _ _; first | (show SH _ _ _ _ _ (⟨_, _, _, _, _, some _⟩ :: _) _ _ _; (refine gif rfl rfl ?_; refine giFF tbL ?_)) | (show SH _ _ _ _ _ (⟨_, .move _, _, _, _, _⟩ :: _) _ _ _; refine mov evL ?_) | (show SH _ _ _ _ _ (⟨_, .assign _, _, _, _, _⟩ :: _) _ _ _; refine asg evL ?_) | (show SH _ _ _ _ _ (⟨_, .binOp .add _ _ _ _, _, _, _, _⟩ :: _) _ _ _; refine add rfl rfl inL ?_) | (show SH _ _ _ _ _ (⟨_, .pick _ _ _, _, _, _, _⟩ :: _) _ _ _; refine pkf rfl tbL evL ?_) | refine bnot rfl ?_) | refine s_nil ?_ | refine kh_normal ?_ | refine bh_normal ?_))
      exact ⟨agL, i + 1, hsL, enL, by omega, by omega⟩
    · (repeat' (first | (show VH _ _ _ _ _ _ _; first | refine v_seq ?_ | refine r_seq ?_ | refine v_exit ?_ | refine v_cond_f rfl tbL ?_) | (show SH _ _ _ _ _ (_ :: _) _ _ _; first | (show SH _ _ _ _ _ (⟨_, .move _, _, _, _, _⟩ :: _) _ _ _; refine mov evL ?_) | (show SH _ _ _ _ _ (⟨_, .assign _, _, _, _, _⟩ :: _) _ _ _; refine asg evL ?_) | (show SH _ _ _ _ _ (⟨_, .binOp .add _ _ _ _, _, _, _, _⟩ :: _) _ _ _; refine add rfl rfl inL ?_) | refine lss rfl rfl ?_ | (show SH _ _ _ _ _ (⟨_, .load _ _, _, _, _, _⟩ :: _) _ _ _; refine lsl rfl (fun _ _ => rdL) omL (by assumption) ?_) | (show SH _ _ _ _ _ (⟨_, .indexAddr _ _ _, _, _, _, _⟩ :: _) _ _ _; refine ix rfl rfl (by with_reducible rfl) (fun _ _ => rdL) (by rfl) omL omL ?_) | refine slen rfl ?_) | refine s_nil ?_ | refine kh_normal ?_ | refine kh_exit ?_ | refine bh_normal ?_ | refine bh_exit ?_))
      exact ⟨agL, k + 1, hsL, ent_cons Split.head (ent_cons Split.head (by have := ent_map_back (f := twP 37) (d := twD) (H := H) (L := ts) (k := k) (by omega); rw [ht] at this; exact this)), by omega, by omega⟩
  · (repeat' (first | (show VH _ _ _ _ _ _ _; first | refine v_seq ?_ | refine r_seq ?_ | refine v_ret ?_ | refine v_exit ?_ | refine v_cond_f rfl tbL ?_) | (show SH _ _ _ _ _ (_ :: _) _ _ _; first | (show SH _ _ _ _ _ (⟨_, .move _, _, _, _, _⟩ :: _) _ _ _; refine mov evL ?_) | (show SH _ _ _ _ _ (⟨_, .assign _, _, _, _, _⟩ :: _) _ _ _; refine asg evL ?_) | refine lss rfl rfl ?_ | refine slen rfl ?_) | refine s_nil ?_ | refine kh_normal ?_ | refine kh_exit ?_ | refine bh_exit ?_))
    exact rh1 rfl rfl ⟨rfl, rfl⟩ (ent_drop (ent_drop (ent_maps_drop ts)))
end Go.Proofs.YtjefoecnciepmaaGreatDoor

/- The kit: marks that are worlds; a mark is as itself. -/
namespace Go.Proofs.YtjefoecnciepmaaGreatDoor
open Go.Fw Go.RowKit
/-- A world, as an element. -/
structure WldV where
  t : Int
  A : Option Addr
  m : Nat
  cp : Nat
instance : Flat WldV := ⟨2, fun x => [.int .i64 x.t, .slice x.A x.m x.cp], ⟨0, none, 0, 0⟩, fun _ => rfl, fun x v hv => by
  simp at hv; rcases hv with rfl | rfl <;> rfl, by omega⟩
def mkW (k i : Int) : WldV := ⟨markI k i, none, 0, 0⟩
set_option maxHeartbeats 1000000 in
set_option maxRecDepth 100000 in
theorem markWorld_spec (k i : Int) (w : World) (hk : -1000000 ≤ k ∧ k ≤ 1000000) (hi : -1000000000000 ≤ i ∧ i ≤ 1000000000000) :
    Ret Tryz.prog 114 [.int .i64 k, .int .i64 i].toArray w (Out w (.agg (Flat.enc (mkW k i)).toArray)) := by
  have hm := fun w => mark_spec k i w hk hi
  unfold mkW
  generalize markI k i = m at hm ⊢
  clear hk hi
  refine enterH Tryz.func114 rfl rfl Tryz.ntmps114 rfl (Wd.refl _) ?_
  (repeat' (first | (show VH _ _ _ _ _ _ _; first | refine v_seq ?_ | refine r_seq ?_ | refine v_ret ?_) | (show SH _ _ _ _ _ (_ :: _) _ _ _; first | (show SH _ _ _ _ _ (⟨_, .move _, _, _, _, _⟩ :: _) _ _ _; refine mov evL ?_) | (show SH _ _ _ _ _ (⟨_, .call ⟨.value (.func 94), _, _⟩, _, _, _, _⟩ :: _) _ _ _; refine cl (callee := .func 94) rfl (fun w hw => hm w) rfl rfl ?_) | refine bld rfl rfl ?_ | refine ala rfl (fun b => ?_) | (show SH _ _ _ _ _ (⟨_, .store _ _ _, _, _, _, _⟩ :: _) _ _ _; refine sta rfl rfl rfl spL (by rfl) (by rfl) (by rfl) kpL ?_)) | refine s_nil ?_ | refine kh_normal ?_))
  exact rhC rfl rfl rfl (fun w hw => loadVar_bx hw spL (by rfl)) ⟨rfl, rfl⟩ (ent_nil _)
theorem sameMarkE (k i : Int) (w : World) : Ret Tryz.prog 68 [.agg (Flat.enc (mkE k i)).toArray, .agg (Flat.enc (mkE k i)).toArray].toArray w (Out w (.bool true)) := by
  have := sameEntity_spec (mkE k i) (mkE k i) w (Rd.nil _ _) (Rd.nil _ _) (by show 0 ≤ _; omega)
  rwa [decide_eq_true rfl] at this
theorem sameMarkW (k i : Int) (w : World) : Ret Tryz.prog 24 [.agg (Flat.enc (mkW k i)).toArray, .agg (Flat.enc (mkW k i)).toArray].toArray w (Out w (.bool true)) := by
  have := sameWorld_spec (markI k i) (markI k i) none none [] [] 0 0 w ⟨Rd.nil _ _, fun x hx => by cases hx⟩ ⟨Rd.nil _ _, fun x hx => by cases hx⟩ ⟨by simp, fun x hx => by cases hx⟩
  rw [decide_eq_true ⟨rfl, rfl⟩] at this
  exact this
end Go.Proofs.YtjefoecnciepmaaGreatDoor

/- The kit: flatEntities: slices that lie side by side (printed by gen_kw.py). -/
namespace Go.Proofs.YtjefoecnciepmaaGreatDoor
open Go.Fw Go.RowKit
set_option maxHeartbeats 4000000 in
set_option maxRecDepth 100000 in
theorem flatEntities_spec (A0 : Option Addr) (c0 : Nat) (rs : List (RowG EntP)) (w0 : World) (H : List HP) (w : World) (hn : rs.length ≤ 100000) (hll : ∀ r ∈ rs.map slv, r.m ≤ 1000000)
    (hw : Wd w0 (orow 22 A0 c0 (rs.map slv) :: (rs.map (rowP 31) ++ H)) w) :
    Ret Tryz.prog 76 [.slice A0 rs.length c0].toArray w (RP w0 fun v H' => v = .bool true ∧ H' = H) := by
  obtain ⟨sl, hsl⟩ : ∃ sl, sl = rs.map slv := ⟨_, rfl⟩
  have hsn : sl.length = rs.length := by rw [hsl, List.length_map]
  rw [← hsl] at hw hll
  refine enterH Tryz.func76 rfl rfl Tryz.ntmps76 rfl (by assumption) ?_
  (repeat' (first | (show VH _ _ _ _ _ _ _; first | refine v_seq ?_ | refine r_seq ?_ | refine v_block ?_) | (show SH _ _ _ _ _ (_ :: _) _ _ _; (show SH _ _ _ _ _ (⟨_, .assign _, _, _, _, _⟩ :: _) _ _ _; refine asg evL ?_)) | refine s_nil ?_ | refine kh_normal ?_))
  refine v_norm [(0,_),(3,_)] heL (fun g => ?_)
  have hsub : ∀ {rs' : List (RowG EntP)} {k : Nat} {A1 c1 l1}, rs'.map slv = sl → k < rs'.length → rs'.getD k rowD = ⟨A1, c1, l1⟩ → sl.getD k Flat.dflt = ⟨A1, l1.length, c1⟩ ∧ l1.length ≤ 1000000 := fun {rs' k A1 c1 l1} h1 h2 h3 => by
    have e : sl.getD k Flat.dflt = ⟨A1, l1.length, c1⟩ := by rw [← h1, getD_map' (d := rowD) h2, h3]; rfl
    refine ⟨e, ?_⟩
    have := hll (sl.getD k Flat.dflt) (getD_mem (by rw [← h1, List.length_map]; exact h2))
    rw [e] at this; exact this
  /- the marks are written -/
  refine v_loop [(3,4),(16,39)] (fun y : Nat × List (RowG EntP) => [(3, .int .i64 y.1)]) (fun y => orow 22 A0 c0 sl :: (y.2.map (rowP 31) ++ H)) (fun y => y.1 ≤ rs.length ∧ y.2.map slv = sl ∧ Marked mkE y.2 y.1) (fun y => rs.length - y.1) (0, rs) hsL (ent_refl _) ⟨Nat.zero_le _, hsl.symm, fun j hj => absurd hj (Nat.not_lt_zero j)⟩ ?_
  rintro ⟨k, rs1⟩ g ⟨hk, hs1, hm1⟩
  simp only [sets]
  simp only at hk hs1 hm1
  have hl1 : rs1.length = rs.length := by rw [← hsn, ← hs1, List.length_map]
  by_cases hkn : k < rs.length
  · obtain ⟨A1, c1, l1, hr⟩ : ∃ A1 c1 l1, rs1.getD k rowD = ⟨A1, c1, l1⟩ := ⟨_, _, _, rfl⟩
    obtain ⟨hg, hlen⟩ := hsub hs1 (by omega) hr
    refine VH.ent (G := orow 22 A0 c0 sl :: rowP 31 ⟨A1, c1, l1⟩ :: ((rs1.eraseIdx k).map (rowP 31) ++ H)) ?_ (ent_cons Split.head (hr ▸ ent_map_open (d := rowD) (by omega)))
    simp only [rowP]
    (repeat' (first | (show VH _ _ _ _ _ _ _; first | refine v_seq ?_ | refine r_seq ?_ | refine v_block ?_ | refine v_skip ?_ | refine v_cond_t rfl tbL ?_) | (show SH _ _ _ _ _ (_ :: _) _ _ _; first | (show SH _ _ _ _ _ (⟨_, .move _, _, _, _, _⟩ :: _) _ _ _; refine mov evL ?_) | (show SH _ _ _ _ _ (⟨_, .assign _, _, _, _, _⟩ :: _) _ _ _; refine asg evL ?_) | refine lss rfl rfl ?_ | refine slen rfl ?_) | refine s_nil ?_ | refine kh_normal ?_))
    refine v_loop [(4,4),(22,39)] (fun y : Nat × List EntP => [(4, .int .i64 y.1)]) (fun y => orow 22 A0 c0 sl :: orow 31 A1 c1 y.2 :: ((rs1.eraseIdx k).map (rowP 31) ++ H)) (fun y => y.1 ≤ l1.length ∧ y.2.length = l1.length ∧ y.2.take y.1 = marksG mkE k 0 y.1) (fun y => l1.length - y.1) (0, l1) hsL (ent_refl _) ⟨Nat.zero_le _, rfl, rfl⟩ ?_
    rintro ⟨i, l2⟩ g2 ⟨hi, h2, ht2⟩
    simp only [sets]
    simp only at hi h2 ht2
    (repeat' (first | (show VH _ _ _ _ _ _ _; first | refine v_seq ?_ | refine r_seq ?_ | refine v_block ?_ | refine v_skip ?_ | refine v_exit ?_ | refine v_cond_dec rfl (fun h => ?_) (fun h => ?_)) | (show SH _ _ _ _ _ (_ :: _) _ _ _; first | (show SH _ _ _ _ _ (⟨_, .move _, _, _, _, _⟩ :: _) _ _ _; refine mov evL ?_) | (show SH _ _ _ _ _ (⟨_, .assign _, _, _, _, _⟩ :: _) _ _ _; refine asg evL ?_) | (show SH _ _ _ _ _ (⟨_, .binOp .add _ _ _ _, _, _, _, _⟩ :: _) _ _ _; refine add rfl rfl inL ?_) | refine lss rfl rfl ?_ | (show SH _ _ _ _ _ (⟨_, .load _ _, _, _, _, _⟩ :: _) _ _ _; refine lsl rfl (fun _ _ => rdL) omL (by assumption) ?_) | (show SH _ _ _ _ _ (⟨_, .indexAddr _ _ _, _, _, _, _⟩ :: _) _ _ _; refine ix rfl rfl (by with_reducible rfl) (fun _ _ => rdL) (by rfl) omL omL ?_) | refine slen rfl ?_) | refine s_nil ?_ | refine kh_normal ?_ | refine kh_exit ?_ | refine bh_normal ?_ | refine bh_exit ?_))
    · refine r_held (orow 22 A0 c0 sl :: ((rs1.eraseIdx k).map (rowP 31) ++ H)) [(0, true), (1, true), (2, true), (3, true), (4, true), (5, true), (6, false), (7, false), (8, false), (9, false)] hmix (by kernel_rfl) (ent_cons spL (ent_drop (ent_refl _))) ?_
      have hq := fun w => markEntity_spec k i w (by omega) (by omega)
      (repeat' ((show SH _ _ _ _ _ (_ :: _) _ _ _; first | (show SH _ _ _ _ _ (⟨_, .move _, _, _, _, _⟩ :: _) _ _ _; refine mov evL ?_) | (show SH _ _ _ _ _ (⟨_, .load _ _, _, _, _, _⟩ :: _) _ _ _; refine lsl rfl (fun _ _ => rdL) omL (by assumption) ?_) | (show SH _ _ _ _ _ (⟨_, .indexAddr _ _ _, _, _, _, _⟩ :: _) _ _ _; refine ix rfl rfl (by with_reducible rfl) (fun _ _ => rdL) (by rfl) omL omL ?_) | (show SH _ _ _ _ _ (⟨_, .call ⟨.value (.func 50), _, _⟩, _, _, _, _⟩ :: _) _ _ _; refine cl (callee := .func 50) rfl (fun w hw => hq w) rfl rfl ?_))))
      refine stv (i := i) (l := l2) (A := A1) (mkE k i) rfl rfl rfl spL rfl (by omega) rfl kpL ?_
      (repeat' (first | refine r_seq ?_ | (show SH _ _ _ _ _ (_ :: _) _ _ _; first | (show SH _ _ _ _ _ (⟨_, .move _, _, _, _, _⟩ :: _) _ _ _; refine mov evL ?_) | (show SH _ _ _ _ _ (⟨_, .assign _, _, _, _, _⟩ :: _) _ _ _; refine asg evL ?_) | (show SH _ _ _ _ _ (⟨_, .binOp .add _ _ _ _, _, _, _, _⟩ :: _) _ _ _; refine add rfl rfl inL ?_)) | refine s_nil ?_ | refine kh_normal ?_ | refine bh_normal ?_))
      refine ⟨agL, (i + 1, l2.set i (mkE k i)), hsL, enL, ⟨by show i + 1 ≤ _; omega, by show (l2.set i _).length = _; rw [List.length_set]; exact h2, ?_⟩, by show _ - (i + 1) < _ - i; omega⟩
      show (l2.set i (mkE k i)).take (i + 1) = _
      rw [take_set_snoc _ _ _ (by omega), ht2, marksG_snoc, Nat.zero_add]
    · have hil : i = l1.length := by omega
      subst hil
      rw [List.take_of_length_le (by omega)] at ht2
      (repeat' (first | (show VH _ _ _ _ _ _ _; first | refine v_seq ?_ | refine r_seq ?_ | refine r_quiet hmix (by kernel_rfl) ?_ | refine v_block ?_ | refine v_ret ?_ | refine v_skip ?_ | refine v_exit ?_ | refine v_label ?_ | refine v_cond_t rfl tbL ?_ | refine v_cond_f rfl tbL ?_ | refine v_cond_dec rfl (fun h => ?_) (fun h => ?_) | refine v_cond_ndec rfl (fun h => ?_) (fun h => ?_) | refine v_cond rfl (fun h => ?_) (fun h => ?_)) | (show SH _ _ _ _ _ (_ :: _) _ _ _; first | (show SH _ _ _ _ _ (⟨_, _, _, _, _, some _⟩ :: _) _ _ _; first | (refine gif rfl rfl ?_; first | refine giTT tbL ?_ | refine giTF tbL ?_ | refine giFF tbL ?_ | refine giFT tbL ?_ | refine giTd (fun h => ?_) (fun h => ?_) | refine giFd (fun h => ?_) (fun h => ?_) | refine giT (fun h => ?_) (fun h => ?_) | refine giF (fun h => ?_) (fun h => ?_)) | refine gu rfl rfl ?_ | refine grT rfl rfl tbL ?_ | refine grF rfl rfl tbL ?_) | (show SH _ _ _ _ _ (⟨_, .move _, _, _, _, _⟩ :: _) _ _ _; refine mov evL ?_) | (show SH _ _ _ _ _ (⟨_, .assign _, _, _, _, _⟩ :: _) _ _ _; refine asg evL ?_) | (show SH _ _ _ _ _ (⟨_, .binOp .add _ _ _ _, _, _, _, _⟩ :: _) _ _ _; refine add rfl rfl inL ?_) | refine lss rfl rfl ?_ | (show SH _ _ _ _ _ (⟨_, .load _ _, _, _, _, _⟩ :: _) _ _ _; first | refine lsl rfl (fun _ _ => rdL) omL (by assumption) ?_ | refine lgi rfl (fun _ _ => rdY) omL (by assumption) ?_ | refine lag rfl (fun _ _ => rdY) (by rfl) omL (by assumption) ?_ | refine lrg rfl (fun _ _ => rdY) (by rfl) omL (by assumption) (by rfl) ?_ | refine lin rfl (fun _ _ => rdL) omL ?_ | refine lbx rfl spL (by rfl) ?_ | refine lba rfl spL (by rfl) ?_ | refine lbi rfl spL omL ?_ | refine lr1 rfl (fun _ _ => rdL) (by rfl) omL (by rfl) ?_ | refine lra rfl (fun _ _ => rdL) (by rfl) omL ?_ | refine lrf rfl (fun _ _ => rdL) (by rfl) omL (by rfl) ?_ | refine lcell rfl (fun w hw => hw.ext.cell (by assumption)) ?_) | (show SH _ _ _ _ _ (⟨_, .indexAddr _ _ _, _, _, _, _⟩ :: _) _ _ _; first | refine ix rfl rfl (by with_reducible rfl) (fun _ _ => rdL) (by rfl) omL omL ?_ | refine ixi rfl rfl (fun _ _ => rdL) (by rfl) omL omL omL ?_ | refine ixb rfl rfl omL ?_ | refine ixq rfl rfl (by assumption) omL omL ?_) | refine slen rfl ?_ | (show SH _ _ _ _ _ (⟨_, .pick _ _ _, _, _, _, _⟩ :: _) _ _ _; first | refine pkt rfl tbL evL ?_ | refine pkf rfl tbL evL ?_) | refine bnot rfl ?_ | (show SH _ _ _ _ _ (⟨_, .store _ _ _, _, _, _, _⟩ :: _) _ _ _; first | refine stb rfl rfl evL spL rfl rfl (by first | decide | exact Nat.zero_lt_succ _ | exact of_decide_eq_true rfl) kpL ?_ | refine sta rfl rfl rfl spL (by rfl) (by rfl) (by rfl) kpL ?_ | refine sti rfl rfl rfl spL omL kpL ?_ | refine sbi rfl rfl rfl spL omL kpL ?_) | (show SH _ _ _ _ _ (⟨_, .buildSlice _ _ _, _, _, _, _⟩ :: _) _ _ _; refine bsl (α := Int) rfl rfl (by repeat (first | exact Vals.nil | (apply Vals.cons; rfl))) rfl (by rfl) (by decide) (fun b => ?_))) | refine s_nil ?_ | refine kh_normal ?_ | refine kh_ret ?_ | refine kh_exit ?_ | refine bh_normal ?_ | refine bh_ret ?_ | refine bh_exit ?_ | refine bh_exit_ne rfl ?_))
      refine ⟨agL, (k + 1, rs1.set k ⟨A1, c1, l2⟩), hsL, ent_cons Split.head (ent_map_close (f := rowP 31) (x := ⟨A1, c1, l2⟩) (by omega)), ⟨by show k + 1 ≤ _; omega, ?_, fun j hj => ?_⟩, by show _ - (k + 1) < _ - k; omega⟩
      · show (rs1.set k ⟨A1, c1, l2⟩).map slv = sl
        rw [set_map' (d := rowD) (by omega) (by rw [hr]; simp only [slv, h2]), hs1]
      · show ((rs1.set k ⟨A1, c1, l2⟩).getD j rowD).l = marksG mkE j 0 ((rs1.set k ⟨A1, c1, l2⟩).getD j rowD).l.length
        by_cases e : j = k
        · subst e
          rw [getD_set_self' (by omega)]
          simp only
          rw [h2]; exact ht2
        · rw [getD_set_ne2 (by omega)]
          exact hm1 j (by omega)
  have hke : k = rs.length := by omega
  subst hke
  have hmk : ∀ {k A1 c1 l1}, k < rs.length → rs1.getD k rowD = ⟨A1, c1, l1⟩ → l1 = marksG mkE k 0 l1.length := fun {k A1 c1 l1} h1 h2 => by
    have := hm1 k h1
    rw [h2] at this; exact this
  refine VH.ent (G := orow 22 A0 c0 sl :: ((rs1.map selfT).map (twP 31) ++ H)) ?_ (ent_cons Split.head (ent_row_selfs rs1))
  (repeat' (first | (show VH _ _ _ _ _ _ _; first | refine v_seq ?_ | refine r_seq ?_ | refine v_exit ?_ | refine v_cond_f rfl tbL ?_) | (show SH _ _ _ _ _ (_ :: _) _ _ _; first | (show SH _ _ _ _ _ (⟨_, .move _, _, _, _, _⟩ :: _) _ _ _; refine mov evL ?_) | refine lss rfl rfl ?_ | refine slen rfl ?_) | refine s_nil ?_ | refine kh_normal ?_ | refine kh_exit ?_ | refine bh_exit ?_))
  refine mkz (α := SliceV) (z := .slice none 0 0) (by kernel_rfl) rfl rfl rfl rfl rfl rfl (by omega) (by omega) (by omega) (by omega) (fun bk => ?_)
  simp only [Int.toNat_natCast]
  (repeat' (first | (show VH _ _ _ _ _ _ _; first | refine v_seq ?_ | refine r_seq ?_ | refine v_block ?_) | (show SH _ _ _ _ _ (_ :: _) _ _ _; (show SH _ _ _ _ _ (⟨_, .assign _, _, _, _, _⟩ :: _) _ _ _; refine asg evL ?_)) | refine s_nil ?_ | refine kh_normal ?_))
  refine v_norm [(0,_),(5,_),(6,_)] heL (fun g => ?_)
  /- each slice is extended, an element at a time -/
  refine v_loop [(6,8),(43,72)] (fun y : Nat × (List (TwG EntP) × List SliceV) => [(6, .int .i64 y.1)]) (fun y => orow 22 (some ⟨bk, 0, none⟩) rs.length y.2.2 :: orow 22 A0 c0 sl :: (y.2.1.map (twP 31) ++ H)) (fun y => y.1 ≤ rs.length ∧ Tw (fun j l => l ++ marksG mkE j l.length 64) rs1 y.1 y.2.1 y.2.2) (fun y => rs.length - y.1) (0, (rs1.map selfT, List.replicate rs.length Flat.dflt)) hsL (ent_refl _) ⟨Nat.zero_le _, tw_start (by rw [List.length_replicate, hl1])⟩ ?_
  rintro ⟨k, ts, gl⟩ g ⟨hk, htw⟩
  simp only [sets]
  simp only at hk htw
  have htl := htw.tlen
  have hgl := htw.len
  by_cases hkn : k < rs.length
  · obtain ⟨A1, c1, l1, hr⟩ : ∃ A1 c1 l1, rs1.getD k rowD = ⟨A1, c1, l1⟩ := ⟨_, _, _, rfl⟩
    obtain ⟨hg, hlen⟩ := hsub hs1 (by omega) hr
    have hts := htw.self k (Nat.le_refl _) (by omega)
    rw [hr] at hts
    have h0 : l1 = l1 ++ marksG mkE k l1.length 0 := by rw [marksG_zero, List.append_nil]
    refine VH.ent (G := orow 22 (some ⟨bk, 0, none⟩) rs.length gl :: orow 22 A0 c0 sl :: twin 31 A1 c1 l1 A1 c1 l1 :: ((ts.eraseIdx k).map (twP 31) ++ H)) ?_ (ent_cons Split.head (ent_cons Split.head (by have := ent_map_open (f := twP 31) (d := twD) (H := H) (L := ts) (k := k) (by omega); rw [hts] at this; exact this)))
    (repeat' (first | (show VH _ _ _ _ _ _ _; first | refine v_seq ?_ | refine r_seq ?_ | refine v_block ?_ | refine v_skip ?_ | refine v_cond_t rfl tbL ?_) | (show SH _ _ _ _ _ (_ :: _) _ _ _; first | (show SH _ _ _ _ _ (⟨_, .move _, _, _, _, _⟩ :: _) _ _ _; refine mov evL ?_) | (show SH _ _ _ _ _ (⟨_, .assign _, _, _, _, _⟩ :: _) _ _ _; refine asg evL ?_) | refine lss rfl rfl ?_ | (show SH _ _ _ _ _ (⟨_, .load _ _, _, _, _, _⟩ :: _) _ _ _; refine lsl rfl (fun _ _ => rdL) omL (by assumption) ?_) | (show SH _ _ _ _ _ (⟨_, .indexAddr _ _ _, _, _, _, _⟩ :: _) _ _ _; refine ix rfl rfl (by with_reducible rfl) (fun _ _ => rdL) (by rfl) omL omL ?_) | refine slen rfl ?_) | refine s_nil ?_ | refine kh_normal ?_))
    refine v_normS [(6,8),(43,72)] _ agL [(6,_),(7,_),(8,_)] heL (fun g => ?_)
    refine v_loop [(7,8),(53,68)] (fun y : Nat × (Option Addr × Nat) => [(8, .int .i64 y.1), (7, .slice y.2.1 (l1 ++ marksG mkE k l1.length y.1).length y.2.2)]) (fun y => orow 22 (some ⟨bk, 0, none⟩) rs.length gl :: orow 22 A0 c0 sl :: twin 31 A1 c1 l1 y.2.1 y.2.2 (l1 ++ marksG mkE k l1.length y.1) :: ((ts.eraseIdx k).map (twP 31) ++ H)) (fun y => y.1 ≤ 64) (fun y => 64 - y.1) (0, (A1, c1)) ⟨rfl, congrArg (fun L : List EntP => Value.slice A1 L.length c1) h0, trivial⟩ (by rw [← h0]; exact ent_refl _) (Nat.zero_le _) ?_
    rintro ⟨i, A2, cp2⟩ g2 hi
    simp only [sets]
    simp only at hi
    have hlen2 : (l1 ++ marksG mkE k l1.length i).length = l1.length + i := by rw [List.length_append, marksG_len]
    (repeat' (first | (show VH _ _ _ _ _ _ _; first | refine v_seq ?_ | refine r_seq ?_ | refine v_block ?_ | refine v_skip ?_ | refine v_exit ?_ | refine v_cond_dec rfl (fun h => ?_) (fun h => ?_)) | (show SH _ _ _ _ _ (_ :: _) _ _ _; first | (show SH _ _ _ _ _ (⟨_, .move _, _, _, _, _⟩ :: _) _ _ _; refine mov evL ?_) | (show SH _ _ _ _ _ (⟨_, .binOp .add _ _ _ _, _, _, _, _⟩ :: _) _ _ _; refine add rfl rfl inL ?_) | refine lss rfl rfl ?_ | (show SH _ _ _ _ _ (⟨_, .load _ _, _, _, _, _⟩ :: _) _ _ _; refine lsl rfl (fun _ _ => rdL) omL (by assumption) ?_) | (show SH _ _ _ _ _ (⟨_, .indexAddr _ _ _, _, _, _, _⟩ :: _) _ _ _; refine ix rfl rfl (by with_reducible rfl) (fun _ _ => rdL) (by rfl) omL omL ?_) | refine slen rfl ?_ | (show SH _ _ _ _ _ (⟨_, .call ⟨.value (.func 50), _, _⟩, _, _, _, _⟩ :: _) _ _ _; refine cl (callee := .func 50) rfl (fun w hw => markEntity_spec _ _ w (by omega) (by omega)) rfl rfl ?_)) | refine s_nil ?_ | refine kh_normal ?_ | refine kh_exit ?_ | refine bh_exit ?_))
    · refine bsl (l := [mkE k ((l1.length : Int) + (i : Int))]) rfl rfl (Vals.cons rfl Vals.nil) rfl rfl (of_decide_eq_true rfl) (fun b9 => ?_)
      (repeat' (first | (show VH _ _ _ _ _ _ _; first | refine v_seq ?_ | refine r_seq ?_ | refine r_quiet hmix (by kernel_rfl) ?_ | refine v_block ?_ | refine v_ret ?_ | refine v_skip ?_ | refine v_exit ?_ | refine v_label ?_ | refine v_cond_t rfl tbL ?_ | refine v_cond_f rfl tbL ?_ | refine v_cond_dec rfl (fun h => ?_) (fun h => ?_) | refine v_cond_ndec rfl (fun h => ?_) (fun h => ?_) | refine v_cond rfl (fun h => ?_) (fun h => ?_)) | (show SH _ _ _ _ _ (_ :: _) _ _ _; first | (show SH _ _ _ _ _ (⟨_, _, _, _, _, some _⟩ :: _) _ _ _; first | (refine gif rfl rfl ?_; first | refine giTT tbL ?_ | refine giTF tbL ?_ | refine giFF tbL ?_ | refine giFT tbL ?_ | refine giTd (fun h => ?_) (fun h => ?_) | refine giFd (fun h => ?_) (fun h => ?_) | refine giT (fun h => ?_) (fun h => ?_) | refine giF (fun h => ?_) (fun h => ?_)) | refine gu rfl rfl ?_ | refine grT rfl rfl tbL ?_ | refine grF rfl rfl tbL ?_) | (show SH _ _ _ _ _ (⟨_, .move _, _, _, _, _⟩ :: _) _ _ _; refine mov evL ?_) | (show SH _ _ _ _ _ (⟨_, .assign _, _, _, _, _⟩ :: _) _ _ _; refine asg evL ?_) | (show SH _ _ _ _ _ (⟨_, .binOp .add _ _ _ _, _, _, _, _⟩ :: _) _ _ _; refine add rfl rfl inL ?_) | refine lss rfl rfl ?_ | (show SH _ _ _ _ _ (⟨_, .load _ _, _, _, _, _⟩ :: _) _ _ _; first | refine lsl rfl (fun _ _ => rdL) omL (by assumption) ?_ | refine lgi rfl (fun _ _ => rdY) omL (by assumption) ?_ | refine lag rfl (fun _ _ => rdY) (by rfl) omL (by assumption) ?_ | refine lrg rfl (fun _ _ => rdY) (by rfl) omL (by assumption) (by rfl) ?_ | refine lin rfl (fun _ _ => rdL) omL ?_ | refine lbx rfl spL (by rfl) ?_ | refine lba rfl spL (by rfl) ?_ | refine lbi rfl spL omL ?_ | refine lr1 rfl (fun _ _ => rdL) (by rfl) omL (by rfl) ?_ | refine lra rfl (fun _ _ => rdL) (by rfl) omL ?_ | refine lrf rfl (fun _ _ => rdL) (by rfl) omL (by rfl) ?_ | refine lcell rfl (fun w hw => hw.ext.cell (by assumption)) ?_) | (show SH _ _ _ _ _ (⟨_, .indexAddr _ _ _, _, _, _, _⟩ :: _) _ _ _; first | refine ix rfl rfl (by with_reducible rfl) (fun _ _ => rdL) (by rfl) omL omL ?_ | refine ixi rfl rfl (fun _ _ => rdL) (by rfl) omL omL omL ?_ | refine ixb rfl rfl omL ?_ | refine ixq rfl rfl (by assumption) omL omL ?_) | refine slen rfl ?_ | (show SH _ _ _ _ _ (⟨_, .pick _ _ _, _, _, _, _⟩ :: _) _ _ _; first | refine pkt rfl tbL evL ?_ | refine pkf rfl tbL evL ?_) | refine bnot rfl ?_ | (show SH _ _ _ _ _ (⟨_, .store _ _ _, _, _, _, _⟩ :: _) _ _ _; first | refine stb rfl rfl evL spL rfl rfl (by first | decide | exact Nat.zero_lt_succ _ | exact of_decide_eq_true rfl) kpL ?_ | refine sta rfl rfl rfl spL (by rfl) (by rfl) (by rfl) kpL ?_ | refine sti rfl rfl rfl spL omL kpL ?_ | refine sbi rfl rfl rfl spL omL kpL ?_) | (show SH _ _ _ _ _ (⟨_, .buildSlice _ _ _, _, _, _, _⟩ :: _) _ _ _; refine bsl (α := Int) rfl rfl (by repeat (first | exact Vals.nil | (apply Vals.cons; rfl))) rfl (by rfl) (by decide) (fun b => ?_))) | refine s_nil ?_ | refine kh_normal ?_ | refine kh_ret ?_ | refine kh_exit ?_ | refine bh_normal ?_ | refine bh_ret ?_ | refine bh_exit ?_ | refine bh_exit_ne rfl ?_))
      refine app3 rfl rfl rfl spL (fun w hw => hw.rd spL) rfl rfl rfl (by simp only [List.length_cons, List.length_nil]; omega) (by simp only [List.length_cons, List.length_nil]; omega) (fun A3 cp3 => ⟨trivial, ?_⟩)
      have hsn : l1 ++ marksG mkE k l1.length (i + 1) = (l1 ++ marksG mkE k l1.length i) ++ [mkE k ((l1.length : Int) + (i : Int))] := by rw [marksG_snoc, List.append_assoc, Int.natCast_add]
      (repeat' (first | refine r_seq ?_ | (show SH _ _ _ _ _ (_ :: _) _ _ _; first | (show SH _ _ _ _ _ (⟨_, .move _, _, _, _, _⟩ :: _) _ _ _; refine mov evL ?_) | (show SH _ _ _ _ _ (⟨_, .assign _, _, _, _, _⟩ :: _) _ _ _; refine asg evL ?_) | (show SH _ _ _ _ _ (⟨_, .binOp .add _ _ _ _, _, _, _, _⟩ :: _) _ _ _; refine add rfl rfl inL ?_)) | refine s_nil ?_ | refine kh_normal ?_ | refine bh_normal ?_))
      refine ⟨agL, (i + 1, (A3, cp3)), ⟨rfl, congrArg (fun L : List EntP => Value.slice A3 L.length cp3) hsn.symm, trivial⟩, ?_, by show i + 1 ≤ _; omega, by show _ - (i + 1) < _ - i; omega⟩
      show Ent _ (_ :: _ :: twin _ _ _ _ A3 cp3 (l1 ++ marksG mkE k l1.length (i + 1)) :: _)
      rw [hsn]
      (repeat (first | exact ent_refl _ | exact ent_nil _ | refine ent_nilrow ?_ | refine ent_cons spL ?_ | refine ent_drop ?_))
    · have hi64 : i = 64 := by omega
      subst hi64
      (repeat' (first | (show VH _ _ _ _ _ _ _; first | refine v_seq ?_ | refine r_seq ?_ | refine r_quiet hmix (by kernel_rfl) ?_ | refine v_block ?_ | refine v_ret ?_ | refine v_skip ?_ | refine v_exit ?_ | refine v_label ?_ | refine v_cond_t rfl tbL ?_ | refine v_cond_f rfl tbL ?_ | refine v_cond_dec rfl (fun h => ?_) (fun h => ?_) | refine v_cond_ndec rfl (fun h => ?_) (fun h => ?_) | refine v_cond rfl (fun h => ?_) (fun h => ?_)) | (show SH _ _ _ _ _ (_ :: _) _ _ _; first | (show SH _ _ _ _ _ (⟨_, _, _, _, _, some _⟩ :: _) _ _ _; first | (refine gif rfl rfl ?_; first | refine giTT tbL ?_ | refine giTF tbL ?_ | refine giFF tbL ?_ | refine giFT tbL ?_ | refine giTd (fun h => ?_) (fun h => ?_) | refine giFd (fun h => ?_) (fun h => ?_) | refine giT (fun h => ?_) (fun h => ?_) | refine giF (fun h => ?_) (fun h => ?_)) | refine gu rfl rfl ?_ | refine grT rfl rfl tbL ?_ | refine grF rfl rfl tbL ?_) | (show SH _ _ _ _ _ (⟨_, .move _, _, _, _, _⟩ :: _) _ _ _; refine mov evL ?_) | (show SH _ _ _ _ _ (⟨_, .assign _, _, _, _, _⟩ :: _) _ _ _; refine asg evL ?_) | (show SH _ _ _ _ _ (⟨_, .binOp .add _ _ _ _, _, _, _, _⟩ :: _) _ _ _; refine add rfl rfl inL ?_) | refine lss rfl rfl ?_ | (show SH _ _ _ _ _ (⟨_, .load _ _, _, _, _, _⟩ :: _) _ _ _; first | refine lsl rfl (fun _ _ => rdL) omL (by assumption) ?_ | refine lgi rfl (fun _ _ => rdY) omL (by assumption) ?_ | refine lag rfl (fun _ _ => rdY) (by rfl) omL (by assumption) ?_ | refine lrg rfl (fun _ _ => rdY) (by rfl) omL (by assumption) (by rfl) ?_ | refine lin rfl (fun _ _ => rdL) omL ?_ | refine lbx rfl spL (by rfl) ?_ | refine lba rfl spL (by rfl) ?_ | refine lbi rfl spL omL ?_ | refine lr1 rfl (fun _ _ => rdL) (by rfl) omL (by rfl) ?_ | refine lra rfl (fun _ _ => rdL) (by rfl) omL ?_ | refine lrf rfl (fun _ _ => rdL) (by rfl) omL (by rfl) ?_ | refine lcell rfl (fun w hw => hw.ext.cell (by assumption)) ?_) | (show SH _ _ _ _ _ (⟨_, .indexAddr _ _ _, _, _, _, _⟩ :: _) _ _ _; first | refine ix rfl rfl (by with_reducible rfl) (fun _ _ => rdL) (by rfl) omL omL ?_ | refine ixi rfl rfl (fun _ _ => rdL) (by rfl) omL omL omL ?_ | refine ixb rfl rfl omL ?_ | refine ixq rfl rfl (by assumption) omL omL ?_) | refine slen rfl ?_ | (show SH _ _ _ _ _ (⟨_, .pick _ _ _, _, _, _, _⟩ :: _) _ _ _; first | refine pkt rfl tbL evL ?_ | refine pkf rfl tbL evL ?_) | refine bnot rfl ?_ | (show SH _ _ _ _ _ (⟨_, .store _ _ _, _, _, _, _⟩ :: _) _ _ _; first | refine stb rfl rfl evL spL rfl rfl (by first | decide | exact Nat.zero_lt_succ _ | exact of_decide_eq_true rfl) kpL ?_ | refine sta rfl rfl rfl spL (by rfl) (by rfl) (by rfl) kpL ?_ | refine sti rfl rfl rfl spL omL kpL ?_ | refine sbi rfl rfl rfl spL omL kpL ?_) | (show SH _ _ _ _ _ (⟨_, .buildSlice _ _ _, _, _, _, _⟩ :: _) _ _ _; refine bsl (α := Int) rfl rfl (by repeat (first | exact Vals.nil | (apply Vals.cons; rfl))) rfl (by rfl) (by decide) (fun b => ?_))) | refine s_nil ?_ | refine kh_normal ?_ | refine kh_ret ?_ | refine kh_exit ?_ | refine bh_normal ?_ | refine bh_ret ?_ | refine bh_exit ?_ | refine bh_exit_ne rfl ?_))
      refine st1 (α := SliceV) ⟨A2, (l1 ++ marksG mkE k l1.length 64).length, cp2⟩ rfl rfl rfl spL rfl (by omega) rfl rfl rfl trivial ?_
      (repeat' (first | refine r_seq ?_ | (show SH _ _ _ _ _ (_ :: _) _ _ _; first | (show SH _ _ _ _ _ (⟨_, .move _, _, _, _, _⟩ :: _) _ _ _; refine mov evL ?_) | (show SH _ _ _ _ _ (⟨_, .assign _, _, _, _, _⟩ :: _) _ _ _; refine asg evL ?_) | (show SH _ _ _ _ _ (⟨_, .binOp .add _ _ _ _, _, _, _, _⟩ :: _) _ _ _; refine add rfl rfl inL ?_)) | refine s_nil ?_ | refine kh_normal ?_ | refine bh_normal ?_))
      exact ⟨agL, (k + 1, (ts.set k ⟨A1, c1, l1, A2, cp2, l1 ++ marksG mkE k l1.length 64⟩, gl.set k ⟨A2, (l1 ++ marksG mkE k l1.length 64).length, cp2⟩)), hsL, ent_cons Split.head (ent_cons Split.head (ent_map_close (f := twP 31) (x := ⟨A1, c1, l1, A2, cp2, l1 ++ marksG mkE k l1.length 64⟩) (by omega))), ⟨by show k + 1 ≤ _; omega, htw.step (by omega) hr rfl⟩, by show _ - (k + 1) < _ - k; omega⟩
  have hke : k = rs.length := by omega
  subst hke
  have hdone := htw.done
  have hbase : ∀ {j A1 c1 l1 A2 c2 L}, j < rs.length → ts.getD j twD = ⟨A1, c1, l1, A2, c2, L⟩ → rs1.getD j rowD = ⟨A1, c1, l1⟩ := fun {j A1 c1 l1 A2 c2 L} h1 h2 => by
    rw [← htw.base, getD_map' (d := twD) (by omega), h2]; rfl
  (repeat' (first | (show VH _ _ _ _ _ _ _; first | refine v_seq ?_ | refine r_seq ?_ | refine v_block ?_ | refine v_exit ?_ | refine v_cond_f rfl tbL ?_) | (show SH _ _ _ _ _ (_ :: _) _ _ _; first | (show SH _ _ _ _ _ (⟨_, .move _, _, _, _, _⟩ :: _) _ _ _; refine mov evL ?_) | (show SH _ _ _ _ _ (⟨_, .assign _, _, _, _, _⟩ :: _) _ _ _; refine asg evL ?_) | refine lss rfl rfl ?_ | refine slen rfl ?_) | refine s_nil ?_ | refine kh_normal ?_ | refine kh_exit ?_ | refine bh_exit ?_))
  refine v_norm [(0,_),(5,_),(9,_)] heL (fun g => ?_)
  /- all are read -/
  refine v_loop0 [(2,2),(9,10),(73,122)] (fun k : Nat => [(9, .int .i64 k)]) (fun k => k ≤ rs.length) (fun k => rs.length - k) 0 hsL (Nat.zero_le _) ?_
  rintro k g hk
  simp only [sets]
  by_cases hkn : k < rs.length
  · obtain ⟨A1, c1, l1, A2, c2, L, ht⟩ : ∃ A1 c1 l1 A2 c2 L, ts.getD k twD = ⟨A1, c1, l1, A2, c2, L⟩ := ⟨_, _, _, _, _, _, rfl⟩
    have hr := hbase hkn ht
    obtain ⟨hg, hlen⟩ := hsub hs1 (by omega) hr
    obtain ⟨hg2, hL⟩ := hdone k hkn
    rw [ht] at hg2 hL
    simp only at hg2 hL
    have hmk1 := hmk hkn hr
    have hL2 : L = marksG mkE k 0 (l1.length + 64) := by rw [hL, ← marksG_add]; congr 1
    have hLn : L.length = l1.length + 64 := by rw [hL2, marksG_len]
    have hv1 : ∀ i, i < L.length → L.getD i Flat.dflt = mkE k i := fun i hi => by rw [hL2, marksG_get _ _ (by omega), Nat.zero_add]
    have hv2 : ∀ i, i < l1.length → l1.getD i Flat.dflt = mkE k i := fun i hi => by rw [hmk1, marksG_get _ _ hi, Nat.zero_add]
    refine VH.ent (G := orow 22 (some ⟨bk, 0, none⟩) rs.length gl :: orow 22 A0 c0 sl :: twin 31 A1 c1 l1 A2 c2 L :: ((ts.eraseIdx k).map (twP 31) ++ H)) ?_ (ent_cons Split.head (ent_cons Split.head (by have := ent_map_open (f := twP 31) (d := twD) (H := H) (L := ts) (k := k) (by omega); rw [ht] at this; exact this)))
    clear hL hL2 hmk1
    (repeat' (first | (show VH _ _ _ _ _ _ _; first | refine v_seq ?_ | refine r_seq ?_ | refine v_block ?_ | refine v_skip ?_ | refine v_cond_t rfl tbL ?_) | (show SH _ _ _ _ _ (_ :: _) _ _ _; first | (show SH _ _ _ _ _ (⟨_, .move _, _, _, _, _⟩ :: _) _ _ _; refine mov evL ?_) | (show SH _ _ _ _ _ (⟨_, .assign _, _, _, _, _⟩ :: _) _ _ _; refine asg evL ?_) | refine lss rfl rfl ?_ | refine slen rfl ?_) | refine s_nil ?_ | refine kh_normal ?_))
    refine v_normS [(2,2),(9,10),(73,122)] _ agL [(9,_),(10,_)] heL (fun g => ?_)
    refine v_loop0 [(2,2),(10,10),(79,122)] (fun i : Nat => [(10, .int .i64 i)]) (fun i => i ≤ L.length) (fun i => L.length - i) 0 hsL (Nat.zero_le _) ?_
    rintro i g2 hi
    simp only [sets]
    by_cases hil : i < L.length
    · have e1 := hv1 i hil
      by_cases hi1 : i < l1.length
      · have e2 := hv2 i hi1
        have hq := fun w => markEntity_spec k i w (by omega) (by omega)
        have hs := fun w => sameMarkE k i w
        generalize mkE k i = q at e1 hq e2 hs
        have f1 : Flat.enc (L.getD i Flat.dflt) = Flat.enc q := by rw [e1]
        have f2 : Flat.enc (l1.getD i Flat.dflt) = Flat.enc q := by rw [e2]
        clear hv1 hv2 e1 e2
        (repeat' (first | (show VH _ _ _ _ _ _ _; first | refine v_seq ?_ | refine r_seq ?_ | refine r_quiet hmix (by kernel_rfl) ?_ | refine v_block ?_ | refine v_skip ?_ | refine v_cond_t rfl tbL ?_ | refine v_cond_f rfl tbL ?_) | (show SH _ _ _ _ _ (_ :: _) _ _ _; first | (show SH _ _ _ _ _ (⟨_, _, _, _, _, some _⟩ :: _) _ _ _; (refine gif rfl rfl ?_; first | refine giTT tbL ?_ | refine giFF tbL ?_)) | (show SH _ _ _ _ _ (⟨_, .move _, _, _, _, _⟩ :: _) _ _ _; refine mov evL ?_) | (show SH _ _ _ _ _ (⟨_, .assign _, _, _, _, _⟩ :: _) _ _ _; refine asg evL ?_) | (show SH _ _ _ _ _ (⟨_, .binOp .add _ _ _ _, _, _, _, _⟩ :: _) _ _ _; refine add rfl rfl inL ?_) | refine lss rfl rfl ?_ | (show SH _ _ _ _ _ (⟨_, .load _ _, _, _, _, _⟩ :: _) _ _ _; first | refine lsl rfl (fun _ _ => rdL) omL (by assumption) ?_ | refine lag rfl (fun _ _ => rdY) (by rfl) omL (by assumption) ?_) | (show SH _ _ _ _ _ (⟨_, .indexAddr _ _ _, _, _, _, _⟩ :: _) _ _ _; refine ix rfl rfl (by with_reducible rfl) (fun _ _ => rdL) (by rfl) omL omL ?_) | refine slen rfl ?_ | (show SH _ _ _ _ _ (⟨_, .call ⟨.value (.func 50), _, _⟩, _, _, _, _⟩ :: _) _ _ _; refine cl (callee := .func 50) rfl (fun w hw => hq w) rfl rfl ?_) | (show SH _ _ _ _ _ (⟨_, .call ⟨.value (.func 68), _, _⟩, _, _, _, _⟩ :: _) _ _ _; refine cl (callee := .func 68) rfl (fun w hw => hs w) rfl rfl ?_) | (show SH _ _ _ _ _ (⟨_, .pick _ _ _, _, _, _, _⟩ :: _) _ _ _; first | refine pkt rfl tbL evL ?_ | refine pkf rfl tbL evL ?_) | refine bnot rfl ?_) | refine s_nil ?_ | refine kh_normal ?_ | refine bh_normal ?_))
        exact ⟨agL, i + 1, hsL, enL, by omega, by omega⟩
      · have hq := fun w => markEntity_spec k i w (by omega) (by omega)
        have hs := fun w => sameMarkE k i w
        generalize mkE k i = q at e1 hq hs
        have f1 : Flat.enc (L.getD i Flat.dflt) = Flat.enc q := by rw [e1]
        clear hv1 hv2 e1
        (repeat' (first | (show VH _ _ _ _ _ _ _; first | refine v_seq ?_ | refine r_seq ?_ | refine r_quiet hmix (by kernel_rfl) ?_ | refine v_block ?_ | refine v_skip ?_ | refine v_cond_t rfl tbL ?_ | refine v_cond_f rfl tbL ?_) | (show SH _ _ _ _ _ (_ :: _) _ _ _; first | (show SH _ _ _ _ _ (⟨_, _, _, _, _, some _⟩ :: _) _ _ _; (refine gif rfl rfl ?_; first | refine giTF tbL ?_ | refine giFF tbL ?_)) | (show SH _ _ _ _ _ (⟨_, .move _, _, _, _, _⟩ :: _) _ _ _; refine mov evL ?_) | (show SH _ _ _ _ _ (⟨_, .assign _, _, _, _, _⟩ :: _) _ _ _; refine asg evL ?_) | (show SH _ _ _ _ _ (⟨_, .binOp .add _ _ _ _, _, _, _, _⟩ :: _) _ _ _; refine add rfl rfl inL ?_) | refine lss rfl rfl ?_ | (show SH _ _ _ _ _ (⟨_, .load _ _, _, _, _, _⟩ :: _) _ _ _; first | refine lsl rfl (fun _ _ => rdL) omL (by assumption) ?_ | refine lag rfl (fun _ _ => rdY) (by rfl) omL (by assumption) ?_) | (show SH _ _ _ _ _ (⟨_, .indexAddr _ _ _, _, _, _, _⟩ :: _) _ _ _; refine ix rfl rfl (by with_reducible rfl) (fun _ _ => rdL) (by rfl) omL omL ?_) | refine slen rfl ?_ | (show SH _ _ _ _ _ (⟨_, .call ⟨.value (.func 50), _, _⟩, _, _, _, _⟩ :: _) _ _ _; refine cl (callee := .func 50) rfl (fun w hw => hq w) rfl rfl ?_) | (show SH _ _ _ _ _ (⟨_, .call ⟨.value (.func 68), _, _⟩, _, _, _, _⟩ :: _) _ _ _; refine cl (callee := .func 68) rfl (fun w hw => hs w) rfl rfl ?_) | (show SH _ _ _ _ _ (⟨_, .pick _ _ _, _, _, _, _⟩ :: _) _ _ _; refine pkf rfl tbL evL ?_) | refine bnot rfl ?_) | refine s_nil ?_ | refine kh_normal ?_ | refine bh_normal ?_))
        exact ⟨agL, i + 1, hsL, enL, by omega, by omega⟩
    · (repeat' (first | (show VH _ _ _ _ _ _ _; first | refine v_seq ?_ | refine r_seq ?_ | refine v_exit ?_ | refine v_cond_f rfl tbL ?_) | (show SH _ _ _ _ _ (_ :: _) _ _ _; first | (show SH _ _ _ _ _ (⟨_, .move _, _, _, _, _⟩ :: _) _ _ _; refine mov evL ?_) | (show SH _ _ _ _ _ (⟨_, .assign _, _, _, _, _⟩ :: _) _ _ _; refine asg evL ?_) | (show SH _ _ _ _ _ (⟨_, .binOp .add _ _ _ _, _, _, _, _⟩ :: _) _ _ _; refine add rfl rfl inL ?_) | refine lss rfl rfl ?_ | (show SH _ _ _ _ _ (⟨_, .load _ _, _, _, _, _⟩ :: _) _ _ _; refine lsl rfl (fun _ _ => rdL) omL (by assumption) ?_) | (show SH _ _ _ _ _ (⟨_, .indexAddr _ _ _, _, _, _, _⟩ :: _) _ _ _; refine ix rfl rfl (by with_reducible rfl) (fun _ _ => rdL) (by rfl) omL omL ?_) | refine slen rfl ?_) | refine s_nil ?_ | refine kh_normal ?_ | refine kh_exit ?_ | refine bh_normal ?_ | refine bh_exit ?_))
      exact ⟨agL, k + 1, hsL, ent_cons Split.head (ent_cons Split.head (by have := ent_map_back (f := twP 31) (d := twD) (H := H) (L := ts) (k := k) (by omega); rw [ht] at this; exact this)), by omega, by omega⟩
  have hke : k = rs.length := by omega
  subst hke
  refine VH.ent (G := orow 22 (some ⟨bk, 0, none⟩) rs.length gl :: orow 22 A0 c0 sl :: ((rs1.map selfT).map (twP 31) ++ H)) ?_ (ent_cons Split.head (ent_cons Split.head (by have := ent_tw_selfs (e := 31) (H := H) ts; rw [htw.base] at this; exact this)))
  (repeat' (first | (show VH _ _ _ _ _ _ _; first | refine v_seq ?_ | refine r_seq ?_ | refine v_block ?_ | refine v_exit ?_ | refine v_cond_f rfl tbL ?_) | (show SH _ _ _ _ _ (_ :: _) _ _ _; first | (show SH _ _ _ _ _ (⟨_, .move _, _, _, _, _⟩ :: _) _ _ _; refine mov evL ?_) | (show SH _ _ _ _ _ (⟨_, .assign _, _, _, _, _⟩ :: _) _ _ _; refine asg evL ?_) | refine lss rfl rfl ?_ | refine slen rfl ?_) | refine s_nil ?_ | refine kh_normal ?_ | refine kh_exit ?_ | refine bh_exit ?_))
  refine v_norm [(0,_),(5,_),(11,_)] heL (fun g => ?_)
  clear hdone hbase htw
  /- each slice is extended by many at once -/
  refine v_loop [(11,13),(123,151)] (fun y : Nat × (List (TwG EntP) × List SliceV) => [(11, .int .i64 y.1)]) (fun y => orow 22 (some ⟨bk, 0, none⟩) rs.length y.2.2 :: orow 22 A0 c0 sl :: (y.2.1.map (twP 31) ++ H)) (fun y => y.1 ≤ rs.length ∧ Tw (fun j l => l ++ marksG mkE ((j : Int) + (rs.length : Int)) 0 64) rs1 y.1 y.2.1 y.2.2) (fun y => rs.length - y.1) (0, (rs1.map selfT, gl)) hsL (ent_refl _) ⟨Nat.zero_le _, tw_start hgl⟩ ?_
  rintro ⟨k, ts, gl⟩ g ⟨hk, htw⟩
  simp only [sets]
  simp only at hk htw
  have htl := htw.tlen
  have hgl := htw.len
  by_cases hkn : k < rs.length
  · obtain ⟨A1, c1, l1, hr⟩ : ∃ A1 c1 l1, rs1.getD k rowD = ⟨A1, c1, l1⟩ := ⟨_, _, _, rfl⟩
    obtain ⟨hg, hlen⟩ := hsub hs1 (by omega) hr
    have hts := htw.self k (Nat.le_refl _) (by omega)
    rw [hr] at hts
    refine VH.ent (G := orow 22 (some ⟨bk, 0, none⟩) rs.length gl :: orow 22 A0 c0 sl :: twin 31 A1 c1 l1 A1 c1 l1 :: ((ts.eraseIdx k).map (twP 31) ++ H)) ?_ (ent_cons Split.head (ent_cons Split.head (by have := ent_map_open (f := twP 31) (d := twD) (H := H) (L := ts) (k := k) (by omega); rw [hts] at this; exact this)))
    (repeat' (first | (show VH _ _ _ _ _ _ _; first | refine v_seq ?_ | refine r_seq ?_ | refine v_block ?_ | refine v_skip ?_ | refine v_cond_t rfl tbL ?_) | (show SH _ _ _ _ _ (_ :: _) _ _ _; first | (show SH _ _ _ _ _ (⟨_, .move _, _, _, _, _⟩ :: _) _ _ _; refine mov evL ?_) | refine lss rfl rfl ?_ | refine slen rfl ?_) | refine s_nil ?_ | refine kh_normal ?_))
    refine mkzA (α := EntP) (z := .agg #[.int .i64 0, .slice none 0 0]) (by kernel_rfl) rfl rfl rfl rfl rfl (by omega) (by omega) (by omega) (by omega) (fun bm => ?_)
    simp only [show (64 : Int).toNat = 64 from rfl]
    (repeat' (first | (show VH _ _ _ _ _ _ _; first | refine v_seq ?_ | refine r_seq ?_ | refine v_block ?_) | (show SH _ _ _ _ _ (_ :: _) _ _ _; (show SH _ _ _ _ _ (⟨_, .assign _, _, _, _, _⟩ :: _) _ _ _; refine asg evL ?_)) | refine s_nil ?_ | refine kh_normal ?_))
    refine v_normS [(11,13),(123,151)] _ agL [(11,_),(12,_),(13,_)] heL (fun g => ?_)
    refine v_loop [(13,13),(130,142)] (fun y : Nat × List EntP => [(13, .int .i64 y.1)]) (fun y => orow 31 (some ⟨bm, 0, none⟩) 64 y.2 :: orow 22 (some ⟨bk, 0, none⟩) rs.length gl :: orow 22 A0 c0 sl :: twin 31 A1 c1 l1 A1 c1 l1 :: ((ts.eraseIdx k).map (twP 31) ++ H)) (fun y => y.1 ≤ 64 ∧ y.2.length = 64 ∧ y.2.take y.1 = marksG mkE ((k : Int) + (rs.length : Int)) 0 y.1) (fun y => 64 - y.1) (0, List.replicate 64 (Flat.dflt : EntP)) hsL (ent_refl _) ⟨Nat.zero_le _, List.length_replicate, rfl⟩ ?_
    rintro ⟨i, ml⟩ g2 ⟨hi, h2, ht2⟩
    simp only [sets]
    simp only at hi h2 ht2
    (repeat' (first | (show VH _ _ _ _ _ _ _; first | refine v_seq ?_ | refine r_seq ?_ | refine v_block ?_ | refine v_skip ?_ | refine v_exit ?_ | refine v_cond_dec rfl (fun h => ?_) (fun h => ?_)) | (show SH _ _ _ _ _ (_ :: _) _ _ _; first | (show SH _ _ _ _ _ (⟨_, .move _, _, _, _, _⟩ :: _) _ _ _; refine mov evL ?_) | (show SH _ _ _ _ _ (⟨_, .binOp .add _ _ _ _, _, _, _, _⟩ :: _) _ _ _; refine add rfl rfl inL ?_) | refine lss rfl rfl ?_ | (show SH _ _ _ _ _ (⟨_, .load _ _, _, _, _, _⟩ :: _) _ _ _; refine lsl rfl (fun _ _ => rdL) omL (by assumption) ?_) | (show SH _ _ _ _ _ (⟨_, .indexAddr _ _ _, _, _, _, _⟩ :: _) _ _ _; refine ix rfl rfl (by with_reducible rfl) (fun _ _ => rdL) (by rfl) omL omL ?_) | refine slen rfl ?_ | (show SH _ _ _ _ _ (⟨_, .call ⟨.value (.func 50), _, _⟩, _, _, _, _⟩ :: _) _ _ _; refine cl (callee := .func 50) rfl (fun w hw => markEntity_spec _ _ w (by omega) (by omega)) rfl rfl ?_)) | refine s_nil ?_ | refine kh_normal ?_ | refine kh_exit ?_ | refine bh_exit ?_))
    · refine stv (i := i) (l := ml) (A := some ⟨bm, 0, none⟩) (mkE ((k : Int) + (rs.length : Int)) i) rfl rfl rfl spL rfl (by omega) rfl trivial ?_
      (repeat' (first | refine r_seq ?_ | (show SH _ _ _ _ _ (_ :: _) _ _ _; first | (show SH _ _ _ _ _ (⟨_, .move _, _, _, _, _⟩ :: _) _ _ _; refine mov evL ?_) | (show SH _ _ _ _ _ (⟨_, .assign _, _, _, _, _⟩ :: _) _ _ _; refine asg evL ?_) | (show SH _ _ _ _ _ (⟨_, .binOp .add _ _ _ _, _, _, _, _⟩ :: _) _ _ _; refine add rfl rfl inL ?_)) | refine s_nil ?_ | refine kh_normal ?_ | refine bh_normal ?_))
      refine ⟨agL, (i + 1, ml.set i (mkE ((k : Int) + (rs.length : Int)) i)), hsL, enL, ⟨by show i + 1 ≤ _; omega, by show (ml.set i _).length = _; rw [List.length_set]; exact h2, ?_⟩, by show _ - (i + 1) < _ - i; omega⟩
      show (ml.set i (mkE ((k : Int) + (rs.length : Int)) i)).take (i + 1) = _
      rw [take_set_snoc _ _ _ (by omega), ht2, marksG_snoc, Nat.zero_add]
    · have hi64 : i = 64 := by omega
      subst hi64
      rw [List.take_of_length_le (by omega)] at ht2
      subst ht2
      refine app3 rfl rfl rfl spL (fun w hw => hw.rd spL) rfl rfl (by rw [marksG_len]) (by rw [marksG_len]; omega) (by rw [marksG_len]; omega) (fun A2 cp2 => ⟨trivial, ?_⟩)
      (repeat' ((show SH _ _ _ _ _ (_ :: _) _ _ _; (show SH _ _ _ _ _ (⟨_, .indexAddr _ _ _, _, _, _, _⟩ :: _) _ _ _; refine ix rfl rfl (by with_reducible rfl) (fun _ _ => rdL) (by rfl) omL omL ?_))))
      refine st1 (α := SliceV) ⟨A2, (l1 ++ marksG mkE ((k : Int) + (rs.length : Int)) 0 64).length, cp2⟩ rfl rfl rfl spL rfl (by omega) rfl rfl rfl trivial ?_
      (repeat' (first | refine r_seq ?_ | (show SH _ _ _ _ _ (_ :: _) _ _ _; first | (show SH _ _ _ _ _ (⟨_, .move _, _, _, _, _⟩ :: _) _ _ _; refine mov evL ?_) | (show SH _ _ _ _ _ (⟨_, .assign _, _, _, _, _⟩ :: _) _ _ _; refine asg evL ?_) | (show SH _ _ _ _ _ (⟨_, .binOp .add _ _ _ _, _, _, _, _⟩ :: _) _ _ _; refine add rfl rfl inL ?_)) | refine s_nil ?_ | refine kh_normal ?_ | refine bh_normal ?_))
      exact ⟨agL, (k + 1, (ts.set k ⟨A1, c1, l1, A2, cp2, l1 ++ marksG mkE ((k : Int) + (rs.length : Int)) 0 64⟩, gl.set k ⟨A2, (l1 ++ marksG mkE ((k : Int) + (rs.length : Int)) 0 64).length, cp2⟩)), hsL, ent_cons spL (ent_cons spL ((ent_cons Split.head (ent_drop (ent_refl _))).trans (ent_map_close (f := twP 31) (x := ⟨A1, c1, l1, A2, cp2, l1 ++ marksG mkE ((k : Int) + (rs.length : Int)) 0 64⟩) (by omega)))), ⟨by show k + 1 ≤ _; omega, htw.step (by omega) hr rfl⟩, by show _ - (k + 1) < _ - k; omega⟩
  have hke : k = rs.length := by omega
  subst hke
  have hdone := htw.done
  have hbase : ∀ {j A1 c1 l1 A2 c2 L}, j < rs.length → ts.getD j twD = ⟨A1, c1, l1, A2, c2, L⟩ → rs1.getD j rowD = ⟨A1, c1, l1⟩ := fun {j A1 c1 l1 A2 c2 L} h1 h2 => by
    rw [← htw.base, getD_map' (d := twD) (by omega), h2]; rfl
  (repeat' (first | (show VH _ _ _ _ _ _ _; first | refine v_seq ?_ | refine r_seq ?_ | refine v_block ?_ | refine v_exit ?_ | refine v_cond_f rfl tbL ?_) | (show SH _ _ _ _ _ (_ :: _) _ _ _; first | (show SH _ _ _ _ _ (⟨_, .move _, _, _, _, _⟩ :: _) _ _ _; refine mov evL ?_) | (show SH _ _ _ _ _ (⟨_, .assign _, _, _, _, _⟩ :: _) _ _ _; refine asg evL ?_) | refine lss rfl rfl ?_ | refine slen rfl ?_) | refine s_nil ?_ | refine kh_normal ?_ | refine kh_exit ?_ | refine bh_exit ?_))
  refine v_norm [(0,_),(5,_),(14,_)] heL (fun g => ?_)
  refine v_loop0 [(2,2),(14,15),(152,192)] (fun k : Nat => [(14, .int .i64 k)]) (fun k => k ≤ rs.length) (fun k => rs.length - k) 0 hsL (Nat.zero_le _) ?_
  rintro k g hk
  simp only [sets]
  by_cases hkn : k < rs.length
  · obtain ⟨A1, c1, l1, A2, c2, L, ht⟩ : ∃ A1 c1 l1 A2 c2 L, ts.getD k twD = ⟨A1, c1, l1, A2, c2, L⟩ := ⟨_, _, _, _, _, _, rfl⟩
    have hr := hbase hkn ht
    obtain ⟨hg, hlen⟩ := hsub hs1 (by omega) hr
    obtain ⟨hg2, hL⟩ := hdone k hkn
    rw [ht] at hg2 hL
    simp only at hg2 hL
    have hmk1 := hmk hkn hr
    have hLn : L.length = l1.length + 64 := by rw [hL, List.length_append, marksG_len]
    have hv2 : ∀ i, i < l1.length → l1.getD i Flat.dflt = mkE k i := fun i hi => by rw [hmk1, marksG_get _ _ hi, Nat.zero_add]
    have hv1 : ∀ i, i < l1.length → L.getD i Flat.dflt = mkE k i := fun i hi => by
      rw [← hv2 i hi, hL]; simp [List.getD_eq_getElem?_getD, List.getElem?_append_left hi]
    refine VH.ent (G := orow 22 (some ⟨bk, 0, none⟩) rs.length gl :: orow 22 A0 c0 sl :: twin 31 A1 c1 l1 A2 c2 L :: ((ts.eraseIdx k).map (twP 31) ++ H)) ?_ (ent_cons Split.head (ent_cons Split.head (by have := ent_map_open (f := twP 31) (d := twD) (H := H) (L := ts) (k := k) (by omega); rw [ht] at this; exact this)))
    clear hL hmk1
    (repeat' (first | (show VH _ _ _ _ _ _ _; first | refine v_seq ?_ | refine r_seq ?_ | refine v_block ?_ | refine v_skip ?_ | refine v_cond_t rfl tbL ?_) | (show SH _ _ _ _ _ (_ :: _) _ _ _; first | (show SH _ _ _ _ _ (⟨_, .move _, _, _, _, _⟩ :: _) _ _ _; refine mov evL ?_) | (show SH _ _ _ _ _ (⟨_, .assign _, _, _, _, _⟩ :: _) _ _ _; refine asg evL ?_) | refine lss rfl rfl ?_ | refine slen rfl ?_) | refine s_nil ?_ | refine kh_normal ?_))
    refine v_normS [(2,2),(14,15),(152,192)] _ agL [(14,_),(15,_)] heL (fun g => ?_)
    refine v_loop0 [(2,2),(15,15),(158,192)] (fun i : Nat => [(15, .int .i64 i)]) (fun i => i ≤ l1.length) (fun i => l1.length - i) 0 hsL (Nat.zero_le _) ?_
    rintro i g2 hi
    simp only [sets]
    by_cases hil : i < l1.length
    · have e1 := hv1 i hil
      have e2 := hv2 i hil
      have hq := fun w => markEntity_spec k i w (by omega) (by omega)
      have hs := fun w => sameMarkE k i w
      generalize mkE k i = q at e1 hq e2 hs
      have f1 : Flat.enc (L.getD i Flat.dflt) = Flat.enc q := by rw [e1]
      have f2 : Flat.enc (l1.getD i Flat.dflt) = Flat.enc q := by rw [e2]
      clear hv1 hv2 e1 e2
      (repeat' (first | (show VH _ _ _ _ _ _ _; first | refine v_seq ?_ | refine r_seq ?_ | refine r_quiet hmix (by kernel_rfl) ?_ | refine v_block ?_ | refine v_skip ?_ | refine v_cond_t rfl tbL ?_ | refine v_cond_f rfl tbL ?_) | (show SH _ _ _ _ _ (_ :: _) _ _ _; first | (show SH _ _ _ _ _ (⟨_, _, _, _, _, some _⟩ :: _) _ _ _; (refine gif rfl rfl ?_; refine giFF tbL ?_)) | (show SH _ _ _ _ _ (⟨_, .move _, _, _, _, _⟩ :: _) _ _ _; refine mov evL ?_) | (show SH _ _ _ _ _ (⟨_, .assign _, _, _, _, _⟩ :: _) _ _ _; refine asg evL ?_) | (show SH _ _ _ _ _ (⟨_, .binOp .add _ _ _ _, _, _, _, _⟩ :: _) _ _ _; refine add rfl rfl inL ?_) | refine lss rfl rfl ?_ | (show SH _ _ _ _ _ (⟨_, .load _ _, _, _, _, _⟩ :: _) _ _ _; first | refine lsl rfl (fun _ _ => rdL) omL (by assumption) ?_ | refine lag rfl (fun _ _ => rdY) (by rfl) omL (by assumption) ?_) | (show SH _ _ _ _ _ (⟨_, .indexAddr _ _ _, _, _, _, _⟩ :: _) _ _ _; refine ix rfl rfl (by with_reducible rfl) (fun _ _ => rdL) (by rfl) omL omL ?_) | refine slen rfl ?_ | (show SH _ _ _ _ _ (⟨_, .call ⟨.value (.func 50), _, _⟩, _, _, _, _⟩ :: _) _ _ _; refine cl (callee := .func 50) rfl (fun w hw => hq w) rfl rfl ?_) | (show SH _ _ _ _ _ (⟨_, .call ⟨.value (.func 68), _, _⟩, _, _, _, _⟩ :: _) _ _ _; refine cl (callee := .func 68) rfl (fun w hw => hs w) rfl rfl ?_) | (show SH _ _ _ _ _ (⟨_, .pick _ _ _, _, _, _, _⟩ :: _) _ _ _; refine pkf rfl tbL evL ?_) | refine bnot rfl ?_) | refine s_nil ?_ | refine kh_normal ?_ | refine bh_normal ?_))
      exact ⟨agL, i + 1, hsL, enL, by omega, by omega⟩
    · (repeat' (first | (show VH _ _ _ _ _ _ _; first | refine v_seq ?_ | refine r_seq ?_ | refine v_exit ?_ | refine v_cond_f rfl tbL ?_) | (show SH _ _ _ _ _ (_ :: _) _ _ _; first | (show SH _ _ _ _ _ (⟨_, .move _, _, _, _, _⟩ :: _) _ _ _; refine mov evL ?_) | (show SH _ _ _ _ _ (⟨_, .assign _, _, _, _, _⟩ :: _) _ _ _; refine asg evL ?_) | (show SH _ _ _ _ _ (⟨_, .binOp .add _ _ _ _, _, _, _, _⟩ :: _) _ _ _; refine add rfl rfl inL ?_) | refine lss rfl rfl ?_ | (show SH _ _ _ _ _ (⟨_, .load _ _, _, _, _, _⟩ :: _) _ _ _; refine lsl rfl (fun _ _ => rdL) omL (by assumption) ?_) | (show SH _ _ _ _ _ (⟨_, .indexAddr _ _ _, _, _, _, _⟩ :: _) _ _ _; refine ix rfl rfl (by with_reducible rfl) (fun _ _ => rdL) (by rfl) omL omL ?_) | refine slen rfl ?_) | refine s_nil ?_ | refine kh_normal ?_ | refine kh_exit ?_ | refine bh_normal ?_ | refine bh_exit ?_))
      exact ⟨agL, k + 1, hsL, ent_cons Split.head (ent_cons Split.head (by have := ent_map_back (f := twP 31) (d := twD) (H := H) (L := ts) (k := k) (by omega); rw [ht] at this; exact this)), by omega, by omega⟩
  · (repeat' (first | (show VH _ _ _ _ _ _ _; first | refine v_seq ?_ | refine r_seq ?_ | refine v_ret ?_ | refine v_exit ?_ | refine v_cond_f rfl tbL ?_) | (show SH _ _ _ _ _ (_ :: _) _ _ _; first | (show SH _ _ _ _ _ (⟨_, .move _, _, _, _, _⟩ :: _) _ _ _; refine mov evL ?_) | (show SH _ _ _ _ _ (⟨_, .assign _, _, _, _, _⟩ :: _) _ _ _; refine asg evL ?_) | refine lss rfl rfl ?_ | refine slen rfl ?_) | refine s_nil ?_ | refine kh_normal ?_ | refine kh_exit ?_ | refine bh_exit ?_))
    exact rh1 rfl rfl ⟨rfl, rfl⟩ (ent_drop (ent_drop (ent_maps_drop ts)))
end Go.Proofs.YtjefoecnciepmaaGreatDoor

/- The kit: flatWorlds: slices that lie side by side (printed by gen_kw.py). -/
namespace Go.Proofs.YtjefoecnciepmaaGreatDoor
open Go.Fw Go.RowKit
set_option maxHeartbeats 4000000 in
set_option maxRecDepth 100000 in
theorem flatWorlds_spec (A0 : Option Addr) (c0 : Nat) (rs : List (RowG WldV)) (w0 : World) (H : List HP) (w : World) (hn : rs.length ≤ 100000) (hll : ∀ r ∈ rs.map slv, r.m ≤ 1000000)
    (hw : Wd w0 (orow 53 A0 c0 (rs.map slv) :: (rs.map (rowP 24) ++ H)) w) :
    Ret Tryz.prog 77 [.slice A0 rs.length c0].toArray w (RP w0 fun v H' => v = .bool true ∧ H' = H) := by
  obtain ⟨sl, hsl⟩ : ∃ sl, sl = rs.map slv := ⟨_, rfl⟩
  have hsn : sl.length = rs.length := by rw [hsl, List.length_map]
  rw [← hsl] at hw hll
  refine enterH Tryz.func77 rfl rfl Tryz.ntmps77 rfl (by assumption) ?_
  (repeat' (first | (show VH _ _ _ _ _ _ _; first | refine v_seq ?_ | refine r_seq ?_ | refine v_block ?_) | (show SH _ _ _ _ _ (_ :: _) _ _ _; (show SH _ _ _ _ _ (⟨_, .assign _, _, _, _, _⟩ :: _) _ _ _; refine asg evL ?_)) | refine s_nil ?_ | refine kh_normal ?_))
  refine v_norm [(0,_),(3,_)] heL (fun g => ?_)
  have hsub : ∀ {rs' : List (RowG WldV)} {k : Nat} {A1 c1 l1}, rs'.map slv = sl → k < rs'.length → rs'.getD k rowD = ⟨A1, c1, l1⟩ → sl.getD k Flat.dflt = ⟨A1, l1.length, c1⟩ ∧ l1.length ≤ 1000000 := fun {rs' k A1 c1 l1} h1 h2 h3 => by
    have e : sl.getD k Flat.dflt = ⟨A1, l1.length, c1⟩ := by rw [← h1, getD_map' (d := rowD) h2, h3]; rfl
    refine ⟨e, ?_⟩
    have := hll (sl.getD k Flat.dflt) (getD_mem (by rw [← h1, List.length_map]; exact h2))
    rw [e] at this; exact this
  /- the marks are written -/
  refine v_loop [(3,4),(16,39)] (fun y : Nat × List (RowG WldV) => [(3, .int .i64 y.1)]) (fun y => orow 53 A0 c0 sl :: (y.2.map (rowP 24) ++ H)) (fun y => y.1 ≤ rs.length ∧ y.2.map slv = sl ∧ Marked mkW y.2 y.1) (fun y => rs.length - y.1) (0, rs) hsL (ent_refl _) ⟨Nat.zero_le _, hsl.symm, fun j hj => absurd hj (Nat.not_lt_zero j)⟩ ?_
  rintro ⟨k, rs1⟩ g ⟨hk, hs1, hm1⟩
  simp only [sets]
  simp only at hk hs1 hm1
  have hl1 : rs1.length = rs.length := by rw [← hsn, ← hs1, List.length_map]
  by_cases hkn : k < rs.length
  · obtain ⟨A1, c1, l1, hr⟩ : ∃ A1 c1 l1, rs1.getD k rowD = ⟨A1, c1, l1⟩ := ⟨_, _, _, rfl⟩
    obtain ⟨hg, hlen⟩ := hsub hs1 (by omega) hr
    refine VH.ent (G := orow 53 A0 c0 sl :: rowP 24 ⟨A1, c1, l1⟩ :: ((rs1.eraseIdx k).map (rowP 24) ++ H)) ?_ (ent_cons Split.head (hr ▸ ent_map_open (d := rowD) (by omega)))
    simp only [rowP]
    (repeat' (first | (show VH _ _ _ _ _ _ _; first | refine v_seq ?_ | refine r_seq ?_ | refine v_block ?_ | refine v_skip ?_ | refine v_cond_t rfl tbL ?_) | (show SH _ _ _ _ _ (_ :: _) _ _ _; first | (show SH _ _ _ _ _ (⟨_, .move _, _, _, _, _⟩ :: _) _ _ _; refine mov evL ?_) | (show SH _ _ _ _ _ (⟨_, .assign _, _, _, _, _⟩ :: _) _ _ _; refine asg evL ?_) | refine lss rfl rfl ?_ | refine slen rfl ?_) | refine s_nil ?_ | refine kh_normal ?_))
    refine v_loop [(4,4),(22,39)] (fun y : Nat × List WldV => [(4, .int .i64 y.1)]) (fun y => orow 53 A0 c0 sl :: orow 24 A1 c1 y.2 :: ((rs1.eraseIdx k).map (rowP 24) ++ H)) (fun y => y.1 ≤ l1.length ∧ y.2.length = l1.length ∧ y.2.take y.1 = marksG mkW k 0 y.1) (fun y => l1.length - y.1) (0, l1) hsL (ent_refl _) ⟨Nat.zero_le _, rfl, rfl⟩ ?_
    rintro ⟨i, l2⟩ g2 ⟨hi, h2, ht2⟩
    simp only [sets]
    simp only at hi h2 ht2
    (repeat' (first | (show VH _ _ _ _ _ _ _; first | refine v_seq ?_ | refine r_seq ?_ | refine v_block ?_ | refine v_skip ?_ | refine v_exit ?_ | refine v_cond_dec rfl (fun h => ?_) (fun h => ?_)) | (show SH _ _ _ _ _ (_ :: _) _ _ _; first | (show SH _ _ _ _ _ (⟨_, .move _, _, _, _, _⟩ :: _) _ _ _; refine mov evL ?_) | (show SH _ _ _ _ _ (⟨_, .assign _, _, _, _, _⟩ :: _) _ _ _; refine asg evL ?_) | (show SH _ _ _ _ _ (⟨_, .binOp .add _ _ _ _, _, _, _, _⟩ :: _) _ _ _; refine add rfl rfl inL ?_) | refine lss rfl rfl ?_ | (show SH _ _ _ _ _ (⟨_, .load _ _, _, _, _, _⟩ :: _) _ _ _; refine lsl rfl (fun _ _ => rdL) omL (by assumption) ?_) | (show SH _ _ _ _ _ (⟨_, .indexAddr _ _ _, _, _, _, _⟩ :: _) _ _ _; refine ix rfl rfl (by with_reducible rfl) (fun _ _ => rdL) (by rfl) omL omL ?_) | refine slen rfl ?_) | refine s_nil ?_ | refine kh_normal ?_ | refine kh_exit ?_ | refine bh_normal ?_ | refine bh_exit ?_))
    · refine r_held (orow 53 A0 c0 sl :: ((rs1.eraseIdx k).map (rowP 24) ++ H)) [(0, true), (1, true), (2, true), (3, true), (4, true), (5, true), (6, false), (7, false), (8, false), (9, false)] hmix (by kernel_rfl) (ent_cons spL (ent_drop (ent_refl _))) ?_
      have hq := fun w => markWorld_spec k i w (by omega) (by omega)
      (repeat' ((show SH _ _ _ _ _ (_ :: _) _ _ _; first | (show SH _ _ _ _ _ (⟨_, .move _, _, _, _, _⟩ :: _) _ _ _; refine mov evL ?_) | (show SH _ _ _ _ _ (⟨_, .load _ _, _, _, _, _⟩ :: _) _ _ _; refine lsl rfl (fun _ _ => rdL) omL (by assumption) ?_) | (show SH _ _ _ _ _ (⟨_, .indexAddr _ _ _, _, _, _, _⟩ :: _) _ _ _; refine ix rfl rfl (by with_reducible rfl) (fun _ _ => rdL) (by rfl) omL omL ?_) | (show SH _ _ _ _ _ (⟨_, .call ⟨.value (.func 114), _, _⟩, _, _, _, _⟩ :: _) _ _ _; refine cl (callee := .func 114) rfl (fun w hw => hq w) rfl rfl ?_))))
      refine stv (i := i) (l := l2) (A := A1) (mkW k i) rfl rfl rfl spL rfl (by omega) rfl kpL ?_
      (repeat' (first | refine r_seq ?_ | (show SH _ _ _ _ _ (_ :: _) _ _ _; first | (show SH _ _ _ _ _ (⟨_, .move _, _, _, _, _⟩ :: _) _ _ _; refine mov evL ?_) | (show SH _ _ _ _ _ (⟨_, .assign _, _, _, _, _⟩ :: _) _ _ _; refine asg evL ?_) | (show SH _ _ _ _ _ (⟨_, .binOp .add _ _ _ _, _, _, _, _⟩ :: _) _ _ _; refine add rfl rfl inL ?_)) | refine s_nil ?_ | refine kh_normal ?_ | refine bh_normal ?_))
      refine ⟨agL, (i + 1, l2.set i (mkW k i)), hsL, enL, ⟨by show i + 1 ≤ _; omega, by show (l2.set i _).length = _; rw [List.length_set]; exact h2, ?_⟩, by show _ - (i + 1) < _ - i; omega⟩
      show (l2.set i (mkW k i)).take (i + 1) = _
      rw [take_set_snoc _ _ _ (by omega), ht2, marksG_snoc, Nat.zero_add]
    · have hil : i = l1.length := by omega
      subst hil
      rw [List.take_of_length_le (by omega)] at ht2
      (repeat' (first | (show VH _ _ _ _ _ _ _; first | refine v_seq ?_ | refine r_seq ?_ | refine r_quiet hmix (by kernel_rfl) ?_ | refine v_block ?_ | refine v_ret ?_ | refine v_skip ?_ | refine v_exit ?_ | refine v_label ?_ | refine v_cond_t rfl tbL ?_ | refine v_cond_f rfl tbL ?_ | refine v_cond_dec rfl (fun h => ?_) (fun h => ?_) | refine v_cond_ndec rfl (fun h => ?_) (fun h => ?_) | refine v_cond rfl (fun h => ?_) (fun h => ?_)) | (show SH _ _ _ _ _ (_ :: _) _ _ _; first | (show SH _ _ _ _ _ (⟨_, _, _, _, _, some _⟩ :: _) _ _ _; first | (refine gif rfl rfl ?_; first | refine giTT tbL ?_ | refine giTF tbL ?_ | refine giFF tbL ?_ | refine giFT tbL ?_ | refine giTd (fun h => ?_) (fun h => ?_) | refine giFd (fun h => ?_) (fun h => ?_) | refine giT (fun h => ?_) (fun h => ?_) | refine giF (fun h => ?_) (fun h => ?_)) | refine gu rfl rfl ?_ | refine grT rfl rfl tbL ?_ | refine grF rfl rfl tbL ?_) | (show SH _ _ _ _ _ (⟨_, .move _, _, _, _, _⟩ :: _) _ _ _; refine mov evL ?_) | (show SH _ _ _ _ _ (⟨_, .assign _, _, _, _, _⟩ :: _) _ _ _; refine asg evL ?_) | (show SH _ _ _ _ _ (⟨_, .binOp .add _ _ _ _, _, _, _, _⟩ :: _) _ _ _; refine add rfl rfl inL ?_) | refine lss rfl rfl ?_ | (show SH _ _ _ _ _ (⟨_, .load _ _, _, _, _, _⟩ :: _) _ _ _; first | refine lsl rfl (fun _ _ => rdL) omL (by assumption) ?_ | refine lgi rfl (fun _ _ => rdY) omL (by assumption) ?_ | refine lag rfl (fun _ _ => rdY) (by rfl) omL (by assumption) ?_ | refine lrg rfl (fun _ _ => rdY) (by rfl) omL (by assumption) (by rfl) ?_ | refine lin rfl (fun _ _ => rdL) omL ?_ | refine lbx rfl spL (by rfl) ?_ | refine lba rfl spL (by rfl) ?_ | refine lbi rfl spL omL ?_ | refine lr1 rfl (fun _ _ => rdL) (by rfl) omL (by rfl) ?_ | refine lra rfl (fun _ _ => rdL) (by rfl) omL ?_ | refine lrf rfl (fun _ _ => rdL) (by rfl) omL (by rfl) ?_ | refine lcell rfl (fun w hw => hw.ext.cell (by assumption)) ?_) | (show SH _ _ _ _ _ (⟨_, .indexAddr _ _ _, _, _, _, _⟩ :: _) _ _ _; first | refine ix rfl rfl (by with_reducible rfl) (fun _ _ => rdL) (by rfl) omL omL ?_ | refine ixi rfl rfl (fun _ _ => rdL) (by rfl) omL omL omL ?_ | refine ixb rfl rfl omL ?_ | refine ixq rfl rfl (by assumption) omL omL ?_) | refine slen rfl ?_ | (show SH _ _ _ _ _ (⟨_, .pick _ _ _, _, _, _, _⟩ :: _) _ _ _; first | refine pkt rfl tbL evL ?_ | refine pkf rfl tbL evL ?_) | refine bnot rfl ?_ | (show SH _ _ _ _ _ (⟨_, .store _ _ _, _, _, _, _⟩ :: _) _ _ _; first | refine stb rfl rfl evL spL rfl rfl (by first | decide | exact Nat.zero_lt_succ _ | exact of_decide_eq_true rfl) kpL ?_ | refine sta rfl rfl rfl spL (by rfl) (by rfl) (by rfl) kpL ?_ | refine sti rfl rfl rfl spL omL kpL ?_ | refine sbi rfl rfl rfl spL omL kpL ?_) | (show SH _ _ _ _ _ (⟨_, .buildSlice _ _ _, _, _, _, _⟩ :: _) _ _ _; refine bsl (α := Int) rfl rfl (by repeat (first | exact Vals.nil | (apply Vals.cons; rfl))) rfl (by rfl) (by decide) (fun b => ?_))) | refine s_nil ?_ | refine kh_normal ?_ | refine kh_ret ?_ | refine kh_exit ?_ | refine bh_normal ?_ | refine bh_ret ?_ | refine bh_exit ?_ | refine bh_exit_ne rfl ?_))
      refine ⟨agL, (k + 1, rs1.set k ⟨A1, c1, l2⟩), hsL, ent_cons Split.head (ent_map_close (f := rowP 24) (x := ⟨A1, c1, l2⟩) (by omega)), ⟨by show k + 1 ≤ _; omega, ?_, fun j hj => ?_⟩, by show _ - (k + 1) < _ - k; omega⟩
      · show (rs1.set k ⟨A1, c1, l2⟩).map slv = sl
        rw [set_map' (d := rowD) (by omega) (by rw [hr]; simp only [slv, h2]), hs1]
      · show ((rs1.set k ⟨A1, c1, l2⟩).getD j rowD).l = marksG mkW j 0 ((rs1.set k ⟨A1, c1, l2⟩).getD j rowD).l.length
        by_cases e : j = k
        · subst e
          rw [getD_set_self' (by omega)]
          simp only
          rw [h2]; exact ht2
        · rw [getD_set_ne2 (by omega)]
          exact hm1 j (by omega)
  have hke : k = rs.length := by omega
  subst hke
  have hmk : ∀ {k A1 c1 l1}, k < rs.length → rs1.getD k rowD = ⟨A1, c1, l1⟩ → l1 = marksG mkW k 0 l1.length := fun {k A1 c1 l1} h1 h2 => by
    have := hm1 k h1
    rw [h2] at this; exact this
  refine VH.ent (G := orow 53 A0 c0 sl :: ((rs1.map selfT).map (twP 24) ++ H)) ?_ (ent_cons Split.head (ent_row_selfs rs1))
  (repeat' (first | (show VH _ _ _ _ _ _ _; first | refine v_seq ?_ | refine r_seq ?_ | refine v_exit ?_ | refine v_cond_f rfl tbL ?_) | (show SH _ _ _ _ _ (_ :: _) _ _ _; first | (show SH _ _ _ _ _ (⟨_, .move _, _, _, _, _⟩ :: _) _ _ _; refine mov evL ?_) | refine lss rfl rfl ?_ | refine slen rfl ?_) | refine s_nil ?_ | refine kh_normal ?_ | refine kh_exit ?_ | refine bh_exit ?_))
  refine mkz (α := SliceV) (z := .slice none 0 0) (by kernel_rfl) rfl rfl rfl rfl rfl rfl (by omega) (by omega) (by omega) (by omega) (fun bk => ?_)
  simp only [Int.toNat_natCast]
  (repeat' (first | (show VH _ _ _ _ _ _ _; first | refine v_seq ?_ | refine r_seq ?_ | refine v_block ?_) | (show SH _ _ _ _ _ (_ :: _) _ _ _; (show SH _ _ _ _ _ (⟨_, .assign _, _, _, _, _⟩ :: _) _ _ _; refine asg evL ?_)) | refine s_nil ?_ | refine kh_normal ?_))
  refine v_norm [(0,_),(5,_),(6,_)] heL (fun g => ?_)
  /- each slice is extended, an element at a time -/
  refine v_loop [(6,8),(43,72)] (fun y : Nat × (List (TwG WldV) × List SliceV) => [(6, .int .i64 y.1)]) (fun y => orow 53 (some ⟨bk, 0, none⟩) rs.length y.2.2 :: orow 53 A0 c0 sl :: (y.2.1.map (twP 24) ++ H)) (fun y => y.1 ≤ rs.length ∧ Tw (fun j l => l ++ marksG mkW j l.length 64) rs1 y.1 y.2.1 y.2.2) (fun y => rs.length - y.1) (0, (rs1.map selfT, List.replicate rs.length Flat.dflt)) hsL (ent_refl _) ⟨Nat.zero_le _, tw_start (by rw [List.length_replicate, hl1])⟩ ?_
  rintro ⟨k, ts, gl⟩ g ⟨hk, htw⟩
  simp only [sets]
  simp only at hk htw
  have htl := htw.tlen
  have hgl := htw.len
  by_cases hkn : k < rs.length
  · obtain ⟨A1, c1, l1, hr⟩ : ∃ A1 c1 l1, rs1.getD k rowD = ⟨A1, c1, l1⟩ := ⟨_, _, _, rfl⟩
    obtain ⟨hg, hlen⟩ := hsub hs1 (by omega) hr
    have hts := htw.self k (Nat.le_refl _) (by omega)
    rw [hr] at hts
    have h0 : l1 = l1 ++ marksG mkW k l1.length 0 := by rw [marksG_zero, List.append_nil]
    refine VH.ent (G := orow 53 (some ⟨bk, 0, none⟩) rs.length gl :: orow 53 A0 c0 sl :: twin 24 A1 c1 l1 A1 c1 l1 :: ((ts.eraseIdx k).map (twP 24) ++ H)) ?_ (ent_cons Split.head (ent_cons Split.head (by have := ent_map_open (f := twP 24) (d := twD) (H := H) (L := ts) (k := k) (by omega); rw [hts] at this; exact this)))
    (repeat' (first | (show VH _ _ _ _ _ _ _; first | refine v_seq ?_ | refine r_seq ?_ | refine v_block ?_ | refine v_skip ?_ | refine v_cond_t rfl tbL ?_) | (show SH _ _ _ _ _ (_ :: _) _ _ _; first | (show SH _ _ _ _ _ (⟨_, .move _, _, _, _, _⟩ :: _) _ _ _; refine mov evL ?_) | (show SH _ _ _ _ _ (⟨_, .assign _, _, _, _, _⟩ :: _) _ _ _; refine asg evL ?_) | refine lss rfl rfl ?_ | (show SH _ _ _ _ _ (⟨_, .load _ _, _, _, _, _⟩ :: _) _ _ _; refine lsl rfl (fun _ _ => rdL) omL (by assumption) ?_) | (show SH _ _ _ _ _ (⟨_, .indexAddr _ _ _, _, _, _, _⟩ :: _) _ _ _; refine ix rfl rfl (by with_reducible rfl) (fun _ _ => rdL) (by rfl) omL omL ?_) | refine slen rfl ?_) | refine s_nil ?_ | refine kh_normal ?_))
    refine v_normS [(6,8),(43,72)] _ agL [(6,_),(7,_),(8,_)] heL (fun g => ?_)
    refine v_loop [(7,8),(53,68)] (fun y : Nat × (Option Addr × Nat) => [(8, .int .i64 y.1), (7, .slice y.2.1 (l1 ++ marksG mkW k l1.length y.1).length y.2.2)]) (fun y => orow 53 (some ⟨bk, 0, none⟩) rs.length gl :: orow 53 A0 c0 sl :: twin 24 A1 c1 l1 y.2.1 y.2.2 (l1 ++ marksG mkW k l1.length y.1) :: ((ts.eraseIdx k).map (twP 24) ++ H)) (fun y => y.1 ≤ 64) (fun y => 64 - y.1) (0, (A1, c1)) ⟨rfl, congrArg (fun L : List WldV => Value.slice A1 L.length c1) h0, trivial⟩ (by rw [← h0]; exact ent_refl _) (Nat.zero_le _) ?_
    rintro ⟨i, A2, cp2⟩ g2 hi
    simp only [sets]
    simp only at hi
    have hlen2 : (l1 ++ marksG mkW k l1.length i).length = l1.length + i := by rw [List.length_append, marksG_len]
    (repeat' (first | (show VH _ _ _ _ _ _ _; first | refine v_seq ?_ | refine r_seq ?_ | refine v_block ?_ | refine v_skip ?_ | refine v_exit ?_ | refine v_cond_dec rfl (fun h => ?_) (fun h => ?_)) | (show SH _ _ _ _ _ (_ :: _) _ _ _; first | (show SH _ _ _ _ _ (⟨_, .move _, _, _, _, _⟩ :: _) _ _ _; refine mov evL ?_) | (show SH _ _ _ _ _ (⟨_, .binOp .add _ _ _ _, _, _, _, _⟩ :: _) _ _ _; refine add rfl rfl inL ?_) | refine lss rfl rfl ?_ | (show SH _ _ _ _ _ (⟨_, .load _ _, _, _, _, _⟩ :: _) _ _ _; refine lsl rfl (fun _ _ => rdL) omL (by assumption) ?_) | (show SH _ _ _ _ _ (⟨_, .indexAddr _ _ _, _, _, _, _⟩ :: _) _ _ _; refine ix rfl rfl (by with_reducible rfl) (fun _ _ => rdL) (by rfl) omL omL ?_) | refine slen rfl ?_ | (show SH _ _ _ _ _ (⟨_, .call ⟨.value (.func 114), _, _⟩, _, _, _, _⟩ :: _) _ _ _; refine cl (callee := .func 114) rfl (fun w hw => markWorld_spec _ _ w (by omega) (by omega)) rfl rfl ?_)) | refine s_nil ?_ | refine kh_normal ?_ | refine kh_exit ?_ | refine bh_exit ?_))
    · refine bsl (l := [mkW k ((l1.length : Int) + (i : Int))]) rfl rfl (Vals.cons rfl Vals.nil) rfl rfl (of_decide_eq_true rfl) (fun b9 => ?_)
      (repeat' (first | (show VH _ _ _ _ _ _ _; first | refine v_seq ?_ | refine r_seq ?_ | refine r_quiet hmix (by kernel_rfl) ?_ | refine v_block ?_ | refine v_ret ?_ | refine v_skip ?_ | refine v_exit ?_ | refine v_label ?_ | refine v_cond_t rfl tbL ?_ | refine v_cond_f rfl tbL ?_ | refine v_cond_dec rfl (fun h => ?_) (fun h => ?_) | refine v_cond_ndec rfl (fun h => ?_) (fun h => ?_) | refine v_cond rfl (fun h => ?_) (fun h => ?_)) | (show SH _ _ _ _ _ (_ :: _) _ _ _; first | (show SH _ _ _ _ _ (⟨_, _, _, _, _, some _⟩ :: _) _ _ _; first | (refine gif rfl rfl ?_; first | refine giTT tbL ?_ | refine giTF tbL ?_ | refine giFF tbL ?_ | refine giFT tbL ?_ | refine giTd (fun h => ?_) (fun h => ?_) | refine giFd (fun h => ?_) (fun h => ?_) | refine giT (fun h => ?_) (fun h => ?_) | refine giF (fun h => ?_) (fun h => ?_)) | refine gu rfl rfl ?_ | refine grT rfl rfl tbL ?_ | refine grF rfl rfl tbL ?_) | (show SH _ _ _ _ _ (⟨_, .move _, _, _, _, _⟩ :: _) _ _ _; refine mov evL ?_) | (show SH _ _ _ _ _ (⟨_, .assign _, _, _, _, _⟩ :: _) _ _ _; refine asg evL ?_) | (show SH _ _ _ _ _ (⟨_, .binOp .add _ _ _ _, _, _, _, _⟩ :: _) _ _ _; refine add rfl rfl inL ?_) | refine lss rfl rfl ?_ | (show SH _ _ _ _ _ (⟨_, .load _ _, _, _, _, _⟩ :: _) _ _ _; first | refine lsl rfl (fun _ _ => rdL) omL (by assumption) ?_ | refine lgi rfl (fun _ _ => rdY) omL (by assumption) ?_ | refine lag rfl (fun _ _ => rdY) (by rfl) omL (by assumption) ?_ | refine lrg rfl (fun _ _ => rdY) (by rfl) omL (by assumption) (by rfl) ?_ | refine lin rfl (fun _ _ => rdL) omL ?_ | refine lbx rfl spL (by rfl) ?_ | refine lba rfl spL (by rfl) ?_ | refine lbi rfl spL omL ?_ | refine lr1 rfl (fun _ _ => rdL) (by rfl) omL (by rfl) ?_ | refine lra rfl (fun _ _ => rdL) (by rfl) omL ?_ | refine lrf rfl (fun _ _ => rdL) (by rfl) omL (by rfl) ?_ | refine lcell rfl (fun w hw => hw.ext.cell (by assumption)) ?_) | (show SH _ _ _ _ _ (⟨_, .indexAddr _ _ _, _, _, _, _⟩ :: _) _ _ _; first | refine ix rfl rfl (by with_reducible rfl) (fun _ _ => rdL) (by rfl) omL omL ?_ | refine ixi rfl rfl (fun _ _ => rdL) (by rfl) omL omL omL ?_ | refine ixb rfl rfl omL ?_ | refine ixq rfl rfl (by assumption) omL omL ?_) | refine slen rfl ?_ | (show SH _ _ _ _ _ (⟨_, .pick _ _ _, _, _, _, _⟩ :: _) _ _ _; first | refine pkt rfl tbL evL ?_ | refine pkf rfl tbL evL ?_) | refine bnot rfl ?_ | (show SH _ _ _ _ _ (⟨_, .store _ _ _, _, _, _, _⟩ :: _) _ _ _; first | refine stb rfl rfl evL spL rfl rfl (by first | decide | exact Nat.zero_lt_succ _ | exact of_decide_eq_true rfl) kpL ?_ | refine sta rfl rfl rfl spL (by rfl) (by rfl) (by rfl) kpL ?_ | refine sti rfl rfl rfl spL omL kpL ?_ | refine sbi rfl rfl rfl spL omL kpL ?_) | (show SH _ _ _ _ _ (⟨_, .buildSlice _ _ _, _, _, _, _⟩ :: _) _ _ _; refine bsl (α := Int) rfl rfl (by repeat (first | exact Vals.nil | (apply Vals.cons; rfl))) rfl (by rfl) (by decide) (fun b => ?_))) | refine s_nil ?_ | refine kh_normal ?_ | refine kh_ret ?_ | refine kh_exit ?_ | refine bh_normal ?_ | refine bh_ret ?_ | refine bh_exit ?_ | refine bh_exit_ne rfl ?_))
      refine app3 rfl rfl rfl spL (fun w hw => hw.rd spL) rfl rfl rfl (by simp only [List.length_cons, List.length_nil]; omega) (by simp only [List.length_cons, List.length_nil]; omega) (fun A3 cp3 => ⟨trivial, ?_⟩)
      have hsn : l1 ++ marksG mkW k l1.length (i + 1) = (l1 ++ marksG mkW k l1.length i) ++ [mkW k ((l1.length : Int) + (i : Int))] := by rw [marksG_snoc, List.append_assoc, Int.natCast_add]
      (repeat' (first | refine r_seq ?_ | (show SH _ _ _ _ _ (_ :: _) _ _ _; first | (show SH _ _ _ _ _ (⟨_, .move _, _, _, _, _⟩ :: _) _ _ _; refine mov evL ?_) | (show SH _ _ _ _ _ (⟨_, .assign _, _, _, _, _⟩ :: _) _ _ _; refine asg evL ?_) | (show SH _ _ _ _ _ (⟨_, .binOp .add _ _ _ _, _, _, _, _⟩ :: _) _ _ _; refine add rfl rfl inL ?_)) | refine s_nil ?_ | refine kh_normal ?_ | refine bh_normal ?_))
      refine ⟨agL, (i + 1, (A3, cp3)), ⟨rfl, congrArg (fun L : List WldV => Value.slice A3 L.length cp3) hsn.symm, trivial⟩, ?_, by show i + 1 ≤ _; omega, by show _ - (i + 1) < _ - i; omega⟩
      show Ent _ (_ :: _ :: twin _ _ _ _ A3 cp3 (l1 ++ marksG mkW k l1.length (i + 1)) :: _)
      rw [hsn]
      (repeat (first | exact ent_refl _ | exact ent_nil _ | refine ent_nilrow ?_ | refine ent_cons spL ?_ | refine ent_drop ?_))
    · have hi64 : i = 64 := by omega
      subst hi64
      (repeat' (first | (show VH _ _ _ _ _ _ _; first | refine v_seq ?_ | refine r_seq ?_ | refine r_quiet hmix (by kernel_rfl) ?_ | refine v_block ?_ | refine v_ret ?_ | refine v_skip ?_ | refine v_exit ?_ | refine v_label ?_ | refine v_cond_t rfl tbL ?_ | refine v_cond_f rfl tbL ?_ | refine v_cond_dec rfl (fun h => ?_) (fun h => ?_) | refine v_cond_ndec rfl (fun h => ?_) (fun h => ?_) | refine v_cond rfl (fun h => ?_) (fun h => ?_)) | (show SH _ _ _ _ _ (_ :: _) _ _ _; first | (show SH _ _ _ _ _ (⟨_, _, _, _, _, some _⟩ :: _) _ _ _; first | (refine gif rfl rfl ?_; first | refine giTT tbL ?_ | refine giTF tbL ?_ | refine giFF tbL ?_ | refine giFT tbL ?_ | refine giTd (fun h => ?_) (fun h => ?_) | refine giFd (fun h => ?_) (fun h => ?_) | refine giT (fun h => ?_) (fun h => ?_) | refine giF (fun h => ?_) (fun h => ?_)) | refine gu rfl rfl ?_ | refine grT rfl rfl tbL ?_ | refine grF rfl rfl tbL ?_) | (show SH _ _ _ _ _ (⟨_, .move _, _, _, _, _⟩ :: _) _ _ _; refine mov evL ?_) | (show SH _ _ _ _ _ (⟨_, .assign _, _, _, _, _⟩ :: _) _ _ _; refine asg evL ?_) | (show SH _ _ _ _ _ (⟨_, .binOp .add _ _ _ _, _, _, _, _⟩ :: _) _ _ _; refine add rfl rfl inL ?_) | refine lss rfl rfl ?_ | (show SH _ _ _ _ _ (⟨_, .load _ _, _, _, _, _⟩ :: _) _ _ _; first | refine lsl rfl (fun _ _ => rdL) omL (by assumption) ?_ | refine lgi rfl (fun _ _ => rdY) omL (by assumption) ?_ | refine lag rfl (fun _ _ => rdY) (by rfl) omL (by assumption) ?_ | refine lrg rfl (fun _ _ => rdY) (by rfl) omL (by assumption) (by rfl) ?_ | refine lin rfl (fun _ _ => rdL) omL ?_ | refine lbx rfl spL (by rfl) ?_ | refine lba rfl spL (by rfl) ?_ | refine lbi rfl spL omL ?_ | refine lr1 rfl (fun _ _ => rdL) (by rfl) omL (by rfl) ?_ | refine lra rfl (fun _ _ => rdL) (by rfl) omL ?_ | refine lrf rfl (fun _ _ => rdL) (by rfl) omL (by rfl) ?_ | refine lcell rfl (fun w hw => hw.ext.cell (by assumption)) ?_) | (show SH _ _ _ _ _ (⟨_, .indexAddr _ _ _, _, _, _, _⟩ :: _) _ _ _; first | refine ix rfl rfl (by with_reducible rfl) (fun _ _ => rdL) (by rfl) omL omL ?_ | refine ixi rfl rfl (fun _ _ => rdL) (by rfl) omL omL omL ?_ | refine ixb rfl rfl omL ?_ | refine ixq rfl rfl (by assumption) omL omL ?_) | refine slen rfl ?_ | (show SH _ _ _ _ _ (⟨_, .pick _ _ _, _, _, _, _⟩ :: _) _ _ _; first | refine pkt rfl tbL evL ?_ | refine pkf rfl tbL evL ?_) | refine bnot rfl ?_ | (show SH _ _ _ _ _ (⟨_, .store _ _ _, _, _, _, _⟩ :: _) _ _ _; first | refine stb rfl rfl evL spL rfl rfl (by first | decide | exact Nat.zero_lt_succ _ | exact of_decide_eq_true rfl) kpL ?_ | refine sta rfl rfl rfl spL (by rfl) (by rfl) (by rfl) kpL ?_ | refine sti rfl rfl rfl spL omL kpL ?_ | refine sbi rfl rfl rfl spL omL kpL ?_) | (show SH _ _ _ _ _ (⟨_, .buildSlice _ _ _, _, _, _, _⟩ :: _) _ _ _; refine bsl (α := Int) rfl rfl (by repeat (first | exact Vals.nil | (apply Vals.cons; rfl))) rfl (by rfl) (by decide) (fun b => ?_))) | refine s_nil ?_ | refine kh_normal ?_ | refine kh_ret ?_ | refine kh_exit ?_ | refine bh_normal ?_ | refine bh_ret ?_ | refine bh_exit ?_ | refine bh_exit_ne rfl ?_))
      refine st1 (α := SliceV) ⟨A2, (l1 ++ marksG mkW k l1.length 64).length, cp2⟩ rfl rfl rfl spL rfl (by omega) rfl rfl rfl trivial ?_
      (repeat' (first | refine r_seq ?_ | (show SH _ _ _ _ _ (_ :: _) _ _ _; first | (show SH _ _ _ _ _ (⟨_, .move _, _, _, _, _⟩ :: _) _ _ _; refine mov evL ?_) | (show SH _ _ _ _ _ (⟨_, .assign _, _, _, _, _⟩ :: _) _ _ _; refine asg evL ?_) | (show SH _ _ _ _ _ (⟨_, .binOp .add _ _ _ _, _, _, _, _⟩ :: _) _ _ _; refine add rfl rfl inL ?_)) | refine s_nil ?_ | refine kh_normal ?_ | refine bh_normal ?_))
      exact ⟨agL, (k + 1, (ts.set k ⟨A1, c1, l1, A2, cp2, l1 ++ marksG mkW k l1.length 64⟩, gl.set k ⟨A2, (l1 ++ marksG mkW k l1.length 64).length, cp2⟩)), hsL, ent_cons Split.head (ent_cons Split.head (ent_map_close (f := twP 24) (x := ⟨A1, c1, l1, A2, cp2, l1 ++ marksG mkW k l1.length 64⟩) (by omega))), ⟨by show k + 1 ≤ _; omega, htw.step (by omega) hr rfl⟩, by show _ - (k + 1) < _ - k; omega⟩
  have hke : k = rs.length := by omega
  subst hke
  have hdone := htw.done
  have hbase : ∀ {j A1 c1 l1 A2 c2 L}, j < rs.length → ts.getD j twD = ⟨A1, c1, l1, A2, c2, L⟩ → rs1.getD j rowD = ⟨A1, c1, l1⟩ := fun {j A1 c1 l1 A2 c2 L} h1 h2 => by
    rw [← htw.base, getD_map' (d := twD) (by omega), h2]; rfl
  (repeat' (first | (show VH _ _ _ _ _ _ _; first | refine v_seq ?_ | refine r_seq ?_ | refine v_block ?_ | refine v_exit ?_ | refine v_cond_f rfl tbL ?_) | (show SH _ _ _ _ _ (_ :: _) _ _ _; first | (show SH _ _ _ _ _ (⟨_, .move _, _, _, _, _⟩ :: _) _ _ _; refine mov evL ?_) | (show SH _ _ _ _ _ (⟨_, .assign _, _, _, _, _⟩ :: _) _ _ _; refine asg evL ?_) | refine lss rfl rfl ?_ | refine slen rfl ?_) | refine s_nil ?_ | refine kh_normal ?_ | refine kh_exit ?_ | refine bh_exit ?_))
  refine v_norm [(0,_),(5,_),(9,_)] heL (fun g => ?_)
  /- all are read -/
  refine v_loop0 [(2,2),(9,10),(73,122)] (fun k : Nat => [(9, .int .i64 k)]) (fun k => k ≤ rs.length) (fun k => rs.length - k) 0 hsL (Nat.zero_le _) ?_
  rintro k g hk
  simp only [sets]
  by_cases hkn : k < rs.length
  · obtain ⟨A1, c1, l1, A2, c2, L, ht⟩ : ∃ A1 c1 l1 A2 c2 L, ts.getD k twD = ⟨A1, c1, l1, A2, c2, L⟩ := ⟨_, _, _, _, _, _, rfl⟩
    have hr := hbase hkn ht
    obtain ⟨hg, hlen⟩ := hsub hs1 (by omega) hr
    obtain ⟨hg2, hL⟩ := hdone k hkn
    rw [ht] at hg2 hL
    simp only at hg2 hL
    have hmk1 := hmk hkn hr
    have hL2 : L = marksG mkW k 0 (l1.length + 64) := by rw [hL, ← marksG_add]; congr 1
    have hLn : L.length = l1.length + 64 := by rw [hL2, marksG_len]
    have hv1 : ∀ i, i < L.length → L.getD i Flat.dflt = mkW k i := fun i hi => by rw [hL2, marksG_get _ _ (by omega), Nat.zero_add]
    have hv2 : ∀ i, i < l1.length → l1.getD i Flat.dflt = mkW k i := fun i hi => by rw [hmk1, marksG_get _ _ hi, Nat.zero_add]
    refine VH.ent (G := orow 53 (some ⟨bk, 0, none⟩) rs.length gl :: orow 53 A0 c0 sl :: twin 24 A1 c1 l1 A2 c2 L :: ((ts.eraseIdx k).map (twP 24) ++ H)) ?_ (ent_cons Split.head (ent_cons Split.head (by have := ent_map_open (f := twP 24) (d := twD) (H := H) (L := ts) (k := k) (by omega); rw [ht] at this; exact this)))
    clear hL hL2 hmk1
    (repeat' (first | (show VH _ _ _ _ _ _ _; first | refine v_seq ?_ | refine r_seq ?_ | refine v_block ?_ | refine v_skip ?_ | refine v_cond_t rfl tbL ?_) | (show SH _ _ _ _ _ (_ :: _) _ _ _; first | (show SH _ _ _ _ _ (⟨_, .move _, _, _, _, _⟩ :: _) _ _ _; refine mov evL ?_) | (show SH _ _ _ _ _ (⟨_, .assign _, _, _, _, _⟩ :: _) _ _ _; refine asg evL ?_) | refine lss rfl rfl ?_ | refine slen rfl ?_) | refine s_nil ?_ | refine kh_normal ?_))
    refine v_normS [(2,2),(9,10),(73,122)] _ agL [(9,_),(10,_)] heL (fun g => ?_)
    refine v_loop0 [(2,2),(10,10),(79,122)] (fun i : Nat => [(10, .int .i64 i)]) (fun i => i ≤ L.length) (fun i => L.length - i) 0 hsL (Nat.zero_le _) ?_
    rintro i g2 hi
    simp only [sets]
    by_cases hil : i < L.length
    · have e1 := hv1 i hil
      by_cases hi1 : i < l1.length
      · have e2 := hv2 i hi1
        have hq := fun w => markWorld_spec k i w (by omega) (by omega)
        have hs := fun w => sameMarkW k i w
        generalize mkW k i = q at e1 hq e2 hs
        have f1 : Flat.enc (L.getD i Flat.dflt) = Flat.enc q := by rw [e1]
        have f2 : Flat.enc (l1.getD i Flat.dflt) = Flat.enc q := by rw [e2]
        clear hv1 hv2 e1 e2
        (repeat' (first | (show VH _ _ _ _ _ _ _; first | refine v_seq ?_ | refine r_seq ?_ | refine r_quiet hmix (by kernel_rfl) ?_ | refine v_block ?_ | refine v_skip ?_ | refine v_cond_t rfl tbL ?_ | refine v_cond_f rfl tbL ?_) | (show SH _ _ _ _ _ (_ :: _) _ _ _; first | (show SH _ _ _ _ _ (⟨_, _, _, _, _, some _⟩ :: _) _ _ _; (refine gif rfl rfl ?_; first | refine giTT tbL ?_ | refine giFF tbL ?_)) | (show SH _ _ _ _ _ (⟨_, .move _, _, _, _, _⟩ :: _) _ _ _; refine mov evL ?_) | (show SH _ _ _ _ _ (⟨_, .assign _, _, _, _, _⟩ :: _) _ _ _; refine asg evL ?_) | (show SH _ _ _ _ _ (⟨_, .binOp .add _ _ _ _, _, _, _, _⟩ :: _) _ _ _; refine add rfl rfl inL ?_) | refine lss rfl rfl ?_ | (show SH _ _ _ _ _ (⟨_, .load _ _, _, _, _, _⟩ :: _) _ _ _; first | refine lsl rfl (fun _ _ => rdL) omL (by assumption) ?_ | refine lag rfl (fun _ _ => rdY) (by rfl) omL (by assumption) ?_) | (show SH _ _ _ _ _ (⟨_, .indexAddr _ _ _, _, _, _, _⟩ :: _) _ _ _; refine ix rfl rfl (by with_reducible rfl) (fun _ _ => rdL) (by rfl) omL omL ?_) | refine slen rfl ?_ | (show SH _ _ _ _ _ (⟨_, .call ⟨.value (.func 114), _, _⟩, _, _, _, _⟩ :: _) _ _ _; refine cl (callee := .func 114) rfl (fun w hw => hq w) rfl rfl ?_) | (show SH _ _ _ _ _ (⟨_, .call ⟨.value (.func 24), _, _⟩, _, _, _, _⟩ :: _) _ _ _; refine cl (callee := .func 24) rfl (fun w hw => hs w) rfl rfl ?_) | (show SH _ _ _ _ _ (⟨_, .pick _ _ _, _, _, _, _⟩ :: _) _ _ _; first | refine pkt rfl tbL evL ?_ | refine pkf rfl tbL evL ?_) | refine bnot rfl ?_) | refine s_nil ?_ | refine kh_normal ?_ | refine bh_normal ?_))
        exact ⟨agL, i + 1, hsL, enL, by omega, by omega⟩
      · have hq := fun w => markWorld_spec k i w (by omega) (by omega)
        have hs := fun w => sameMarkW k i w
        generalize mkW k i = q at e1 hq hs
        have f1 : Flat.enc (L.getD i Flat.dflt) = Flat.enc q := by rw [e1]
        clear hv1 hv2 e1
        (repeat' (first | (show VH _ _ _ _ _ _ _; first | refine v_seq ?_ | refine r_seq ?_ | refine r_quiet hmix (by kernel_rfl) ?_ | refine v_block ?_ | refine v_skip ?_ | refine v_cond_t rfl tbL ?_ | refine v_cond_f rfl tbL ?_) | (show SH _ _ _ _ _ (_ :: _) _ _ _; first | (show SH _ _ _ _ _ (⟨_, _, _, _, _, some _⟩ :: _) _ _ _; (refine gif rfl rfl ?_; first | refine giTF tbL ?_ | refine giFF tbL ?_)) | (show SH _ _ _ _ _ (⟨_, .move _, _, _, _, _⟩ :: _) _ _ _; refine mov evL ?_) | (show SH _ _ _ _ _ (⟨_, .assign _, _, _, _, _⟩ :: _) _ _ _; refine asg evL ?_) | (show SH _ _ _ _ _ (⟨_, .binOp .add _ _ _ _, _, _, _, _⟩ :: _) _ _ _; refine add rfl rfl inL ?_) | refine lss rfl rfl ?_ | (show SH _ _ _ _ _ (⟨_, .load _ _, _, _, _, _⟩ :: _) _ _ _; first | refine lsl rfl (fun _ _ => rdL) omL (by assumption) ?_ | refine lag rfl (fun _ _ => rdY) (by rfl) omL (by assumption) ?_) | (show SH _ _ _ _ _ (⟨_, .indexAddr _ _ _, _, _, _, _⟩ :: _) _ _ _; refine ix rfl rfl (by with_reducible rfl) (fun _ _ => rdL) (by rfl) omL omL ?_) | refine slen rfl ?_ | (show SH _ _ _ _ _ (⟨_, .call ⟨.value (.func 114), _, _⟩, _, _, _, _⟩ :: _) _ _ _; refine cl (callee := .func 114) rfl (fun w hw => hq w) rfl rfl ?_) | (show SH _ _ _ _ _ (⟨_, .call ⟨.value (.func 24), _, _⟩, _, _, _, _⟩ :: _) _ _ _; refine cl (callee := .func 24) rfl (fun w hw => hs w) rfl rfl ?_) | (show SH _ _ _ _ _ (⟨_, .pick _ _ _, _, _, _, _⟩ :: _) _ _ _; refine pkf rfl tbL evL ?_) | refine bnot rfl ?_) | refine s_nil ?_ | refine kh_normal ?_ | refine bh_normal ?_))
        exact ⟨agL, i + 1, hsL, enL, by omega, by omega⟩
    · (repeat' (first | (show VH _ _ _ _ _ _ _; first | refine v_seq ?_ | refine r_seq ?_ | refine v_exit ?_ | refine v_cond_f rfl tbL ?_) | (show SH _ _ _ _ _ (_ :: _) _ _ _; first | (show SH _ _ _ _ _ (⟨_, .move _, _, _, _, _⟩ :: _) _ _ _; refine mov evL ?_) | (show SH _ _ _ _ _ (⟨_, .assign _, _, _, _, _⟩ :: _) _ _ _; refine asg evL ?_) | (show SH _ _ _ _ _ (⟨_, .binOp .add _ _ _ _, _, _, _, _⟩ :: _) _ _ _; refine add rfl rfl inL ?_) | refine lss rfl rfl ?_ | (show SH _ _ _ _ _ (⟨_, .load _ _, _, _, _, _⟩ :: _) _ _ _; refine lsl rfl (fun _ _ => rdL) omL (by assumption) ?_) | (show SH _ _ _ _ _ (⟨_, .indexAddr _ _ _, _, _, _, _⟩ :: _) _ _ _; refine ix rfl rfl (by with_reducible rfl) (fun _ _ => rdL) (by rfl) omL omL ?_) | refine slen rfl ?_) | refine s_nil ?_ | refine kh_normal ?_ | refine kh_exit ?_ | refine bh_normal ?_ | refine bh_exit ?_))
      exact ⟨agL, k + 1, hsL, ent_cons Split.head (ent_cons Split.head (by have := ent_map_back (f := twP 24) (d := twD) (H := H) (L := ts) (k := k) (by omega); rw [ht] at this; exact this)), by omega, by omega⟩
  have hke : k = rs.length := by omega
  subst hke
  refine VH.ent (G := orow 53 (some ⟨bk, 0, none⟩) rs.length gl :: orow 53 A0 c0 sl :: ((rs1.map selfT).map (twP 24) ++ H)) ?_ (ent_cons Split.head (ent_cons Split.head (by have := ent_tw_selfs (e := 24) (H := H) ts; rw [htw.base] at this; exact this)))
  (repeat' (first | (show VH _ _ _ _ _ _ _; first | refine v_seq ?_ | refine r_seq ?_ | refine v_block ?_ | refine v_exit ?_ | refine v_cond_f rfl tbL ?_) | (show SH _ _ _ _ _ (_ :: _) _ _ _; first | (show SH _ _ _ _ _ (⟨_, .move _, _, _, _, _⟩ :: _) _ _ _; refine mov evL ?_) | (show SH _ _ _ _ _ (⟨_, .assign _, _, _, _, _⟩ :: _) _ _ _; refine asg evL ?_) | refine lss rfl rfl ?_ | refine slen rfl ?_) | refine s_nil ?_ | refine kh_normal ?_ | refine kh_exit ?_ | refine bh_exit ?_))
  refine v_norm [(0,_),(5,_),(11,_)] heL (fun g => ?_)
  clear hdone hbase htw
  /- each slice is extended by many at once -/
  refine v_loop [(11,13),(123,151)] (fun y : Nat × (List (TwG WldV) × List SliceV) => [(11, .int .i64 y.1)]) (fun y => orow 53 (some ⟨bk, 0, none⟩) rs.length y.2.2 :: orow 53 A0 c0 sl :: (y.2.1.map (twP 24) ++ H)) (fun y => y.1 ≤ rs.length ∧ Tw (fun j l => l ++ marksG mkW ((j : Int) + (rs.length : Int)) 0 64) rs1 y.1 y.2.1 y.2.2) (fun y => rs.length - y.1) (0, (rs1.map selfT, gl)) hsL (ent_refl _) ⟨Nat.zero_le _, tw_start hgl⟩ ?_
  rintro ⟨k, ts, gl⟩ g ⟨hk, htw⟩
  simp only [sets]
  simp only at hk htw
  have htl := htw.tlen
  have hgl := htw.len
  by_cases hkn : k < rs.length
  · obtain ⟨A1, c1, l1, hr⟩ : ∃ A1 c1 l1, rs1.getD k rowD = ⟨A1, c1, l1⟩ := ⟨_, _, _, rfl⟩
    obtain ⟨hg, hlen⟩ := hsub hs1 (by omega) hr
    have hts := htw.self k (Nat.le_refl _) (by omega)
    rw [hr] at hts
    refine VH.ent (G := orow 53 (some ⟨bk, 0, none⟩) rs.length gl :: orow 53 A0 c0 sl :: twin 24 A1 c1 l1 A1 c1 l1 :: ((ts.eraseIdx k).map (twP 24) ++ H)) ?_ (ent_cons Split.head (ent_cons Split.head (by have := ent_map_open (f := twP 24) (d := twD) (H := H) (L := ts) (k := k) (by omega); rw [hts] at this; exact this)))
    (repeat' (first | (show VH _ _ _ _ _ _ _; first | refine v_seq ?_ | refine r_seq ?_ | refine v_block ?_ | refine v_skip ?_ | refine v_cond_t rfl tbL ?_) | (show SH _ _ _ _ _ (_ :: _) _ _ _; first | (show SH _ _ _ _ _ (⟨_, .move _, _, _, _, _⟩ :: _) _ _ _; refine mov evL ?_) | refine lss rfl rfl ?_ | refine slen rfl ?_) | refine s_nil ?_ | refine kh_normal ?_))
    refine mkzA (α := WldV) (z := .agg #[.int .i64 0, .slice none 0 0]) (by kernel_rfl) rfl rfl rfl rfl rfl (by omega) (by omega) (by omega) (by omega) (fun bm => ?_)
    simp only [show (64 : Int).toNat = 64 from rfl]
    (repeat' (first | (show VH _ _ _ _ _ _ _; first | refine v_seq ?_ | refine r_seq ?_ | refine v_block ?_) | (show SH _ _ _ _ _ (_ :: _) _ _ _; (show SH _ _ _ _ _ (⟨_, .assign _, _, _, _, _⟩ :: _) _ _ _; refine asg evL ?_)) | refine s_nil ?_ | refine kh_normal ?_))
    refine v_normS [(11,13),(123,151)] _ agL [(11,_),(12,_),(13,_)] heL (fun g => ?_)
    refine v_loop [(13,13),(130,142)] (fun y : Nat × List WldV => [(13, .int .i64 y.1)]) (fun y => orow 24 (some ⟨bm, 0, none⟩) 64 y.2 :: orow 53 (some ⟨bk, 0, none⟩) rs.length gl :: orow 53 A0 c0 sl :: twin 24 A1 c1 l1 A1 c1 l1 :: ((ts.eraseIdx k).map (twP 24) ++ H)) (fun y => y.1 ≤ 64 ∧ y.2.length = 64 ∧ y.2.take y.1 = marksG mkW ((k : Int) + (rs.length : Int)) 0 y.1) (fun y => 64 - y.1) (0, List.replicate 64 (Flat.dflt : WldV)) hsL (ent_refl _) ⟨Nat.zero_le _, List.length_replicate, rfl⟩ ?_
    rintro ⟨i, ml⟩ g2 ⟨hi, h2, ht2⟩
    simp only [sets]
    simp only at hi h2 ht2
    (repeat' (first | (show VH _ _ _ _ _ _ _; first | refine v_seq ?_ | refine r_seq ?_ | refine v_block ?_ | refine v_skip ?_ | refine v_exit ?_ | refine v_cond_dec rfl (fun h => ?_) (fun h => ?_)) | (show SH _ _ _ _ _ (_ :: _) _ _ _; first | (show SH _ _ _ _ _ (⟨_, .move _, _, _, _, _⟩ :: _) _ _ _; refine mov evL ?_) | (show SH _ _ _ _ _ (⟨_, .binOp .add _ _ _ _, _, _, _, _⟩ :: _) _ _ _; refine add rfl rfl inL ?_) | refine lss rfl rfl ?_ | (show SH _ _ _ _ _ (⟨_, .load _ _, _, _, _, _⟩ :: _) _ _ _; refine lsl rfl (fun _ _ => rdL) omL (by assumption) ?_) | (show SH _ _ _ _ _ (⟨_, .indexAddr _ _ _, _, _, _, _⟩ :: _) _ _ _; refine ix rfl rfl (by with_reducible rfl) (fun _ _ => rdL) (by rfl) omL omL ?_) | refine slen rfl ?_ | (show SH _ _ _ _ _ (⟨_, .call ⟨.value (.func 114), _, _⟩, _, _, _, _⟩ :: _) _ _ _; refine cl (callee := .func 114) rfl (fun w hw => markWorld_spec _ _ w (by omega) (by omega)) rfl rfl ?_)) | refine s_nil ?_ | refine kh_normal ?_ | refine kh_exit ?_ | refine bh_exit ?_))
    · refine stv (i := i) (l := ml) (A := some ⟨bm, 0, none⟩) (mkW ((k : Int) + (rs.length : Int)) i) rfl rfl rfl spL rfl (by omega) rfl trivial ?_
      (repeat' (first | refine r_seq ?_ | (show SH _ _ _ _ _ (_ :: _) _ _ _; first | (show SH _ _ _ _ _ (⟨_, .move _, _, _, _, _⟩ :: _) _ _ _; refine mov evL ?_) | (show SH _ _ _ _ _ (⟨_, .assign _, _, _, _, _⟩ :: _) _ _ _; refine asg evL ?_) | (show SH _ _ _ _ _ (⟨_, .binOp .add _ _ _ _, _, _, _, _⟩ :: _) _ _ _; refine add rfl rfl inL ?_)) | refine s_nil ?_ | refine kh_normal ?_ | refine bh_normal ?_))
      refine ⟨agL, (i + 1, ml.set i (mkW ((k : Int) + (rs.length : Int)) i)), hsL, enL, ⟨by show i + 1 ≤ _; omega, by show (ml.set i _).length = _; rw [List.length_set]; exact h2, ?_⟩, by show _ - (i + 1) < _ - i; omega⟩
      show (ml.set i (mkW ((k : Int) + (rs.length : Int)) i)).take (i + 1) = _
      rw [take_set_snoc _ _ _ (by omega), ht2, marksG_snoc, Nat.zero_add]
    · have hi64 : i = 64 := by omega
      subst hi64
      rw [List.take_of_length_le (by omega)] at ht2
      subst ht2
      refine app3 rfl rfl rfl spL (fun w hw => hw.rd spL) rfl rfl (by rw [marksG_len]) (by rw [marksG_len]; omega) (by rw [marksG_len]; omega) (fun A2 cp2 => ⟨trivial, ?_⟩)
      (repeat' ((show SH _ _ _ _ _ (_ :: _) _ _ _; (show SH _ _ _ _ _ (⟨_, .indexAddr _ _ _, _, _, _, _⟩ :: _) _ _ _; refine ix rfl rfl (by with_reducible rfl) (fun _ _ => rdL) (by rfl) omL omL ?_))))
      refine st1 (α := SliceV) ⟨A2, (l1 ++ marksG mkW ((k : Int) + (rs.length : Int)) 0 64).length, cp2⟩ rfl rfl rfl spL rfl (by omega) rfl rfl rfl trivial ?_
      (repeat' (first | refine r_seq ?_ | (show SH _ _ _ _ _ (_ :: _) _ _ _; first | (show SH _ _ _ _ _ (⟨_, .move _, _, _, _, _⟩ :: _) _ _ _; refine mov evL ?_) | (show SH _ _ _ _ _ (⟨_, .assign _, _, _, _, _⟩ :: _) _ _ _; refine asg evL ?_) | (show SH _ _ _ _ _ (⟨_, .binOp .add _ _ _ _, _, _, _, _⟩ :: _) _ _ _; refine add rfl rfl inL ?_)) | refine s_nil ?_ | refine kh_normal ?_ | refine bh_normal ?_))
      exact ⟨agL, (k + 1, (ts.set k ⟨A1, c1, l1, A2, cp2, l1 ++ marksG mkW ((k : Int) + (rs.length : Int)) 0 64⟩, gl.set k ⟨A2, (l1 ++ marksG mkW ((k : Int) + (rs.length : Int)) 0 64).length, cp2⟩)), hsL, ent_cons spL (ent_cons spL ((ent_cons Split.head (ent_drop (ent_refl _))).trans (ent_map_close (f := twP 24) (x := ⟨A1, c1, l1, A2, cp2, l1 ++ marksG mkW ((k : Int) + (rs.length : Int)) 0 64⟩) (by omega)))), ⟨by show k + 1 ≤ _; omega, htw.step (by omega) hr rfl⟩, by show _ - (k + 1) < _ - k; omega⟩
  have hke : k = rs.length := by omega
  subst hke
  have hdone := htw.done
  have hbase : ∀ {j A1 c1 l1 A2 c2 L}, j < rs.length → ts.getD j twD = ⟨A1, c1, l1, A2, c2, L⟩ → rs1.getD j rowD = ⟨A1, c1, l1⟩ := fun {j A1 c1 l1 A2 c2 L} h1 h2 => by
    rw [← htw.base, getD_map' (d := twD) (by omega), h2]; rfl
  (repeat' (first | (show VH _ _ _ _ _ _ _; first | refine v_seq ?_ | refine r_seq ?_ | refine v_block ?_ | refine v_exit ?_ | refine v_cond_f rfl tbL ?_) | (show SH _ _ _ _ _ (_ :: _) _ _ _; first | (show SH _ _ _ _ _ (⟨_, .move _, _, _, _, _⟩ :: _) _ _ _; refine mov evL ?_) | (show SH _ _ _ _ _ (⟨_, .assign _, _, _, _, _⟩ :: _) _ _ _; refine asg evL ?_) | refine lss rfl rfl ?_ | refine slen rfl ?_) | refine s_nil ?_ | refine kh_normal ?_ | refine kh_exit ?_ | refine bh_exit ?_))
  refine v_norm [(0,_),(5,_),(14,_)] heL (fun g => ?_)
  refine v_loop0 [(2,2),(14,15),(152,192)] (fun k : Nat => [(14, .int .i64 k)]) (fun k => k ≤ rs.length) (fun k => rs.length - k) 0 hsL (Nat.zero_le _) ?_
  rintro k g hk
  simp only [sets]
  by_cases hkn : k < rs.length
  · obtain ⟨A1, c1, l1, A2, c2, L, ht⟩ : ∃ A1 c1 l1 A2 c2 L, ts.getD k twD = ⟨A1, c1, l1, A2, c2, L⟩ := ⟨_, _, _, _, _, _, rfl⟩
    have hr := hbase hkn ht
    obtain ⟨hg, hlen⟩ := hsub hs1 (by omega) hr
    obtain ⟨hg2, hL⟩ := hdone k hkn
    rw [ht] at hg2 hL
    simp only at hg2 hL
    have hmk1 := hmk hkn hr
    have hLn : L.length = l1.length + 64 := by rw [hL, List.length_append, marksG_len]
    have hv2 : ∀ i, i < l1.length → l1.getD i Flat.dflt = mkW k i := fun i hi => by rw [hmk1, marksG_get _ _ hi, Nat.zero_add]
    have hv1 : ∀ i, i < l1.length → L.getD i Flat.dflt = mkW k i := fun i hi => by
      rw [← hv2 i hi, hL]; simp [List.getD_eq_getElem?_getD, List.getElem?_append_left hi]
    refine VH.ent (G := orow 53 (some ⟨bk, 0, none⟩) rs.length gl :: orow 53 A0 c0 sl :: twin 24 A1 c1 l1 A2 c2 L :: ((ts.eraseIdx k).map (twP 24) ++ H)) ?_ (ent_cons Split.head (ent_cons Split.head (by have := ent_map_open (f := twP 24) (d := twD) (H := H) (L := ts) (k := k) (by omega); rw [ht] at this; exact this)))
    clear hL hmk1
    (repeat' (first | (show VH _ _ _ _ _ _ _; first | refine v_seq ?_ | refine r_seq ?_ | refine v_block ?_ | refine v_skip ?_ | refine v_cond_t rfl tbL ?_) | (show SH _ _ _ _ _ (_ :: _) _ _ _; first | (show SH _ _ _ _ _ (⟨_, .move _, _, _, _, _⟩ :: _) _ _ _; refine mov evL ?_) | (show SH _ _ _ _ _ (⟨_, .assign _, _, _, _, _⟩ :: _) _ _ _; refine asg evL ?_) | refine lss rfl rfl ?_ | refine slen rfl ?_) | refine s_nil ?_ | refine kh_normal ?_))
    refine v_normS [(2,2),(14,15),(152,192)] _ agL [(14,_),(15,_)] heL (fun g => ?_)
    refine v_loop0 [(2,2),(15,15),(158,192)] (fun i : Nat => [(15, .int .i64 i)]) (fun i => i ≤ l1.length) (fun i => l1.length - i) 0 hsL (Nat.zero_le _) ?_
    rintro i g2 hi
    simp only [sets]
    by_cases hil : i < l1.length
    · have e1 := hv1 i hil
      have e2 := hv2 i hil
      have hq := fun w => markWorld_spec k i w (by omega) (by omega)
      have hs := fun w => sameMarkW k i w
      generalize mkW k i = q at e1 hq e2 hs
      have f1 : Flat.enc (L.getD i Flat.dflt) = Flat.enc q := by rw [e1]
      have f2 : Flat.enc (l1.getD i Flat.dflt) = Flat.enc q := by rw [e2]
      clear hv1 hv2 e1 e2
      (repeat' (first | (show VH _ _ _ _ _ _ _; first | refine v_seq ?_ | refine r_seq ?_ | refine r_quiet hmix (by kernel_rfl) ?_ | refine v_block ?_ | refine v_skip ?_ | refine v_cond_t rfl tbL ?_ | refine v_cond_f rfl tbL ?_) | (show SH _ _ _ _ _ (_ :: _) _ _ _; first | (show SH _ _ _ _ _ (⟨_, _, _, _, _, some _⟩ :: _) _ _ _; (refine gif rfl rfl ?_; refine giFF tbL ?_)) | (show SH _ _ _ _ _ (⟨_, .move _, _, _, _, _⟩ :: _) _ _ _; refine mov evL ?_) | (show SH _ _ _ _ _ (⟨_, .assign _, _, _, _, _⟩ :: _) _ _ _; refine asg evL ?_) | (show SH _ _ _ _ _ (⟨_, .binOp .add _ _ _ _, _, _, _, _⟩ :: _) _ _ _; refine add rfl rfl inL ?_) | refine lss rfl rfl ?_ | (show SH _ _ _ _ _ (⟨_, .load _ _, _, _, _, _⟩ :: _) _ _ _; first | refine lsl rfl (fun _ _ => rdL) omL (by assumption) ?_ | refine lag rfl (fun _ _ => rdY) (by rfl) omL (by assumption) ?_) | (show SH _ _ _ _ _ (⟨_, .indexAddr _ _ _, _, _, _, _⟩ :: _) _ _ _; refine ix rfl rfl (by with_reducible rfl) (fun _ _ => rdL) (by rfl) omL omL ?_) | refine slen rfl ?_ | (show SH _ _ _ _ _ (⟨_, .call ⟨.value (.func 114), _, _⟩, _, _, _, _⟩ :: _) _ _ _; refine cl (callee := .func 114) rfl (fun w hw => hq w) rfl rfl ?_) | (show SH _ _ _ _ _ (⟨_, .call ⟨.value (.func 24), _, _⟩, _, _, _, _⟩ :: _) _ _ _; refine cl (callee := .func 24) rfl (fun w hw => hs w) rfl rfl ?_) | (show SH _ _ _ _ _ (⟨_, .pick _ _ _, _, _, _, _⟩ :: _) _ _ _; refine pkf rfl tbL evL ?_) | refine bnot rfl ?_) | refine s_nil ?_ | refine kh_normal ?_ | refine bh_normal ?_))
      exact ⟨agL, i + 1, hsL, enL, by omega, by omega⟩
    · (repeat' (first | (show VH _ _ _ _ _ _ _; first | refine v_seq ?_ | refine r_seq ?_ | refine v_exit ?_ | refine v_cond_f rfl tbL ?_) | (show SH _ _ _ _ _ (_ :: _) _ _ _; first | (show SH _ _ _ _ _ (⟨_, .move _, _, _, _, _⟩ :: _) _ _ _; refine mov evL ?_) | (show SH _ _ _ _ _ (⟨_, .assign _, _, _, _, _⟩ :: _) _ _ _; refine asg evL ?_) | (show SH _ _ _ _ _ (⟨_, .binOp .add _ _ _ _, _, _, _, _⟩ :: _) _ _ _; refine add rfl rfl inL ?_) | refine lss rfl rfl ?_ | (show SH _ _ _ _ _ (⟨_, .load _ _, _, _, _, _⟩ :: _) _ _ _; refine lsl rfl (fun _ _ => rdL) omL (by assumption) ?_) | (show SH _ _ _ _ _ (⟨_, .indexAddr _ _ _, _, _, _, _⟩ :: _) _ _ _; refine ix rfl rfl (by with_reducible rfl) (fun _ _ => rdL) (by rfl) omL omL ?_) | refine slen rfl ?_) | refine s_nil ?_ | refine kh_normal ?_ | refine kh_exit ?_ | refine bh_normal ?_ | refine bh_exit ?_))
      exact ⟨agL, k + 1, hsL, ent_cons Split.head (ent_cons Split.head (by have := ent_map_back (f := twP 24) (d := twD) (H := H) (L := ts) (k := k) (by omega); rw [ht] at this; exact this)), by omega, by omega⟩
  · (repeat' (first | (show VH _ _ _ _ _ _ _; first | refine v_seq ?_ | refine r_seq ?_ | refine v_ret ?_ | refine v_exit ?_ | refine v_cond_f rfl tbL ?_) | (show SH _ _ _ _ _ (_ :: _) _ _ _; first | (show SH _ _ _ _ _ (⟨_, .move _, _, _, _, _⟩ :: _) _ _ _; refine mov evL ?_) | (show SH _ _ _ _ _ (⟨_, .assign _, _, _, _, _⟩ :: _) _ _ _; refine asg evL ?_) | refine lss rfl rfl ?_ | refine slen rfl ?_) | refine s_nil ?_ | refine kh_normal ?_ | refine kh_exit ?_ | refine bh_exit ?_))
    exact rh1 rfl rfl ⟨rfl, rfl⟩ (ent_drop (ent_drop (ent_maps_drop ts)))
end Go.Proofs.YtjefoecnciepmaaGreatDoor

