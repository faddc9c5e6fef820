/- The law's package of layer 15: spoil. -/
import Derived.Test.YtfodpcpclmnbkaaDoorZTw
import Derived.Test.YtfodpcpclmnbkaaDoorZJd
import Derived.Test.YtfodpcpclmnbkaaDoorZWr
import Derived.Test.YtfodpcpclmnbkaaDoorZWz
set_option linter.unusedSimpArgs false
set_option linter.unusedVariables false
namespace Go.Proofs.YtfodpcpclmnbkaaDoor
open Go.Fw Go.RowKit
theorem encs_set {α : Type} [F : Flat α] {l : List α} {i : Nat} {x : α} (h : i < l.length) (hx : F.enc x = F.enc (l.getD i F.dflt)) : encs (l.set i x) = encs l := by
  unfold encs
  induction l generalizing i with
  | nil => simp at h
  | cons y l ih =>
    cases i with
    | zero => simpa [List.flatMap_cons] using hx
    | succ i => simp [List.flatMap_cons] at *; exact ih h hx
theorem orow_set {α : Type} [F : Flat α] {e : TypeId} {A : Option Addr} {c i : Nat} {l : List α} {x : α} (h : i < l.length) (hx : F.enc x = F.enc (l.getD i F.dflt)) : orow e A c (l.set i x) = orow e A c l := by
  unfold orow
  rw [encs_set h hx, List.length_set]
theorem rows_set {M : List EntP} {k : Nat} {x : EntP} (h : k < M.length) (hx : rowOf x = rowOf (M.getD k Flat.dflt)) : (M.set k x).map rowOf = M.map rowOf := by
  rw [List.map_set, hx]
  refine List.ext_getElem? fun i => ?_
  rw [List.getElem?_set, List.getElem?_map]
  by_cases he : k = i
  · subst he
    rw [if_pos rfl, if_pos (by rw [List.length_map]; exact h), List.getElem?_eq_getElem h, List.getD_eq_getElem?_getD, List.getElem?_eq_getElem h]; rfl
  · rw [if_neg he]
set_option maxHeartbeats 4000000 in
set_option maxRecDepth 100000 in
theorem spoil_spec (t : Int) (A : Option Addr) (L : List EntP) (c : Nat) (w0 : World) (H : List HP) (w : World) (hl : L.length ≤ 1000000) (hse : ∀ x ∈ L, x.e.comps.length ≤ 1000000) (hw : Wd w0 (orow 32 A c L :: allH (L.map rowOf) :: H) w) :
    Ret Tryd.prog 43 [wv t A L c].toArray w (RP w0 fun _ H' => H' = H) := by
  unfold wv
  refine enterH Tryd.func43 rfl rfl Tryd.ntmps43 rfl (by assumption) ?_
  (repeat' (first | (show VH _ _ _ _ _ _ _; first | refine v_seq ?_ | refine r_seq ?_ | refine v_block ?_) | (show SH _ _ _ _ _ (_ :: _) _ _ _; first | (show SH _ _ _ _ _ (⟨_, .move _, _, _, _, _⟩ :: _) _ _ _; refine mov evL ?_) | (show SH _ _ _ _ _ (⟨_, .load _ _, _, _, _, _⟩ :: _) _ _ _; refine lbx rfl spL (by rfl) ?_) | refine slen rfl ?_ | refine fad rfl ?_ | (show SH _ _ _ _ _ (⟨_, .box _ _, _, _, _, _⟩ :: _) _ _ _; refine bxx rfl evL rfl (fun b => ?_))) | refine s_nil ?_ | refine kh_normal ?_))
  refine v_loop [(2,3),(7,45)] (fun s : Nat × List EntP => [(7, .int .i64 s.1)]) (fun s => orow 32 A c s.2 :: allH (s.2.map rowOf) :: bx b 25 [.int .i64 t, .slice A L.length c] :: H) (fun s => s.1 ≤ L.length ∧ s.2.length = L.length ∧ ∀ x ∈ s.2, x.e.comps.length ≤ 1000000) (fun s => L.length - s.1) (0, L) hsL enL ⟨Nat.zero_le _, rfl, hse⟩ ?_
  rintro ⟨k, M⟩ g ⟨hk, hM, hMs⟩
  simp only [sets]
  simp only at hk hM hMs
  by_cases hkl : k < L.length
  · have hkM : k < M.length := by omega
    have hxs := hMs _ (getD_mem (d := Flat.dflt) hkM)
    obtain ⟨x, hxe⟩ : ∃ x, M.getD k Flat.dflt = x := ⟨_, rfl⟩
    have hxE : Flat.enc (M.getD k Flat.dflt) = Flat.enc x := by rw [hxe]
    rw [hxe] at hxs
    obtain ⟨⟨ei, cs⟩, Ax, cx⟩ := x
    simp only at hxs
    rw [show Flat.enc (⟨⟨ei, cs⟩, Ax, cx⟩ : EntP) = [.int .i64 ei, .slice Ax cs.length cx] from rfl] at hxE
    (repeat' (first | (show VH _ _ _ _ _ _ _; first | refine v_seq ?_ | refine r_seq ?_ | refine v_block ?_ | refine v_skip ?_ | refine v_cond_t rfl tbL ?_) | (show SH _ _ _ _ _ (_ :: _) _ _ _; first | (show SH _ _ _ _ _ (⟨_, .move _, _, _, _, _⟩ :: _) _ _ _; refine mov evL ?_) | (show SH _ _ _ _ _ (⟨_, .assign _, _, _, _, _⟩ :: _) _ _ _; refine asg evL ?_) | (show SH _ _ _ _ _ (⟨_, .binOp .lss _ _ _ _, _, _, _, _⟩ :: _) _ _ _; refine lssT rfl rfl omD ?_) | (show SH _ _ _ _ _ (⟨_, .load _ _, _, _, _, _⟩ :: _) _ _ _; first | refine lrg rfl (fun _ _ => rdY) (by rfl) omL (by assumption) (by rfl) ?_ | refine lbx rfl spL (by rfl) ?_) | (show SH _ _ _ _ _ (⟨_, .indexAddr _ _ _, _, _, _, _⟩ :: _) _ _ _; refine ix rfl rfl (by with_reducible rfl) (fun _ _ => rdY) (by rfl) omL omL ?_) | refine fad rfl ?_) | refine s_nil ?_ | refine kh_normal ?_))
    refine addw rfl rfl _ rfl ?_
    generalize IntKind.i64.wrap (ei + 7) = e2
    (repeat' ((show SH _ _ _ _ _ (_ :: _) _ _ _; first | (show SH _ _ _ _ _ (⟨_, .indexAddr _ _ _, _, _, _, _⟩ :: _) _ _ _; refine ix rfl rfl (by with_reducible rfl) (fun _ _ => rdY) (by rfl) omL omL ?_) | refine fad rfl ?_)))
    refine stf (x' := (⟨⟨e2, cs⟩, Ax, cx⟩ : EntP)) (i := k) (off := 0) (l := M) (A := A) rfl rfl rfl spL rfl hkM rfl rfl (by decide) (by rw [hxE]; rfl) enL ?_
    have hMr : (M.set k (⟨⟨e2, cs⟩, Ax, cx⟩ : EntP)).map rowOf = M.map rowOf := rows_set hkM (by rw [hxe])
    have hM2s : ∀ x ∈ M.set k (⟨⟨e2, cs⟩, Ax, cx⟩ : EntP), x.e.comps.length ≤ 1000000 := fun x hx => by
      rcases List.mem_or_eq_of_mem_set hx with h | h
      · exact hMs x h
      · rw [h]; exact hxs
    have hM2g : (M.set k (⟨⟨e2, cs⟩, Ax, cx⟩ : EntP)).getD k Flat.dflt = (⟨⟨e2, cs⟩, Ax, cx⟩ : EntP) := by
      rw [List.getD_eq_getElem?_getD, List.getElem?_set, if_pos rfl, if_pos hkM]; rfl
    have hM2l : (M.set k (⟨⟨e2, cs⟩, Ax, cx⟩ : EntP)).length = L.length := by rw [List.length_set]; exact hM
    rw [← hMr]
    generalize M.set k (⟨⟨e2, cs⟩, Ax, cx⟩ : EntP) = M2 at hM2s hM2g hM2l ⊢
    clear hMr hMs hxE hxe hM hkM
    have hk2 : k < M2.length := by omega
    have hxE : Flat.enc (M2.getD k Flat.dflt) = [.int .i64 e2, .slice Ax cs.length cx] := by rw [hM2g]; rfl
    have hop := ent_all_open (f := rowOf) (d := (Flat.dflt : EntP)) (L := M2) (G := orow 32 A c M2 :: bx b 25 [.int .i64 t, .slice A L.length c] :: H) hk2
    rw [hM2g] at hop
    (repeat' (first | (show VH _ _ _ _ _ _ _; first | refine v_seq ?_ | refine r_seq ?_ | refine v_block ?_) | (show SH _ _ _ _ _ (_ :: _) _ _ _; first | (show SH _ _ _ _ _ (⟨_, .move _, _, _, _, _⟩ :: _) _ _ _; refine mov evL ?_) | (show SH _ _ _ _ _ (⟨_, .load _ _, _, _, _, _⟩ :: _) _ _ _; first | refine lrg rfl (fun _ _ => rdY) (by rfl) omL (by assumption) (by rfl) ?_ | refine lbx rfl spL (by rfl) ?_) | (show SH _ _ _ _ _ (⟨_, .indexAddr _ _ _, _, _, _, _⟩ :: _) _ _ _; refine ix rfl rfl (by with_reducible rfl) (fun _ _ => rdY) (by rfl) omL omL ?_) | refine slen rfl ?_ | refine fad rfl ?_) | refine s_nil ?_ | refine kh_normal ?_))
    refine v_loop [(3,3),(26,44)] (fun s : Nat × List Comp => [(26, .int .i64 s.1)]) (fun s => orow 42 Ax cx s.2 :: allH ((M2.eraseIdx k).map rowOf) :: orow 32 A c M2 :: bx b 25 [.int .i64 t, .slice A L.length c] :: H) (fun s => s.1 ≤ cs.length ∧ s.2.length = cs.length) (fun s => cs.length - s.1) (0, cs) hsL (Ent.trans (B := allH (M2.map rowOf) :: orow 32 A c M2 :: bx b 25 [.int .i64 t, .slice A L.length c] :: H) enL hop) ⟨Nat.zero_le _, rfl⟩ ?_
    rintro ⟨j, ds⟩ g2 ⟨hj, hds⟩
    simp only [sets]
    simp only at hj hds
    by_cases hjl : j < cs.length
    · have hjd : j < ds.length := by omega
      obtain ⟨⟨qk, qa, qb, qc, qd⟩, hq⟩ : ∃ q, ds.getD j Flat.dflt = q := ⟨_, rfl⟩
      have hqE : Flat.enc (ds.getD j Flat.dflt) = [.int .u8 qk, .int .i64 qa, .int .i64 qb, .int .i64 qc, .int .i64 qd] := by rw [hq]; rfl
      clear hop
      (repeat' (first | (show VH _ _ _ _ _ _ _; first | refine v_seq ?_ | refine r_seq ?_ | refine v_block ?_ | refine v_skip ?_ | refine v_cond_t rfl tbL ?_) | (show SH _ _ _ _ _ (_ :: _) _ _ _; first | (show SH _ _ _ _ _ (⟨_, .move _, _, _, _, _⟩ :: _) _ _ _; refine mov evL ?_) | (show SH _ _ _ _ _ (⟨_, .assign _, _, _, _, _⟩ :: _) _ _ _; refine asg evL ?_) | (show SH _ _ _ _ _ (⟨_, .binOp .lss _ _ _ _, _, _, _, _⟩ :: _) _ _ _; refine lssT rfl rfl omD ?_)) | refine s_nil ?_ | refine kh_normal ?_))
      refine v_some (A := Ax) (l := ds) spL (by omega) (fun hAx => ?_)
      refine r_heldT [bx b 25 [.int .i64 t, .slice A L.length c], orow 32 A c M2] (tr [(0, true), (1, true), (2, true), (3, true), (4, true), (5, true), (6, false), (7, true), (8, true), (9, true), (12, true), (13, true), (10, false), (11, false), (14, false), (15, false)] .nil) hmix (by kernel_rfl) enL ?_
      (repeat' ((show SH _ _ _ _ _ (_ :: _) _ _ _; first | (show SH _ _ _ _ _ (⟨_, .move _, _, _, _, _⟩ :: _) _ _ _; refine mov evL ?_) | (show SH _ _ _ _ _ (⟨_, .load _ _, _, _, _, _⟩ :: _) _ _ _; first | refine lrg rfl (fun _ _ => rdY) (by rfl) omL (by assumption) (by rfl) ?_ | refine lbx rfl spL (by rfl) ?_) | (show SH _ _ _ _ _ (⟨_, .indexAddr _ _ _, _, _, _, _⟩ :: _) _ _ _; first | refine ix rfl rfl (by with_reducible rfl) (fun _ _ => rdY) (by rfl) omL omL ?_ | refine ixq rfl rfl (by assumption) omL omL ?_ | refine ixA _ rfl rfl rfl omL ?_) | refine fad rfl ?_)))
      refine lrg (i := j) (off := 1) (l := ds) (A := Ax) rfl (fun w hw => hw.rd spL) rfl hjd hqE rfl ?_
      (repeat' (first | (show VH _ _ _ _ _ _ _; first | refine v_seq ?_ | refine r_seq ?_ | refine r_quiet hmix (by kernel_rfl) ?_ | refine v_block ?_ | refine v_ret ?_ | refine v_skip ?_ | refine v_exit ?_ | refine v_label ?_ | refine v_cond_t rfl tbL ?_ | refine v_cond_f rfl tbL ?_ | refine v_cond_dec rfl (fun h => ?_) (fun h => ?_) | refine v_cond_ndec rfl (fun h => ?_) (fun h => ?_) | refine v_cond rfl (fun h => ?_) (fun h => ?_)) | (show SH _ _ _ _ _ (_ :: _) _ _ _; first | (show SH _ _ _ _ _ (⟨_, .move _, _, _, _, _⟩ :: _) _ _ _; refine mov evL ?_) | (show SH _ _ _ _ _ (⟨_, .assign _, _, _, _, _⟩ :: _) _ _ _; refine asg evL ?_) | (show SH _ _ _ _ _ (⟨_, .binOp .lss _ _ _ _, _, _, _, _⟩ :: _) _ _ _; first | refine lssT rfl rfl omD ?_ | refine lssF rfl rfl omD ?_ | refine lss rfl rfl ?_) | (show SH _ _ _ _ _ (⟨_, .binOp .add _ _ _ _, _, _, _, _⟩ :: _) _ _ _; refine add rfl rfl inL ?_) | (show SH _ _ _ _ _ (⟨_, .load _ _, _, _, _, _⟩ :: _) _ _ _; first | refine lgi rfl (fun _ _ => rdY) omL (by assumption) ?_ | refine lag rfl (fun _ _ => rdY) (by rfl) omL (by assumption) ?_ | refine lrg rfl (fun _ _ => rdY) (by rfl) omL (by assumption) (by rfl) ?_ | refine lin rfl (fun _ _ => rdY) omL ?_ | refine lbx rfl spL (by rfl) ?_ | refine lba rfl spL (by rfl) ?_ | refine lbi rfl spL omL ?_ | refine lr1 rfl (fun _ _ => rdY) (by rfl) omL (by rfl) ?_ | refine lra rfl (fun _ _ => rdY) (by rfl) omL ?_ | refine lrf rfl (fun _ _ => rdY) (by rfl) omL (by rfl) ?_ | refine lcell rfl (fun w hw => hw.ext.cell (by assumption)) ?_ | refine lrs rfl (fun _ _ => rdY) (by rfl) omL (by rfl) (by rfl) ?_ | refine lbs rfl spL (by rfl) (by rfl) ?_ | refine lca rfl (fun _ _ => rdY) (by rfl) ?_ | refine lcs rfl (fun _ _ => rdY) (by rfl) ?_ | refine lcf rfl (fun _ _ => rdY) (by rfl) ?_ | refine lrf rfl (fun _ _ => rdY) (by rfl) (by simp only [List.length_cons, List.length_nil]; omega) (by rfl) ?_ | refine lra rfl (fun _ _ => rdY) (by rfl) (by simp only [List.length_cons, List.length_nil]; omega) ?_) | (show SH _ _ _ _ _ (⟨_, .indexAddr _ _ _, _, _, _, _⟩ :: _) _ _ _; first | refine ix rfl rfl (by with_reducible rfl) (fun _ _ => rdY) (by rfl) omL omL ?_ | refine ixi rfl rfl (fun _ _ => rdY) (by rfl) omL omL omL ?_ | refine ixb rfl rfl omL ?_ | refine ixq rfl rfl (by assumption) omL omL ?_ | refine ixA _ rfl rfl rfl omL ?_ | refine ixi rfl rfl (fun _ _ => rdY) (by rfl) omL (by first | omega | (simp only [List.length_cons, List.length_nil]; omega)) (by simp only [List.length_cons, List.length_nil]; omega) ?_) | refine slen rfl ?_ | refine fad rfl ?_ | (show SH _ _ _ _ _ (⟨_, .box _ _, _, _, _, _⟩ :: _) _ _ _; refine bxx rfl evL rfl (fun b => ?_)) | (show SH _ _ _ _ _ (⟨_, .store _ _ _, _, _, _, _⟩ :: _) _ _ _; first | refine stb rfl rfl evL spL rfl rfl (by first | decide | exact Nat.zero_lt_succ _ | exact of_decide_eq_true rfl) kpL ?_ | refine sta rfl rfl rfl spL (by rfl) (by rfl) (by rfl) kpL ?_ | refine sti rfl rfl rfl spL omL kpL ?_ | refine sbi rfl rfl rfl spL omL kpL ?_ | refine sbs rfl rfl evL spL (by rfl) (by rfl) (of_decide_eq_true rfl) kpL ?_)) | refine s_nil ?_ | refine s_fork ?_ ?_ | refine s_fork3 ?_ ?_ ?_ | refine s_fork4 ?_ ?_ ?_ ?_ | refine kh_normal ?_ | refine kh_ret ?_ | refine kh_exit ?_ | refine bh_normal ?_ | refine bh_ret ?_ | refine bh_exit ?_ | refine bh_exit_ne rfl ?_))
      refine addw rfl rfl _ rfl ?_
      generalize IntKind.i64.wrap (qa + 7) = q2
      (repeat' ((show SH _ _ _ _ _ (_ :: _) _ _ _; (show SH _ _ _ _ _ (⟨_, .indexAddr _ _ _, _, _, _, _⟩ :: _) _ _ _; refine ixA _ rfl rfl rfl omL ?_))))
      refine stf (x' := (⟨qk, q2, qb, qc, qd⟩ : Comp)) (i := j) (off := 1) (l := ds) (A := Ax) rfl rfl rfl spL rfl hjd rfl rfl (by decide) (by rw [hqE]; rfl) enL ?_
      (repeat' (first | refine r_seq ?_ | (show SH _ _ _ _ _ (_ :: _) _ _ _; first | (show SH _ _ _ _ _ (⟨_, .move _, _, _, _, _⟩ :: _) _ _ _; refine mov evL ?_) | (show SH _ _ _ _ _ (⟨_, .binOp .add _ _ _ _, _, _, _, _⟩ :: _) _ _ _; refine add rfl rfl inL ?_)) | refine s_nil ?_ | refine kh_normal ?_ | refine bh_normal ?_))
      exact ⟨agL, (j + 1, ds.set j ⟨qk, q2, qb, qc, qd⟩), hsL, enL, ⟨hjl, by rw [List.length_set]; exact hds⟩, by show _ - (j + 1) < _ - j; omega⟩
    · (repeat' (first | (show VH _ _ _ _ _ _ _; first | refine v_seq ?_ | refine r_seq ?_ | refine v_exit ?_ | refine v_cond_f rfl tbL ?_) | (show SH _ _ _ _ _ (_ :: _) _ _ _; first | (show SH _ _ _ _ _ (⟨_, .move _, _, _, _, _⟩ :: _) _ _ _; refine mov evL ?_) | (show SH _ _ _ _ _ (⟨_, .binOp .lss _ _ _ _, _, _, _, _⟩ :: _) _ _ _; refine lssF rfl rfl omD ?_) | (show SH _ _ _ _ _ (⟨_, .binOp .add _ _ _ _, _, _, _, _⟩ :: _) _ _ _; refine add rfl rfl inL ?_)) | refine s_nil ?_ | refine kh_normal ?_ | refine kh_exit ?_ | refine bh_normal ?_ | refine bh_exit ?_))
      have hor : orow 32 A c (M2.set k (⟨⟨e2, ds⟩, Ax, cx⟩ : EntP)) = orow 32 A c M2 := orow_set hk2 (by rw [hM2g, show Flat.enc (⟨⟨e2, ds⟩, Ax, cx⟩ : EntP) = [.int .i64 e2, .slice Ax ds.length cx] from rfl, hds]; rfl)
      have hcl := ent_all_close (f := rowOf) (L := M2) (x := (⟨⟨e2, ds⟩, Ax, cx⟩ : EntP)) (G := orow 32 A c (M2.set k (⟨⟨e2, ds⟩, Ax, cx⟩ : EntP)) :: bx b 25 [.int .i64 t, .slice A L.length c] :: H) hk2
      rw [hor] at hcl
      refine ⟨agL, (k + 1, M2.set k (⟨⟨e2, ds⟩, Ax, cx⟩ : EntP)), hsL, ?_, ⟨hkl, by rw [List.length_set]; exact hM2l, fun x hx => ?_⟩, by show _ - (k + 1) < _ - k; omega⟩
      · rw [hor]
        exact hcl.trans enL
      · rcases List.mem_or_eq_of_mem_set hx with h | h
        · exact hM2s x h
        · rw [h]; show ds.length ≤ _; omega
  · (repeat' (first | (show VH _ _ _ _ _ _ _; first | refine v_seq ?_ | refine r_seq ?_ | refine v_exit ?_ | refine v_cond_f rfl tbL ?_) | (show SH _ _ _ _ _ (_ :: _) _ _ _; (show SH _ _ _ _ _ (⟨_, .binOp .lss _ _ _ _, _, _, _, _⟩ :: _) _ _ _; refine lssF rfl rfl omD ?_)) | refine s_nil ?_ | refine kh_normal ?_ | refine kh_exit ?_ | refine bh_exit ?_))
    exact rh0n rfl rfl enL
end Go.Proofs.YtfodpcpclmnbkaaDoor
