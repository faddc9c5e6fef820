/- Slices are made whose elements have more than one cell. -/
import Derived.Test.YtjefoecnciepmaaGreatDoorYAa
import Derived.Test.YtjefoecnciepmaaGreatDoorYAb
import Derived.Test.YtjefoecnciepmaaGreatDoorYAc
import Derived.Test.YtjefoecnciepmaaGreatDoorYAd
import Derived.Test.YtjefoecnciepmaaGreatDoorYAe
import Derived.Test.YtjefoecnciepmaaGreatDoorYAf
import Derived.Test.YtjefoecnciepmaaGreatDoorYAg
import Derived.Test.YtjefoecnciepmaaGreatDoorYAh
import Derived.Test.YtjefoecnciepmaaGreatDoorYAi
set_option linter.unusedSimpArgs false
set_option linter.unusedVariables false
/- The kit: worlds that are lent. -/
namespace Go.Proofs.YtjefoecnciepmaaGreatDoor
open Go.Fw Go.RowKit
def mkC (k i : Int) : Comp := ⟨0, markI k i, 0, 0, 0⟩
def mkE (k i : Int) : EntP := ⟨⟨markI k i, []⟩, none, 0⟩
section
variable {md : Md} {n : Nat} {Q : HQ} {f : Fr} {w0 : World} {H R : List HP} {ops : Array Oper} {rest : List Oper} {d : Nat} {ty : TypeId} {pos : String} {aft : Array Edge} {x y : Operand}
theorem bldM1 {a : Int} (h0 : ev n f x = .int .i64 a) (k : SH (nx md) Tryz.prog n ops Q rest (upd f d (.agg [.int .i64 a, .int .i64 0, .int .i64 0, .int .i64 0].toArray)) w0 H) :
    SH md Tryz.prog n ops Q (⟨some d, .build 35 #[(0, x)], ty, pos, aft, none⟩ :: rest) f w0 H :=
  bldA (parts := [(0, x)]) (cs := [.int .i64 a, .int .i64 0, .int .i64 0, .int .i64 0]) (by simp [Instr.fill, h0, Value.cells]) k
theorem bldM2 {a b c e : Int} (h1 : ev n f y = .agg #[.int .i64 a, .int .i64 b, .int .i64 c, .int .i64 e]) (k : SH (nx md) Tryz.prog n ops Q rest (upd f d (.agg (Flat.enc (⟨0, a, b, c, e⟩ : Comp)).toArray)) w0 H) :
    SH md Tryz.prog n ops Q (⟨some d, .build 37 #[(1, y)], ty, pos, aft, none⟩ :: rest) f w0 H :=
  bldN (parts := [(1, y)]) (cs := Flat.enc (⟨0, a, b, c, e⟩ : Comp)) (by simp [Instr.fill, h1, Value.cells, Flat.enc]) k
end
set_option maxHeartbeats 1000000 in
set_option maxRecDepth 100000 in
theorem markComp_spec (k i : Int) (w : World) (hk : -1000000 ≤ k ∧ k ≤ 1000000) (hi : -1000000000000 ≤ i ∧ i ≤ 1000000000000) :
    Ret Tryz.prog 113 [.int .i64 k, .int .i64 i].toArray w (Out w (.agg (Flat.enc (mkC k i)).toArray)) := by
  have hm := fun w => mark_spec k i w hk hi
  unfold mkC
  generalize markI k i = m at hm ⊢
  clear hk hi
  refine enterH Tryz.func113 rfl rfl Tryz.ntmps113 rfl (Wd.refl _) ?_
  (repeat' (first | (show VH _ _ _ _ _ _ _; first | refine v_seq ?_ | refine r_seq ?_) | (show SH _ _ _ _ _ (_ :: _) _ _ _; first | (show SH _ _ _ _ _ (⟨_, .move _, _, _, _, _⟩ :: _) _ _ _; refine mov evL ?_) | (show SH _ _ _ _ _ (⟨_, .call ⟨.value (.func 94), _, _⟩, _, _, _, _⟩ :: _) _ _ _; refine cl (callee := .func 94) rfl (fun w hw => hm w) rfl rfl ?_) | refine ala rfl (fun b => ?_)) | refine s_nil ?_ | refine kh_normal ?_))
  refine bldM1 rfl ?_
  (repeat' (first | (show VH _ _ _ _ _ _ _; first | refine v_seq ?_ | refine r_seq ?_ | refine r_quiet hmix (by kernel_rfl) ?_ | refine v_block ?_ | refine v_ret ?_ | refine v_skip ?_ | refine v_exit ?_ | refine v_label ?_ | refine v_cond_t rfl tbL ?_ | refine v_cond_f rfl tbL ?_ | refine v_cond_dec rfl (fun h => ?_) (fun h => ?_) | refine v_cond_ndec rfl (fun h => ?_) (fun h => ?_) | refine v_cond rfl (fun h => ?_) (fun h => ?_)) | (show SH _ _ _ _ _ (_ :: _) _ _ _; first | (show SH _ _ _ _ _ (⟨_, .move _, _, _, _, _⟩ :: _) _ _ _; refine mov evL ?_) | (show SH _ _ _ _ _ (⟨_, .build _ _, _, _, _, _⟩ :: _) _ _ _; first | refine bld rfl rfl ?_ | refine bldZ ?_ | refine bldZN ?_) | (show SH _ _ _ _ _ (⟨_, .alloc _, _, _, _, _⟩ :: _) _ _ _; first | refine al1 rfl (fun b => ?_) | refine ala rfl (fun b => ?_)) | (show SH _ _ _ _ _ (⟨_, .store _ _ _, _, _, _, _⟩ :: _) _ _ _; first | refine stb rfl rfl evL spL rfl rfl (by first | decide | exact Nat.zero_lt_succ _ | exact of_decide_eq_true rfl) kpL ?_ | refine sta rfl rfl rfl spL (by rfl) (by rfl) (by rfl) kpL ?_ | refine sti rfl rfl rfl spL omL kpL ?_ | refine sbi rfl rfl rfl spL omL kpL ?_ | refine sbs rfl rfl evL spL (by rfl) (by rfl) (of_decide_eq_true rfl) kpL ?_)) | refine s_nil ?_ | refine s_fork ?_ ?_ | refine s_fork3 ?_ ?_ ?_ | refine s_fork4 ?_ ?_ ?_ ?_ | refine kh_normal ?_ | refine kh_ret ?_ | refine kh_exit ?_ | refine bh_normal ?_ | refine bh_ret ?_ | refine bh_exit ?_ | refine bh_exit_ne rfl ?_))
  refine bldM2 rfl ?_
  (repeat' (first | refine v_ret ?_ | (show SH _ _ _ _ _ (_ :: _) _ _ _; (show SH _ _ _ _ _ (⟨_, .store _ _ _, _, _, _, _⟩ :: _) _ _ _; refine sta rfl rfl rfl spL (by rfl) (by rfl) (by rfl) kpL ?_)) | refine s_nil ?_ | refine kh_normal ?_))
  exact rhC rfl rfl rfl (fun w hw => loadVar_bx hw spL (by rfl)) ⟨rfl, rfl⟩ (ent_nil _)
set_option maxHeartbeats 1000000 in
set_option maxRecDepth 100000 in
theorem markEntity_spec (k i : Int) (w : World) (hk : -1000000 ≤ k ∧ k ≤ 1000000) (hi : -1000000000000 ≤ i ∧ i ≤ 1000000000000) :
    Ret Tryz.prog 50 [.int .i64 k, .int .i64 i].toArray w (Out w (.agg (Flat.enc (mkE k i)).toArray)) := by
  have hm := fun w => mark_spec k i w hk hi
  unfold mkE
  generalize markI k i = m at hm ⊢
  clear hk hi
  refine enterH Tryz.func50 rfl rfl Tryz.ntmps50 rfl (Wd.refl _) ?_
  (repeat' (first | (show VH _ _ _ _ _ _ _; first | refine v_seq ?_ | refine r_seq ?_ | refine v_ret ?_) | (show SH _ _ _ _ _ (_ :: _) _ _ _; first | (show SH _ _ _ _ _ (⟨_, .move _, _, _, _, _⟩ :: _) _ _ _; refine mov evL ?_) | (show SH _ _ _ _ _ (⟨_, .call ⟨.value (.func 94), _, _⟩, _, _, _, _⟩ :: _) _ _ _; refine cl (callee := .func 94) rfl (fun w hw => hm w) rfl rfl ?_) | refine bld rfl rfl ?_ | refine ala rfl (fun b => ?_) | (show SH _ _ _ _ _ (⟨_, .store _ _ _, _, _, _, _⟩ :: _) _ _ _; refine sta rfl rfl rfl spL (by rfl) (by rfl) (by rfl) kpL ?_)) | refine s_nil ?_ | refine kh_normal ?_))
  exact rhC rfl rfl rfl (fun w hw => loadVar_bx hw spL (by rfl)) ⟨rfl, rfl⟩ (ent_nil _)
set_option maxHeartbeats 2000000 in
set_option maxRecDepth 100000 in
theorem lentComps_spec (B : Option Addr) (l : List Comp) (c : Nat) (w : World) (hl : l.length ≤ 1000000) (hB : Rd w B l) :
    Ret Tryz.prog 93 [.slice B l.length c].toArray w (RP w fun v H' => ∃ A cp, l.length + 12 ≤ cp ∧ v = .slice A l.length cp ∧ H' = [orow 37 A cp (l ++ marksG mkC 1 0 12)]) := by
  have hmk := fun (i : Nat) (hi : i < 12) w => markComp_spec 1 i w (by omega) (by omega)
  refine enterH Tryz.func93 rfl rfl Tryz.ntmps93 rfl (Wd.refl _) ?_
  (repeat' (first | (show VH _ _ _ _ _ _ _; first | refine v_seq ?_ | refine r_seq ?_) | (show SH _ _ _ _ _ (_ :: _) _ _ _; first | (show SH _ _ _ _ _ (⟨_, .move _, _, _, _, _⟩ :: _) _ _ _; refine mov evL ?_) | (show SH _ _ _ _ _ (⟨_, .assign _, _, _, _, _⟩ :: _) _ _ _; refine asg evL ?_) | (show SH _ _ _ _ _ (⟨_, .binOp .add _ _ _ _, _, _, _, _⟩ :: _) _ _ _; refine add rfl rfl inL ?_) | refine slen rfl ?_) | refine s_nil ?_ | refine kh_normal ?_))
  refine mk0 (α := Comp) rfl rfl rfl rfl (by omega) (by omega) (by omega) (fun b => ?_)
  (repeat' (first | (show VH _ _ _ _ _ _ _; first | refine v_seq ?_ | refine r_seq ?_) | (show SH _ _ _ _ _ (_ :: _) _ _ _; first | (show SH _ _ _ _ _ (⟨_, .move _, _, _, _, _⟩ :: _) _ _ _; refine mov evL ?_) | (show SH _ _ _ _ _ (⟨_, .assign _, _, _, _, _⟩ :: _) _ _ _; refine asg evL ?_)) | refine s_nil ?_ | refine kh_normal ?_))
  refine app (l := ([] : List Comp)) (l2 := l) rfl rfl rfl spL (fun w hw => hB.ext hw.ext) rfl rfl (by omega) (by simp only [List.length_nil]; omega) (by simp only [List.length_nil]; omega) (fun A1 cp1 => ⟨enL, ?_⟩)
  simp only [List.nil_append]
  (repeat' (first | (show VH _ _ _ _ _ _ _; first | refine v_seq ?_ | refine r_seq ?_ | refine v_block ?_) | (show SH _ _ _ _ _ (_ :: _) _ _ _; (show SH _ _ _ _ _ (⟨_, .assign _, _, _, _, _⟩ :: _) _ _ _; refine asg evL ?_)) | refine s_nil ?_ | refine kh_normal ?_))
  have h0 : l = l ++ marksG mkC 1 0 0 := by rw [marksG_zero, List.append_nil]
  refine v_loop [(3,4),(12,20)] (fun y : Nat × (Option Addr × Nat) => [(4, .int .i64 y.1), (3, .slice y.2.1 (l ++ marksG mkC 1 0 y.1).length y.2.2)]) (fun y => [orow 37 y.2.1 y.2.2 (l ++ marksG mkC 1 0 y.1)]) (fun y => y.1 ≤ 12) (fun y => 12 - y.1) (0, (A1, cp1)) ⟨rfl, congrArg (fun L : List Comp => Value.slice A1 L.length cp1) h0, trivial⟩ (by rw [← h0]; (repeat (first | exact ent_refl _ | exact ent_nil _ | refine ent_nilrow ?_ | refine ent_cons spL ?_ | refine ent_drop ?_))) (Nat.zero_le _) ?_
  rintro ⟨k, A2, cp2⟩ g hk
  simp only [sets]
  simp only at hk
  have hlen : (l ++ marksG mkC 1 0 k).length = l.length + k := by rw [List.length_append, marksG_len]
  refine v_cap spL (fun hcap => ?_)
  by_cases hlt : k < 12
  · have hm := hmk k hlt
    have hsn : l ++ marksG mkC 1 0 (k + 1) = (l ++ marksG mkC 1 0 k) ++ [mkC 1 k] := by rw [marksG_snoc, List.append_assoc, Nat.zero_add]
    clear hmk
    generalize mkC 1 k = q at hm hsn
    (repeat' (first | (show VH _ _ _ _ _ _ _; first | refine v_seq ?_ | refine r_seq ?_ | refine v_block ?_ | refine v_skip ?_ | refine v_cond_t rfl tbL ?_) | (show SH _ _ _ _ _ (_ :: _) _ _ _; first | (show SH _ _ _ _ _ (⟨_, .move _, _, _, _, _⟩ :: _) _ _ _; refine mov evL ?_) | (show SH _ _ _ _ _ (⟨_, .binOp .lss _ _ _ _, _, _, _, _⟩ :: _) _ _ _; refine lssT rfl rfl omD ?_) | (show SH _ _ _ _ _ (⟨_, .call ⟨.value (.func 113), _, _⟩, _, _, _, _⟩ :: _) _ _ _; refine cl (callee := .func 113) rfl (fun w hw => hm w) rfl rfl ?_)) | refine s_nil ?_ | refine kh_normal ?_))
    refine bsl (l := [q]) rfl rfl (Vals.cons rfl Vals.nil) rfl rfl (by show 1 * 5 ≤ 16777216; decide) (fun b9 => ?_)
    (repeat' (first | (show VH _ _ _ _ _ _ _; first | refine v_seq ?_ | refine r_seq ?_ | refine r_quiet hmix (by kernel_rfl) ?_ | refine v_block ?_ | refine v_ret ?_ | refine v_skip ?_ | refine v_exit ?_ | refine v_label ?_ | refine v_cond_t rfl tbL ?_ | refine v_cond_f rfl tbL ?_ | refine v_cond_dec rfl (fun h => ?_) (fun h => ?_) | refine v_cond_ndec rfl (fun h => ?_) (fun h => ?_) | refine v_cond rfl (fun h => ?_) (fun h => ?_)) | (show SH _ _ _ _ _ (_ :: _) _ _ _; first | (show SH _ _ _ _ _ (⟨_, .move _, _, _, _, _⟩ :: _) _ _ _; refine mov evL ?_) | (show SH _ _ _ _ _ (⟨_, .assign _, _, _, _, _⟩ :: _) _ _ _; refine asg evL ?_) | (show SH _ _ _ _ _ (⟨_, .binOp .lss _ _ _ _, _, _, _, _⟩ :: _) _ _ _; first | refine lssT rfl rfl omD ?_ | refine lssF rfl rfl omD ?_ | refine lss rfl rfl ?_) | (show SH _ _ _ _ _ (⟨_, .binOp .add _ _ _ _, _, _, _, _⟩ :: _) _ _ _; refine add rfl rfl inL ?_) | refine slen rfl ?_ | (show SH _ _ _ _ _ (⟨_, .slice _ _ _ _ _, _, _, _, _⟩ :: _) _ _ _; first | refine sla rfl rfl omL omL ?_ | refine slh rfl rfl omL omL ?_ | refine sll rfl rfl omL omL ?_) | (show SH _ _ _ _ _ (⟨_, .buildSlice _ _ _, _, _, _, _⟩ :: _) _ _ _; refine bsl (α := Int) rfl rfl (by repeat (first | exact Vals.nil | (apply Vals.cons; rfl))) rfl (by rfl) (by decide) (fun b => ?_))) | refine s_nil ?_ | refine s_fork ?_ ?_ | refine s_fork3 ?_ ?_ ?_ | refine s_fork4 ?_ ?_ ?_ ?_ | refine kh_normal ?_ | refine kh_ret ?_ | refine kh_exit ?_ | refine bh_normal ?_ | refine bh_ret ?_ | refine bh_exit ?_ | refine bh_exit_ne rfl ?_))
    refine app (l := l ++ marksG mkC 1 0 k) (l2 := [q]) rfl rfl rfl spL (fun w hw => hw.rd spL) rfl rfl rfl (by simp only [List.length_cons, List.length_nil]; omega) (by simp only [List.length_cons, List.length_nil]; omega) (fun A3 cp3 => ⟨enL, ?_⟩)
    rw [← hsn]
    (repeat' (first | refine r_seq ?_ | (show SH _ _ _ _ _ (_ :: _) _ _ _; first | (show SH _ _ _ _ _ (⟨_, .move _, _, _, _, _⟩ :: _) _ _ _; refine mov evL ?_) | (show SH _ _ _ _ _ (⟨_, .assign _, _, _, _, _⟩ :: _) _ _ _; refine asg evL ?_) | (show SH _ _ _ _ _ (⟨_, .binOp .add _ _ _ _, _, _, _, _⟩ :: _) _ _ _; refine add rfl rfl inL ?_)) | refine s_nil ?_ | refine kh_normal ?_ | refine bh_normal ?_))
    exact ⟨agL, (k + 1, (A3, cp3)), hsL, enL, by show k + 1 ≤ _; omega, by show _ - (k + 1) < _ - k; omega⟩
  · have hk12 : k = 12 := by omega
    subst hk12
    clear hmk
    (repeat' (first | (show VH _ _ _ _ _ _ _; first | refine v_seq ?_ | refine r_seq ?_ | refine v_ret ?_ | refine v_exit ?_ | refine v_cond_f rfl tbL ?_) | (show SH _ _ _ _ _ (_ :: _) _ _ _; first | (show SH _ _ _ _ _ (⟨_, .move _, _, _, _, _⟩ :: _) _ _ _; refine mov evL ?_) | (show SH _ _ _ _ _ (⟨_, .assign _, _, _, _, _⟩ :: _) _ _ _; refine asg evL ?_) | (show SH _ _ _ _ _ (⟨_, .binOp .lss _ _ _ _, _, _, _, _⟩ :: _) _ _ _; refine lssF rfl rfl omD ?_) | refine slen rfl ?_ | (show SH _ _ _ _ _ (⟨_, .slice _ _ _ _ _, _, _, _, _⟩ :: _) _ _ _; refine slh rfl rfl omL omL ?_)) | refine s_nil ?_ | refine kh_normal ?_ | refine kh_exit ?_ | refine bh_exit ?_))
    exact rh1 rfl rfl ⟨A2, cp2, by omega, rfl, rfl⟩ enL
/-- The components of a lent entity, with the marks behind them. -/
def rowL (x : EntP) : HP := orow 37 x.A x.cp (x.e.comps ++ marksG mkC 1 0 12)
/-- Entities that are lent. -/
structure LentL (es : List Ent1) (L : List EntP) (cp : Nat) : Prop where
  es : L.map EntP.e = es
  cap : L.length + 12 ≤ cp
  caps : ∀ x ∈ L, x.e.comps.length + 12 ≤ x.cp
theorem ent_lent_all (L : List EntP) {G : List HP} : Ent (allH (L.map rowL) :: G) (allH (L.map rowOf) :: G) :=
  ent_all_imp (by
    have := ent_map_imp (f := rowL) (g := rowOf) (H := []) (fun x G => ent_row_pre (List.prefix_append _ _) Split.head (ent_refl _)) L
    simpa using this)
theorem ent_lent {A : Option Addr} {cp : Nat} {L : List EntP} {M : List EntP} {G : List HP} : Ent (orow 31 A cp (L ++ M) :: allH (L.map rowL) :: G) (orow 31 A cp L :: allH (L.map rowOf) :: G) :=
  ent_row_pre (List.prefix_append L M) Split.head (ent_lent_all L)
/-- What is lent is known. -/
theorem lent_rd {w0 w : World} {A : Option Addr} {cp : Nat} {L M : List EntP} {H R : List HP} (hs : Ent H (orow 31 A cp (L ++ M) :: allH (L.map rowL) :: R)) (hw : Wd w0 H w) : RdW w A L :=
  (Ent.wd (hs.trans (ent_lent.trans ent_knw)) hw).kw (A := A) (l := L) Split.head
/-- .. with the marks. -/
theorem lent_marks {w0 w : World} {A : Option Addr} {cp : Nat} {L M : List EntP} {H R : List HP} (hs : Ent H (orow 31 A cp (L ++ M) :: allH (L.map rowL) :: R)) (hw : Wd w0 H w) : Rd w A (L ++ M) ∧ ∀ x ∈ L, Rd w x.A (x.e.comps ++ marksG mkC 1 0 12) := by
  have hw' := Ent.wd hs hw
  refine ⟨hw'.rd Split.head, fun x hx => ?_⟩
  have h2 : Ent (orow 31 A cp (L ++ M) :: allH (L.map rowL) :: R) (kno (fun w => ∀ x ∈ L, Rd w x.A (x.e.comps ++ marksG mkC 1 0 12)) :: R) :=
    ent_drop ((ent_all_out _).trans (ent_kno_map (f := rowL) (φ := fun x w => Rd w x.A (x.e.comps ++ marksG mkC 1 0 12)) (fun x G => ent_kno_row Split.head (ent_refl _)) L))
  exact (Ent.wd h2 hw').kn Split.head x hx
set_option maxHeartbeats 1000000 in
set_option maxRecDepth 100000 in
theorem lentEntity_spec (x : EntP) (w : World) (hl : x.e.comps.length ≤ 1000000) (hB : Rd w x.A x.e.comps) :
    Ret Tryz.prog 49 [.agg (Flat.enc x).toArray].toArray w (RP w fun v H' => ∃ A cp, x.e.comps.length + 12 ≤ cp ∧ v = .agg #[.int .i64 x.e.id, .slice A x.e.comps.length cp] ∧ H' = [rowL ⟨x.e, A, cp⟩]) := by
  obtain ⟨⟨ei, l⟩, B, c⟩ := x
  try simp only at hl hB ⊢
  have hL := fun w' (he : Ext w w') => lentComps_spec B l c w' hl (hB.ext he)
  rw [show Flat.enc (⟨⟨ei, l⟩, B, c⟩ : EntP) = [.int .i64 ei, .slice B l.length c] from rfl]
  unfold rowL
  simp only
  generalize marksG mkC 1 0 12 = M at hL ⊢
  refine enterH Tryz.func49 rfl rfl Tryz.ntmps49 rfl (Wd.refl _) ?_
  (repeat' (first | (show VH _ _ _ _ _ _ _; first | refine v_seq ?_ | refine r_seq ?_) | (show SH _ _ _ _ _ (_ :: _) _ _ _; first | (show SH _ _ _ _ _ (⟨_, .load _ _, _, _, _, _⟩ :: _) _ _ _; refine lbx rfl spL (by rfl) ?_) | (show SH _ _ _ _ _ (⟨_, .call ⟨.value (.func 93), _, _⟩, _, _, _, _⟩ :: _) _ _ _; refine cp (callee := .func 93) rfl (fun w hw => hL w hw.ext) rfl rfl ?_) | refine fad rfl ?_ | refine ala rfl (fun b => ?_) | (show SH _ _ _ _ _ (⟨_, .box _ _, _, _, _, _⟩ :: _) _ _ _; refine bxx rfl evL rfl (fun b => ?_))) | refine s_nil ?_ | refine kh_normal ?_))
  rintro _ _ ⟨A, cp, hcp, rfl, rfl⟩
  (repeat' (first | (show VH _ _ _ _ _ _ _; first | refine v_seq ?_ | refine r_seq ?_ | refine v_ret ?_) | (show SH _ _ _ _ _ (_ :: _) _ _ _; first | (show SH _ _ _ _ _ (⟨_, .load _ _, _, _, _, _⟩ :: _) _ _ _; refine lba rfl spL (by rfl) ?_) | refine fad rfl ?_ | (show SH _ _ _ _ _ (⟨_, .store _ _ _, _, _, _, _⟩ :: _) _ _ _; first | refine stb rfl rfl evL spL rfl rfl (by first | decide | exact Nat.zero_lt_succ _ | exact of_decide_eq_true rfl) kpL ?_ | refine sta rfl rfl rfl spL (by rfl) (by rfl) (by rfl) kpL ?_)) | refine s_nil ?_ | refine kh_normal ?_))
  exact rhC rfl rfl rfl (fun w hw => loadVar_bx hw spL (by rfl)) ⟨A, cp, hcp, rfl, rfl⟩ enL
set_option maxHeartbeats 2000000 in
set_option maxRecDepth 100000 in
theorem lentEntities_spec (B : Option Addr) (l : List EntP) (c : Nat) (w : World) (hl : l.length ≤ 1000000) (hse : ∀ x ∈ l, x.e.comps.length ≤ 1000000) (hB : RdW w B l) :
    Ret Tryz.prog 30 [.slice B l.length c].toArray w (RP w fun v H' => ∃ A cp L, LentL (ents l) L cp ∧ v = .slice A l.length cp ∧ H' = [orow 31 A cp (L ++ marksG mkE 1 0 12), allH (L.map rowL)]) := by
  have hmk := fun (i : Nat) (hi : i < 12) w => markEntity_spec 1 i w (by omega) (by omega)
  have hr1 := hB.1
  have hle := fun k (hk : k < l.length) w' (he : Ext w w') => lentEntity_spec (l.getD k Flat.dflt) w' (hse _ (getD_mem hk)) ((hB.ext he).at hk)
  clear hse hB
  refine enterH Tryz.func30 rfl rfl Tryz.ntmps30 rfl (Wd.refl _) ?_
  (repeat' (first | (show VH _ _ _ _ _ _ _; first | refine v_seq ?_ | refine r_seq ?_) | (show SH _ _ _ _ _ (_ :: _) _ _ _; first | (show SH _ _ _ _ _ (⟨_, .move _, _, _, _, _⟩ :: _) _ _ _; refine mov evL ?_) | (show SH _ _ _ _ _ (⟨_, .assign _, _, _, _, _⟩ :: _) _ _ _; refine asg evL ?_) | (show SH _ _ _ _ _ (⟨_, .binOp .add _ _ _ _, _, _, _, _⟩ :: _) _ _ _; refine add rfl rfl inL ?_) | refine slen rfl ?_) | refine s_nil ?_ | refine kh_normal ?_))
  refine mk0 (α := EntP) rfl rfl rfl rfl (by omega) (by omega) (by omega) (fun b => ?_)
  (repeat' (first | (show VH _ _ _ _ _ _ _; first | refine v_seq ?_ | refine r_seq ?_ | refine v_block ?_) | (show SH _ _ _ _ _ (_ :: _) _ _ _; (show SH _ _ _ _ _ (⟨_, .assign _, _, _, _, _⟩ :: _) _ _ _; refine asg evL ?_)) | refine s_nil ?_ | refine kh_normal ?_))
  refine v_norm [(0,_),(3,_),(4,_)] heL (fun g => ?_)
  refine v_loop [(3,5),(11,25)] (fun y : Nat × (Option Addr × Nat) × List EntP => [(4, .int .i64 y.1), (3, .slice y.2.1.1 y.2.2.length y.2.1.2)]) (fun y => [orow 31 y.2.1.1 y.2.1.2 y.2.2, allH (y.2.2.map rowL)]) (fun y => y.1 ≤ l.length ∧ y.2.2.map EntP.e = ents (l.take y.1) ∧ ∀ x ∈ y.2.2, x.e.comps.length + 12 ≤ x.cp) (fun y => l.length - y.1) (0, (some ⟨b, 0, none⟩, _), []) hsL (ent_cons spL (ent_all_nil enL)) ⟨Nat.zero_le _, rfl, fun x hx => absurd hx List.not_mem_nil⟩ ?_
  rintro ⟨k, ⟨A1, c1⟩, L⟩ g ⟨hk, hL, hcs⟩
  simp only [sets]
  simp only at hk hL hcs
  have hlen : L.length = k := by
    have h1 := congrArg List.length hL
    rw [List.length_map, ents_len, List.length_take] at h1; omega
  by_cases hkl : k < l.length
  · have hc := hle k hkl
    have hn : ents (l.take (k + 1)) = ents (l.take k) ++ [(l.getD k Flat.dflt).e] := by
      unfold ents
      rw [take_snoc (d := Flat.dflt) hkl, List.map_append]; rfl
    rw [← hL] at hn
    obtain ⟨⟨⟨yi, ys⟩, Ay, cy⟩, hy⟩ : ∃ y, l.getD k Flat.dflt = y := ⟨_, rfl⟩
    have hyE : Flat.enc (l.getD k Flat.dflt) = [.int .i64 yi, .slice Ay ys.length cy] := by rw [hy]; rfl
    rw [hy] at hc hn
    rw [show Flat.enc (⟨⟨yi, ys⟩, Ay, cy⟩ : EntP) = [.int .i64 yi, .slice Ay ys.length cy] from rfl] at hc
    simp only at hc hn
    clear hle hmk hy hL
    (repeat' (first | (show VH _ _ _ _ _ _ _; first | refine v_seq ?_ | refine r_seq ?_ | refine v_block ?_ | refine v_skip ?_ | refine v_cond_t rfl tbL ?_) | (show SH _ _ _ _ _ (_ :: _) _ _ _; first | (show SH _ _ _ _ _ (⟨_, .move _, _, _, _, _⟩ :: _) _ _ _; refine mov evL ?_) | (show SH _ _ _ _ _ (⟨_, .binOp .lss _ _ _ _, _, _, _, _⟩ :: _) _ _ _; refine lssT rfl rfl omD ?_) | (show SH _ _ _ _ _ (⟨_, .load _ _, _, _, _, _⟩ :: _) _ _ _; refine lag rfl (fun _ _ => rdY) (by rfl) omL (by assumption) ?_) | (show SH _ _ _ _ _ (⟨_, .indexAddr _ _ _, _, _, _, _⟩ :: _) _ _ _; refine ix rfl rfl (by with_reducible rfl) (fun _ _ => rdY) (by rfl) omL omL ?_) | refine slen rfl ?_ | (show SH _ _ _ _ _ (⟨_, .call ⟨.value (.func 49), _, _⟩, _, _, _, _⟩ :: _) _ _ _; refine cp (callee := .func 49) rfl (fun w hw => hc w hw.ext) rfl rfl ?_)) | refine s_nil ?_ | refine kh_normal ?_))
    rintro _ _ ⟨A2, c2, hcp, rfl, rfl⟩
    (repeat' (first | refine r_seq ?_ | (show SH _ _ _ _ _ (_ :: _) _ _ _; first | (show SH _ _ _ _ _ (⟨_, .move _, _, _, _, _⟩ :: _) _ _ _; refine mov evL ?_) | (show SH _ _ _ _ _ (⟨_, .load _ _, _, _, _, _⟩ :: _) _ _ _; refine lba rfl spL (by rfl) ?_) | refine ala rfl (fun b => ?_) | (show SH _ _ _ _ _ (⟨_, .store _ _ _, _, _, _, _⟩ :: _) _ _ _; refine sta rfl rfl rfl spL (by rfl) (by rfl) (by rfl) kpL ?_)) | refine s_nil ?_ | refine kh_normal ?_))
    refine bsl (l := [(⟨⟨yi, ys⟩, A2, c2⟩ : EntP)]) rfl rfl (Vals.cons rfl Vals.nil) rfl rfl (by decide) (fun b31 => ?_)
    (repeat' (first | (show VH _ _ _ _ _ _ _; first | refine v_seq ?_ | refine r_seq ?_ | refine r_quiet hmix (by kernel_rfl) ?_ | refine v_block ?_ | refine v_ret ?_ | refine v_skip ?_ | refine v_exit ?_ | refine v_label ?_ | refine v_cond_t rfl tbL ?_ | refine v_cond_f rfl tbL ?_ | refine v_cond_dec rfl (fun h => ?_) (fun h => ?_) | refine v_cond_ndec rfl (fun h => ?_) (fun h => ?_) | refine v_cond rfl (fun h => ?_) (fun h => ?_)) | (show SH _ _ _ _ _ (_ :: _) _ _ _; first | (show SH _ _ _ _ _ (⟨_, .move _, _, _, _, _⟩ :: _) _ _ _; refine mov evL ?_) | (show SH _ _ _ _ _ (⟨_, .assign _, _, _, _, _⟩ :: _) _ _ _; refine asg evL ?_) | (show SH _ _ _ _ _ (⟨_, .binOp .lss _ _ _ _, _, _, _, _⟩ :: _) _ _ _; first | refine lssT rfl rfl omD ?_ | refine lssF rfl rfl omD ?_ | refine lss rfl rfl ?_) | (show SH _ _ _ _ _ (⟨_, .binOp .add _ _ _ _, _, _, _, _⟩ :: _) _ _ _; refine add rfl rfl inL ?_) | (show SH _ _ _ _ _ (⟨_, .load _ _, _, _, _, _⟩ :: _) _ _ _; first | refine lgi rfl (fun _ _ => rdY) omL (by assumption) ?_ | refine lag rfl (fun _ _ => rdY) (by rfl) omL (by assumption) ?_ | refine lrg rfl (fun _ _ => rdY) (by rfl) omL (by assumption) (by rfl) ?_ | refine lin rfl (fun _ _ => rdY) omL ?_ | refine lbx rfl spL (by rfl) ?_ | refine lba rfl spL (by rfl) ?_ | refine lbi rfl spL omL ?_ | refine lr1 rfl (fun _ _ => rdY) (by rfl) omL (by rfl) ?_ | refine lra rfl (fun _ _ => rdY) (by rfl) omL ?_ | refine lrf rfl (fun _ _ => rdY) (by rfl) omL (by rfl) ?_ | refine lcell rfl (fun w hw => hw.ext.cell (by assumption)) ?_ | refine lrs rfl (fun _ _ => rdY) (by rfl) omL (by rfl) (by rfl) ?_ | refine lbs rfl spL (by rfl) (by rfl) ?_ | refine lca rfl (fun _ _ => rdY) (by rfl) ?_ | refine lcs rfl (fun _ _ => rdY) (by rfl) ?_ | refine lcf rfl (fun _ _ => rdY) (by rfl) ?_ | refine lrf rfl (fun _ _ => rdY) (by rfl) (by simp only [List.length_cons, List.length_nil]; omega) (by rfl) ?_ | refine lra rfl (fun _ _ => rdY) (by rfl) (by simp only [List.length_cons, List.length_nil]; omega) ?_) | (show SH _ _ _ _ _ (⟨_, .indexAddr _ _ _, _, _, _, _⟩ :: _) _ _ _; first | refine ix rfl rfl (by with_reducible rfl) (fun _ _ => rdY) (by rfl) omL omL ?_ | refine ixi rfl rfl (fun _ _ => rdY) (by rfl) omL omL omL ?_ | refine ixb rfl rfl omL ?_ | refine ixq rfl rfl (by assumption) omL omL ?_ | refine ixA _ rfl rfl rfl omL ?_ | refine ixi rfl rfl (fun _ _ => rdY) (by rfl) omL (by first | omega | (simp only [List.length_cons, List.length_nil]; omega)) (by simp only [List.length_cons, List.length_nil]; omega) ?_) | refine slen rfl ?_ | (show SH _ _ _ _ _ (⟨_, .slice _ _ _ _ _, _, _, _, _⟩ :: _) _ _ _; first | refine sla rfl rfl omL omL ?_ | refine slh rfl rfl omL omL ?_ | refine sll rfl rfl omL omL ?_) | (show SH _ _ _ _ _ (⟨_, .alloc _, _, _, _, _⟩ :: _) _ _ _; first | refine al1 rfl (fun b => ?_) | refine ala rfl (fun b => ?_)) | (show SH _ _ _ _ _ (⟨_, .store _ _ _, _, _, _, _⟩ :: _) _ _ _; first | refine stb rfl rfl evL spL rfl rfl (by first | decide | exact Nat.zero_lt_succ _ | exact of_decide_eq_true rfl) kpL ?_ | refine sta rfl rfl rfl spL (by rfl) (by rfl) (by rfl) kpL ?_ | refine sti rfl rfl rfl spL omL kpL ?_ | refine sbi rfl rfl rfl spL omL kpL ?_ | refine sbs rfl rfl evL spL (by rfl) (by rfl) (of_decide_eq_true rfl) kpL ?_) | (show SH _ _ _ _ _ (⟨_, .buildSlice _ _ _, _, _, _, _⟩ :: _) _ _ _; refine bsl (α := Int) rfl rfl (by repeat (first | exact Vals.nil | (apply Vals.cons; rfl))) rfl (by rfl) (by decide) (fun b => ?_))) | refine s_nil ?_ | refine s_fork ?_ ?_ | refine s_fork3 ?_ ?_ ?_ | refine s_fork4 ?_ ?_ ?_ ?_ | refine kh_normal ?_ | refine kh_ret ?_ | refine kh_exit ?_ | refine bh_normal ?_ | refine bh_ret ?_ | refine bh_exit ?_ | refine bh_exit_ne rfl ?_))
    refine app (l := L) (l2 := [(⟨⟨yi, ys⟩, A2, c2⟩ : EntP)]) rfl rfl rfl spL (fun w hw => hw.rd spL) rfl rfl rfl (by simp only [List.length_cons, List.length_nil]; omega) (by simp only [List.length_cons, List.length_nil]; omega) (fun A7 c7 => ⟨enL, ?_⟩)
    (repeat' (first | refine r_seq ?_ | (show SH _ _ _ _ _ (_ :: _) _ _ _; first | (show SH _ _ _ _ _ (⟨_, .move _, _, _, _, _⟩ :: _) _ _ _; refine mov evL ?_) | (show SH _ _ _ _ _ (⟨_, .assign _, _, _, _, _⟩ :: _) _ _ _; refine asg evL ?_) | (show SH _ _ _ _ _ (⟨_, .binOp .add _ _ _ _, _, _, _, _⟩ :: _) _ _ _; refine add rfl rfl inL ?_)) | refine s_nil ?_ | refine kh_normal ?_ | refine bh_normal ?_))
    refine ⟨agL, (k + 1, (A7, c7), L ++ [(⟨⟨yi, ys⟩, A2, c2⟩ : EntP)]), hsL, ?_, ⟨hkl, by rw [hn, List.map_append]; rfl, fun x hx => ?_⟩, by show _ - (k + 1) < _ - k; omega⟩
    · exact Ent.trans (B := [rowL ⟨⟨yi, ys⟩, A2, c2⟩, allH (L.map rowL), orow 31 A7 c7 (L ++ [(⟨⟨yi, ys⟩, A2, c2⟩ : EntP)])]) enL ((ent_all_snoc (f := rowL) (x := (⟨⟨yi, ys⟩, A2, c2⟩ : EntP))).trans enL)
    · rcases List.mem_append.1 hx with h | h
      · exact hcs x h
      · rw [List.mem_singleton.1 h]; exact hcp
  · obtain rfl : k = l.length := by omega
    rw [List.take_length] at hL
    clear hle
    (repeat' (first | (show VH _ _ _ _ _ _ _; first | refine v_seq ?_ | refine r_seq ?_ | refine v_block ?_ | refine v_exit ?_ | refine v_cond_f rfl tbL ?_) | (show SH _ _ _ _ _ (_ :: _) _ _ _; first | (show SH _ _ _ _ _ (⟨_, .move _, _, _, _, _⟩ :: _) _ _ _; refine mov evL ?_) | (show SH _ _ _ _ _ (⟨_, .assign _, _, _, _, _⟩ :: _) _ _ _; refine asg evL ?_) | (show SH _ _ _ _ _ (⟨_, .binOp .lss _ _ _ _, _, _, _, _⟩ :: _) _ _ _; refine lssF rfl rfl omD ?_) | refine slen rfl ?_) | refine s_nil ?_ | refine kh_normal ?_ | refine kh_exit ?_ | refine bh_exit ?_))
    refine v_norm [(0,_),(3,_),(6,_)] heL (fun g => ?_)
    have h0 : L = L ++ marksG mkE 1 0 0 := by rw [marksG_zero, List.append_nil]
    refine v_loop [(3,3),(6,6),(26,34)] (fun y : Nat × (Option Addr × Nat) => [(6, .int .i64 y.1), (3, .slice y.2.1 (L ++ marksG mkE 1 0 y.1).length y.2.2)]) (fun y => [orow 31 y.2.1 y.2.2 (L ++ marksG mkE 1 0 y.1), allH (L.map rowL)]) (fun y => y.1 ≤ 12) (fun y => 12 - y.1) (0, (A1, c1)) ⟨rfl, congrArg (fun L : List EntP => Value.slice A1 L.length c1) h0, trivial⟩ (by rw [← h0]; exact enL) (Nat.zero_le _) ?_
    rintro ⟨k, A2, cp2⟩ g hk
    simp only [sets]
    simp only at hk
    have hlen2 : (L ++ marksG mkE 1 0 k).length = l.length + k := by rw [List.length_append, marksG_len, hlen]
    refine v_cap spL (fun hcap => ?_)
    by_cases hlt : k < 12
    · have hm := hmk k hlt
      have hsn : L ++ marksG mkE 1 0 (k + 1) = (L ++ marksG mkE 1 0 k) ++ [mkE 1 k] := by rw [marksG_snoc, List.append_assoc, Nat.zero_add]
      clear hmk hcs
      generalize mkE 1 k = q at hm hsn
      (repeat' (first | (show VH _ _ _ _ _ _ _; first | refine v_seq ?_ | refine r_seq ?_ | refine v_block ?_ | refine v_skip ?_ | refine v_cond_t rfl tbL ?_) | (show SH _ _ _ _ _ (_ :: _) _ _ _; first | (show SH _ _ _ _ _ (⟨_, .move _, _, _, _, _⟩ :: _) _ _ _; refine mov evL ?_) | (show SH _ _ _ _ _ (⟨_, .binOp .lss _ _ _ _, _, _, _, _⟩ :: _) _ _ _; refine lssT rfl rfl omD ?_) | (show SH _ _ _ _ _ (⟨_, .call ⟨.value (.func 50), _, _⟩, _, _, _, _⟩ :: _) _ _ _; refine cl (callee := .func 50) rfl (fun w hw => hm w) rfl rfl ?_)) | refine s_nil ?_ | refine kh_normal ?_))
      refine bsl (l := [q]) rfl rfl (Vals.cons rfl Vals.nil) rfl rfl (by show 1 * 2 ≤ 16777216; decide) (fun b9 => ?_)
      (repeat' (first | (show VH _ _ _ _ _ _ _; first | refine v_seq ?_ | refine r_seq ?_ | refine r_quiet hmix (by kernel_rfl) ?_ | refine v_block ?_ | refine v_ret ?_ | refine v_skip ?_ | refine v_exit ?_ | refine v_label ?_ | refine v_cond_t rfl tbL ?_ | refine v_cond_f rfl tbL ?_ | refine v_cond_dec rfl (fun h => ?_) (fun h => ?_) | refine v_cond_ndec rfl (fun h => ?_) (fun h => ?_) | refine v_cond rfl (fun h => ?_) (fun h => ?_)) | (show SH _ _ _ _ _ (_ :: _) _ _ _; first | (show SH _ _ _ _ _ (⟨_, .move _, _, _, _, _⟩ :: _) _ _ _; refine mov evL ?_) | (show SH _ _ _ _ _ (⟨_, .assign _, _, _, _, _⟩ :: _) _ _ _; refine asg evL ?_) | (show SH _ _ _ _ _ (⟨_, .binOp .lss _ _ _ _, _, _, _, _⟩ :: _) _ _ _; first | refine lssT rfl rfl omD ?_ | refine lssF rfl rfl omD ?_ | refine lss rfl rfl ?_) | (show SH _ _ _ _ _ (⟨_, .binOp .add _ _ _ _, _, _, _, _⟩ :: _) _ _ _; refine add rfl rfl inL ?_) | (show SH _ _ _ _ _ (⟨_, .load _ _, _, _, _, _⟩ :: _) _ _ _; first | refine lgi rfl (fun _ _ => rdY) omL (by assumption) ?_ | refine lag rfl (fun _ _ => rdY) (by rfl) omL (by assumption) ?_ | refine lrg rfl (fun _ _ => rdY) (by rfl) omL (by assumption) (by rfl) ?_ | refine lin rfl (fun _ _ => rdY) omL ?_ | refine lbx rfl spL (by rfl) ?_ | refine lba rfl spL (by rfl) ?_ | refine lbi rfl spL omL ?_ | refine lr1 rfl (fun _ _ => rdY) (by rfl) omL (by rfl) ?_ | refine lra rfl (fun _ _ => rdY) (by rfl) omL ?_ | refine lrf rfl (fun _ _ => rdY) (by rfl) omL (by rfl) ?_ | refine lcell rfl (fun w hw => hw.ext.cell (by assumption)) ?_ | refine lrs rfl (fun _ _ => rdY) (by rfl) omL (by rfl) (by rfl) ?_ | refine lbs rfl spL (by rfl) (by rfl) ?_ | refine lca rfl (fun _ _ => rdY) (by rfl) ?_ | refine lcs rfl (fun _ _ => rdY) (by rfl) ?_ | refine lcf rfl (fun _ _ => rdY) (by rfl) ?_ | refine lrf rfl (fun _ _ => rdY) (by rfl) (by simp only [List.length_cons, List.length_nil]; omega) (by rfl) ?_ | refine lra rfl (fun _ _ => rdY) (by rfl) (by simp only [List.length_cons, List.length_nil]; omega) ?_) | (show SH _ _ _ _ _ (⟨_, .indexAddr _ _ _, _, _, _, _⟩ :: _) _ _ _; first | refine ix rfl rfl (by with_reducible rfl) (fun _ _ => rdY) (by rfl) omL omL ?_ | refine ixi rfl rfl (fun _ _ => rdY) (by rfl) omL omL omL ?_ | refine ixb rfl rfl omL ?_ | refine ixq rfl rfl (by assumption) omL omL ?_ | refine ixA _ rfl rfl rfl omL ?_ | refine ixi rfl rfl (fun _ _ => rdY) (by rfl) omL (by first | omega | (simp only [List.length_cons, List.length_nil]; omega)) (by simp only [List.length_cons, List.length_nil]; omega) ?_) | refine slen rfl ?_ | (show SH _ _ _ _ _ (⟨_, .slice _ _ _ _ _, _, _, _, _⟩ :: _) _ _ _; first | refine sla rfl rfl omL omL ?_ | refine slh rfl rfl omL omL ?_ | refine sll rfl rfl omL omL ?_) | (show SH _ _ _ _ _ (⟨_, .alloc _, _, _, _, _⟩ :: _) _ _ _; first | refine al1 rfl (fun b => ?_) | refine ala rfl (fun b => ?_)) | (show SH _ _ _ _ _ (⟨_, .store _ _ _, _, _, _, _⟩ :: _) _ _ _; first | refine stb rfl rfl evL spL rfl rfl (by first | decide | exact Nat.zero_lt_succ _ | exact of_decide_eq_true rfl) kpL ?_ | refine sta rfl rfl rfl spL (by rfl) (by rfl) (by rfl) kpL ?_ | refine sti rfl rfl rfl spL omL kpL ?_ | refine sbi rfl rfl rfl spL omL kpL ?_ | refine sbs rfl rfl evL spL (by rfl) (by rfl) (of_decide_eq_true rfl) kpL ?_) | (show SH _ _ _ _ _ (⟨_, .buildSlice _ _ _, _, _, _, _⟩ :: _) _ _ _; refine bsl (α := Int) rfl rfl (by repeat (first | exact Vals.nil | (apply Vals.cons; rfl))) rfl (by rfl) (by decide) (fun b => ?_))) | refine s_nil ?_ | refine s_fork ?_ ?_ | refine s_fork3 ?_ ?_ ?_ | refine s_fork4 ?_ ?_ ?_ ?_ | refine kh_normal ?_ | refine kh_ret ?_ | refine kh_exit ?_ | refine bh_normal ?_ | refine bh_ret ?_ | refine bh_exit ?_ | refine bh_exit_ne rfl ?_))
      refine app (l := L ++ marksG mkE 1 0 k) (l2 := [q]) rfl rfl rfl spL (fun w hw => hw.rd spL) rfl rfl rfl (by simp only [List.length_cons, List.length_nil]; omega) (by simp only [List.length_cons, List.length_nil]; omega) (fun A3 cp3 => ⟨enL, ?_⟩)
      rw [← hsn]
      (repeat' (first | refine r_seq ?_ | (show SH _ _ _ _ _ (_ :: _) _ _ _; first | (show SH _ _ _ _ _ (⟨_, .move _, _, _, _, _⟩ :: _) _ _ _; refine mov evL ?_) | (show SH _ _ _ _ _ (⟨_, .assign _, _, _, _, _⟩ :: _) _ _ _; refine asg evL ?_) | (show SH _ _ _ _ _ (⟨_, .binOp .add _ _ _ _, _, _, _, _⟩ :: _) _ _ _; refine add rfl rfl inL ?_)) | refine s_nil ?_ | refine kh_normal ?_ | refine bh_normal ?_))
      exact ⟨agL, (k + 1, (A3, cp3)), hsL, enL, by show k + 1 ≤ _; omega, by show _ - (k + 1) < _ - k; omega⟩
    · obtain rfl : k = 12 := by omega
      clear hmk
      (repeat' (first | (show VH _ _ _ _ _ _ _; first | refine v_seq ?_ | refine r_seq ?_ | refine v_ret ?_ | refine v_exit ?_ | refine v_cond_f rfl tbL ?_) | (show SH _ _ _ _ _ (_ :: _) _ _ _; first | (show SH _ _ _ _ _ (⟨_, .move _, _, _, _, _⟩ :: _) _ _ _; refine mov evL ?_) | (show SH _ _ _ _ _ (⟨_, .assign _, _, _, _, _⟩ :: _) _ _ _; refine asg evL ?_) | (show SH _ _ _ _ _ (⟨_, .binOp .lss _ _ _ _, _, _, _, _⟩ :: _) _ _ _; refine lssF rfl rfl omD ?_) | refine slen rfl ?_ | (show SH _ _ _ _ _ (⟨_, .slice _ _ _ _ _, _, _, _, _⟩ :: _) _ _ _; refine slh rfl rfl omL omL ?_)) | refine s_nil ?_ | refine kh_normal ?_ | refine kh_exit ?_ | refine bh_exit ?_))
      exact rh1 rfl rfl ⟨A2, cp2, L, ⟨hL, by omega, hcs⟩, rfl, rfl⟩ enL
set_option maxHeartbeats 1000000 in
set_option maxRecDepth 100000 in
theorem lentWorld_spec (t : Int) (B : Option Addr) (l : List EntP) (c : Nat) (w : World) (hl : l.length ≤ 1000000) (hse : ∀ x ∈ l, x.e.comps.length ≤ 1000000) (hB : RdW w B l) :
    Ret Tryz.prog 12 [wv t B l c].toArray w (RP w fun v H' => ∃ A cp L, LentL (ents l) L cp ∧ v = wv t A L cp ∧ H' = [orow 31 A cp (L ++ marksG mkE 1 0 12), allH (L.map rowL)]) := by
  have hL := fun w' (he : Ext w w') => lentEntities_spec B l c w' hl hse (hB.ext he)
  unfold wv
  generalize marksG mkE 1 0 12 = M at hL ⊢
  clear hl hse hB
  refine enterH Tryz.func12 rfl rfl Tryz.ntmps12 rfl (Wd.refl _) ?_
  (repeat' (first | (show VH _ _ _ _ _ _ _; first | refine v_seq ?_ | refine r_seq ?_) | (show SH _ _ _ _ _ (_ :: _) _ _ _; first | (show SH _ _ _ _ _ (⟨_, .load _ _, _, _, _, _⟩ :: _) _ _ _; refine lbx rfl spL (by rfl) ?_) | (show SH _ _ _ _ _ (⟨_, .call ⟨.value (.func 30), _, _⟩, _, _, _, _⟩ :: _) _ _ _; refine cp (callee := .func 30) rfl (fun w hw => hL w hw.ext) rfl rfl ?_) | refine fad rfl ?_ | refine ala rfl (fun b => ?_) | (show SH _ _ _ _ _ (⟨_, .box _ _, _, _, _, _⟩ :: _) _ _ _; refine bxx rfl evL rfl (fun b => ?_))) | refine s_nil ?_ | refine kh_normal ?_))
  rintro _ _ ⟨A, cp, L, hLL, rfl, rfl⟩
  have hn : l.length = L.length := by have := congrArg List.length hLL.es; rw [List.length_map, ents_len] at this; exact this.symm
  rw [hn]
  (repeat' (first | (show VH _ _ _ _ _ _ _; first | refine v_seq ?_ | refine r_seq ?_ | refine v_ret ?_) | (show SH _ _ _ _ _ (_ :: _) _ _ _; first | (show SH _ _ _ _ _ (⟨_, .load _ _, _, _, _, _⟩ :: _) _ _ _; refine lba rfl spL (by rfl) ?_) | refine fad rfl ?_ | (show SH _ _ _ _ _ (⟨_, .store _ _ _, _, _, _, _⟩ :: _) _ _ _; first | refine stb rfl rfl evL spL rfl rfl (by first | decide | exact Nat.zero_lt_succ _ | exact of_decide_eq_true rfl) kpL ?_ | refine sta rfl rfl rfl spL (by rfl) (by rfl) (by rfl) kpL ?_)) | refine s_nil ?_ | refine kh_normal ?_))
  exact rhC rfl rfl rfl (fun w hw => loadVar_bx hw spL (by rfl)) ⟨A, cp, L, hLL, rfl, rfl⟩ enL
end Go.Proofs.YtjefoecnciepmaaGreatDoor

/- The kit: lent worlds are kept; they are overwritten. -/
namespace Go.Proofs.YtjefoecnciepmaaGreatDoor
open Go.Fw Go.RowKit
set_option maxHeartbeats 2000000 in
set_option maxRecDepth 100000 in
theorem keptComps_spec (A B : Option Addr) (l : List Comp) (c1 c2 : Nat) (w : World) (hl : l.length ≤ 1000000) (hc : l.length + 12 ≤ c1) (hA : Rd w A (l ++ marksG mkC 1 0 12)) (hB : Rd w B l) :
    Ret Tryz.prog 109 [.slice A l.length c1, .slice B l.length c2].toArray w (Out w (.bool true)) := by
  have hmk := fun (i : Int) (hi : 0 ≤ i ∧ i < 12) w => markComp_spec 1 i w (by omega) (by omega)
  have hlen : (l ++ marksG mkC 1 0 12).length = l.length + 12 := by rw [List.length_append, marksG_len]
  have ht : ((l.length : Int) + 12).toNat = l.length + 12 := by omega
  have hd1 : ∀ k, k < l.length → (l ++ marksG mkC 1 0 12).getD k Flat.dflt = l.getD k Flat.dflt := fun k hk => by simp [List.getD_eq_getElem?_getD, List.getElem?_append_left hk]
  have hd2 : ∀ k, ¬ k < l.length → k < l.length + 12 → (l ++ marksG mkC 1 0 12).getD k Flat.dflt = mkC 1 ((k : Int) - (l.length : Int)) := fun k h1 h2 => by
    rw [List.getD_eq_getElem?_getD, List.getElem?_append_right (by omega), ← List.getD_eq_getElem?_getD, marksG_get _ _ (by omega)]
    congr 1
    omega
  generalize l ++ marksG mkC 1 0 12 = LM at hA hlen hd1 hd2
  refine enterH Tryz.func109 rfl rfl Tryz.ntmps109 rfl (Wd.refl _) ?_
  (repeat' (first | (show VH _ _ _ _ _ _ _; first | refine v_seq ?_ | refine r_seq ?_ | refine v_block ?_ | refine v_skip ?_ | refine v_cond_f rfl tbL ?_) | (show SH _ _ _ _ _ (_ :: _) _ _ _; first | (show SH _ _ _ _ _ (⟨_, .move _, _, _, _, _⟩ :: _) _ _ _; refine mov evL ?_) | (show SH _ _ _ _ _ (⟨_, .assign _, _, _, _, _⟩ :: _) _ _ _; refine asg evL ?_) | (show SH _ _ _ _ _ (⟨_, .binOp .neq _ _ _ _, _, _, _, _⟩ :: _) _ _ _; refine neqF rfl rfl omD ?_) | (show SH _ _ _ _ _ (⟨_, .binOp .add _ _ _ _, _, _, _, _⟩ :: _) _ _ _; refine add rfl rfl inL ?_) | refine slen rfl ?_ | (show SH _ _ _ _ _ (⟨_, .slice _ _ _ _ _, _, _, _, _⟩ :: _) _ _ _; refine slh rfl rfl omL omL ?_)) | refine s_nil ?_ | refine kh_normal ?_))
  rw [ht]
  refine v_norm [(1,_),(5,_),(6,_)] heL (fun g => ?_)
  refine v_loop0 [(4,4),(6,6),(17,57)] (fun k : Nat => [(6, .int .i64 k)]) (fun k => k ≤ l.length + 12) (fun k => l.length + 12 - k) 0 hsL (Nat.zero_le _) ?_
  rintro k g hk
  simp only [sets]
  by_cases hlt : k < l.length + 12
  · by_cases hkl : k < l.length
    · have hd := hd1 k hkl
      obtain ⟨q, hq⟩ : ∃ q, l.getD k Flat.dflt = q := ⟨_, rfl⟩
      rw [hq] at hd
      have hq1 : Flat.enc (l.getD k Flat.dflt) = Flat.enc q := by rw [hq]
      have hq2 : Flat.enc (LM.getD k Flat.dflt) = Flat.enc q := by rw [hd]
      clear hd1 hd2 hmk hd hq
      (repeat' (first | (show VH _ _ _ _ _ _ _; first | refine v_seq ?_ | refine r_seq ?_ | refine r_quiet hmix (by kernel_rfl) ?_ | refine v_block ?_ | refine v_skip ?_ | refine v_cond_t rfl tbL ?_) | (show SH _ _ _ _ _ (_ :: _) _ _ _; first | (show SH _ _ _ _ _ (⟨_, _, _, _, _, some _⟩ :: _) _ _ _; (refine gif rfl rfl ?_; refine giTT tbL ?_)) | (show SH _ _ _ _ _ (⟨_, .move _, _, _, _, _⟩ :: _) _ _ _; refine mov evL ?_) | (show SH _ _ _ _ _ (⟨_, .binOp .lss _ _ _ _, _, _, _, _⟩ :: _) _ _ _; refine lssT rfl rfl omD ?_) | (show SH _ _ _ _ _ (⟨_, .load _ _, _, _, _, _⟩ :: _) _ _ _; refine lag rfl (fun _ _ => rdY) (by rfl) omL (by assumption) ?_) | (show SH _ _ _ _ _ (⟨_, .indexAddr _ _ _, _, _, _, _⟩ :: _) _ _ _; refine ix rfl rfl (by with_reducible rfl) (fun _ _ => rdY) (by rfl) omL omL ?_) | refine slen rfl ?_) | refine s_nil ?_ | refine kh_normal ?_))
      refine eqa q q rfl rfl ?_
      rw [decide_eq_true rfl]
      (repeat' (first | (show VH _ _ _ _ _ _ _; first | refine r_seq ?_ | refine v_skip ?_ | refine v_cond_f rfl tbL ?_) | (show SH _ _ _ _ _ (_ :: _) _ _ _; first | (show SH _ _ _ _ _ (⟨_, _, _, _, _, some _⟩ :: _) _ _ _; (refine gif rfl rfl ?_; first | refine giTT tbL ?_ | refine giTF tbL ?_ | refine giFF tbL ?_)) | (show SH _ _ _ _ _ (⟨_, .move _, _, _, _, _⟩ :: _) _ _ _; refine mov evL ?_) | (show SH _ _ _ _ _ (⟨_, .assign _, _, _, _, _⟩ :: _) _ _ _; refine asg evL ?_) | (show SH _ _ _ _ _ (⟨_, .binOp .geq _ _ _ _, _, _, _, _⟩ :: _) _ _ _; refine geqF rfl rfl omD ?_) | (show SH _ _ _ _ _ (⟨_, .binOp .add _ _ _ _, _, _, _, _⟩ :: _) _ _ _; refine add rfl rfl inL ?_) | refine slen rfl ?_ | refine bnoT rfl ?_ | (show SH _ _ _ _ _ (⟨_, .pick _ _ _, _, _, _, _⟩ :: _) _ _ _; first | refine pkt rfl tbL evL ?_ | refine pkf rfl tbL evL ?_)) | refine s_nil ?_ | refine kh_normal ?_ | refine bh_normal ?_))
      exact ⟨agL, k + 1, hsL, enL, by omega, by omega⟩
    · have hd := hd2 k hkl hlt
      have hm := hmk ((k : Int) - (l.length : Int)) (by omega)
      generalize mkC 1 ((k : Int) - (l.length : Int)) = q at hd hm
      have hq2 : Flat.enc (LM.getD k Flat.dflt) = Flat.enc q := by rw [hd]
      clear hd1 hd2 hmk hd
      (repeat' (first | (show VH _ _ _ _ _ _ _; first | refine v_seq ?_ | refine r_seq ?_ | refine r_quiet hmix (by kernel_rfl) ?_ | refine v_block ?_ | refine v_skip ?_ | refine v_cond_t rfl tbL ?_) | (show SH _ _ _ _ _ (_ :: _) _ _ _; first | (show SH _ _ _ _ _ (⟨_, _, _, _, _, some _⟩ :: _) _ _ _; (refine gif rfl rfl ?_; first | refine giTT tbL ?_ | refine giTF tbL ?_ | refine giFF tbL ?_)) | (show SH _ _ _ _ _ (⟨_, .move _, _, _, _, _⟩ :: _) _ _ _; refine mov evL ?_) | (show SH _ _ _ _ _ (⟨_, .binOp .lss _ _ _ _, _, _, _, _⟩ :: _) _ _ _; first | refine lssT rfl rfl omD ?_ | refine lssF rfl rfl omD ?_) | (show SH _ _ _ _ _ (⟨_, .binOp .geq _ _ _ _, _, _, _, _⟩ :: _) _ _ _; refine geqT rfl rfl omD ?_) | (show SH _ _ _ _ _ (⟨_, .binOp .sub _ _ _ _, _, _, _, _⟩ :: _) _ _ _; refine sub rfl rfl inL ?_) | (show SH _ _ _ _ _ (⟨_, .load _ _, _, _, _, _⟩ :: _) _ _ _; refine lag rfl (fun _ _ => rdY) (by rfl) omL (by assumption) ?_) | (show SH _ _ _ _ _ (⟨_, .indexAddr _ _ _, _, _, _, _⟩ :: _) _ _ _; refine ix rfl rfl (by with_reducible rfl) (fun _ _ => rdY) (by rfl) omL omL ?_) | refine slen rfl ?_ | (show SH _ _ _ _ _ (⟨_, .call ⟨.value (.func 113), _, _⟩, _, _, _, _⟩ :: _) _ _ _; refine cl (callee := .func 113) rfl (fun w hw => hm w) rfl rfl ?_) | (show SH _ _ _ _ _ (⟨_, .pick _ _ _, _, _, _, _⟩ :: _) _ _ _; refine pkf rfl tbL evL ?_)) | refine s_nil ?_ | refine kh_normal ?_))
      refine eqa q q rfl rfl ?_
      rw [decide_eq_true rfl]
      (repeat' (first | (show VH _ _ _ _ _ _ _; first | refine r_seq ?_ | refine v_skip ?_ | refine v_cond_f rfl tbL ?_) | (show SH _ _ _ _ _ (_ :: _) _ _ _; first | (show SH _ _ _ _ _ (⟨_, _, _, _, _, some _⟩ :: _) _ _ _; (refine gif rfl rfl ?_; first | refine giTT tbL ?_ | refine giFF tbL ?_)) | (show SH _ _ _ _ _ (⟨_, .move _, _, _, _, _⟩ :: _) _ _ _; refine mov evL ?_) | (show SH _ _ _ _ _ (⟨_, .assign _, _, _, _, _⟩ :: _) _ _ _; refine asg evL ?_) | (show SH _ _ _ _ _ (⟨_, .binOp .add _ _ _ _, _, _, _, _⟩ :: _) _ _ _; refine add rfl rfl inL ?_) | refine bnoT rfl ?_ | (show SH _ _ _ _ _ (⟨_, .pick _ _ _, _, _, _, _⟩ :: _) _ _ _; first | refine pkt rfl tbL evL ?_ | refine pkf rfl tbL evL ?_)) | refine s_nil ?_ | refine kh_normal ?_ | refine bh_normal ?_))
      exact ⟨agL, k + 1, hsL, enL, by omega, by omega⟩
  · clear hd1 hd2 hmk
    (repeat' (first | (show VH _ _ _ _ _ _ _; first | refine v_seq ?_ | refine r_seq ?_ | refine v_ret ?_ | refine v_exit ?_ | refine v_cond_f rfl tbL ?_) | (show SH _ _ _ _ _ (_ :: _) _ _ _; first | (show SH _ _ _ _ _ (⟨_, .move _, _, _, _, _⟩ :: _) _ _ _; refine mov evL ?_) | (show SH _ _ _ _ _ (⟨_, .assign _, _, _, _, _⟩ :: _) _ _ _; refine asg evL ?_) | (show SH _ _ _ _ _ (⟨_, .binOp .lss _ _ _ _, _, _, _, _⟩ :: _) _ _ _; refine lssF rfl rfl omD ?_) | refine slen rfl ?_) | refine s_nil ?_ | refine kh_normal ?_ | refine kh_exit ?_ | refine bh_exit ?_))
    exact rh1 rfl rfl ⟨rfl, rfl⟩ (ent_nil _)
set_option maxHeartbeats 1000000 in
set_option maxRecDepth 100000 in
theorem keptEntity_spec (x y : EntP) (w : World) (hxy : x.e = y.e) (hl : x.e.comps.length ≤ 1000000) (hc : x.e.comps.length + 12 ≤ x.cp) (hA : Rd w x.A (x.e.comps ++ marksG mkC 1 0 12)) (hB : Rd w y.A y.e.comps) :
    Ret Tryz.prog 69 [.agg (Flat.enc x).toArray, .agg (Flat.enc y).toArray].toArray w (Out w (.bool true)) := by
  obtain ⟨e, A, c1⟩ := x
  obtain ⟨e', B, c2⟩ := y
  simp only at hxy
  subst hxy
  obtain ⟨ei, l⟩ := e
  try simp only at hl hc hA hB ⊢
  have hS := fun w' (he : Ext w w') => sameEntity_spec ⟨⟨ei, l⟩, A, c1⟩ ⟨⟨ei, l⟩, B, c2⟩ w' (rd_pre (hA.ext he) (List.prefix_append _ _)) (hB.ext he) (by show l.length ≤ _; omega)
  have hK := fun w' (he : Ext w w') => keptComps_spec A B l c1 c2 w' hl hc (hA.ext he) (hB.ext he)
  simp only [decide_eq_true] at hS
  rw [show Flat.enc (⟨⟨ei, l⟩, A, c1⟩ : EntP) = [.int .i64 ei, .slice A l.length c1] from rfl, show Flat.enc (⟨⟨ei, l⟩, B, c2⟩ : EntP) = [.int .i64 ei, .slice B l.length c2] from rfl] at *
  clear hl hc hA hB
  refine enterH Tryz.func69 rfl rfl Tryz.ntmps69 rfl (Wd.refl _) ?_
  (repeat' (first | (show VH _ _ _ _ _ _ _; first | refine v_seq ?_ | refine r_seq ?_ | refine v_ret ?_) | (show SH _ _ _ _ _ (_ :: _) _ _ _; first | (show SH _ _ _ _ _ (⟨_, _, _, _, _, some _⟩ :: _) _ _ _; (refine gif rfl rfl ?_; refine giTT tbL ?_)) | (show SH _ _ _ _ _ (⟨_, .move _, _, _, _, _⟩ :: _) _ _ _; refine mov evL ?_) | (show SH _ _ _ _ _ (⟨_, .assign _, _, _, _, _⟩ :: _) _ _ _; refine asg evL ?_) | (show SH _ _ _ _ _ (⟨_, .load _ _, _, _, _, _⟩ :: _) _ _ _; first | refine lbx rfl spL (by rfl) ?_ | refine lba rfl spL (by rfl) ?_) | (show SH _ _ _ _ _ (⟨_, .call ⟨.value (.func 68), _, _⟩, _, _, _, _⟩ :: _) _ _ _; refine cl (callee := .func 68) rfl (fun w hw => hS w hw.ext) rfl rfl ?_) | (show SH _ _ _ _ _ (⟨_, .call ⟨.value (.func 109), _, _⟩, _, _, _, _⟩ :: _) _ _ _; refine cl (callee := .func 109) rfl (fun w hw => hK w hw.ext) rfl rfl ?_) | (show SH _ _ _ _ _ (⟨_, .pick _ _ _, _, _, _, _⟩ :: _) _ _ _; refine pkt rfl tbL evL ?_) | refine fad rfl ?_ | (show SH _ _ _ _ _ (⟨_, .box _ _, _, _, _, _⟩ :: _) _ _ _; refine bxx rfl evL rfl (fun b => ?_))) | refine s_nil ?_ | refine kh_normal ?_))
  exact rh1 rfl rfl ⟨rfl, rfl⟩ (ent_nil _)
set_option maxHeartbeats 2000000 in
set_option maxRecDepth 100000 in
theorem keptEntities_spec (A B : Option Addr) (L l : List EntP) (c1 c2 : Nat) (w : World) (hl : l.length ≤ 1000000) (hse : ∀ x ∈ l, x.e.comps.length ≤ 1000000) (hL : LentL (ents l) L c1) (hA : Rd w A (L ++ marksG mkE 1 0 12)) (hAc : ∀ x ∈ L, Rd w x.A (x.e.comps ++ marksG mkC 1 0 12)) (hB : RdW w B l) :
    Ret Tryz.prog 43 [.slice A L.length c1, .slice B l.length c2].toArray w (Out w (.bool true)) := by
  have hn : L.length = l.length := by have := congrArg List.length hL.es; rw [List.length_map, ents_len] at this; exact this
  have hcap := hL.cap
  rw [hn] at hcap
  have hee : ∀ k, k < l.length → (L.getD k Flat.dflt).e = (l.getD k Flat.dflt).e := fun k hk => by
    have h1 : (L.map EntP.e).getD k ⟨0, []⟩ = (ents l).getD k ⟨0, []⟩ := by rw [hL.es]
    rw [ents_at l hk] at h1
    rw [← h1]
    simp [List.getD_eq_getElem?_getD, hn, hk]
  have hke := fun k (hk : k < l.length) w' (he : Ext w w') => keptEntity_spec (L.getD k Flat.dflt) (l.getD k Flat.dflt) w' (hee k hk) (by rw [hee k hk]; exact hse _ (getD_mem hk)) (hL.caps _ (getD_mem (by omega))) ((hAc _ (getD_mem (by omega))).ext he) ((hB.ext he).at hk)
  have hmk := fun (i : Int) (hi : 0 ≤ i ∧ i < 12) w => markEntity_spec 1 i w (by omega) (by omega)
  have hsm := fun (i : Int) w => sameEntity_spec (mkE 1 i) (mkE 1 i) w (Rd.nil _ _) (Rd.nil _ _) (by show 0 ≤ _; omega)
  simp only [decide_eq_true] at hsm
  have hlen : (L ++ marksG mkE 1 0 12).length = l.length + 12 := by rw [List.length_append, marksG_len, hn]
  have ht : ((l.length : Int) + 12).toNat = l.length + 12 := by omega
  have hd1 : ∀ k, k < l.length → (L ++ marksG mkE 1 0 12).getD k Flat.dflt = L.getD k Flat.dflt := fun k hk => by simp [List.getD_eq_getElem?_getD, List.getElem?_append_left (show k < L.length by omega)]
  have hd2 : ∀ k, ¬ k < l.length → k < l.length + 12 → (L ++ marksG mkE 1 0 12).getD k Flat.dflt = mkE 1 ((k : Int) - (l.length : Int)) := fun k h1 h2 => by
    rw [List.getD_eq_getElem?_getD, List.getElem?_append_right (by omega), ← List.getD_eq_getElem?_getD, marksG_get _ _ (by omega)]
    congr 1
    omega
  have hB1 := hB.1
  rw [hn]
  generalize L ++ marksG mkE 1 0 12 = LM at hA hlen hd1 hd2
  clear hse hAc hB hL hee
  refine enterH Tryz.func43 rfl rfl Tryz.ntmps43 rfl (Wd.refl _) ?_
  (repeat' (first | (show VH _ _ _ _ _ _ _; first | refine v_seq ?_ | refine r_seq ?_ | refine v_block ?_ | refine v_skip ?_ | refine v_cond_f rfl tbL ?_) | (show SH _ _ _ _ _ (_ :: _) _ _ _; first | (show SH _ _ _ _ _ (⟨_, .move _, _, _, _, _⟩ :: _) _ _ _; refine mov evL ?_) | (show SH _ _ _ _ _ (⟨_, .assign _, _, _, _, _⟩ :: _) _ _ _; refine asg evL ?_) | (show SH _ _ _ _ _ (⟨_, .binOp .neq _ _ _ _, _, _, _, _⟩ :: _) _ _ _; refine neqF rfl rfl omD ?_) | (show SH _ _ _ _ _ (⟨_, .binOp .add _ _ _ _, _, _, _, _⟩ :: _) _ _ _; refine add rfl rfl inL ?_) | refine slen rfl ?_ | (show SH _ _ _ _ _ (⟨_, .slice _ _ _ _ _, _, _, _, _⟩ :: _) _ _ _; refine slh rfl rfl omL omL ?_)) | refine s_nil ?_ | refine kh_normal ?_))
  rw [ht]
  refine v_norm [(1,_),(5,_),(6,_)] heL (fun g => ?_)
  refine v_loop0 [(4,4),(6,6),(17,57)] (fun k : Nat => [(6, .int .i64 k)]) (fun k => k ≤ l.length + 12) (fun k => l.length + 12 - k) 0 hsL (Nat.zero_le _) ?_
  rintro k g hk
  simp only [sets]
  by_cases hlt : k < l.length + 12
  · by_cases hkl : k < l.length
    · have hd := hd1 k hkl
      have hq := hke k hkl
      generalize L.getD k Flat.dflt = p at hd hq
      obtain ⟨q, hqq⟩ : ∃ q, l.getD k Flat.dflt = q := ⟨_, rfl⟩
      rw [hqq] at hq
      have hq1 : Flat.enc (l.getD k Flat.dflt) = Flat.enc q := by rw [hqq]
      have hq2 : Flat.enc (LM.getD k Flat.dflt) = Flat.enc p := by rw [hd]
      clear hd1 hd2 hmk hd hke hqq hsm
      (repeat' (first | (show VH _ _ _ _ _ _ _; first | refine v_seq ?_ | refine r_seq ?_ | refine r_quiet hmix (by kernel_rfl) ?_ | refine v_block ?_ | refine v_skip ?_ | refine v_cond_t rfl tbL ?_ | refine v_cond_f rfl tbL ?_) | (show SH _ _ _ _ _ (_ :: _) _ _ _; first | (show SH _ _ _ _ _ (⟨_, _, _, _, _, some _⟩ :: _) _ _ _; (refine gif rfl rfl ?_; first | refine giTT tbL ?_ | refine giTF tbL ?_ | refine giFF tbL ?_)) | (show SH _ _ _ _ _ (⟨_, .move _, _, _, _, _⟩ :: _) _ _ _; refine mov evL ?_) | (show SH _ _ _ _ _ (⟨_, .assign _, _, _, _, _⟩ :: _) _ _ _; refine asg evL ?_) | (show SH _ _ _ _ _ (⟨_, .binOp .lss _ _ _ _, _, _, _, _⟩ :: _) _ _ _; refine lssT rfl rfl omD ?_) | (show SH _ _ _ _ _ (⟨_, .binOp .geq _ _ _ _, _, _, _, _⟩ :: _) _ _ _; refine geqF rfl rfl omD ?_) | (show SH _ _ _ _ _ (⟨_, .binOp .add _ _ _ _, _, _, _, _⟩ :: _) _ _ _; refine add rfl rfl inL ?_) | (show SH _ _ _ _ _ (⟨_, .load _ _, _, _, _, _⟩ :: _) _ _ _; refine lag rfl (fun _ _ => rdY) (by rfl) omL (by assumption) ?_) | (show SH _ _ _ _ _ (⟨_, .indexAddr _ _ _, _, _, _, _⟩ :: _) _ _ _; refine ix rfl rfl (by with_reducible rfl) (fun _ _ => rdY) (by rfl) omL omL ?_) | refine slen rfl ?_ | (show SH _ _ _ _ _ (⟨_, .call ⟨.value (.func 69), _, _⟩, _, _, _, _⟩ :: _) _ _ _; refine cl (callee := .func 69) rfl (fun w hw => hq w hw.ext) rfl rfl ?_) | refine bnoT rfl ?_ | (show SH _ _ _ _ _ (⟨_, .pick _ _ _, _, _, _, _⟩ :: _) _ _ _; first | refine pkt rfl tbL evL ?_ | refine pkf rfl tbL evL ?_)) | refine s_nil ?_ | refine kh_normal ?_ | refine bh_normal ?_))
      exact ⟨agL, k + 1, hsL, enL, by omega, by omega⟩
    · have hd := hd2 k hkl hlt
      have hm := hmk ((k : Int) - (l.length : Int)) (by omega)
      have hs := hsm ((k : Int) - (l.length : Int))
      generalize mkE 1 ((k : Int) - (l.length : Int)) = q at hd hm hs
      have hq2 : Flat.enc (LM.getD k Flat.dflt) = Flat.enc q := by rw [hd]
      clear hd1 hd2 hmk hd hke hsm
      (repeat' (first | (show VH _ _ _ _ _ _ _; first | refine v_seq ?_ | refine r_seq ?_ | refine r_quiet hmix (by kernel_rfl) ?_ | refine v_block ?_ | refine v_skip ?_ | refine v_cond_t rfl tbL ?_ | refine v_cond_f rfl tbL ?_) | (show SH _ _ _ _ _ (_ :: _) _ _ _; first | (show SH _ _ _ _ _ (⟨_, _, _, _, _, some _⟩ :: _) _ _ _; (refine gif rfl rfl ?_; first | refine giTT tbL ?_ | refine giTF tbL ?_ | refine giFF tbL ?_)) | (show SH _ _ _ _ _ (⟨_, .move _, _, _, _, _⟩ :: _) _ _ _; refine mov evL ?_) | (show SH _ _ _ _ _ (⟨_, .assign _, _, _, _, _⟩ :: _) _ _ _; refine asg evL ?_) | (show SH _ _ _ _ _ (⟨_, .binOp .lss _ _ _ _, _, _, _, _⟩ :: _) _ _ _; first | refine lssT rfl rfl omD ?_ | refine lssF rfl rfl omD ?_) | (show SH _ _ _ _ _ (⟨_, .binOp .geq _ _ _ _, _, _, _, _⟩ :: _) _ _ _; refine geqT rfl rfl omD ?_) | (show SH _ _ _ _ _ (⟨_, .binOp .add _ _ _ _, _, _, _, _⟩ :: _) _ _ _; refine add rfl rfl inL ?_) | (show SH _ _ _ _ _ (⟨_, .binOp .sub _ _ _ _, _, _, _, _⟩ :: _) _ _ _; refine sub rfl rfl inL ?_) | (show SH _ _ _ _ _ (⟨_, .load _ _, _, _, _, _⟩ :: _) _ _ _; refine lag rfl (fun _ _ => rdY) (by rfl) omL (by assumption) ?_) | (show SH _ _ _ _ _ (⟨_, .indexAddr _ _ _, _, _, _, _⟩ :: _) _ _ _; refine ix rfl rfl (by with_reducible rfl) (fun _ _ => rdY) (by rfl) omL omL ?_) | refine slen rfl ?_ | (show SH _ _ _ _ _ (⟨_, .call ⟨.value (.func 50), _, _⟩, _, _, _, _⟩ :: _) _ _ _; refine cl (callee := .func 50) rfl (fun w hw => hm w) rfl rfl ?_) | (show SH _ _ _ _ _ (⟨_, .call ⟨.value (.func 68), _, _⟩, _, _, _, _⟩ :: _) _ _ _; refine cl (callee := .func 68) rfl (fun w hw => hs w) rfl rfl ?_) | refine bnoT rfl ?_ | (show SH _ _ _ _ _ (⟨_, .pick _ _ _, _, _, _, _⟩ :: _) _ _ _; first | refine pkt rfl tbL evL ?_ | refine pkf rfl tbL evL ?_)) | refine s_nil ?_ | refine kh_normal ?_ | refine bh_normal ?_))
      exact ⟨agL, k + 1, hsL, enL, by omega, by omega⟩
  · clear hd1 hd2 hmk hke hsm
    (repeat' (first | (show VH _ _ _ _ _ _ _; first | refine v_seq ?_ | refine r_seq ?_ | refine v_ret ?_ | refine v_exit ?_ | refine v_cond_f rfl tbL ?_) | (show SH _ _ _ _ _ (_ :: _) _ _ _; first | (show SH _ _ _ _ _ (⟨_, .move _, _, _, _, _⟩ :: _) _ _ _; refine mov evL ?_) | (show SH _ _ _ _ _ (⟨_, .assign _, _, _, _, _⟩ :: _) _ _ _; refine asg evL ?_) | (show SH _ _ _ _ _ (⟨_, .binOp .lss _ _ _ _, _, _, _, _⟩ :: _) _ _ _; refine lssF rfl rfl omD ?_) | refine slen rfl ?_) | refine s_nil ?_ | refine kh_normal ?_ | refine kh_exit ?_ | refine bh_exit ?_))
    exact rh1 rfl rfl ⟨rfl, rfl⟩ (ent_nil _)
set_option maxHeartbeats 1000000 in
set_option maxRecDepth 100000 in
theorem keptWorld_spec (t : Int) (A B : Option Addr) (L l : List EntP) (c1 c2 : Nat) (w : World) (hs : Sz L) (hl : l.length ≤ 1000000) (hse : ∀ x ∈ l, x.e.comps.length ≤ 1000000) (hL : LentL (ents l) L c1) (hA : Rd w A (L ++ marksG mkE 1 0 12)) (hAc : ∀ x ∈ L, Rd w x.A (x.e.comps ++ marksG mkC 1 0 12)) (hB : RdW w B l) :
    Ret Tryz.prog 25 [wv t A L c1, wv t B l c2].toArray w (Out w (.bool true)) := by
  have hS := fun w' (he : Ext w w') => sameWorld_spec t t A B L l c1 c2 w' ⟨rd_pre (hA.ext he) (List.prefix_append _ _), fun x hx => rd_pre ((hAc x hx).ext he) (List.prefix_append _ _)⟩ (hB.ext he) hs
  rw [decide_eq_true ⟨rfl, hL.es⟩] at hS
  have hK := fun w' (he : Ext w w') => keptEntities_spec A B L l c1 c2 w' hl hse hL (hA.ext he) (fun x hx => (hAc x hx).ext he) (hB.ext he)
  unfold wv at *
  clear hs hl hse hL hA hAc hB
  refine enterH Tryz.func25 rfl rfl Tryz.ntmps25 rfl (Wd.refl _) ?_
  (repeat' (first | (show VH _ _ _ _ _ _ _; first | refine v_seq ?_ | refine r_seq ?_ | refine v_ret ?_) | (show SH _ _ _ _ _ (_ :: _) _ _ _; first | (show SH _ _ _ _ _ (⟨_, _, _, _, _, some _⟩ :: _) _ _ _; (refine gif rfl rfl ?_; refine giTT tbL ?_)) | (show SH _ _ _ _ _ (⟨_, .move _, _, _, _, _⟩ :: _) _ _ _; refine mov evL ?_) | (show SH _ _ _ _ _ (⟨_, .assign _, _, _, _, _⟩ :: _) _ _ _; refine asg evL ?_) | (show SH _ _ _ _ _ (⟨_, .load _ _, _, _, _, _⟩ :: _) _ _ _; first | refine lbx rfl spL (by rfl) ?_ | refine lba rfl spL (by rfl) ?_) | (show SH _ _ _ _ _ (⟨_, .call ⟨.value (.func 24), _, _⟩, _, _, _, _⟩ :: _) _ _ _; refine cl (callee := .func 24) rfl (fun w hw => hS w hw.ext) rfl rfl ?_) | (show SH _ _ _ _ _ (⟨_, .call ⟨.value (.func 43), _, _⟩, _, _, _, _⟩ :: _) _ _ _; refine cl (callee := .func 43) rfl (fun w hw => hK w hw.ext) rfl rfl ?_) | (show SH _ _ _ _ _ (⟨_, .pick _ _ _, _, _, _, _⟩ :: _) _ _ _; refine pkt rfl tbL evL ?_) | refine fad rfl ?_ | (show SH _ _ _ _ _ (⟨_, .box _ _, _, _, _, _⟩ :: _) _ _ _; refine bxx rfl evL rfl (fun b => ?_))) | refine s_nil ?_ | refine kh_normal ?_))
  exact rh1 rfl rfl ⟨rfl, rfl⟩ (ent_nil _)
/-! overwritten -/
set_option maxHeartbeats 2000000 in
set_option maxRecDepth 100000 in
theorem overComps_spec (A : Option Addr) (l M : List Comp) (c m : Nat) (w0 : World) (H : List HP) (w : World) (hl : l.length = m + 12) (hm : m ≤ 1000000) (hc : m + 12 ≤ c) (hw : Wd w0 (orow 37 A c l :: H) w) :
    Ret Tryz.prog 110 [.slice A m c].toArray w (RP w0 fun _ H' => H' = H) := by
  have hmk := fun (i : Nat) (hi : i < 2000000) w => markComp_spec 2 i w (by omega) (by omega)
  have ht : (min (c : Int) ((m : Int) + 12)).toNat = m + 12 := by omega
  have ht2 : 0 ≤ min (c : Int) ((m : Int) + 12) ∧ min (c : Int) ((m : Int) + 12) ≤ (c : Int) := by omega
  refine enterH Tryz.func110 rfl rfl Tryz.ntmps110 rfl (by assumption) ?_
  (repeat' (first | (show VH _ _ _ _ _ _ _; first | refine v_seq ?_ | refine r_seq ?_) | (show SH _ _ _ _ _ (_ :: _) _ _ _; (show SH _ _ _ _ _ (⟨_, .move _, _, _, _, _⟩ :: _) _ _ _; refine mov evL ?_))))
  refine bcp rfl ?_
  (repeat' (first | (show VH _ _ _ _ _ _ _; first | refine v_seq ?_ | refine r_seq ?_ | refine v_block ?_) | (show SH _ _ _ _ _ (_ :: _) _ _ _; first | (show SH _ _ _ _ _ (⟨_, .move _, _, _, _, _⟩ :: _) _ _ _; refine mov evL ?_) | (show SH _ _ _ _ _ (⟨_, .assign _, _, _, _, _⟩ :: _) _ _ _; refine asg evL ?_) | (show SH _ _ _ _ _ (⟨_, .binOp .add _ _ _ _, _, _, _, _⟩ :: _) _ _ _; refine add rfl rfl inL ?_) | (show SH _ _ _ _ _ (⟨_, .call ⟨.builtin _, _, _⟩, _, _, _, _⟩ :: _) _ _ _; first | refine slen rfl ?_ | refine bmin rfl rfl ?_) | (show SH _ _ _ _ _ (⟨_, .slice _ _ _ _ _, _, _, _, _⟩ :: _) _ _ _; refine slh rfl rfl omL omL ?_)) | refine s_nil ?_ | refine kh_normal ?_))
  rw [ht]
  refine v_norm [(2,_),(3,_)] heL (fun g => ?_)
  refine v_loop [(3,3),(12,22)] (fun s : Nat × List Comp => [(3, .int .i64 s.1)]) (fun s => orow 37 A c s.2 :: H) (fun s => s.1 ≤ m + 12 ∧ s.2.length = m + 12) (fun s => m + 12 - s.1) (0, l) hsL enL ⟨Nat.zero_le _, hl⟩ ?_
  rintro ⟨k, l2⟩ g ⟨hk, hl2⟩
  simp only [sets]
  simp only at hk hl2
  by_cases hlt : k < m + 12
  · have hq := hmk k (by omega)
    generalize mkC 2 k = q at hq
    clear hmk ht ht2
    (repeat' (first | (show VH _ _ _ _ _ _ _; first | refine v_seq ?_ | refine r_seq ?_ | refine v_block ?_ | refine v_skip ?_ | refine v_cond_t rfl tbL ?_) | (show SH _ _ _ _ _ (_ :: _) _ _ _; first | (show SH _ _ _ _ _ (⟨_, .move _, _, _, _, _⟩ :: _) _ _ _; refine mov evL ?_) | (show SH _ _ _ _ _ (⟨_, .binOp .lss _ _ _ _, _, _, _, _⟩ :: _) _ _ _; refine lssT rfl rfl omD ?_) | (show SH _ _ _ _ _ (⟨_, .indexAddr _ _ _, _, _, _, _⟩ :: _) _ _ _; refine ix rfl rfl (by with_reducible rfl) (fun _ _ => rdY) (by rfl) omL omL ?_) | refine slen rfl ?_ | (show SH _ _ _ _ _ (⟨_, .call ⟨.value (.func 113), _, _⟩, _, _, _, _⟩ :: _) _ _ _; refine cl (callee := .func 113) rfl (fun w hw => hq w) rfl rfl ?_)) | refine s_nil ?_ | refine kh_normal ?_))
    refine stv (i := k) (l := l2) (A := A) q rfl rfl rfl spL rfl (by omega) rfl trivial ?_
    (repeat' (first | refine r_seq ?_ | (show SH _ _ _ _ _ (_ :: _) _ _ _; first | (show SH _ _ _ _ _ (⟨_, .move _, _, _, _, _⟩ :: _) _ _ _; refine mov evL ?_) | (show SH _ _ _ _ _ (⟨_, .assign _, _, _, _, _⟩ :: _) _ _ _; refine asg evL ?_) | (show SH _ _ _ _ _ (⟨_, .binOp .add _ _ _ _, _, _, _, _⟩ :: _) _ _ _; refine add rfl rfl inL ?_)) | refine s_nil ?_ | refine kh_normal ?_ | refine bh_normal ?_))
    exact ⟨agL, (k + 1, l2.set k q), hsL, enL, ⟨hlt, by rw [List.length_set]; exact hl2⟩, by show _ - (k + 1) < _ - k; omega⟩
  · clear hmk ht ht2
    (repeat' (first | (show VH _ _ _ _ _ _ _; first | refine v_seq ?_ | refine r_seq ?_ | refine v_exit ?_ | refine v_cond_f rfl tbL ?_) | (show SH _ _ _ _ _ (_ :: _) _ _ _; first | (show SH _ _ _ _ _ (⟨_, .move _, _, _, _, _⟩ :: _) _ _ _; refine mov evL ?_) | (show SH _ _ _ _ _ (⟨_, .binOp .lss _ _ _ _, _, _, _, _⟩ :: _) _ _ _; refine lssF rfl rfl omD ?_) | refine slen rfl ?_) | refine s_nil ?_ | refine kh_normal ?_ | refine kh_exit ?_ | refine bh_exit ?_))
    exact rh0n rfl rfl enL
set_option maxHeartbeats 1000000 in
set_option maxRecDepth 100000 in
theorem overEntity_spec (x : EntP) (w0 : World) (H : List HP) (w : World) (hm : x.e.comps.length ≤ 1000000) (hc : x.e.comps.length + 12 ≤ x.cp) (hw : Wd w0 (rowL x :: H) w) :
    Ret Tryz.prog 70 [.agg (Flat.enc x).toArray].toArray w (RP w0 fun _ H' => H' = H) := by
  obtain ⟨⟨ei, l⟩, A, c⟩ := x
  simp only at hm hc
  unfold rowL at hw
  simp only at hw
  have hO := fun w0 H w h => overComps_spec A (l ++ marksG mkC 1 0 12) [] c l.length w0 H w (by rw [List.length_append, marksG_len]) hm hc h
  generalize l ++ marksG mkC 1 0 12 = LM at hO hw
  rw [show Flat.enc (⟨⟨ei, l⟩, A, c⟩ : EntP) = [.int .i64 ei, .slice A l.length c] from rfl]
  clear hm hc
  refine enterH Tryz.func70 rfl rfl Tryz.ntmps70 rfl (by assumption) ?_
  (repeat' (first | (show VH _ _ _ _ _ _ _; first | refine v_seq ?_ | refine r_seq ?_) | (show SH _ _ _ _ _ (_ :: _) _ _ _; first | (show SH _ _ _ _ _ (⟨_, .load _ _, _, _, _, _⟩ :: _) _ _ _; refine lbx rfl spL (by rfl) ?_) | refine fad rfl ?_ | (show SH _ _ _ _ _ (⟨_, .box _ _, _, _, _, _⟩ :: _) _ _ _; refine bxx rfl evL rfl (fun b => ?_))) | refine s_nil ?_ | refine kh_normal ?_))
  refine cm rfl (fun w hw => hO _ _ w (Ent.wd enL hw)) rfl rfl ?_
  rintro _ _ rfl
  refine ⟨trivial, ?_⟩
  (repeat' (refine s_nil ?_))
  exact rh0n rfl rfl enL
set_option maxHeartbeats 2000000 in
set_option maxRecDepth 100000 in
theorem overEntities_spec (A : Option Addr) (L : List EntP) (es : List Ent1) (c : Nat) (w0 : World) (H : List HP) (w : World) (hL : LentL es L c) (hn : L.length ≤ 1000000) (hse : ∀ x ∈ L, x.e.comps.length ≤ 1000000) (hw : Wd w0 (orow 31 A c (L ++ marksG mkE 1 0 12) :: allH (L.map rowL) :: H) w) :
    Ret Tryz.prog 44 [.slice A L.length c].toArray w (RP w0 fun _ H' => H' = H) := by
  have hmk := fun (i : Nat) (hi : i < 2000000) w => markEntity_spec 2 i w (by omega) (by omega)
  have hcap := hL.cap
  have ht : (min (c : Int) ((L.length : Int) + 12)).toNat = L.length + 12 := by omega
  have ht2 : 0 ≤ min (c : Int) ((L.length : Int) + 12) ∧ min (c : Int) ((L.length : Int) + 12) ≤ (c : Int) := by omega
  have hO := fun x (hx : x ∈ L) w0 H w h => overEntity_spec x w0 H w (hse x hx) (hL.caps x hx) h
  have hlm : (L ++ marksG mkE 1 0 12).length = L.length + 12 := by rw [List.length_append, marksG_len]
  have hd1 : ∀ k, k < L.length → (L ++ marksG mkE 1 0 12).getD k Flat.dflt = L.getD k Flat.dflt := fun k hk => by simp [List.getD_eq_getElem?_getD, List.getElem?_append_left hk]
  have hdr : ∀ k, k < L.length → L.drop k = L.getD k Flat.dflt :: L.drop (k + 1) := fun k hk => by
    rw [List.drop_eq_getElem_cons hk, List.getD_eq_getElem?_getD, List.getElem?_eq_getElem hk]; rfl
  generalize L ++ marksG mkE 1 0 12 = LM at hw hlm hd1
  clear hL hse
  refine enterH Tryz.func44 rfl rfl Tryz.ntmps44 rfl (by assumption) ?_
  (repeat' (first | (show VH _ _ _ _ _ _ _; first | refine v_seq ?_ | refine r_seq ?_ | refine v_block ?_) | (show SH _ _ _ _ _ (_ :: _) _ _ _; (show SH _ _ _ _ _ (⟨_, .assign _, _, _, _, _⟩ :: _) _ _ _; refine asg evL ?_)) | refine s_nil ?_ | refine kh_normal ?_))
  refine v_norm [(0,_),(2,_)] heL (fun g => ?_)
  refine v_loop [(2,2),(5,15)] (fun k : Nat => [(2, .int .i64 k)]) (fun k => orow 31 A c LM :: allH ((L.drop k).map rowL) :: H) (fun k => k ≤ L.length) (fun k => L.length - k) 0 hsL enL (Nat.zero_le _) ?_
  rintro k g hk
  simp only [sets]
  by_cases hlt : k < L.length
  · have hd := hd1 k hlt
    have hr := hdr k hlt
    have ho := hO _ (getD_mem (d := Flat.dflt) hlt)
    generalize L.getD k Flat.dflt = x at hd hr ho
    have hq : Flat.enc (LM.getD k Flat.dflt) = Flat.enc x := by rw [hd]
    refine VH.ent (G := rowL x :: allH ((L.drop (k + 1)).map rowL) :: orow 31 A c LM :: H) ?_ (by
      rw [hr]
      exact Ent.trans (B := allH ((x :: L.drop (k + 1)).map rowL) :: orow 31 A c LM :: H) enL ((ent_all_uncons (a := rowL x) (X := (L.drop (k + 1)).map rowL)).trans enL))
    clear hd hr hd1 hdr hO hmk ht ht2
    (repeat' (first | (show VH _ _ _ _ _ _ _; first | refine v_seq ?_ | refine r_seq ?_ | refine v_block ?_ | refine v_skip ?_ | refine v_cond_t rfl tbL ?_) | (show SH _ _ _ _ _ (_ :: _) _ _ _; first | (show SH _ _ _ _ _ (⟨_, .move _, _, _, _, _⟩ :: _) _ _ _; refine mov evL ?_) | (show SH _ _ _ _ _ (⟨_, .binOp .lss _ _ _ _, _, _, _, _⟩ :: _) _ _ _; refine lssT rfl rfl omD ?_) | (show SH _ _ _ _ _ (⟨_, .load _ _, _, _, _, _⟩ :: _) _ _ _; refine lag rfl (fun _ _ => rdY) (by rfl) omL (by assumption) ?_) | (show SH _ _ _ _ _ (⟨_, .indexAddr _ _ _, _, _, _, _⟩ :: _) _ _ _; refine ix rfl rfl (by with_reducible rfl) (fun _ _ => rdY) (by rfl) omL omL ?_) | refine slen rfl ?_) | refine s_nil ?_ | refine kh_normal ?_))
    refine cm rfl (fun w hw => ho _ _ w (Ent.wd enL hw)) rfl rfl ?_
    rintro _ _ rfl
    refine ⟨trivial, ?_⟩
    (repeat' (first | refine r_seq ?_ | (show SH _ _ _ _ _ (_ :: _) _ _ _; first | (show SH _ _ _ _ _ (⟨_, .move _, _, _, _, _⟩ :: _) _ _ _; refine mov evL ?_) | (show SH _ _ _ _ _ (⟨_, .assign _, _, _, _, _⟩ :: _) _ _ _; refine asg evL ?_) | (show SH _ _ _ _ _ (⟨_, .binOp .add _ _ _ _, _, _, _, _⟩ :: _) _ _ _; refine add rfl rfl inL ?_)) | refine s_nil ?_ | refine kh_normal ?_ | refine bh_normal ?_))
    exact ⟨agL, k + 1, hsL, enL, hlt, by omega⟩
  · clear hd1 hdr hO
    refine VH.ent (G := orow 31 A c LM :: H) ?_ (ent_cons Split.head (ent_drop (ent_refl _)))
    (repeat' (first | (show VH _ _ _ _ _ _ _; first | refine v_seq ?_ | refine r_seq ?_ | refine v_exit ?_ | refine v_cond_f rfl tbL ?_) | (show SH _ _ _ _ _ (_ :: _) _ _ _; first | (show SH _ _ _ _ _ (⟨_, .move _, _, _, _, _⟩ :: _) _ _ _; refine mov evL ?_) | (show SH _ _ _ _ _ (⟨_, .binOp .lss _ _ _ _, _, _, _, _⟩ :: _) _ _ _; refine lssF rfl rfl omD ?_) | refine slen rfl ?_) | refine s_nil ?_ | refine kh_normal ?_ | refine kh_exit ?_ | refine bh_exit ?_))
    refine bcp rfl ?_
    (repeat' (first | (show VH _ _ _ _ _ _ _; first | refine v_seq ?_ | refine r_seq ?_ | refine v_block ?_) | (show SH _ _ _ _ _ (_ :: _) _ _ _; first | (show SH _ _ _ _ _ (⟨_, .move _, _, _, _, _⟩ :: _) _ _ _; refine mov evL ?_) | (show SH _ _ _ _ _ (⟨_, .assign _, _, _, _, _⟩ :: _) _ _ _; refine asg evL ?_) | (show SH _ _ _ _ _ (⟨_, .binOp .add _ _ _ _, _, _, _, _⟩ :: _) _ _ _; refine add rfl rfl inL ?_) | (show SH _ _ _ _ _ (⟨_, .call ⟨.builtin _, _, _⟩, _, _, _, _⟩ :: _) _ _ _; first | refine slen rfl ?_ | refine bmin rfl rfl ?_) | (show SH _ _ _ _ _ (⟨_, .slice _ _ _ _ _, _, _, _, _⟩ :: _) _ _ _; refine slh rfl rfl omL omL ?_)) | refine s_nil ?_ | refine kh_normal ?_))
    rw [ht]
    refine v_norm [(3,_),(4,_)] heL (fun g => ?_)
    refine v_loop [(4,4),(24,34)] (fun s : Nat × List EntP => [(4, .int .i64 s.1)]) (fun s => orow 31 A c s.2 :: H) (fun s => s.1 ≤ L.length + 12 ∧ s.2.length = L.length + 12) (fun s => L.length + 12 - s.1) (0, LM) hsL enL ⟨Nat.zero_le _, hlm⟩ ?_
    rintro ⟨k, l2⟩ g ⟨hk, hl2⟩
    simp only [sets]
    simp only at hk hl2
    by_cases hlt : k < L.length + 12
    · have hq := hmk k (by omega)
      generalize mkE 2 k = q at hq
      clear hmk ht ht2
      (repeat' (first | (show VH _ _ _ _ _ _ _; first | refine v_seq ?_ | refine r_seq ?_ | refine v_block ?_ | refine v_skip ?_ | refine v_cond_t rfl tbL ?_) | (show SH _ _ _ _ _ (_ :: _) _ _ _; first | (show SH _ _ _ _ _ (⟨_, .move _, _, _, _, _⟩ :: _) _ _ _; refine mov evL ?_) | (show SH _ _ _ _ _ (⟨_, .binOp .lss _ _ _ _, _, _, _, _⟩ :: _) _ _ _; refine lssT rfl rfl omD ?_) | (show SH _ _ _ _ _ (⟨_, .indexAddr _ _ _, _, _, _, _⟩ :: _) _ _ _; refine ix rfl rfl (by with_reducible rfl) (fun _ _ => rdY) (by rfl) omL omL ?_) | refine slen rfl ?_ | (show SH _ _ _ _ _ (⟨_, .call ⟨.value (.func 50), _, _⟩, _, _, _, _⟩ :: _) _ _ _; refine cl (callee := .func 50) rfl (fun w hw => hq w) rfl rfl ?_)) | refine s_nil ?_ | refine kh_normal ?_))
      refine stv (i := k) (l := l2) (A := A) q rfl rfl rfl spL rfl (by omega) rfl trivial ?_
      (repeat' (first | refine r_seq ?_ | (show SH _ _ _ _ _ (_ :: _) _ _ _; first | (show SH _ _ _ _ _ (⟨_, .move _, _, _, _, _⟩ :: _) _ _ _; refine mov evL ?_) | (show SH _ _ _ _ _ (⟨_, .assign _, _, _, _, _⟩ :: _) _ _ _; refine asg evL ?_) | (show SH _ _ _ _ _ (⟨_, .binOp .add _ _ _ _, _, _, _, _⟩ :: _) _ _ _; refine add rfl rfl inL ?_)) | refine s_nil ?_ | refine kh_normal ?_ | refine bh_normal ?_))
      exact ⟨agL, (k + 1, l2.set k q), hsL, enL, ⟨hlt, by rw [List.length_set]; exact hl2⟩, by show _ - (k + 1) < _ - k; omega⟩
    · clear hmk ht ht2
      (repeat' (first | (show VH _ _ _ _ _ _ _; first | refine v_seq ?_ | refine r_seq ?_ | refine v_exit ?_ | refine v_cond_f rfl tbL ?_) | (show SH _ _ _ _ _ (_ :: _) _ _ _; first | (show SH _ _ _ _ _ (⟨_, .move _, _, _, _, _⟩ :: _) _ _ _; refine mov evL ?_) | (show SH _ _ _ _ _ (⟨_, .binOp .lss _ _ _ _, _, _, _, _⟩ :: _) _ _ _; refine lssF rfl rfl omD ?_) | refine slen rfl ?_) | refine s_nil ?_ | refine kh_normal ?_ | refine kh_exit ?_ | refine bh_exit ?_))
      exact rh0n rfl rfl enL
set_option maxHeartbeats 1000000 in
set_option maxRecDepth 100000 in
theorem overWorld_spec (t : Int) (A : Option Addr) (L : List EntP) (es : List Ent1) (c : Nat) (w0 : World) (H : List HP) (w : World) (hL : LentL es L c) (hn : L.length ≤ 1000000) (hse : ∀ x ∈ L, x.e.comps.length ≤ 1000000) (hw : Wd w0 (orow 31 A c (L ++ marksG mkE 1 0 12) :: allH (L.map rowL) :: H) w) :
    Ret Tryz.prog 26 [wv t A L c].toArray w (RP w0 fun _ H' => H' = H) := by
  have hO := fun w0 H w h => overEntities_spec A L es c w0 H w hL hn hse h
  unfold wv
  generalize L ++ marksG mkE 1 0 12 = LM at hO hw
  clear hL hn hse
  refine enterH Tryz.func26 rfl rfl Tryz.ntmps26 rfl (by assumption) ?_
  (repeat' (first | (show VH _ _ _ _ _ _ _; first | refine v_seq ?_ | refine r_seq ?_) | (show SH _ _ _ _ _ (_ :: _) _ _ _; first | (show SH _ _ _ _ _ (⟨_, .load _ _, _, _, _, _⟩ :: _) _ _ _; refine lbx rfl spL (by rfl) ?_) | refine fad rfl ?_ | (show SH _ _ _ _ _ (⟨_, .box _ _, _, _, _, _⟩ :: _) _ _ _; refine bxx rfl evL rfl (fun b => ?_))) | refine s_nil ?_ | refine kh_normal ?_))
  refine cm rfl (fun w hw => hO _ _ w (Ent.wd enL hw)) rfl rfl ?_
  rintro _ _ rfl
  refine ⟨trivial, ?_⟩
  (repeat' (refine s_nil ?_))
  exact rh0n rfl rfl enL
end Go.Proofs.YtjefoecnciepmaaGreatDoor

/- The kit: types of a bag of slices (printed by gen_kw.py). -/
namespace Go.Proofs.YtjefoecnciepmaaGreatDoor
open Go.Fw Go.RowKit
instance : TSl Tryz.prog 75 156 1 24 := ⟨by kernel_rfl, by kernel_rfl⟩
instance : TEl Tryz.prog 156 1 24 := tel_of (z := .slice none 0 0) (by kernel_rfl) rfl (by omega)
instance : TOne Tryz.prog 75 (.slice none 0 0) := ⟨fun w => by kernel_rfl, fun w => by kernel_rfl, fun w => by kernel_rfl, rfl⟩
instance : TSl Tryz.prog 51 34 1 24 := ⟨by kernel_rfl, by kernel_rfl⟩
instance : TEl Tryz.prog 34 1 24 := tel_of (z := .slice none 0 0) (by kernel_rfl) rfl (by omega)
instance : TOne Tryz.prog 51 (.slice none 0 0) := ⟨fun w => by kernel_rfl, fun w => by kernel_rfl, fun w => by kernel_rfl, rfl⟩
instance : TSl Tryz.prog 76 158 1 24 := ⟨by kernel_rfl, by kernel_rfl⟩
instance : TEl Tryz.prog 158 1 24 := tel_of (z := .slice none 0 0) (by kernel_rfl) rfl (by omega)
instance : TOne Tryz.prog 76 (.slice none 0 0) := ⟨fun w => by kernel_rfl, fun w => by kernel_rfl, fun w => by kernel_rfl, rfl⟩
instance : TSl Tryz.prog 77 160 1 24 := ⟨by kernel_rfl, by kernel_rfl⟩
instance : TEl Tryz.prog 160 1 24 := tel_of (z := .slice none 0 0) (by kernel_rfl) rfl (by omega)
instance : TOne Tryz.prog 77 (.slice none 0 0) := ⟨fun w => by kernel_rfl, fun w => by kernel_rfl, fun w => by kernel_rfl, rfl⟩
instance : TSl Tryz.prog 78 29 1 24 := ⟨by kernel_rfl, by kernel_rfl⟩
instance : TEl Tryz.prog 29 1 24 := tel_of (z := .slice none 0 0) (by kernel_rfl) rfl (by omega)
instance : TOne Tryz.prog 78 (.slice none 0 0) := ⟨fun w => by kernel_rfl, fun w => by kernel_rfl, fun w => by kernel_rfl, rfl⟩
instance : TSl Tryz.prog 79 22 1 24 := ⟨by kernel_rfl, by kernel_rfl⟩
instance : TEl Tryz.prog 22 1 24 := tel_of (z := .slice none 0 0) (by kernel_rfl) rfl (by omega)
instance : TOne Tryz.prog 79 (.slice none 0 0) := ⟨fun w => by kernel_rfl, fun w => by kernel_rfl, fun w => by kernel_rfl, rfl⟩
instance : TSl Tryz.prog 54 53 1 24 := ⟨by kernel_rfl, by kernel_rfl⟩
instance : TEl Tryz.prog 53 1 24 := tel_of (z := .slice none 0 0) (by kernel_rfl) rfl (by omega)
instance : TOne Tryz.prog 54 (.slice none 0 0) := ⟨fun w => by kernel_rfl, fun w => by kernel_rfl, fun w => by kernel_rfl, rfl⟩
instance : TSl Tryz.prog 80 56 1 24 := ⟨by kernel_rfl, by kernel_rfl⟩
instance : TEl Tryz.prog 56 1 24 := tel_of (z := .slice none 0 0) (by kernel_rfl) rfl (by omega)
instance : TOne Tryz.prog 80 (.slice none 0 0) := ⟨fun w => by kernel_rfl, fun w => by kernel_rfl, fun w => by kernel_rfl, rfl⟩
instance : TSl Tryz.prog 81 165 1 24 := ⟨by kernel_rfl, by kernel_rfl⟩
instance : TEl Tryz.prog 165 1 24 := tel_of (z := .slice none 0 0) (by kernel_rfl) rfl (by omega)
instance : TOne Tryz.prog 81 (.slice none 0 0) := ⟨fun w => by kernel_rfl, fun w => by kernel_rfl, fun w => by kernel_rfl, rfl⟩
instance : TSl Tryz.prog 82 169 1 24 := ⟨by kernel_rfl, by kernel_rfl⟩
instance : TEl Tryz.prog 169 1 24 := tel_of (z := .slice none 0 0) (by kernel_rfl) rfl (by omega)
instance : TOne Tryz.prog 82 (.slice none 0 0) := ⟨fun w => by kernel_rfl, fun w => by kernel_rfl, fun w => by kernel_rfl, rfl⟩
instance : TSl Tryz.prog 83 173 1 24 := ⟨by kernel_rfl, by kernel_rfl⟩
instance : TEl Tryz.prog 173 1 24 := tel_of (z := .slice none 0 0) (by kernel_rfl) rfl (by omega)
instance : TOne Tryz.prog 83 (.slice none 0 0) := ⟨fun w => by kernel_rfl, fun w => by kernel_rfl, fun w => by kernel_rfl, rfl⟩
instance : TSl Tryz.prog 84 177 1 24 := ⟨by kernel_rfl, by kernel_rfl⟩
instance : TEl Tryz.prog 177 1 24 := tel_of (z := .slice none 0 0) (by kernel_rfl) rfl (by omega)
instance : TOne Tryz.prog 84 (.slice none 0 0) := ⟨fun w => by kernel_rfl, fun w => by kernel_rfl, fun w => by kernel_rfl, rfl⟩
instance : TSl Tryz.prog 85 181 1 24 := ⟨by kernel_rfl, by kernel_rfl⟩
instance : TEl Tryz.prog 181 1 24 := tel_of (z := .slice none 0 0) (by kernel_rfl) rfl (by omega)
instance : TOne Tryz.prog 85 (.slice none 0 0) := ⟨fun w => by kernel_rfl, fun w => by kernel_rfl, fun w => by kernel_rfl, rfl⟩
instance : TSl Tryz.prog 86 185 1 24 := ⟨by kernel_rfl, by kernel_rfl⟩
instance : TEl Tryz.prog 185 1 24 := tel_of (z := .slice none 0 0) (by kernel_rfl) rfl (by omega)
instance : TOne Tryz.prog 86 (.slice none 0 0) := ⟨fun w => by kernel_rfl, fun w => by kernel_rfl, fun w => by kernel_rfl, rfl⟩
instance : TSl Tryz.prog 87 189 1 24 := ⟨by kernel_rfl, by kernel_rfl⟩
instance : TEl Tryz.prog 189 1 24 := tel_of (z := .slice none 0 0) (by kernel_rfl) rfl (by omega)
instance : TOne Tryz.prog 87 (.slice none 0 0) := ⟨fun w => by kernel_rfl, fun w => by kernel_rfl, fun w => by kernel_rfl, rfl⟩
instance : TSl Tryz.prog 88 194 1 24 := ⟨by kernel_rfl, by kernel_rfl⟩
instance : TEl Tryz.prog 194 1 24 := tel_of (z := .slice none 0 0) (by kernel_rfl) rfl (by omega)
instance : TOne Tryz.prog 88 (.slice none 0 0) := ⟨fun w => by kernel_rfl, fun w => by kernel_rfl, fun w => by kernel_rfl, rfl⟩
instance : TSl Tryz.prog 89 199 1 24 := ⟨by kernel_rfl, by kernel_rfl⟩
instance : TEl Tryz.prog 199 1 24 := tel_of (z := .slice none 0 0) (by kernel_rfl) rfl (by omega)
instance : TOne Tryz.prog 89 (.slice none 0 0) := ⟨fun w => by kernel_rfl, fun w => by kernel_rfl, fun w => by kernel_rfl, rfl⟩
instance : TSl Tryz.prog 90 204 1 24 := ⟨by kernel_rfl, by kernel_rfl⟩
instance : TEl Tryz.prog 204 1 24 := tel_of (z := .slice none 0 0) (by kernel_rfl) rfl (by omega)
instance : TOne Tryz.prog 90 (.slice none 0 0) := ⟨fun w => by kernel_rfl, fun w => by kernel_rfl, fun w => by kernel_rfl, rfl⟩
instance : TSl Tryz.prog 91 208 1 24 := ⟨by kernel_rfl, by kernel_rfl⟩
instance : TEl Tryz.prog 208 1 24 := tel_of (z := .slice none 0 0) (by kernel_rfl) rfl (by omega)
instance : TOne Tryz.prog 91 (.slice none 0 0) := ⟨fun w => by kernel_rfl, fun w => by kernel_rfl, fun w => by kernel_rfl, rfl⟩
instance : TSl Tryz.prog 92 212 1 24 := ⟨by kernel_rfl, by kernel_rfl⟩
instance : TEl Tryz.prog 212 1 24 := tel_of (z := .slice none 0 0) (by kernel_rfl) rfl (by omega)
instance : TOne Tryz.prog 92 (.slice none 0 0) := ⟨fun w => by kernel_rfl, fun w => by kernel_rfl, fun w => by kernel_rfl, rfl⟩
instance : TSl Tryz.prog 53 24 2 32 := ⟨by kernel_rfl, by kernel_rfl⟩
instance : TEl Tryz.prog 24 2 32 := tel_of (z := .agg #[.int .i64 0, .slice none 0 0]) (by kernel_rfl) rfl (by omega)
instance : TOne Tryz.prog 53 (.slice none 0 0) := ⟨fun w => by kernel_rfl, fun w => by kernel_rfl, fun w => by kernel_rfl, rfl⟩
end Go.Proofs.YtjefoecnciepmaaGreatDoor

/- The kit: flatInts: slices that lie side by side (printed by gen_kw.py). -/
namespace Go.Proofs.YtjefoecnciepmaaGreatDoor
open Go.Fw Go.RowKit
set_option maxHeartbeats 4000000 in
set_option maxRecDepth 100000 in
theorem flatInts_spec (A0 : Option Addr) (c0 : Nat) (rs : List (RowG Int)) (w0 : World) (H : List HP) (w : World) (hn : rs.length ≤ 100000) (hll : ∀ r ∈ rs.map slv, r.m ≤ 1000000)
    (hw : Wd w0 (orow 34 A0 c0 (rs.map slv) :: (rs.map (rowP 3) ++ H)) w) :
    Ret Tryz.prog 72 [.slice A0 rs.length c0].toArray w (RP w0 fun v H' => v = .bool true ∧ H' = H) := by
  obtain ⟨sl, hsl⟩ : ∃ sl, sl = rs.map slv := ⟨_, rfl⟩
  have hsn : sl.length = rs.length := by rw [hsl, List.length_map]
  rw [← hsl] at hw hll
  refine enterH Tryz.func72 rfl rfl Tryz.ntmps72 rfl (by assumption) ?_
  (repeat' (first | (show VH _ _ _ _ _ _ _; first | refine v_seq ?_ | refine r_seq ?_ | refine v_block ?_) | (show SH _ _ _ _ _ (_ :: _) _ _ _; (show SH _ _ _ _ _ (⟨_, .assign _, _, _, _, _⟩ :: _) _ _ _; refine asg evL ?_)) | refine s_nil ?_ | refine kh_normal ?_))
  refine v_norm [(0,_),(3,_)] heL (fun g => ?_)
  have hsub : ∀ {rs' : List (RowG Int)} {k : Nat} {A1 c1 l1}, rs'.map slv = sl → k < rs'.length → rs'.getD k rowD = ⟨A1, c1, l1⟩ → sl.getD k Flat.dflt = ⟨A1, l1.length, c1⟩ ∧ l1.length ≤ 1000000 := fun {rs' k A1 c1 l1} h1 h2 h3 => by
    have e : sl.getD k Flat.dflt = ⟨A1, l1.length, c1⟩ := by rw [← h1, getD_map' (d := rowD) h2, h3]; rfl
    refine ⟨e, ?_⟩
    have := hll (sl.getD k Flat.dflt) (getD_mem (by rw [← h1, List.length_map]; exact h2))
    rw [e] at this; exact this
  /- the marks are written -/
  refine v_loop [(3,4),(16,39)] (fun y : Nat × List (RowG Int) => [(3, .int .i64 y.1)]) (fun y => orow 34 A0 c0 sl :: (y.2.map (rowP 3) ++ H)) (fun y => y.1 ≤ rs.length ∧ y.2.map slv = sl ∧ Marked markI y.2 y.1) (fun y => rs.length - y.1) (0, rs) hsL (ent_refl _) ⟨Nat.zero_le _, hsl.symm, fun j hj => absurd hj (Nat.not_lt_zero j)⟩ ?_
  rintro ⟨k, rs1⟩ g ⟨hk, hs1, hm1⟩
  simp only [sets]
  simp only at hk hs1 hm1
  have hl1 : rs1.length = rs.length := by rw [← hsn, ← hs1, List.length_map]
  by_cases hkn : k < rs.length
  · obtain ⟨A1, c1, l1, hr⟩ : ∃ A1 c1 l1, rs1.getD k rowD = ⟨A1, c1, l1⟩ := ⟨_, _, _, rfl⟩
    obtain ⟨hg, hlen⟩ := hsub hs1 (by omega) hr
    refine VH.ent (G := orow 34 A0 c0 sl :: rowP 3 ⟨A1, c1, l1⟩ :: ((rs1.eraseIdx k).map (rowP 3) ++ H)) ?_ (ent_cons Split.head (hr ▸ ent_map_open (d := rowD) (by omega)))
    simp only [rowP]
    (repeat' (first | (show VH _ _ _ _ _ _ _; first | refine v_seq ?_ | refine r_seq ?_ | refine v_block ?_ | refine v_skip ?_ | refine v_cond_t rfl tbL ?_) | (show SH _ _ _ _ _ (_ :: _) _ _ _; first | (show SH _ _ _ _ _ (⟨_, .move _, _, _, _, _⟩ :: _) _ _ _; refine mov evL ?_) | (show SH _ _ _ _ _ (⟨_, .assign _, _, _, _, _⟩ :: _) _ _ _; refine asg evL ?_) | refine lss rfl rfl ?_ | refine slen rfl ?_) | refine s_nil ?_ | refine kh_normal ?_))
    refine v_loop [(4,4),(22,39)] (fun y : Nat × List Int => [(4, .int .i64 y.1)]) (fun y => orow 34 A0 c0 sl :: orow 3 A1 c1 y.2 :: ((rs1.eraseIdx k).map (rowP 3) ++ H)) (fun y => y.1 ≤ l1.length ∧ y.2.length = l1.length ∧ y.2.take y.1 = marksG markI k 0 y.1) (fun y => l1.length - y.1) (0, l1) hsL (ent_refl _) ⟨Nat.zero_le _, rfl, rfl⟩ ?_
    rintro ⟨i, l2⟩ g2 ⟨hi, h2, ht2⟩
    simp only [sets]
    simp only at hi h2 ht2
    (repeat' (first | (show VH _ _ _ _ _ _ _; first | refine v_seq ?_ | refine r_seq ?_ | refine v_block ?_ | refine v_skip ?_ | refine v_exit ?_ | refine v_cond_dec rfl (fun h => ?_) (fun h => ?_)) | (show SH _ _ _ _ _ (_ :: _) _ _ _; first | (show SH _ _ _ _ _ (⟨_, .move _, _, _, _, _⟩ :: _) _ _ _; refine mov evL ?_) | (show SH _ _ _ _ _ (⟨_, .assign _, _, _, _, _⟩ :: _) _ _ _; refine asg evL ?_) | (show SH _ _ _ _ _ (⟨_, .binOp .add _ _ _ _, _, _, _, _⟩ :: _) _ _ _; refine add rfl rfl inL ?_) | refine lss rfl rfl ?_ | (show SH _ _ _ _ _ (⟨_, .load _ _, _, _, _, _⟩ :: _) _ _ _; refine lsl rfl (fun _ _ => rdL) omL (by assumption) ?_) | (show SH _ _ _ _ _ (⟨_, .indexAddr _ _ _, _, _, _, _⟩ :: _) _ _ _; refine ix rfl rfl (by with_reducible rfl) (fun _ _ => rdL) (by rfl) omL omL ?_) | refine slen rfl ?_) | refine s_nil ?_ | refine kh_normal ?_ | refine kh_exit ?_ | refine bh_normal ?_ | refine bh_exit ?_))
    · refine r_held (orow 34 A0 c0 sl :: ((rs1.eraseIdx k).map (rowP 3) ++ H)) [(0, true), (1, true), (2, true), (3, true), (4, true), (5, true), (6, false), (7, false), (8, false), (9, false)] hmix (by kernel_rfl) (ent_cons spL (ent_drop (ent_refl _))) ?_
      (repeat' (first | refine r_seq ?_ | (show SH _ _ _ _ _ (_ :: _) _ _ _; first | (show SH _ _ _ _ _ (⟨_, .move _, _, _, _, _⟩ :: _) _ _ _; refine mov evL ?_) | (show SH _ _ _ _ _ (⟨_, .assign _, _, _, _, _⟩ :: _) _ _ _; refine asg evL ?_) | (show SH _ _ _ _ _ (⟨_, .binOp .add _ _ _ _, _, _, _, _⟩ :: _) _ _ _; refine add rfl rfl inL ?_) | (show SH _ _ _ _ _ (⟨_, .load _ _, _, _, _, _⟩ :: _) _ _ _; refine lsl rfl (fun _ _ => rdL) omL (by assumption) ?_) | (show SH _ _ _ _ _ (⟨_, .indexAddr _ _ _, _, _, _, _⟩ :: _) _ _ _; refine ix rfl rfl (by with_reducible rfl) (fun _ _ => rdL) (by rfl) omL omL ?_) | (show SH _ _ _ _ _ (⟨_, .call ⟨.value (.func 94), _, _⟩, _, _, _, _⟩ :: _) _ _ _; refine cl (callee := .func 94) rfl (fun w hw => mark_spec _ _ w (by omega) (by omega)) rfl rfl ?_) | (show SH _ _ _ _ _ (⟨_, .store _ _ _, _, _, _, _⟩ :: _) _ _ _; refine sti rfl rfl rfl spL omL kpL ?_)) | refine s_nil ?_ | refine kh_normal ?_ | refine bh_normal ?_))
      refine ⟨agL, (i + 1, l2.set i (markI k i)), hsL, enL, ⟨by show i + 1 ≤ _; omega, by show (l2.set i _).length = _; rw [List.length_set]; exact h2, ?_⟩, by show _ - (i + 1) < _ - i; omega⟩
      show (l2.set i (markI k i)).take (i + 1) = _
      rw [take_set_snoc _ _ _ (by omega), ht2, marksG_snoc, Nat.zero_add]
    · have hil : i = l1.length := by omega
      subst hil
      rw [List.take_of_length_le (by omega)] at ht2
      (repeat' (first | (show VH _ _ _ _ _ _ _; first | refine v_seq ?_ | refine r_seq ?_ | refine r_quiet hmix (by kernel_rfl) ?_ | refine v_block ?_ | refine v_ret ?_ | refine v_skip ?_ | refine v_exit ?_ | refine v_label ?_ | refine v_cond_t rfl tbL ?_ | refine v_cond_f rfl tbL ?_ | refine v_cond_dec rfl (fun h => ?_) (fun h => ?_) | refine v_cond_ndec rfl (fun h => ?_) (fun h => ?_) | refine v_cond rfl (fun h => ?_) (fun h => ?_)) | (show SH _ _ _ _ _ (_ :: _) _ _ _; first | (show SH _ _ _ _ _ (⟨_, _, _, _, _, some _⟩ :: _) _ _ _; first | (refine gif rfl rfl ?_; first | refine giTT tbL ?_ | refine giTF tbL ?_ | refine giFF tbL ?_ | refine giFT tbL ?_ | refine giTd (fun h => ?_) (fun h => ?_) | refine giFd (fun h => ?_) (fun h => ?_) | refine giT (fun h => ?_) (fun h => ?_) | refine giF (fun h => ?_) (fun h => ?_)) | refine gu rfl rfl ?_ | refine grT rfl rfl tbL ?_ | refine grF rfl rfl tbL ?_) | (show SH _ _ _ _ _ (⟨_, .move _, _, _, _, _⟩ :: _) _ _ _; refine mov evL ?_) | (show SH _ _ _ _ _ (⟨_, .assign _, _, _, _, _⟩ :: _) _ _ _; refine asg evL ?_) | (show SH _ _ _ _ _ (⟨_, .binOp .add _ _ _ _, _, _, _, _⟩ :: _) _ _ _; refine add rfl rfl inL ?_) | refine lss rfl rfl ?_ | (show SH _ _ _ _ _ (⟨_, .binOp .eql _ _ _ _, _, _, _, _⟩ :: _) _ _ _; first | refine eql rfl rfl ?_ | refine eqn rfl rfl ?_ | refine eqb rfl rfl ?_) | (show SH _ _ _ _ _ (⟨_, .load _ _, _, _, _, _⟩ :: _) _ _ _; first | refine lsl rfl (fun _ _ => rdL) omL (by assumption) ?_ | refine lgi rfl (fun _ _ => rdY) omL (by assumption) ?_ | refine lag rfl (fun _ _ => rdY) (by rfl) omL (by assumption) ?_ | refine lrg rfl (fun _ _ => rdY) (by rfl) omL (by assumption) (by rfl) ?_ | refine lin rfl (fun _ _ => rdL) omL ?_ | refine lbx rfl spL (by rfl) ?_ | refine lba rfl spL (by rfl) ?_ | refine lbi rfl spL omL ?_ | refine lr1 rfl (fun _ _ => rdL) (by rfl) omL (by rfl) ?_ | refine lra rfl (fun _ _ => rdL) (by rfl) omL ?_ | refine lrf rfl (fun _ _ => rdL) (by rfl) omL (by rfl) ?_ | refine lcell rfl (fun w hw => hw.ext.cell (by assumption)) ?_) | (show SH _ _ _ _ _ (⟨_, .indexAddr _ _ _, _, _, _, _⟩ :: _) _ _ _; first | refine ix rfl rfl (by with_reducible rfl) (fun _ _ => rdL) (by rfl) omL omL ?_ | refine ixi rfl rfl (fun _ _ => rdL) (by rfl) omL omL omL ?_ | refine ixb rfl rfl omL ?_ | refine ixq rfl rfl (by assumption) omL omL ?_) | refine slen rfl ?_ | (show SH _ _ _ _ _ (⟨_, .pick _ _ _, _, _, _, _⟩ :: _) _ _ _; first | refine pkt rfl tbL evL ?_ | refine pkf rfl tbL evL ?_) | refine bnot rfl ?_ | (show SH _ _ _ _ _ (⟨_, .store _ _ _, _, _, _, _⟩ :: _) _ _ _; first | refine stb rfl rfl evL spL rfl rfl (by first | decide | exact Nat.zero_lt_succ _ | exact of_decide_eq_true rfl) kpL ?_ | refine sta rfl rfl rfl spL (by rfl) (by rfl) (by rfl) kpL ?_ | refine sti rfl rfl rfl spL omL kpL ?_ | refine sbi rfl rfl rfl spL omL kpL ?_) | (show SH _ _ _ _ _ (⟨_, .buildSlice _ _ _, _, _, _, _⟩ :: _) _ _ _; refine bsl (α := Int) rfl rfl (by repeat (first | exact Vals.nil | (apply Vals.cons; rfl))) rfl (by rfl) (by decide) (fun b => ?_))) | refine s_nil ?_ | refine kh_normal ?_ | refine kh_ret ?_ | refine kh_exit ?_ | refine bh_normal ?_ | refine bh_ret ?_ | refine bh_exit ?_ | refine bh_exit_ne rfl ?_))
      refine ⟨agL, (k + 1, rs1.set k ⟨A1, c1, l2⟩), hsL, ent_cons Split.head (ent_map_close (f := rowP 3) (x := ⟨A1, c1, l2⟩) (by omega)), ⟨by show k + 1 ≤ _; omega, ?_, fun j hj => ?_⟩, by show _ - (k + 1) < _ - k; omega⟩
      · show (rs1.set k ⟨A1, c1, l2⟩).map slv = sl
        rw [set_map' (d := rowD) (by omega) (by rw [hr]; simp only [slv, h2]), hs1]
      · show ((rs1.set k ⟨A1, c1, l2⟩).getD j rowD).l = marksG markI j 0 ((rs1.set k ⟨A1, c1, l2⟩).getD j rowD).l.length
        by_cases e : j = k
        · subst e
          rw [getD_set_self' (by omega)]
          simp only
          rw [h2]; exact ht2
        · rw [getD_set_ne2 (by omega)]
          exact hm1 j (by omega)
  have hke : k = rs.length := by omega
  subst hke
  have hmk : ∀ {k A1 c1 l1}, k < rs.length → rs1.getD k rowD = ⟨A1, c1, l1⟩ → l1 = marksG markI k 0 l1.length := fun {k A1 c1 l1} h1 h2 => by
    have := hm1 k h1
    rw [h2] at this; exact this
  refine VH.ent (G := orow 34 A0 c0 sl :: ((rs1.map selfT).map (twP 3) ++ H)) ?_ (ent_cons Split.head (ent_row_selfs rs1))
  (repeat' (first | (show VH _ _ _ _ _ _ _; first | refine v_seq ?_ | refine r_seq ?_ | refine v_exit ?_ | refine v_cond_f rfl tbL ?_) | (show SH _ _ _ _ _ (_ :: _) _ _ _; first | (show SH _ _ _ _ _ (⟨_, .move _, _, _, _, _⟩ :: _) _ _ _; refine mov evL ?_) | refine lss rfl rfl ?_ | refine slen rfl ?_) | refine s_nil ?_ | refine kh_normal ?_ | refine kh_exit ?_ | refine bh_exit ?_))
  refine mkz (α := SliceV) (z := .slice none 0 0) (by kernel_rfl) rfl rfl rfl rfl rfl rfl (by omega) (by omega) (by omega) (by omega) (fun bk => ?_)
  simp only [Int.toNat_natCast]
  (repeat' (first | (show VH _ _ _ _ _ _ _; first | refine v_seq ?_ | refine r_seq ?_ | refine v_block ?_) | (show SH _ _ _ _ _ (_ :: _) _ _ _; (show SH _ _ _ _ _ (⟨_, .assign _, _, _, _, _⟩ :: _) _ _ _; refine asg evL ?_)) | refine s_nil ?_ | refine kh_normal ?_))
  refine v_norm [(0,_),(5,_),(6,_)] heL (fun g => ?_)
  /- each slice is extended, an element at a time -/
  refine v_loop [(6,8),(43,72)] (fun y : Nat × (List (TwG Int) × List SliceV) => [(6, .int .i64 y.1)]) (fun y => orow 34 (some ⟨bk, 0, none⟩) rs.length y.2.2 :: orow 34 A0 c0 sl :: (y.2.1.map (twP 3) ++ H)) (fun y => y.1 ≤ rs.length ∧ Tw (fun j l => l ++ marksG markI j l.length 64) rs1 y.1 y.2.1 y.2.2) (fun y => rs.length - y.1) (0, (rs1.map selfT, List.replicate rs.length Flat.dflt)) hsL (ent_refl _) ⟨Nat.zero_le _, tw_start (by rw [List.length_replicate, hl1])⟩ ?_
  rintro ⟨k, ts, gl⟩ g ⟨hk, htw⟩
  simp only [sets]
  simp only at hk htw
  have htl := htw.tlen
  have hgl := htw.len
  by_cases hkn : k < rs.length
  · obtain ⟨A1, c1, l1, hr⟩ : ∃ A1 c1 l1, rs1.getD k rowD = ⟨A1, c1, l1⟩ := ⟨_, _, _, rfl⟩
    obtain ⟨hg, hlen⟩ := hsub hs1 (by omega) hr
    have hts := htw.self k (Nat.le_refl _) (by omega)
    rw [hr] at hts
    have h0 : l1 = l1 ++ marksG markI k l1.length 0 := by rw [marksG_zero, List.append_nil]
    refine VH.ent (G := orow 34 (some ⟨bk, 0, none⟩) rs.length gl :: orow 34 A0 c0 sl :: twin 3 A1 c1 l1 A1 c1 l1 :: ((ts.eraseIdx k).map (twP 3) ++ H)) ?_ (ent_cons Split.head (ent_cons Split.head (by have := ent_map_open (f := twP 3) (d := twD) (H := H) (L := ts) (k := k) (by omega); rw [hts] at this; exact this)))
    (repeat' (first | (show VH _ _ _ _ _ _ _; first | refine v_seq ?_ | refine r_seq ?_ | refine v_block ?_ | refine v_skip ?_ | refine v_cond_t rfl tbL ?_) | (show SH _ _ _ _ _ (_ :: _) _ _ _; first | (show SH _ _ _ _ _ (⟨_, .move _, _, _, _, _⟩ :: _) _ _ _; refine mov evL ?_) | (show SH _ _ _ _ _ (⟨_, .assign _, _, _, _, _⟩ :: _) _ _ _; refine asg evL ?_) | refine lss rfl rfl ?_ | (show SH _ _ _ _ _ (⟨_, .load _ _, _, _, _, _⟩ :: _) _ _ _; refine lsl rfl (fun _ _ => rdL) omL (by assumption) ?_) | (show SH _ _ _ _ _ (⟨_, .indexAddr _ _ _, _, _, _, _⟩ :: _) _ _ _; refine ix rfl rfl (by with_reducible rfl) (fun _ _ => rdL) (by rfl) omL omL ?_) | refine slen rfl ?_) | refine s_nil ?_ | refine kh_normal ?_))
    refine v_normS [(6,8),(43,72)] _ agL [(6,_),(7,_),(8,_)] heL (fun g => ?_)
    refine v_loop [(7,8),(53,68)] (fun y : Nat × (Option Addr × Nat) => [(8, .int .i64 y.1), (7, .slice y.2.1 (l1 ++ marksG markI k l1.length y.1).length y.2.2)]) (fun y => orow 34 (some ⟨bk, 0, none⟩) rs.length gl :: orow 34 A0 c0 sl :: twin 3 A1 c1 l1 y.2.1 y.2.2 (l1 ++ marksG markI k l1.length y.1) :: ((ts.eraseIdx k).map (twP 3) ++ H)) (fun y => y.1 ≤ 64) (fun y => 64 - y.1) (0, (A1, c1)) ⟨rfl, congrArg (fun L : List Int => Value.slice A1 L.length c1) h0, trivial⟩ (by rw [← h0]; exact ent_refl _) (Nat.zero_le _) ?_
    rintro ⟨i, A2, cp2⟩ g2 hi
    simp only [sets]
    simp only at hi
    have hlen2 : (l1 ++ marksG markI k l1.length i).length = l1.length + i := by rw [List.length_append, marksG_len]
    (repeat' (first | (show VH _ _ _ _ _ _ _; first | refine v_seq ?_ | refine r_seq ?_ | refine v_block ?_ | refine v_skip ?_ | refine v_exit ?_ | refine v_cond_dec rfl (fun h => ?_) (fun h => ?_)) | (show SH _ _ _ _ _ (_ :: _) _ _ _; first | (show SH _ _ _ _ _ (⟨_, .move _, _, _, _, _⟩ :: _) _ _ _; refine mov evL ?_) | (show SH _ _ _ _ _ (⟨_, .binOp .add _ _ _ _, _, _, _, _⟩ :: _) _ _ _; refine add rfl rfl inL ?_) | refine lss rfl rfl ?_ | (show SH _ _ _ _ _ (⟨_, .load _ _, _, _, _, _⟩ :: _) _ _ _; refine lsl rfl (fun _ _ => rdL) omL (by assumption) ?_) | (show SH _ _ _ _ _ (⟨_, .indexAddr _ _ _, _, _, _, _⟩ :: _) _ _ _; refine ix rfl rfl (by with_reducible rfl) (fun _ _ => rdL) (by rfl) omL omL ?_) | refine slen rfl ?_ | (show SH _ _ _ _ _ (⟨_, .call ⟨.value (.func 94), _, _⟩, _, _, _, _⟩ :: _) _ _ _; refine cl (callee := .func 94) rfl (fun w hw => mark_spec _ _ w (by omega) (by omega)) rfl rfl ?_) | (show SH _ _ _ _ _ (⟨_, .buildSlice _ _ _, _, _, _, _⟩ :: _) _ _ _; refine bsl (α := Int) rfl rfl (by repeat (first | exact Vals.nil | (apply Vals.cons; rfl))) rfl (by rfl) (by decide) (fun b => ?_))) | refine s_nil ?_ | refine kh_normal ?_ | refine kh_exit ?_ | refine bh_exit ?_))
    · refine app3 rfl rfl rfl spL (fun w hw => hw.rd spL) rfl rfl rfl (by simp only [List.length_cons, List.length_nil]; omega) (by simp only [List.length_cons, List.length_nil]; omega) (fun A3 cp3 => ⟨trivial, ?_⟩)
      have hsn : l1 ++ marksG markI k l1.length (i + 1) = (l1 ++ marksG markI k l1.length i) ++ [markI k ((l1.length : Int) + (i : Int))] := by rw [marksG_snoc, List.append_assoc, Int.natCast_add]
      (repeat' (first | refine r_seq ?_ | (show SH _ _ _ _ _ (_ :: _) _ _ _; first | (show SH _ _ _ _ _ (⟨_, .move _, _, _, _, _⟩ :: _) _ _ _; refine mov evL ?_) | (show SH _ _ _ _ _ (⟨_, .assign _, _, _, _, _⟩ :: _) _ _ _; refine asg evL ?_) | (show SH _ _ _ _ _ (⟨_, .binOp .add _ _ _ _, _, _, _, _⟩ :: _) _ _ _; refine add rfl rfl inL ?_)) | refine s_nil ?_ | refine kh_normal ?_ | refine bh_normal ?_))
      refine ⟨agL, (i + 1, (A3, cp3)), ⟨rfl, congrArg (fun L : List Int => Value.slice A3 L.length cp3) hsn.symm, trivial⟩, ?_, by show i + 1 ≤ _; omega, by show _ - (i + 1) < _ - i; omega⟩
      show Ent _ (_ :: _ :: twin _ _ _ _ A3 cp3 (l1 ++ marksG markI k l1.length (i + 1)) :: _)
      rw [hsn]
      (repeat (first | exact ent_refl _ | exact ent_nil _ | refine ent_nilrow ?_ | refine ent_cons spL ?_ | refine ent_drop ?_))
    · have hi64 : i = 64 := by omega
      subst hi64
      (repeat' (first | (show VH _ _ _ _ _ _ _; first | refine v_seq ?_ | refine r_seq ?_ | refine r_quiet hmix (by kernel_rfl) ?_ | refine v_block ?_ | refine v_ret ?_ | refine v_skip ?_ | refine v_exit ?_ | refine v_label ?_ | refine v_cond_t rfl tbL ?_ | refine v_cond_f rfl tbL ?_ | refine v_cond_dec rfl (fun h => ?_) (fun h => ?_) | refine v_cond_ndec rfl (fun h => ?_) (fun h => ?_) | refine v_cond rfl (fun h => ?_) (fun h => ?_)) | (show SH _ _ _ _ _ (_ :: _) _ _ _; first | (show SH _ _ _ _ _ (⟨_, _, _, _, _, some _⟩ :: _) _ _ _; first | (refine gif rfl rfl ?_; first | refine giTT tbL ?_ | refine giTF tbL ?_ | refine giFF tbL ?_ | refine giFT tbL ?_ | refine giTd (fun h => ?_) (fun h => ?_) | refine giFd (fun h => ?_) (fun h => ?_) | refine giT (fun h => ?_) (fun h => ?_) | refine giF (fun h => ?_) (fun h => ?_)) | refine gu rfl rfl ?_ | refine grT rfl rfl tbL ?_ | refine grF rfl rfl tbL ?_) | (show SH _ _ _ _ _ (⟨_, .move _, _, _, _, _⟩ :: _) _ _ _; refine mov evL ?_) | (show SH _ _ _ _ _ (⟨_, .assign _, _, _, _, _⟩ :: _) _ _ _; refine asg evL ?_) | (show SH _ _ _ _ _ (⟨_, .binOp .add _ _ _ _, _, _, _, _⟩ :: _) _ _ _; refine add rfl rfl inL ?_) | refine lss rfl rfl ?_ | (show SH _ _ _ _ _ (⟨_, .binOp .eql _ _ _ _, _, _, _, _⟩ :: _) _ _ _; first | refine eql rfl rfl ?_ | refine eqn rfl rfl ?_ | refine eqb rfl rfl ?_) | (show SH _ _ _ _ _ (⟨_, .load _ _, _, _, _, _⟩ :: _) _ _ _; first | refine lsl rfl (fun _ _ => rdL) omL (by assumption) ?_ | refine lgi rfl (fun _ _ => rdY) omL (by assumption) ?_ | refine lag rfl (fun _ _ => rdY) (by rfl) omL (by assumption) ?_ | refine lrg rfl (fun _ _ => rdY) (by rfl) omL (by assumption) (by rfl) ?_ | refine lin rfl (fun _ _ => rdL) omL ?_ | refine lbx rfl spL (by rfl) ?_ | refine lba rfl spL (by rfl) ?_ | refine lbi rfl spL omL ?_ | refine lr1 rfl (fun _ _ => rdL) (by rfl) omL (by rfl) ?_ | refine lra rfl (fun _ _ => rdL) (by rfl) omL ?_ | refine lrf rfl (fun _ _ => rdL) (by rfl) omL (by rfl) ?_ | refine lcell rfl (fun w hw => hw.ext.cell (by assumption)) ?_) | (show SH _ _ _ _ _ (⟨_, .indexAddr _ _ _, _, _, _, _⟩ :: _) _ _ _; first | refine ix rfl rfl (by with_reducible rfl) (fun _ _ => rdL) (by rfl) omL omL ?_ | refine ixi rfl rfl (fun _ _ => rdL) (by rfl) omL omL omL ?_ | refine ixb rfl rfl omL ?_ | refine ixq rfl rfl (by assumption) omL omL ?_) | refine slen rfl ?_ | (show SH _ _ _ _ _ (⟨_, .pick _ _ _, _, _, _, _⟩ :: _) _ _ _; first | refine pkt rfl tbL evL ?_ | refine pkf rfl tbL evL ?_) | refine bnot rfl ?_ | (show SH _ _ _ _ _ (⟨_, .store _ _ _, _, _, _, _⟩ :: _) _ _ _; first | refine stb rfl rfl evL spL rfl rfl (by first | decide | exact Nat.zero_lt_succ _ | exact of_decide_eq_true rfl) kpL ?_ | refine sta rfl rfl rfl spL (by rfl) (by rfl) (by rfl) kpL ?_ | refine sti rfl rfl rfl spL omL kpL ?_ | refine sbi rfl rfl rfl spL omL kpL ?_) | (show SH _ _ _ _ _ (⟨_, .buildSlice _ _ _, _, _, _, _⟩ :: _) _ _ _; refine bsl (α := Int) rfl rfl (by repeat (first | exact Vals.nil | (apply Vals.cons; rfl))) rfl (by rfl) (by decide) (fun b => ?_))) | refine s_nil ?_ | refine kh_normal ?_ | refine kh_ret ?_ | refine kh_exit ?_ | refine bh_normal ?_ | refine bh_ret ?_ | refine bh_exit ?_ | refine bh_exit_ne rfl ?_))
      refine st1 (α := SliceV) ⟨A2, (l1 ++ marksG markI k l1.length 64).length, cp2⟩ rfl rfl rfl spL rfl (by omega) rfl rfl rfl trivial ?_
      (repeat' (first | refine r_seq ?_ | (show SH _ _ _ _ _ (_ :: _) _ _ _; first | (show SH _ _ _ _ _ (⟨_, .move _, _, _, _, _⟩ :: _) _ _ _; refine mov evL ?_) | (show SH _ _ _ _ _ (⟨_, .assign _, _, _, _, _⟩ :: _) _ _ _; refine asg evL ?_) | (show SH _ _ _ _ _ (⟨_, .binOp .add _ _ _ _, _, _, _, _⟩ :: _) _ _ _; refine add rfl rfl inL ?_)) | refine s_nil ?_ | refine kh_normal ?_ | refine bh_normal ?_))
      exact ⟨agL, (k + 1, (ts.set k ⟨A1, c1, l1, A2, cp2, l1 ++ marksG markI k l1.length 64⟩, gl.set k ⟨A2, (l1 ++ marksG markI k l1.length 64).length, cp2⟩)), hsL, ent_cons Split.head (ent_cons Split.head (ent_map_close (f := twP 3) (x := ⟨A1, c1, l1, A2, cp2, l1 ++ marksG markI k l1.length 64⟩) (by omega))), ⟨by show k + 1 ≤ _; omega, htw.step (by omega) hr rfl⟩, by show _ - (k + 1) < _ - k; omega⟩
  have hke : k = rs.length := by omega
  subst hke
  have hdone := htw.done
  have hbase : ∀ {j A1 c1 l1 A2 c2 L}, j < rs.length → ts.getD j twD = ⟨A1, c1, l1, A2, c2, L⟩ → rs1.getD j rowD = ⟨A1, c1, l1⟩ := fun {j A1 c1 l1 A2 c2 L} h1 h2 => by
    rw [← htw.base, getD_map' (d := twD) (by omega), h2]; rfl
  (repeat' (first | (show VH _ _ _ _ _ _ _; first | refine v_seq ?_ | refine r_seq ?_ | refine v_block ?_ | refine v_exit ?_ | refine v_cond_f rfl tbL ?_) | (show SH _ _ _ _ _ (_ :: _) _ _ _; first | (show SH _ _ _ _ _ (⟨_, .move _, _, _, _, _⟩ :: _) _ _ _; refine mov evL ?_) | (show SH _ _ _ _ _ (⟨_, .assign _, _, _, _, _⟩ :: _) _ _ _; refine asg evL ?_) | refine lss rfl rfl ?_ | refine slen rfl ?_) | refine s_nil ?_ | refine kh_normal ?_ | refine kh_exit ?_ | refine bh_exit ?_))
  refine v_norm [(0,_),(5,_),(9,_)] heL (fun g => ?_)
  /- all are read -/
  refine v_loop0 [(2,2),(9,10),(73,122)] (fun k : Nat => [(9, .int .i64 k)]) (fun k => k ≤ rs.length) (fun k => rs.length - k) 0 hsL (Nat.zero_le _) ?_
  rintro k g hk
  simp only [sets]
  by_cases hkn : k < rs.length
  · obtain ⟨A1, c1, l1, A2, c2, L, ht⟩ : ∃ A1 c1 l1 A2 c2 L, ts.getD k twD = ⟨A1, c1, l1, A2, c2, L⟩ := ⟨_, _, _, _, _, _, rfl⟩
    have hr := hbase hkn ht
    obtain ⟨hg, hlen⟩ := hsub hs1 (by omega) hr
    obtain ⟨hg2, hL⟩ := hdone k hkn
    rw [ht] at hg2 hL
    simp only at hg2 hL
    have hmk1 := hmk hkn hr
    have hL2 : L = marksG markI k 0 (l1.length + 64) := by rw [hL, ← marksG_add]; congr 1
    have hLn : L.length = l1.length + 64 := by rw [hL2, marksG_len]
    have hv1 : ∀ i, i < L.length → L.getD i 0 = markI k i := fun i hi => by rw [hL2, marksG_get _ _ (by omega), Nat.zero_add]
    have hv2 : ∀ i, i < l1.length → l1.getD i 0 = markI k i := fun i hi => by rw [hmk1, marksG_get _ _ hi, Nat.zero_add]
    refine VH.ent (G := orow 34 (some ⟨bk, 0, none⟩) rs.length gl :: orow 34 A0 c0 sl :: twin 3 A1 c1 l1 A2 c2 L :: ((ts.eraseIdx k).map (twP 3) ++ H)) ?_ (ent_cons Split.head (ent_cons Split.head (by have := ent_map_open (f := twP 3) (d := twD) (H := H) (L := ts) (k := k) (by omega); rw [ht] at this; exact this)))
    clear hL hL2 hmk1
    (repeat' (first | (show VH _ _ _ _ _ _ _; first | refine v_seq ?_ | refine r_seq ?_ | refine v_block ?_ | refine v_skip ?_ | refine v_cond_t rfl tbL ?_) | (show SH _ _ _ _ _ (_ :: _) _ _ _; first | (show SH _ _ _ _ _ (⟨_, .move _, _, _, _, _⟩ :: _) _ _ _; refine mov evL ?_) | (show SH _ _ _ _ _ (⟨_, .assign _, _, _, _, _⟩ :: _) _ _ _; refine asg evL ?_) | refine lss rfl rfl ?_ | refine slen rfl ?_) | refine s_nil ?_ | refine kh_normal ?_))
    refine v_normS [(2,2),(9,10),(73,122)] _ agL [(9,_),(10,_)] heL (fun g => ?_)
    refine v_loop0 [(2,2),(10,10),(79,122)] (fun i : Nat => [(10, .int .i64 i)]) (fun i => i ≤ L.length) (fun i => L.length - i) 0 hsL (Nat.zero_le _) ?_
    rintro i g2 hi
    simp only [sets]
    by_cases hil : i < L.length
    · have e1 := hv1 i hil
      by_cases hi1 : i < l1.length
      · have e2 := hv2 i hi1
        (repeat' (first | (show VH _ _ _ _ _ _ _; first | refine v_seq ?_ | refine r_seq ?_ | refine r_quiet hmix (by kernel_rfl) ?_ | refine v_block ?_ | refine v_skip ?_ | refine v_cond_t rfl tbL ?_ | refine v_cond_f rfl tbL ?_) | (show SH _ _ _ _ _ (_ :: _) _ _ _; first | (show SH _ _ _ _ _ (⟨_, _, _, _, _, some _⟩ :: _) _ _ _; (refine gif rfl rfl ?_; first | refine giTT tbL ?_ | refine giFF tbL ?_)) | (show SH _ _ _ _ _ (⟨_, .move _, _, _, _, _⟩ :: _) _ _ _; refine mov evL ?_) | (show SH _ _ _ _ _ (⟨_, .assign _, _, _, _, _⟩ :: _) _ _ _; refine asg evL ?_) | (show SH _ _ _ _ _ (⟨_, .binOp .add _ _ _ _, _, _, _, _⟩ :: _) _ _ _; refine add rfl rfl inL ?_) | refine lss rfl rfl ?_ | refine eql rfl rfl ?_ | (show SH _ _ _ _ _ (⟨_, .load _ _, _, _, _, _⟩ :: _) _ _ _; first | refine lsl rfl (fun _ _ => rdL) omL (by assumption) ?_ | refine lgi rfl (fun _ _ => rdY) omL (by assumption) ?_) | (show SH _ _ _ _ _ (⟨_, .indexAddr _ _ _, _, _, _, _⟩ :: _) _ _ _; refine ix rfl rfl (by with_reducible rfl) (fun _ _ => rdL) (by rfl) omL omL ?_) | refine slen rfl ?_ | (show SH _ _ _ _ _ (⟨_, .call ⟨.value (.func 94), _, _⟩, _, _, _, _⟩ :: _) _ _ _; refine cl (callee := .func 94) rfl (fun w hw => mark_spec _ _ w (by omega) (by omega)) rfl rfl ?_) | (show SH _ _ _ _ _ (⟨_, .pick _ _ _, _, _, _, _⟩ :: _) _ _ _; first | refine pkt rfl tbL evL ?_ | refine pkf rfl tbL evL ?_) | refine bnot rfl ?_) | refine s_nil ?_ | refine kh_normal ?_ | refine bh_normal ?_))
        exact ⟨agL, i + 1, hsL, enL, by omega, by omega⟩
      · (repeat' (first | (show VH _ _ _ _ _ _ _; first | refine v_seq ?_ | refine r_seq ?_ | refine r_quiet hmix (by kernel_rfl) ?_ | refine v_block ?_ | refine v_skip ?_ | refine v_cond_t rfl tbL ?_ | refine v_cond_f rfl tbL ?_) | (show SH _ _ _ _ _ (_ :: _) _ _ _; first | (show SH _ _ _ _ _ (⟨_, _, _, _, _, some _⟩ :: _) _ _ _; (refine gif rfl rfl ?_; first | refine giTF tbL ?_ | refine giFF tbL ?_)) | (show SH _ _ _ _ _ (⟨_, .move _, _, _, _, _⟩ :: _) _ _ _; refine mov evL ?_) | (show SH _ _ _ _ _ (⟨_, .assign _, _, _, _, _⟩ :: _) _ _ _; refine asg evL ?_) | (show SH _ _ _ _ _ (⟨_, .binOp .add _ _ _ _, _, _, _, _⟩ :: _) _ _ _; refine add rfl rfl inL ?_) | refine lss rfl rfl ?_ | refine eql rfl rfl ?_ | (show SH _ _ _ _ _ (⟨_, .load _ _, _, _, _, _⟩ :: _) _ _ _; first | refine lsl rfl (fun _ _ => rdL) omL (by assumption) ?_ | refine lgi rfl (fun _ _ => rdY) omL (by assumption) ?_) | (show SH _ _ _ _ _ (⟨_, .indexAddr _ _ _, _, _, _, _⟩ :: _) _ _ _; refine ix rfl rfl (by with_reducible rfl) (fun _ _ => rdL) (by rfl) omL omL ?_) | refine slen rfl ?_ | (show SH _ _ _ _ _ (⟨_, .call ⟨.value (.func 94), _, _⟩, _, _, _, _⟩ :: _) _ _ _; refine cl (callee := .func 94) rfl (fun w hw => mark_spec _ _ w (by omega) (by omega)) rfl rfl ?_) | (show SH _ _ _ _ _ (⟨_, .pick _ _ _, _, _, _, _⟩ :: _) _ _ _; refine pkf rfl tbL evL ?_) | refine bnot rfl ?_) | refine s_nil ?_ | refine kh_normal ?_ | refine bh_normal ?_))
        exact ⟨agL, i + 1, hsL, enL, by omega, by omega⟩
    · (repeat' (first | (show VH _ _ _ _ _ _ _; first | refine v_seq ?_ | refine r_seq ?_ | refine v_exit ?_ | refine v_cond_f rfl tbL ?_) | (show SH _ _ _ _ _ (_ :: _) _ _ _; first | (show SH _ _ _ _ _ (⟨_, .move _, _, _, _, _⟩ :: _) _ _ _; refine mov evL ?_) | (show SH _ _ _ _ _ (⟨_, .assign _, _, _, _, _⟩ :: _) _ _ _; refine asg evL ?_) | (show SH _ _ _ _ _ (⟨_, .binOp .add _ _ _ _, _, _, _, _⟩ :: _) _ _ _; refine add rfl rfl inL ?_) | refine lss rfl rfl ?_ | (show SH _ _ _ _ _ (⟨_, .load _ _, _, _, _, _⟩ :: _) _ _ _; refine lsl rfl (fun _ _ => rdL) omL (by assumption) ?_) | (show SH _ _ _ _ _ (⟨_, .indexAddr _ _ _, _, _, _, _⟩ :: _) _ _ _; refine ix rfl rfl (by with_reducible rfl) (fun _ _ => rdL) (by rfl) omL omL ?_) | refine slen rfl ?_) | refine s_nil ?_ | refine kh_normal ?_ | refine kh_exit ?_ | refine bh_normal ?_ | refine bh_exit ?_))
      exact ⟨agL, k + 1, hsL, ent_cons Split.head (ent_cons Split.head (by have := ent_map_back (f := twP 3) (d := twD) (H := H) (L := ts) (k := k) (by omega); rw [ht] at this; exact this)), by omega, by omega⟩
  have hke : k = rs.length := by omega
  subst hke
  refine VH.ent (G := orow 34 (some ⟨bk, 0, none⟩) rs.length gl :: orow 34 A0 c0 sl :: ((rs1.map selfT).map (twP 3) ++ H)) ?_ (ent_cons Split.head (ent_cons Split.head (by have := ent_tw_selfs (e := 3) (H := H) ts; rw [htw.base] at this; exact this)))
  (repeat' (first | (show VH _ _ _ _ _ _ _; first | refine v_seq ?_ | refine r_seq ?_ | refine v_block ?_ | refine v_exit ?_ | refine v_cond_f rfl tbL ?_) | (show SH _ _ _ _ _ (_ :: _) _ _ _; first | (show SH _ _ _ _ _ (⟨_, .move _, _, _, _, _⟩ :: _) _ _ _; refine mov evL ?_) | (show SH _ _ _ _ _ (⟨_, .assign _, _, _, _, _⟩ :: _) _ _ _; refine asg evL ?_) | refine lss rfl rfl ?_ | refine slen rfl ?_) | refine s_nil ?_ | refine kh_normal ?_ | refine kh_exit ?_ | refine bh_exit ?_))
  refine v_norm [(0,_),(5,_),(11,_)] heL (fun g => ?_)
  clear hdone hbase htw
  /- each slice is extended by many at once -/
  refine v_loop [(11,13),(123,151)] (fun y : Nat × (List (TwG Int) × List SliceV) => [(11, .int .i64 y.1)]) (fun y => orow 34 (some ⟨bk, 0, none⟩) rs.length y.2.2 :: orow 34 A0 c0 sl :: (y.2.1.map (twP 3) ++ H)) (fun y => y.1 ≤ rs.length ∧ Tw (fun j l => l ++ marksG markI ((j : Int) + (rs.length : Int)) 0 64) rs1 y.1 y.2.1 y.2.2) (fun y => rs.length - y.1) (0, (rs1.map selfT, gl)) hsL (ent_refl _) ⟨Nat.zero_le _, tw_start hgl⟩ ?_
  rintro ⟨k, ts, gl⟩ g ⟨hk, htw⟩
  simp only [sets]
  simp only at hk htw
  have htl := htw.tlen
  have hgl := htw.len
  by_cases hkn : k < rs.length
  · obtain ⟨A1, c1, l1, hr⟩ : ∃ A1 c1 l1, rs1.getD k rowD = ⟨A1, c1, l1⟩ := ⟨_, _, _, rfl⟩
    obtain ⟨hg, hlen⟩ := hsub hs1 (by omega) hr
    have hts := htw.self k (Nat.le_refl _) (by omega)
    rw [hr] at hts
    refine VH.ent (G := orow 34 (some ⟨bk, 0, none⟩) rs.length gl :: orow 34 A0 c0 sl :: twin 3 A1 c1 l1 A1 c1 l1 :: ((ts.eraseIdx k).map (twP 3) ++ H)) ?_ (ent_cons Split.head (ent_cons Split.head (by have := ent_map_open (f := twP 3) (d := twD) (H := H) (L := ts) (k := k) (by omega); rw [hts] at this; exact this)))
    (repeat' (first | (show VH _ _ _ _ _ _ _; first | refine v_seq ?_ | refine r_seq ?_ | refine v_block ?_ | refine v_skip ?_ | refine v_cond_t rfl tbL ?_) | (show SH _ _ _ _ _ (_ :: _) _ _ _; first | (show SH _ _ _ _ _ (⟨_, .move _, _, _, _, _⟩ :: _) _ _ _; refine mov evL ?_) | refine lss rfl rfl ?_ | refine slen rfl ?_) | refine s_nil ?_ | refine kh_normal ?_))
    refine mkz (α := Int) (z := .int .i64 0) (by kernel_rfl) rfl rfl rfl rfl rfl rfl (by omega) (by omega) (by omega) (by omega) (fun bm => ?_)
    simp only [show (64 : Int).toNat = 64 from rfl]
    (repeat' (first | (show VH _ _ _ _ _ _ _; first | refine v_seq ?_ | refine r_seq ?_ | refine v_block ?_) | (show SH _ _ _ _ _ (_ :: _) _ _ _; (show SH _ _ _ _ _ (⟨_, .assign _, _, _, _, _⟩ :: _) _ _ _; refine asg evL ?_)) | refine s_nil ?_ | refine kh_normal ?_))
    refine v_normS [(11,13),(123,151)] _ agL [(11,_),(12,_),(13,_)] heL (fun g => ?_)
    refine v_loop [(13,13),(130,142)] (fun y : Nat × List Int => [(13, .int .i64 y.1)]) (fun y => orow 3 (some ⟨bm, 0, none⟩) 64 y.2 :: orow 34 (some ⟨bk, 0, none⟩) rs.length gl :: orow 34 A0 c0 sl :: twin 3 A1 c1 l1 A1 c1 l1 :: ((ts.eraseIdx k).map (twP 3) ++ H)) (fun y => y.1 ≤ 64 ∧ y.2.length = 64 ∧ y.2.take y.1 = marksG markI ((k : Int) + (rs.length : Int)) 0 y.1) (fun y => 64 - y.1) (0, List.replicate 64 0) hsL (ent_refl _) ⟨Nat.zero_le _, List.length_replicate, rfl⟩ ?_
    rintro ⟨i, ml⟩ g2 ⟨hi, h2, ht2⟩
    simp only [sets]
    simp only at hi h2 ht2
    (repeat' (first | (show VH _ _ _ _ _ _ _; first | refine v_seq ?_ | refine r_seq ?_ | refine v_block ?_ | refine v_skip ?_ | refine v_exit ?_ | refine v_cond_dec rfl (fun h => ?_) (fun h => ?_)) | (show SH _ _ _ _ _ (_ :: _) _ _ _; first | (show SH _ _ _ _ _ (⟨_, .move _, _, _, _, _⟩ :: _) _ _ _; refine mov evL ?_) | (show SH _ _ _ _ _ (⟨_, .assign _, _, _, _, _⟩ :: _) _ _ _; refine asg evL ?_) | (show SH _ _ _ _ _ (⟨_, .binOp .add _ _ _ _, _, _, _, _⟩ :: _) _ _ _; refine add rfl rfl inL ?_) | refine lss rfl rfl ?_ | (show SH _ _ _ _ _ (⟨_, .load _ _, _, _, _, _⟩ :: _) _ _ _; refine lsl rfl (fun _ _ => rdL) omL (by assumption) ?_) | (show SH _ _ _ _ _ (⟨_, .indexAddr _ _ _, _, _, _, _⟩ :: _) _ _ _; refine ix rfl rfl (by with_reducible rfl) (fun _ _ => rdL) (by rfl) omL omL ?_) | refine slen rfl ?_ | (show SH _ _ _ _ _ (⟨_, .call ⟨.value (.func 94), _, _⟩, _, _, _, _⟩ :: _) _ _ _; refine cl (callee := .func 94) rfl (fun w hw => mark_spec _ _ w (by omega) (by omega)) rfl rfl ?_) | (show SH _ _ _ _ _ (⟨_, .store _ _ _, _, _, _, _⟩ :: _) _ _ _; refine sti rfl rfl rfl spL omL kpL ?_)) | refine s_nil ?_ | refine kh_normal ?_ | refine kh_exit ?_ | refine bh_normal ?_ | refine bh_exit ?_))
    · refine ⟨agL, (i + 1, ml.set i (markI ((k : Int) + (rs.length : Int)) i)), hsL, enL, ⟨by show i + 1 ≤ _; omega, by show (ml.set i _).length = _; rw [List.length_set]; exact h2, ?_⟩, by show _ - (i + 1) < _ - i; omega⟩
      show (ml.set i (markI ((k : Int) + (rs.length : Int)) i)).take (i + 1) = _
      rw [take_set_snoc _ _ _ (by omega), ht2, marksG_snoc, Nat.zero_add]
    · have hi64 : i = 64 := by omega
      subst hi64
      rw [List.take_of_length_le (by omega)] at ht2
      subst ht2
      refine app3 rfl rfl rfl spL (fun w hw => hw.rd spL) rfl rfl (by rw [marksG_len]) (by rw [marksG_len]; omega) (by rw [marksG_len]; omega) (fun A2 cp2 => ⟨trivial, ?_⟩)
      (repeat' ((show SH _ _ _ _ _ (_ :: _) _ _ _; (show SH _ _ _ _ _ (⟨_, .indexAddr _ _ _, _, _, _, _⟩ :: _) _ _ _; refine ix rfl rfl (by with_reducible rfl) (fun _ _ => rdL) (by rfl) omL omL ?_))))
      refine st1 (α := SliceV) ⟨A2, (l1 ++ marksG markI ((k : Int) + (rs.length : Int)) 0 64).length, cp2⟩ rfl rfl rfl spL rfl (by omega) rfl rfl rfl trivial ?_
      (repeat' (first | refine r_seq ?_ | (show SH _ _ _ _ _ (_ :: _) _ _ _; first | (show SH _ _ _ _ _ (⟨_, .move _, _, _, _, _⟩ :: _) _ _ _; refine mov evL ?_) | (show SH _ _ _ _ _ (⟨_, .assign _, _, _, _, _⟩ :: _) _ _ _; refine asg evL ?_) | (show SH _ _ _ _ _ (⟨_, .binOp .add _ _ _ _, _, _, _, _⟩ :: _) _ _ _; refine add rfl rfl inL ?_)) | refine s_nil ?_ | refine kh_normal ?_ | refine bh_normal ?_))
      exact ⟨agL, (k + 1, (ts.set k ⟨A1, c1, l1, A2, cp2, l1 ++ marksG markI ((k : Int) + (rs.length : Int)) 0 64⟩, gl.set k ⟨A2, (l1 ++ marksG markI ((k : Int) + (rs.length : Int)) 0 64).length, cp2⟩)), hsL, ent_cons spL (ent_cons spL ((ent_cons Split.head (ent_drop (ent_refl _))).trans (ent_map_close (f := twP 3) (x := ⟨A1, c1, l1, A2, cp2, l1 ++ marksG markI ((k : Int) + (rs.length : Int)) 0 64⟩) (by omega)))), ⟨by show k + 1 ≤ _; omega, htw.step (by omega) hr rfl⟩, by show _ - (k + 1) < _ - k; omega⟩
  have hke : k = rs.length := by omega
  subst hke
  have hdone := htw.done
  have hbase : ∀ {j A1 c1 l1 A2 c2 L}, j < rs.length → ts.getD j twD = ⟨A1, c1, l1, A2, c2, L⟩ → rs1.getD j rowD = ⟨A1, c1, l1⟩ := fun {j A1 c1 l1 A2 c2 L} h1 h2 => by
    rw [← htw.base, getD_map' (d := twD) (by omega), h2]; rfl
  (repeat' (first | (show VH _ _ _ _ _ _ _; first | refine v_seq ?_ | refine r_seq ?_ | refine v_block ?_ | refine v_exit ?_ | refine v_cond_f rfl tbL ?_) | (show SH _ _ _ _ _ (_ :: _) _ _ _; first | (show SH _ _ _ _ _ (⟨_, .move _, _, _, _, _⟩ :: _) _ _ _; refine mov evL ?_) | (show SH _ _ _ _ _ (⟨_, .assign _, _, _, _, _⟩ :: _) _ _ _; refine asg evL ?_) | refine lss rfl rfl ?_ | refine slen rfl ?_) | refine s_nil ?_ | refine kh_normal ?_ | refine kh_exit ?_ | refine bh_exit ?_))
  refine v_norm [(0,_),(5,_),(14,_)] heL (fun g => ?_)
  refine v_loop0 [(2,2),(14,15),(152,192)] (fun k : Nat => [(14, .int .i64 k)]) (fun k => k ≤ rs.length) (fun k => rs.length - k) 0 hsL (Nat.zero_le _) ?_
  rintro k g hk
  simp only [sets]
  by_cases hkn : k < rs.length
  · obtain ⟨A1, c1, l1, A2, c2, L, ht⟩ : ∃ A1 c1 l1 A2 c2 L, ts.getD k twD = ⟨A1, c1, l1, A2, c2, L⟩ := ⟨_, _, _, _, _, _, rfl⟩
    have hr := hbase hkn ht
    obtain ⟨hg, hlen⟩ := hsub hs1 (by omega) hr
    obtain ⟨hg2, hL⟩ := hdone k hkn
    rw [ht] at hg2 hL
    simp only at hg2 hL
    have hmk1 := hmk hkn hr
    have hLn : L.length = l1.length + 64 := by rw [hL, List.length_append, marksG_len]
    have hv2 : ∀ i, i < l1.length → l1.getD i 0 = markI k i := fun i hi => by rw [hmk1, marksG_get _ _ hi, Nat.zero_add]
    have hv1 : ∀ i, i < l1.length → L.getD i 0 = markI k i := fun i hi => by
      rw [← hv2 i hi, hL]; simp [List.getD_eq_getElem?_getD, List.getElem?_append_left hi]
    refine VH.ent (G := orow 34 (some ⟨bk, 0, none⟩) rs.length gl :: orow 34 A0 c0 sl :: twin 3 A1 c1 l1 A2 c2 L :: ((ts.eraseIdx k).map (twP 3) ++ H)) ?_ (ent_cons Split.head (ent_cons Split.head (by have := ent_map_open (f := twP 3) (d := twD) (H := H) (L := ts) (k := k) (by omega); rw [ht] at this; exact this)))
    clear hL hmk1
    (repeat' (first | (show VH _ _ _ _ _ _ _; first | refine v_seq ?_ | refine r_seq ?_ | refine v_block ?_ | refine v_skip ?_ | refine v_cond_t rfl tbL ?_) | (show SH _ _ _ _ _ (_ :: _) _ _ _; first | (show SH _ _ _ _ _ (⟨_, .move _, _, _, _, _⟩ :: _) _ _ _; refine mov evL ?_) | (show SH _ _ _ _ _ (⟨_, .assign _, _, _, _, _⟩ :: _) _ _ _; refine asg evL ?_) | refine lss rfl rfl ?_ | refine slen rfl ?_) | refine s_nil ?_ | refine kh_normal ?_))
    refine v_normS [(2,2),(14,15),(152,192)] _ agL [(14,_),(15,_)] heL (fun g => ?_)
    refine v_loop0 [(2,2),(15,15),(158,192)] (fun i : Nat => [(15, .int .i64 i)]) (fun i => i ≤ l1.length) (fun i => l1.length - i) 0 hsL (Nat.zero_le _) ?_
    rintro i g2 hi
    simp only [sets]
    by_cases hil : i < l1.length
    · have e1 := hv1 i hil
      have e2 := hv2 i hil
      (repeat' (first | (show VH _ _ _ _ _ _ _; first | refine v_seq ?_ | refine r_seq ?_ | refine r_quiet hmix (by kernel_rfl) ?_ | refine v_block ?_ | refine v_skip ?_ | refine v_cond_t rfl tbL ?_ | refine v_cond_f rfl tbL ?_) | (show SH _ _ _ _ _ (_ :: _) _ _ _; first | (show SH _ _ _ _ _ (⟨_, _, _, _, _, some _⟩ :: _) _ _ _; (refine gif rfl rfl ?_; refine giFF tbL ?_)) | (show SH _ _ _ _ _ (⟨_, .move _, _, _, _, _⟩ :: _) _ _ _; refine mov evL ?_) | (show SH _ _ _ _ _ (⟨_, .assign _, _, _, _, _⟩ :: _) _ _ _; refine asg evL ?_) | (show SH _ _ _ _ _ (⟨_, .binOp .add _ _ _ _, _, _, _, _⟩ :: _) _ _ _; refine add rfl rfl inL ?_) | refine lss rfl rfl ?_ | refine eql rfl rfl ?_ | (show SH _ _ _ _ _ (⟨_, .load _ _, _, _, _, _⟩ :: _) _ _ _; first | refine lsl rfl (fun _ _ => rdL) omL (by assumption) ?_ | refine lgi rfl (fun _ _ => rdY) omL (by assumption) ?_) | (show SH _ _ _ _ _ (⟨_, .indexAddr _ _ _, _, _, _, _⟩ :: _) _ _ _; refine ix rfl rfl (by with_reducible rfl) (fun _ _ => rdL) (by rfl) omL omL ?_) | refine slen rfl ?_ | (show SH _ _ _ _ _ (⟨_, .call ⟨.value (.func 94), _, _⟩, _, _, _, _⟩ :: _) _ _ _; refine cl (callee := .func 94) rfl (fun w hw => mark_spec _ _ w (by omega) (by omega)) rfl rfl ?_) | (show SH _ _ _ _ _ (⟨_, .pick _ _ _, _, _, _, _⟩ :: _) _ _ _; refine pkf rfl tbL evL ?_) | refine bnot rfl ?_) | refine s_nil ?_ | refine kh_normal ?_ | refine bh_normal ?_))
      exact ⟨agL, i + 1, hsL, enL, by omega, by omega⟩
    · (repeat' (first | (show VH _ _ _ _ _ _ _; first | refine v_seq ?_ | refine r_seq ?_ | refine v_exit ?_ | refine v_cond_f rfl tbL ?_) | (show SH _ _ _ _ _ (_ :: _) _ _ _; first | (show SH _ _ _ _ _ (⟨_, .move _, _, _, _, _⟩ :: _) _ _ _; refine mov evL ?_) | (show SH _ _ _ _ _ (⟨_, .assign _, _, _, _, _⟩ :: _) _ _ _; refine asg evL ?_) | (show SH _ _ _ _ _ (⟨_, .binOp .add _ _ _ _, _, _, _, _⟩ :: _) _ _ _; refine add rfl rfl inL ?_) | refine lss rfl rfl ?_ | (show SH _ _ _ _ _ (⟨_, .load _ _, _, _, _, _⟩ :: _) _ _ _; refine lsl rfl (fun _ _ => rdL) omL (by assumption) ?_) | (show SH _ _ _ _ _ (⟨_, .indexAddr _ _ _, _, _, _, _⟩ :: _) _ _ _; refine ix rfl rfl (by with_reducible rfl) (fun _ _ => rdL) (by rfl) omL omL ?_) | refine slen rfl ?_) | refine s_nil ?_ | refine kh_normal ?_ | refine kh_exit ?_ | refine bh_normal ?_ | refine bh_exit ?_))
      exact ⟨agL, k + 1, hsL, ent_cons Split.head (ent_cons Split.head (by have := ent_map_back (f := twP 3) (d := twD) (H := H) (L := ts) (k := k) (by omega); rw [ht] at this; exact this)), by omega, by omega⟩
  · (repeat' (first | (show VH _ _ _ _ _ _ _; first | refine v_seq ?_ | refine r_seq ?_ | refine v_ret ?_ | refine v_exit ?_ | refine v_cond_f rfl tbL ?_) | (show SH _ _ _ _ _ (_ :: _) _ _ _; first | (show SH _ _ _ _ _ (⟨_, .move _, _, _, _, _⟩ :: _) _ _ _; refine mov evL ?_) | (show SH _ _ _ _ _ (⟨_, .assign _, _, _, _, _⟩ :: _) _ _ _; refine asg evL ?_) | refine lss rfl rfl ?_ | refine slen rfl ?_) | refine s_nil ?_ | refine kh_normal ?_ | refine kh_exit ?_ | refine bh_exit ?_))
    exact rh1 rfl rfl ⟨rfl, rfl⟩ (ent_drop (ent_drop (ent_maps_drop ts)))
end Go.Proofs.YtjefoecnciepmaaGreatDoor

/- Slices are made whose elements have more than one cell. -/
namespace Go.Fw
open Go.RowKit
theorem made_zero (z : Array Value) (k : Nat) : madeCells z (k * z.size) = Builtin.zeroCells z k := rfl
section
variable {md : Md} {P : Program} {n : Nat} {Q : HQ} {f : Fr} {w0 : World} {H R : List HP} {ops : Array Oper} {rest : List Oper} {d : Nat} {ty : TypeId} {pos : String} {aft : Array Edge} {x y : Operand}
theorem mkzA {α : Type} [F : Flat α] {t e : TypeId} {sz by_ : Nat} {z : Value} {k1 k2 : IntKind} {m cp : Int} [ht : TSl P t e sz by_] [he : TEl P e sz by_] (hz : (P.info? e).bind (·.zero) = some z) (hm : addOK md = true) (hx : ev n f x = .int k1 m) (hy : ev n f y = .int k2 cp) (hsz : sz = F.sz) (hzc : z.cells.toList = F.enc F.dflt)
    (h0 : 0 ≤ m) (h1 : m ≤ cp) (hbig : cp * by_ ≤ 140737488355328) (h63 : cp ≤ 140737488355328)
    (k : ∀ b, SH (nx md) P n ops Q rest (upd f d (.slice (some ⟨b, 0, none⟩) m.toNat cp.toNat)) w0 (orow e (some ⟨b, 0, none⟩) cp.toNat (List.replicate m.toNat (F.dflt : α)) :: H)) :
    SH md P n ops Q (⟨some d, .makeSlice t x y, ty, pos, aft, none⟩ :: rest) f w0 H := by
  refine s_add hm fun w hw => ?_
  obtain ⟨i, z', hi, hisz, hiby, hz', hzs⟩ := he.inf
  have e1 : z' = z := by rw [hi] at hz; simp only [Option.bind_some] at hz; rw [hz'] at hz; injection hz
  subst e1
  have hrun := run_make (P := P) w t e i z' ht.und hi hz' k1 k2 m cp h0 h1 (by rw [hiby, Int.mul_comm]; omega) (by omega)
  have hmc : m.toNat ≤ cp.toNat := by omega
  have hzz : z'.cells.size = i.size := by rw [hisz, hzs]
  refine wl_val (v := .slice (some ⟨w.heap.size, 0, none⟩) m.toNat cp.toNat) (w' := w.alloc (.cells (madeCells z'.cells (cp.toNat * i.size)) e)) ?_ (wl_nil ⟨rfl, Ext.alloc w _, _, k _, hw.newRow (Ext.alloc w _) ?_⟩)
  · intro d pos aft g
    simp [execOp, hx, hy, hrun]
  · have hrl : (List.replicate m.toNat (F.dflt : α)).length = m.toNat := List.length_replicate
    refine ⟨by rw [encs_len, hrl], .inr ⟨w.heap.size, cp.toNat, _, by rw [hrl], Nat.le_refl _, heap_alloc_new w _, by rw [hrl]; exact hmc, by simp only [maxLen]; omega, by rw [size_madeCells, hisz, hsz], ?_⟩⟩
    rw [← hzz, made_zero, encs_zero z'.cells hzc, hrl, encs_take, List.take_replicate, Nat.min_eq_left hmc]
end
end Go.Fw

