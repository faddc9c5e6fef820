/- The law's package of layer 24: components, entities, worlds that are made. -/
import Derived.Test.YtjefoecnciepmaaDoorZTw
import Derived.Test.YtjefoecnciepmaaDoorZLj
set_option linter.unusedSimpArgs false
set_option linter.unusedVariables false
namespace Go.Proofs.YtjefoecnciepmaaDoor
open Go.Fw Go.RowKit
/-- An entity in small numbers. -/
structure Form where
  bits : Int
  x : Int
  y : Int
  owner : Int
  hide : Int
  n : Int
  deriving DecidableEq
instance : Flat Form := ⟨6, fun p => [.int .u16 p.bits, .int .i8 p.x, .int .i8 p.y, .int .u8 p.owner, .int .u8 p.hide, .int .u8 p.n], ⟨0, 0, 0, 0, 0, 0⟩, fun _ => rfl, fun x v hv => by simp at hv; rcases hv with rfl | rfl | rfl | rfl | rfl | rfl <;> rfl, by omega⟩
structure Form.Ok (f : Form) : Prop where
  bits : 0 ≤ f.bits ∧ f.bits ≤ 65535
  x : -128 ≤ f.x ∧ f.x ≤ 127
  y : -128 ≤ f.y ∧ f.y ≤ 127
  owner : 0 ≤ f.owner ∧ f.owner ≤ 255
  hide : 0 ≤ f.hide ∧ f.hide ≤ 255
  n : 0 ≤ f.n ∧ f.n ≤ 255
def all10 (f : Form) : List Comp := [⟨1, 256 * f.x, 256 * f.y, 0, 0⟩, ⟨2, f.n, -f.n, 0, 0⟩, ⟨3, 1 + f.n, 1 + f.n, 0, 0⟩, ⟨4, 1 + f.owner % 8, 0, 0, 0⟩, ⟨5, 2 * f.hide, 0, 0, 0⟩, ⟨6, f.n % 16, 0, 0, 0⟩, ⟨7, f.n, f.n, 0, 0⟩, ⟨8, f.n, 0, 0, 0⟩, ⟨9, f.n, f.n, 0, 0⟩, ⟨10, f.n, -f.n, 0, 0⟩]
def hasBit (f : Form) (i : Nat) : Bool := f.bits.toNat.testBit i
/-- The first components of a form's entity. -/
def formN (f : Form) (k : Nat) : List Comp := ((List.range k).filter (hasBit f)).map fun i => (all10 f).getD i Flat.dflt
def formE (id : Int) (f : Form) : Ent1 := ⟨id, formN f 10⟩
theorem formN_next (f : Form) (k : Nat) : formN f (k + 1) = formN f k ++ (if hasBit f k then [(all10 f).getD k Flat.dflt] else []) := by
  unfold formN
  rw [List.range_succ, List.filter_append, List.map_append]
  congr 1
  by_cases h : hasBit f k = true
  · rw [if_pos h, List.filter_cons_of_pos (by simpa using h)]; rfl
  · rw [if_neg h, List.filter_cons_of_neg (by simpa using h)]; rfl
theorem formN_len (f : Form) (k : Nat) : (formN f k).length ≤ k := by
  unfold formN
  rw [List.length_map]
  have := List.length_filter_le (hasBit f) (List.range k)
  rwa [List.length_range] at this
theorem band16_one (n : Nat) : bandK .u16 (n : Int) 1 = ((n % 2 : Nat) : Int) := by
  unfold bandK
  have h1 : (BitVec.ofInt IntKind.u16.bits (n : Int) &&& BitVec.ofInt IntKind.u16.bits 1).toNat = n % 2 := by
    show (BitVec.ofInt 16 (n : Int) &&& BitVec.ofInt 16 1).toNat = n % 2
    rw [BitVec.toNat_and]
    have e1 : (BitVec.ofInt 16 (n : Int)).toNat = n % 65536 := by simp
    have e2 : (BitVec.ofInt 16 (1 : Int)).toNat = 1 := by decide
    rw [e1, e2, Nat.and_one_is_mod]
    omega
  rw [h1]
  have : n % 2 < 2 := Nat.mod_lt _ (by omega)
  have h2 : n % 2 = 0 ∨ n % 2 = 1 := by omega
  rcases h2 with h | h <;> rw [h] <;> decide
theorem shr16 (n i : Nat) (hi : i < 16) : ((n : Nat) : Int).fdiv (2 ^ (min ((i : Nat) : Int).toNat IntKind.u16.bits)) = ((n / 2 ^ i : Nat) : Int) := by
  have e : min ((i : Nat) : Int).toNat IntKind.u16.bits = i := by
    show min ((i : Nat) : Int).toNat 16 = i
    rw [Int.toNat_natCast]; omega
  rw [e, Int.fdiv_eq_ediv_of_nonneg _ (by exact_mod_cast Nat.zero_le _)]
  norm_cast
theorem hasBit_eq (f : Form) (i : Nat) : hasBit f i = true ↔ f.bits.toNat / 2 ^ i % 2 = 1 := by
  unfold hasBit
  rw [Nat.testBit_eq_decide_div_mod_eq, decide_eq_true_eq]
theorem encs_part {α : Type} [F : Flat α] {l : List α} {k : Nat} (hk : k < l.length) : ((encs l).drop (k * F.sz)).take F.sz = F.enc (l.getD k F.dflt) := by
  rw [encs_drop, drop_cons (d := F.dflt) hk, encs_cons, List.take_append, F.len, Nat.sub_self, List.take_of_length_le (by rw [F.len]; omega)]; simp
set_option maxHeartbeats 8000000 in
set_option maxRecDepth 100000 in
theorem entity24_spec (ei : Int) (f : Form) (hf : f.Ok) (w : World) : Ret Tryd.prog 17 [.int .i64 ei, .agg (Flat.enc f).toArray].toArray w (RP w (OwnR (formE ei f))) := by
  unfold OwnR formE
  have hN := formN_next f
  have hL := formN_len f
  have h0 : formN f 0 = [] := rfl
  have hbit := hasBit_eq f
  obtain ⟨C, hC⟩ : ∃ C, all10 f = C := ⟨_, rfl⟩
  have hCl : C.length = 10 := by rw [← hC]; rfl
  generalize formN f = W at hN hL h0 ⊢
  generalize hasBit f = hb at hN hbit
  simp only [hC] at hN
  obtain ⟨bits, x, y, owner, hide, n⟩ := f
  obtain ⟨f1, f2, f3, f4, f5, f6⟩ := hf
  unfold all10 at hC
  simp only at f1 f2 f3 f4 f5 f6 hC hbit ⊢
  rw [show Flat.enc (⟨bits, x, y, owner, hide, n⟩ : Form) = [.int .u16 bits, .int .i8 x, .int .i8 y, .int .u8 owner, .int .u8 hide, .int .u8 n] from rfl]
  refine enterH Tryd.func17 rfl rfl Tryd.ntmps17 rfl (Wd.refl _) ?_
  (repeat' (first | (show VH _ _ _ _ _ _ _; first | refine v_seq ?_ | refine r_seq ?_) | (show SH _ _ _ _ _ (_ :: _) _ _ _; first | (show SH _ _ _ _ _ (⟨_, .move _, _, _, _, _⟩ :: _) _ _ _; refine mov evL ?_) | (show SH _ _ _ _ _ (⟨_, .assign _, _, _, _, _⟩ :: _) _ _ _; refine asg evL ?_) | (show SH _ _ _ _ _ (⟨_, .load _ _, _, _, _, _⟩ :: _) _ _ _; refine lbx rfl spL (by rfl) ?_) | refine fad rfl ?_ | (show SH _ _ _ _ _ (⟨_, .convert _ _ _, _, _, _, _⟩ :: _) _ _ _; refine c64 rfl inL ?_) | refine bld rfl rfl ?_ | refine ala rfl (fun b => ?_) | (show SH _ _ _ _ _ (⟨_, .box _ _, _, _, _, _⟩ :: _) _ _ _; refine bxx rfl evL rfl (fun b => ?_)) | (show SH _ _ _ _ _ (⟨_, .store _ _ _, _, _, _, _⟩ :: _) _ _ _; refine sta rfl rfl rfl spL (by rfl) (by rfl) (by rfl) kpL ?_)) | refine s_nil ?_ | refine kh_normal ?_))
  rename_i b3 b4
  revert b
  intro b5
  obtain ⟨bn, rfl⟩ : ∃ bn : Nat, bits = (bn : Int) := ⟨bits.toNat, by omega⟩
  simp only [Int.toNat_natCast] at hbit
  refine v_cut [(7, 7), (15, 59)] (fun b7 : Nat => [(7, .pointer (some ⟨b7, 0, none⟩))]) (fun b7 => [bx b7 80 (encs C), bx b5 37 [.int .i64 ei, .slice none 0 0], bx b4 37 [.int .i64 0, .slice none 0 0], bx b3 49 [.int .u16 bn, .int .i8 x, .int .i8 y, .int .u8 owner, .int .u8 hide, .int .u8 n]]) (fun _ => True) ?_ ?_ ent_vh
  · subst hC
    clear hN hL h0 hbit hCl
    refine r_heldT [bx b3 49 _] (tr [(0, true), (1, true), (2, true), (3, true), (4, true), (5, true), (6, true), (7, true), (9, true), (10, true), (11, true), (13, true), (14, true), (15, true), (16, true), (18, true), (19, true), (20, true), (21, true), (22, true), (24, true), (25, true), (26, true), (27, true), (29, true), (30, true), (32, true), (33, true), (35, true), (37, true), (38, true), (40, true), (41, true), (42, true)] (.fork 8 (tr [] (.fork 12 (tr [] (.fork 17 (tr [] (.fork 23 (tr [] (.fork 28 (tr [] (.fork 31 (tr [] (.fork 34 (tr [] (.fork 36 (tr [] (.fork 39 (tr [] (.fork 43 (tr [(44, true), (45, false), (46, false)] .nil) 45 (tr [(43, false), (44, false), (46, false)] .nil))) 45 (tr [(39, false), (43, false), (44, false), (46, false)] .nil))) 45 (tr [(36, false), (39, false), (43, false), (44, false), (46, false)] .nil))) 45 (tr [(34, false), (36, false), (39, false), (43, false), (44, false), (46, false)] .nil))) 45 (tr [(31, false), (34, false), (36, false), (39, false), (43, false), (44, false), (46, false)] .nil))) 45 (tr [(28, false), (31, false), (34, false), (36, false), (39, false), (43, false), (44, false), (46, false)] .nil))) 45 (tr [(23, false), (28, false), (31, false), (34, false), (36, false), (39, false), (43, false), (44, false), (46, false)] .nil))) 45 (tr [(17, false), (23, false), (28, false), (31, false), (34, false), (36, false), (39, false), (43, false), (44, false), (46, false)] .nil))) 45 (tr [(12, false), (17, false), (23, false), (28, false), (31, false), (34, false), (36, false), (39, false), (43, false), (44, false), (46, false)] .nil))) 45 (tr [(8, false), (12, false), (17, false), (23, false), (28, false), (31, false), (34, false), (36, false), (39, false), (43, false), (44, false), (46, false)] .nil))) hmix (by kernel_rfl) enL ?_
    (repeat' (first | (show SH _ _ _ _ _ (_ :: _) _ _ _; first | (show SH _ _ _ _ _ (⟨_, .move _, _, _, _, _⟩ :: _) _ _ _; refine mov evL ?_) | (show SH _ _ _ _ _ (⟨_, .binOp .add _ _ _ _, _, _, _, _⟩ :: _) _ _ _; refine add rfl rfl inL ?_) | (show SH _ _ _ _ _ (⟨_, .binOp .mul _ _ _ _, _, _, _, _⟩ :: _) _ _ _; refine mul rfl rfl inL ?_) | (show SH _ _ _ _ _ (⟨_, .binOp .rem _ _ _ _, _, _, _, _⟩ :: _) _ _ _; refine rem rfl rfl omL omL ?_) | (show SH _ _ _ _ _ (⟨_, .load _ _, _, _, _, _⟩ :: _) _ _ _; refine lbx rfl spL (by rfl) ?_) | (show SH _ _ _ _ _ (⟨_, .call ⟨.value (.func 25), _, _⟩, _, _, _, _⟩ :: _) _ _ _; refine cl (callee := .func 25) rfl (fun w hw => lcomp_spec _ _ _ w) rfl rfl ?_) | (show SH _ _ _ _ _ (⟨_, .unOp .neg _ _, _, _, _, _⟩ :: _) _ _ _; refine neg rfl inL ?_) | refine fad rfl ?_ | (show SH _ _ _ _ _ (⟨_, .convert _ _ _, _, _, _, _⟩ :: _) _ _ _; refine c64 rfl inL ?_) | refine ala rfl (fun b => ?_)) | refine s_fork ?_ ?_))
    all_goals
      refine bldV (l := [(⟨1, 256 * x, 256 * y, 0, 0⟩ : Comp), ⟨2, n, -n, 0, 0⟩, ⟨3, 1 + n, 1 + n, 0, 0⟩, ⟨4, 1 + owner % 8, 0, 0, 0⟩, ⟨5, 2 * hide, 0, 0, 0⟩, ⟨6, n % 16, 0, 0, 0⟩, ⟨7, n, n, 0, 0⟩, ⟨8, n, 0, 0, 0⟩, ⟨9, n, n, 0, 0⟩, ⟨10, n, -n, 0, 0⟩]) rfl (Vals.cons rfl (Vals.cons rfl (Vals.cons rfl (Vals.cons rfl (Vals.cons rfl (Vals.cons rfl (Vals.cons rfl (Vals.cons rfl (Vals.cons rfl (Vals.cons rfl Vals.nil)))))))))) rfl rfl ?_
      (repeat' (first | (show SH _ _ _ _ _ (_ :: _) _ _ _; first | refine ala rfl (fun b => ?_) | (show SH _ _ _ _ _ (⟨_, .store _ _ _, _, _, _, _⟩ :: _) _ _ _; refine sta rfl rfl rfl spL (by rfl) (by rfl) (by rfl) kpL ?_)) | refine s_nil ?_ | refine kh_normal ?_))
      exact ⟨agL, _, hsL, enL, trivial⟩
  clear hC f2 f3 f4 f5 f6
  rintro b7 g1 _ G rfl
  simp only [sets]
  have hC50 : (encs C).length = 50 := by rw [encs_len, hCl]; rfl
  
  refine v_norm [(3,_),(4,_),(5,_),(7,_)] heL (fun g => ?_)
  repeat refine v_seq ?_
  refine r_seq ?_
  refine lba rfl spL hC50 ?_
  (repeat' (first | refine v_block ?_ | (show SH _ _ _ _ _ (_ :: _) _ _ _; (show SH _ _ _ _ _ (⟨_, .move _, _, _, _, _⟩ :: _) _ _ _; refine mov evL ?_)) | refine s_nil ?_ | refine kh_normal ?_))
  refine v_loop [(8,9),(61,77)] (fun s : Nat × (Option Addr × Nat) => [(61, .int .i64 s.1)]) (fun s => [bx b5 37 [.int .i64 ei, .slice s.2.1 (W s.1).length s.2.2], orow 42 s.2.1 s.2.2 (W s.1), bx b4 37 [.int .i64 0, .slice none 0 0], bx b3 49 [.int .u16 bn, .int .i8 x, .int .i8 y, .int .u8 owner, .int .u8 hide, .int .u8 n]]) (fun s => s.1 ≤ 10) (fun s => 10 - s.1) (0, none, 0) hsL (by rw [h0]; exact ent_cons spL (ent_nilrow (ent_cons spL (ent_cons spL (ent_nil _))))) (Nat.zero_le _) ?_
  rintro ⟨k, A1, c2⟩ g2 hk
  simp only [sets]
  simp only at hk
  by_cases hkl : k < 10
  · have hn := hN k
    have hlk := hL k
    have hpart := encs_part (show k < C.length by omega)
    have hs := shr16 bn k (by omega)
    have h1 := band16_one (bn / 2 ^ k)
    have hbk := hbit k
    obtain ⟨q, hq0⟩ : ∃ q, bn / 2 ^ k = q := ⟨_, rfl⟩
    rw [hq0] at hs h1 hbk
    clear hq0
    clear hN hL hbit
    obtain ⟨ck, hck⟩ : ∃ ck, C.getD k Flat.dflt = ck := ⟨_, rfl⟩
    rw [hck] at hn hpart
    clear hck
    obtain ⟨kd, ca, cb, cc, cd⟩ := ck
    rw [show Flat.enc (⟨kd, ca, cb, cc, cd⟩ : Comp) = [.int .u8 kd, .int .i64 ca, .int .i64 cb, .int .i64 cc, .int .i64 cd] from rfl] at hpart
    by_cases hq : q % 2 = 1
    · rw [if_pos (hbk.2 hq)] at hn
      rw [hq] at h1
      clear hbk
      (repeat' (first | (show VH _ _ _ _ _ _ _; first | refine v_seq ?_ | refine r_seq ?_ | refine v_block ?_ | refine v_skip ?_ | refine v_cond_t rfl tbL ?_) | (show SH _ _ _ _ _ (_ :: _) _ _ _; first | (show SH _ _ _ _ _ (⟨_, .move _, _, _, _, _⟩ :: _) _ _ _; refine mov evL ?_) | (show SH _ _ _ _ _ (⟨_, .binOp .lss _ _ _ _, _, _, _, _⟩ :: _) _ _ _; refine lssT rfl rfl omD ?_)) | refine s_nil ?_ | refine kh_normal ?_))
      refine idxA (i := k) rfl rfl rfl hkl hpart rfl ?_
      (repeat' (first | (show VH _ _ _ _ _ _ _; first | refine v_seq ?_ | refine r_seq ?_) | (show SH _ _ _ _ _ (_ :: _) _ _ _; first | (show SH _ _ _ _ _ (⟨_, .move _, _, _, _, _⟩ :: _) _ _ _; refine mov evL ?_) | (show SH _ _ _ _ _ (⟨_, .assign _, _, _, _, _⟩ :: _) _ _ _; refine asg evL ?_) | (show SH _ _ _ _ _ (⟨_, .load _ _, _, _, _, _⟩ :: _) _ _ _; refine lbx rfl spL (by rfl) ?_) | refine fad rfl ?_ | refine ala rfl (fun b => ?_) | (show SH _ _ _ _ _ (⟨_, .store _ _ _, _, _, _, _⟩ :: _) _ _ _; refine sta rfl rfl rfl spL (by rfl) (by rfl) (by rfl) kpL ?_)) | refine s_nil ?_ | refine kh_normal ?_))
      refine shrw rfl rfl (by omega) _ hs ?_
      refine andw rfl rfl _ h1 ?_
      (repeat' (first | (show VH _ _ _ _ _ _ _; first | refine r_seq ?_ | refine v_cond_t rfl tbL ?_) | (show SH _ _ _ _ _ (_ :: _) _ _ _; first | (show SH _ _ _ _ _ (⟨_, .binOp .eql _ _ _ _, _, _, _, _⟩ :: _) _ _ _; refine eqlT rfl rfl omD ?_) | (show SH _ _ _ _ _ (⟨_, .load _ _, _, _, _, _⟩ :: _) _ _ _; first | refine lbx rfl spL (by rfl) ?_ | refine lba rfl spL (by rfl) ?_) | refine fad rfl ?_) | refine s_nil ?_ | refine kh_normal ?_))
      refine bsl (l := [(⟨kd, ca, cb, cc, cd⟩ : Comp)]) rfl rfl (Vals.cons rfl Vals.nil) rfl rfl (by decide) (fun b9 => ?_)
      (repeat' (first | (show VH _ _ _ _ _ _ _; first | refine v_seq ?_ | refine r_seq ?_ | refine r_quiet hmix (by kernel_rfl) ?_ | refine v_block ?_ | refine v_ret ?_ | refine v_skip ?_ | refine v_exit ?_ | refine v_label ?_ | refine v_cond_t rfl tbL ?_ | refine v_cond_f rfl tbL ?_ | refine v_cond_dec rfl (fun h => ?_) (fun h => ?_) | refine v_cond_ndec rfl (fun h => ?_) (fun h => ?_) | refine v_cond rfl (fun h => ?_) (fun h => ?_)) | (show SH _ _ _ _ _ (_ :: _) _ _ _; first | (show SH _ _ _ _ _ (⟨_, .move _, _, _, _, _⟩ :: _) _ _ _; refine mov evL ?_) | (show SH _ _ _ _ _ (⟨_, .assign _, _, _, _, _⟩ :: _) _ _ _; refine asg evL ?_) | (show SH _ _ _ _ _ (⟨_, .binOp .lss _ _ _ _, _, _, _, _⟩ :: _) _ _ _; first | refine lssT rfl rfl omD ?_ | refine lssF rfl rfl omD ?_ | refine lss rfl rfl ?_) | (show SH _ _ _ _ _ (⟨_, .binOp .eql _ _ _ _, _, _, _, _⟩ :: _) _ _ _; first | refine eqlT rfl rfl omD ?_ | refine eqlF rfl rfl omD ?_ | refine eql rfl rfl ?_ | refine eqn rfl rfl ?_ | refine eqb rfl rfl ?_) | (show SH _ _ _ _ _ (⟨_, .binOp .add _ _ _ _, _, _, _, _⟩ :: _) _ _ _; refine add rfl rfl inL ?_) | (show SH _ _ _ _ _ (⟨_, .binOp .mul _ _ _ _, _, _, _, _⟩ :: _) _ _ _; refine mul rfl rfl inL ?_) | refine sh1 rfl rfl ?_ | (show SH _ _ _ _ _ (⟨_, .binOp .rem _ _ _ _, _, _, _, _⟩ :: _) _ _ _; refine rem rfl rfl omL omL ?_) | (show SH _ _ _ _ _ (⟨_, .load _ _, _, _, _, _⟩ :: _) _ _ _; first | refine lin rfl (fun _ _ => rdX) omL ?_ | refine lbx rfl spL (by rfl) ?_ | refine lba rfl spL (by rfl) ?_ | refine lbi rfl spL omL ?_ | refine lr1 rfl (fun _ _ => rdX) (by rfl) omL (by rfl) ?_ | refine lra rfl (fun _ _ => rdX) (by rfl) omL ?_ | refine lrf rfl (fun _ _ => rdX) (by rfl) omL (by rfl) ?_ | refine lcell rfl (fun w hw => hw.ext.cell (by assumption)) ?_ | refine lrs rfl (fun _ _ => rdX) (by rfl) omL (by rfl) (by rfl) ?_ | refine lbs rfl spL (by rfl) (by rfl) ?_ | refine lca rfl (fun _ _ => rdX) (by rfl) ?_ | refine lcs rfl (fun _ _ => rdX) (by rfl) ?_ | refine lcf rfl (fun _ _ => rdX) (by rfl) ?_ | refine lrf rfl (fun _ _ => rdX) (by rfl) (by simp only [List.length_cons, List.length_nil]; omega) (by rfl) ?_ | refine lra rfl (fun _ _ => rdX) (by rfl) (by simp only [List.length_cons, List.length_nil]; omega) ?_) | (show SH _ _ _ _ _ (⟨_, .unOp .neg _ _, _, _, _, _⟩ :: _) _ _ _; refine neg rfl inL ?_) | refine fad rfl ?_ | (show SH _ _ _ _ _ (⟨_, .convert _ _ _, _, _, _, _⟩ :: _) _ _ _; first | refine c64 rfl inL ?_ | refine cu64 rfl omL omL ?_ | refine cnv rfl ?_) | (show SH _ _ _ _ _ (⟨_, .build _ _, _, _, _, _⟩ :: _) _ _ _; first | refine bld rfl rfl ?_ | refine bldZ ?_ | refine bldZN ?_) | (show SH _ _ _ _ _ (⟨_, .alloc _, _, _, _, _⟩ :: _) _ _ _; first | refine al1 rfl (fun b => ?_) | refine ala rfl (fun b => ?_)) | (show SH _ _ _ _ _ (⟨_, .box _ _, _, _, _, _⟩ :: _) _ _ _; refine bxx rfl evL rfl (fun b => ?_)) | (show SH _ _ _ _ _ (⟨_, .store _ _ _, _, _, _, _⟩ :: _) _ _ _; first | refine stb rfl rfl evL spL rfl rfl (by first | decide | exact Nat.zero_lt_succ _ | exact of_decide_eq_true rfl) kpL ?_ | refine sta rfl rfl rfl spL (by rfl) (by rfl) (by rfl) kpL ?_ | refine sti rfl rfl rfl spL omL kpL ?_ | refine sbi rfl rfl rfl spL omL kpL ?_ | refine sbs rfl rfl evL spL (by rfl) (by rfl) (of_decide_eq_true rfl) kpL ?_) | (show SH _ _ _ _ _ (⟨_, .buildSlice _ _ _, _, _, _, _⟩ :: _) _ _ _; refine bsl (α := Int) rfl rfl (by repeat (first | exact Vals.nil | (apply Vals.cons; rfl))) rfl (by rfl) (by decide) (fun b => ?_))) | refine s_nil ?_ | refine s_fork ?_ ?_ | refine s_fork3 ?_ ?_ ?_ | refine s_fork4 ?_ ?_ ?_ ?_ | refine kh_normal ?_ | refine kh_ret ?_ | refine kh_exit ?_ | refine bh_normal ?_ | refine bh_ret ?_ | refine bh_exit ?_ | refine bh_exit_ne rfl ?_))
      refine app (l := W k) (l2 := [(⟨kd, ca, cb, cc, cd⟩ : Comp)]) rfl rfl rfl spL (fun w hw => hw.rd spL) rfl rfl rfl (by simp only [List.length_cons, List.length_nil]; omega) (by simp only [List.length_cons, List.length_nil]; omega) (fun A4 c4 => ⟨enL, ?_⟩)
      rw [← hn]
      (repeat' (first | refine r_seq ?_ | (show SH _ _ _ _ _ (_ :: _) _ _ _; first | (show SH _ _ _ _ _ (⟨_, .move _, _, _, _, _⟩ :: _) _ _ _; refine mov evL ?_) | (show SH _ _ _ _ _ (⟨_, .binOp .add _ _ _ _, _, _, _, _⟩ :: _) _ _ _; refine add rfl rfl inL ?_) | refine fad rfl ?_ | (show SH _ _ _ _ _ (⟨_, .store _ _ _, _, _, _, _⟩ :: _) _ _ _; refine stb rfl rfl evL spL rfl rfl (by first | decide | exact Nat.zero_lt_succ _ | exact of_decide_eq_true rfl) kpL ?_)) | refine s_nil ?_ | refine kh_normal ?_ | refine bh_normal ?_))
      exact ⟨agL, (k + 1, A4, c4), hsL, enL, hkl, by show _ - (k + 1) < _ - k; omega⟩
    · rw [if_neg (fun h => hq (hbk.1 h)), List.append_nil] at hn
      rw [show q % 2 = 0 by omega] at h1
      clear hbk
      (repeat' (first | (show VH _ _ _ _ _ _ _; first | refine v_seq ?_ | refine r_seq ?_ | refine v_block ?_ | refine v_skip ?_ | refine v_cond_t rfl tbL ?_) | (show SH _ _ _ _ _ (_ :: _) _ _ _; first | (show SH _ _ _ _ _ (⟨_, .move _, _, _, _, _⟩ :: _) _ _ _; refine mov evL ?_) | (show SH _ _ _ _ _ (⟨_, .binOp .lss _ _ _ _, _, _, _, _⟩ :: _) _ _ _; refine lssT rfl rfl omD ?_)) | refine s_nil ?_ | refine kh_normal ?_))
      refine idxA (i := k) rfl rfl rfl hkl hpart rfl ?_
      (repeat' (first | (show VH _ _ _ _ _ _ _; first | refine v_seq ?_ | refine r_seq ?_) | (show SH _ _ _ _ _ (_ :: _) _ _ _; first | (show SH _ _ _ _ _ (⟨_, .move _, _, _, _, _⟩ :: _) _ _ _; refine mov evL ?_) | (show SH _ _ _ _ _ (⟨_, .assign _, _, _, _, _⟩ :: _) _ _ _; refine asg evL ?_) | (show SH _ _ _ _ _ (⟨_, .load _ _, _, _, _, _⟩ :: _) _ _ _; refine lbx rfl spL (by rfl) ?_) | refine fad rfl ?_ | refine ala rfl (fun b => ?_) | (show SH _ _ _ _ _ (⟨_, .store _ _ _, _, _, _, _⟩ :: _) _ _ _; refine sta rfl rfl rfl spL (by rfl) (by rfl) (by rfl) kpL ?_)) | refine s_nil ?_ | refine kh_normal ?_))
      refine shrw rfl rfl (by omega) _ hs ?_
      refine andw rfl rfl _ h1 ?_
      (repeat' (first | (show VH _ _ _ _ _ _ _; first | refine r_seq ?_ | refine v_skip ?_ | refine v_cond_f rfl tbL ?_) | (show SH _ _ _ _ _ (_ :: _) _ _ _; first | (show SH _ _ _ _ _ (⟨_, .move _, _, _, _, _⟩ :: _) _ _ _; refine mov evL ?_) | (show SH _ _ _ _ _ (⟨_, .binOp .eql _ _ _ _, _, _, _, _⟩ :: _) _ _ _; refine eqlF rfl rfl omD ?_) | (show SH _ _ _ _ _ (⟨_, .binOp .add _ _ _ _, _, _, _, _⟩ :: _) _ _ _; refine add rfl rfl inL ?_)) | refine s_nil ?_ | refine kh_normal ?_ | refine bh_normal ?_))
      exact ⟨agL, (k + 1, A1, c2), hsL, by rw [hn]; exact enL, hkl, by show _ - (k + 1) < _ - k; omega⟩
  · have hke : k = 10 := by omega
    subst hke
    (repeat' (first | (show VH _ _ _ _ _ _ _; first | refine v_seq ?_ | refine r_seq ?_ | refine v_ret ?_ | refine v_exit ?_ | refine v_cond_f rfl tbL ?_) | (show SH _ _ _ _ _ (_ :: _) _ _ _; first | (show SH _ _ _ _ _ (⟨_, .binOp .lss _ _ _ _, _, _, _, _⟩ :: _) _ _ _; refine lssF rfl rfl omD ?_) | (show SH _ _ _ _ _ (⟨_, .load _ _, _, _, _, _⟩ :: _) _ _ _; refine lba rfl spL (by rfl) ?_) | (show SH _ _ _ _ _ (⟨_, .store _ _ _, _, _, _, _⟩ :: _) _ _ _; refine sta rfl rfl rfl spL (by rfl) (by rfl) (by rfl) kpL ?_)) | refine s_nil ?_ | refine kh_normal ?_ | refine kh_exit ?_ | refine bh_exit ?_))
    exact rhC rfl rfl rfl (fun w hw => loadVar_bx hw spL (by rfl)) ⟨A1, c2, rfl, rfl⟩ enL
end Go.Proofs.YtjefoecnciepmaaDoor
