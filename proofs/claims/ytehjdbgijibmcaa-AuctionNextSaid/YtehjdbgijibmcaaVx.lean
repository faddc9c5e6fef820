/- More rules: slices of slices, pieces that are only read, an append that has to grow. -/
import Derived.Test.YtehjdbgijibmcaaVw
set_option linter.unusedSimpArgs false
set_option linter.unusedVariables false
namespace Go.Fw
open Go.RowKit

/-- A slice as an element. -/
structure SliceV where
  A : Option Addr
  m : Nat
  cp : Nat
instance : Flat SliceV := ⟨1, fun x => [.slice x.A x.m x.cp], ⟨none, 0, 0⟩, fun _ => rfl, fun x v hv => by simp at hv; subst hv; rfl, by omega⟩
/-- A piece of which it is known that the slice at A, of capacity cp, reads as l. -/
def rdp {α : Type} [Flat α] (A : Option Addr) (cp : Nat) (l : List α) : HP := .oth fun p => l.length ≤ cp ∧ ∀ w lo, Inn p w lo → Rd w A l
section
variable {α : Type} [F : Flat α] {w0 w : World} {H R G : List HP} {e : TypeId} {A A' : Option Addr} {cp cp' : Nat} {l L : List α}
theorem Wd.rdx (h : Wd w0 H w) (hs : Split H (rdp A cp l) R) : Rd w A l := by
  obtain ⟨p, q, hx, _, _, hp, _⟩ := (hs.wd h).open_
  exact hx.2 w _ hp
theorem Wd.cap (h : Wd w0 H w) (hs : Split H (rdp A cp l) R) : l.length ≤ cp := by
  obtain ⟨p, q, hx, _⟩ := (hs.wd h).open_
  exact hx.1
theorem Rd.drop (h : Rd w A l) (k : Nat) : Rd w (A.map (·.add (k * F.sz))) (l.drop k) := fun j u hj => by
  rw [← encs_drop, List.getElem?_drop] at hj
  obtain ⟨h1, h2⟩ := h _ u hj
  rw [h1]
  refine ⟨rfl, ?_⟩
  show w.cell? (((adr A).add (k * F.sz)).add j) = _
  rw [add_add]; exact h2
/-- What x[k:] reads as. -/
theorem Rd.from (h : Rd w A l) (k : Nat) (hc : l.length ≤ cp) : Rd w (if cp = k then A else A.map (·.add (k * F.sz))) (l.drop k) := by
  split
  · rw [List.drop_of_length_le (by omega)]; exact Rd.nil _ _
  · exact h.drop k
theorem Wd.rdf (h : Wd w0 H w) (k : Nat) (hs : Split H (rdp A cp l) R) : Rd w (if cp = k then A else A.map (·.add (k * F.sz))) (l.drop k) := (h.rdx hs).from k (h.cap hs)
theorem den_row_rd {p : Part} (h : den (orow e A cp l) p) : l.length ≤ cp ∧ ∀ w lo, Inn p w lo → Rd w A l := by
  refine ⟨?_, fun w lo hi => src_own (row_own h hi)⟩
  rcases h.2 with ⟨_, h2, _⟩ | ⟨_, _, _, _, h2, _⟩
  · rw [h2]; exact Nat.zero_le _
  · exact h2
theorem ent_rdp (h : Split H (orow e A cp l) R) (hg : Ent R G) : Ent H (rdp A cp l :: G) := (ent_cons h hg).trans (ent_imp fun _ hp => den_row_rd hp)
theorem ent_rdp_cp (hc : l.length ≤ cp') (h : Split H (orow e A cp l) R) (hg : Ent R G) : Ent H (rdp A cp' l :: G) := (ent_cons h hg).trans (ent_imp fun _ hp => ⟨hc, (den_row_rd hp).2⟩)
theorem ent_rdp_from (k : Nat) (h : Split H (orow e A cp l) R) (hg : Ent R G) : Ent H (rdp (if cp = k then A else A.map (·.add (k * F.sz))) (cp - k) (l.drop k) :: G) :=
  (ent_cons h hg).trans (ent_imp fun _ hp => ⟨by have := (den_row_rd hp).1; rw [List.length_drop]; omega, fun w lo hi => ((den_row_rd hp).2 w lo hi).from k (den_row_rd hp).1⟩)
theorem ent_rdp_drop (k : Nat) (h : Split H (rdp A cp l) R) (hg : Ent R G) : Ent H (rdp (if cp = k then A else A.map (·.add (k * F.sz))) (cp - k) (l.drop k) :: G) :=
  (ent_cons h hg).trans (ent_imp fun _ hp => ⟨by have := hp.1; rw [List.length_drop]; omega, fun w lo hi => (hp.2 w lo hi).from k hp.1⟩)
theorem ent_rdp_rdp (h : Split H (rdp A cp l) R) (hg : Ent R G) : Ent H (rdp A cp l :: G) := ent_cons h hg
theorem ent_rdp_nil {A : Option Addr} (hg : Ent H G) : Ent H (rdp A cp ([] : List α) :: G) := ⟨fun p hp => by
  obtain ⟨q, hq, hk⟩ := hg.out p hp
  exact ⟨pjoin pnil q, ⟨pnil, q, ⟨Nat.zero_le _, fun _ _ _ => Rd.nil _ _⟩, hq, fun _ => .inl rfl, rfl⟩, fun k o ho => hk k o ho⟩⟩
end
/-- The world at hand is the one above which all goes on: for a function that gives v and leaves memory as it was. -/
theorem v_rebase {P : Program} {n t : Nat} {fn : Func} {v : Value} {f : Fr} {w0 : World} {H : List HP} {c : Code} (hr : fn.results = #[.tmp t]) (h : ∀ w1, Wd w0 H w1 → VH P n c (retH P n fn w1 (Sc v)) f w1 []) : VH P n c (retH P n fn w0 (Sc v)) f w0 H := ⟨fun w1 hw1 => by
  have h1 := (h w1 hw1).out w1 (Wd.refl w1)
  refine h1.mono fun e f' w' ⟨H', ⟨hq⟩, hw'⟩ => ?_
  have key : ∀ e, e = .normal ∨ e = .ret → retHD P n fn w1 (Sc v) e f' H' → low w0 (retH P n fn w0 (Sc v)) e f' w' := fun e he hq => by
    have hq : ∃ H1, Left f'.c.ds H' H1 ∧ ∀ w, Wd w1 H1 w → ∃ u, (results fn (rep n f').tmps).run P w = .ok u w ∧ ∃ H'', Sc v u H'' ∧ Ent H1 H'' := by
      rcases he with rfl | rfl <;> exact hq
    obtain ⟨H1, hl, hq⟩ := hq
    obtain ⟨w2, _, hw2⟩ := left_shut hl hw'
    obtain ⟨u, hu, _, ⟨hv, _⟩, _⟩ := hq w2 hw2
    rw [results_tmp hr] at hu
    injection hu with hu _
    have hw0 : Wd w0 [] w' := Wd.of_ext (hw1.ext.trans hw'.ext)
    generalize hds : f'.c.ds = ds at hl
    cases hl with
    | nil => exact ⟨[], ret_plain he hds fun w _ => ⟨_, results_tmp hr _ P w, [], ⟨hu.trans hv, rfl⟩, ent_refl _⟩, hw0⟩
    | @mark D _ R hs =>
      have hd : Wd w0 [dfr D] w' := (Ent.wd (ent_cons hs (ent_nil _)) hw').rise hw1.ext
      refine ⟨[dfr D], ⟨?_⟩, hd⟩
      have : ∃ H1, Left f'.c.ds [dfr D] H1 ∧ ∀ w, Wd w0 H1 w → ∃ u, (results fn (rep n f').tmps).run P w = .ok u w ∧ ∃ H'', Sc v u H'' ∧ Ent H1 H'' :=
        ⟨[], hds ▸ .mark .head, fun w _ => ⟨_, results_tmp hr _ P w, [], ⟨hu.trans hv, rfl⟩, ent_refl _⟩⟩
      rcases he with rfl | rfl <;> exact this
  cases e with
  | normal => exact key _ (.inl rfl) hq
  | ret => exact key _ (.inr rfl) hq
  | exit _ => exact hq.elim
  | goto _ => exact hq.elim
  | panic _ => exact hq.elim
  | outgrown => exact hq.elim⟩
section
variable {md : Md} {P : Program} {n : Nat} {Q : HQ} {f : Fr} {w0 : World} {H R : List HP} {ops : Array Oper} {rest : List Oper} {d : Nat} {op : Op} {ty : TypeId} {pos : String} {aft : Array Edge} {v : Value} {x y y2 c : Operand}
theorem ox_slice_him {w : World} {t e : TypeId} {sz by_ : Nat} {A : Option Addr} {m cp : Nat} {k k2 : IntKind} {hi mx : Int} [h : TSl P t e sz by_] (hx : ev n f x = .slice A m cp) (hy : ev n f y = .int k hi) (hz : ev n f y2 = .int k2 mx) (h0 : 0 ≤ hi) (h1 : hi ≤ mx) (h2 : mx ≤ cp) :
    OX P n f (.slice t x none (some y) (some y2)) ty w (.slice A hi.toNat mx.toNat) w := by
  intro d pos aft g
  have hsz := slice_size (P := P) (t := t) (e := e)
  have hA : (if mx.toNat = 0 then A else Option.map (fun a => a.add 0) A) = A := by
    split
    · rfl
    · cases A <;> simp [Addr.add]
  have e1 : (hi ≤ ((mx.toNat : Nat) : Int)) := by omega
  simp [execOp, not_array h, Instr.slice, hx, hy, hz, run_underlying h.und, Instr.sliceBounds, Instr.sliceBound, asIntOf, h0, h2, show 0 ≤ mx by omega, show hi ≤ max mx 0 by omega, hsz]
  cases A with
  | none => intro _; rfl
  | some a => simp [Addr.add]
theorem slhm {t e : TypeId} {sz by_ : Nat} {A : Option Addr} {m cp : Nat} {k k2 : IntKind} {hi mx : Int} [TSl P t e sz by_] {α : Type} [F : Flat α] {l : List α} (hx : ev n f x = .slice A m cp) (hy : ev n f y = .int k hi) (hz : ev n f y2 = .int k2 mx) (hs : Split (vis md H) (orow e A cp l) R) (h0 : 0 ≤ hi) (h1 : hi ≤ mx) (h2 : mx ≤ l.length)
    (k : SH (nx md) P n ops Q rest (upd f d (.slice A hi.toNat mx.toNat)) w0 H) : SH md P n ops Q (⟨some d, .slice t x none (some y) (some y2), ty, pos, aft, none⟩ :: rest) f w0 H := s_val (fun _ hw => ox_slice_him hx hy hz h0 h1 (by have := (own_cap (hw.own hs)).1; omega)) k
section
variable {α : Type} [F : Flat α]
/-- An append to a slice without room: the old array is left as it is. -/
theorem appg {t e : TypeId} {sz by_ : Nat} {A B : Option Addr} {m kk c2 : Nat} {l l2 : List α} [ht : TSl P t e sz by_] [he : TEl P e sz by_] (hm : addOK md = true)
    (hx : ev n f x = .slice A m m) (hy : ev n f y = .slice B kk c2) (hl : ∀ w, Wd w0 H w → Rd w A l) (hsrc : ∀ w, Wd w0 H w → Rd w B l2) (hsz : sz = F.sz) (hml : m = l.length) (hkl : kk = l2.length) (hk0 : 0 < l2.length)
    (hbig : (l.length + l2.length) * by_ ≤ 140737488355328) (h63 : l.length + l2.length ≤ 140737488355328)
    (k : ∀ A' cp', SH (nx md) P n ops Q rest (upd f d (.slice A' (l ++ l2).length cp')) w0 (orow e A' cp' (l ++ l2) :: H)) :
    SH md P n ops Q (⟨some d, .call { callee := .builtin .append, args := #[x, y], argTypes := #[t, t] }, ty, pos, aft, none⟩ :: rest) f w0 H := by
  subst hsz hml hkl
  refine s_add hm fun w hw => ?_
  obtain ⟨i, z, hi, hisz, hiby, hz, hzs⟩ := he.inf
  have hpos := he.pos
  have hll := encs_len l
  have hl2l := encs_len l2
  have hne : 0 < (encs l2).length := by rw [encs_len]; exact Nat.mul_pos hk0 hpos
  have hB : B = some (adr B) := (hsrc w hw 0 _ (List.getElem?_eq_getElem hne)).1
  have hnews : ∀ j u, (encs l2)[j]? = some u → w.cell? ((adr B).add j) = some u := fun j u hu => (hsrc w hw j u hu).2
  rw [hB] at hy
  have hm63 : l.length + l2.length ≤ maxLen := by simp only [maxLen]; omega
  have fin : ∀ (old : Nat) (olds : List Value), olds = encs l →
      Own (w.drew.alloc (.cells (olds.toArray ++ (encs l2).toArray ++ Builtin.zeroCells z.cells (grownCap w (l.length + l2.length) old e - (l.length + l2.length))) e)) w.heap.size e F.sz (some ⟨w.heap.size, 0, none⟩) (l ++ l2).length (grownCap w (l.length + l2.length) old e) (encs (l ++ l2)) := by
    intro old olds ho
    subst ho
    have hge := grownCap_ge w (l.length + l2.length) old e
    refine ⟨encs_len _, .inr ⟨w.heap.size, _, _, rfl, Nat.le_refl _, heap_alloc_new w.drew _, by rw [List.length_append]; exact hge, grownCap_le_maxLen w _ old e hm63, ?_, ?_⟩⟩
    · simp only [Array.size_append, List.size_toArray, size_zeroCells, hzs, hll, hl2l, ← Nat.add_mul]
      congr 1
      omega
    · simp only [Array.toList_append, List.append_assoc]
      rw [← List.append_assoc, encs_append, show (l ++ l2).length * F.sz = (encs l ++ encs l2).length by rw [← encs_append, encs_len]]
      exact List.take_left
  have hext : ∀ (o : Obj), Ext w (w.drew.alloc o) := fun o => Ext.grown0 ⟨rfl, rfl, rfl, by simp, fun k hk _ => Below.heap_alloc w.drew _ k hk⟩
  cases A with
  | none =>
    have hl0 : l = [] := (hl w hw).none
    subst hl0
    have hr := run_append_nil (P := P) w t ty e i z ht.und hi hz (adr B) l2.length c2 (encs l2) (by rw [hl2l, hisz]) hnews hk0 (by omega) (by simp only [List.length_nil, Nat.zero_add] at hbig; rw [hiby]; omega)
    have h1 := fin 0 [] rfl
    simp only [List.length_nil, Nat.zero_add, List.nil_append] at h1
    refine wl_val (v := .slice (some ⟨w.heap.size, 0, none⟩) l2.length (grownCap w l2.length 0 e)) ?_ (wl_nil ⟨rfl, hext _, _, k _ _, hw.newRow (hext _) h1⟩)
    intro d pos aft g
    simp [execOp, resolve, invoke, builtin, hx, hy, hr]
  | some a =>
    have hr := run_append_grow (P := P) w t ty e i z ht.und hi hz a l.length l.length (encs l) (by rw [hll, hisz]) (fun j u hj => (hl w hw j u hj).2) (adr B) l2.length c2 (encs l2) (by rw [hl2l, hisz]) hnews (by omega) (by omega) (growslice_fits (by omega) (by rw [hiby]; exact hbig))
    have h1 := fin l.length (encs l) rfl
    refine wl_val (v := .slice (some ⟨w.heap.size, 0, none⟩) (l ++ l2).length (grownCap w (l.length + l2.length) l.length e)) ?_ (wl_nil ⟨rfl, hext _, _, k _ _, hw.newRow (hext _) h1⟩)
    intro d pos aft g
    simp [execOp, resolve, invoke, builtin, hx, hy, hr]
end
end
end Go.Fw
