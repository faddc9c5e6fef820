/- Layer 37 (chat): isText. -/
import Derived.Test.YtplhnnlklnbahaaQAa
import Derived.Test.YtplhnnlklnbahaaQAb
import Derived.Test.YtplhnnlklnbahaaQAc
import Derived.Laws.BitsLemmas
import Derived.Laws.Pointers
import Derived.Laws.CopyRow
import Derived.Lib.OthersKept
import Derived.Lib.TrimUEq
import Derived.Lib.Bytealg
import Derived.Laws.Externs
import Derived.Laws.Slices
import Derived.Laws.DeepStrings4
set_option linter.unusedSimpArgs false
set_option linter.unusedVariables false
/- Layer 37 (chat): the bytes of a string in memory of their own. -/
namespace Go.Proofs.Ytplhnnlklnbahaa
open Go.Fw Go.RowKit
/-- A row that '[]byte(s)' made: its mark lies behind its last cell. -/
def brow (e : TypeId) (b cp : Nat) (l : List UInt8) : HP := .oth fun p => ∃ cur : Array Value, p = pone b (.cells cur e (cur.size, cur.size + 1)) ∧ cur.size = cp ∧ l.length ≤ cp ∧ cur.toList.take l.length = encs l
theorem encs_u8 (l : List UInt8) : encs l = l.map fun b => Value.int .u8 b.toNat := by
  induction l with
  | nil => rfl
  | cons b l ih => rw [encs_cons, ih]; rfl
theorem encs_u8_len (l : List UInt8) : (encs l).length = l.length := by rw [encs_u8, List.length_map]
section
variable {w0 w w1 : World} {H R : List HP} {e : TypeId} {b cp : Nat} {l : List UInt8}
theorem Wd.brow_open (h : Wd w0 H w) (hs : Split H (brow e b cp l) R) : ∃ cur : Array Value, w.heap[b]? = some (.cells cur e (cur.size, cur.size + 1)) ∧ w0.heap.size ≤ b ∧ cur.size = cp ∧ l.length ≤ cp ∧ cur.toList.take l.length = encs l := by
  obtain ⟨p, q, hx, _, _, hp, _⟩ := (hs.wd h).open_
  obtain ⟨cur, rfl, h1, h2, h3⟩ := hx
  have := hp b _ (pone_at _ _)
  exact ⟨cur, this.2, this.1, h1, h2, h3⟩
/-- Its bytes are read. -/
theorem Wd.rdb (h : Wd w0 H w) (hs : Split H (brow e b cp l) R) : Rd w (some ⟨b, 0, none⟩) l := by
  obtain ⟨cur, hb, _, h1, h2, h3⟩ := Wd.brow_open h hs
  intro j u hj
  refine ⟨rfl, ?_⟩
  show w.cell? ((⟨b, 0, none⟩ : Addr).add j) = some u
  rw [Addr.add_lit, Nat.zero_add]
  have hc : cur[j]? = some u := by
    rw [← h3, List.getElem?_take] at hj
    split at hj
    · simpa using hj
    · cases hj
  simp [World.cell?, hb, hc]
/-- It is written at i. -/
theorem Wd.setB {i : Nat} {u : UInt8} {cur : Array Value} (h : Wd w0 H w) (hs : Split H (brow e b cp l) R) (hi : i < l.length) (hcur : w.heap[b]? = some (.cells cur e (cur.size, cur.size + 1))) (hw : Wrt w w1 b)
    (hb : w1.heap[b]? = some (.cells (cur.setIfInBounds i (.int .u8 u.toNat)) e (cur.size, cur.size + 1))) : Wd w0 (brow e b cp (l.set i u) :: R) w1 :=
  (hs.wd h).change fun p hx hin => by
    obtain ⟨cur', rfl, h1, h2, h3⟩ := hx
    have he := (hin b _ (pone_at _ _)).2
    rw [hcur] at he
    injection he with he
    injection he with he _ _
    subst he
    refine ⟨some b, pone b (.cells (cur.setIfInBounds i (.int .u8 u.toNat)) e ((cur.setIfInBounds i (.int .u8 u.toNat)).size, (cur.setIfInBounds i (.int .u8 u.toNat)).size + 1)), hw.grown, fun k hk => ?_, ⟨_, rfl, by simpa using h1, by rw [List.length_set]; exact h2, ?_⟩, fun k o hk => ?_⟩
    · injection hk with hk; subst hk; rw [pone_at]; simp
    · rw [List.length_set, Array.toList_setIfInBounds, List.take_set, h3, encs_u8, encs_u8, List.map_set]
    · have := pone_ne (k := k) (by rw [hk]; simp)
      subst this
      rw [pone_at] at hk
      injection hk with hk
      subst hk
      exact ⟨by rw [hb]; simp, .inl (by rw [pone_at]; simp)⟩
end
section
variable {P : Program} {n : Nat} {Q : Exit → Fr → World → Prop} {f : Fr} {w : World} {ops : Array Oper} {rest : List Oper} {d : Nat} {ty : TypeId} {pos : String} {aft : Array Edge} {v : Value} {x y : Operand}
/-- A store of one cell ahead of the mark. -/
theorem wl_storeU {t te : TypeId} {z : Value} {g off lo hi : Nat} {cur : Array Value} [h : TOne P t z] (hx : ev n f x = .pointer (some ⟨g, off, none⟩)) (hy : ev n f y = v) (hv : v.cells = #[v]) (hone : v.oneCell' = true)
    (hg : w.heap[g]? = some (.cells cur te (lo, hi))) (hlo : off < lo) (hoff : off < cur.size)
    (k : ∀ w1, Wrt w w1 g → w1.heap[g]? = some (.cells (cur.setIfInBounds off v) te (lo, hi)) → WL P n ops Q rest f w1) :
    WL P n ops Q (⟨none, .store t x y, ty, pos, aft, none⟩ :: rest) f w :=
  wl_skip (w' := w.setRow g (cur.setIfInBounds off v))
    (by
      intro d pos aft gg
      have hcell : w.cell? ⟨g, off, none⟩ = some cur[off] := by simp [World.cell?, hg, hoff]
      have hfro : w.frozen? ⟨g, off, none⟩ = false := by
        simp only [World.frozen?, hg, Bool.and_eq_false_iff, decide_eq_false_iff_not]
        left; omega
      have hadd : (⟨g, off, none⟩ : Addr).add 0 = ⟨g, off, none⟩ := by rw [Addr.add_lit]; rfl
      have hst : (storeCells ⟨g, off, none⟩ [v] 0).run P w = .ok () (w.setRow g (cur.setIfInBounds off v)) := by
        simp only [storeCells, Sem.run_bind, hadd]
        rw [run_store P w _ v _ hone, hcell]
        simp [hfro, setCell_eq_setRow w g off cur te (lo, hi) v hg, Sem.run_pure]
      have hsz := h.siz
      simp [execOp, Instr.storeAt, Instr.sureAddr, storeVar, hx, hy, hsz, hv, hst])
    (k _ (Wrt.mk' w g _) (setRow_heap w g cur _ te _ hg))
theorem ox_b2s {t1 t2 e : TypeId} [h1 : TByt P t1 e] [h2 : TStr P t2] {A : Option Addr} {c : Nat} {l : List UInt8} (hx : ev n f x = .slice A l.length c) (hr : Rd w A l) : OX P n f (.convert t1 t2 x) ty w (.string (bs l)) w := by
  intro d pos aft g
  have hc := run_convert_bytes_string (P := P) w t1 t2 e A l.length c h1.und h1.byt h2.und
  cases A with
  | none =>
    have hl := Rd.none hr
    subst hl
    simp only [List.length_nil] at hc hx
    simp [execOp, hx, hc, Conv.bytesToString, Sem.run_pure]
    rfl
  | some a =>
    have hld : (loadCells a l.length).run P w = .ok ((l.map fun b => (b.toNat : Int)).map (Value.int .u8)).toArray w := by
      have := run_loadCells_list (P := P) (w := w) a (encs l) (fun j v hj => (hr j v hj).2)
      rw [encs_u8_len] at this
      rw [this, encs_u8, List.map_map]
      rfl
    have hb := run_bytesToString (P := P) w a l.length c (l.map fun b => (b.toNat : Int)) hld
    have hf : ∀ (l : List UInt8) (s : ByteArray), (l.map fun b => (b.toNat : Int)).foldl (fun r n => r.push (UInt8.ofNat n.toNat)) s = ⟨s.data ++ l.toArray⟩ := by
      intro l
      induction l with
      | nil => intro s; simp
      | cons b l ih =>
        intro s
        rw [List.map_cons, List.foldl_cons, ih]
        simp [ByteArray.push]
    rw [hf] at hb
    have he : (⟨ByteArray.empty.data ++ l.toArray⟩ : ByteArray) = bs l := by
      rw [show ByteArray.empty.data = #[] from rfl]
      simp [bs]
    rw [he] at hb
    simp [execOp, hx, hc, hb]
end
section
variable {md : Md} {P : Program} {n : Nat} {Q : HQ} {f : Fr} {w0 : World} {H R : List HP} {ops : Array Oper} {rest : List Oper} {d : Nat} {op : Op} {ty : TypeId} {pos : String} {aft : Array Edge} {v : Value} {x y c : Operand}
theorem sln {t : TypeId} [TStr P t] {s : List UInt8} (hx : ev n f x = .string (bs s)) (k : SH (nx md) P n ops Q rest (upd f d (.int .i64 s.length)) w0 H) : SH md P n ops Q (⟨some d, .call { callee := .builtin .len, args := #[x], argTypes := #[t] }, ty, pos, aft, none⟩ :: rest) f w0 H := s_val (fun w hw => ox_slen hx) k
theorem six {t : TypeId} [TStr P t] {s : List UInt8} {K : IntKind} {i : Nat} {j : Int} (hx : ev n f x = .string (bs s)) (hy : ev n f y = .int K j) (hj : j = (i : Int)) (hi : i < s.length) (k : SH (nx md) P n ops Q rest (upd f d (.int .u8 (s.getD i 0).toNat)) w0 H) : SH md P n ops Q (⟨some d, .index t x y, ty, pos, aft, none⟩ :: rest) f w0 H := s_val (fun w hw => ox_sidx hx (hy.trans (by rw [hj])) hi) k
theorem sad {t1 t2 : TypeId} {s t : List UInt8} (hx : ev n f x = .string (bs s)) (hy : ev n f y = .string (bs t)) (hl : s.length + t.length ≤ 9223372036854775807) (k : SH (nx md) P n ops Q rest (upd f d (.string (bs (s ++ t)))) w0 H) : SH md P n ops Q (⟨some d, .binOp .add t1 x y t2, ty, pos, aft, none⟩ :: rest) f w0 H := s_val (fun w hw => ox_sadd hx hy hl) k
theorem seq {t1 t2 : TypeId} {s t : List UInt8} (hx : ev n f x = .string (bs s)) (hy : ev n f y = .string (bs t)) (k : SH (nx md) P n ops Q rest (upd f d (.bool (decide (s = t)))) w0 H) : SH md P n ops Q (⟨some d, .binOp .eql t1 x y t2, ty, pos, aft, none⟩ :: rest) f w0 H := s_val (fun w hw => ox_seql hx hy) k
theorem sne {t1 t2 : TypeId} {s t : List UInt8} (hx : ev n f x = .string (bs s)) (hy : ev n f y = .string (bs t)) (k : SH (nx md) P n ops Q rest (upd f d (.bool (decide (s ≠ t)))) w0 H) : SH md P n ops Q (⟨some d, .binOp .neq t1 x y t2, ty, pos, aft, none⟩ :: rest) f w0 H := s_val (fun w hw => ox_sneq hx hy) k
theorem seqT {t1 t2 : TypeId} {s t : List UInt8} (hx : ev n f x = .string (bs s)) (hy : ev n f y = .string (bs t)) (h : s = t) (k : SH (nx md) P n ops Q rest (upd f d (.bool true)) w0 H) : SH md P n ops Q (⟨some d, .binOp .eql t1 x y t2, ty, pos, aft, none⟩ :: rest) f w0 H := seq hx hy (by rw [decide_eq_true h]; exact k)
theorem seqF {t1 t2 : TypeId} {s t : List UInt8} (hx : ev n f x = .string (bs s)) (hy : ev n f y = .string (bs t)) (h : ¬ s = t) (k : SH (nx md) P n ops Q rest (upd f d (.bool false)) w0 H) : SH md P n ops Q (⟨some d, .binOp .eql t1 x y t2, ty, pos, aft, none⟩ :: rest) f w0 H := seq hx hy (by rw [decide_eq_false h]; exact k)
theorem sneT {t1 t2 : TypeId} {s t : List UInt8} (hx : ev n f x = .string (bs s)) (hy : ev n f y = .string (bs t)) (h : ¬ s = t) (k : SH (nx md) P n ops Q rest (upd f d (.bool true)) w0 H) : SH md P n ops Q (⟨some d, .binOp .neq t1 x y t2, ty, pos, aft, none⟩ :: rest) f w0 H := sne hx hy (by rw [decide_eq_true h]; exact k)
theorem sneF {t1 t2 : TypeId} {s t : List UInt8} (hx : ev n f x = .string (bs s)) (hy : ev n f y = .string (bs t)) (h : s = t) (k : SH (nx md) P n ops Q rest (upd f d (.bool false)) w0 H) : SH md P n ops Q (⟨some d, .binOp .neq t1 x y t2, ty, pos, aft, none⟩ :: rest) f w0 H := sne hx hy (by rw [decide_eq_false (fun hn => hn h)]; exact k)
theorem adU {a b : Int} {t1 t2 : TypeId} (hx : ev n f x = .int .u8 a) (hy : ev n f y = .int .u8 b) (h : 0 ≤ a + b ∧ a + b ≤ 255) (k : SH (nx md) P n ops Q rest (upd f d (.int .u8 (a + b))) w0 H) : SH md P n ops Q (⟨some d, .binOp .add t1 x y t2, ty, pos, aft, none⟩ :: rest) f w0 H := s_val (fun w hw => by
  have := ox_add (P := P) (w := w) (ty := ty) (t1 := t1) (t2 := t2) hx hy
  rw [IntKind.wrap_u8] at this
  rwa [show (a + b) % 256 = a + b by omega] at this) k
theorem sbU {a b : Int} {t1 t2 : TypeId} (hx : ev n f x = .int .u8 a) (hy : ev n f y = .int .u8 b) (h : 0 ≤ a - b ∧ a - b ≤ 255) (k : SH (nx md) P n ops Q rest (upd f d (.int .u8 (a - b))) w0 H) : SH md P n ops Q (⟨some d, .binOp .sub t1 x y t2, ty, pos, aft, none⟩ :: rest) f w0 H := s_val (fun w hw => by
  have := ox_sub (P := P) (w := w) (ty := ty) (t1 := t1) (t2 := t2) hx hy
  rw [IntKind.wrap_u8] at this
  rwa [show (a - b) % 256 = a - b by omega] at this) k
theorem adI {a b : Int} {t1 t2 : TypeId} (hx : ev n f x = .int .i32 a) (hy : ev n f y = .int .i32 b) (h : -2147483648 ≤ a + b ∧ a + b ≤ 2147483647) (k : SH (nx md) P n ops Q rest (upd f d (.int .i32 (a + b))) w0 H) : SH md P n ops Q (⟨some d, .binOp .add t1 x y t2, ty, pos, aft, none⟩ :: rest) f w0 H := s_val (fun w hw => by
  have := ox_add (P := P) (w := w) (ty := ty) (t1 := t1) (t2 := t2) hx hy
  rw [IntKind.wrap_i32] at this
  rwa [show (a + b + 2147483648) % 4294967296 - 2147483648 = a + b by omega] at this) k
theorem sbI {a b : Int} {t1 t2 : TypeId} (hx : ev n f x = .int .i32 a) (hy : ev n f y = .int .i32 b) (h : -2147483648 ≤ a - b ∧ a - b ≤ 2147483647) (k : SH (nx md) P n ops Q rest (upd f d (.int .i32 (a - b))) w0 H) : SH md P n ops Q (⟨some d, .binOp .sub t1 x y t2, ty, pos, aft, none⟩ :: rest) f w0 H := s_val (fun w hw => by
  have := ox_sub (P := P) (w := w) (ty := ty) (t1 := t1) (t2 := t2) hx hy
  rw [IntKind.wrap_i32] at this
  rwa [show (a - b + 2147483648) % 4294967296 - 2147483648 = a - b by omega] at this) k
theorem b2s {t1 t2 e : TypeId} [TByt P t1 e] [TStr P t2] {A : Option Addr} {m cp : Nat} {l : List UInt8} (hx : ev n f x = .slice A m cp) (hr : ∀ w, Wd w0 (vis md H) w → Rd w A l) (hl : m = l.length) (k : SH (nx md) P n ops Q rest (upd f d (.string (bs l))) w0 H) : SH md P n ops Q (⟨some d, .convert t1 t2 x, ty, pos, aft, none⟩ :: rest) f w0 H := s_val (fun w hw => ox_b2s (by rw [hx, hl]) (hr w hw)) k
/-- '[]byte(s)'. -/
theorem s2b {t1 t2 e : TypeId} [TStr P t1] [TByt P t2 e] {s : List UInt8} (hm : addOK md = true) (hx : ev n f x = .string (bs s))
    (k : ∀ b cp, SH (nx md) P n ops Q rest (upd f d (.slice (some ⟨b, 0, none⟩) s.length cp)) w0 (brow e b cp s :: H)) : SH md P n ops Q (⟨some d, .convert t1 t2 x, ty, pos, aft, none⟩ :: rest) f w0 H :=
  s_add hm fun w hw => wl_val (ox_s2b hx) (by
    have he : Ext w (Go.Lib.bytesWorld w e (bs s)) := ⟨by simp [Go.Lib.bytesWorld, World.freeze, World.alloc, World.drew, -World.alloc_eq, -World.drew_eq], by simp [Go.Lib.bytesWorld, World.freeze, World.alloc, World.drew, -World.alloc_eq, -World.drew_eq], by simp [Go.Lib.bytesWorld, World.freeze, World.alloc, World.drew, -World.alloc_eq, -World.drew_eq], by rw [Go.Lib.bytesWorld_size]; omega, fun k hk => Go.Lib.bytesWorld_at_old w e _ k hk⟩
    have hge := grownCap_ge w s.length 0 e
    have hcs : (Go.Lib.bytesCells w e (bs s)).size = grownCap w s.length 0 e := by
      unfold Go.Lib.bytesCells
      rw [Array.size_append, Array.size_map, Array.size_replicate, bs_size, show (bs s).data.size = s.length from bs_size s]
      omega
    refine wl_nil ⟨rfl, he, _, k w.heap.size (grownCap w s.length 0 e), hw.add (row := none) (he.grownBy _) rfl (p := pone w.heap.size (.cells (Go.Lib.bytesCells w e (bs s)) e ((Go.Lib.bytesCells w e (bs s)).size, (Go.Lib.bytesCells w e (bs s)).size + 1))) ⟨_, rfl, hcs, hge, ?_⟩ fun k o hk => ?_⟩
    · rw [encs_u8]
      unfold Go.Lib.bytesCells
      simp [bs]
    · have := pone_ne (k := k) (by rw [hk]; simp)
      subst this
      rw [pone_at] at hk
      injection hk with hk
      subst hk
      exact ⟨Go.Lib.bytesWorld_at_new w e (bs s), Nat.le_refl _⟩)
/-- A byte is stored. -/
theorem stu {t e : TypeId} {z : Value} {b cp i : Nat} {l : List UInt8} (u : UInt8) [TOne P t z] (hm : addOK md = true) (hx : ev n f x = .pointer (some ⟨b, i, none⟩)) (hy : ev n f y = .int .u8 u.toNat) (hs : Split H (brow e b cp l) R) (hi : i < l.length)
    (hk : keeps md (brow e b cp (l.set i u) :: R)) (k : SH (nx md) P n ops Q rest f w0 (brow e b cp (l.set i u) :: R)) : SH md P n ops Q (⟨none, .store t x y, ty, pos, aft, none⟩ :: rest) f w0 H :=
  s_mut hm fun w hw => by
    obtain ⟨cur, hb, _, h1, h2, h3⟩ := Wd.brow_open hw hs
    exact wl_storeU hx hy rfl rfl hb (by omega) (by omega) fun w1 hw1 hb1 => wl_nil ⟨rfl, _, hk, k, Wd.setB hw hs hi hb hw1 hb1⟩
/-- A byte is stored, at its place in the slice. -/
theorem stb8 {t e : TypeId} {z : Value} {b cp i : Nat} {l : List UInt8} (u : UInt8) [TOne P t z] (hm : addOK md = true) (hx : ev n f x = .pointer (some ((adr (some ⟨b, 0, none⟩)).add (i * 1)))) (hy : ev n f y = .int .u8 u.toNat) (hs : Split H (brow e b cp l) R) (hi : i < l.length)
    (hk : keeps md (brow e b cp (l.set i u) :: R)) (k : SH (nx md) P n ops Q rest f w0 (brow e b cp (l.set i u) :: R)) : SH md P n ops Q (⟨none, .store t x y, ty, pos, aft, none⟩ :: rest) f w0 H :=
  stu u hm (hx.trans (by rw [show adr (some (⟨b, 0, none⟩ : Addr)) = ⟨b, 0, none⟩ from rfl, Addr.add_lit, Nat.zero_add, Nat.mul_one])) hy hs hi hk k
end
theorem rdS {p : Prop} (h : p := by first | exact rd_via (by assumption) (by assumption) | exact rd_thk (by assumption) (by assumption) spL | exact Wd.rdb (by assumption) spL | exact Wd.rd (by assumption) spL | exact Wd.rd1 (by assumption) spL | exact Wd.rd2 (by assumption) spL) : p := h
end Go.Proofs.Ytplhnnlklnbahaa

/- Layer 37 (chat): fold, folded, low. -/
namespace Go.Proofs.Ytplhnnlklnbahaa
open Go.Fw Go.RowKit
def foldU (b : UInt8) : UInt8 := UInt8.ofNat (foldN b.toNat)
theorem foldU_nat (b : UInt8) : (foldU b).toNat = foldN b.toNat := by
  have := b.toNat_lt
  unfold foldU
  rw [UInt8.toNat_ofNat', Nat.mod_eq_of_lt (foldN_lt this)]
theorem foldN_up {b : Nat} (h : 65 ≤ b ∧ b ≤ 90) : foldN b = b + 32 := if_pos h
theorem foldN_id {b : Nat} (h : ¬ (65 ≤ b ∧ b ≤ 90)) : foldN b = b := if_neg h
set_option maxRecDepth 100000 in
theorem fold_spec (b : UInt8) (w : World) : Ret Try.prog 86 [.int .u8 b.toNat].toArray w (Out w (.int .u8 (foldU b).toNat)) := by
  have hb := b.toNat_lt
  rw [foldU_nat]
  by_cases h : 65 ≤ b.toNat ∧ b.toNat ≤ 90
  · rw [foldN_up h]
    refine enterH Try.func86 rfl rfl Try.ntmps86 rfl (Wd.refl _) ?_
    (repeat' (first | (show VH _ _ _ _ _ _ _; first | refine v_seq ?_ | refine r_seq ?_ | refine v_ret ?_ | refine v_cond_t rfl tbL ?_) | (show SH _ _ _ _ _ (_ :: _) _ _ _; first | (show SH _ _ _ _ _ (⟨_, _, _, _, _, some _⟩ :: _) _ _ _; (refine gif rfl rfl ?_; refine giTT tbL ?_)) | (show SH _ _ _ _ _ (⟨_, .move _, _, _, _, _⟩ :: _) _ _ _; refine mov evL ?_) | (show SH _ _ _ _ _ (⟨_, .assign _, _, _, _, _⟩ :: _) _ _ _; refine asg evL ?_) | (show SH _ _ _ _ _ (⟨_, .binOp .leq _ _ _ _, _, _, _, _⟩ :: _) _ _ _; refine leqT rfl rfl omD ?_) | (show SH _ _ _ _ _ (⟨_, .binOp .geq _ _ _ _, _, _, _, _⟩ :: _) _ _ _; refine geqT rfl rfl omD ?_) | (show SH _ _ _ _ _ (⟨_, .binOp .add _ _ _ _, _, _, _, _⟩ :: _) _ _ _; refine adU rfl rfl omL ?_) | (show SH _ _ _ _ _ (⟨_, .binOp .sub _ _ _ _, _, _, _, _⟩ :: _) _ _ _; refine sbU rfl rfl omL ?_) | (show SH _ _ _ _ _ (⟨_, .pick _ _ _, _, _, _, _⟩ :: _) _ _ _; refine pkt rfl tbL evL ?_)) | refine s_nil ?_ | refine kh_normal ?_ | refine kh_ret ?_))
    exact rh1 rfl rfl ⟨congrArg (Value.int .u8) (by omega), rfl⟩ (ent_nil _)
  · rw [foldN_id h]
    have hcc : Hid _ := h
    clear h
    refine enterH Try.func86 rfl rfl Try.ntmps86 rfl (Wd.refl _) ?_
    (repeat' (first | (show VH _ _ _ _ _ _ _; first | refine v_seq ?_ | refine r_seq ?_ | refine v_ret ?_ | refine v_skip ?_ | refine v_cond_f rfl tbL ?_ | refine v_cond_dec rfl (fun h => ?_) (fun h => ?_)) | (show SH _ _ _ _ _ (_ :: _) _ _ _; first | (show SH _ _ _ _ _ (⟨_, _, _, _, _, some _⟩ :: _) _ _ _; (refine gif rfl rfl ?_; first | refine giTT tbL ?_ | refine giTF tbL ?_ | refine giTd (fun h => ?_) (fun h => ?_))) | (show SH _ _ _ _ _ (⟨_, .move _, _, _, _, _⟩ :: _) _ _ _; refine mov evL ?_) | (show SH _ _ _ _ _ (⟨_, .assign _, _, _, _, _⟩ :: _) _ _ _; refine asg evL ?_) | refine leq rfl rfl ?_ | refine geq rfl rfl ?_ | (show SH _ _ _ _ _ (⟨_, .binOp .add _ _ _ _, _, _, _, _⟩ :: _) _ _ _; refine adU rfl rfl omL ?_) | (show SH _ _ _ _ _ (⟨_, .binOp .sub _ _ _ _, _, _, _, _⟩ :: _) _ _ _; refine sbU rfl rfl omL ?_) | (show SH _ _ _ _ _ (⟨_, .pick _ _ _, _, _, _, _⟩ :: _) _ _ _; first | refine pkt rfl tbL evL ?_ | refine pkf rfl tbL evL ?_)) | refine s_nil ?_ | refine kh_normal ?_ | refine kh_ret ?_))
    all_goals first
      | exact rh1 rfl rfl ⟨rfl, rfl⟩ (ent_nil _)
      | exact absurd ⟨by omega, by omega⟩ hcc
/-- The first k letters are folded. -/
def foldK (s : List UInt8) (k : Nat) : List UInt8 := (s.take k).map foldU ++ s.drop k
theorem foldK_len (s : List UInt8) (k : Nat) : (foldK s k).length = s.length := by
  unfold foldK
  rw [List.length_append, List.length_map, ← List.length_append, List.take_append_drop]
theorem foldK_all (s : List UInt8) : foldK s s.length = s.map foldU := by
  unfold foldK
  rw [List.take_length, List.drop_length, List.append_nil]
theorem foldK_at {s : List UInt8} {k : Nat} (hk : k < s.length) : (foldK s k).getD k 0 = s.getD k 0 ∧ (foldK s k).set k (foldU (s.getD k 0)) = foldK s (k + 1) := by
  have hl : ((s.take k).map foldU).length = k := by rw [List.length_map, List.length_take]; omega
  have hd : s.drop k = s.getD k 0 :: s.drop (k + 1) := by rw [getD_at 0 hk]; exact List.drop_eq_getElem_cons hk
  have ht : s.take (k + 1) = s.take k ++ [s.getD k 0] := by rw [getD_at 0 hk]; exact (List.take_append_getElem hk).symm
  unfold foldK
  rw [hd]
  constructor
  · rw [List.getD_eq_getElem?_getD, List.getElem?_append_right (by omega), hl, Nat.sub_self]; rfl
  · rw [List.set_append_right _ _ (by omega), hl, Nat.sub_self, List.set_cons_zero, ht, List.map_append, List.append_assoc]; rfl
set_option maxHeartbeats 1000000 in
set_option maxRecDepth 100000 in
theorem folded_spec (s : List UInt8) (w : World) (hl : s.length ≤ 1000000) : Ret Try.prog 57 [.string (bs s)].toArray w (Out w (.string (bs (s.map foldU)))) := by
  refine enterH Try.func57 rfl rfl Try.ntmps57 rfl (Wd.refl _) ?_
  (repeat' (first | (show VH _ _ _ _ _ _ _; first | refine v_seq ?_ | refine r_seq ?_ | refine v_block ?_) | (show SH _ _ _ _ _ (_ :: _) _ _ _; first | (show SH _ _ _ _ _ (⟨_, .move _, _, _, _, _⟩ :: _) _ _ _; refine mov evL ?_) | (show SH _ _ _ _ _ (⟨_, .assign _, _, _, _, _⟩ :: _) _ _ _; refine asg evL ?_) | refine slen rfl ?_ | refine s2b rfl rfl (fun b cp => ?_)) | refine s_nil ?_ | refine kh_normal ?_))
  refine v_norm [(3,_),(8,_),(9,_)] heL (fun g => ?_)
  refine v_loop [(4,4),(9,20)] (fun k : Nat => [(9, .int .i64 k)]) (fun k => [brow 5 b cp (foldK s k)]) (fun k => k ≤ s.length) (fun k => s.length - k) 0 hsL enL (Nat.zero_le _) ?_
  rintro k g hk
  simp only [sets]
  by_cases hkl : k < s.length
  · obtain ⟨h1, h2⟩ := foldK_at hkl
    have h3 := foldK_len s k
    generalize foldK s k = l at h1 h2 h3 ⊢
    have hf := fun w => fold_spec (l.getD k 0) w
    (repeat' (first | (show VH _ _ _ _ _ _ _; first | refine v_seq ?_ | refine r_seq ?_ | refine v_block ?_ | refine v_skip ?_ | refine v_cond_t rfl tbL ?_) | (show SH _ _ _ _ _ (_ :: _) _ _ _; first | (show SH _ _ _ _ _ (⟨_, .move _, _, _, _, _⟩ :: _) _ _ _; refine mov evL ?_) | (show SH _ _ _ _ _ (⟨_, .assign _, _, _, _, _⟩ :: _) _ _ _; refine asg evL ?_) | (show SH _ _ _ _ _ (⟨_, .binOp .lss _ _ _ _, _, _, _, _⟩ :: _) _ _ _; refine lssT rfl rfl omD ?_) | (show SH _ _ _ _ _ (⟨_, .load _ _, _, _, _, _⟩ :: _) _ _ _; refine lr1 rfl (fun _ _ => rdS) (by rfl) omL (by rfl) ?_) | (show SH _ _ _ _ _ (⟨_, .indexAddr _ _ _, _, _, _, _⟩ :: _) _ _ _; refine ix rfl rfl (by with_reducible rfl) (fun _ _ => rdS) (by rfl) omL omL ?_) | (show SH _ _ _ _ _ (⟨_, .call ⟨.value (.func 86), _, _⟩, _, _, _, _⟩ :: _) _ _ _; refine cl (callee := .func 86) rfl (fun w hw => hf w) rfl rfl ?_)) | refine s_nil ?_ | refine kh_normal ?_))
    refine stb8 (i := k) (foldU (l.getD k 0)) rfl rfl rfl spL (by omega) trivial ?_
    (repeat' (first | refine r_seq ?_ | (show SH _ _ _ _ _ (_ :: _) _ _ _; first | (show SH _ _ _ _ _ (⟨_, .move _, _, _, _, _⟩ :: _) _ _ _; refine mov evL ?_) | (show SH _ _ _ _ _ (⟨_, .binOp .add _ _ _ _, _, _, _, _⟩ :: _) _ _ _; refine add rfl rfl inL ?_)) | refine s_nil ?_ | refine kh_normal ?_ | refine bh_normal ?_))
    rw [h1] 
    rw [h2]
    exact ⟨agL, k + 1, hsL, enL, hkl, by omega⟩
  · obtain rfl : k = s.length := by omega
    rw [foldK_all]
    (repeat' (first | (show VH _ _ _ _ _ _ _; first | refine v_seq ?_ | refine r_seq ?_ | refine v_ret ?_ | refine v_exit ?_ | refine v_cond_f rfl tbL ?_) | (show SH _ _ _ _ _ (_ :: _) _ _ _; first | (show SH _ _ _ _ _ (⟨_, .move _, _, _, _, _⟩ :: _) _ _ _; refine mov evL ?_) | (show SH _ _ _ _ _ (⟨_, .assign _, _, _, _, _⟩ :: _) _ _ _; refine asg evL ?_) | (show SH _ _ _ _ _ (⟨_, .binOp .lss _ _ _ _, _, _, _, _⟩ :: _) _ _ _; refine lssF rfl rfl omD ?_) | (show SH _ _ _ _ _ (⟨_, .convert _ _ _, _, _, _, _⟩ :: _) _ _ _; refine b2s rfl (fun _ _ => rdS) (by first | rfl | omega | simp) ?_)) | refine s_nil ?_ | refine kh_normal ?_ | refine kh_exit ?_ | refine bh_exit ?_))
    exact rh1 rfl rfl ⟨rfl, rfl⟩ (ent_nil _)
end Go.Proofs.Ytplhnnlklnbahaa

/- Layer 37 (chat): messages are compared; short lists of words. -/
namespace Go.Proofs.Ytplhnnlklnbahaa
open Go.Fw Go.RowKit
instance : TCmp Try.prog 36 Msg := ⟨by kernel_rfl, fun x y w => by
  rw [show (10000 : Nat) = 9999 + 1 from rfl, run_equalIn_agg w 9999 _ _ _ (by kernel_rfl) (by kernel_rfl)]
  have ha : ∀ w, (isAgg 3).run Try.prog w = .ok false w := fun w => by kernel_rfl
  have hs : ∀ w, (isAgg 9).run Try.prog w = .ok false w := fun w => by kernel_rfl
  simp only [Program.fieldsOf, Try.underlying36, Op.eqFields, part, ha, Sem.run_bind, Result.andThen_ok]
  obtain ⟨a0, a1, a2, a3⟩ := x
  obtain ⟨b0, b1, b2, b3⟩ := y
  by_cases h0 : a0 = b0
  case neg => simp [Flat.enc, ha, run_equalIn_int w 9998 _ .i64 .i64 _ _ Try.underlying3, h0]
  by_cases h1 : a1 = b1
  case neg => simp [Flat.enc, ha, run_equalIn_int w 9998 _ .i64 .i64 _ _ Try.underlying3, h0, h1]
  by_cases h2 : a2 = b2
  case neg => simp [Flat.enc, ha, run_equalIn_int w 9998 _ .i64 .i64 _ _ Try.underlying3, h0, h1, h2]
  have he := @bs_eq a3 b3
  by_cases h3 : a3 = b3
  case neg => simp [Flat.enc, ha, hs, run_equalIn_int w 9998 _ .i64 .i64 _ _ Try.underlying3, run_equalIn_string w 9998 _ _ _ Try.underlying9, h0, h1, h2, he, h3]
  simp [Flat.enc, ha, hs, run_equalIn_int w 9998 _ .i64 .i64 _ _ Try.underlying3, run_equalIn_string w 9998 _ _ _ Try.underlying9, h0, h1, h2, he, h3]⟩
/-- A list of words that is examined. -/
def ShortW (ws : List (List UInt8)) : Prop := ws.length ≤ 102 ∧ ∀ x ∈ ws, x.length ≤ 25
instance (ws : List (List UInt8)) : Decidable (ShortW ws) := inferInstanceAs (Decidable (_ ∧ _))
end Go.Proofs.Ytplhnnlklnbahaa

/- Layer 37 (chat): nodes in memory: rules. -/
namespace Go.Proofs.Ytplhnnlklnbahaa
open Go.Fw Go.RowKit
theorem nodE_next (x : Nod) {b : Nat} (hb : b < 256) : (nodE x)[b]? = some (.int .i32 (x.next.getD b 0 : Nat)) := by
  unfold nodE
  rw [List.getElem?_append_left (by rw [List.length_map, List.length_range]; exact hb), List.getElem?_map, List.getElem?_range hb]
  rfl
theorem nodE_num (x : Nod) (j : Nat) : (nodE x)[256 + j]? = ([.int .i32 (x.fail : Nat), .int .i32 (x.word : Nat), .int .i32 (x.size : Nat), .int .i32 (x.stop : Nat)] : List Value)[j]? := by
  unfold nodE
  rw [List.getElem?_append_right (by rw [List.length_map, List.length_range]; omega), List.length_map, List.length_range, Nat.add_sub_cancel_left]
/-- Two nodes whose cells agree at each place. -/
theorem nodE_ext {x y : List Value} (hx : x.length = 260) (hy : y.length = 260) (h1 : ∀ b, b < 256 → x[b]? = y[b]?) (h2 : ∀ j, j < 4 → x[256 + j]? = y[256 + j]?) : x = y := by
  refine List.ext_getElem? fun i => ?_
  rcases Nat.lt_or_ge i 256 with h | h
  · exact h1 i h
  · rcases Nat.lt_or_ge i 260 with h3 | h3
    · have := h2 (i - 256) (by omega)
      rwa [show 256 + (i - 256) = i by omega] at this
    · rw [List.getElem?_eq_none (by omega), List.getElem?_eq_none (by omega)]
theorem nodE_setN (x : Nod) {b v : Nat} (hb : b < 256) (hl : x.next.length = 256) : nodE { x with next := x.next.set b v } = (nodE x).set b (.int .i32 (v : Nat)) := by
  refine nodE_ext (nodE_len _) (by rw [List.length_set]; exact nodE_len _) (fun c hc => ?_) (fun j hj => ?_)
  · rw [nodE_next _ hc]
    by_cases e : c = b
    · subst e
      rw [List.getElem?_set_self (by rw [nodE_len]; omega)]
      simp only
      rw [List.getD_eq_getElem?_getD, List.getElem?_set_self (by rw [hl]; exact hc)]; rfl
    · rw [List.getElem?_set_ne (fun h => e h.symm), nodE_next _ hc]
      simp only
      rw [List.getD_eq_getElem?_getD, List.getElem?_set_ne (fun h => e h.symm), ← List.getD_eq_getElem?_getD]
  · rw [nodE_num, List.getElem?_set_ne (by omega), nodE_num]
theorem nodE_setF (x y : Nod) (j : Nat) (v : Value) (hj : j < 4) (hn : y.next = x.next) (hs : ([.int .i32 (y.fail : Nat), .int .i32 (y.word : Nat), .int .i32 (y.size : Nat), .int .i32 (y.stop : Nat)] : List Value) = ([.int .i32 (x.fail : Nat), .int .i32 (x.word : Nat), .int .i32 (x.size : Nat), .int .i32 (x.stop : Nat)] : List Value).set j v) : nodE y = (nodE x).set (256 + j) v := by
  refine nodE_ext (nodE_len _) (by rw [List.length_set]; exact nodE_len _) (fun c hc => ?_) (fun i hi => ?_)
  · rw [nodE_next _ hc, List.getElem?_set_ne (by omega), nodE_next _ hc, hn]
  · rw [nodE_num, hs]
    by_cases e : i = j
    · subst e
      rw [List.getElem?_set_self (by simpa using hi), List.getElem?_set_self (by rw [nodE_len]; omega)]
    · rw [List.getElem?_set_ne (by omega), List.getElem?_set_ne (by omega), nodE_num]
class TPtr (P : Program) (t : TypeId) : Prop where
  und : P.underlying t = some (.pointer (P.pointee t))
instance : TPtr Try.prog 46 := ⟨by kernel_rfl⟩
section
variable {md : Md} {P : Program} {n : Nat} {Q : HQ} {f : Fr} {w0 : World} {H R : List HP} {ops : Array Oper} {rest : List Oper} {d : Nat} {op : Op} {ty : TypeId} {pos : String} {aft : Array Edge} {v : Value} {x y c : Operand}
/-- A pointer is compared with nil. -/
theorem peq {t1 t2 : TypeId} {p : Option Addr} [h : TPtr P t1] (hx : ev n f x = .pointer p) (hy : ev n f y = .pointer none) (k : SH (nx md) P n ops Q rest (upd f d (.bool p.isNone)) w0 H) : SH md P n ops Q (⟨some d, .binOp .eql t1 x y t2, ty, pos, aft, none⟩ :: rest) f w0 H := s_val (fun w hw => by
  intro d pos aft g
  simp [execOp, hx, hy, eqGuard, run_eql_pointer_nil w t1 p h.und]) k
/-- A next node is read. -/
theorem ldn {t : TypeId} {z : Value} {A : Option Addr} {N : List Nod} {k b : Nat} [TOne P t z] (hx : ev n f x = .pointer (some ((((adr A).add (k * 260)).add 0).add (b * 1)))) (hr : ∀ w, Wd w0 (vis md H) w → Rd w A N) (hk : k < N.length) (hb : b < 256) (kk : SH (nx md) P n ops Q rest (upd f d (.int .i32 (nxt N k b : Nat))) w0 H) : SH md P n ops Q (⟨some d, .load t x, ty, pos, aft, none⟩ :: rest) f w0 H := s_val (fun w hw => ox_load hx (by
  have h1 : (Flat.enc (N.getD k Flat.dflt))[b]? = some (.int .i32 (nxt N k b : Nat)) := nodE_next (nodA N k) hb
  have h2 := (hr w hw (k * Flat.sz Nod + b) _ (encs_get hk h1)).2
  rwa [show (((adr A).add (k * 260)).add 0).add (b * 1) = (adr A).add (k * Flat.sz Nod + b) by rw [add_add, add_add, Nat.zero_add, Nat.mul_one]; rfl])) kk
/-- A next node is stored. -/
theorem stn {t e : TypeId} {z : Value} {A : Option Addr} {cp k b u : Nat} {N : List Nod} [TOne P t z] (hm : addOK md = true) (hx : ev n f x = .pointer (some ((((adr A).add (k * 260)).add 0).add (b * 1)))) (hy : ev n f y = .int .i32 (u : Nat)) (hs : Split H (orow e A cp N) R) (hk : k < N.length) (hb : b < 256) (hl : (nodA N k).next.length = 256)
    (hkp : keeps md (orow e A cp (N.set k { nodA N k with next := (nodA N k).next.set b u }) :: R)) (kk : SH (nx md) P n ops Q rest f w0 (orow e A cp (N.set k { nodA N k with next := (nodA N k).next.set b u }) :: R)) : SH md P n ops Q (⟨none, .store t x y, ty, pos, aft, none⟩ :: rest) f w0 H :=
  stf (sz := 260) (off := b) { nodA N k with next := (nodA N k).next.set b u } hm (hx.trans (by rw [add_add, Nat.zero_add, Nat.mul_one])) hy hs rfl hk rfl rfl (by omega) (nodE_setN (nodA N k) hb hl) hkp kk
/-- A number of a node is stored. -/
theorem stm {t e : TypeId} {z : Value} {A : Option Addr} {cp k : Nat} {N : List Nod} (j : Nat) (X : Nod) [TOne P t z] (hm : addOK md = true) (hx : ev n f x = .pointer (some (((adr A).add (k * 260)).add (256 + j)))) (hy : ev n f y = v) (hs : Split H (orow e A cp N) R) (hk : k < N.length) (hj : j < 4) (hv : v.cells = #[v]) (hone : v.oneCell' = true) (hn : X.next = (nodA N k).next)
    (hX : ([.int .i32 (X.fail : Nat), .int .i32 (X.word : Nat), .int .i32 (X.size : Nat), .int .i32 (X.stop : Nat)] : List Value) = ([.int .i32 ((nodA N k).fail : Nat), .int .i32 ((nodA N k).word : Nat), .int .i32 ((nodA N k).size : Nat), .int .i32 ((nodA N k).stop : Nat)] : List Value).set j v)
    (hkp : keeps md (orow e A cp (N.set k X) :: R)) (kk : SH (nx md) P n ops Q rest f w0 (orow e A cp (N.set k X) :: R)) : SH md P n ops Q (⟨none, .store t x y, ty, pos, aft, none⟩ :: rest) f w0 H :=
  stf (sz := 260) (off := 256 + j) X hm hx hy hs rfl hk hv hone (by omega) (nodE_setF (nodA N k) X j v hj hn hX) hkp kk
end
end Go.Proofs.Ytplhnnlklnbahaa

/- Layer 37 (chat): what matches yields, byte by byte. Plain Lean. -/
namespace Go.Proofs.Ytplhnnlklnbahaa
open Go.Fw Go.RowKit
/-- Bytes as numbers. -/
def n8 (s : List UInt8) : List Nat := s.map UInt8.toNat
theorem n8_lt (s : List UInt8) : ∀ b ∈ n8 s, b < 256 := fun b hb => by
  obtain ⟨c, _, rfl⟩ := List.mem_map.1 hb
  exact c.toNat_lt
theorem n8_len (s : List UInt8) : (n8 s).length = s.length := List.length_map ..
theorem n8_at (s : List UInt8) {i : Nat} (hi : i < s.length) : (n8 s).getD i 0 = (s.getD i 0).toNat := by
  unfold n8
  rw [List.getD_eq_getElem?_getD, List.getElem?_map, List.getD_eq_getElem?_getD, List.getElem?_eq_getElem hi]; rfl
theorem n8_fold (s : List UInt8) : n8 (s.map foldU) = foldW (n8 s) := by
  unfold n8 foldW
  rw [List.map_map, List.map_map]
  exact List.map_congr_left fun b _ => foldU_nat b
theorem n8_inj : ∀ {s t : List UInt8}, n8 s = n8 t → s = t
  | [], [], _ => rfl
  | [], _ :: _, h => by cases h
  | _ :: _, [], h => by cases h
  | a :: s, b :: t, h => by
    injection h with h1 h2
    rw [UInt8.toNat_inj.1 h1, n8_inj h2]
/-- A filter's nodes, for words that are folded. -/
structure FilV (N : List Nod) (V : List (List Nat)) : Prop where
  few : V.length ≤ 100
  len : ∀ v ∈ V, v.length ≤ 20
  auto : ∃ P, Auto N P V
def chA (N : List Nod) (k : Nat) : List (Nat × Nat) := chainM ((nodA N k).size + 1) N k
section
variable {N : List Nod} {V : List (List Nat)}
theorem FilV.pos (h : FilV N V) : 0 < N.length := by
  obtain ⟨P, A⟩ := h.auto
  rw [← A.len]; exact A.root.2
theorem FilV.step (h : FilV N V) {k : Nat} (hk : k < N.length) (h0 : k ≠ 0) : (nodA N k).stop < N.length ∧ (nodA N (nodA N k).stop).size < (nodA N k).size ∧ chA N k = (if 0 < (nodA N k).word then [((nodA N k).size, (nodA N k).word - 1)] else []) ++ chA N (nodA N k).stop := by
  obtain ⟨P, A⟩ := h.auto
  have hkP : k < P.length := by rw [A.len]; exact hk
  have hne : P.getD k [] ≠ [] := fun e => h0 (getD_inj A.nd hkP A.root.2 (by rw [e, A.root.1]))
  obtain ⟨h1, h2⟩ := A.stop_at hk
  have hlt : (nextE V P (P.getD k [])).length < (P.getD k []).length := by
    have h3 := (endW_suf V (P.getD k []).tail).length_le
    rw [List.length_tail] at h3
    have : 0 < (P.getD k []).length := List.length_pos_iff.2 hne
    unfold nextE
    omega
  refine ⟨h1, by rw [A.size _ h1, h2, A.size _ hk]; exact hlt, ?_⟩
  unfold chA
  rw [chainM, if_neg h0]
  congr 1
  rw [chain_spec A _ _ h1 (by rw [h2, A.size _ hk]; exact hlt), chain_spec A _ _ h1 (by rw [A.size _ h1]; omega)]
theorem FilV.num (h : FilV N V) {k : Nat} (hk : k < N.length) : (nodA N k).word ≤ 100 ∧ (0 < (nodA N k).word → (nodA N k).size ≤ 20) := by
  obtain ⟨P, A⟩ := h.auto
  rw [A.word k hk, A.size k hk]
  by_cases hv : P.getD k [] ∈ V
  · rw [if_pos hv]
    have := List.idxOf_lt_length_of_mem hv
    have h1 := h.few
    exact ⟨by omega, fun _ => h.len _ hv⟩
  · rw [if_neg hv]
    exact ⟨by omega, fun h => absurd h (Nat.lt_irrefl 0)⟩
theorem FilV.state (h : FilV N V) {t : List Nat} (hb : ∀ b ∈ t, b < 256) : stateM N t < N.length ∧ (nodA N (stateM N t)).size ≤ t.length := by
  obtain ⟨P, A⟩ := h.auto
  obtain ⟨h1, h2⟩ := state_spec A t hb
  refine ⟨h1, ?_⟩
  rw [A.size _ h1, h2]
  have := (lsuf_suf (P := P) (foldW t)).length_le
  rwa [foldW_len] at this
end
/-- What is yielded at a byte, from a node on. -/
def emK (N : List Nod) (i k : Nat) : List Mat := (chA N k).map fun x => ⟨((i + 1 : Nat) : Int) - x.1, x.1, x.2⟩
def stK (N : List Nod) (s : List UInt8) (i : Nat) : Nat := stateM N ((n8 s).take i)
def matK (N : List Nod) (s : List UInt8) (i : Nat) : List Mat := (List.range i).flatMap fun i => emK N i (stK N s (i + 1))
def matL (N : List Nod) (s : List UInt8) : List Mat := matK N s s.length
theorem matK_succ (N : List Nod) (s : List UInt8) (i : Nat) : matK N s (i + 1) = matK N s i ++ emK N i (stK N s (i + 1)) := by
  unfold matK
  rw [List.range_succ, List.flatMap_append, List.flatMap_singleton]
theorem matK_pre (N : List Nod) (s : List UInt8) {i j : Nat} (h : i ≤ j) : ∃ R, matK N s j = matK N s i ++ R := by
  obtain ⟨d, rfl⟩ := Nat.exists_eq_add_of_le h
  induction d with
  | zero => exact ⟨[], by rw [Nat.add_zero, List.append_nil]⟩
  | succ d ih =>
    obtain ⟨R, hR⟩ := ih (by omega)
    exact ⟨R ++ emK N (i + d) (stK N s (i + d + 1)), by rw [← Nat.add_assoc, matK_succ, hR, List.append_assoc]⟩
theorem stK_succ (N : List Nod) {s : List UInt8} {i : Nat} (hi : i < s.length) : stK N s (i + 1) = nxt N (stK N s i) (foldU (s.getD i 0)).toNat := by
  unfold stK
  have hl : i < (n8 s).length := by rw [n8_len]; exact hi
  rw [← List.take_append_getElem hl, stateM_snoc, foldU_nat, ← n8_at s hi, getD_at 0 hl]
theorem emK_zero (N : List Nod) (i : Nat) : emK N i 0 = [] := rfl
section
variable {N : List Nod} {V : List (List Nat)}
theorem FilV.at (h : FilV N V) (s : List UInt8) (i : Nat) : stK N s i < N.length ∧ (nodA N (stK N s i)).size ≤ i := by
  obtain ⟨h1, h2⟩ := h.state (t := (n8 s).take i) (fun b hb => n8_lt s b (List.mem_of_mem_take hb))
  rw [List.length_take] at h2
  exact ⟨h1, Nat.le_trans h2 (Nat.min_le_left _ _)⟩
theorem FilV.em (h : FilV N V) {i k : Nat} (hk : k < N.length) (h0 : k ≠ 0) : emK N i k = (if 0 < (nodA N k).word then [(⟨((i + 1 : Nat) : Int) - (nodA N k).size, (nodA N k).size, ((nodA N k).word - 1 : Nat)⟩ : Mat)] else []) ++ emK N i (nodA N k).stop := by
  unfold emK
  rw [(h.step hk h0).2.2, List.map_append]
  congr 1
  split <;> rfl
/-- An occurrence, as it is yielded. -/
def toMat (x : Nat × Nat × Nat) : Mat := ⟨x.1, x.2.1, x.2.2⟩
theorem FilV.mats (h : FilV N V) (s : List UInt8) : matL N s = (findS V (n8 s)).map toMat := by
  obtain ⟨P, A⟩ := h.auto
  rw [← findA_eq A (n8_lt s)]
  unfold matL matK findA
  rw [n8_len, List.flatMap_def, List.flatMap_def, List.map_flatten, List.map_map]
  congr 1
  refine List.map_congr_left fun i _ => ?_
  show emK N i (stK N s (i + 1)) = List.map toMat (List.map _ (chainM _ N _))
  unfold emK
  rw [List.map_map]
  refine List.map_congr_left fun x hx => ?_
  have h1 := (state_spec A ((n8 s).take (i + 1)) (fun b hb => n8_lt s b (List.mem_of_mem_take hb)))
  have hx' : x ∈ chainM ((nodA N (stateM N ((n8 s).take (i + 1)))).size + 1) N (stateM N ((n8 s).take (i + 1))) := hx
  rw [chain_spec A _ _ h1.1 (by rw [A.size _ h1.1]; omega)] at hx'
  obtain ⟨v, hv, rfl⟩ := List.mem_map.1 hx'
  have hle : v.length ≤ i + 1 := by
    have h2 := ((outs_mem _).1 hv).2.2.length_le
    rw [h1.2] at h2
    have h3 := (lsuf_suf (P := P) (foldW ((n8 s).take (i + 1)))).length_le
    rw [foldW_len, List.length_take] at h3
    omega
  show (⟨((i + 1 : Nat) : Int) - v.length, v.length, V.idxOf v⟩ : Mat) = ⟨((i + 1 - v.length : Nat) : Int), _, _⟩
  congr 1
  show ((i + 1 : Nat) : Int) - (v.length : Int) = ((i + 1 - v.length : Nat) : Int)
  omega
/-- Where an occurrence lies. -/
theorem FilV.mat_in (h : FilV N V) {s : List UInt8} {m : Mat} (hm : m ∈ matL N s) : ∃ a l x : Nat, m = ⟨a, l, x⟩ ∧ a + l ≤ s.length ∧ l ≤ 20 ∧ x < V.length := by
  rw [h.mats s] at hm
  obtain ⟨⟨a, l, x⟩, hx, rfl⟩ := List.mem_map.1 hm
  obtain ⟨w, hw, _, rfl, rfl, h1, _⟩ := mem_findS.1 hx
  rw [n8_len] at h1
  exact ⟨a, w.length, V.idxOf w, rfl, h1, h.len w hw, List.idxOf_lt_length_of_mem hw⟩
end
/-- Asterisks in the place of l bytes. -/
def star8 (b : List UInt8) (a l : Nat) : List UInt8 := (List.range l).foldl (fun b i => b.set (a + i) 42) b
theorem star8_zero (b : List UInt8) (a : Nat) : star8 b a 0 = b := rfl
theorem star8_succ (b : List UInt8) (a l : Nat) : star8 b a (l + 1) = (star8 b a l).set (a + l) 42 := by
  unfold star8
  rw [List.range_succ, List.foldl_append]; rfl
theorem star8_len (b : List UInt8) (a l : Nat) : (star8 b a l).length = b.length := by
  induction l with
  | zero => rfl
  | succ l ih => rw [star8_succ, List.length_set, ih]
theorem n8_set (b : List UInt8) (i : Nat) (c : UInt8) : n8 (b.set i c) = (n8 b).set i c.toNat := List.map_set ..
theorem n8_star (b : List UInt8) (a l : Nat) : n8 (star8 b a l) = stars (n8 b) a l := by
  induction l with
  | zero => rfl
  | succ l ih => rw [star8_succ, stars_succ, n8_set, ih]; rfl
def mask8 (b : List UInt8) (ms : List Mat) : List UInt8 := ms.foldl (fun b m => star8 b m.at'.toNat m.len.toNat) b
theorem mask8_len (ms : List Mat) : ∀ b : List UInt8, (mask8 b ms).length = b.length := by
  induction ms with
  | nil => exact fun _ => rfl
  | cons m ms ih => exact fun b => (ih _).trans (star8_len _ _ _)
theorem mask8_snoc (b : List UInt8) (ms : List Mat) (m : Mat) : mask8 b (ms ++ [m]) = star8 (mask8 b ms) m.at'.toNat m.len.toNat := by
  unfold mask8
  rw [List.foldl_append]; rfl
theorem n8_mask (l : List (Nat × Nat × Nat)) : ∀ b : List UInt8, n8 (mask8 b (l.map toMat)) = starsL (n8 b) (l.map fun m => (m.1, m.2.1)) := by
  induction l with
  | nil => exact fun _ => rfl
  | cons m l ih =>
    intro b
    show n8 (mask8 (star8 b _ _) _) = starsL (stars (n8 b) m.1 m.2.1) _
    rw [ih, n8_star]
    rfl
/-- A text with asterisks in the place of words. -/
def maskB (N : List Nod) (s : List UInt8) : List UInt8 := mask8 s (matL N s)
theorem FilV.mask {N : List Nod} {V : List (List Nat)} (h : FilV N V) (s : List UInt8) : n8 (maskB N s) = maskS V (n8 s) := by
  unfold maskB maskS
  rw [h.mats, n8_mask]
theorem matL_nil (s : List UInt8) : matL [] s = [] := by
  have h0 : ∀ b, nxt [] 0 b = 0 := fun b => by
    show (List.replicate 256 0).getD b 0 = 0
    rw [List.getD_eq_getElem?_getD, List.getElem?_replicate]; split <;> rfl
  have h : ∀ t : List Nat, t.foldl (fun k b => nxt [] k (foldN b)) 0 = 0 := fun t => by
    induction t with
    | nil => rfl
    | cons b t ih => rw [List.foldl_cons, h0]; exact ih
  unfold matL matK
  rw [List.flatMap_eq_nil_iff]
  intro i _
  unfold stK stateM
  rw [h]; rfl
end Go.Proofs.Ytplhnnlklnbahaa

/- Layer 37 (chat): the queue of nodes: a slice that is cut at its front and appended to. -/
namespace Go.Proofs.Ytplhnnlklnbahaa
open Go.Fw Go.RowKit
instance : Flat Nat := ⟨1, fun k => [.int .i32 (k : Nat)], 0, fun _ => rfl, fun x v hv => by simp at hv; subst hv; rfl, by omega⟩
theorem encN_len (l : List Nat) : (encs l).length = l.length := by rw [encs_len]; exact Nat.mul_one _
/-- A slice of numbers that begins at o of its array. -/
def que (e : TypeId) (g o cp : Nat) (Q : List Nat) : HP := .oth fun p => ∃ cur : Array Value, p = pone g (.cells cur e (0, 0)) ∧ o + cp ≤ cur.size ∧ Q.length ≤ cp ∧ (cur.toList.drop o).take Q.length = encs Q
theorem ent_head {X Y : HP} {G : List HP} (h : ∀ p, den X p → den Y p) : Ent (X :: G) (Y :: G) := ⟨fun p ⟨p1, p2, hx, hs, hd, hp⟩ => ⟨p, ⟨p1, p2, h p1 hx, hs, hd, hp⟩, fun _ _ h => h⟩⟩
theorem ent_row_que {e : TypeId} {g cp : Nat} {l : List Nat} {G : List HP} : Ent (orow e (some ⟨g, 0, none⟩) cp l :: G) (que e g 0 cp l :: G) := ent_head fun p ⟨_, h⟩ => by
  rcases h with ⟨h, _⟩ | ⟨g', cur, hA, hp, h2, h3, h4, h5⟩
  · cases h
  · injection hA with hA
    injection hA with hA _ _
    subst hA
    have hsz : Flat.sz Nat = 1 := rfl
    rw [hsz, Nat.mul_one] at h4 h5
    exact ⟨cur, hp, by omega, h2, by rw [List.drop_zero]; exact h5⟩
theorem ent_que_tail {e : TypeId} {g o cp a : Nat} {Q : List Nat} {G : List HP} : Ent (que e g o cp (a :: Q) :: G) (que e g (if cp = 1 then o else o + 1) (cp - 1) Q :: G) := ent_head fun p ⟨cur, hp, h1, h2, h3⟩ => by
  rw [List.length_cons] at h2
  refine ⟨cur, hp, ?_, by omega, ?_⟩
  · split <;> omega
  · by_cases hc : cp = 1
    · have hQ : Q = [] := List.eq_nil_of_length_eq_zero (by omega)
      subst hQ; rfl
    · rw [if_neg hc]
      have h4 := congrArg (List.drop 1) h3
      rw [List.drop_take, List.drop_drop, List.length_cons, Nat.add_sub_cancel] at h4
      rw [h4]; rfl
section
variable {w0 w w1 : World} {H R : List HP} {e : TypeId} {g o cp : Nat} {Q : List Nat}
theorem Wd.que_open (h : Wd w0 H w) (hs : Split H (que e g o cp Q) R) : ∃ cur : Array Value, w.heap[g]? = some (.cells cur e (0, 0)) ∧ w0.heap.size ≤ g ∧ o + cp ≤ cur.size ∧ Q.length ≤ cp ∧ (cur.toList.drop o).take Q.length = encs Q := by
  obtain ⟨p, q, hx, _, _, hp, _⟩ := (hs.wd h).open_
  obtain ⟨cur, rfl, h1, h2, h3⟩ := hx
  have := hp g _ (pone_at _ _)
  exact ⟨cur, this.2, this.1, h1, h2, h3⟩
theorem Wd.rdq (h : Wd w0 H w) (hs : Split H (que e g o cp Q) R) : Rd w (some ⟨g, o, none⟩) Q := by
  obtain ⟨cur, hb, _, h1, h2, h3⟩ := Wd.que_open h hs
  intro j u hj
  refine ⟨rfl, ?_⟩
  show w.cell? ((⟨g, o, none⟩ : Addr).add j) = some u
  rw [Addr.add_lit]
  have hc : cur[o + j]? = some u := by
    rw [← h3, List.getElem?_take] at hj
    split at hj
    · rw [List.getElem?_drop] at hj; simpa using hj
    · cases hj
  simp [World.cell?, hb, hc]
end
section
variable {md : Md} {P : Program} {n : Nat} {Q' : HQ} {f : Fr} {w0 : World} {H R : List HP} {ops : Array Oper} {rest : List Oper} {d : Nat} {op : Op} {ty : TypeId} {pos : String} {aft : Array Edge} {v : Value} {x y c : Operand}
/-- A number is appended. -/
theorem qap {t e : TypeId} {by_ g o cp c2 u : Nat} {B : Option Addr} {Q : List Nat} [ht : TSl P t e 1 by_] [he : TEl P e 1 by_] (hm : addOK md = true) (hx : ev n f x = .slice (some ⟨g, o, none⟩) Q.length cp) (hy : ev n f y = .slice B 1 c2) (hs : Split H (que e g o cp Q) R) (hsrc : ∀ w, Wd w0 H w → Rd w B [u])
    (hbig : (Q.length + 1) * by_ ≤ 140737488355328) (h63 : Q.length + 1 ≤ 140737488355328)
    (k : ∀ g' o' cp', keeps md (que e g' o' cp' (Q ++ [u]) :: R) ∧ SH (nx md) P n ops Q' rest (upd f d (.slice (some ⟨g', o', none⟩) (Q ++ [u]).length cp')) w0 (que e g' o' cp' (Q ++ [u]) :: R)) :
    SH md P n ops Q' (⟨some d, .call { callee := .builtin .append, args := #[x, y], argTypes := #[t, t] }, ty, pos, aft, none⟩ :: rest) f w0 H := by
  refine s_mut hm fun w hw => ?_
  obtain ⟨cur, hb, hg0, hoc, hqc, hcur⟩ := Wd.que_open hw hs
  have hB : B = some (adr B) := (hsrc w hw 0 _ rfl).1
  have hnews : ∀ j v, ([.int .i32 (u : Nat)] : List Value)[j]? = some v → w.cell? ((adr B).add j) = some v := fun j v hv => (hsrc w hw j v hv).2
  rw [hB] at hy
  have hlu : (Q ++ [u]).length = Q.length + 1 := by rw [List.length_append]; rfl
  have heu : encs (Q ++ [u]) = encs Q ++ [.int .i32 (u : Nat)] := by rw [encs_append]; rfl
  by_cases hroom : Q.length < cp
  · have hsz : ∀ w, (sizeOf e).run P w = .ok 1 w := slice_size (P := P) (t := t)
    have hst := run_storeCells_at P g (o + Q.length) e [Value.int .i32 (u : Nat)] 0 cur w hb (by simp only [List.length_singleton]; omega) (fun v hv => by simp at hv; subst hv; rfl)
    have hload : (Builtin.firstCells 1 1 (.slice (some (adr B)) 1 c2)).run P w = .ok [Value.int .i32 (u : Nat)].toArray w := run_firstCells_some w 1 1 (adr B) 1 c2 [Value.int .i32 (u : Nat)] rfl hnews
    have hcl : cur.toList.length = cur.size := Array.length_toList
    refine wl_val (v := .slice (some ⟨g, o, none⟩) (Q.length + 1) cp) (w' := w.setRow g (cur.toList.take (o + Q.length) ++ [Value.int .i32 (u : Nat)] ++ cur.toList.drop (o + Q.length + 1)).toArray) ?_ (wl_nil ⟨rfl, _, (k g o cp).1, by have := (k g o cp).2; rw [hlu] at this; exact this, ?_⟩)
    · intro d pos aft gg
      simp only [Nat.add_zero, List.length_singleton] at hst
      simp [execOp, resolve, invoke, builtin, Builtin.append_, hx, hy, run_underlying ht.und, hsz, Builtin.lenOf, show Q.length + 1 ≤ cp by omega, hload, Addr.add_lit]
      simp at hst
      rw [hst]
      simp
    · refine (hs.wd hw).change fun p hx hin => ?_
      obtain ⟨cur', rfl, _, _, _⟩ := hx
      refine ⟨some g, pone g (.cells (cur.toList.take (o + Q.length) ++ [Value.int .i32 (u : Nat)] ++ cur.toList.drop (o + Q.length + 1)).toArray e (0, 0)), (Wrt.mk' w g _).grown, fun k hk => ?_, ⟨_, rfl, ?_, by rw [hlu]; omega, ?_⟩, fun k o hk => ?_⟩
      · injection hk with hk; subst hk; rw [pone_at]; simp
      · simp only [List.size_toArray, List.length_append, List.length_take, List.length_drop, List.length_singleton]; omega
      · rw [heu, hlu]
        show ((cur.toList.take (o + Q.length) ++ [Value.int .i32 (u : Nat)] ++ cur.toList.drop (o + Q.length + 1)).drop o).take (Q.length + 1) = _
        rw [List.append_assoc, List.drop_append_of_le_length (by rw [List.length_take]; omega), List.drop_take, Nat.add_sub_cancel_left, hcur, List.take_append, encN_len, List.take_of_length_le (by rw [encN_len]; omega), Nat.add_sub_cancel_left]
        rfl
      · have := pone_ne (k := k) (by rw [hk]; simp)
        subst this
        rw [pone_at] at hk
        injection hk with hk
        subst hk
        exact ⟨setRow_heap w k cur _ e _ hb, .inl (by rw [pone_at]; simp)⟩
  · have hcq : cp = Q.length := by omega
    subst hcq
    obtain ⟨i, z, hi, hisz, hiby, hz, hzs⟩ := he.inf
    have hrd := Wd.rdq hw hs
    have hm63 : Q.length + 1 ≤ maxLen := by simp only [maxLen]; omega
    have hr := run_append_grow (P := P) w t ty e i z ht.und hi hz ⟨g, o, none⟩ Q.length Q.length (encs Q) (by rw [encN_len, hisz, Nat.mul_one]) (fun j v hj => (hrd j v hj).2) (adr B) 1 c2 [Value.int .i32 (u : Nat)] (by rw [hisz]; rfl) hnews (by omega) (by omega) (growslice_fits (by omega) (by rw [hiby]; exact hbig))
    have hge := grownCap_ge w (Q.length + 1) Q.length e
    have hext : ∀ (o : Obj), Ext w (w.drew.alloc o) := fun o => Ext.grown0 ⟨rfl, rfl, rfl, by simp [World.alloc, World.drew, -World.alloc_eq, -World.drew_eq], fun k hk _ => Below.heap_alloc w.drew _ k hk⟩
    refine wl_val (v := .slice (some ⟨w.heap.size, 0, none⟩) (Q.length + 1) (grownCap w (Q.length + 1) Q.length e)) (w' := w.drew.alloc (.cells ((encs Q).toArray ++ [Value.int .i32 (u : Nat)].toArray ++ Builtin.zeroCells z.cells (grownCap w (Q.length + 1) Q.length e - (Q.length + 1))) e)) ?_ (wl_nil ⟨rfl, _, (k w.heap.size 0 (grownCap w (Q.length + 1) Q.length e)).1, by have := (k w.heap.size 0 (grownCap w (Q.length + 1) Q.length e)).2; rw [hlu] at this; exact this, ?_⟩)
    · intro d pos aft g
      simp [execOp, resolve, invoke, builtin, hx, hy, hr]
    · have ho : Go.Fw.Own (w.drew.alloc (.cells ((encs Q).toArray ++ [Value.int .i32 (u : Nat)].toArray ++ Builtin.zeroCells z.cells (grownCap w (Q.length + 1) Q.length e - (Q.length + 1))) e)) w.heap.size e (Flat.sz Nat) (some ⟨w.heap.size, 0, none⟩) (Q ++ [u]).length (grownCap w (Q.length + 1) Q.length e) (encs (Q ++ [u])) := by
        refine ⟨encs_len _, .inr ⟨w.heap.size, _, _, rfl, Nat.le_refl _, heap_alloc_new w.drew _, by rw [hlu]; exact hge, grownCap_le_maxLen w _ Q.length e (by simp only [maxLen]; omega), ?_, ?_⟩⟩
        · have hsz1 : Flat.sz Nat = 1 := rfl
          simp only [Array.size_append, List.size_toArray, size_zeroCells, hzs, encN_len, List.length_singleton, hsz1]
          omega
        · rw [heu, hlu]
          simp only [Array.toList_append, List.append_assoc]
          rw [← List.append_assoc, show (Q.length + 1) * Flat.sz Nat = (encs Q ++ [Value.int .i32 (u : Nat)]).length by rw [List.length_append, encN_len]; exact Nat.mul_one _]
          exact List.take_left
      exact Ent.wd (ent_row_que.trans (ent_cons Split.head (ent_drop (ent_refl _)))) ((hs.wd hw).newRow (hext _) ho)
end
end Go.Proofs.Ytplhnnlklnbahaa

/- Layer 37 (chat): link. -/
namespace Go.Proofs.Ytplhnnlklnbahaa
open Go.Fw Go.RowKit
theorem linkA_succ (a : Nat) (s : List Nod × List Nat) (j : Nat) : linkA a s (j + 1) = linkB a (linkA a s j) j := by
  unfold linkA
  rw [List.range_succ, List.foldl_append]; rfl
theorem linkQ_nil : ∀ (n : Nat) (N : List Nod), linkQ n N [] = N
  | 0, _ => rfl
  | _ + 1, _ => rfl
section
variable {N N1 : List Nod} {P V : List (List Nat)} {D Q C : List Nat} {a j : Nat}
theorem Link.nxt_lt (L : Link N P V D Q) {k b : Nat} (hk : k < N.length) (hb : b < 256) : nxt N k b < N.length := by
  have h0 : 0 < N.length := by rw [← L.len]; exact L.root.2
  by_cases hd : k ∈ D
  · rw [L.done k hd b hb, ← L.len]
    exact List.idxOf_lt_length_of_mem (stepP_mem L.cl _ _)
  · rw [L.todo k hk hd b hb]
    split
    · rename_i h
      rw [← L.len]
      exact List.idxOf_lt_length_of_mem h
    · exact h0
theorem Half.nxt_lt (L : Link N P V D (a :: Q)) (h : Half N N1 P V a j C) {k b : Nat} (hk : k < N1.length) (hb : b < 256) : nxt N1 k b < N1.length := by
  rw [h.len] at hk ⊢
  by_cases e : k = a
  · subst e
    rw [h.own b hb]
    split
    · rw [← L.len]
      exact List.idxOf_lt_length_of_mem (stepP_mem L.cl _ _)
    · exact L.nxt_lt hk hb
  · rw [h.oth k e]
    exact L.nxt_lt hk hb
theorem failP_in (h : Closed P) (p : List Nat) : failP P p ∈ P := by
  unfold failP
  exact lsuf_mem h.nil _
theorem Half.fail_lt (L : Link N P V D (a :: Q)) (h : Half N N1 P V a j C) : (nodA N1 a).fail < N1.length := by
  have hC : a ∉ C := fun hc => by
    obtain ⟨_, b, _, hb⟩ := h.kid a hc
    have := congrArg List.length hb
    rw [List.length_append, List.length_singleton] at this
    omega
  rw [(h.old a hC).1, (L.back a (by simp)).1, h.len, ← L.len]
  exact List.idxOf_lt_length_of_mem (failP_in L.cl _)
theorem Half.few (L : Link N P V D (a :: Q)) (h : Half N N1 P V a j C) : (Q ++ C).length ≤ 2 * N.length := by
  have h1 := nodup_lt N.length (D ++ a :: Q) L.dq L.lt
  have h2 := nodup_lt N.length C h.nod (fun x hx => by have := (h.kid x hx).1; rwa [h.len] at this)
  simp only [List.length_append, List.length_cons] at h1 ⊢
  omega
end
theorem que_off (g o cp : Nat) : (if cp = Int.toNat 1 then (some ⟨g, o, none⟩ : Option Addr) else Option.map (fun x : Addr => x.add (Int.toNat 1 * 1)) (some ⟨g, o, none⟩)) = some ⟨g, if cp = 1 then o else o + 1, none⟩ := by
  show (if cp = 1 then (some ⟨g, o, none⟩ : Option Addr) else some ((⟨g, o, none⟩ : Addr).add (1 * 1))) = _
  rw [Addr.add_lit]
  split <;> rfl
section
variable {md : Md} {P : Program} {n : Nat} {Q' : HQ} {f : Fr} {w0 : World} {H : List HP} {ops : Array Oper} {rest : List Oper} {d : Nat} {ty : TypeId} {pos : String} {aft : Array Edge} {x y : Operand}
/-- A queue without its first one. -/
theorem slq {t e : TypeId} {by_ g o m cp : Nat} {K : IntKind} [TSl P t e 1 by_] (hx : ev n f x = .slice (some ⟨g, o, none⟩) m cp) (hy : ev n f y = .int K 1) (h1 : 1 ≤ m)
    (k : SH (nx md) P n ops Q' rest (upd f d (.slice (some ⟨g, if cp = 1 then o else o + 1, none⟩) (m - 1) (cp - 1))) w0 H) : SH md P n ops Q' (⟨some d, .slice t x (some y) none none, ty, pos, aft, none⟩ :: rest) f w0 H :=
  sll hx hy (by omega) (by omega) (by rw [que_off]; exact k)
end
set_option maxHeartbeats 4000000 in
set_option maxRecDepth 100000 in
theorem link_spec (b : Nat) (A : Option Addr) (c : Nat) (N : List Nod) (P V : List (List Nat)) (w0 : World) (H : List HP) (w : World) (T : Trie N P V) (hN : N.length ≤ 1000000) (hw : Wd w0 (bx b 61 [.slice A N.length c] :: orow 98 A c N :: H) w) :
    Ret Try.prog 58 [.pointer (some ⟨b, 0, none⟩)].toArray w (RP w0 fun _ H' => H' = bx b 61 [.slice A N.length c] :: orow 98 A c (linkQ N.length N [0]) :: H) := by
  have hL0 := T.link
  obtain ⟨Z, hZ⟩ : ∃ Z, linkQ N.length N [0] = Z := ⟨_, rfl⟩
  rw [hZ]
  clear T
  refine enterH Try.func58 rfl rfl Try.ntmps58 rfl (by assumption) ?_
  (repeat' ((show VH _ _ _ _ _ _ _; first | refine v_seq ?_ | refine r_seq ?_)))
  refine bsl (l := [(0 : Nat)]) rfl rfl (Vals.cons rfl Vals.nil) rfl rfl (by decide) (fun bq => ?_)
  (repeat' (first | refine v_block ?_ | (show SH _ _ _ _ _ (_ :: _) _ _ _; (show SH _ _ _ _ _ (⟨_, .assign _, _, _, _, _⟩ :: _) _ _ _; refine asg evL ?_)) | refine s_nil ?_ | refine kh_normal ?_))
  refine v_norm [(0,_),(2,_)] heL (fun g => ?_)
  refine VH.ent (G := bx b 61 [.slice A N.length c] :: orow 98 A c N :: que 21 bq 0 1 [0] :: H) ?_ (ent_row_que.trans enL)
  refine v_loop [(2,8),(10,94)] (fun y : (Nat × List Nat) × (Nat × Nat × Nat) × List Nod × List Nat => [(2, .slice (some ⟨y.2.1.1, y.2.1.2.1, none⟩) y.2.2.2.length y.2.1.2.2)]) (fun y => bx b 61 [.slice A N.length c] :: orow 98 A c y.2.2.1 :: que 21 y.2.1.1 y.2.1.2.1 y.2.1.2.2 y.2.2.2 :: H)
    (fun y => Link y.2.2.1 P V y.1.2 y.2.2.2 ∧ y.2.2.1.length = N.length ∧ N.length ≤ y.1.2.length + y.1.1 ∧ linkQ y.1.1 y.2.2.1 y.2.2.2 = Z) (fun y => y.1.1) ((N.length, []), (bq, 0, 1), N, [0]) hsL (ent_refl _) ⟨hL0, rfl, by simp, hZ⟩ ?_
  rintro ⟨⟨n, D⟩, ⟨g', o, q'⟩, N', Q⟩ g ⟨hL, hl, hn, hq⟩
  simp only [sets]
  simp only at hL hl hn hq
  cases Q with
  | nil =>
    rw [linkQ_nil] at hq
    rw [← hq]
    (repeat' (first | (show VH _ _ _ _ _ _ _; first | refine v_seq ?_ | refine r_seq ?_ | refine v_exit ?_ | refine v_cond_f rfl tbL ?_) | (show SH _ _ _ _ _ (_ :: _) _ _ _; first | (show SH _ _ _ _ _ (⟨_, .move _, _, _, _, _⟩ :: _) _ _ _; refine mov evL ?_) | refine gtr rfl rfl ?_ | refine slen rfl ?_) | refine s_nil ?_ | refine kh_normal ?_ | refine kh_exit ?_ | refine bh_exit ?_))
    exact rh0n rfl rfl enL
  | cons a Q =>
    have hal : a < N'.length := hL.lt a (by simp)
    have hfew : D.length + (Q.length + 1) ≤ N'.length := by
      have := nodup_lt N'.length _ hL.dq hL.lt
      rwa [List.length_append, List.length_cons] at this
    obtain ⟨n, rfl⟩ : ∃ m, n = m + 1 := ⟨n - 1, by omega⟩
    have hq' : linkQ n (linkA a (N', Q) 256).1 (linkA a (N', Q) 256).2 = Z := hq
    obtain ⟨R, hR⟩ : ∃ R, a :: Q = R := ⟨_, rfl⟩
    have hRl : R.length = Q.length + 1 := by rw [← hR]; rfl
    have hR0 : R.getD 0 0 = a := by rw [← hR]; rfl
    rw [hR]
    (repeat' (first | (show VH _ _ _ _ _ _ _; first | refine v_seq ?_ | refine r_seq ?_ | refine v_block ?_ | refine v_skip ?_ | refine v_cond_t rfl tbL ?_) | (show SH _ _ _ _ _ (_ :: _) _ _ _; first | (show SH _ _ _ _ _ (⟨_, .move _, _, _, _, _⟩ :: _) _ _ _; refine mov evL ?_) | (show SH _ _ _ _ _ (⟨_, .binOp .gtr _ _ _ _, _, _, _, _⟩ :: _) _ _ _; refine gtrT rfl rfl omD ?_) | refine slen rfl ?_) | refine s_nil ?_ | refine kh_normal ?_))
    refine ixq (i := 0) rfl rfl rfl (by omega) (by omega) ?_
    refine lr1 (l := R) (i := 0) (v := .int .i32 (a : Nat)) rfl (fun w hw => Wd.rdq hw spL) rfl (by omega) (by show [Value.int .i32 ((R.getD 0 0 : Nat) : Int)] = _; rw [hR0]) ?_
    (repeat' ((fail_if_success (show VH _ _ (.seq (.region 3 _ _) _) _ _ _ _)); first | (show SH _ _ _ _ _ (_ :: _) _ _ _; (show SH _ _ _ _ _ (⟨_, .assign _, _, _, _, _⟩ :: _) _ _ _; refine asg evL ?_)) | refine s_nil ?_ | refine kh_normal ?_))
    refine v_seq ?_
    refine r_seq ?_
    refine mov rfl ?_
    refine slq rfl rfl (by omega) ?_
    (repeat' (first | (show VH _ _ _ _ _ _ _; first | refine v_seq ?_ | refine r_seq ?_ | refine v_block ?_) | (show SH _ _ _ _ _ (_ :: _) _ _ _; first | (show SH _ _ _ _ _ (⟨_, .move _, _, _, _, _⟩ :: _) _ _ _; refine mov evL ?_) | (show SH _ _ _ _ _ (⟨_, .assign _, _, _, _, _⟩ :: _) _ _ _; refine asg evL ?_) | (show SH _ _ _ _ _ (⟨_, .load _ _, _, _, _, _⟩ :: _) _ _ _; refine lbx rfl spL (by rfl) ?_) | (show SH _ _ _ _ _ (⟨_, .indexAddr _ _ _, _, _, _, _⟩ :: _) _ _ _; refine ix rfl rfl (by with_reducible rfl) (fun _ _ => rdS) (by rfl) omL omL ?_) | refine nlc rfl ?_ | refine fad rfl ?_) | refine s_nil ?_ | refine kh_normal ?_))
    have hR1 : R.length - 1 = Q.length := by omega
    rw [hR1, ← hR]
    refine VH.ent (G := bx b 61 [.slice A N.length c] :: orow 98 A c N' :: que 21 g' (if q' = 1 then o else o + 1) (q' - 1) Q :: H) ?_ (Ent.trans (B := que 21 g' o q' (a :: Q) :: bx b 61 [.slice A N.length c] :: orow 98 A c N' :: H) enL (ent_que_tail.trans enL))
    clear hR1 hRl hR0 hR
    generalize (if q' = 1 then o else o + 1) = o1
    generalize q' - 1 = q1
    obtain ⟨S, hS0, hSs, hSh, hSq⟩ : ∃ S : Nat → List Nod × List Nat, S 0 = (N', Q) ∧ (∀ j, S (j + 1) = linkB a (S j) j) ∧ (∀ j, j ≤ 256 → ∃ C, Half N' (S j).1 P V a j C ∧ (S j).2 = Q ++ C) ∧ linkQ n (S 256).1 (S 256).2 = Z := ⟨linkA a (N', Q), rfl, linkA_succ a (N', Q), linkA_spec hL, hq'⟩
    clear hq' hq
    refine v_normS [(2,8),(10,94)] _ agL [(2,_),(3,_),(4,_),(24,_)] heL (fun g => ?_)
    refine v_loop [(2,2),(5,8),(24,94)] (fun y : Nat × Nat × Nat × Nat => [(24, .int .i64 y.1), (2, .slice (some ⟨y.2.1, y.2.2.1, none⟩) (S y.1).2.length y.2.2.2)]) (fun y => bx b 61 [.slice A N.length c] :: orow 98 A c (S y.1).1 :: que 21 y.2.1 y.2.2.1 y.2.2.2 (S y.1).2 :: H) (fun y => y.1 ≤ 256) (fun y => 256 - y.1) (0, g', o1, q1) (by simp only [hS0]; (repeat (first | exact trivial | refine And.intro rfl ?_))) (by simp only [hS0]; exact ent_refl _) (Nat.zero_le _) ?_
    rintro ⟨j, gj, oj, qj⟩ g2 hj
    simp only [sets]
    simp only at hj
    by_cases hj2 : j < 256
    · obtain ⟨C, hH, hQ2⟩ := hSh j hj
      have hnx := hSs j
      have hQl : (S j).2.length ≤ 2 * N'.length := by rw [hQ2]; exact hH.few hL
      have hl1 : (S j).1.length = N.length := by rw [hH.len, hl]
      have haN : a < (S j).1.length := by rw [hH.len]; exact hal
      have hto := hH.nxt_lt hL haN hj2
      have hfl := hH.fail_lt hL
      have hbk := hH.nxt_lt hL hfl hj2
      have hwd := hH.wid
      clear hSh hSs hS0 hH hQ2 hL hSq hfew hn
      generalize S j = s1 at hnx hQl hl1 haN hto hfl hbk hwd ⊢
      obtain ⟨N1, Q1⟩ := s1
      simp only at hQl hl1 haN hto hfl hbk hwd ⊢
      unfold linkB at hnx
      simp only at hnx
      obtain ⟨back, hback⟩ : ∃ back, (if 0 < a then nxt N1 (nodA N1 a).fail j else 0) = back := ⟨_, rfl⟩
      rw [hback] at hnx
      have hbkl : back < N1.length := by rw [← hback]; split <;> omega
      (repeat' ((fail_if_success (show VH _ _ (.seq (.seq (.region 9 _ _) _) _) _ _ _ _)); first | (show VH _ _ _ _ _ _ _; first | refine v_seq ?_ | refine r_seq ?_ | refine v_block ?_ | refine v_skip ?_ | refine v_cond_t rfl tbL ?_) | (show SH _ _ _ _ _ (_ :: _) _ _ _; first | (show SH _ _ _ _ _ (⟨_, .move _, _, _, _, _⟩ :: _) _ _ _; refine mov evL ?_) | (show SH _ _ _ _ _ (⟨_, .assign _, _, _, _, _⟩ :: _) _ _ _; refine asg evL ?_) | (show SH _ _ _ _ _ (⟨_, .binOp .lss _ _ _ _, _, _, _, _⟩ :: _) _ _ _; refine lssT rfl rfl omD ?_)) | refine s_nil ?_ | refine kh_normal ?_))
      refine v_seq ?_
      refine v_cut0 [(6, 6), (27, 41)] (fun _ : Unit => [(6, .int .i32 (back : Nat))]) (fun _ => True) ?_ ?_ ent_vh
      · by_cases ha0 : 0 < a
        · rw [if_pos ha0] at hback
          have hfl' : (N1.getD a Flat.dflt).fail < N1.length := hfl
          (repeat' (first | (show VH _ _ _ _ _ _ _; first | refine v_seq ?_ | refine r_seq ?_ | refine r_quiet hmix (by kernel_rfl) ?_ | refine v_cond_t rfl tbL ?_) | (show SH _ _ _ _ _ (_ :: _) _ _ _; first | (show SH _ _ _ _ _ (⟨_, .move _, _, _, _, _⟩ :: _) _ _ _; refine mov evL ?_) | (show SH _ _ _ _ _ (⟨_, .binOp .gtr _ _ _ _, _, _, _, _⟩ :: _) _ _ _; refine gtrT rfl rfl omD ?_) | (show SH _ _ _ _ _ (⟨_, .load _ _, _, _, _, _⟩ :: _) _ _ _; first | refine lbx rfl spL (by rfl) ?_ | refine lrf rfl (fun _ _ => rdS) (by rfl) omL (by rfl) ?_ | refine lrf rfl (fun _ _ => rdS) (by rfl) (by simp only [List.length_cons, List.length_nil]; omega) (by rfl) ?_) | (show SH _ _ _ _ _ (⟨_, .indexAddr _ _ _, _, _, _, _⟩ :: _) _ _ _; first | refine ix rfl rfl (by with_reducible rfl) (fun _ _ => rdS) (by rfl) omL omL ?_ | refine ixA _ rfl rfl rfl omL ?_) | refine nlc rfl ?_ | refine fad rfl ?_) | refine s_nil ?_ | refine kh_normal ?_))
          refine ldn (N := N1) (A := A) (k := (nodA N1 a).fail) (b := j) rfl (fun w hw => hw.rd spL) hfl hj2 ?_
          rw [hback]
          (repeat' (first | (show SH _ _ _ _ _ (_ :: _) _ _ _; (show SH _ _ _ _ _ (⟨_, .assign _, _, _, _, _⟩ :: _) _ _ _; refine asg evL ?_)) | refine s_nil ?_ | refine kh_normal ?_))
          exact ⟨agL, (), hsL, ent_refl _, trivial⟩
        · rw [if_neg ha0] at hback
          subst hback
          (repeat' (first | (show VH _ _ _ _ _ _ _; first | refine v_seq ?_ | refine r_seq ?_ | refine v_skip ?_ | refine v_cond_f rfl tbL ?_) | (show SH _ _ _ _ _ (_ :: _) _ _ _; first | (show SH _ _ _ _ _ (⟨_, .move _, _, _, _, _⟩ :: _) _ _ _; refine mov evL ?_) | (show SH _ _ _ _ _ (⟨_, .binOp .gtr _ _ _ _, _, _, _, _⟩ :: _) _ _ _; refine gtrF rfl rfl omD ?_)) | refine s_nil ?_ | refine kh_normal ?_))
          exact ⟨agL, (), hsL, ent_refl _, trivial⟩
      rintro _ gg _
      simp only [sets]
      clear hback hbk hfl
      (repeat' (first | (show VH _ _ _ _ _ _ _; first | refine v_seq ?_ | refine r_seq ?_) | (show SH _ _ _ _ _ (_ :: _) _ _ _; first | (show SH _ _ _ _ _ (⟨_, .move _, _, _, _, _⟩ :: _) _ _ _; refine mov evL ?_) | (show SH _ _ _ _ _ (⟨_, .indexAddr _ _ _, _, _, _, _⟩ :: _) _ _ _; refine ixA _ rfl rfl rfl omL ?_) | refine nlc rfl ?_ | refine fad rfl ?_)))
      refine ldn (N := N1) (A := A) (k := a) (b := j) rfl (fun w hw => hw.rd spL) haN hj2 ?_
      obtain ⟨to, hto2⟩ : ∃ to, nxt N1 a j = to := ⟨_, rfl⟩
      rw [hto2] at hto hnx ⊢
      by_cases ht0 : to = 0
      · rw [if_pos ht0] at hnx
        subst ht0
        (repeat' (first | (show VH _ _ _ _ _ _ _; first | refine v_seq ?_ | refine r_seq ?_ | refine v_cond_t rfl tbL ?_) | (show SH _ _ _ _ _ (_ :: _) _ _ _; first | (show SH _ _ _ _ _ (⟨_, .move _, _, _, _, _⟩ :: _) _ _ _; refine mov evL ?_) | (show SH _ _ _ _ _ (⟨_, .assign _, _, _, _, _⟩ :: _) _ _ _; refine asg evL ?_) | (show SH _ _ _ _ _ (⟨_, .binOp .eql _ _ _ _, _, _, _, _⟩ :: _) _ _ _; refine eqlT rfl rfl omD ?_) | (show SH _ _ _ _ _ (⟨_, .indexAddr _ _ _, _, _, _, _⟩ :: _) _ _ _; refine ixA _ rfl rfl rfl omL ?_) | refine nlc rfl ?_ | refine fad rfl ?_) | refine s_nil ?_ | refine kh_normal ?_))
        refine stn (k := a) (b := j) (u := back) rfl rfl rfl spL haN hj2 (hwd a haN) trivial ?_
        (repeat' (first | (show VH _ _ _ _ _ _ _; first | refine r_seq ?_ | refine v_exit ?_) | (show SH _ _ _ _ _ (_ :: _) _ _ _; first | (show SH _ _ _ _ _ (⟨_, .move _, _, _, _, _⟩ :: _) _ _ _; refine mov evL ?_) | (show SH _ _ _ _ _ (⟨_, .binOp .add _ _ _ _, _, _, _, _⟩ :: _) _ _ _; refine add rfl rfl inL ?_)) | refine s_nil ?_ | refine kh_normal ?_ | refine kh_exit ?_ | refine bh_exit ?_))
        exact ⟨agL, (j + 1, gj, oj, qj), by simp only [hnx]; (repeat (first | exact trivial | refine And.intro rfl ?_)), by simp only [hnx]; exact enL, hj2, by show 256 - (j + 1) < 256 - j; omega⟩
      · rw [if_neg ht0] at hnx
        have htp : ¬ (to : Int) = 0 := by omega
        clear ht0
        (repeat' (first | (show VH _ _ _ _ _ _ _; first | refine v_seq ?_ | refine r_seq ?_ | refine v_skip ?_ | refine v_cond_f rfl tbL ?_) | (show SH _ _ _ _ _ (_ :: _) _ _ _; first | (show SH _ _ _ _ _ (⟨_, .move _, _, _, _, _⟩ :: _) _ _ _; refine mov evL ?_) | (show SH _ _ _ _ _ (⟨_, .assign _, _, _, _, _⟩ :: _) _ _ _; refine asg evL ?_) | (show SH _ _ _ _ _ (⟨_, .binOp .eql _ _ _ _, _, _, _, _⟩ :: _) _ _ _; refine eqlF rfl rfl omD ?_) | (show SH _ _ _ _ _ (⟨_, .load _ _, _, _, _, _⟩ :: _) _ _ _; refine lbx rfl spL (by rfl) ?_) | (show SH _ _ _ _ _ (⟨_, .indexAddr _ _ _, _, _, _, _⟩ :: _) _ _ _; refine ix rfl rfl (by with_reducible rfl) (fun _ _ => rdS) (by rfl) omL omL ?_) | refine nlc rfl ?_ | refine fad rfl ?_) | refine s_nil ?_ | refine kh_normal ?_))
        refine stm (k := to) 0 { nodA N1 to with fail := back } rfl rfl rfl spL hto (by omega) rfl rfl rfl rfl trivial ?_
        (repeat' (first | (show VH _ _ _ _ _ _ _; first | refine v_seq ?_ | refine r_seq ?_) | (show SH _ _ _ _ _ (_ :: _) _ _ _; first | (show SH _ _ _ _ _ (⟨_, .move _, _, _, _, _⟩ :: _) _ _ _; refine mov evL ?_) | refine nlc rfl ?_ | refine fad rfl ?_) | refine s_nil ?_ | refine kh_normal ?_))
        have e1 := nodA_set (x := { nodA N1 to with fail := back }) hto
        refine stm (N := N1.set to { nodA N1 to with fail := back }) (k := to) 3 { nodA N1 to with fail := back, stop := back } rfl rfl rfl spL (by rw [List.length_set]; exact hto) (by omega) rfl rfl (by rw [e1]) (by rw [e1]; rfl) trivial ?_
        rw [List.set_set]
        have hN2l : (N1.set to { nodA N1 to with fail := back, stop := back }).length = N1.length := List.length_set
        clear e1
        generalize N1.set to { nodA N1 to with fail := back, stop := back } = N2 at hnx hN2l ⊢
        by_cases hw0 : (nodA N2 back).word = 0
        · rw [if_pos hw0] at hnx
          have hw1 : (((N2.getD back Flat.dflt).word : Nat) : Int) = 0 := by show (((nodA N2 back).word : Nat) : Int) = 0; rw [hw0]; rfl
          clear hw0
          (repeat' (first | (show VH _ _ _ _ _ _ _; first | refine v_seq ?_ | refine r_seq ?_ | refine v_cond_t rfl tbL ?_) | (show SH _ _ _ _ _ (_ :: _) _ _ _; first | (show SH _ _ _ _ _ (⟨_, .move _, _, _, _, _⟩ :: _) _ _ _; refine mov evL ?_) | (show SH _ _ _ _ _ (⟨_, .binOp .eql _ _ _ _, _, _, _, _⟩ :: _) _ _ _; refine eqlT rfl rfl omD ?_) | (show SH _ _ _ _ _ (⟨_, .load _ _, _, _, _, _⟩ :: _) _ _ _; first | refine lbx rfl spL (by rfl) ?_ | refine lrf rfl (fun _ _ => rdS) (by rfl) omL (by rfl) ?_ | refine lrf rfl (fun _ _ => rdS) (by rfl) (by simp only [List.length_cons, List.length_nil]; omega) (by rfl) ?_) | (show SH _ _ _ _ _ (⟨_, .indexAddr _ _ _, _, _, _, _⟩ :: _) _ _ _; refine ix rfl rfl (by with_reducible rfl) (fun _ _ => rdS) (by rfl) omL omL ?_) | refine nlc rfl ?_ | refine fad rfl ?_) | refine s_nil ?_ | refine kh_normal ?_))
          refine stm (N := N2) (k := to) 3 { nodA N2 to with stop := (nodA N2 back).stop } rfl rfl rfl spL (by omega) (by omega) rfl rfl rfl rfl trivial ?_
          (repeat' (first | refine r_seq ?_ | (show SH _ _ _ _ _ (_ :: _) _ _ _; (show SH _ _ _ _ _ (⟨_, .move _, _, _, _, _⟩ :: _) _ _ _; refine mov evL ?_)) | refine s_nil ?_ | refine kh_normal ?_))
          refine bsl (l := [to]) rfl rfl (Vals.cons rfl Vals.nil) rfl rfl (by decide) (fun b9 => ?_)
          (repeat' (first | (show VH _ _ _ _ _ _ _; first | refine v_seq ?_ | refine r_seq ?_ | refine r_quiet hmix (by kernel_rfl) ?_ | refine v_block ?_ | refine v_ret ?_ | refine v_skip ?_ | refine v_exit ?_ | refine v_label ?_ | refine v_cond_t rfl tbL ?_ | refine v_cond_f rfl tbL ?_ | refine v_cond_dec rfl (fun h => ?_) (fun h => ?_) | refine v_cond_ndec rfl (fun h => ?_) (fun h => ?_) | refine v_cond rfl (fun h => ?_) (fun h => ?_)) | (show SH _ _ _ _ _ (_ :: _) _ _ _; first | (show SH _ _ _ _ _ (⟨_, .move _, _, _, _, _⟩ :: _) _ _ _; refine mov evL ?_) | (show SH _ _ _ _ _ (⟨_, .assign _, _, _, _, _⟩ :: _) _ _ _; refine asg evL ?_) | (show SH _ _ _ _ _ (⟨_, .binOp .lss _ _ _ _, _, _, _, _⟩ :: _) _ _ _; first | refine lssT rfl rfl omD ?_ | refine lssF rfl rfl omD ?_ | refine lss rfl rfl ?_) | (show SH _ _ _ _ _ (⟨_, .binOp .gtr _ _ _ _, _, _, _, _⟩ :: _) _ _ _; first | refine gtrT rfl rfl omD ?_ | refine gtrF rfl rfl omD ?_ | refine gtr rfl rfl ?_) | (show SH _ _ _ _ _ (⟨_, .binOp .eql _ _ _ _, _, _, _, _⟩ :: _) _ _ _; first | refine eqlT rfl rfl omD ?_ | refine eqlF rfl rfl omD ?_ | refine eql rfl rfl ?_ | refine eqn rfl rfl ?_ | refine eqb rfl rfl ?_ | refine seqT rfl rfl (by assumption) ?_ | refine seqF rfl rfl (by assumption) ?_) | (show SH _ _ _ _ _ (⟨_, .binOp .add _ _ _ _, _, _, _, _⟩ :: _) _ _ _; first | refine add rfl rfl inL ?_ | refine sad rfl rfl omL ?_ | refine adU rfl rfl omL ?_ | refine adI rfl rfl omL ?_) | (show SH _ _ _ _ _ (⟨_, .load _ _, _, _, _, _⟩ :: _) _ _ _; first | refine lbx rfl spL (by rfl) ?_ | refine lba rfl spL (by rfl) ?_ | refine lbs rfl spL (by rfl) (by rfl) ?_ | refine lgi rfl (fun _ _ => rdS) omL (by assumption) ?_ | refine lag rfl (fun _ _ => rdS) (by rfl) omL (by assumption) ?_ | refine lrg rfl (fun _ _ => rdS) (by rfl) omL (by assumption) (by rfl) ?_ | refine lin rfl (fun _ _ => rdS) omL ?_ | refine lbi rfl spL omL ?_ | refine lr1 rfl (fun _ _ => rdS) (by rfl) omL (by rfl) ?_ | refine lra rfl (fun _ _ => rdS) (by rfl) omL ?_ | refine lrf rfl (fun _ _ => rdS) (by rfl) omL (by rfl) ?_ | refine lcell rfl (fun w hw => hw.ext.cell (by assumption)) ?_ | refine lrs rfl (fun _ _ => rdS) (by rfl) omL (by rfl) (by rfl) ?_ | refine lca rfl (fun _ _ => rdS) (by rfl) ?_ | refine lcs rfl (fun _ _ => rdS) (by rfl) ?_ | refine lcf rfl (fun _ _ => rdS) (by rfl) ?_ | refine lrf rfl (fun _ _ => rdS) (by rfl) (by simp only [List.length_cons, List.length_nil]; omega) (by rfl) ?_ | refine lra rfl (fun _ _ => rdS) (by rfl) (by simp only [List.length_cons, List.length_nil]; omega) ?_) | (show SH _ _ _ _ _ (⟨_, .indexAddr _ _ _, _, _, _, _⟩ :: _) _ _ _; first | refine ix rfl rfl (by with_reducible rfl) (fun _ _ => rdS) (by rfl) omL omL ?_ | refine ixi rfl rfl (fun _ _ => rdS) (by rfl) omL omL omL ?_ | refine ixb rfl rfl omL ?_ | refine ixq rfl rfl (by assumption) omL omL ?_ | refine ixA _ rfl rfl rfl omL ?_ | refine ixi rfl rfl (fun _ _ => rdS) (by rfl) omL (by first | omega | (simp only [List.length_cons, List.length_nil]; omega)) (by simp only [List.length_cons, List.length_nil]; omega) ?_) | (show SH _ _ _ _ _ (⟨_, .call ⟨.builtin _, _, _⟩, _, _, _, _⟩ :: _) _ _ _; first | refine slen rfl ?_ | refine sln rfl ?_) | refine nlc rfl ?_ | refine fad rfl ?_ | (show SH _ _ _ _ _ (⟨_, .slice _ _ _ _ _, _, _, _, _⟩ :: _) _ _ _; first | refine sla rfl rfl omL omL ?_ | refine slh rfl rfl omL omL ?_ | refine sll rfl rfl omL omL ?_) | (show SH _ _ _ _ _ (⟨_, .store _ _ _, _, _, _, _⟩ :: _) _ _ _; first | refine stb rfl rfl evL spL rfl rfl (by first | decide | exact Nat.zero_lt_succ _ | exact of_decide_eq_true rfl) kpL ?_ | refine sta rfl rfl rfl spL (by rfl) (by rfl) (by rfl) kpL ?_ | refine sti rfl rfl rfl spL omL kpL ?_ | refine sbi rfl rfl rfl spL omL kpL ?_ | refine sbs rfl rfl evL spL (by rfl) (by rfl) (of_decide_eq_true rfl) kpL ?_) | (show SH _ _ _ _ _ (⟨_, .buildSlice _ _ _, _, _, _, _⟩ :: _) _ _ _; refine bsl (α := Int) rfl rfl (by repeat (first | exact Vals.nil | (apply Vals.cons; rfl))) rfl (by rfl) (by decide) (fun b => ?_))) | refine s_nil ?_ | refine s_fork ?_ ?_ | refine s_fork3 ?_ ?_ ?_ | refine s_fork4 ?_ ?_ ?_ ?_ | refine kh_normal ?_ | refine kh_ret ?_ | refine kh_exit ?_ | refine bh_normal ?_ | refine bh_ret ?_ | refine bh_exit ?_ | refine bh_exit_ne rfl ?_))
          refine qap (Q := Q1) (u := to) rfl rfl rfl spL (fun w hw => hw.rd spL) (by omega) (by omega) (fun g' o' c' => ⟨trivial, ?_⟩)
          (repeat' (first | refine r_seq ?_ | (show SH _ _ _ _ _ (_ :: _) _ _ _; first | (show SH _ _ _ _ _ (⟨_, .move _, _, _, _, _⟩ :: _) _ _ _; refine mov evL ?_) | (show SH _ _ _ _ _ (⟨_, .assign _, _, _, _, _⟩ :: _) _ _ _; refine asg evL ?_) | (show SH _ _ _ _ _ (⟨_, .binOp .add _ _ _ _, _, _, _, _⟩ :: _) _ _ _; refine add rfl rfl inL ?_)) | refine s_nil ?_ | refine kh_normal ?_ | refine bh_normal ?_))
          exact ⟨agL, (j + 1, g', o', c'), by simp only [hnx]; (repeat (first | exact trivial | refine And.intro rfl ?_)), by simp only [hnx]; exact enL, hj2, by show 256 - (j + 1) < 256 - j; omega⟩
        · rw [if_neg hw0] at hnx
          have hw1 : ¬ (((N2.getD back Flat.dflt).word : Nat) : Int) = 0 := by show ¬ (((nodA N2 back).word : Nat) : Int) = 0; omega
          clear hw0
          (repeat' (first | (show VH _ _ _ _ _ _ _; first | refine v_seq ?_ | refine r_seq ?_ | refine v_skip ?_ | refine v_cond_f rfl tbL ?_) | (show SH _ _ _ _ _ (_ :: _) _ _ _; first | (show SH _ _ _ _ _ (⟨_, .move _, _, _, _, _⟩ :: _) _ _ _; refine mov evL ?_) | (show SH _ _ _ _ _ (⟨_, .binOp .eql _ _ _ _, _, _, _, _⟩ :: _) _ _ _; refine eqlF rfl rfl omD ?_) | (show SH _ _ _ _ _ (⟨_, .load _ _, _, _, _, _⟩ :: _) _ _ _; first | refine lbx rfl spL (by rfl) ?_ | refine lrf rfl (fun _ _ => rdS) (by rfl) omL (by rfl) ?_ | refine lrf rfl (fun _ _ => rdS) (by rfl) (by simp only [List.length_cons, List.length_nil]; omega) (by rfl) ?_) | (show SH _ _ _ _ _ (⟨_, .indexAddr _ _ _, _, _, _, _⟩ :: _) _ _ _; refine ix rfl rfl (by with_reducible rfl) (fun _ _ => rdS) (by rfl) omL omL ?_) | refine nlc rfl ?_ | refine fad rfl ?_) | refine s_nil ?_ | refine kh_normal ?_))
          refine bsl (l := [to]) rfl rfl (Vals.cons rfl Vals.nil) rfl rfl (by decide) (fun b9 => ?_)
          (repeat' (first | (show VH _ _ _ _ _ _ _; first | refine v_seq ?_ | refine r_seq ?_ | refine r_quiet hmix (by kernel_rfl) ?_ | refine v_block ?_ | refine v_ret ?_ | refine v_skip ?_ | refine v_exit ?_ | refine v_label ?_ | refine v_cond_t rfl tbL ?_ | refine v_cond_f rfl tbL ?_ | refine v_cond_dec rfl (fun h => ?_) (fun h => ?_) | refine v_cond_ndec rfl (fun h => ?_) (fun h => ?_) | refine v_cond rfl (fun h => ?_) (fun h => ?_)) | (show SH _ _ _ _ _ (_ :: _) _ _ _; first | (show SH _ _ _ _ _ (⟨_, .move _, _, _, _, _⟩ :: _) _ _ _; refine mov evL ?_) | (show SH _ _ _ _ _ (⟨_, .assign _, _, _, _, _⟩ :: _) _ _ _; refine asg evL ?_) | (show SH _ _ _ _ _ (⟨_, .binOp .lss _ _ _ _, _, _, _, _⟩ :: _) _ _ _; first | refine lssT rfl rfl omD ?_ | refine lssF rfl rfl omD ?_ | refine lss rfl rfl ?_) | (show SH _ _ _ _ _ (⟨_, .binOp .gtr _ _ _ _, _, _, _, _⟩ :: _) _ _ _; first | refine gtrT rfl rfl omD ?_ | refine gtrF rfl rfl omD ?_ | refine gtr rfl rfl ?_) | (show SH _ _ _ _ _ (⟨_, .binOp .eql _ _ _ _, _, _, _, _⟩ :: _) _ _ _; first | refine eqlT rfl rfl omD ?_ | refine eqlF rfl rfl omD ?_ | refine eql rfl rfl ?_ | refine eqn rfl rfl ?_ | refine eqb rfl rfl ?_ | refine seqT rfl rfl (by assumption) ?_ | refine seqF rfl rfl (by assumption) ?_) | (show SH _ _ _ _ _ (⟨_, .binOp .add _ _ _ _, _, _, _, _⟩ :: _) _ _ _; first | refine add rfl rfl inL ?_ | refine sad rfl rfl omL ?_ | refine adU rfl rfl omL ?_ | refine adI rfl rfl omL ?_) | (show SH _ _ _ _ _ (⟨_, .load _ _, _, _, _, _⟩ :: _) _ _ _; first | refine lbx rfl spL (by rfl) ?_ | refine lba rfl spL (by rfl) ?_ | refine lbs rfl spL (by rfl) (by rfl) ?_ | refine lgi rfl (fun _ _ => rdS) omL (by assumption) ?_ | refine lag rfl (fun _ _ => rdS) (by rfl) omL (by assumption) ?_ | refine lrg rfl (fun _ _ => rdS) (by rfl) omL (by assumption) (by rfl) ?_ | refine lin rfl (fun _ _ => rdS) omL ?_ | refine lbi rfl spL omL ?_ | refine lr1 rfl (fun _ _ => rdS) (by rfl) omL (by rfl) ?_ | refine lra rfl (fun _ _ => rdS) (by rfl) omL ?_ | refine lrf rfl (fun _ _ => rdS) (by rfl) omL (by rfl) ?_ | refine lcell rfl (fun w hw => hw.ext.cell (by assumption)) ?_ | refine lrs rfl (fun _ _ => rdS) (by rfl) omL (by rfl) (by rfl) ?_ | refine lca rfl (fun _ _ => rdS) (by rfl) ?_ | refine lcs rfl (fun _ _ => rdS) (by rfl) ?_ | refine lcf rfl (fun _ _ => rdS) (by rfl) ?_ | refine lrf rfl (fun _ _ => rdS) (by rfl) (by simp only [List.length_cons, List.length_nil]; omega) (by rfl) ?_ | refine lra rfl (fun _ _ => rdS) (by rfl) (by simp only [List.length_cons, List.length_nil]; omega) ?_) | (show SH _ _ _ _ _ (⟨_, .indexAddr _ _ _, _, _, _, _⟩ :: _) _ _ _; first | refine ix rfl rfl (by with_reducible rfl) (fun _ _ => rdS) (by rfl) omL omL ?_ | refine ixi rfl rfl (fun _ _ => rdS) (by rfl) omL omL omL ?_ | refine ixb rfl rfl omL ?_ | refine ixq rfl rfl (by assumption) omL omL ?_ | refine ixA _ rfl rfl rfl omL ?_ | refine ixi rfl rfl (fun _ _ => rdS) (by rfl) omL (by first | omega | (simp only [List.length_cons, List.length_nil]; omega)) (by simp only [List.length_cons, List.length_nil]; omega) ?_) | (show SH _ _ _ _ _ (⟨_, .call ⟨.builtin _, _, _⟩, _, _, _, _⟩ :: _) _ _ _; first | refine slen rfl ?_ | refine sln rfl ?_) | refine nlc rfl ?_ | refine fad rfl ?_ | (show SH _ _ _ _ _ (⟨_, .slice _ _ _ _ _, _, _, _, _⟩ :: _) _ _ _; first | refine sla rfl rfl omL omL ?_ | refine slh rfl rfl omL omL ?_ | refine sll rfl rfl omL omL ?_) | (show SH _ _ _ _ _ (⟨_, .store _ _ _, _, _, _, _⟩ :: _) _ _ _; first | refine stb rfl rfl evL spL rfl rfl (by first | decide | exact Nat.zero_lt_succ _ | exact of_decide_eq_true rfl) kpL ?_ | refine sta rfl rfl rfl spL (by rfl) (by rfl) (by rfl) kpL ?_ | refine sti rfl rfl rfl spL omL kpL ?_ | refine sbi rfl rfl rfl spL omL kpL ?_ | refine sbs rfl rfl evL spL (by rfl) (by rfl) (of_decide_eq_true rfl) kpL ?_) | (show SH _ _ _ _ _ (⟨_, .buildSlice _ _ _, _, _, _, _⟩ :: _) _ _ _; refine bsl (α := Int) rfl rfl (by repeat (first | exact Vals.nil | (apply Vals.cons; rfl))) rfl (by rfl) (by decide) (fun b => ?_))) | refine s_nil ?_ | refine s_fork ?_ ?_ | refine s_fork3 ?_ ?_ ?_ | refine s_fork4 ?_ ?_ ?_ ?_ | refine kh_normal ?_ | refine kh_ret ?_ | refine kh_exit ?_ | refine bh_normal ?_ | refine bh_ret ?_ | refine bh_exit ?_ | refine bh_exit_ne rfl ?_))
          refine qap (Q := Q1) (u := to) rfl rfl rfl spL (fun w hw => hw.rd spL) (by omega) (by omega) (fun g' o' c' => ⟨trivial, ?_⟩)
          (repeat' (first | refine r_seq ?_ | (show SH _ _ _ _ _ (_ :: _) _ _ _; first | (show SH _ _ _ _ _ (⟨_, .move _, _, _, _, _⟩ :: _) _ _ _; refine mov evL ?_) | (show SH _ _ _ _ _ (⟨_, .assign _, _, _, _, _⟩ :: _) _ _ _; refine asg evL ?_) | (show SH _ _ _ _ _ (⟨_, .binOp .add _ _ _ _, _, _, _, _⟩ :: _) _ _ _; refine add rfl rfl inL ?_)) | refine s_nil ?_ | refine kh_normal ?_ | refine bh_normal ?_))
          exact ⟨agL, (j + 1, g', o', c'), by simp only [hnx]; (repeat (first | exact trivial | refine And.intro rfl ?_)), by simp only [hnx]; exact enL, hj2, by show 256 - (j + 1) < 256 - j; omega⟩
    · obtain rfl : j = 256 := by omega
      obtain ⟨C, hH, hQ2⟩ := hSh 256 hj
      have hL2 : Link (S 256).1 P V (D ++ [a]) (S 256).2 := by
        rw [hQ2]
        exact hH.link hL
      have hl2 : (S 256).1.length = N.length := by rw [hH.len, hl]
      clear hSh hSs hS0 hH hQ2 hL
      generalize S 256 = s2 at hL2 hl2 hSq ⊢
      obtain ⟨N2, Q2⟩ := s2
      simp only at hL2 hl2 hSq ⊢
      (repeat' (first | (show VH _ _ _ _ _ _ _; first | refine v_seq ?_ | refine r_seq ?_ | refine v_exit ?_ | refine v_cond_f rfl tbL ?_) | (show SH _ _ _ _ _ (_ :: _) _ _ _; (show SH _ _ _ _ _ (⟨_, .binOp .lss _ _ _ _, _, _, _, _⟩ :: _) _ _ _; refine lssF rfl rfl omD ?_)) | refine s_nil ?_ | refine kh_normal ?_ | refine kh_exit ?_ | refine bh_normal ?_ | refine bh_exit ?_))
      exact ⟨agL, ((n, D ++ [a]), (gj, oj, qj), N2, Q2), hsL, enL, ⟨hL2, hl2, by simp only [List.length_append, List.length_singleton]; omega, hSq⟩, Nat.lt_succ_self n⟩
end Go.Proofs.Ytplhnnlklnbahaa

/- Layer 37 (chat): a range over a string: its iterator in memory. -/
namespace Go.Proofs.Ytplhnnlklnbahaa
open Go.Fw Go.RowKit
/-- The iterator over a text. -/
def itr (b : Nat) (s : List UInt8) (pos : Nat) : HP := .oth fun p => p = pone b (.stringIter (bs s) pos)
theorem Wd.itr_open {w0 w : World} {H R : List HP} {b pos : Nat} {s : List UInt8} (h : Wd w0 H w) (hs : Split H (itr b s pos) R) : w.heap[b]? = some (.stringIter (bs s) pos) ∧ w0.heap.size ≤ b := by
  obtain ⟨p, q, hx, _, _, hp, _⟩ := (hs.wd h).open_
  have hx : p = pone b (.stringIter (bs s) pos) := hx
  subst hx
  have := hp b _ (pone_at _ _)
  exact ⟨this.2, this.1⟩
theorem Wd.itr_set {w0 w : World} {H R : List HP} {b pos : Nat} {s : List UInt8} (h : Wd w0 H w) (hs : Split H (itr b s pos) R) (pos' : Nat) : Wd w0 (itr b s pos' :: R) (w.iterAt b (bs s) pos') := by
  obtain ⟨hb, _⟩ := Wd.itr_open h hs
  have hlt : b < w.heap.size := (Array.getElem?_eq_some_iff.1 hb).1
  refine (hs.wd h).change fun p hx hin => ?_
  have hx : p = pone b (.stringIter (bs s) pos) := hx
  subst hx
  refine ⟨some b, pone b (.stringIter (bs s) pos'), ⟨rfl, rfl, rfl, ?_, fun k hk hne => ?_⟩, fun k hk => ?_, rfl, fun k o hk => ?_⟩
  · simp [World.iterAt]
  · have : k ≠ b := fun e => hne (by rw [e])
    simp [World.iterAt, Array.getElem?_setIfInBounds, Ne.symm this]
  · injection hk with hk; subst hk; rw [pone_at]; simp
  · have := pone_ne (k := k) (by rw [hk]; simp)
    subst this
    rw [pone_at] at hk
    injection hk with hk
    subst hk
    exact ⟨by simp [World.iterAt, hlt], .inl (by rw [pone_at]; simp)⟩
theorem bs_get (s : List UInt8) (k : Nat) (h : k < (bs s).size) : (bs s)[k]'h = s.getD k 0 := by
  have : k < s.length := by rw [← bs_size]; exact h
  rw [getD_at 0 this]
  show (bs s).data[k] = s[k]
  simp [bs]
section
variable {md : Md} {P : Program} {n : Nat} {Q : HQ} {f : Fr} {w0 : World} {H R : List HP} {ops : Array Oper} {rest : List Oper} {d : Nat} {op : Op} {ty : TypeId} {pos : String} {aft : Array Edge} {v : Value} {x y c : Operand}
/-- The iterator is made. -/
theorem rgs {t : TypeId} [TStr P t] {s : List UInt8} (hm : addOK md = true) (hx : ev n f x = .string (bs s)) (k : ∀ b, SH (nx md) P n ops Q rest (upd f d (.pointer (some ⟨b, 0, none⟩))) w0 (itr b s 0 :: H)) : SH md P n ops Q (⟨some d, .range t x, ty, pos, aft, none⟩ :: rest) f w0 H :=
  s_add hm fun w hw => wl_val (v := .pointer (some ⟨w.heap.size, 0, none⟩)) (w' := w.iter (bs s) 0)
    (by intro d pos aft g; simp [execOp, hx, run_range_string w t (bs s) (TStr.und)])
    (wl_nil ⟨rfl, Ext.alloc w _, _, k w.heap.size, hw.add (row := none) ((Ext.alloc w _).grownBy _) rfl (p := pone w.heap.size (.stringIter (bs s) 0)) rfl fun k o hk => by
      have := pone_ne (k := k) (by rw [hk]; simp)
      subst this
      rw [pone_at] at hk
      injection hk with hk
      subst hk
      exact ⟨World.iter_heap w (bs s) 0, Nat.le_refl _⟩⟩)
/-- The next letter, one byte long. -/
theorem nxA {b i : Nat} {s : List UInt8} (hm : addOK md = true) (hx : ev n f x = .pointer (some ⟨b, 0, none⟩)) (hs : Split H (itr b s i) R) (hi : i < s.length) (ha : (s.getD i 0).toNat < 128)
    (hk : keeps md (itr b s (i + 1) :: R)) (k : SH (nx md) P n ops Q rest (upd f d (.tuple #[.bool true, .int .i64 i, .int .i32 (s.getD i 0).toNat])) w0 (itr b s (i + 1) :: R)) : SH md P n ops Q (⟨some d, .next x true, ty, pos, aft, none⟩ :: rest) f w0 H :=
  s_mut hm fun w hw => by
    obtain ⟨hb, _⟩ := Wd.itr_open hw hs
    have hi' : i < (bs s).size := by rw [bs_size]; exact hi
    exact wl_val (w' := w.iterAt b (bs s) (i + 1)) (by
      intro d pos aft g
      have hn := Go.Lib.run_next_ascii_at (P := P) w b (bs s) i ty hb hi' (by rw [bs_get]; exact ha)
      rw [bs_get] at hn
      simp [execOp, hx, hn]) (wl_nil ⟨rfl, _, hk, k, Wd.itr_set hw hs _⟩)
/-- The next letter, not one byte long. -/
theorem nxH {b i : Nat} {s : List UInt8} (hm : addOK md = true) (hx : ev n f x = .pointer (some ⟨b, 0, none⟩)) (hs : Split H (itr b s i) R) (hi : i < s.length) (ha : 128 ≤ (s.getD i 0).toNat)
    (hk : ∀ j, keeps md (itr b s j :: R)) (k : ∀ r j : Nat, 128 ≤ r → r ≤ 2147483647 → i < j → SH (nx md) P n ops Q rest (upd f d (.tuple #[.bool true, .int .i64 i, .int .i32 r])) w0 (itr b s j :: R)) : SH md P n ops Q (⟨some d, .next x true, ty, pos, aft, none⟩ :: rest) f w0 H :=
  s_mut hm fun w hw => by
    obtain ⟨hb, _⟩ := Wd.itr_open hw hs
    have hi' : i < (bs s).size := by rw [bs_size]; exact hi
    obtain ⟨h1, h2⟩ := decode_high (bs s) i hi' (by rw [bs_get]; exact ha)
    have h3 := decode_le (bs s) i
    exact wl_val (w' := w.iterAt b (bs s) (i + (Utf8.decode (bs s) i).2)) (by
      intro d pos aft g
      have hn := Go.Lib.run_next_any_at (P := P) w b (bs s) i ty hb hi'
      simp [execOp, hx, hn]) (wl_nil ⟨rfl, _, hk _, k _ _ h1 h3 (by omega), Wd.itr_set hw hs _⟩)
/-- The end of the text. -/
theorem nxE {b i : Nat} {s : List UInt8} (hm : addOK md = true) (hx : ev n f x = .pointer (some ⟨b, 0, none⟩)) (hs : Split H (itr b s i) R) (hi : s.length ≤ i)
    (hk : keeps md (itr b s i :: R)) (k : SH (nx md) P n ops Q rest (upd f d (.tuple #[.bool false])) w0 (itr b s i :: R)) : SH md P n ops Q (⟨some d, .next x true, ty, pos, aft, none⟩ :: rest) f w0 H :=
  s_mut hm fun w hw => by
    obtain ⟨hb, _⟩ := Wd.itr_open hw hs
    exact wl_val (w' := w) (by
      intro d pos aft g
      have hn := Go.Lib.run_next_end_at (P := P) w b (bs s) i ty hb (by rw [bs_size]; omega)
      simp [execOp, hx, hn]) (wl_nil ⟨rfl, _, hk, k, hs.wd hw⟩)
end
theorem textRune_spec (r : Nat) (w : World) : Ret Try.prog 69 [.int .i32 r].toArray w (Out w (.bool (decide (r < 32) || decide (126 < r)))) := by
  by_cases h1 : r < 32
  · rw [decide_eq_true h1, Bool.true_or]
    refine enterH Try.func69 rfl rfl Try.ntmps69 rfl (Wd.refl _) ?_
    (repeat' (first | (show VH _ _ _ _ _ _ _; first | refine v_seq ?_ | refine r_seq ?_ | refine v_ret ?_) | (show SH _ _ _ _ _ (_ :: _) _ _ _; first | (show SH _ _ _ _ _ (⟨_, _, _, _, _, some _⟩ :: _) _ _ _; (refine gif rfl rfl ?_; refine giFT tbL ?_)) | (show SH _ _ _ _ _ (⟨_, .move _, _, _, _, _⟩ :: _) _ _ _; refine mov evL ?_) | (show SH _ _ _ _ _ (⟨_, .assign _, _, _, _, _⟩ :: _) _ _ _; refine asg evL ?_) | (show SH _ _ _ _ _ (⟨_, .binOp .lss _ _ _ _, _, _, _, _⟩ :: _) _ _ _; refine lssT rfl rfl omD ?_) | (show SH _ _ _ _ _ (⟨_, .pick _ _ _, _, _, _, _⟩ :: _) _ _ _; refine pkt rfl tbL evL ?_)) | refine s_nil ?_ | refine kh_normal ?_))
    exact rh1 rfl rfl ⟨rfl, rfl⟩ (ent_nil _)
  · rw [decide_eq_false h1, Bool.false_or]
    by_cases h2 : 126 < r
    · rw [decide_eq_true h2]
      refine enterH Try.func69 rfl rfl Try.ntmps69 rfl (Wd.refl _) ?_
      (repeat' (first | (show VH _ _ _ _ _ _ _; first | refine v_seq ?_ | refine r_seq ?_ | refine v_ret ?_) | (show SH _ _ _ _ _ (_ :: _) _ _ _; first | (show SH _ _ _ _ _ (⟨_, _, _, _, _, some _⟩ :: _) _ _ _; (refine gif rfl rfl ?_; refine giFF tbL ?_)) | (show SH _ _ _ _ _ (⟨_, .move _, _, _, _, _⟩ :: _) _ _ _; refine mov evL ?_) | (show SH _ _ _ _ _ (⟨_, .assign _, _, _, _, _⟩ :: _) _ _ _; refine asg evL ?_) | (show SH _ _ _ _ _ (⟨_, .binOp .lss _ _ _ _, _, _, _, _⟩ :: _) _ _ _; refine lssF rfl rfl omD ?_) | (show SH _ _ _ _ _ (⟨_, .binOp .gtr _ _ _ _, _, _, _, _⟩ :: _) _ _ _; refine gtrT rfl rfl omD ?_) | (show SH _ _ _ _ _ (⟨_, .pick _ _ _, _, _, _, _⟩ :: _) _ _ _; refine pkf rfl tbL evL ?_)) | refine s_nil ?_ | refine kh_normal ?_))
      exact rh1 rfl rfl ⟨rfl, rfl⟩ (ent_nil _)
    · rw [decide_eq_false h2]
      refine enterH Try.func69 rfl rfl Try.ntmps69 rfl (Wd.refl _) ?_
      (repeat' (first | (show VH _ _ _ _ _ _ _; first | refine v_seq ?_ | refine r_seq ?_ | refine v_ret ?_) | (show SH _ _ _ _ _ (_ :: _) _ _ _; first | (show SH _ _ _ _ _ (⟨_, _, _, _, _, some _⟩ :: _) _ _ _; (refine gif rfl rfl ?_; refine giFF tbL ?_)) | (show SH _ _ _ _ _ (⟨_, .move _, _, _, _, _⟩ :: _) _ _ _; refine mov evL ?_) | (show SH _ _ _ _ _ (⟨_, .assign _, _, _, _, _⟩ :: _) _ _ _; refine asg evL ?_) | (show SH _ _ _ _ _ (⟨_, .binOp .lss _ _ _ _, _, _, _, _⟩ :: _) _ _ _; refine lssF rfl rfl omD ?_) | (show SH _ _ _ _ _ (⟨_, .binOp .gtr _ _ _ _, _, _, _, _⟩ :: _) _ _ _; refine gtrF rfl rfl omD ?_) | (show SH _ _ _ _ _ (⟨_, .pick _ _ _, _, _, _, _⟩ :: _) _ _ _; refine pkf rfl tbL evL ?_)) | refine s_nil ?_ | refine kh_normal ?_))
      exact rh1 rfl rfl ⟨rfl, rfl⟩ (ent_nil _)
end Go.Proofs.Ytplhnnlklnbahaa

/- Layer 37 (chat): package strings: rules for pieces of strings, runes, bytes that are looked for. -/
namespace Go.Proofs.Ytplhnnlklnbahaa
open Go.Fw Go.RowKit
instance : TArr Try.prog 132 256 4 1 := ⟨by kernel_rfl, by kernel_rfl, by decide⟩
instance : TAgg Try.prog 132 256 (List.replicate 256 (Value.bool false)) := ⟨fun w => by kernel_rfl, fun w => by kernel_rfl, fun w => by kernel_rfl⟩
theorem bs_extract (s : List UInt8) (l h : Nat) : (bs s).extract l h = bs ((s.take h).drop l) := by
  apply ByteArray.ext
  rw [ByteArray.data_extract]
  show s.toArray.extract l h = ((s.take h).drop l).toArray
  rw [List.drop_take]
  simp
/-- Bytes that are skipped behind a high one are high. -/
theorem decode_skip {s : List UInt8} {i q : Nat} (h0 : 128 ≤ (s.getD i 0).toNat) (hq : i ≤ q) (h : q < i + (Utf8.decode (bs s) i).2) : 128 ≤ (s.getD q 0).toNat := by
  rw [Go.Lib.decode_N, bs_data] at h
  unfold Go.Lib.decodeN at h
  have hc : q = i ∨ q = i + 1 ∨ q = i + 2 ∨ q = i + 3 := by
    repeat' split at h
    all_goals simp only at h
    all_goals omega
  rcases hc with rfl | rfl | rfl | rfl
  · exact h0
  · repeat' split at h
    all_goals simp only at h
    all_goals omega
  · repeat' split at h
    all_goals simp only at h
    all_goals omega
  · repeat' split at h
    all_goals simp only at h
    all_goals omega
/-- The bytes of a rune that is no letter of ASCII. -/
theorem encode_high {r : Nat} (h : 128 ≤ r) : ∃ l : List UInt8, Utf8.encode r = bs l ∧ 2 ≤ l.length ∧ l.length ≤ 4 ∧ 128 ≤ (l.getD (l.length - 1) 0).toNat := by
  have key : ∀ c : Nat, 128 ≤ (UInt8.ofNat (0x80 + c % 64)).toNat := fun c => by
    rw [UInt8.toNat_ofNat']
    have := Nat.mod_lt c (show 0 < 64 by omega)
    rw [Nat.mod_eq_of_lt (by omega)]; omega
  obtain ⟨c, hc, hcc⟩ : ∃ c : Nat, (if Utf8.valid r then (r : Int).toNat else Utf8.runeError) = c ∧ 128 ≤ c := ⟨_, rfl, by split <;> simp [Utf8.runeError] <;> omega⟩
  unfold Utf8.encode
  simp only [hc]
  rw [if_neg (by omega)]
  split
  · exact ⟨[UInt8.ofNat (0xC0 + c / 64), UInt8.ofNat (0x80 + c % 64)], rfl, by simp, by simp, key c⟩
  · split
    · exact ⟨[UInt8.ofNat (0xE0 + c / 4096), UInt8.ofNat (0x80 + c / 64 % 64), UInt8.ofNat (0x80 + c % 64)], rfl, by simp, by simp, key c⟩
    · exact ⟨[UInt8.ofNat (0xF0 + c / 262144), UInt8.ofNat (0x80 + c / 4096 % 64), UInt8.ofNat (0x80 + c / 64 % 64), UInt8.ofNat (0x80 + c % 64)], rfl, by simp, by simp, key c⟩
section
variable {md : Md} {P : Program} {n : Nat} {Q : HQ} {f : Fr} {w0 : World} {H R : List HP} {ops : Array Oper} {rest : List Oper} {d : Nat} {op : Op} {ty : TypeId} {pos : String} {aft : Array Edge} {v : Value} {x y z c : Operand}
/-- A string from lo on. -/
theorem sls {t : TypeId} [h : TStr P t] {s : List UInt8} {K : IntKind} {lo : Nat} {j : Int} (hx : ev n f x = .string (bs s)) (hy : ev n f y = .int K j) (hj : j = (lo : Int)) (hl : lo ≤ s.length) (k : SH (nx md) P n ops Q rest (upd f d (.string (bs (s.drop lo)))) w0 H) : SH md P n ops Q (⟨some d, .slice t x (some y) none none, ty, pos, aft, none⟩ :: rest) f w0 H := s_val (fun w hw => by
  intro d pos aft g
  have h1 := run_slice_string_l (P := P) w t (bs s) h.und K j (by omega) (by rw [bs_size]; omega)
  rw [bs_extract, bs_size, List.take_length, hj, Int.toNat_natCast] at h1
  subst hj
  simp [execOp, hx, hy, run_sliceAt_string _ _ _ _ _ _ h.und, h1]) k
/-- A rune as a string. -/
theorem i2s {t1 t2 : TypeId} {K1 K : IntKind} [h1 : TInt P t1 K1] [h2 : TStr P t2] {r : Nat} {l : List UInt8} (hx : ev n f x = .int K r) (hl : Utf8.encode r = bs l) (k : SH (nx md) P n ops Q rest (upd f d (.string (bs l))) w0 H) : SH md P n ops Q (⟨some d, .convert t1 t2 x, ty, pos, aft, none⟩ :: rest) f w0 H := s_val (fun w hw => by
  intro d pos aft g
  simp [execOp, convert, hx, run_underlying h1.und, run_underlying h2.und, Conv.intToString, hl]) k
/-- A byte is looked for. -/
theorem ixb {g : FuncId} {fn : Func} {at_ : Array TypeId} {s : List UInt8} {u : UInt8} (hf : P.funcs[g]? = some fn) (hname : (fn.name == "runtime.NumGoroutine") = false) (hb : fn.body.isNone = true) (hn : Extern.findNext fn = none) (he : Extern.find fn = some Extern.BytealgIndexByte.indexByte)
    (hc : ev n f c = .func (.func g) #[] #[]) (hx : ev n f x = .string (bs s)) (hy : ev n f y = .int .u8 u.toNat) (k : SH (nx md) P n ops Q rest (upd f d (.int .i64 (Go.Lib.indexByte s u))) w0 H) : SH md P n ops Q (⟨some d, .call { callee := .value c, args := #[x, y], argTypes := at_ }, ty, pos, aft, none⟩ :: rest) f w0 H := s_val (fun w hw => by
  intro d pos aft g
  simp [execOp, resolve, hc, hx, hy, Deferred.ofValue, invoke]
  rw [run_callFunc_extern hf hname hb hn he, Go.Lib.run_indexByteString, bs_data]
  simp [Result.andThen]) k
/-- A high byte: some rune; the bytes that belong to it are high. -/
theorem nxR {b i : Nat} {s : List UInt8} (hm : addOK md = true) (hx : ev n f x = .pointer (some ⟨b, 0, none⟩)) (hs : Split H (itr b s i) R) (hi : i < s.length) (ha : 128 ≤ (s.getD i 0).toNat)
    (hk : ∀ j, keeps md (itr b s j :: R)) (k : ∀ r j : Nat, 128 ≤ r → r ≤ 2147483647 → i < j → (∀ q, i ≤ q → q < j → 128 ≤ (s.getD q 0).toNat) → SH (nx md) P n ops Q rest (upd f d (.tuple #[.bool true, .int .i64 i, .int .i32 r])) w0 (itr b s j :: R)) : SH md P n ops Q (⟨some d, .next x true, ty, pos, aft, none⟩ :: rest) f w0 H :=
  s_mut hm fun w hw => by
    obtain ⟨hb, _⟩ := Wd.itr_open hw hs
    have hi' : i < (bs s).size := by rw [bs_size]; exact hi
    obtain ⟨h1, h2⟩ := decode_high (bs s) i hi' (by rw [bs_get]; exact ha)
    have h3 := decode_le (bs s) i
    exact wl_val (w' := w.iterAt b (bs s) (i + (Utf8.decode (bs s) i).2)) (by
      intro d pos aft g
      have hn := Go.Lib.run_next_any_at (P := P) w b (bs s) i ty hb hi'
      simp [execOp, hx, hn]) (wl_nil ⟨rfl, _, hk _, k _ _ h1 h3 (by omega) (fun q h4 h5 => decode_skip ha h4 h5), Wd.itr_set hw hs _⟩)
end
end Go.Proofs.Ytplhnnlklnbahaa

/- Layer 37 (chat): package strings: IndexByte, IndexRune. -/
namespace Go.Proofs.Ytplhnnlklnbahaa
open Go.Fw Go.RowKit
section
variable {P : Program} {b : Frame} {a : Act} {k : List Item} {cs : List Frame} {w : World} {F : Fence} {n : Nat} {Q : Exit → Act → World → Prop}
theorem stepR_scope {c : Code} : step P (lone (b.atR a (.code (.scope c) :: k)) cs w) = .next (lone (b.atR a (.code c :: .inScope c :: k)) cs w) :=
  step_lone_go (by simp [stepG, stepG.exec, Frame.atR])
theorem stepR_inScope {c : Code} : step P (lone (b.atR a (.inScope c :: k)) cs w) = .next (lone (b.atR a k) cs w) :=
  step_lone_go (by simp [stepG, stepG.exec, Frame.atR])
theorem wpIn_scope {c : Code} (h : c.wpIn F n P (fun e a w => (∀ l, e ≠ .goto l) ∧ Q e a w) a w) : (Code.scope c).wpIn F n P Q a w := by
  intro b k cs hro hb hr
  have h0 : (lone (b.atR a (.code (.scope c) :: k)) cs w).fenced P F := fenced_calm hb hr rfl
  obtain ⟨e, a₁, w₁, ⟨hg, hq⟩, harr⟩ := h b (.inScope c :: k) cs hro hb hr
  cases e with
  | normal => exact ⟨.normal, a₁, w₁, hq, .head h0 stepR_scope (StepsIn.trans harr (.one (fenced_calm hb hr rfl) stepR_inScope))⟩
  | exit id =>
    have hx : exitTo id (.inScope c :: k) = exitTo id k := by simp [exitTo]
    exact ⟨_, a₁, w₁, hq, fun k' hk => .head h0 stepR_scope (harr.1 k' (by rw [hx]; exact hk)),
      fun hr' hk => let ⟨k₁, h1, h2⟩ := harr.2 hr' (by rw [hx]; exact hk); ⟨k₁, h1, .head h0 stepR_scope h2⟩⟩
  | goto l => exact absurd rfl (hg l)
  | ret => exact ⟨_, a₁, w₁, hq, .of_steps (.one h0 stepR_scope) harr⟩
  | panic ch => exact ⟨_, a₁, w₁, hq, .of_steps (.one h0 stepR_scope) harr⟩
  | outgrown => exact ⟨_, a₁, w₁, hq, .of_steps (.one h0 stepR_scope) harr⟩
end
structure scopeH (Q : HQ) (e : Exit) (f : Fr) (H : List HP) : Prop where
  out : (∀ l, e ≠ .goto l) ∧ Q e f H
section
variable {P : Program} {n : Nat} {Q : HQ} {f : Fr} {w0 : World} {H : List HP}
theorem sc_ret (h : Q .ret f H) : scopeH Q .ret f H := ⟨fun _ => Exit.noConfusion, h⟩
/-- A scope through which the run goes without a goto. -/
theorem v_scope {c : Code} (h : VH P n c (scopeH Q) f w0 H) : VH P n (.scope c) Q f w0 H :=
  ⟨fun w hw => ⟨fun m => wpIn_scope (wpIn_mono ((h.out w hw).out m) fun e a w ⟨he, f', ha, hr, H', ⟨hg, hq⟩, h2⟩ => ⟨hg, he, f', ha, hr, H', hq, h2⟩)⟩⟩
end
abbrev spS : List UInt8 := [32, 42]
set_option maxRecDepth 100000 in
theorem indexByteL_spec (s : List UInt8) (u : UInt8) (w : World) : Ret Try.prog 104 [.string (bs s), .int .u8 u.toNat].toArray w (Out w (.int .i64 (Go.Lib.indexByte s u))) := by
  refine enterH Try.func104 rfl rfl Try.ntmps104 rfl (Wd.refl _) ?_
  (repeat' (first | (show VH _ _ _ _ _ _ _; first | refine v_seq ?_ | refine r_seq ?_) | (show SH _ _ _ _ _ (_ :: _) _ _ _; first | (show SH _ _ _ _ _ (⟨_, .move _, _, _, _, _⟩ :: _) _ _ _; refine mov evL ?_) | (show SH _ _ _ _ _ (⟨_, .assign _, _, _, _, _⟩ :: _) _ _ _; refine asg evL ?_)) | refine s_nil ?_ | refine kh_normal ?_))
  refine ixb Try.func105 (by kernel_rfl) (by kernel_rfl) (by kernel_rfl) (by kernel_rfl) rfl rfl rfl ?_
  (repeat' (first | refine v_ret ?_ | (show SH _ _ _ _ _ (_ :: _) _ _ _; (show SH _ _ _ _ _ (⟨_, .assign _, _, _, _, _⟩ :: _) _ _ _; refine asg evL ?_)) | refine s_nil ?_ | refine kh_normal ?_))
  exact rh1 rfl rfl ⟨rfl, rfl⟩ (ent_nil _)
set_option maxRecDepth 100000 in
theorem indexByte_spec (s : List UInt8) (u : UInt8) (w : World) : Ret Try.prog 100 [.string (bs s), .int .u8 u.toNat].toArray w (Out w (.int .i64 (Go.Lib.indexByte s u))) := by
  refine enterH Try.func100 rfl rfl Try.ntmps100 rfl (Wd.refl _) ?_
  (repeat' (first | (show VH _ _ _ _ _ _ _; first | refine v_seq ?_ | refine r_seq ?_ | refine v_ret ?_) | (show SH _ _ _ _ _ (_ :: _) _ _ _; first | (show SH _ _ _ _ _ (⟨_, .move _, _, _, _, _⟩ :: _) _ _ _; refine mov evL ?_) | (show SH _ _ _ _ _ (⟨_, .assign _, _, _, _, _⟩ :: _) _ _ _; refine asg evL ?_) | (show SH _ _ _ _ _ (⟨_, .call ⟨.value (.func 104), _, _⟩, _, _, _, _⟩ :: _) _ _ _; refine cl (callee := .func 104) rfl (fun w hw => indexByteL_spec s u w) rfl rfl ?_)) | refine s_nil ?_ | refine kh_normal ?_))
  exact rh1 rfl rfl ⟨rfl, rfl⟩ (ent_nil _)
def validU (r : Nat) : Bool := decide (r < 55296) || (decide (57343 < r) && decide (r ≤ 1114111))
set_option maxRecDepth 100000 in
theorem validRune_spec (r : Nat) (w : World) : Ret Try.prog 101 [.int .i32 r].toArray w (Out w (.bool (validU r))) := by
  by_cases h1 : r < 55296
  · rw [show validU r = true by unfold validU; rw [decide_eq_true h1]; rfl]
    refine enterH Try.func101 rfl rfl Try.ntmps101 rfl (Wd.refl _) ?_
    (repeat' (first | (show VH _ _ _ _ _ _ _; first | refine v_seq ?_ | refine r_seq ?_ | refine v_block ?_ | refine v_ret ?_ | refine v_cond_t rfl tbL ?_) | (show SH _ _ _ _ _ (_ :: _) _ _ _; first | (show SH _ _ _ _ _ (⟨_, _, _, _, _, some _⟩ :: _) _ _ _; (refine gif rfl rfl ?_; refine giTT tbL ?_)) | (show SH _ _ _ _ _ (⟨_, .move _, _, _, _, _⟩ :: _) _ _ _; refine mov evL ?_) | (show SH _ _ _ _ _ (⟨_, .assign _, _, _, _, _⟩ :: _) _ _ _; refine asg evL ?_) | (show SH _ _ _ _ _ (⟨_, .binOp .lss _ _ _ _, _, _, _, _⟩ :: _) _ _ _; refine lssT rfl rfl omD ?_) | (show SH _ _ _ _ _ (⟨_, .binOp .leq _ _ _ _, _, _, _, _⟩ :: _) _ _ _; refine leqT rfl rfl omD ?_) | (show SH _ _ _ _ _ (⟨_, .pick _ _ _, _, _, _, _⟩ :: _) _ _ _; refine pkt rfl tbL evL ?_)) | refine s_nil ?_ | refine kh_normal ?_ | refine kh_ret ?_ | refine bh_ret ?_))
    exact rh1 rfl rfl ⟨rfl, rfl⟩ (ent_nil _)
  · by_cases h2 : 57343 < r
    · by_cases h3 : r ≤ 1114111
      · rw [show validU r = true by unfold validU; rw [decide_eq_true h2, decide_eq_true h3, Bool.and_self, Bool.or_true]]
        refine enterH Try.func101 rfl rfl Try.ntmps101 rfl (Wd.refl _) ?_
        (repeat' (first | (show VH _ _ _ _ _ _ _; first | refine v_seq ?_ | refine r_seq ?_ | refine v_block ?_ | refine v_ret ?_ | refine v_cond_t rfl tbL ?_ | refine v_cond_f rfl tbL ?_) | (show SH _ _ _ _ _ (_ :: _) _ _ _; first | (show SH _ _ _ _ _ (⟨_, _, _, _, _, some _⟩ :: _) _ _ _; (refine gif rfl rfl ?_; refine giTT tbL ?_)) | (show SH _ _ _ _ _ (⟨_, .move _, _, _, _, _⟩ :: _) _ _ _; refine mov evL ?_) | (show SH _ _ _ _ _ (⟨_, .assign _, _, _, _, _⟩ :: _) _ _ _; refine asg evL ?_) | (show SH _ _ _ _ _ (⟨_, .binOp .lss _ _ _ _, _, _, _, _⟩ :: _) _ _ _; first | refine lssT rfl rfl omD ?_ | refine lssF rfl rfl omD ?_) | (show SH _ _ _ _ _ (⟨_, .binOp .leq _ _ _ _, _, _, _, _⟩ :: _) _ _ _; refine leqT rfl rfl omD ?_) | (show SH _ _ _ _ _ (⟨_, .pick _ _ _, _, _, _, _⟩ :: _) _ _ _; refine pkt rfl tbL evL ?_)) | refine s_nil ?_ | refine kh_normal ?_ | refine kh_ret ?_ | refine bh_ret ?_))
        exact rh1 rfl rfl ⟨rfl, rfl⟩ (ent_nil _)
      · rw [show validU r = false by unfold validU; rw [decide_eq_false h1, decide_eq_false h3, Bool.and_false]; rfl]
        refine enterH Try.func101 rfl rfl Try.ntmps101 rfl (Wd.refl _) ?_
        (repeat' (first | (show VH _ _ _ _ _ _ _; first | refine v_seq ?_ | refine r_seq ?_ | refine v_block ?_ | refine v_ret ?_ | refine v_skip ?_ | refine v_cond_f rfl tbL ?_) | (show SH _ _ _ _ _ (_ :: _) _ _ _; first | (show SH _ _ _ _ _ (⟨_, _, _, _, _, some _⟩ :: _) _ _ _; (refine gif rfl rfl ?_; refine giTT tbL ?_)) | (show SH _ _ _ _ _ (⟨_, .move _, _, _, _, _⟩ :: _) _ _ _; refine mov evL ?_) | (show SH _ _ _ _ _ (⟨_, .assign _, _, _, _, _⟩ :: _) _ _ _; refine asg evL ?_) | (show SH _ _ _ _ _ (⟨_, .binOp .lss _ _ _ _, _, _, _, _⟩ :: _) _ _ _; first | refine lssT rfl rfl omD ?_ | refine lssF rfl rfl omD ?_) | (show SH _ _ _ _ _ (⟨_, .binOp .leq _ _ _ _, _, _, _, _⟩ :: _) _ _ _; first | refine leqT rfl rfl omD ?_ | refine leqF rfl rfl omD ?_) | (show SH _ _ _ _ _ (⟨_, .pick _ _ _, _, _, _, _⟩ :: _) _ _ _; refine pkt rfl tbL evL ?_)) | refine s_nil ?_ | refine kh_normal ?_ | refine bh_normal ?_))
        exact rh1 rfl rfl ⟨rfl, rfl⟩ (ent_nil _)
    · rw [show validU r = false by unfold validU; rw [decide_eq_false h1, decide_eq_false h2, Bool.false_and]; rfl]
      refine enterH Try.func101 rfl rfl Try.ntmps101 rfl (Wd.refl _) ?_
      (repeat' (first | (show VH _ _ _ _ _ _ _; first | refine v_seq ?_ | refine r_seq ?_ | refine v_block ?_ | refine v_ret ?_ | refine v_skip ?_ | refine v_cond_f rfl tbL ?_) | (show SH _ _ _ _ _ (_ :: _) _ _ _; first | (show SH _ _ _ _ _ (⟨_, _, _, _, _, some _⟩ :: _) _ _ _; (refine gif rfl rfl ?_; first | refine giTT tbL ?_ | refine giTF tbL ?_)) | (show SH _ _ _ _ _ (⟨_, .move _, _, _, _, _⟩ :: _) _ _ _; refine mov evL ?_) | (show SH _ _ _ _ _ (⟨_, .assign _, _, _, _, _⟩ :: _) _ _ _; refine asg evL ?_) | (show SH _ _ _ _ _ (⟨_, .binOp .lss _ _ _ _, _, _, _, _⟩ :: _) _ _ _; refine lssF rfl rfl omD ?_) | (show SH _ _ _ _ _ (⟨_, .binOp .leq _ _ _ _, _, _, _, _⟩ :: _) _ _ _; refine leqT rfl rfl omD ?_) | (show SH _ _ _ _ _ (⟨_, .pick _ _ _, _, _, _, _⟩ :: _) _ _ _; first | refine pkt rfl tbL evL ?_ | refine pkf rfl tbL evL ?_)) | refine s_nil ?_ | refine kh_normal ?_ | refine bh_normal ?_))
      exact rh1 rfl rfl ⟨rfl, rfl⟩ (ent_nil _)
theorem indexByte_nil (u : UInt8) : Go.Lib.indexByte [] u = -1 := rfl
set_option maxHeartbeats 2000000 in
set_option maxRecDepth 100000 in
theorem indexRuneA_spec (u : UInt8) (hu : u.toNat < 128) (w : World) : Ret Try.prog 94 [.string (bs spS), .int .i32 u.toNat].toArray w (Out w (.int .i64 (Go.Lib.indexByte spS u))) := by
  have hI := fun w => indexByte_spec spS u w
  have hw8 : IntKind.u8.wrap (u.toNat : Int) = (u.toNat : Int) := by rw [IntKind.wrap_u8]; omega
  rw [← hw8] at hI
  clear hw8
  refine enterH Try.func94 rfl rfl Try.ntmps94 rfl (Wd.refl _) ?_
  (repeat' (first | (show VH _ _ _ _ _ _ _; first | refine v_seq ?_ | refine r_seq ?_ | refine v_block ?_ | refine v_ret ?_ | refine v_cond_t rfl tbL ?_) | (show SH _ _ _ _ _ (_ :: _) _ _ _; first | (show SH _ _ _ _ _ (⟨_, _, _, _, _, some _⟩ :: _) _ _ _; (refine gif rfl rfl ?_; refine giTT tbL ?_)) | (show SH _ _ _ _ _ (⟨_, .move _, _, _, _, _⟩ :: _) _ _ _; refine mov evL ?_) | (show SH _ _ _ _ _ (⟨_, .assign _, _, _, _, _⟩ :: _) _ _ _; refine asg evL ?_) | (show SH _ _ _ _ _ (⟨_, .binOp .lss _ _ _ _, _, _, _, _⟩ :: _) _ _ _; refine lssT rfl rfl omD ?_) | (show SH _ _ _ _ _ (⟨_, .binOp .leq _ _ _ _, _, _, _, _⟩ :: _) _ _ _; refine leqT rfl rfl omD ?_) | (show SH _ _ _ _ _ (⟨_, .call ⟨.value (.func 100), _, _⟩, _, _, _, _⟩ :: _) _ _ _; refine cl (callee := .func 100) rfl (fun w hw => hI w) rfl rfl ?_) | (show SH _ _ _ _ _ (⟨_, .pick _ _ _, _, _, _, _⟩ :: _) _ _ _; refine pkt rfl tbL evL ?_) | refine cnv rfl ?_) | refine s_nil ?_ | refine kh_normal ?_ | refine bh_ret ?_))
  exact rh1 rfl rfl ⟨rfl, rfl⟩ (ent_nil _)
set_option maxHeartbeats 4000000 in
set_option maxRecDepth 100000 in
theorem indexRuneH_spec (r : Nat) (h1 : 128 ≤ r) (h2 : r ≤ 2147483647) (w : World) : Ret Try.prog 94 [.string (bs spS), .int .i32 r].toArray w (Out w (.int .i64 (-1))) := by
  by_cases he : r = 65533
  · subst he
    refine enterH Try.func94 rfl rfl Try.ntmps94 rfl (Wd.refl _) ?_
    (repeat' (first | (show VH _ _ _ _ _ _ _; first | refine v_seq ?_ | refine r_seq ?_ | refine v_block ?_ | refine v_cond_t rfl tbL ?_ | refine v_cond_f rfl tbL ?_) | (show SH _ _ _ _ _ (_ :: _) _ _ _; first | (show SH _ _ _ _ _ (⟨_, _, _, _, _, some _⟩ :: _) _ _ _; (refine gif rfl rfl ?_; refine giTT tbL ?_)) | (show SH _ _ _ _ _ (⟨_, .move _, _, _, _, _⟩ :: _) _ _ _; refine mov evL ?_) | (show SH _ _ _ _ _ (⟨_, .assign _, _, _, _, _⟩ :: _) _ _ _; refine asg evL ?_) | (show SH _ _ _ _ _ (⟨_, .binOp .lss _ _ _ _, _, _, _, _⟩ :: _) _ _ _; refine lssF rfl rfl omD ?_) | (show SH _ _ _ _ _ (⟨_, .binOp .leq _ _ _ _, _, _, _, _⟩ :: _) _ _ _; refine leqT rfl rfl omD ?_) | (show SH _ _ _ _ _ (⟨_, .binOp .eql _ _ _ _, _, _, _, _⟩ :: _) _ _ _; refine eqlT rfl rfl omD ?_) | (show SH _ _ _ _ _ (⟨_, .pick _ _ _, _, _, _, _⟩ :: _) _ _ _; refine pkt rfl tbL evL ?_)) | refine s_nil ?_ | refine kh_normal ?_))
    refine rgs (s := spS) rfl rfl fun b => ?_
    (repeat' (first | refine v_block ?_ | refine s_nil ?_ | refine kh_normal ?_))
    refine v_norm [(175,_)] heL (fun g => ?_)
    refine v_loop [(4,6),(176,182)] (fun _ : Nat => []) (fun k => [itr b spS k]) (fun k => k ≤ 2) (fun k => 2 - k) 0 hsL enL (Nat.zero_le _) ?_
    rintro k g hk
    simp only [sets]
    have hk' : k = 0 ∨ k = 1 ∨ k = 2 := by omega
    rcases hk' with rfl | rfl | rfl
    · (repeat' ((show VH _ _ _ _ _ _ _; first | refine v_seq ?_ | refine r_seq ?_)))
      refine nxA rfl rfl spL (by decide) (by decide) trivial ?_
      (repeat' (first | (show VH _ _ _ _ _ _ _; first | refine v_seq ?_ | refine r_seq ?_ | refine v_block ?_ | refine v_skip ?_ | refine v_cond_t rfl tbL ?_ | refine v_cond_f rfl tbL ?_) | (show SH _ _ _ _ _ (_ :: _) _ _ _; first | (show SH _ _ _ _ _ (⟨_, .move _, _, _, _, _⟩ :: _) _ _ _; refine mov evL ?_) | (show SH _ _ _ _ _ (⟨_, .assign _, _, _, _, _⟩ :: _) _ _ _; refine asg evL ?_) | refine eql rfl rfl ?_ | refine extr rfl rfl ?_) | refine s_nil ?_ | refine kh_normal ?_ | refine bh_normal ?_))
      exact ⟨agL, 1, hsL, enL, by decide, by decide⟩
    · (repeat' ((show VH _ _ _ _ _ _ _; first | refine v_seq ?_ | refine r_seq ?_)))
      refine nxA rfl rfl spL (by decide) (by decide) trivial ?_
      (repeat' (first | (show VH _ _ _ _ _ _ _; first | refine v_seq ?_ | refine r_seq ?_ | refine v_block ?_ | refine v_skip ?_ | refine v_cond_t rfl tbL ?_ | refine v_cond_f rfl tbL ?_) | (show SH _ _ _ _ _ (_ :: _) _ _ _; first | (show SH _ _ _ _ _ (⟨_, .move _, _, _, _, _⟩ :: _) _ _ _; refine mov evL ?_) | (show SH _ _ _ _ _ (⟨_, .assign _, _, _, _, _⟩ :: _) _ _ _; refine asg evL ?_) | refine eql rfl rfl ?_ | refine extr rfl rfl ?_) | refine s_nil ?_ | refine kh_normal ?_ | refine bh_normal ?_))
      exact ⟨agL, 2, hsL, enL, by decide, by decide⟩
    · (repeat' ((show VH _ _ _ _ _ _ _; first | refine v_seq ?_ | refine r_seq ?_)))
      refine nxE rfl rfl spL (by decide) trivial ?_
      (repeat' (first | (show VH _ _ _ _ _ _ _; first | refine v_seq ?_ | refine r_seq ?_ | refine v_ret ?_ | refine v_exit ?_ | refine v_cond_f rfl tbL ?_) | (show SH _ _ _ _ _ (_ :: _) _ _ _; first | (show SH _ _ _ _ _ (⟨_, .assign _, _, _, _, _⟩ :: _) _ _ _; refine asg evL ?_) | refine extr rfl rfl ?_) | refine s_nil ?_ | refine kh_normal ?_ | refine kh_exit ?_ | refine bh_ret ?_ | refine bh_exit ?_))
      exact rh1 rfl rfl ⟨rfl, rfl⟩ (ent_nil _)
  · have hv := fun w => validRune_spec r w
    cases hvr : validU r with
    | false =>
      rw [hvr] at hv
      refine enterH Try.func94 rfl rfl Try.ntmps94 rfl (Wd.refl _) ?_
      (repeat' (first | (show VH _ _ _ _ _ _ _; first | refine v_seq ?_ | refine r_seq ?_ | refine v_block ?_ | refine v_ret ?_ | refine v_cond_t rfl tbL ?_ | refine v_cond_f rfl tbL ?_) | (show SH _ _ _ _ _ (_ :: _) _ _ _; first | (show SH _ _ _ _ _ (⟨_, _, _, _, _, some _⟩ :: _) _ _ _; (refine gif rfl rfl ?_; refine giTT tbL ?_)) | (show SH _ _ _ _ _ (⟨_, .move _, _, _, _, _⟩ :: _) _ _ _; refine mov evL ?_) | (show SH _ _ _ _ _ (⟨_, .assign _, _, _, _, _⟩ :: _) _ _ _; refine asg evL ?_) | (show SH _ _ _ _ _ (⟨_, .binOp .lss _ _ _ _, _, _, _, _⟩ :: _) _ _ _; refine lssF rfl rfl omD ?_) | (show SH _ _ _ _ _ (⟨_, .binOp .leq _ _ _ _, _, _, _, _⟩ :: _) _ _ _; refine leqT rfl rfl omD ?_) | (show SH _ _ _ _ _ (⟨_, .binOp .eql _ _ _ _, _, _, _, _⟩ :: _) _ _ _; refine eqlF rfl rfl omD ?_) | (show SH _ _ _ _ _ (⟨_, .call ⟨.value (.func 101), _, _⟩, _, _, _, _⟩ :: _) _ _ _; refine cl (callee := .func 101) rfl (fun w hw => hv w) rfl rfl ?_) | refine bnoF rfl ?_ | (show SH _ _ _ _ _ (⟨_, .pick _ _ _, _, _, _, _⟩ :: _) _ _ _; refine pkt rfl tbL evL ?_)) | refine s_nil ?_ | refine kh_normal ?_ | refine bh_ret ?_))
      exact rh1 rfl rfl ⟨rfl, rfl⟩ (ent_nil _)
    | true =>
      rw [hvr] at hv
      obtain ⟨l, hl, hl2, hl4, hlh⟩ := encode_high h1
      by_cases h3 : l.length = 2
      · obtain ⟨a, c, rfl⟩ : ∃ a c, l = [a, c] := by
          match l, h3 with
          | [a, c], _ => exact ⟨a, c, rfl⟩
        have hc : 128 ≤ c.toNat := hlh
        clear hlh hl2 hl4 h3
        have hne : ¬ ((42 : UInt8).toNat : Int) = (c.toNat : Int) := by
          have : (42 : UInt8).toNat = 42 := rfl
          omega
        have hI := fun w => indexByte_spec [] c w
        rw [indexByte_nil] at hI
        have hl' : ∀ z : List Value, z = z → Utf8.encode r = bs [a, c] := fun _ _ => hl
        clear hl
        refine enterH Try.func94 rfl rfl Try.ntmps94 rfl (Wd.refl _) ?_
        (repeat' ((fail_if_success (show VH _ _ (.seq (.region 1 _ _) _) _ _ _ _)); first | (show VH _ _ _ _ _ _ _; first | refine v_seq ?_ | refine r_seq ?_ | refine v_block ?_ | refine v_cond_f rfl tbL ?_) | (show SH _ _ _ _ _ (_ :: _) _ _ _; first | (show SH _ _ _ _ _ (⟨_, _, _, _, _, some _⟩ :: _) _ _ _; (refine gif rfl rfl ?_; refine giTT tbL ?_)) | (show SH _ _ _ _ _ (⟨_, .move _, _, _, _, _⟩ :: _) _ _ _; refine mov evL ?_) | (show SH _ _ _ _ _ (⟨_, .assign _, _, _, _, _⟩ :: _) _ _ _; refine asg evL ?_) | (show SH _ _ _ _ _ (⟨_, .binOp .lss _ _ _ _, _, _, _, _⟩ :: _) _ _ _; refine lssF rfl rfl omD ?_) | (show SH _ _ _ _ _ (⟨_, .binOp .leq _ _ _ _, _, _, _, _⟩ :: _) _ _ _; refine leqT rfl rfl omD ?_) | (show SH _ _ _ _ _ (⟨_, .binOp .eql _ _ _ _, _, _, _, _⟩ :: _) _ _ _; refine eqlF rfl rfl omD ?_) | (show SH _ _ _ _ _ (⟨_, .call ⟨.value (.func 101), _, _⟩, _, _, _, _⟩ :: _) _ _ _; refine cl (callee := .func 101) rfl (fun w hw => hv w) rfl rfl ?_) | refine bnoT rfl ?_ | (show SH _ _ _ _ _ (⟨_, .pick _ _ _, _, _, _, _⟩ :: _) _ _ _; refine pkt rfl tbL evL ?_)) | refine s_nil ?_ | refine kh_normal ?_))
        refine v_scope ?_
        (repeat' (first | (show VH _ _ _ _ _ _ _; first | refine v_seq ?_ | refine r_seq ?_) | (show SH _ _ _ _ _ (_ :: _) _ _ _; (show SH _ _ _ _ _ (⟨_, .move _, _, _, _, _⟩ :: _) _ _ _; refine mov evL ?_))))
        refine i2s rfl (hl' [] rfl) ?_
        (repeat' ((fail_if_success (show VH _ _ (.seq (.region 2 _ _) _) _ _ _ _)); first | (show SH _ _ _ _ _ (_ :: _) _ _ _; (show SH _ _ _ _ _ (⟨_, .assign _, _, _, _, _⟩ :: _) _ _ _; refine asg evL ?_)) | refine s_nil ?_ | refine kh_normal ?_))
        (repeat (first | (show VH _ _ _ _ _ _ _; first | refine v_seq ?_ | refine r_seq ?_) | (show SH _ _ _ _ _ (_ :: _) _ _ _; first | (show SH _ _ _ _ _ (⟨_, .move _, _, _, _, _⟩ :: _) _ _ _; refine mov evL ?_) | refine sln rfl ?_)))
        rw [show ((([a, c] : List UInt8).length : Nat) : Int) = 2 from rfl]
        (repeat' ((fail_if_success (show VH _ _ (.seq (.region 3 _ _) _) _ _ _ _)); first | (show SH _ _ _ _ _ (_ :: _) _ _ _; first | (show SH _ _ _ _ _ (⟨_, .assign _, _, _, _, _⟩ :: _) _ _ _; refine asg evL ?_) | (show SH _ _ _ _ _ (⟨_, .binOp .sub _ _ _ _, _, _, _, _⟩ :: _) _ _ _; refine sub rfl rfl inL ?_)) | refine s_nil ?_ | refine kh_normal ?_))
        rw [show (2 : Int) - 1 = ((1 : Nat) : Int) from rfl]
        (repeat' ((fail_if_success (show VH _ _ (.seq (.region 5 _ _) _) _ _ _ _)); first | (show VH _ _ _ _ _ _ _; first | refine v_seq ?_ | refine r_seq ?_ | refine v_block ?_) | (show SH _ _ _ _ _ (_ :: _) _ _ _; first | (show SH _ _ _ _ _ (⟨_, .move _, _, _, _, _⟩ :: _) _ _ _; refine mov evL ?_) | (show SH _ _ _ _ _ (⟨_, .assign _, _, _, _, _⟩ :: _) _ _ _; refine asg evL ?_)) | refine s_nil ?_ | refine kh_normal ?_))
        have hne : ¬ (((spS.getD 1 0).toNat : Nat) : Int) = ((([a, c] : List UInt8).getD 1 0).toNat : Int) := hne
        have hs2 : spS.length = 2 := rfl
        have ha2 : ([a, c] : List UInt8).length = 2 := rfl
        refine v_loop0 [(4,4),(9,12),(23,98)] (fun _ : Unit => [(9, .int .i64 ((1 : Nat) : Int)), (10, .int .i64 0)]) (fun _ => True) (fun _ => 0) () hsL trivial ?_
        rintro _ g _
        simp only [sets]
        (repeat' (first | (show VH _ _ _ _ _ _ _; first | refine v_seq ?_ | refine r_seq ?_ | refine v_block ?_ | refine v_skip ?_ | refine v_cond_t rfl tbL ?_) | (show SH _ _ _ _ _ (_ :: _) _ _ _; first | (show SH _ _ _ _ _ (⟨_, .move _, _, _, _, _⟩ :: _) _ _ _; refine mov evL ?_) | (show SH _ _ _ _ _ (⟨_, .binOp .lss _ _ _ _, _, _, _, _⟩ :: _) _ _ _; refine lssT rfl rfl omD ?_) | refine sln rfl ?_) | refine s_nil ?_ | refine kh_normal ?_))
        refine v_scope ?_
        (repeat' (first | (show VH _ _ _ _ _ _ _; first | refine v_seq ?_ | refine r_quiet hmix (by kernel_rfl) ?_ | refine v_cond_t rfl tbL ?_) | (show SH _ _ _ _ _ (_ :: _) _ _ _; first | (show SH _ _ _ _ _ (⟨_, .move _, _, _, _, _⟩ :: _) _ _ _; refine mov evL ?_) | (show SH _ _ _ _ _ (⟨_, .binOp .neq _ _ _ _, _, _, _, _⟩ :: _) _ _ _; refine neqT rfl rfl omD ?_) | (show SH _ _ _ _ _ (⟨_, .binOp .add _ _ _ _, _, _, _, _⟩ :: _) _ _ _; refine add rfl rfl inL ?_) | (show SH _ _ _ _ _ (⟨_, .index _ _ _, _, _, _, _⟩ :: _) _ _ _; refine six rfl rfl (by with_reducible rfl) omL ?_)) | refine s_nil ?_ | refine kh_normal ?_))
        refine sls (lo := 2) rfl rfl rfl (by decide) ?_
        (repeat' (first | (show VH _ _ _ _ _ _ _; first | refine v_seq ?_ | refine r_seq ?_ | refine v_ret ?_ | refine v_cond_t rfl tbL ?_) | (show SH _ _ _ _ _ (_ :: _) _ _ _; first | (show SH _ _ _ _ _ (⟨_, .move _, _, _, _, _⟩ :: _) _ _ _; refine mov evL ?_) | (show SH _ _ _ _ _ (⟨_, .assign _, _, _, _, _⟩ :: _) _ _ _; refine asg evL ?_) | (show SH _ _ _ _ _ (⟨_, .binOp .lss _ _ _ _, _, _, _, _⟩ :: _) _ _ _; refine lssT rfl rfl omD ?_) | (show SH _ _ _ _ _ (⟨_, .index _ _ _, _, _, _, _⟩ :: _) _ _ _; refine six rfl rfl (by with_reducible rfl) omL ?_) | (show SH _ _ _ _ _ (⟨_, .call ⟨.value (.func 100), _, _⟩, _, _, _, _⟩ :: _) _ _ _; refine cl (callee := .func 100) rfl (fun w hw => hI w) rfl rfl ?_)) | refine s_nil ?_ | refine kh_normal ?_ | refine kh_ret ?_))
        refine sc_ret ?_
        (repeat' (first | refine kh_ret ?_ | refine bh_ret ?_))
        refine sc_ret ?_
        (repeat' (refine bh_ret ?_))
        exact rh1 rfl rfl ⟨rfl, rfl⟩ (ent_nil _)
      · have hs2 : spS.length = 2 := rfl
        have h5 : 3 ≤ l.length := by omega
        clear hlh hl2 h3
        have hl' : ∀ z : List Value, z = z → Utf8.encode r = bs l := fun _ _ => hl
        clear hl
        refine enterH Try.func94 rfl rfl Try.ntmps94 rfl (Wd.refl _) ?_
        (repeat' ((fail_if_success (show VH _ _ (.seq (.region 1 _ _) _) _ _ _ _)); first | (show VH _ _ _ _ _ _ _; first | refine v_seq ?_ | refine r_seq ?_ | refine v_block ?_ | refine v_cond_f rfl tbL ?_) | (show SH _ _ _ _ _ (_ :: _) _ _ _; first | (show SH _ _ _ _ _ (⟨_, _, _, _, _, some _⟩ :: _) _ _ _; (refine gif rfl rfl ?_; refine giTT tbL ?_)) | (show SH _ _ _ _ _ (⟨_, .move _, _, _, _, _⟩ :: _) _ _ _; refine mov evL ?_) | (show SH _ _ _ _ _ (⟨_, .assign _, _, _, _, _⟩ :: _) _ _ _; refine asg evL ?_) | (show SH _ _ _ _ _ (⟨_, .binOp .lss _ _ _ _, _, _, _, _⟩ :: _) _ _ _; refine lssF rfl rfl omD ?_) | (show SH _ _ _ _ _ (⟨_, .binOp .leq _ _ _ _, _, _, _, _⟩ :: _) _ _ _; refine leqT rfl rfl omD ?_) | (show SH _ _ _ _ _ (⟨_, .binOp .eql _ _ _ _, _, _, _, _⟩ :: _) _ _ _; refine eqlF rfl rfl omD ?_) | (show SH _ _ _ _ _ (⟨_, .call ⟨.value (.func 101), _, _⟩, _, _, _, _⟩ :: _) _ _ _; refine cl (callee := .func 101) rfl (fun w hw => hv w) rfl rfl ?_) | refine bnoT rfl ?_ | (show SH _ _ _ _ _ (⟨_, .pick _ _ _, _, _, _, _⟩ :: _) _ _ _; refine pkt rfl tbL evL ?_)) | refine s_nil ?_ | refine kh_normal ?_))
        refine v_scope ?_
        (repeat' (first | (show VH _ _ _ _ _ _ _; first | refine v_seq ?_ | refine r_seq ?_) | (show SH _ _ _ _ _ (_ :: _) _ _ _; (show SH _ _ _ _ _ (⟨_, .move _, _, _, _, _⟩ :: _) _ _ _; refine mov evL ?_))))
        refine i2s rfl (hl' [] rfl) ?_
        (repeat' (first | (show VH _ _ _ _ _ _ _; first | refine v_seq ?_ | refine r_seq ?_ | refine v_block ?_) | (show SH _ _ _ _ _ (_ :: _) _ _ _; first | (show SH _ _ _ _ _ (⟨_, .move _, _, _, _, _⟩ :: _) _ _ _; refine mov evL ?_) | (show SH _ _ _ _ _ (⟨_, .assign _, _, _, _, _⟩ :: _) _ _ _; refine asg evL ?_) | (show SH _ _ _ _ _ (⟨_, .binOp .sub _ _ _ _, _, _, _, _⟩ :: _) _ _ _; refine sub rfl rfl inL ?_) | refine sln rfl ?_) | refine s_nil ?_ | refine kh_normal ?_))
        refine v_loop0 [(4,4),(9,12),(23,98)] (fun _ : Unit => [(9, .int .i64 ((l.length : Int) - 1)), (10, .int .i64 0)]) (fun _ => True) (fun _ => 0) () hsL trivial ?_
        rintro _ g _
        simp only [sets]
        (repeat' (first | (show VH _ _ _ _ _ _ _; first | refine v_seq ?_ | refine r_seq ?_ | refine v_ret ?_ | refine v_exit ?_ | refine v_cond_f rfl tbL ?_) | (show SH _ _ _ _ _ (_ :: _) _ _ _; first | (show SH _ _ _ _ _ (⟨_, .move _, _, _, _, _⟩ :: _) _ _ _; refine mov evL ?_) | (show SH _ _ _ _ _ (⟨_, .assign _, _, _, _, _⟩ :: _) _ _ _; refine asg evL ?_) | (show SH _ _ _ _ _ (⟨_, .binOp .lss _ _ _ _, _, _, _, _⟩ :: _) _ _ _; refine lssF rfl rfl omD ?_) | refine sln rfl ?_) | refine s_nil ?_ | refine kh_normal ?_ | refine kh_ret ?_ | refine kh_exit ?_ | refine bh_exit ?_))
        refine sc_ret ?_
        (repeat' (refine bh_ret ?_))
        exact rh1 rfl rfl ⟨rfl, rfl⟩ (ent_nil _)
end Go.Proofs.Ytplhnnlklnbahaa

/- Layer 37 (chat): low, isID, isTick, short. -/
namespace Go.Proofs.Ytplhnnlklnbahaa
open Go.Fw Go.RowKit
theorem isID37_spec (k : Int) (w : World) : Ret Try.prog 35 [.int .i64 k].toArray w (Out w (.bool (id37 k))) := by
  refine enterH Try.func35 rfl rfl Try.ntmps35 rfl (Wd.refl _) ?_
  (repeat' (first | (show VH _ _ _ _ _ _ _; first | refine v_seq ?_ | refine r_seq ?_ | refine v_ret ?_) | (show SH _ _ _ _ _ (_ :: _) _ _ _; first | (show SH _ _ _ _ _ (⟨_, _, _, _, _, some _⟩ :: _) _ _ _; (refine gif rfl rfl ?_; first | refine giTT tbL ?_ | refine giTF tbL ?_ | refine giTd (fun h => ?_) (fun h => ?_))) | (show SH _ _ _ _ _ (⟨_, .move _, _, _, _, _⟩ :: _) _ _ _; refine mov evL ?_) | (show SH _ _ _ _ _ (⟨_, .assign _, _, _, _, _⟩ :: _) _ _ _; refine asg evL ?_) | refine leq rfl rfl ?_ | refine geq rfl rfl ?_ | (show SH _ _ _ _ _ (⟨_, .pick _ _ _, _, _, _, _⟩ :: _) _ _ _; first | refine pkt rfl tbL evL ?_ | refine pkf rfl tbL evL ?_)) | refine s_nil ?_ | refine kh_normal ?_))
  all_goals exact rh1 rfl rfl ⟨congrArg Value.bool (by unfold id37; simp [*]), rfl⟩ (ent_nil _)
theorem isTick37_spec (k : Int) (w : World) : Ret Try.prog 31 [.int .i64 k].toArray w (Out w (.bool (tick37 k))) := by
  refine enterH Try.func31 rfl rfl Try.ntmps31 rfl (Wd.refl _) ?_
  (repeat' (first | (show VH _ _ _ _ _ _ _; first | refine v_seq ?_ | refine r_seq ?_ | refine v_ret ?_) | (show SH _ _ _ _ _ (_ :: _) _ _ _; first | (show SH _ _ _ _ _ (⟨_, _, _, _, _, some _⟩ :: _) _ _ _; (refine gif rfl rfl ?_; first | refine giTT tbL ?_ | refine giTF tbL ?_ | refine giTd (fun h => ?_) (fun h => ?_))) | (show SH _ _ _ _ _ (⟨_, .move _, _, _, _, _⟩ :: _) _ _ _; refine mov evL ?_) | (show SH _ _ _ _ _ (⟨_, .assign _, _, _, _, _⟩ :: _) _ _ _; refine asg evL ?_) | refine leq rfl rfl ?_ | refine geq rfl rfl ?_ | (show SH _ _ _ _ _ (⟨_, .pick _ _ _, _, _, _, _⟩ :: _) _ _ _; first | refine pkt rfl tbL evL ?_ | refine pkf rfl tbL evL ?_)) | refine s_nil ?_ | refine kh_normal ?_))
  all_goals exact rh1 rfl rfl ⟨congrArg Value.bool (by unfold tick37; simp [*]), rfl⟩ (ent_nil _)
end Go.Proofs.Ytplhnnlklnbahaa

/- Layer 37 (chat): rising, Contains, right. -/
namespace Go.Proofs.Ytplhnnlklnbahaa
open Go.Fw Go.RowKit
theorem right1_spec (k : Int) (w : World) : Ret Try.prog 66 [.int .i64 k].toArray w (Out w (.int .i64 k)) := by
  refine enterH Try.func66 rfl rfl Try.ntmps66 rfl (Wd.refl _) ?_
  (repeat' (first | (show VH _ _ _ _ _ _ _; first | refine v_seq ?_ | refine r_seq ?_ | refine v_ret ?_) | (show SH _ _ _ _ _ (_ :: _) _ _ _; first | (show SH _ _ _ _ _ (⟨_, .move _, _, _, _, _⟩ :: _) _ _ _; refine mov evL ?_) | (show SH _ _ _ _ _ (⟨_, .assign _, _, _, _, _⟩ :: _) _ _ _; refine asg evL ?_)) | refine s_nil ?_ | refine kh_normal ?_))
  exact rh1 rfl rfl ⟨rfl, rfl⟩ (ent_nil _)
set_option maxHeartbeats 1000000 in
set_option maxRecDepth 100000 in
theorem risingI_spec (A : Option Addr) (l : List Int) (c : Nat) (w : World) (hl : l.length ≤ 1000000) (hr : Rd w A l) :
    Ret Try.prog 65 [.slice A l.length c, .func (.func 66) #[] #[]].toArray w (Out w (.bool (risB 0 l))) := by
  refine enterH Try.func65 rfl rfl Try.ntmps65 rfl (Wd.refl _) ?_
  (repeat' (first | (show VH _ _ _ _ _ _ _; first | refine v_seq ?_ | refine r_seq ?_ | refine v_block ?_) | (show SH _ _ _ _ _ (_ :: _) _ _ _; first | (show SH _ _ _ _ _ (⟨_, .move _, _, _, _, _⟩ :: _) _ _ _; refine mov evL ?_) | (show SH _ _ _ _ _ (⟨_, .assign _, _, _, _, _⟩ :: _) _ _ _; refine asg evL ?_) | refine slen rfl ?_) | refine s_nil ?_ | refine kh_normal ?_))
  refine v_norm [(1,_),(5,_),(8,_),(9,_),(10,_)] heL (fun g => ?_)
  refine v_loop0 [(4,5),(7,7),(10,29)] (fun y : Nat × Int => [(10, .int .i64 y.1), (5, .int .i64 y.2)]) (fun y => y.1 ≤ l.length ∧ risB 0 l = risB y.2 (l.drop y.1)) (fun y => l.length - y.1) (0, 0) hsL ⟨Nat.zero_le _, rfl⟩ ?_
  rintro ⟨k, last⟩ g ⟨hk, hok⟩
  simp only [sets]
  simp only at hk hok
  by_cases hkl : k < l.length
  · have hd : l.drop k = l.getD k 0 :: l.drop (k + 1) := by rw [getD_at 0 hkl]; exact List.drop_eq_getElem_cons hkl
    rw [hd, risB] at hok
    obtain ⟨x, hx⟩ : ∃ x, l.getD k 0 = x := ⟨_, rfl⟩
    rw [hx] at hok
    have hp := fun w => right1_spec x w
    have hi := fun w => isID37_spec x w
    by_cases h1 : id37 x = true
    · rw [h1] at hi hok
      by_cases h2 : last < x
      · rw [decide_eq_true h2] at hok
        have hok' : risB 0 l = risB x (l.drop (k + 1)) := by rw [hok]; rfl
        clear hok h1
        (repeat' (first | (show VH _ _ _ _ _ _ _; first | refine v_seq ?_ | refine r_seq ?_ | refine v_block ?_ | refine v_skip ?_ | refine v_cond_t rfl tbL ?_ | refine v_cond_f rfl tbL ?_) | (show SH _ _ _ _ _ (_ :: _) _ _ _; first | (show SH _ _ _ _ _ (⟨_, _, _, _, _, some _⟩ :: _) _ _ _; (refine gif rfl rfl ?_; refine giFF tbL ?_)) | (show SH _ _ _ _ _ (⟨_, .move _, _, _, _, _⟩ :: _) _ _ _; refine mov evL ?_) | (show SH _ _ _ _ _ (⟨_, .assign _, _, _, _, _⟩ :: _) _ _ _; refine asg evL ?_) | (show SH _ _ _ _ _ (⟨_, .binOp .lss _ _ _ _, _, _, _, _⟩ :: _) _ _ _; refine lssT rfl rfl omD ?_) | (show SH _ _ _ _ _ (⟨_, .binOp .leq _ _ _ _, _, _, _, _⟩ :: _) _ _ _; refine leqF rfl rfl omD ?_) | (show SH _ _ _ _ _ (⟨_, .binOp .add _ _ _ _, _, _, _, _⟩ :: _) _ _ _; refine add rfl rfl inL ?_) | (show SH _ _ _ _ _ (⟨_, .load _ _, _, _, _, _⟩ :: _) _ _ _; refine lgi rfl (fun _ _ => rdS) omL (by assumption) ?_) | (show SH _ _ _ _ _ (⟨_, .indexAddr _ _ _, _, _, _, _⟩ :: _) _ _ _; refine ix rfl rfl (by with_reducible rfl) (fun _ _ => rdS) (by rfl) omL omL ?_) | (show SH _ _ _ _ _ (⟨_, .call ⟨.value (.tmp _), _, _⟩, _, _, _, _⟩ :: _) _ _ _; refine cl (callee := .tmp _) rfl (fun w hw => hp w) rfl rfl ?_) | (show SH _ _ _ _ _ (⟨_, .call ⟨.value (.func 35), _, _⟩, _, _, _, _⟩ :: _) _ _ _; refine cl (callee := .func 35) rfl (fun w hw => hi w) rfl rfl ?_) | refine bnoT rfl ?_ | (show SH _ _ _ _ _ (⟨_, .pick _ _ _, _, _, _, _⟩ :: _) _ _ _; refine pkf rfl tbL evL ?_)) | refine s_nil ?_ | refine kh_normal ?_ | refine bh_normal ?_))
        exact ⟨agL, (k + 1, x), hsL, enL, ⟨hkl, hok'⟩, by show l.length - (k + 1) < l.length - k; omega⟩
      · rw [decide_eq_false h2] at hok
        rw [show risB 0 l = false by rw [hok]; rfl]
        clear hok h1
        (repeat' (first | (show VH _ _ _ _ _ _ _; first | refine v_seq ?_ | refine r_seq ?_ | refine v_block ?_ | refine v_ret ?_ | refine v_skip ?_ | refine v_cond_t rfl tbL ?_) | (show SH _ _ _ _ _ (_ :: _) _ _ _; first | (show SH _ _ _ _ _ (⟨_, _, _, _, _, some _⟩ :: _) _ _ _; (refine gif rfl rfl ?_; refine giFF tbL ?_)) | (show SH _ _ _ _ _ (⟨_, .move _, _, _, _, _⟩ :: _) _ _ _; refine mov evL ?_) | (show SH _ _ _ _ _ (⟨_, .assign _, _, _, _, _⟩ :: _) _ _ _; refine asg evL ?_) | (show SH _ _ _ _ _ (⟨_, .binOp .lss _ _ _ _, _, _, _, _⟩ :: _) _ _ _; refine lssT rfl rfl omD ?_) | (show SH _ _ _ _ _ (⟨_, .binOp .leq _ _ _ _, _, _, _, _⟩ :: _) _ _ _; refine leqT rfl rfl omD ?_) | (show SH _ _ _ _ _ (⟨_, .load _ _, _, _, _, _⟩ :: _) _ _ _; refine lgi rfl (fun _ _ => rdS) omL (by assumption) ?_) | (show SH _ _ _ _ _ (⟨_, .indexAddr _ _ _, _, _, _, _⟩ :: _) _ _ _; refine ix rfl rfl (by with_reducible rfl) (fun _ _ => rdS) (by rfl) omL omL ?_) | (show SH _ _ _ _ _ (⟨_, .call ⟨.value (.tmp _), _, _⟩, _, _, _, _⟩ :: _) _ _ _; refine cl (callee := .tmp _) rfl (fun w hw => hp w) rfl rfl ?_) | (show SH _ _ _ _ _ (⟨_, .call ⟨.value (.func 35), _, _⟩, _, _, _, _⟩ :: _) _ _ _; refine cl (callee := .func 35) rfl (fun w hw => hi w) rfl rfl ?_) | refine bnoT rfl ?_ | (show SH _ _ _ _ _ (⟨_, .pick _ _ _, _, _, _, _⟩ :: _) _ _ _; refine pkf rfl tbL evL ?_)) | refine s_nil ?_ | refine kh_normal ?_ | refine kh_ret ?_ | refine bh_ret ?_))
        exact rh1 rfl rfl ⟨rfl, rfl⟩ (ent_nil _)
    · rw [Bool.not_eq_true] at h1
      rw [h1] at hi hok
      rw [show risB 0 l = false by rw [hok]; rfl]
      clear hok h1
      (repeat' (first | (show VH _ _ _ _ _ _ _; first | refine v_seq ?_ | refine r_seq ?_ | refine v_block ?_ | refine v_ret ?_ | refine v_skip ?_ | refine v_cond_t rfl tbL ?_) | (show SH _ _ _ _ _ (_ :: _) _ _ _; first | (show SH _ _ _ _ _ (⟨_, _, _, _, _, some _⟩ :: _) _ _ _; (refine gif rfl rfl ?_; refine giFT tbL ?_)) | (show SH _ _ _ _ _ (⟨_, .move _, _, _, _, _⟩ :: _) _ _ _; refine mov evL ?_) | (show SH _ _ _ _ _ (⟨_, .assign _, _, _, _, _⟩ :: _) _ _ _; refine asg evL ?_) | (show SH _ _ _ _ _ (⟨_, .binOp .lss _ _ _ _, _, _, _, _⟩ :: _) _ _ _; refine lssT rfl rfl omD ?_) | (show SH _ _ _ _ _ (⟨_, .load _ _, _, _, _, _⟩ :: _) _ _ _; refine lgi rfl (fun _ _ => rdS) omL (by assumption) ?_) | (show SH _ _ _ _ _ (⟨_, .indexAddr _ _ _, _, _, _, _⟩ :: _) _ _ _; refine ix rfl rfl (by with_reducible rfl) (fun _ _ => rdS) (by rfl) omL omL ?_) | (show SH _ _ _ _ _ (⟨_, .call ⟨.value (.tmp _), _, _⟩, _, _, _, _⟩ :: _) _ _ _; refine cl (callee := .tmp _) rfl (fun w hw => hp w) rfl rfl ?_) | (show SH _ _ _ _ _ (⟨_, .call ⟨.value (.func 35), _, _⟩, _, _, _, _⟩ :: _) _ _ _; refine cl (callee := .func 35) rfl (fun w hw => hi w) rfl rfl ?_) | refine bnoF rfl ?_ | (show SH _ _ _ _ _ (⟨_, .pick _ _ _, _, _, _, _⟩ :: _) _ _ _; refine pkt rfl tbL evL ?_)) | refine s_nil ?_ | refine kh_normal ?_ | refine kh_ret ?_ | refine bh_ret ?_))
      exact rh1 rfl rfl ⟨rfl, rfl⟩ (ent_nil _)
  · obtain rfl : k = l.length := by omega
    rw [hok, List.drop_length]
    (repeat' (first | (show VH _ _ _ _ _ _ _; first | refine v_seq ?_ | refine r_seq ?_ | refine v_ret ?_ | refine v_exit ?_ | refine v_cond_f rfl tbL ?_) | (show SH _ _ _ _ _ (_ :: _) _ _ _; first | (show SH _ _ _ _ _ (⟨_, .assign _, _, _, _, _⟩ :: _) _ _ _; refine asg evL ?_) | (show SH _ _ _ _ _ (⟨_, .binOp .lss _ _ _ _, _, _, _, _⟩ :: _) _ _ _; refine lssF rfl rfl omD ?_)) | refine s_nil ?_ | refine kh_normal ?_ | refine kh_exit ?_ | refine bh_exit ?_))
    exact rh1 rfl rfl ⟨rfl, rfl⟩ (ent_nil _)
set_option maxHeartbeats 1000000 in
set_option maxRecDepth 100000 in
theorem indexI37_spec (A : Option Addr) (l : List Int) (c : Nat) (x : Int) (w : World) (hl : l.length ≤ 1000000) (hr : Rd w A l) :
    Ret Try.prog 70 [.slice A l.length c, .int .i64 x].toArray w (Out w (.int .i64 (idxFrom (fun y => decide (x = y)) 0 l))) := by
  refine enterH Try.func70 rfl rfl Try.ntmps70 rfl (Wd.refl _) ?_
  (repeat' (first | (show VH _ _ _ _ _ _ _; first | refine v_seq ?_ | refine r_seq ?_ | refine v_block ?_) | (show SH _ _ _ _ _ (_ :: _) _ _ _; first | (show SH _ _ _ _ _ (⟨_, .move _, _, _, _, _⟩ :: _) _ _ _; refine mov evL ?_) | (show SH _ _ _ _ _ (⟨_, .assign _, _, _, _, _⟩ :: _) _ _ _; refine asg evL ?_) | refine slen rfl ?_) | refine s_nil ?_ | refine kh_normal ?_))
  refine v_norm [(0,_),(1,_),(7,_),(8,_)] heL (fun g => ?_)
  refine v_loop0 [(4,5),(8,18)] (fun k : Nat => [(8, .int .i64 k)]) (fun k => k ≤ l.length ∧ idxFrom (fun y => decide (x = y)) 0 l = idxFrom (fun y => decide (x = y)) k (l.drop k)) (fun k => l.length - k) 0 hsL ⟨Nat.zero_le _, rfl⟩ ?_
  rintro k g ⟨hk, hok⟩
  simp only [sets]
  by_cases hkl : k < l.length
  · have hd : l.drop k = l.getD k 0 :: l.drop (k + 1) := by rw [getD_at 0 hkl]; exact List.drop_eq_getElem_cons hkl
    rw [hd, idxFrom] at hok
    obtain ⟨u, hu⟩ : ∃ u, l.getD k 0 = u := ⟨_, rfl⟩
    rw [hu] at hok
    by_cases he : x = u
    · rw [if_pos (by simp [he])] at hok
      rw [hok]
      clear hok
      (repeat' (first | (show VH _ _ _ _ _ _ _; first | refine v_seq ?_ | refine r_seq ?_ | refine v_block ?_ | refine v_ret ?_ | refine v_skip ?_ | refine v_cond_t rfl tbL ?_) | (show SH _ _ _ _ _ (_ :: _) _ _ _; first | (show SH _ _ _ _ _ (⟨_, .move _, _, _, _, _⟩ :: _) _ _ _; refine mov evL ?_) | (show SH _ _ _ _ _ (⟨_, .assign _, _, _, _, _⟩ :: _) _ _ _; refine asg evL ?_) | (show SH _ _ _ _ _ (⟨_, .binOp .lss _ _ _ _, _, _, _, _⟩ :: _) _ _ _; refine lssT rfl rfl omD ?_) | (show SH _ _ _ _ _ (⟨_, .binOp .eql _ _ _ _, _, _, _, _⟩ :: _) _ _ _; refine eqlT rfl rfl omD ?_) | (show SH _ _ _ _ _ (⟨_, .load _ _, _, _, _, _⟩ :: _) _ _ _; refine lgi rfl (fun _ _ => rdS) omL (by assumption) ?_) | (show SH _ _ _ _ _ (⟨_, .indexAddr _ _ _, _, _, _, _⟩ :: _) _ _ _; refine ix rfl rfl (by with_reducible rfl) (fun _ _ => rdS) (by rfl) omL omL ?_)) | refine s_nil ?_ | refine kh_normal ?_ | refine kh_ret ?_ | refine bh_ret ?_))
      exact rh1 rfl rfl ⟨rfl, rfl⟩ (ent_nil _)
    · rw [if_neg (by simp [he])] at hok
      have hok' : idxFrom (fun y => decide (x = y)) 0 l = idxFrom (fun y => decide (x = y)) ((k + 1 : Nat) : Int) (l.drop (k + 1)) := by rw [hok]; rfl
      clear hok
      (repeat' (first | (show VH _ _ _ _ _ _ _; first | refine v_seq ?_ | refine r_seq ?_ | refine v_block ?_ | refine v_skip ?_ | refine v_cond_t rfl tbL ?_ | refine v_cond_f rfl tbL ?_) | (show SH _ _ _ _ _ (_ :: _) _ _ _; first | (show SH _ _ _ _ _ (⟨_, .move _, _, _, _, _⟩ :: _) _ _ _; refine mov evL ?_) | (show SH _ _ _ _ _ (⟨_, .assign _, _, _, _, _⟩ :: _) _ _ _; refine asg evL ?_) | (show SH _ _ _ _ _ (⟨_, .binOp .lss _ _ _ _, _, _, _, _⟩ :: _) _ _ _; refine lssT rfl rfl omD ?_) | (show SH _ _ _ _ _ (⟨_, .binOp .eql _ _ _ _, _, _, _, _⟩ :: _) _ _ _; refine eqlF rfl rfl omD ?_) | (show SH _ _ _ _ _ (⟨_, .binOp .add _ _ _ _, _, _, _, _⟩ :: _) _ _ _; refine add rfl rfl inL ?_) | (show SH _ _ _ _ _ (⟨_, .load _ _, _, _, _, _⟩ :: _) _ _ _; refine lgi rfl (fun _ _ => rdS) omL (by assumption) ?_) | (show SH _ _ _ _ _ (⟨_, .indexAddr _ _ _, _, _, _, _⟩ :: _) _ _ _; refine ix rfl rfl (by with_reducible rfl) (fun _ _ => rdS) (by rfl) omL omL ?_)) | refine s_nil ?_ | refine kh_normal ?_ | refine bh_normal ?_))
      exact ⟨agL, k + 1, hsL, enL, ⟨hkl, hok'⟩, by omega⟩
  · obtain rfl : k = l.length := by omega
    rw [hok, List.drop_length]
    (repeat' (first | (show VH _ _ _ _ _ _ _; first | refine v_seq ?_ | refine r_seq ?_ | refine v_ret ?_ | refine v_exit ?_ | refine v_cond_f rfl tbL ?_) | (show SH _ _ _ _ _ (_ :: _) _ _ _; first | (show SH _ _ _ _ _ (⟨_, .assign _, _, _, _, _⟩ :: _) _ _ _; refine asg evL ?_) | (show SH _ _ _ _ _ (⟨_, .binOp .lss _ _ _ _, _, _, _, _⟩ :: _) _ _ _; refine lssF rfl rfl omD ?_)) | refine s_nil ?_ | refine kh_normal ?_ | refine kh_exit ?_ | refine bh_exit ?_))
    exact rh1 rfl rfl ⟨rfl, rfl⟩ (ent_nil _)
end Go.Proofs.Ytplhnnlklnbahaa

/- Layer 37 (chat): isText. -/
namespace Go.Proofs.Ytplhnnlklnbahaa
open Go.Fw Go.RowKit
def badC (c : UInt8) : Bool := decide (c.toNat < 32) || decide (126 < c.toNat)
set_option maxHeartbeats 1000000 in
set_option maxRecDepth 100000 in
theorem indexText_spec (s : List UInt8) (w : World) (hl : s.length ≤ 1000000) : Ret Try.prog 89 [.string (bs s), .func (.func 69) #[] #[], .bool true].toArray w (Out w (.int .i64 (idxFrom badC 0 s))) := by
  refine enterH Try.func89 rfl rfl Try.ntmps89 rfl (Wd.refl _) ?_
  (repeat' (first | (show VH _ _ _ _ _ _ _; first | refine v_seq ?_ | refine r_seq ?_) | (show SH _ _ _ _ _ (_ :: _) _ _ _; first | (show SH _ _ _ _ _ (⟨_, .move _, _, _, _, _⟩ :: _) _ _ _; refine mov evL ?_) | (show SH _ _ _ _ _ (⟨_, .assign _, _, _, _, _⟩ :: _) _ _ _; refine asg evL ?_)) | refine s_nil ?_ | refine kh_normal ?_))
  refine rgs rfl rfl fun b => ?_
  (repeat' (first | refine v_block ?_ | refine s_nil ?_ | refine kh_normal ?_))
  refine v_norm [(1,_),(2,_),(10,_)] heL (fun g => ?_)
  refine v_loop [(6,8),(11,20)] (fun _ : Nat => []) (fun k => [itr b s k]) (fun k => k ≤ s.length ∧ idxFrom badC 0 s = idxFrom badC k (s.drop k)) (fun k => s.length - k) 0 hsL enL ⟨Nat.zero_le _, rfl⟩ ?_
  rintro k g ⟨hk, hok⟩
  simp only [sets]
  by_cases hkl : k < s.length
  · have hd : s.drop k = s.getD k 0 :: s.drop (k + 1) := by rw [getD_at 0 hkl]; exact List.drop_eq_getElem_cons hkl
    rw [hd, idxFrom] at hok
    by_cases ha : (s.getD k 0).toNat < 128
    · have hp := fun w => textRune_spec (s.getD k 0).toNat w
      have hbc : badC (s.getD k 0) = (decide ((s.getD k 0).toNat < 32) || decide (126 < (s.getD k 0).toNat)) := rfl
      rw [← hbc] at hp
      clear hbc
      generalize hq : badC (s.getD k 0) = q at hp hok
      cases q
      · rw [if_neg (by simp)] at hok
        clear hq
        (repeat' ((show VH _ _ _ _ _ _ _; first | refine v_seq ?_ | refine r_seq ?_)))
        refine nxA rfl rfl spL hkl ha trivial ?_
        (repeat' (first | (show VH _ _ _ _ _ _ _; first | refine v_seq ?_ | refine r_seq ?_ | refine v_block ?_ | refine v_skip ?_ | refine v_cond_t rfl tbL ?_ | refine v_cond_f rfl tbL ?_) | (show SH _ _ _ _ _ (_ :: _) _ _ _; first | (show SH _ _ _ _ _ (⟨_, .move _, _, _, _, _⟩ :: _) _ _ _; refine mov evL ?_) | (show SH _ _ _ _ _ (⟨_, .assign _, _, _, _, _⟩ :: _) _ _ _; refine asg evL ?_) | refine eqb rfl rfl ?_ | (show SH _ _ _ _ _ (⟨_, .call ⟨.value (.tmp _), _, _⟩, _, _, _, _⟩ :: _) _ _ _; refine cl (callee := .tmp _) rfl (fun w hw => hp w) rfl rfl ?_) | refine extr rfl rfl ?_) | refine s_nil ?_ | refine kh_normal ?_ | refine bh_normal ?_))
        exact ⟨agL, k + 1, hsL, enL, ⟨hkl, hok⟩, by omega⟩
      · rw [if_pos (by simp)] at hok
        rw [hok]
        clear hq hok
        (repeat' ((show VH _ _ _ _ _ _ _; first | refine v_seq ?_ | refine r_seq ?_)))
        refine nxA rfl rfl spL hkl ha trivial ?_
        (repeat' (first | (show VH _ _ _ _ _ _ _; first | refine v_seq ?_ | refine r_seq ?_ | refine v_block ?_ | refine v_ret ?_ | refine v_skip ?_ | refine v_cond_t rfl tbL ?_) | (show SH _ _ _ _ _ (_ :: _) _ _ _; first | (show SH _ _ _ _ _ (⟨_, .move _, _, _, _, _⟩ :: _) _ _ _; refine mov evL ?_) | (show SH _ _ _ _ _ (⟨_, .assign _, _, _, _, _⟩ :: _) _ _ _; refine asg evL ?_) | refine eqb rfl rfl ?_ | (show SH _ _ _ _ _ (⟨_, .call ⟨.value (.tmp _), _, _⟩, _, _, _, _⟩ :: _) _ _ _; refine cl (callee := .tmp _) rfl (fun w hw => hp w) rfl rfl ?_) | refine extr rfl rfl ?_) | refine s_nil ?_ | refine kh_normal ?_ | refine kh_ret ?_ | refine bh_ret ?_))
        exact rh1 rfl rfl ⟨rfl, rfl⟩ (ent_nil _)
    · have hb : badC (s.getD k 0) = true := by
        unfold badC
        rw [decide_eq_true (show 126 < (s.getD k 0).toNat by omega), Bool.or_true]
      rw [if_pos hb] at hok
      rw [hok]
      clear hok hb
      have ha' : 128 ≤ (s.getD k 0).toNat := by omega
      (repeat' ((show VH _ _ _ _ _ _ _; first | refine v_seq ?_ | refine r_seq ?_)))
      refine nxH rfl rfl spL hkl ha' (fun _ => trivial) fun r' j' h1 h2 h3 => ?_
      have hp := fun w => textRune_spec r' w
      rw [decide_eq_true (show 126 < r' by omega), Bool.or_true] at hp
      clear ha ha' h1 h2 h3
      (repeat' (first | (show VH _ _ _ _ _ _ _; first | refine v_seq ?_ | refine r_seq ?_ | refine v_block ?_ | refine v_ret ?_ | refine v_skip ?_ | refine v_cond_t rfl tbL ?_) | (show SH _ _ _ _ _ (_ :: _) _ _ _; first | (show SH _ _ _ _ _ (⟨_, .move _, _, _, _, _⟩ :: _) _ _ _; refine mov evL ?_) | (show SH _ _ _ _ _ (⟨_, .assign _, _, _, _, _⟩ :: _) _ _ _; refine asg evL ?_) | refine eqb rfl rfl ?_ | (show SH _ _ _ _ _ (⟨_, .call ⟨.value (.tmp _), _, _⟩, _, _, _, _⟩ :: _) _ _ _; refine cl (callee := .tmp _) rfl (fun w hw => hp w) rfl rfl ?_) | refine extr rfl rfl ?_) | refine s_nil ?_ | refine kh_normal ?_ | refine kh_ret ?_ | refine bh_ret ?_))
      exact rh1 rfl rfl ⟨rfl, rfl⟩ (ent_nil _)
  · obtain rfl : k = s.length := by omega
    rw [hok, List.drop_length]
    (repeat' ((show VH _ _ _ _ _ _ _; first | refine v_seq ?_ | refine r_seq ?_)))
    refine nxE rfl rfl spL (Nat.le_refl _) trivial ?_
    (repeat' (first | (show VH _ _ _ _ _ _ _; first | refine v_seq ?_ | refine r_seq ?_ | refine v_ret ?_ | refine v_exit ?_ | refine v_cond_f rfl tbL ?_) | (show SH _ _ _ _ _ (_ :: _) _ _ _; first | (show SH _ _ _ _ _ (⟨_, .assign _, _, _, _, _⟩ :: _) _ _ _; refine asg evL ?_) | refine extr rfl rfl ?_) | refine s_nil ?_ | refine kh_normal ?_ | refine kh_exit ?_ | refine bh_exit ?_))
    exact rh1 rfl rfl ⟨rfl, rfl⟩ (ent_nil _)
end Go.Proofs.Ytplhnnlklnbahaa

