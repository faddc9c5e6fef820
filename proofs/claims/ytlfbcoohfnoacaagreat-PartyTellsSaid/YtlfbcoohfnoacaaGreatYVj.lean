/- Rules for slices.Insert and slices.Delete: appends into one's own row, copies, rows with room, appends of zeros. -/
import Derived.Test.YtlfbcoohfnoacaaGreatYWz
import Derived.Lib.Overlaps
import Derived.Lib.AppendZerosOnto
import Derived.Laws.Externs
set_option linter.unusedSimpArgs false
set_option linter.unusedVariables false
namespace Go.Fw
open Go.RowKit
section
variable {P : Program} {n : Nat} {f : Fr} {w w0 : World} {ops : Array Oper} {rest : List Oper} {d : Nat} {ty : TypeId} {pos : String} {aft : Array Edge} {v : Value} {x y : Operand} {md : Md} {Q : HQ} {H R : List HP}
theorem wl_appIn {Q' : Exit → Fr → World → Prop} {t e : TypeId} {sz by_ : Nat} {cs news : List Value} {base : Nat} {A B : Option Addr} {m cp i kk c2 : Nat} [ht : TSl P t e sz by_] (hp : 0 < sz) (ho : Go.Fw.Own w base e sz A m cp cs)
    (hsrc : Src w B news) (hx : ev n f x = .slice A i cp) (hy : ev n f y = .slice B kk c2) (hl : news.length = kk * sz) (h1 : ∀ u ∈ news, u.oneCell' = true) (hik : i + kk ≤ m) (hm : m ≠ 0)
    (k : ∀ w1, Go.Fw.Own w1 base e sz A m cp (cs.take (i * sz) ++ news ++ cs.drop (i * sz + kk * sz)) → w.grownBy w1 (blk A) → WL P n ops Q' rest (upd f d (.slice A (i + kk) cp)) w1) :
    WL P n ops Q' (⟨some d, .call { callee := .builtin .append, args := #[x, y], argTypes := #[t, t] }, ty, pos, aft, none⟩ :: rest) f w := by
  obtain ⟨g, cur, rfl, hg, hh, hc1, hc2, hc3, hc4⟩ := own_some ho (by omega)
  have hsz : ∀ w, (sizeOf e).run P w = .ok sz w := slice_size (P := P) (t := t)
  have hikm : i * sz + kk * sz ≤ m * sz := by rw [← Nat.add_mul]; exact Nat.mul_le_mul_right _ hik
  have hmc : m * sz ≤ cp * sz := Nat.mul_le_mul_right _ hc1
  have hst := run_storeCells_at P g (i * sz) e news 0 cur w hh (by rw [hl, hc3]; omega) h1
  have hload : (Builtin.firstCells sz kk (.slice B kk c2)).run P w = .ok news.toArray w := by
    cases B with
    | none =>
      have : news = [] := by
        cases news with
        | nil => rfl
        | cons u us => exact absurd (hsrc 0 u rfl).1 (by simp)
      subst this
      exact run_firstCells_none w sz kk kk c2
    | some b => exact run_firstCells_some w sz kk b kk c2 news hl fun j u hj => (hsrc j u hj).2
  refine wl_val (v := .slice (some ⟨g, 0, none⟩) (i + kk) cp) (w' := w.setRow g (cur.toList.take (i * sz) ++ news ++ cur.toList.drop (i * sz + news.length)).toArray) ?_ (k _ ?_ ?_)
  · intro d pos aft gg
    simp only [Nat.add_zero] at hst
    simp [execOp, resolve, invoke, builtin, Builtin.append_, hx, hy, run_underlying ht.und, hsz, Builtin.lenOf, show i + kk ≤ cp by omega, hload, Addr.add_lit]
    simp at hst
    rw [hst]
    simp
  · have hlen := ho.1
    refine ⟨by simp only [List.length_append, List.length_take, List.length_drop, hl, hlen]; omega, .inr ⟨g, cp, _, rfl, hg, setRow_heap w g cur _ e _ hh, by omega, hc2, ?_, ?_⟩⟩
    · simp only [List.size_toArray, List.length_append, List.length_take, List.length_drop, hl, Array.length_toList, hc3]; omega
    · have hcl : cur.toList.length = cp * sz := by rw [Array.length_toList, hc3]
      rw [← hc4, List.take_take, Nat.min_eq_left (by omega), hl, List.drop_take, List.append_assoc, List.append_assoc]
      show ((cur.toList.take (i * sz) ++ (news ++ cur.toList.drop (i * sz + kk * sz))).take (m * sz)) = _
      rw [List.take_append, List.take_append, List.length_take, hcl, Nat.min_eq_left (by omega), hl, List.take_of_length_le (by rw [List.length_take]; omega), List.take_of_length_le (l := news) (by omega)]
      congr 3
      omega
  · simpa [blk] using (Wrt.mk' w g _).grown
theorem appIn {α : Type} [F : Flat α] {t e : TypeId} {sz by_ : Nat} {A B : Option Addr} {cp i j kk c2 : Nat} {L : List α} [TSl P t e sz by_] (hsz : sz = F.sz) (hm : addOK md = true) (hx : ev n f x = .slice A i cp) (hy : ev n f y = .slice B kk c2) (hs : Split H (orow e A cp L) R)
    (hB : ∀ w, Wd w0 H w → Rd w B (L.drop j)) (hkk : kk = L.length - j) (hij : i ≤ j) (hj : j ≤ L.length) (hne : 0 < L.length)
    (hk : keeps md (orow e A cp (L.take i ++ L.drop j ++ L.drop (i + kk)) :: R)) (k : SH (nx md) P n ops Q rest (upd f d (.slice A (i + kk) cp)) w0 (orow e A cp (L.take i ++ L.drop j ++ L.drop (i + kk)) :: R)) :
    SH md P n ops Q (⟨some d, .call { callee := .builtin .append, args := #[x, y], argTypes := #[t, t] }, ty, pos, aft, none⟩ :: rest) f w0 H := by
  subst hsz
  have hlen : (L.take i ++ L.drop j ++ L.drop (i + kk)).length = L.length := by
    simp only [List.length_append, List.length_take, List.length_drop]; omega
  refine s_mut hm fun w hw => wl_appIn F.pos (hw.own hs) (hB w hw) hx hy (by rw [encs_len, List.length_drop, hkk]) (encs_one _) (by omega) (by omega) fun w1 ho1 hg => wl_nil ⟨rfl, _, hk, k, hw.row hs hg ?_ (fun k hk => .inl hk)⟩
  rw [encs_take, ← Nat.add_mul, encs_drop, ← encs_append, ← encs_append] at ho1
  rw [hlen]; exact ho1
theorem ox_slice_lh {t e : TypeId} {sz by_ : Nat} {A : Option Addr} {m cp : Nat} {k k2 : IntKind} {lo hi : Int} {y2 : Operand} [h : TSl P t e sz by_] (hx : ev n f x = .slice A m cp) (hy : ev n f y = .int k lo) (hz : ev n f y2 = .int k2 hi) (h0 : 0 ≤ lo) (h1 : lo ≤ hi) (h2 : hi ≤ cp) :
    OX P n f (.slice t x (some y) (some y2) none) ty w (.slice (if cp = lo.toNat then A else A.map (·.add (lo.toNat * sz))) (hi.toNat - lo.toNat) (cp - lo.toNat)) w := by
  intro d pos aft g
  have hsz := slice_size (P := P) (t := t) (e := e)
  simp [execOp, not_array h, Instr.slice, hx, hy, hz, run_underlying h.und, Instr.sliceBounds, Instr.sliceBound, asIntOf, h0, h1, h2, hsz, show 0 ≤ hi by omega, show max hi 0 = hi by omega, show ¬ hi < lo by omega]
theorem ox_slice_lhm {t e : TypeId} {sz by_ : Nat} {A : Option Addr} {m cp : Nat} {k k2 k3 : IntKind} {lo hi mx : Int} {y2 y3 : Operand} [h : TSl P t e sz by_] (hx : ev n f x = .slice A m cp) (hy : ev n f y = .int k lo) (hz : ev n f y2 = .int k2 hi) (hz3 : ev n f y3 = .int k3 mx) (h0 : 0 ≤ lo) (h1 : lo ≤ hi) (h2 : hi ≤ mx) (h3 : mx ≤ cp) :
    OX P n f (.slice t x (some y) (some y2) (some y3)) ty w (.slice (if mx.toNat = lo.toNat then A else A.map (·.add (lo.toNat * sz))) (hi.toNat - lo.toNat) (mx.toNat - lo.toNat)) w := by
  intro d pos aft g
  have hsz := slice_size (P := P) (t := t) (e := e)
  simp [execOp, not_array h, Instr.slice, hx, hy, hz, hz3, run_underlying h.und, Instr.sliceBounds, Instr.sliceBound, asIntOf, h0, h1, h2, h3, hsz, show 0 ≤ hi by omega, show 0 ≤ mx by omega, show max mx 0 = mx by omega, show max hi 0 = hi by omega, show ¬ mx < hi by omega, show ¬ hi < lo by omega]
theorem sl2 {t e : TypeId} {sz by_ : Nat} {A : Option Addr} {m cp : Nat} {K K2 : IntKind} {lo hi : Int} {y2 : Operand} [TSl P t e sz by_] (hx : ev n f x = .slice A m cp) (hy : ev n f y = .int K lo) (hz : ev n f y2 = .int K2 hi) (h0 : 0 ≤ lo) (h1 : lo ≤ hi) (h2 : hi ≤ cp)
    (k : SH (nx md) P n ops Q rest (upd f d (.slice (if cp = lo.toNat then A else A.map (·.add (lo.toNat * sz))) (hi.toNat - lo.toNat) (cp - lo.toNat))) w0 H) : SH md P n ops Q (⟨some d, .slice t x (some y) (some y2) none, ty, pos, aft, none⟩ :: rest) f w0 H := s_val (fun _ _ => ox_slice_lh hx hy hz h0 h1 h2) k
theorem sl3 {t e : TypeId} {sz by_ : Nat} {A : Option Addr} {m cp : Nat} {K K2 K3 : IntKind} {lo hi mx : Int} {y2 y3 : Operand} [TSl P t e sz by_] (hx : ev n f x = .slice A m cp) (hy : ev n f y = .int K lo) (hz : ev n f y2 = .int K2 hi) (hz3 : ev n f y3 = .int K3 mx) (h0 : 0 ≤ lo) (h1 : lo ≤ hi) (h2 : hi ≤ mx) (h3 : mx ≤ cp)
    (k : SH (nx md) P n ops Q rest (upd f d (.slice (if mx.toNat = lo.toNat then A else A.map (·.add (lo.toNat * sz))) (hi.toNat - lo.toNat) (mx.toNat - lo.toNat))) w0 H) : SH md P n ops Q (⟨some d, .slice t x (some y) (some y2) (some y3), ty, pos, aft, none⟩ :: rest) f w0 H := s_val (fun _ _ => ox_slice_lhm hx hy hz hz3 h0 h1 h2 h3) k
end

section
variable {w w0 : World} {H R : List HP} {e : TypeId} {sz : Nat} {A : Option Addr} {m cp : Nat} {cs vs : List Value}
theorem Src.drop (h : Src w A cs) (k : Nat) : Src w (A.map (·.add k)) (cs.drop k) := fun j u hj => by
  rw [List.getElem?_drop] at hj
  obtain ⟨h1, h2⟩ := h _ u hj
  rw [h1]
  refine ⟨rfl, ?_⟩
  show w.cell? (((adr A).add k).add j) = _
  rw [add_add]; exact h2
theorem Src.take (h : Src w A cs) (k : Nat) : Src w A (cs.take k) := fun j u hj => by
  rw [List.getElem?_take] at hj
  split at hj
  · exact h j u hj
  · cases hj
theorem Wd.src (h : Wd w0 H w) (hs : Split H (Go.Fw.row e sz A m cp cs) R) : Src w A cs := src_own (h.own hs)
end
section
variable {P : Program} {n : Nat} {f : Fr} {w w0 : World} {ops : Array Oper} {rest : List Oper} {d : Nat} {ty : TypeId} {pos : String} {aft : Array Edge} {v : Value} {x y : Operand} {md : Md} {Q : HQ} {H R : List HP}
theorem wl_copy {Q' : Exit → Fr → World → Prop} {t t2 e : TypeId} {sz by_ : Nat} {cs vs : List Value} {base : Nat} {A B D : Option Addr} {m cp o dLen dCap sLen sCap kk : Nat} [ht : TSl P t e sz by_] (ho : Go.Fw.Own w base e sz A m cp cs)
    (hsrc : Src w B vs) (hx : ev n f x = .slice D dLen dCap) (hy : ev n f y = .slice B sLen sCap) (hD : D = A.map (·.add (o * sz))) (hkk : min sLen dLen = kk) (hl : vs.length = kk * sz) (h1 : ∀ u ∈ vs, u.oneCell' = true) (hik : o + kk ≤ m) (hm : m ≠ 0)
    (k : ∀ w1, Go.Fw.Own w1 base e sz A m cp (cs.take (o * sz) ++ vs ++ cs.drop (o * sz + kk * sz)) → w.grownBy w1 (blk A) → WL P n ops Q' rest (upd f d (.int .i64 kk)) w1) :
    WL P n ops Q' (⟨some d, .call { callee := .builtin .copy, args := #[x, y], argTypes := #[t, t2] }, ty, pos, aft, none⟩ :: rest) f w := by
  obtain ⟨g, cur, rfl, hg, hh, hc1, hc2, hc3, hc4⟩ := own_some ho (by omega)
  subst hD
  have hsz : ∀ w, (sizeOf e).run P w = .ok sz w := slice_size (P := P) (t := t)
  have hikm : o * sz + kk * sz ≤ m * sz := by rw [← Nat.add_mul]; exact Nat.mul_le_mul_right _ hik
  have hmc : m * sz ≤ cp * sz := Nat.mul_le_mul_right _ hc1
  have hst := run_storeCells_at P g (o * sz) e vs 0 cur w hh (by rw [hl, hc3]; omega) h1
  have hload : (Builtin.firstCells sz kk (.slice B sLen sCap)).run P w = .ok vs.toArray w := by
    cases B with
    | none =>
      have : vs = [] := by
        cases vs with
        | nil => rfl
        | cons u us => exact absurd (hsrc 0 u rfl).1 (by simp)
      subst this
      exact run_firstCells_none w sz kk sLen sCap
    | some b => exact run_firstCells_some w sz kk b sLen sCap vs hl fun j u hj => (hsrc j u hj).2
  refine wl_val (v := .int .i64 kk) (w' := w.setRow g (cur.toList.take (o * sz) ++ vs ++ cur.toList.drop (o * sz + vs.length)).toArray) ?_ (k _ ?_ ?_)
  · intro d pos aft gg
    simp only [Nat.add_zero] at hst
    have hkk' : Nat.min sLen dLen = kk := hkk
    simp [execOp, resolve, invoke, builtin, Builtin.copy_, hx, hy, run_underlying ht.und, hsz, Builtin.lenOf, hkk', hload, Addr.add_lit]
    simp at hst
    rw [hst]
    simp [goInt]
  · have hlen := ho.1
    refine ⟨by simp only [List.length_append, List.length_take, List.length_drop, hl, hlen]; omega, .inr ⟨g, cp, _, rfl, hg, setRow_heap w g cur _ e _ hh, by omega, hc2, ?_, ?_⟩⟩
    · simp only [List.size_toArray, List.length_append, List.length_take, List.length_drop, hl, Array.length_toList, hc3]; omega
    · have hcl : cur.toList.length = cp * sz := by rw [Array.length_toList, hc3]
      rw [← hc4, List.take_take, Nat.min_eq_left (by omega), hl, List.drop_take, List.append_assoc, List.append_assoc]
      show ((cur.toList.take (o * sz) ++ (vs ++ cur.toList.drop (o * sz + kk * sz))).take (m * sz)) = _
      rw [List.take_append, List.take_append, List.length_take, hcl, Nat.min_eq_left (by omega), hl, List.take_of_length_le (by rw [List.length_take]; omega), List.take_of_length_le (l := vs) (by omega)]
      congr 3
      omega
  · simpa [blk] using (Wrt.mk' w g _).grown
/-- copy(d, s): into a part of a row of one's own. -/
theorem cpy {t t2 e : TypeId} {sz by_ : Nat} {cs vs : List Value} {A B D : Option Addr} {m cp o dLen dCap sLen sCap kk : Nat} [TSl P t e sz by_] (hm : addOK md = true) (hx : ev n f x = .slice D dLen dCap) (hy : ev n f y = .slice B sLen sCap) (hs : Split H (row e sz A m cp cs) R)
    (hD : D = A.map (·.add (o * sz))) (hsrc : ∀ w, Wd w0 H w → Src w B vs) (hkk : min sLen dLen = kk) (hl : vs.length = kk * sz) (h1 : ∀ u ∈ vs, u.oneCell' = true) (hik : o + kk ≤ m) (hne : m ≠ 0)
    (hk : keeps md (row e sz A m cp (cs.take (o * sz) ++ vs ++ cs.drop (o * sz + kk * sz)) :: R)) (k : SH (nx md) P n ops Q rest (upd f d (.int .i64 kk)) w0 (row e sz A m cp (cs.take (o * sz) ++ vs ++ cs.drop (o * sz + kk * sz)) :: R)) :
    SH md P n ops Q (⟨some d, .call { callee := .builtin .copy, args := #[x, y], argTypes := #[t, t2] }, ty, pos, aft, none⟩ :: rest) f w0 H :=
  s_mut hm fun w hw => wl_copy (hw.own hs) (hsrc w hw) hx hy hD hkk hl h1 hik hne fun w1 ho1 hg => wl_nil ⟨rfl, _, hk, k, hw.row hs hg ho1 (fun k hk => .inl hk)⟩
theorem cpyL {α : Type} [F : Flat α] {t t2 e : TypeId} {sz by_ : Nat} {L V : List α} {A B D : Option Addr} {cp o dLen dCap sLen sCap kk : Nat} [TSl P t e sz by_] (hsz : sz = F.sz) (hm : addOK md = true) (hx : ev n f x = .slice D dLen dCap) (hy : ev n f y = .slice B sLen sCap) (hs : Split H (orow e A cp L) R)
    (hD : D = A.map (·.add (o * sz))) (hsrc : ∀ w, Wd w0 H w → Rd w B V) (hkk : min sLen dLen = kk) (hl : V.length = kk) (hik : o + kk ≤ L.length) (hne : L.length ≠ 0)
    (hk : keeps md (orow e A cp (L.take o ++ V ++ L.drop (o + kk)) :: R)) (k : SH (nx md) P n ops Q rest (upd f d (.int .i64 kk)) w0 (orow e A cp (L.take o ++ V ++ L.drop (o + kk)) :: R)) :
    SH md P n ops Q (⟨some d, .call { callee := .builtin .copy, args := #[x, y], argTypes := #[t, t2] }, ty, pos, aft, none⟩ :: rest) f w0 H := by
  subst hsz
  have e : row e F.sz A L.length cp ((encs L).take (o * F.sz) ++ encs V ++ (encs L).drop (o * F.sz + kk * F.sz)) = orow e A cp (L.take o ++ V ++ L.drop (o + kk)) := by
    unfold orow
    rw [encs_take, ← Nat.add_mul, encs_drop, ← encs_append, ← encs_append]
    congr 1
    simp only [List.length_append, List.length_take, List.length_drop]; omega
  exact cpy hm hx hy hs hD hsrc hkk (by rw [encs_len, hl]) (encs_one _) hik hne (by rw [e]; exact hk) (by rw [e]; exact k)
/-- The elements from i on go one place further, into the room behind. -/
theorem cpyS {α : Type} [F : Flat α] {t t2 e : TypeId} {sz by_ : Nat} {l : List α} {xs : List Value} {A B D : Option Addr} {cp i dLen dCap sLen sCap : Nat} [TSl P t e sz by_] (hsz : sz = F.sz) (hm : addOK md = true) (hx : ev n f x = .slice D dLen dCap) (hy : ev n f y = .slice B sLen sCap)
    (hs : Split H (row e F.sz A (l.length + 1) cp (encs l ++ xs)) R) (hxs : xs.length = F.sz) (hi : i < l.length) (hD : D = A.map (·.add ((i + 1) * sz))) (hB : B = A.map (·.add (i * sz))) (hkk : min sLen dLen = l.length - i)
    (hk : keeps md (orow e A cp (l.take (i + 1) ++ l.drop i) :: R)) (k : SH (nx md) P n ops Q rest (upd f d (.int .i64 (l.length - i : Nat))) w0 (orow e A cp (l.take (i + 1) ++ l.drop i) :: R)) :
    SH md P n ops Q (⟨some d, .call { callee := .builtin .copy, args := #[x, y], argTypes := #[t, t2] }, ty, pos, aft, none⟩ :: rest) f w0 H := by
  subst hsz
  have hl := encs_len l
  have h1 : (i + 1) * F.sz ≤ l.length * F.sz := Nat.mul_le_mul_right _ hi
  have h2 : i * F.sz ≤ l.length * F.sz := Nat.mul_le_mul_right _ (by omega)
  have h3 : (i + 1) * F.sz + (l.length - i) * F.sz = l.length * F.sz + F.sz := by rw [← Nat.add_mul, show i + 1 + (l.length - i) = l.length + 1 by omega, Nat.succ_mul]
  have e : row e F.sz A (l.length + 1) cp ((encs l ++ xs).take ((i + 1) * F.sz) ++ encs (l.drop i) ++ (encs l ++ xs).drop ((i + 1) * F.sz + (l.length - i) * F.sz)) = orow e A cp (l.take (i + 1) ++ l.drop i) := by
    unfold orow
    have h4 : (encs l ++ xs).drop (l.length * F.sz + F.sz) = [] := List.drop_of_length_le (by rw [List.length_append, hl, hxs]; omega)
    rw [List.take_append_of_le_length (by omega), encs_take, h3, h4, List.append_nil, ← encs_append]
    congr 1
    simp only [List.length_append, List.length_take, List.length_drop]; omega
  refine cpy (vs := encs (l.drop i)) hm hx hy hs hD (fun w hw => ?_) hkk (by rw [encs_len, List.length_drop]) (encs_one _) (by omega) (by omega) (by rw [e]; exact hk) (by rw [e]; exact k)
  have h := (hw.src hs).drop (i * F.sz)
  rw [List.drop_append_of_le_length (by omega), encs_drop] at h
  rw [hB]
  intro j u hj
  exact h j u (by rw [List.getElem?_append_left ((List.getElem?_eq_some_iff.1 hj).1)]; exact hj)
/-- A row with room: the cells of one more element. -/
theorem v_room {α : Type} [F : Flat α] {c : Code} {A : Option Addr} {cp : Nat} {e : TypeId} {l : List α} (hs : Split H (orow e A cp l) R) (hc : l.length + 1 ≤ cp) (k : ∀ xs : List Value, xs.length = F.sz → VH P n c Q f w0 (row e F.sz A (l.length + 1) cp (encs l ++ xs) :: R)) : VH P n c Q f w0 H := ⟨fun w hw => by
  obtain ⟨p, q, hx, hq, hd, hp, hi⟩ := (hs.wd hw).open_
  obtain ⟨h0, h1⟩ := hx
  rcases h1 with ⟨_, _, h2⟩ | ⟨g, cur, rfl, rfl, h2, h3, h4, h5⟩
  · omega
  · have hml : (l.length + 1) * F.sz ≤ cp * F.sz := Nat.mul_le_mul_right _ hc
    have hsucc : (l.length + 1) * F.sz = l.length * F.sz + F.sz := Nat.succ_mul _ _
    have hxl : ((cur.toList.drop (l.length * F.sz)).take F.sz).length = F.sz := by rw [List.length_take, List.length_drop, Array.length_toList, h4]; omega
    refine (k ((cur.toList.drop (l.length * F.sz)).take F.sz) hxl).out w (Wd.close hw.ext (p := pone g (.cells cur e (0, 0))) ⟨?_, .inr ⟨g, cur, rfl, rfl, hc, h3, h4, ?_⟩⟩ hq hd hp hi)
    · rw [List.length_append, hxl, encs_len, hsucc]
    · rw [hsucc, List.take_add, h5]⟩
theorem encs_zero {α : Type} [F : Flat α] (z : Array Value) (hz : z.toList = F.enc F.dflt) : ∀ k : Nat, (Builtin.zeroCells z k).toList = encs (List.replicate k F.dflt)
  | 0 => by simp [Builtin.zeroCells, encs]
  | k + 1 => by
    have ih := encs_zero z hz k
    have hsz : z.size = F.sz := by rw [← Array.length_toList, hz, F.len]
    rw [List.replicate_succ', encs_append, ← ih]
    have he : encs [F.dflt] = z.toList := by rw [hz]; simp [encs]
    rw [he]
    refine List.ext_getElem? fun i => ?_
    have hp : 0 < z.size := by rw [hsz]; exact F.pos
    simp only [Builtin.zeroCells, Array.toList_map, Array.toList_range, List.getElem?_map, List.getElem?_append, List.length_map, List.length_range, Nat.succ_mul]
    by_cases h1 : i < k * z.size
    · rw [if_pos h1, List.getElem?_range (by omega), List.getElem?_range h1]
    · rw [if_neg h1]
      by_cases h2 : i < k * z.size + z.size
      · rw [List.getElem?_range h2]
        have e1 : i % z.size = i - k * z.size := by
          obtain ⟨r, rfl⟩ : ∃ r, i = r + k * z.size := ⟨i - k * z.size, by omega⟩
          rw [Nat.add_mul_mod_self_right, Nat.mod_eq_of_lt (by omega)]; omega
        simp only [Option.map_some, e1]
        rw [getElem!_pos z _ (by omega), List.getElem?_eq_getElem (by rw [Array.length_toList]; omega)]
        simp
      · rw [List.getElem?_eq_none (by rw [List.length_range]; omega), List.getElem?_eq_none (by rw [Array.length_toList]; omega)]; rfl
/-- append(s, make([]T, k)...), where s has no room. -/
theorem appz {α : Type} [F : Flat α] {t tn e : TypeId} {sz by_ : Nat} {A : Option Addr} {i cp k : Nat} {kq kn : IntKind} {l : List α} {z : Value} [ht : TSl P t e sz by_] [he : TEl P e sz by_] [hn : TInt P tn kn] (hm : addOK md = true)
    (hx : ev n f x = .slice A i cp) (hy : ev n f y = .int kq k) (hr : ∀ w, Wd w0 H w → Rd w A l) (hil : l.length = i) (hz : (P.info? e).bind (·.zero) = some z) (hzc : z.cells.toList = F.enc F.dflt) (hsz : sz = F.sz) (h0 : 0 < k) (hg : cp < i + k)
    (hbig : (i + k) * by_ ≤ 140737488355328) (h63 : i + k ≤ 140737488355328) (hcp : cp ≤ 140737488355328) (hcb : cp * by_ ≤ 140737488355328)
    (kont : ∀ A' cp', SH (nx md) P n ops Q rest (upd f d (.slice A' (i + k) cp')) w0 (orow e A' cp' (l ++ List.replicate k F.dflt) :: H)) :
    SH md P n ops Q (⟨some d, .call { callee := .builtin .append, args := #[x, y], argTypes := #[t, tn] }, ty, pos, aft, none⟩ :: rest) f w0 H := by
  subst hsz hil
  refine s_add hm fun w hw => ?_
  obtain ⟨inf, z', hi, hisz, hiby, hz', hzs⟩ := he.inf
  have e1 : z' = z := by rw [hi] at hz; simp only [Option.bind_some] at hz; rw [hz'] at hz; injection hz
  subst e1
  have hold : (Builtin.firstCells inf.size l.length (.slice A l.length cp)).run P w.drew = .ok (encs l).toArray w.drew := by
    have hrw := hr w hw
    cases A with
    | none =>
      have hl0 : l = [] := hrw.none
      subst hl0
      exact run_firstCells_none w.drew inf.size 0 0 cp
    | some b => exact run_firstCells_some w.drew inf.size l.length b l.length cp (encs l) (by rw [encs_len, hisz]) fun j u hj => (hrw j u hj).2
  have hrun := Lib.run_append_grow_zeros (P := P) w t tn ty e inf z' kq kn ht.und hn.und hi hz' A l.length cp (encs l) hold k h0 (by rw [hisz]; exact F.pos) hg (by omega)
    (by rw [hiby]; have : k * by_ ≤ (l.length + k) * by_ := Nat.mul_le_mul_right _ (by omega); omega) (growslice_fits (by omega) (by rw [hiby]; exact hbig))
  have hge := grownCap_ge w (l.length + k) cp e
  have hext : ∀ (o : Obj), Ext w (w.drew.alloc o) := fun o => Ext.grown0 ⟨rfl, rfl, rfl, by simp, fun k hk _ => Below.heap_alloc w.drew _ k hk⟩
  refine wl_val (v := .slice (some ⟨w.heap.size, 0, none⟩) (l.length + k) (grownCap w (l.length + k) cp e)) (w' := w.drew.alloc (.cells ((encs l).toArray ++ Builtin.zeroCells z'.cells k ++ Builtin.zeroCells z'.cells (grownCap w (l.length + k) cp e - (l.length + k))) e)) ?_ (wl_nil ⟨rfl, hext _, _, kont _ _, hw.newRow (hext _) ?_⟩)
  · intro d pos aft g
    simp [execOp, resolve, invoke, builtin, hx, hy, hrun]
  · have hll : (l ++ List.replicate k F.dflt).length = l.length + k := by rw [List.length_append, List.length_replicate]
    refine ⟨by rw [encs_len], .inr ⟨w.heap.size, _, _, by rw [hll], Nat.le_refl _, heap_alloc_new w.drew _, by rw [hll]; exact hge, grownCap_le_maxLen w _ cp e (by simp only [maxLen]; omega), ?_, ?_⟩⟩
    · simp only [Array.size_append, List.size_toArray, size_zeroCells, hzs, encs_len, ← Nat.add_mul]
      congr 1
      omega
    · simp only [Array.toList_append, List.append_assoc]
      rw [encs_zero z'.cells hzc, ← List.append_assoc, encs_append, show (l ++ List.replicate k F.dflt).length * F.sz = (encs l ++ encs (List.replicate k F.dflt)).length by rw [← encs_append, encs_len]]
      exact List.take_left
/-- slices.overlaps at two rows of one's own. -/
theorem ovl {t tR te e ev' : TypeId} {sz by_ : Nat} {g : FuncId} {fn : Func} {ats : Array TypeId} {bv lv cv la ca lb cb m cp o : Nat} {A B : Option Addr} {cs vs : List Value} {R R2 : List HP} {szv : Nat} [ht : TSl P t e sz by_] (hp : 0 < sz) (hf : P.funcs[g]? = some fn) (hname : (fn.name == "runtime.NumGoroutine") = false) (hb : fn.body.isNone = true) (hn : Extern.findNext fn = none)
    (he : Extern.find fn = some (Extern.SlicesOverlaps.overlaps #[t, t] #[tR])) (hx : ev n f x = .slice (some ⟨bv, 0, none⟩) la ca) (hy : ev n f y = .slice B lb cb) (hB : B = A.map (·.add o))
    (hs : Split (vis md H) (row te sz A m cp cs) R) (hs2 : Split R (row ev' szv (some ⟨bv, 0, none⟩) lv cv vs) R2) (hm : 0 < m) (k : SH (nx md) P n ops Q rest (upd f d (.bool false)) w0 H) :
    SH md P n ops Q (⟨some d, .call { callee := .value (.func g), args := #[x, y], argTypes := ats }, ty, pos, aft, none⟩ :: rest) f w0 H := s_val (fun w hw => by
  obtain ⟨p, q, hx1, hq, hd, hp1, hq1⟩ := (hs.wd hw).open_
  obtain ⟨p2, q2, hx2, _, _, rfl⟩ := hs2.sat hq
  obtain ⟨gA, cur, rfl, rfl, h2, h3, h4, h5⟩ := hx1.2.resolve_left (fun h => by omega)
  rcases hx2.2 with ⟨h, _⟩ | ⟨gB, cur2, e1, rfl, k2, k3, k4, k5⟩
  · cases h
  injection e1 with e1
  injection e1 with e1 _ _
  subst e1
  have hne : bv ≠ gA := fun e => by
    subst e
    rcases hd bv with h | h
    · rw [pone_at] at h; cases h
    · have := (pjoin_none.1 h).1
      rw [pone_at] at this; cases this
  have hA := (hp1 gA _ (pone_at _ _)).2
  have hV := (hq1 bv _ (by unfold pjoin; rw [pone_at])).2
  have hcp : 0 < cp * sz := Nat.mul_pos (by omega) hp
  subst hB
  have hfz : w.frozen? ⟨bv, 0, none⟩ = false ∧ w.frozen? { block := bv, off := cur2.size } = false := by
    simp [World.frozen?, hV]
  have hr := Lib.run_overlaps_apart (P := P) w t tR e ht.und sz (slice_size (P := P) (t := t)) ⟨bv, 0, none⟩ ((⟨gA, 0, none⟩ : Addr).add o) la ca lb cb (by show bv ≠ ((⟨gA, 0, none⟩ : Addr).add o).block; rw [Addr.add_lit]; exact hne) ev' te cur2.size cur.size (by simp [World.shape?, hV]) (by rw [Addr.add_lit]; simp [World.shape?, hA]) (by omega) hfz.1 hfz.2
  intro d pos aft gg
  have hcf := run_callFunc_extern hf hname hb hn he #[.slice (some ⟨bv, 0, none⟩) la ca, .slice ((some (⟨gA, 0, none⟩ : Addr)).map (·.add o)) lb cb] w
  simp only [Option.map_some] at hcf hy
  rw [hr] at hcf
  simp [execOp, resolve, invoke, hx, hy, show ev n f (.func g) = .func (.func g) #[] #[] from rfl, Deferred.ofValue, hcf, Result.andThen]) k
theorem bcp {t e : TypeId} {sz by_ : Nat} {A : Option Addr} {m cp : Nat} [ht : TSl P t e sz by_] (hx : ev n f x = .slice A m cp) (k : SH (nx md) P n ops Q rest (upd f d (.int .i64 cp)) w0 H) : SH md P n ops Q (⟨some d, .call { callee := .builtin .cap, args := #[x], argTypes := #[t] }, ty, pos, aft, none⟩ :: rest) f w0 H := s_val (fun w _ => by
  intro d pos aft g
  simp [execOp, resolve, invoke, builtin, hx, Builtin.cap_, goInt, run_underlying ht.und]) k
end
end Go.Fw
