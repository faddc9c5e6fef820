/- Rows of the call's own, written in place; rows of several cells; blocks of integers. -/
import Derived.Test.YtehjdbgijibmcaaM2
set_option linter.unusedSimpArgs false
set_option linter.unusedVariables false
namespace Go.Fw
open Go.RowKit
theorem add_add (a : Addr) (m n : Nat) : (a.add m).add n = a.add (m + n) := by
  unfold Addr.add
  by_cases hm : m = 0
  · subst hm; simp
  · by_cases hn : n = 0
    · subst hn; simp
    · simp [hm, hn, Nat.add_assoc]
theorem ints_set (L : List Int) (i : Nat) (v : Int) : (ints L).set i (.int .i64 v) = ints (L.set i v) := by simp [ints, List.map_set]
theorem ints_take (L : List Int) (i : Nat) : (ints L).take i = ints (L.take i) := by simp [ints, List.map_take]
theorem ints_append (L M : List Int) : ints L ++ ints M = ints (L ++ M) := by simp [ints]
theorem own_take {w : World} {base : Nat} {e : TypeId} {A : Option Addr} {m cp k : Nat} {cs : List Value} (h : Own w base e 1 A m cp cs) (hk : k ≤ m) : Own w base e 1 A k cp (cs.take k) := by
  refine ⟨by rw [List.length_take, h.1]; omega, ?_⟩
  rcases h.2 with ⟨hv, hm⟩ | ⟨g, cap, cur, hv, hg, hh, h1, h2, h3, h4⟩
  · injection hv with a b c
    exact .inl ⟨by rw [a, c]; congr 1; omega, by omega⟩
  · injection hv with a b c
    refine .inr ⟨g, cap, cur, by rw [a, c], hg, hh, by omega, h2, h3, ?_⟩
    rw [← h4, List.take_take]
    congr 1
    omega
theorem own_some {w : World} {base : Nat} {e : TypeId} {sz : Nat} {A : Option Addr} {m cp : Nat} {cs : List Value} (h : Own w base e sz A m cp cs) (hm : 0 < m) :
    ∃ g cur, A = some ⟨g, 0, none⟩ ∧ base ≤ g ∧ w.heap[g]? = some (.cells cur e (0, 0)) ∧ m ≤ cp ∧ cp ≤ maxLen ∧ cur.size = cp * sz ∧ cur.toList.take (m * sz) = cs := by
  rcases h.2 with ⟨hv, hm'⟩ | ⟨g, cap, cur, hv, hg, hh, h1, h2, h3, h4⟩
  · omega
  · injection hv with a b c
    subst c
    exact ⟨g, cur, a, hg, hh, h1, h2, h3, h4⟩
section
variable {P : Program} {n : Nat} {Q : Exit → Fr → World → Prop} {f : Fr} {w : World} {ops : Array Oper} {rest : List Oper} {d : Nat} {ty : TypeId} {pos : String} {aft : Array Edge} {v : Value} {x y : Operand}

theorem wl_setO {t : TypeId} {z : Value} {base : Nat} {e : TypeId} {A : Option Addr} {m cp i : Nat} {cs : List Value} [h : TOne P t z] (ho : Own w base e 1 A m cp cs) (hx : ev n f x = .pointer (some ((adr A).add i))) (hy : ev n f y = v)
    (hv : v.cells = #[v]) (hone : v.oneCell' = true) (hi : i < cs.length)
    (k : ∀ w1, Own w1 base e 1 A m cp (cs.set i v) → w.grownBy w1 (blk A) → w1.heap.size = w.heap.size → WL P n ops Q rest f w1) :
    WL P n ops Q (⟨none, .store t x y, ty, pos, aft, none⟩ :: rest) f w := by
  have hm : 0 < m := by have := ho.1; omega
  obtain ⟨g, cur, rfl, hg, hh, h1, h2, h3, h4⟩ := own_some ho hm
  have hlen := ho.1
  refine wl_store (g := g) (off := i) (cs := [v]) hx (by simp [adr, Addr.add]; try omega) hy (by rw [hv]) (fun w => h.siz w) (by simp [hone]) hh (by simp [h3]; omega) fun w1 hw hb => k w1 ?_ (by simpa [blk] using hw.grown) hw.size
  refine ⟨by simpa using hlen, .inr ⟨g, cp, _, rfl, hg, hb, h1, h2, ?_, ?_⟩⟩
  · simp [h3]; omega
  · rw [← h4, Nat.mul_one]
    apply List.ext_getElem?
    intro j
    simp only [List.getElem?_take, List.getElem?_set, List.length_cons, List.length_nil, List.getElem?_append, List.length_append, List.length_take, Array.length_toList, h3, List.getElem?_drop, Nat.mul_one]
    by_cases hj : j < m
    · simp only [hj, if_true]
      have hmin : min i cp = i := by omega
      rw [hmin]
      by_cases hji : j < i
      · simp [hji, show j < i + 1 by omega, show i ≠ j by omega]
      · by_cases hje : j = i
        · subst hje; simp [show min m cp = m by omega, hj]
        · simp only [show ¬ j < i by omega, show ¬ j < i + (0 + 1) by omega, if_false, show ¬ i = j by omega]
          congr 1; omega
    · simp [hj, show i ≠ j by omega]
theorem wl_setI {t : TypeId} {z : Value} {base : Nat} {e : TypeId} {A : Option Addr} {m cp i : Nat} {L : List Int} {u : Int} [h : TOne P t z] (ho : Own w base e 1 A m cp (ints L)) (hx : ev n f x = .pointer (some ((adr A).add i))) (hy : ev n f y = .int .i64 u)
    (hi : i < L.length)
    (k : ∀ w1, Own w1 base e 1 A m cp (ints (L.set i u)) → w.grownBy w1 (blk A) → w1.heap.size = w.heap.size → WL P n ops Q rest f w1) :
    WL P n ops Q (⟨none, .store t x y, ty, pos, aft, none⟩ :: rest) f w :=
  wl_setO ho hx hy rfl rfl (by rw [ints_len]; exact hi) fun w1 h1 => k w1 (by rw [← ints_set]; exact h1)

/-- clear(x[k:]) of a row of integers of the call's own -/
theorem wl_clear {t e : TypeId} {by_ : Nat} {base : Nat} {A A' : Option Addr} {m m' cp cp' k : Nat} {L : List Int} [ht : TSl P t e 1 by_] [he : TOne P e (.int .i64 0)] (ho : Own w base e 1 A m cp (ints L))
    (hx : ev n f x = .slice A' m' cp') (hA : A' = (if cp = k then A else A.map (·.add (k * 1)))) (hm' : m' = m - k) (hk : k ≤ m)
    (kk : ∀ w1, Own w1 base e 1 A k cp (ints (L.take k)) → w.grownBy w1 (blk A) → w1.heap.size = w.heap.size → WL P n ops Q rest f w1) :
    WL P n ops Q (⟨none, .call { callee := .builtin .clear, args := #[x], argTypes := #[t] }, ty, pos, aft, none⟩ :: rest) f w := by
  by_cases h0 : m - k = 0
  · have hmk : m = k := by omega
    subst hmk
    refine wl_val0 (v := .tuple #[]) (w' := w) ?_ (kk w ?_ ⟨rfl, rfl, rfl, Nat.le_refl _, fun _ _ _ => rfl⟩ rfl)
    · intro d pos aft g
      subst hm'
      rw [Nat.sub_self] at hx
      cases A' <;> simp [execOp, resolve, invoke, builtin, Builtin.clear_, hx, run_underlying ht.und]
    · have := own_take ho (Nat.le_refl m)
      rwa [ints_take] at this
  · obtain ⟨g, cur, rfl, hg, hh, h1, h2, h3, h4⟩ := own_some ho (by omega)
    rw [if_neg (by omega)] at hA
    subst hA hm'
    have hzl : ∀ q, (Builtin.zeroCells #[Value.int .i64 0] q).toList = List.replicate q (Value.int .i64 0) := by
      intro q
      apply List.ext_getElem?
      intro j
      simp [Builtin.zeroCells, List.getElem?_replicate]
      by_cases hj : j < q
      · simp [hj, Nat.mod_one]
      · simp [hj]
    have hst := run_storeCells_at P g k e (List.replicate (m - k) (Value.int .i64 0)) 0 cur w hh (by simp [h3]; omega) (fun v hv => by rw [List.eq_of_mem_replicate hv]; rfl)
    have hmne : ∃ q, m - k = q + 1 := ⟨m - k - 1, by omega⟩
    refine wl_val0 (v := .tuple #[]) (w' := w.setRow g (cur.toList.take k ++ List.replicate (m - k) (Value.int .i64 0) ++ cur.toList.drop (k + (List.replicate (m - k) (Value.int .i64 0)).length)).toArray) ?_ (kk _ ?_ ?_ (by simp))
    · intro d pos aft gg
      obtain ⟨q, hq⟩ := hmne
      rw [hq] at hst hx ⊢
      simp only [Nat.add_zero] at hst
      simp [execOp, resolve, invoke, builtin, Builtin.clear_, hx, run_underlying ht.und, he.zer, he.one, hzl, Addr.add_lit]
      simp at hst
      rw [hst]
      simp
    · refine ⟨by rw [ints_len, List.length_take]; have := ho.1; rw [ints_len] at this; omega, .inr ⟨g, cp, _, rfl, hg, setRow_heap w g cur _ e _ hh, by omega, h2, ?_, ?_⟩⟩
      · simp [h3]; omega
      · rw [← ints_take, ← h4, List.take_take, Nat.mul_one, Nat.mul_one, show min k m = k by omega]
        rw [List.append_assoc, List.take_append_of_le_length (by simp [h3]; omega)]
        rw [List.take_take, Nat.min_self]
    · simpa [blk] using (Wrt.mk' w g _).grown

/-! blocks of integers -/
theorem ox_loadB {t t' : TypeId} {z : Value} {b i : Nat} {fr : Nat × Nat} {L : List Int} [h : TOne P t z] (hb : w.heap[b]? = some (.cells (ints L).toArray t' fr)) (hx : ev n f x = .pointer (some ⟨b, i, none⟩)) (hi : i < L.length) :
    OX P n f (.load t x) ty w (.int .i64 (L.getD i 0)) w := ox_load hx (cellB hb (by simpa using ints_get hi))
theorem ox_indexB {t e : TypeId} {len : Nat} {b i : Nat} {k : IntKind} [h : TArr P t len e 1] (hx : ev n f x = .pointer (some ⟨b, 0, none⟩)) (hy : ev n f y = .int k i) (h1 : i < len) :
    OX P n f (.indexAddr t x y) ty w (.pointer (some ⟨b, i, none⟩)) w := by
  have := ox_indexArr (P := P) (t := t) (w := w) (ty := ty) hx hy (Int.natCast_nonneg _) (Int.ofNat_lt.2 h1)
  simpa [Addr.add_lit] using this
theorem wl_storeB {t t' : TypeId} {z : Value} {b i : Nat} {L : List Int} {u : Int} [h : TOne P t z] (hb : w.heap[b]? = some (.cells (ints L).toArray t' (0, 0))) (hx : ev n f x = .pointer (some ⟨b, i, none⟩)) (hy : ev n f y = .int .i64 u) (hi : i < L.length)
    (k : ∀ w1, Wrt w w1 b → w1.heap[b]? = some (.cells (ints (L.set i u)).toArray t' (0, 0)) → WL P n ops Q rest f w1) :
    WL P n ops Q (⟨none, .store t x y, ty, pos, aft, none⟩ :: rest) f w :=
  wl_store (cs := [.int .i64 u]) hx rfl hy rfl (fun w => h.siz w) rfl hb (by simp [ints_len]; omega) fun w1 hw h1 => k w1 hw (by
    rw [h1, ← ints_set]
    congr 3
    apply List.ext_getElem?
    intro j
    have hl := ints_len L
    simp only [List.getElem?_set, List.length_cons, List.length_nil, List.getElem?_append, List.length_append, List.length_take, hl, List.getElem?_drop, List.getElem?_take]
    by_cases hji : j < i
    · simp [hji, show min i L.length = i by omega, show j < i + 1 by omega, show i ≠ j by omega]
    · by_cases hje : j = i
      · subst hje; simp [show min j L.length = j by omega, hi]
      · simp only [show min i L.length = i by omega, show ¬ j < i by omega, show ¬ j < i + (0 + 1) by omega, if_false, show ¬ i = j by omega]
        congr 1; omega)
theorem loadVar_agg {t t' : TypeId} {sz : Nat} {z : List Value} {b : Nat} {fr : Nat × Nat} {cs : List Value} [h : TAgg P t sz z] (hb : w.heap[b]? = some (.cells cs.toArray t' fr)) (hl : cs.length = sz) :
    (loadVar t ⟨b, 0, none⟩).run P w = .ok (.agg cs.toArray) w := by
  have hc : ∀ j u, cs[j]? = some u → w.cell? ((⟨b, 0, none⟩ : Addr).add j) = some u := fun j u hj => by rw [Addr.add_lit]; exact cellB hb (by simpa using hj)
  have key : ∀ (k i : Nat) (acc : Array Value), i + k = cs.length → (loadCellsFrom ⟨b, 0, none⟩ i k acc).run P w = .ok (acc ++ (cs.drop i).toArray) w := by
    intro k
    induction k with
    | zero => intro i acc hi; simp [loadCellsFrom, List.drop_of_length_le (by omega : cs.length ≤ i)]
    | succ k ih =>
      intro i acc hi
      have hlt : i < cs.length := by omega
      have hcell := hc i cs[i] (by simp [hlt])
      simp only [loadCellsFrom, load, Sem.run_bind, Sem.run, hcell, Result.andThen_ok]
      rw [ih (i + 1) _ (by omega)]
      congr 1
      apply Array.toList_inj.1
      rw [List.drop_eq_getElem_cons hlt]
      simp
  have := key sz 0 #[] (by omega)
  simp [loadVar, h.agg, h.siz, loadCells, this]
theorem ox_loadV {t t' : TypeId} {sz : Nat} {z : List Value} {b : Nat} {fr : Nat × Nat} {cs : List Value} [h : TAgg P t sz z] (hx : ev n f x = .pointer (some ⟨b, 0, none⟩)) (hb : w.heap[b]? = some (.cells cs.toArray t' fr)) (hl : cs.length = sz) :
    OX P n f (.load t x) ty w (.agg cs.toArray) w := by
  intro d pos aft g
  simp [execOp, Instr.loadAt, Instr.sureAddr, hx, loadVar_agg (P := P) (t := t) hb hl]
/-- a whole struct or array is stored -/
theorem wl_storeV {t t' : TypeId} {sz b : Nat} {z cur cs : List Value} [h : TAgg P t sz z] (hb : w.heap[b]? = some (.cells cur.toArray t' (0, 0))) (hc : cur.length = sz) (hx : ev n f x = .pointer (some ⟨b, 0, none⟩)) (hy : ev n f y = .agg cs.toArray) (hl : cs.length = sz) (hone : cs.all (·.oneCell') = true)
    (k : ∀ w1, Wrt w w1 b → w1.heap[b]? = some (.cells cs.toArray t' (0, 0)) → WL P n ops Q rest f w1) :
    WL P n ops Q (⟨none, .store t x y, ty, pos, aft, none⟩ :: rest) f w :=
  wl_store (cs := cs) (off := 0) hx rfl hy (by simp [Value.cells]) (fun w => by rw [hl]; exact h.siz w) hone hb (by simp; omega) fun w1 hw h1 => k w1 hw (by rw [h1]; simp [List.drop_of_length_le (show cur.length ≤ cs.length by omega)])
/-- one cell in a box is stored -/
theorem wl_store1 {t t' : TypeId} {b : Nat} {z cur : Value} [h : TOne P t z] (hb : w.heap[b]? = some (.cells #[cur] t' (0, 0))) (hx : ev n f x = .pointer (some ⟨b, 0, none⟩)) (hy : ev n f y = v) (hv : v.cells = #[v]) (hone : v.oneCell' = true)
    (k : ∀ w1, Wrt w w1 b → w1.heap[b]? = some (.cells #[v] t' (0, 0)) → WL P n ops Q rest f w1) :
    WL P n ops Q (⟨none, .store t x y, ty, pos, aft, none⟩ :: rest) f w :=
  wl_store (cs := [v]) (off := 0) hx rfl hy (by rw [hv]) (fun w => h.siz w) (by simp [hone]) hb (by simp) fun w1 hw h1 => k w1 hw (by rw [h1]; simp)

end
end Go.Fw
