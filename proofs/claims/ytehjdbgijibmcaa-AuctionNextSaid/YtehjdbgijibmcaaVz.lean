/- More rules: a quotient of numbers of either sign. -/
import Derived.Test.YtehjdbgijibmcaaVq
set_option linter.unusedSimpArgs false
set_option linter.unusedVariables false
namespace Go.Fw
open Go.RowKit
section
variable {md : Md} {P : Program} {n : Nat} {Q : HQ} {f : Fr} {w0 : World} {H R : List HP} {ops : Array Oper} {rest : List Oper} {d : Nat} {op : Op} {ty : TypeId} {pos : String} {aft : Array Edge} {v : Value} {x y c : Operand}
theorem quoT {a b : Int} {t1 t2 : TypeId} (hx : ev n f x = .int .i64 a) (hy : ev n f y = .int .i64 b) (hb : b ≠ 0) (h : In64 (a.tdiv b)) (k : SH (nx md) P n ops Q rest (upd f d (.int .i64 (a.tdiv b))) w0 H) : SH md P n ops Q (⟨some d, .binOp .quo t1 x y t2, ty, pos, aft, none⟩ :: rest) f w0 H :=
  s_val (fun w _ => by have := ox_quo (P := P) (t1 := t1) (t2 := t2) (ty := ty) (w := w) hx hy hb; rwa [wrap_in h] at this) k
theorem tdiv_bound (a : Int) {b m : Int} (_ : 1 ≤ b) (h : -m ≤ a ∧ a ≤ m) : -m ≤ a.tdiv b ∧ a.tdiv b ≤ m := by
  have h1 : (a.tdiv b).natAbs = a.natAbs / b.natAbs := Int.natAbs_tdiv a b
  have h2 : a.natAbs / b.natAbs ≤ a.natAbs := Nat.div_le_self _ _
  omega
end
section
variable {P : Program} {n : Nat} {Q : HQ} {f : Fr} {w0 : World} {H H' : List HP} {fn : Func} {R : Value → List HP → Prop} {v : Value}
/-- The first of two results lies in memory. -/
theorem rhC2 {t u : Nat} {T : TypeId} {a : Addr} (hr : fn.results = #[.cell t T, .tmp u]) (ht : Nat.blt t n = true) (hu : Nat.blt u n = true) (hp : f t = .pointer (some a)) (hl : ∀ w, Wd w0 H w → (loadVar T a).run P w = .ok v w) (h : R (.tuple #[v, f u]) H') (he : Ent H H') (hd : f.c.ds = [] := by rfl) : retH P n fn w0 R .ret f H :=
  ret_plain (.inr rfl) hd fun w hw => ⟨_, by
    have h1 := rep_get (f := f) ht
    rw [hp] at h1
    have h2 := rep_get (f := f) hu
    simp only [Array.getD_eq_getD_getElem?] at h1 h2
    simp [results, hr, h1, h2, asAddr, hl w hw], H', h, he⟩
/-- The first of three results lies in memory. -/
theorem rhC3 {t u x : Nat} {T : TypeId} {a : Addr} (hr : fn.results = #[.cell t T, .tmp u, .tmp x]) (ht : Nat.blt t n = true) (hu : Nat.blt u n = true) (hx : Nat.blt x n = true) (hp : f t = .pointer (some a)) (hl : ∀ w, Wd w0 H w → (loadVar T a).run P w = .ok v w) (h : R (.tuple #[v, f u, f x]) H') (he : Ent H H') (hd : f.c.ds = [] := by rfl) : retH P n fn w0 R .ret f H :=
  ret_plain (.inr rfl) hd fun w hw => ⟨_, by
    have h1 := rep_get (f := f) ht
    rw [hp] at h1
    have h2 := rep_get (f := f) hu
    have h3 := rep_get (f := f) hx
    simp only [Array.getD_eq_getD_getElem?] at h1 h2 h3
    simp [results, hr, h1, h2, h3, asAddr, hl w hw], H', h, he⟩
end
section
variable {md : Md} {P : Program} {n : Nat} {Q : HQ} {f : Fr} {w w0 : World} {H R : List HP} {ops : Array Oper} {rest : List Oper} {d : Nat} {op : Op} {ty : TypeId} {pos : String} {aft : Array Edge} {v : Value} {x y c : Operand}
/-- The rest of a row of structs is cleared. -/
theorem wl_clearG {Q' : Exit → Fr → World → Prop} {t e : TypeId} {sz by_ : Nat} {z cs : List Value} {base : Nat} {A A' : Option Addr} {m m' cp cp' k : Nat} [ht : TSl P t e sz by_] [he : TAgg P e sz z] (hzl : z.length = sz) (hz1 : ∀ u ∈ z, u.oneCell' = true) (hp : 0 < sz) (ho : Own w base e sz A m cp cs)
    (hx : ev n f x = .slice A' m' cp') (hA : A' = (if cp = k then A else A.map (·.add (k * sz)))) (hm' : m' = m - k) (hk : k ≤ m)
    (kk : ∀ w1, Own w1 base e sz A k cp (cs.take (k * sz)) → w.grownBy w1 (blk A) → WL P n ops Q' rest f w1) :
    WL P n ops Q' (⟨none, .call { callee := .builtin .clear, args := #[x], argTypes := #[t] }, ty, pos, aft, none⟩ :: rest) f w := by
  by_cases h0 : m - k = 0
  · have hmk : m = k := by omega
    subst hmk
    refine wl_val0 (v := .tuple #[]) (w' := w) ?_ (kk w (by rw [List.take_of_length_le (Nat.le_of_eq ho.1)]; exact ho) ⟨rfl, rfl, rfl, Nat.le_refl _, fun _ _ _ => rfl⟩)
    intro d pos aft g
    subst hm'
    rw [Nat.sub_self] at hx
    cases A' <;> simp [execOp, resolve, invoke, builtin, Builtin.clear_, hx, run_underlying ht.und]
  · obtain ⟨g, cur, rfl, hg, hh, h1, h2, h3, h4⟩ := own_some ho (by omega)
    rw [if_neg (by omega)] at hA
    subst hA hm'
    have hzs : ∀ q, (Builtin.zeroCells z.toArray q).toList.length = q * sz := by
      intro q
      simp [Builtin.zeroCells, hzl]
    have hzo : ∀ q, ∀ u ∈ (Builtin.zeroCells z.toArray q).toList, u.oneCell' = true := by
      intro q u hu
      simp only [Builtin.zeroCells, Array.toList_map, List.mem_map] at hu
      obtain ⟨i, _, rfl⟩ := hu
      have hi : i % z.length < z.length := Nat.mod_lt _ (by omega)
      rw [List.size_toArray, getElem!_pos z.toArray (i % z.length) (by simpa using hi)]
      exact hz1 _ (List.getElem_mem _)
    have hkm : k * sz + (m - k) * sz = m * sz := by rw [← Nat.add_mul]; congr 1; omega
    have hmc : m * sz ≤ cp * sz := Nat.mul_le_mul_right _ h1
    have hst := run_storeCells_at P g (k * sz) e (Builtin.zeroCells z.toArray (m - k)).toList 0 cur w hh (by rw [hzs, h3]; omega) (hzo _)
    have hmne : ∃ q, m - k = q + 1 := ⟨m - k - 1, by omega⟩
    refine wl_val0 (v := .tuple #[]) (w' := w.setRow g (cur.toList.take (k * sz) ++ (Builtin.zeroCells z.toArray (m - k)).toList ++ cur.toList.drop (k * sz + (Builtin.zeroCells z.toArray (m - k)).toList.length)).toArray) ?_ (kk _ ?_ ?_)
    · intro d pos aft gg
      obtain ⟨q, hq⟩ := hmne
      rw [hq] at hst hx ⊢
      simp only [Nat.add_zero] at hst
      simp [execOp, resolve, invoke, builtin, Builtin.clear_, hx, run_underlying ht.und, he.zer, Value.cells, Addr.add_lit]
      simp at hst
      rw [hst]
      simp
    · have hlen := ho.1
      refine ⟨by rw [List.length_take, hlen]; have := Nat.mul_le_mul_right sz hk; omega, .inr ⟨g, cp, _, rfl, hg, setRow_heap w g cur _ e _ hh, by omega, h2, ?_, ?_⟩⟩
      · simp only [List.size_toArray, List.length_append, List.length_take, List.length_drop, hzs, Array.length_toList, h3]; omega
      · have h4' : cs.take (k * sz) = cur.toList.take (k * sz) := by
          rw [← h4, List.take_take, Nat.min_eq_left (Nat.mul_le_mul_right _ hk)]
        rw [h4', List.append_assoc, List.take_append_of_le_length (by simp only [List.length_take, Array.length_toList, h3]; omega), List.take_take, Nat.min_self]
    · simpa [blk] using (Wrt.mk' w g _).grown
theorem clrG {α : Type} [F : Flat α] {t e : TypeId} {sz by_ : Nat} {z : List Value} {A A' : Option Addr} {m' cp cp' j : Nat} {L : List α} [TSl P t e sz by_] [TAgg P e sz z] (hsz : sz = F.sz) (hzl : z.length = sz) (hz1 : z.all (·.oneCell') = true) (hm : addOK md = true) (hx : ev n f x = .slice A' m' cp') (hs : Split H (orow e A cp L) R)
    (hA : A' = (if cp = j then A else A.map (·.add (j * sz)))) (hm' : m' = L.length - j) (hj : j ≤ L.length)
    (hk : keeps md (orow e A cp (L.take j) :: R)) (k : SH (nx md) P n ops Q rest f w0 (orow e A cp (L.take j) :: R)) :
    SH md P n ops Q (⟨none, .call { callee := .builtin .clear, args := #[x], argTypes := #[t] }, ty, pos, aft, none⟩ :: rest) f w0 H := by
  subst hsz
  refine s_mut hm fun w hw => wl_clearG hzl (List.all_eq_true.1 hz1) F.pos (hw.own hs) hx hA hm' hj fun w1 ho1 hg => wl_nil ⟨rfl, _, hk, k, hw.row hs hg ?_ (fun k hk => .inl hk)⟩
  have : (L.take j).length = j := by rw [List.length_take]; omega
  rw [encs_take] at ho1
  rw [this]; exact ho1
end
/-- Of a row it is known what one cell holds. -/
def cellp (a : Addr) (v : Value) : HP := .oth fun p => ∀ w lo, Inn p w lo → w.cell? a = some v
section
variable {w w0 : World} {H R G : List HP}
theorem Wd.cellp {a : Addr} {v : Value} (h : Wd w0 H w) (hs : Split H (Go.Fw.cellp a v) R) : w.cell? a = some v := by
  obtain ⟨p, q, hx, _, _, hp, _⟩ := (hs.wd h).open_
  exact hx w _ hp
theorem ent_cellp {α : Type} [F : Flat α] {e : TypeId} {A : Option Addr} {cp i off sz : Nat} {l : List α} {v : Value} (h : Split H (orow e A cp l) R) (hg : Ent R G) (hsz : sz = F.sz) (hi : i < l.length) (hv : (F.enc (l.getD i F.dflt))[off]? = some v) : Ent H (cellp (((adr A).add (i * sz)).add off) v :: G) :=
  (ent_cons h hg).trans (ent_imp fun p hp w lo hin => by
    have hr : Rd w A l := src_own (row_own hp hin)
    subst hsz
    have := (hr _ _ (encs_get hi hv)).2
    rw [add_add]; exact this)
end
end Go.Fw
