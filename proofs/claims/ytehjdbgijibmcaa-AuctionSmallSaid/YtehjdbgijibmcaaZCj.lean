/- An append that fits into its own row, of which all elements are known. -/
import Derived.Test.YtehjdbgijibmcaaZCi
set_option linter.unusedSimpArgs false
set_option linter.unusedVariables false
namespace Go.Proofs.Ytehjdbgijibmcaa
open Go.Fw Go.RowKit
section
variable {P : Program} {n : Nat} {f : Fr} {w w0 : World} {ops : Array Oper} {rest : List Oper} {d : Nat} {ty : TypeId} {pos : String} {aft : Array Edge} {v : Value} {x y : Operand} {md : Md} {Q : HQ} {H R : List HP}
theorem wl_appIn {Q' : Exit → Fr → World → Prop} {t e : TypeId} {sz by_ : Nat} {cs news : List Value} {base : Nat} {A B : Option Addr} {m cp i kk c2 : Nat} [ht : TSl P t e sz by_] (hp : 0 < sz) (ho : Go.Fw.Own w base e sz A m cp cs)
    (hsrc : Src w B news) (hx : ev n f x = .slice A i cp) (hy : ev n f y = .slice B kk c2) (hl : news.length = kk * sz) (h1 : ∀ u ∈ news, u.oneCell' = true) (hik : i + kk ≤ m) (hm : m ≠ 0)
    (k : ∀ w1, Go.Fw.Own w1 base e sz A m cp (cs.take (i * sz) ++ news ++ cs.drop (i * sz + kk * sz)) → w.grownBy w1 (blk A) → WL P n ops Q' rest (upd f d (.slice A (i + kk) cp)) w1) :
    WL P n ops Q' (⟨some d, .call { callee := .builtin .append, args := #[x, y], argTypes := #[t, t] }, ty, pos, aft, none⟩ :: rest) f w := by
  obtain ⟨g, cur, rfl, hg, hh, hc1, hc2, hc3, hc4⟩ := own_some ho (by omega)
  have hsz : ∀ w, (sizeOf e).run P w = .ok sz w := slice_size (P := P) (t := t)
  have hikm : i * sz + kk * sz ≤ m * sz := by rw [← Nat.add_mul]; exact Nat.mul_le_mul_right _ hik
  have hmc : m * sz ≤ cp * sz := Nat.mul_le_mul_right _ hc1
  have hst := run_storeCells_at P g (i * sz) e news 0 cur w hh (by rw [hl, hc3]; omega) h1
  have hload : (Builtin.firstCells sz kk (.slice B kk c2)).run P w = .ok news.toArray w := by
    cases B with
    | none =>
      have : news = [] := by
        cases news with
        | nil => rfl
        | cons u us => exact absurd (hsrc 0 u rfl).1 (by simp)
      subst this
      exact run_firstCells_none w sz kk kk c2
    | some b => exact run_firstCells_some w sz kk b kk c2 news hl fun j u hj => (hsrc j u hj).2
  refine wl_val (v := .slice (some ⟨g, 0, none⟩) (i + kk) cp) (w' := w.setRow g (cur.toList.take (i * sz) ++ news ++ cur.toList.drop (i * sz + news.length)).toArray) ?_ (k _ ?_ ?_)
  · intro d pos aft gg
    simp only [Nat.add_zero] at hst
    simp [execOp, resolve, invoke, builtin, Builtin.append_, hx, hy, run_underlying ht.und, hsz, Builtin.lenOf, show i + kk ≤ cp by omega, hload, Addr.add_lit]
    simp at hst
    rw [hst]
    simp
  · have hlen := ho.1
    refine ⟨by simp only [List.length_append, List.length_take, List.length_drop, hl, hlen]; omega, .inr ⟨g, cp, _, rfl, hg, setRow_heap w g cur _ e _ hh, by omega, hc2, ?_, ?_⟩⟩
    · simp only [List.size_toArray, List.length_append, List.length_take, List.length_drop, hl, Array.length_toList, hc3]; omega
    · have hcl : cur.toList.length = cp * sz := by rw [Array.length_toList, hc3]
      rw [← hc4, List.take_take, Nat.min_eq_left (by omega), hl, List.drop_take, List.append_assoc, List.append_assoc]
      show ((cur.toList.take (i * sz) ++ (news ++ cur.toList.drop (i * sz + kk * sz))).take (m * sz)) = _
      rw [List.take_append, List.take_append, List.length_take, hcl, Nat.min_eq_left (by omega), hl, List.take_of_length_le (by rw [List.length_take]; omega), List.take_of_length_le (l := news) (by omega)]
      congr 3
      omega
  · simpa [blk] using (Wrt.mk' w g _).grown
theorem appIn {α : Type} [F : Flat α] {t e : TypeId} {sz by_ : Nat} {A B : Option Addr} {cp i j kk c2 : Nat} {L : List α} [TSl P t e sz by_] (hsz : sz = F.sz) (hm : addOK md = true) (hx : ev n f x = .slice A i cp) (hy : ev n f y = .slice B kk c2) (hs : Split H (orow e A cp L) R)
    (hB : ∀ w, Wd w0 H w → Rd w B (L.drop j)) (hkk : kk = L.length - j) (hij : i ≤ j) (hj : j ≤ L.length) (hne : 0 < L.length)
    (hk : keeps md (orow e A cp (L.take i ++ L.drop j ++ L.drop (i + kk)) :: R)) (k : SH (nx md) P n ops Q rest (upd f d (.slice A (i + kk) cp)) w0 (orow e A cp (L.take i ++ L.drop j ++ L.drop (i + kk)) :: R)) :
    SH md P n ops Q (⟨some d, .call { callee := .builtin .append, args := #[x, y], argTypes := #[t, t] }, ty, pos, aft, none⟩ :: rest) f w0 H := by
  subst hsz
  have hlen : (L.take i ++ L.drop j ++ L.drop (i + kk)).length = L.length := by
    simp only [List.length_append, List.length_take, List.length_drop]; omega
  refine s_mut hm fun w hw => wl_appIn F.pos (hw.own hs) (hB w hw) hx hy (by rw [encs_len, List.length_drop, hkk]) (encs_one _) (by omega) (by omega) fun w1 ho1 hg => wl_nil ⟨rfl, _, hk, k, hw.row hs hg ?_ (fun k hk => .inl hk)⟩
  rw [encs_take, ← Nat.add_mul, encs_drop, ← encs_append, ← encs_append] at ho1
  rw [hlen]; exact ho1
theorem ox_slice_lh {t e : TypeId} {sz by_ : Nat} {A : Option Addr} {m cp : Nat} {k k2 : IntKind} {lo hi : Int} {y2 : Operand} [h : TSl P t e sz by_] (hx : ev n f x = .slice A m cp) (hy : ev n f y = .int k lo) (hz : ev n f y2 = .int k2 hi) (h0 : 0 ≤ lo) (h1 : lo ≤ hi) (h2 : hi ≤ cp) :
    OX P n f (.slice t x (some y) (some y2) none) ty w (.slice (if cp = lo.toNat then A else A.map (·.add (lo.toNat * sz))) (hi.toNat - lo.toNat) (cp - lo.toNat)) w := by
  intro d pos aft g
  have hsz := slice_size (P := P) (t := t) (e := e)
  simp [execOp, not_array h, Instr.slice, hx, hy, hz, run_underlying h.und, Instr.sliceBounds, Instr.sliceBound, asIntOf, h0, h1, h2, hsz, show 0 ≤ hi by omega, show max hi 0 = hi by omega, show ¬ hi < lo by omega]
theorem ox_slice_lhm {t e : TypeId} {sz by_ : Nat} {A : Option Addr} {m cp : Nat} {k k2 k3 : IntKind} {lo hi mx : Int} {y2 y3 : Operand} [h : TSl P t e sz by_] (hx : ev n f x = .slice A m cp) (hy : ev n f y = .int k lo) (hz : ev n f y2 = .int k2 hi) (hz3 : ev n f y3 = .int k3 mx) (h0 : 0 ≤ lo) (h1 : lo ≤ hi) (h2 : hi ≤ mx) (h3 : mx ≤ cp) :
    OX P n f (.slice t x (some y) (some y2) (some y3)) ty w (.slice (if mx.toNat = lo.toNat then A else A.map (·.add (lo.toNat * sz))) (hi.toNat - lo.toNat) (mx.toNat - lo.toNat)) w := by
  intro d pos aft g
  have hsz := slice_size (P := P) (t := t) (e := e)
  simp [execOp, not_array h, Instr.slice, hx, hy, hz, hz3, run_underlying h.und, Instr.sliceBounds, Instr.sliceBound, asIntOf, h0, h1, h2, h3, hsz, show 0 ≤ hi by omega, show 0 ≤ mx by omega, show max mx 0 = mx by omega, show max hi 0 = hi by omega, show ¬ mx < hi by omega, show ¬ hi < lo by omega]
theorem sl2 {t e : TypeId} {sz by_ : Nat} {A : Option Addr} {m cp : Nat} {K K2 : IntKind} {lo hi : Int} {y2 : Operand} [TSl P t e sz by_] (hx : ev n f x = .slice A m cp) (hy : ev n f y = .int K lo) (hz : ev n f y2 = .int K2 hi) (h0 : 0 ≤ lo) (h1 : lo ≤ hi) (h2 : hi ≤ cp)
    (k : SH (nx md) P n ops Q rest (upd f d (.slice (if cp = lo.toNat then A else A.map (·.add (lo.toNat * sz))) (hi.toNat - lo.toNat) (cp - lo.toNat))) w0 H) : SH md P n ops Q (⟨some d, .slice t x (some y) (some y2) none, ty, pos, aft, none⟩ :: rest) f w0 H := s_val (fun _ _ => ox_slice_lh hx hy hz h0 h1 h2) k
theorem sl3 {t e : TypeId} {sz by_ : Nat} {A : Option Addr} {m cp : Nat} {K K2 K3 : IntKind} {lo hi mx : Int} {y2 y3 : Operand} [TSl P t e sz by_] (hx : ev n f x = .slice A m cp) (hy : ev n f y = .int K lo) (hz : ev n f y2 = .int K2 hi) (hz3 : ev n f y3 = .int K3 mx) (h0 : 0 ≤ lo) (h1 : lo ≤ hi) (h2 : hi ≤ mx) (h3 : mx ≤ cp)
    (k : SH (nx md) P n ops Q rest (upd f d (.slice (if mx.toNat = lo.toNat then A else A.map (·.add (lo.toNat * sz))) (hi.toNat - lo.toNat) (mx.toNat - lo.toNat))) w0 H) : SH md P n ops Q (⟨some d, .slice t x (some y) (some y2) (some y3), ty, pos, aft, none⟩ :: rest) f w0 H := s_val (fun _ _ => ox_slice_lhm hx hy hz hz3 h0 h1 h2 h3) k
end
end Go.Proofs.Ytehjdbgijibmcaa
