/- Code over a frame and pieces of memory: the rules for memory that is made, read and written. -/
import Derived.Test.YtehjdbgijibmcaaVh
set_option linter.unusedSimpArgs false
set_option linter.unusedVariables false
namespace Go.Fw
open Go.RowKit

/-- An append to a row of one's own: in place, or into a new block. -/
theorem append_ex {P : Program} {w : World} {t ty e : TypeId} {sz by_ : Nat} {A B : Option Addr} {m cp kk c2 : Nat} {xs news : List Value} {base : Nat} [ht : TSl P t e sz by_] [he : TEl P e sz by_]
    (hown : Own w base e sz A m cp xs) (hsrc : Src w B news)
    (hl : news.length = kk * sz) (h1 : ∀ u ∈ news, u.oneCell' = true) (hbig : (m + kk) * by_ ≤ 140737488355328) (h63 : m + kk ≤ 140737488355328) (hbase : base ≤ w.heap.size) :
    ∃ A' cp' w1, (Builtin.append_ #[t, t] ty #[.slice A m cp, .slice B kk c2]).run P w = .ok (.slice A' (m + kk) cp') w1 ∧ Own w1 base e sz A' (m + kk) cp' (xs ++ news) ∧ w.grownBy w1 (blk A) ∧
      (A' = A ∧ cp' = cp ∧ m + kk ≤ cp ∨ Ext w w1 ∧ (∀ k, blk A' = some k → w.heap.size ≤ k) ∧ cp < m + kk) := by
  obtain ⟨i, z, hi, hisz, hiby, hz, hzs⟩ := he.inf
  have hpos := he.pos
  by_cases h0 : kk = 0
  · subst h0
    have hn : news = [] := List.eq_nil_of_length_eq_zero (by simpa using hl)
    subst hn
    have hcap := (own_cap hown).1
    refine ⟨A, cp, w, ?_, by simpa using hown, ⟨rfl, rfl, rfl, Nat.le_refl _, fun _ _ _ => rfl⟩, .inl ⟨rfl, rfl, by omega⟩⟩
    cases B with
    | none =>
      cases A with
      | none => simp [Builtin.append_, run_underlying ht.und, sizeOf, typeInfo, program, Sem.run, hi, Builtin.lenOf, Builtin.firstCells, hcap, storeCells]
      | some a => simp [Builtin.append_, run_underlying ht.und, sizeOf, typeInfo, program, Sem.run, hi, Builtin.lenOf, Builtin.firstCells, hcap, storeCells]
    | some b =>
      cases A with
      | none => simp [Builtin.append_, run_underlying ht.und, sizeOf, typeInfo, program, Sem.run, hi, Builtin.lenOf, Builtin.firstCells, hcap, storeCells, loadCells, loadCellsFrom]
      | some a => simp [Builtin.append_, run_underlying ht.und, sizeOf, typeInfo, program, Sem.run, hi, Builtin.lenOf, Builtin.firstCells, hcap, storeCells, loadCells, loadCellsFrom]
  · have hne : 0 < news.length := by rw [hl]; exact Nat.mul_pos (by omega) hpos
    obtain ⟨hB, _⟩ := hsrc 0 news[0] (by simp [hne])
    have hnews : ∀ j u, news[j]? = some u → w.cell? ((adr B).add j) = some u := fun j u hu => (hsrc j u hu).2
    rw [hB]
    subst hisz hiby
    have hm63 : m + kk ≤ maxLen := by simp only [maxLen]; omega
    have hlen : (xs ++ news).length = (m + kk) * i.size := by rw [List.length_append, hown.1, hl, Nat.add_mul]
    have grown : ∀ (old : Nat) (row : Option Nat),
        Own (w.drew.alloc (.cells (xs.toArray ++ news.toArray ++ Builtin.zeroCells z.cells (grownCap w (m + kk) old e - (m + kk))) e)) base e i.size
          (some ⟨w.heap.size, 0, none⟩) (m + kk) (grownCap w (m + kk) old e) (xs ++ news) ∧
        w.grownBy (w.drew.alloc (.cells (xs.toArray ++ news.toArray ++ Builtin.zeroCells z.cells (grownCap w (m + kk) old e - (m + kk))) e)) row := by
      intro old row
      have hge := grownCap_ge w (m + kk) old e
      refine ⟨⟨hlen, .inr ⟨w.heap.size, _, _, rfl, hbase, heap_alloc_new w.drew _, hge, grownCap_le_maxLen w (m + kk) old e hm63, ?_, ?_⟩⟩, ⟨rfl, rfl, rfl, by simp, fun k hk _ => Below.heap_alloc w.drew _ k hk⟩⟩
      · simp only [Array.size_append, List.size_toArray, size_zeroCells, hzs, hown.1, hl, ← Nat.add_mul]
        congr 1
        omega
      · simp only [Array.toList_append, List.append_assoc]
        rw [← List.append_assoc, ← hlen]
        exact List.take_left
    rcases hown.2 with ⟨hv, hm⟩ | ⟨g, cap, cur, hv, hbg, hg, hnc, hcm, hcs, htake⟩
    · injection hv with hA _ hc
      subst hA hc hm
      have hx : xs = [] := List.eq_nil_of_length_eq_zero (by simpa using hown.1)
      subst hx
      have hr := run_append_nil (P := P) w t ty e i z ht.und hi hz (adr B) kk c2 news hl hnews (by omega) (by omega) (by simp only [Nat.zero_add] at hbig; omega)
      have hgr := grown 0 none
      simp only [Nat.zero_add, List.nil_append, Array.empty_append] at hgr ⊢
      refine ⟨_, _, _, hr, hgr.1, hgr.2, .inr ⟨Ext.grown0 hgr.2, fun k hk => ?_, by omega⟩⟩
      simp [blk] at hk; omega
    · injection hv with hA _ hc
      subst hA hc
      by_cases hroom : m + kk ≤ cp
      · have hfit : m * i.size + news.length ≤ cur.size := by rw [hl, hcs, ← Nat.add_mul]; exact Nat.mul_le_mul_right _ hroom
        have hr := run_append_room (P := P) w t ty e i ht.und hi g m cp cur hg (adr B) kk c2 news hl hnews h1 hroom hfit
        refine ⟨_, _, _, hr, ⟨hlen, .inr ⟨g, cp, _, rfl, hbg, setRow_heap w g cur _ e _ hg, hroom, hcm, ?_, ?_⟩⟩, ⟨rfl, rfl, rfl, by simp, fun k _ hk => setRow_other w g k _ (fun e => hk (by simp [blk, e]))⟩, .inl ⟨rfl, rfl, hroom⟩⟩
        · simp only [List.size_toArray, List.length_append, List.length_take, List.length_drop, Array.length_toList]
          omega
        · rw [htake, ← hlen]
          exact List.take_left
      · have holds : ∀ j u, xs[j]? = some u → w.cell? ((⟨g, 0, none⟩ : Addr).add j) = some u := World.ownsRow.cells hown (g := g) rfl
        have hr := run_append_grow (P := P) w t ty e i z ht.und hi hz ⟨g, 0, none⟩ m cp xs hown.1 holds (adr B) kk c2 news hl hnews (by omega) (by omega) (growslice_fits (by omega) hbig)
        have hgr := grown cp (blk (some ⟨g, 0, none⟩))
        refine ⟨_, _, _, hr, hgr.1, hgr.2, .inr ⟨Ext.grown0 (grown cp none).2, fun k hk => ?_, by omega⟩⟩
        simp [blk] at hk; omega

section
variable {P : Program} {n : Nat} {Q : HQ} {f : Fr} {w0 : World} {H R : List HP} {ops : Array Oper} {rest : List Oper} {d : Nat} {op : Op} {ty : TypeId} {pos : String} {aft : Array Edge} {v : Value} {x y : Operand}

theorem wh_alloc1 {t : TypeId} {z : Value} [h : TOne P t z] (k : ∀ b, WH P n ops Q rest (upd f d (.pointer (some ⟨b, 0, none⟩))) w0 (bx b t [z] :: H)) :
    WH P n ops Q (⟨some d, .alloc t, ty, pos, aft, none⟩ :: rest) f w0 H := ⟨fun _ hw => wl_alloc1 fun w1 b hn => (k b).out w1 (hw.new hn)⟩
theorem wh_allocA {t : TypeId} {sz : Nat} {z : List Value} [h : TAgg P t sz z] (k : ∀ b, WH P n ops Q rest (upd f d (.pointer (some ⟨b, 0, none⟩))) w0 (bx b t z :: H)) :
    WH P n ops Q (⟨some d, .alloc t, ty, pos, aft, none⟩ :: rest) f w0 H := ⟨fun _ hw => wl_allocA fun w1 b hn => (k b).out w1 (hw.new hn)⟩
theorem wh_box {t : TypeId} {cs : List Value} (hx : ev n f x = v) (hv : v.cells.toList = cs) (k : ∀ b, WH P n ops Q rest (upd f d (.pointer (some ⟨b, 0, none⟩))) w0 (bx b t cs :: H)) :
    WH P n ops Q (⟨some d, .box t x, ty, pos, aft, none⟩ :: rest) f w0 H := ⟨fun _ hw => wl_box hx (cs := cs.toArray) (by rw [← hv]) fun w1 b hn => (k b).out w1 (hw.new hn)⟩

/-! boxes -/
theorem ox_loadBx {w : World} {t te : TypeId} {z : Value} {b off : Nat} {cs : List Value} [h : TOne P t z] (hw : Wd w0 H w) (hx : ev n f x = .pointer (some ⟨b, off, none⟩)) (hs : Split H (bx b te cs) R) (hv : cs[off]? = some v) :
    OX P n f (.load t x) ty w v w := ox_load hx (hw.cell hs hv)
theorem ox_loadBxA {w : World} {t te : TypeId} {sz : Nat} {z : List Value} {b : Nat} {cs : List Value} [h : TAgg P t sz z] (hw : Wd w0 H w) (hx : ev n f x = .pointer (some ⟨b, 0, none⟩)) (hs : Split H (bx b te cs) R) (hl : cs.length = sz) :
    OX P n f (.load t x) ty w (.agg cs.toArray) w := ox_loadV hx (hw.box hs).1 hl
theorem wh_storeBx {t te : TypeId} {z : Value} {b off : Nat} {cs : List Value} [h : TOne P t z] (hx : ev n f x = .pointer (some ⟨b, off, none⟩)) (hy : ev n f y = v) (hs : Split H (bx b te cs) R) (hv : v.cells = #[v]) (hone : v.oneCell' = true) (hoff : off < cs.length)
    (k : WH P n ops Q rest f w0 (bx b te (cs.set off v) :: R)) : WH P n ops Q (⟨none, .store t x y, ty, pos, aft, none⟩ :: rest) f w0 H :=
  ⟨fun w hw => wl_store (cs := [v]) hx rfl hy (by rw [hv]) (fun w => h.siz w) (by simp [hone]) (hw.box hs).1 (by simp; omega) fun w1 hw1 hb => k.out w1 (hw.setBox hs hw1 (by
    rw [hb]; congr 3
    rw [List.set_eq_take_append_cons_drop, if_pos hoff]
    simp))⟩
theorem wh_storeBxA {t te : TypeId} {sz b : Nat} {z cur cs : List Value} [h : TAgg P t sz z] (hx : ev n f x = .pointer (some ⟨b, 0, none⟩)) (hy : ev n f y = .agg cs.toArray) (hs : Split H (bx b te cur) R) (hc : cur.length = sz) (hl : cs.length = sz) (hone : cs.all (·.oneCell') = true)
    (k : WH P n ops Q rest f w0 (bx b te cs :: R)) : WH P n ops Q (⟨none, .store t x y, ty, pos, aft, none⟩ :: rest) f w0 H :=
  ⟨fun w hw => wl_storeV (hw.box hs).1 hc hx hy hl hone fun w1 hw1 hb => k.out w1 (hw.setBox hs hw1 hb)⟩
theorem loadVar_bx {w : World} {t te : TypeId} {sz : Nat} {z : List Value} {b : Nat} {cs : List Value} [h : TAgg P t sz z] (hw : Wd w0 H w) (hs : Split H (bx b te cs) R) (hl : cs.length = sz) : (loadVar t ⟨b, 0, none⟩).run P w = .ok (.agg cs.toArray) w :=
  loadVar_agg (hw.box hs).1 hl
theorem loadVar_bx1 {w : World} {t te : TypeId} {z : Value} {b : Nat} [h : TOne P t z] (hw : Wd w0 H w) (hs : Split H (bx b te [v]) R) : (loadVar t ⟨b, 0, none⟩).run P w = .ok v w := by
  have := hw.cell (off := 0) (v := v) hs (by simp)
  simp [loadVar, h.agg, load, Sem.run, this]

/-! slices that are read -/
section
variable {α : Type} [F : Flat α] {w : World}
theorem ox_indexR {t e : TypeId} {sz by_ : Nat} {A : Option Addr} {m cp : Nat} {k : IntKind} {i : Nat} {l : List α} [h : TSl P t e sz by_] (hr : Rd w A l) (hx : ev n f x = .slice A m cp) (hy : ev n f y = .int k i)
    (hsz : sz = F.sz) (h1 : i < m) (h2 : i < l.length) : OX P n f (.indexAddr t x y) ty w (.pointer (some ((adr A).add (i * sz)))) w := by
  subst hsz
  have hl := F.len (l.getD i F.dflt)
  have hp := F.pos
  have hA := (hr _ _ (encs_get h2 (j := 0) (List.getElem?_eq_getElem (by omega)))).1
  rw [hA] at hx
  have := ox_index (P := P) (t := t) (w := w) (ty := ty) hx hy (Int.natCast_nonneg _) (Int.ofNat_lt.2 h1)
  rwa [Int.toNat_natCast] at this
theorem ox_indexRI {t e : TypeId} {sz by_ : Nat} {A : Option Addr} {m cp : Nat} {k : IntKind} {i : Int} {l : List α} [h : TSl P t e sz by_] (hr : Rd w A l) (hx : ev n f x = .slice A m cp) (hy : ev n f y = .int k i)
    (hsz : sz = F.sz) (h0 : 0 ≤ i) (h1 : i < m) (h2 : i < l.length) : OX P n f (.indexAddr t x y) ty w (.pointer (some ((adr A).add (i.toNat * sz)))) w :=
  ox_indexR (i := i.toNat) hr hx (by rw [hy, Int.toNat_of_nonneg h0]) hsz (by omega) (by omega)
theorem ox_loadRi {t : TypeId} {z : Value} {A : Option Addr} {i : Nat} {l : List Int} [h : TOne P t z] (hr : Rd w A l) (hx : ev n f x = .pointer (some ((adr A).add (i * 1)))) (h1 : i < l.length) : OX P n f (.load t x) ty w (.int .i64 (l.getD i 0)) w :=
  ox_load hx (hr _ _ (encs_get h1 (j := 0) rfl)).2
theorem ox_loadR1 {t : TypeId} {z : Value} {sz : Nat} {A : Option Addr} {i : Nat} {l : List α} [h : TOne P t z] (hr : Rd w A l) (hx : ev n f x = .pointer (some ((adr A).add (i * sz)))) (hsz : sz = F.sz) (h1 : i < l.length) (hv : F.enc (l.getD i F.dflt) = [v]) : OX P n f (.load t x) ty w v w := by
  subst hsz
  exact ox_load hx (hr _ _ (encs_get h1 (j := 0) (by rw [hv]; rfl))).2
theorem ox_loadRA {t : TypeId} {sz : Nat} {z : List Value} {A : Option Addr} {i : Nat} {l : List α} [h : TAgg P t sz z] (hr : Rd w A l) (hx : ev n f x = .pointer (some ((adr A).add (i * sz)))) (hsz : sz = F.sz) (h1 : i < l.length) : OX P n f (.load t x) ty w (.agg (F.enc (l.getD i F.dflt)).toArray) w := by
  subst hsz
  exact ox_loadA hx (fun j u hj => by rw [add_add]; exact (hr _ _ (encs_get h1 hj)).2) (F.len _)
theorem ox_loadRf {t : TypeId} {z : Value} {sz off : Nat} {A : Option Addr} {i : Nat} {l : List α} [h : TOne P t z] (hr : Rd w A l) (hx : ev n f x = .pointer (some (((adr A).add (i * sz)).add off))) (hsz : sz = F.sz) (h1 : i < l.length) (hv : (F.enc (l.getD i F.dflt))[off]? = some v) : OX P n f (.load t x) ty w v w := by
  subst hsz
  rw [add_add] at hx
  exact ox_load hx (hr _ _ (encs_get h1 hv)).2
end
/-! rows of one's own -/
section
variable {α : Type} [F : Flat α]
theorem ent_nilrow {e : TypeId} {G : List HP} (h : Ent H G) : Ent H (orow e none 0 ([] : List α) :: G) := ⟨fun p hp => by
  obtain ⟨q, hq, hk⟩ := h.out p hp
  exact ⟨pjoin pnil q, ⟨pnil, q, ⟨by simp [encs], .inl ⟨rfl, rfl, rfl⟩⟩, hq, fun _ => .inl rfl, rfl⟩, fun k o ho => hk k o ho⟩⟩
/-- Element i is written anew. -/
theorem own_set {w w1 : World} {e : TypeId} {A : Option Addr} {cp i : Nat} {l : List α} {base : Nat} {x' : α} (ho : Own w base e F.sz A l.length cp (encs l)) (hi : i < l.length) :
    ∃ g cur, A = some ⟨g, 0, none⟩ ∧ w.heap[g]? = some (.cells cur e (0, 0)) ∧ cur.size = cp * F.sz ∧ l.length ≤ cp ∧
      (w1.heap[g]? = some (.cells (cur.toList.take (i * F.sz) ++ F.enc x' ++ cur.toList.drop (i * F.sz + F.sz)).toArray e (0, 0)) → Own w1 base e F.sz A (l.set i x').length cp (encs (l.set i x'))) := by
  obtain ⟨g, cur, rfl, hg, hh, h1, h2, h3, h4⟩ := own_some ho (by omega)
  have hle : (i + 1) * F.sz ≤ l.length * F.sz := Nat.mul_le_mul_right _ hi
  have hle2 : l.length * F.sz ≤ cp * F.sz := Nat.mul_le_mul_right _ h1
  rw [Nat.succ_mul] at hle
  refine ⟨g, cur, rfl, hh, h3, h1, fun hb => ⟨by rw [encs_len], .inr ⟨g, cp, _, rfl, hg, hb, by simpa using h1, h2, ?_, ?_⟩⟩⟩
  · simp only [List.size_toArray, List.length_append, List.length_take, List.length_drop, Array.length_toList, h3, F.len]
    omega
  · rw [← encs_set hi, List.length_set]
    rw [← h4]
    simp only [List.take_append, List.take_take, List.length_take, Array.length_toList, h3, F.len, List.length_append, List.drop_take]
    rw [show min (l.length * F.sz) (i * F.sz) = i * F.sz by omega, show min (i * F.sz) (l.length * F.sz) = i * F.sz by omega, show min (i * F.sz) (cp * F.sz) = i * F.sz by omega,
      List.take_of_length_le (l := F.enc x') (by rw [F.len]; omega), show l.length * F.sz - (i * F.sz + F.sz) = l.length * F.sz - (i * F.sz + F.sz) from rfl]
theorem get3 (a b c : List Value) (j : Nat) (h : a.length ≤ j) : (a ++ b ++ c)[j]? = (b ++ c)[j - a.length]? := by rw [List.append_assoc, List.getElem?_append_right h]
theorem wh_setR {t e : TypeId} {sz : Nat} {A : Option Addr} {cp i off : Nat} {l : List α} {x' : α} {cs : List Value} (hx : ev n f x = .pointer (some ((adr A).add (i * sz + off)))) (hy : ev n f y = v) (hs : Split H (orow e A cp l) R) (hsz : sz = F.sz) (hi : i < l.length)
    (hv : v.cells.toList = cs) (hsiz : ∀ w, (sizeOf t).run P w = .ok cs.length w) (hone : cs.all (·.oneCell') = true) (hoff : off + cs.length ≤ sz)
    (hx' : F.enc x' = (F.enc (l.getD i F.dflt)).take off ++ cs ++ (F.enc (l.getD i F.dflt)).drop (off + cs.length))
    (k : WH P n ops Q rest f w0 (orow e A cp (l.set i x') :: R)) : WH P n ops Q (⟨none, .store t x y, ty, pos, aft, none⟩ :: rest) f w0 H := by
  subst hsz
  refine ⟨fun w hw => ?_⟩
  have ho := hw.own hs
  obtain ⟨g, cur, rfl, hg, hh, h1, h2, h3, h4⟩ := own_some ho (by omega)
  have hle : (i + 1) * F.sz ≤ l.length * F.sz := Nat.mul_le_mul_right _ hi
  have hle2 : l.length * F.sz ≤ cp * F.sz := Nat.mul_le_mul_right _ h1
  rw [Nat.succ_mul] at hle
  have henc : ∀ j, j < F.sz → cur.toList[i * F.sz + j]? = (F.enc (l.getD i F.dflt))[j]? := fun j hj => by
    have hlt : j < (F.enc (l.getD i F.dflt)).length := by rw [F.len]; exact hj
    have := encs_get hi (List.getElem?_eq_getElem hlt)
    rw [List.getElem?_eq_getElem hlt, ← this, ← h4, List.getElem?_take, if_pos (by omega)]
  refine wl_store (g := g) (off := i * F.sz + off) (cs := cs) hx (by rw [show adr (some ⟨g, 0, none⟩) = ⟨g, 0, none⟩ from rfl, Addr.add_lit]; simp) hy hv hsiz hone hh (by rw [h3]; omega) fun w1 hw1 hb => k.out w1 ?_
  obtain ⟨g', cur', hA, hh', _, _, hset⟩ := own_set (w1 := w1) (x' := x') ho hi
  injection hA with hA
  injection hA with hA _ _
  subst hA
  rw [hh] at hh'
  injection hh' with hh'
  injection hh' with hh' _ _
  subst hh'
  refine hw.row hs (by simpa [blk] using hw1.grown) (hset ?_) (fun k hk => .inl hk)
  rw [hb]
  congr 3
  apply List.ext_getElem?
  intro j
  have hcl : cur.toList.length = cp * F.sz := by simpa using h3
  rw [hx']
  rcases Nat.lt_or_ge j (i * F.sz + off) with h | h
  · rw [List.append_assoc, List.getElem?_append_left (by rw [List.length_take]; omega), List.getElem?_take, if_pos h]
    rcases Nat.lt_or_ge j (i * F.sz) with h' | h'
    · rw [List.append_assoc, List.getElem?_append_left (by rw [List.length_take]; omega), List.getElem?_take, if_pos h']
    · rw [List.append_assoc, List.getElem?_append_right (by rw [List.length_take]; omega), List.length_take, show min (i * F.sz) cur.toList.length = i * F.sz by omega,
        List.append_assoc, List.append_assoc, List.getElem?_append_left (by rw [List.length_take, F.len]; omega), List.getElem?_take, if_pos (by omega), ← henc _ (by omega)]
      congr 1; omega
  · rw [get3 (cur.toList.take (i * F.sz + off)) cs _ j (by rw [List.length_take]; omega), get3 (cur.toList.take (i * F.sz)) _ _ j (by rw [List.length_take]; omega)]
    rw [List.length_take, show min (i * F.sz + off) cur.toList.length = i * F.sz + off by omega, List.length_take, show min (i * F.sz) cur.toList.length = i * F.sz by omega]
    rw [List.append_assoc (List.take off _ ++ cs), get3 ((F.enc (l.getD i F.dflt)).take off) cs _ (j - i * F.sz) (by rw [List.length_take, F.len]; omega), List.length_take, F.len, show min off F.sz = off by omega]
    rcases Nat.lt_or_ge j (i * F.sz + off + cs.length) with h' | h'
    · rw [List.getElem?_append_left (by omega), List.getElem?_append_left (by omega)]
      congr 1; omega
    · rw [List.getElem?_append_right (by omega), List.getElem?_append_right (by omega), List.getElem?_drop]
      rcases Nat.lt_or_ge j (i * F.sz + F.sz) with h'' | h''
      · rw [List.getElem?_append_left (by rw [List.length_drop, F.len]; omega), List.getElem?_drop, ← henc _ (by omega)]
        congr 1; omega
      · rw [List.getElem?_append_right (by rw [List.length_drop, F.len]; omega), List.length_drop, F.len, List.getElem?_drop]
        congr 1; omega
end
theorem wh_setI {t e : TypeId} {z : Value} {A : Option Addr} {cp i : Nat} {l : List Int} {u : Int} [h : TOne P t z] (hx : ev n f x = .pointer (some ((adr A).add (i * 1)))) (hy : ev n f y = .int .i64 u) (hs : Split H (orow e A cp l) R) (hi : i < l.length)
    (k : WH P n ops Q rest f w0 (orow e A cp (l.set i u) :: R)) : WH P n ops Q (⟨none, .store t x y, ty, pos, aft, none⟩ :: rest) f w0 H :=
  wh_setR (off := 0) (cs := [.int .i64 u]) hx hy hs rfl hi rfl (fun w => h.siz w) rfl (Nat.le_refl _) rfl k
section
variable {α : Type} [F : Flat α]
theorem wh_append {t e : TypeId} {sz by_ : Nat} {A B : Option Addr} {m cp kk c2 : Nat} {l l2 : List α} [ht : TSl P t e sz by_] [he : TEl P e sz by_]
    (hx : ev n f x = .slice A m cp) (hy : ev n f y = .slice B kk c2) (hs : Split H (orow e A cp l) R) (hsrc : ∀ w, Wd w0 H w → Rd w B l2) (hsz : sz = F.sz) (hm : m = l.length) (hk : kk = l2.length)
    (hbig : (l.length + l2.length) * by_ ≤ 140737488355328) (h63 : l.length + l2.length ≤ 140737488355328)
    (k : ∀ A' cp', WH P n ops Q rest (upd f d (.slice A' (l ++ l2).length cp')) w0 (orow e A' cp' (l ++ l2) :: R)) :
    WH P n ops Q (⟨some d, .call { callee := .builtin .append, args := #[x, y], argTypes := #[t, t] }, ty, pos, aft, none⟩ :: rest) f w0 H := by
  subst hsz hm hk
  refine ⟨fun w hw => ?_⟩
  obtain ⟨A', cp', w1, hr, ho, hg, hc⟩ := append_ex (P := P) (ty := ty) (c2 := c2) (t := t) (hw.own hs) (hsrc w hw) (encs_len l2) (encs_one l2) hbig h63 hw.1.size
  rw [← encs_append, ← List.length_append] at ho
  rw [← List.length_append] at hr
  refine wl_val (v := .slice A' (l ++ l2).length cp') (w' := w1) ?_ ((k A' cp').out w1 (hw.row hs hg ho fun k hk => ?_))
  · intro d pos aft g
    simp [execOp, resolve, invoke, builtin, hx, hy, hr]
  · rcases hc with ⟨rfl, _⟩ | ⟨_, h, _⟩
    · exact .inl hk
    · exact .inr (h k hk)
/-- The values of a slice that is written out. -/
inductive Vals : List Value → List α → Prop where
  | nil : Vals [] []
  | cons {v : Value} {vs : List Value} {x : α} {l : List α} (hv : v.cells.toList = F.enc x) (h : Vals vs l) : Vals (v :: vs) (x :: l)
theorem Vals.flat {vs : List Value} {l : List α} (h : Vals vs l) : vs.flatMap (·.cells.toList) = encs l ∧ vs.length = l.length ∧ ∀ v ∈ vs, v.cells.size = F.sz := by
  induction h with
  | nil => exact ⟨rfl, rfl, fun _ h => by cases h⟩
  | cons hv _ ih =>
    refine ⟨by rw [List.flatMap_cons, hv, ih.1, encs_cons], by simp [ih.2.1], fun u hu => ?_⟩
    rcases List.mem_cons.1 hu with rfl | hu
    · rw [← Array.length_toList, hv, F.len]
    · exact ih.2.2 u hu
theorem wh_bslice {t e : TypeId} {sz by_ : Nat} {parts : List (Nat × Operand)} {vs : List Value} {l : List α} {len : Nat} [ht : TSl P t e sz by_] [he : TEl P e sz by_]
    (hp : parts.map (fun p => (p.1, ev n f p.2)) = numbered 0 vs) (hl : Vals vs l) (hsz : sz = F.sz) (hlen : l.length = len) (hsmall : len * sz ≤ 16777216)
    (k : ∀ b, WH P n ops Q rest (upd f d (.slice (some ⟨b, 0, none⟩) len len)) w0 (orow e (some ⟨b, 0, none⟩) len l :: H)) :
    WH P n ops Q (⟨some d, .buildSlice t len parts.toArray, ty, pos, aft, none⟩ :: rest) f w0 H := by
  subst hsz hlen
  obtain ⟨h1, h2, h3⟩ := hl.flat
  refine ⟨fun w hw => wl_bslice l.length hp h2 h3 hsmall fun w1 b hn ho => (k b).out w1 (hw.newRow hn.ext ?_)⟩
  rw [h1] at ho
  have := hn.num
  exact own_base ho (by omega)
/-- A row without elements, with room. -/
theorem wh_make0 {t e : TypeId} {sz by_ : Nat} {k1 k2 : IntKind} {cp : Int} [ht : TSl P t e sz by_] [he : TEl P e sz by_] (hx : ev n f x = .int k1 0) (hy : ev n f y = .int k2 cp) (hsz : sz = F.sz)
    (h1 : 0 ≤ cp) (hbig : cp * by_ ≤ 140737488355328) (h63 : cp ≤ 140737488355328)
    (k : ∀ b, WH P n ops Q rest (upd f d (.slice (some ⟨b, 0, none⟩) 0 cp.toNat)) w0 (orow e (some ⟨b, 0, none⟩) cp.toNat ([] : List α) :: H)) :
    WH P n ops Q (⟨some d, .makeSlice t x y, ty, pos, aft, none⟩ :: rest) f w0 H := by
  subst hsz
  refine ⟨fun w hw => wl_make hx hy (Int.le_refl _) h1 hbig h63 fun w1 b he hb _ ⟨cs, hcl, ho⟩ => (k b).out w1 (hw.newRow he ?_)⟩
  have : cs = [] := List.eq_nil_of_length_eq_zero (by simpa using hcl)
  subst this
  exact own_base ho (by omega)
end
end
end Go.Fw
