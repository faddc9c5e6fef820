/- Maps from numbers to numbers. -/
import Derived.Test.YtplhnnlklnbahaaQAa
import Derived.OrdersHeld
import Derived.Laws.StructEq
import Derived.Test.YtplhnnlklnbahaaProg
import Derived.KernelRfl
set_option linter.unusedSimpArgs false
set_option linter.unusedVariables false
/- Rules of the walk. -/
/- Code over a frame and pieces of memory: the rules of control, calls, regions. -/
namespace Go.Fw
open Go.RowKit

abbrev HQ := Exit → Fr → List HP → Prop
def low (w0 : World) (Q : HQ) : Exit → Fr → World → Prop := fun e f w => ∃ H, Q e f H ∧ Wd w0 H w
structure VH (P : Program) (n : Nat) (c : Code) (Q : HQ) (f : Fr) (w0 : World) (H : List HP) : Prop where
  out : ∀ w, Wd w0 H w → W P n c (low w0 Q) f w
structure WH (P : Program) (n : Nat) (ops : Array Oper) (Q : HQ) (l : List Oper) (f : Fr) (w0 : World) (H : List HP) : Prop where
  out : ∀ w, Wd w0 H w → WL P n ops (low w0 Q) l f w
def thenHD (K : Fr → List HP → Prop) (Q : HQ) : HQ
  | .normal, f, H => K f H
  | e, f, H => Q e f H
structure thenH (K : Fr → List HP → Prop) (Q : HQ) (e : Exit) (f : Fr) (H : List HP) : Prop where
  out : thenHD K Q e f H
def blockHD (id : Nat) (Q : HQ) : HQ
  | .exit id', f, H => if id' = id then Q .normal f H else Q (.exit id') f H
  | e, f, H => Q e f H
structure blockH (id : Nat) (Q : HQ) (e : Exit) (f : Fr) (H : List HP) : Prop where
  out : blockHD id Q e f H
/-- The answer of a call: what it returns and the pieces that it leaves, above w0. -/
def RP (w0 : World) (R : Value → List HP → Prop) (v : Value) (w' : World) : Prop := ∃ H', R v H' ∧ Wd w0 H' w'
/-- The value v, and nothing else of one's own. -/
def Sc (v : Value) (u : Value) (H : List HP) : Prop := u = v ∧ H = []
/-- The block of the rounds' deferred calls: none. -/
def dfr (D : Nat) : HP := .oth fun p => p = pone D (.deferred (some []))
def markD (D : Nat) : Deferred := ⟨.collected D, #[]⟩
/-- What is left of the pieces when the marks are taken. -/
inductive Left : List Deferred → List HP → List HP → Prop where
  | nil {H : List HP} : Left [] H H
  | mark {D : Nat} {H R : List HP} (h : Split H (dfr D) R) : Left [markD D] H R
def retHD (P : Program) (n : Nat) (fn : Func) (w0 : World) (R : Value → List HP → Prop) : HQ
  | .normal, f, H | .ret, f, H => ∃ H1, Left f.c.ds H H1 ∧ ∀ w, Wd w0 H1 w → ∃ v, (results fn (rep n f).tmps).run P w = .ok v w ∧ ∃ H', R v H' ∧ Ent H1 H'
  | _, _, _ => False
structure retH (P : Program) (n : Nat) (fn : Func) (w0 : World) (R : Value → List HP → Prop) (e : Exit) (f : Fr) (H : List HP) : Prop where
  out : retHD P n fn w0 R e f H

section
variable {P : Program} {n : Nat} {Q : HQ} {f : Fr} {w0 : World} {H : List HP} {K : Fr → List HP → Prop}
theorem kh_normal (h : K f H) : thenH K Q .normal f H := ⟨h⟩
theorem kh_ret (h : Q .ret f H) : thenH K Q .ret f H := ⟨h⟩
theorem kh_exit {i : Nat} (h : Q (.exit i) f H) : thenH K Q (.exit i) f H := ⟨h⟩
theorem bh_normal {i : Nat} (h : Q .normal f H) : blockH i Q .normal f H := ⟨h⟩
theorem bh_ret {i : Nat} (h : Q .ret f H) : blockH i Q .ret f H := ⟨h⟩
theorem bh_exit {i : Nat} (h : Q .normal f H) : blockH i Q (.exit i) f H := ⟨by simp [blockHD, h]⟩
theorem bh_exit_ne {i j : Nat} (hij : Nat.beq j i = false) (h : Q (.exit j) f H) : blockH i Q (.exit j) f H := by
  have : j ≠ i := fun e => by subst e; simp at hij
  exact ⟨by simp [blockHD, this, h]⟩
theorem VH.mono {c : Code} {Q' : HQ} (h : VH P n c Q f w0 H) (hq : ∀ e f H, Q e f H → Q' e f H) : VH P n c Q' f w0 H :=
  ⟨fun w hw => (h.out w hw).mono fun e f _ ⟨H, h1, h2⟩ => ⟨H, hq e f H h1, h2⟩⟩
theorem VH.ent {c : Code} {G : List HP} (h : VH P n c Q f w0 G) (he : Ent H G) : VH P n c Q f w0 H := ⟨fun w hw => h.out w (he.wd hw)⟩
theorem WH.ent {ops : Array Oper} {l : List Oper} {G : List HP} (h : WH P n ops Q l f w0 G) (he : Ent H G) : WH P n ops Q l f w0 H := ⟨fun w hw => h.out w (he.wd hw)⟩
theorem v_skip (h : Q .normal f H) : VH P n .skip Q f w0 H := ⟨fun _ hw => w_skip ⟨H, h, hw⟩⟩
theorem v_label {l : Nat} (h : Q .normal f H) : VH P n (.label l) Q f w0 H := ⟨fun _ hw => w_label ⟨H, h, hw⟩⟩
theorem v_exit {i : Nat} (h : Q (.exit i) f H) : VH P n (.exit i) Q f w0 H := ⟨fun _ hw => w_exit ⟨H, h, hw⟩⟩
theorem v_ret (h : Q .ret f H) : VH P n .ret Q f w0 H := ⟨fun _ hw => w_ret ⟨H, h, hw⟩⟩
theorem v_seq {x y : Code} (h : VH P n x (thenH (fun f H => VH P n y Q f w0 H) Q) f w0 H) : VH P n (.seq x y) Q f w0 H :=
  ⟨fun w hw => w_seq ((h.out w hw).mono fun e f w ⟨H, ⟨h1⟩, h2⟩ => ⟨by
    cases e <;> first | exact VH.out h1 w h2 | exact ⟨H, h1, h2⟩⟩)⟩
theorem v_block {i : Nat} {c : Code} (h : VH P n c (blockH i Q) f w0 H) : VH P n (.block i c) Q f w0 H :=
  ⟨fun w hw => w_block ((h.out w hw).mono fun e f w ⟨H, ⟨h1⟩, h2⟩ => ⟨by
    cases e with
    | exit j =>
      simp only [blockHD] at h1
      simp only [blockD]
      split
      · rename_i hj; rw [if_pos hj] at h1; exact ⟨H, h1, h2⟩
      · rename_i hj; rw [if_neg hj] at h1; exact ⟨H, h1, h2⟩
    | _ => exact ⟨H, h1, h2⟩⟩)⟩
section conds
variable {c : Operand} {x y : Code}
theorem v_cond {t : Bool} (hc : ev n f c = .bool t) (ht : t = true → VH P n x Q f w0 H) (hf : t = false → VH P n y Q f w0 H) : VH P n (.cond c x y) Q f w0 H :=
  ⟨fun w hw => w_cond hc (fun h => (ht h).out w hw) (fun h => (hf h).out w hw)⟩
theorem v_cond_t {t : Bool} (hc : ev n f c = .bool t) (ht : t = true) (h : VH P n x Q f w0 H) : VH P n (.cond c x y) Q f w0 H :=
  v_cond hc (fun _ => h) (fun h => by rw [ht] at h; cases h)
theorem v_cond_f {t : Bool} (hc : ev n f c = .bool t) (ht : t = false) (h : VH P n y Q f w0 H) : VH P n (.cond c x y) Q f w0 H :=
  v_cond hc (fun h => by rw [ht] at h; cases h) (fun _ => h)
theorem v_cond_dec {p : Prop} [Decidable p] (hc : ev n f c = .bool (decide p)) (ht : p → VH P n x Q f w0 H) (hf : ¬ p → VH P n y Q f w0 H) : VH P n (.cond c x y) Q f w0 H :=
  v_cond hc (fun h => ht (of_decide_eq_true h)) (fun h => hf (of_decide_eq_false h))
theorem v_cond_ndec {p : Prop} [Decidable p] (hc : ev n f c = .bool (!decide p)) (ht : ¬ p → VH P n x Q f w0 H) (hf : p → VH P n y Q f w0 H) : VH P n (.cond c x y) Q f w0 H :=
  v_cond hc (fun h => ht (by simpa using h)) (fun h => hf (by simpa using h))
end conds
/-- The loop rule: the slots in S are written in a round; those in 'ovr x' are known at a round's head, and the pieces are 'Hp x'. -/
theorem v_loop {c : Code} {α : Type} (S : List (Nat × Nat)) (ovr : α → List (Nat × Value)) (Hp : α → List HP) (I : α → Prop) (μ : α → Nat) (x : α) (h0 : Has f (ovr x)) (hH : Ent H (Hp x)) (hI : I x)
    (round : ∀ x g, I x → VH P n c (thenH (fun f' H' => Agree S f' f ∧ ∃ x', Has f' (ovr x') ∧ Ent H' (Hp x') ∧ I x' ∧ μ x' < μ x) Q) (sets (mix S g f) (ovr x)) w0 (Hp x)) : VH P n (.loop c) Q f w0 H :=
  ⟨fun w hw => w_loop S ovr (fun x w => I x ∧ Wd w0 (Hp x) w) μ x h0 ⟨hI, hH.wd hw⟩ fun x g w ⟨hI, hw⟩ => ((round x g hI).out w hw).mono fun e f w ⟨H, ⟨h1⟩, h2⟩ => ⟨by
    cases e with
    | normal => obtain ⟨ha, x', hh, he, hi, hm⟩ := h1; exact ⟨ha, x', hh, ⟨hi, he.wd h2⟩, hm⟩
    | _ => exact ⟨H, h1, h2⟩⟩⟩
/-- The same, where no piece is changed. -/
theorem v_loop0 {c : Code} {α : Type} (S : List (Nat × Nat)) (ovr : α → List (Nat × Value)) (I : α → Prop) (μ : α → Nat) (x : α) (h0 : Has f (ovr x)) (hI : I x)
    (round : ∀ x g, I x → VH P n c (thenH (fun f' H' => Agree S f' f ∧ ∃ x', Has f' (ovr x') ∧ Ent H' H ∧ I x' ∧ μ x' < μ x) Q) (sets (mix S g f) (ovr x)) w0 H) : VH P n (.loop c) Q f w0 H :=
  v_loop S ovr (fun _ => H) I μ x h0 (ent_refl H) hI round
/-- The piece of code ahead of a meeting point: what is known of slots and pieces behind it. -/
theorem v_cut {c : Code} {α : Type} (S : List (Nat × Nat)) (ovr : α → List (Nat × Value)) (Hp : α → List HP) (I : α → Prop) {K : Fr → List HP → Prop}
    (h : VH P n c (thenH (fun f' H' => Agree S f' f ∧ ∃ x, Has f' (ovr x) ∧ Ent H' (Hp x) ∧ I x) Q) f w0 H)
    (k : ∀ x g, I x → ∀ G, G = Hp x → K (sets (mix S g f) (ovr x)) G) (hK : ∀ f H G, K f G → Ent H G → K f H) : VH P n c (thenH K Q) f w0 H :=
  h.mono fun e f' H' ⟨h1⟩ => ⟨by
    cases e with
    | normal =>
      obtain ⟨ha, x, hh, he, hi⟩ := h1
      have := k x f' hi _ rfl
      rw [← ha.mix_eq, sets_has hh] at this
      exact hK _ _ _ this he
    | _ => exact h1⟩
theorem v_cut0 {c : Code} {α : Type} (S : List (Nat × Nat)) (ovr : α → List (Nat × Value)) (I : α → Prop) {K : Fr → List HP → Prop}
    (h : VH P n c (thenH (fun f' H' => Agree S f' f ∧ ∃ x, Has f' (ovr x) ∧ Ent H' H ∧ I x) Q) f w0 H)
    (k : ∀ x g, I x → K (sets (mix S g f) (ovr x)) H) (hK : ∀ f H G, K f G → Ent H G → K f H) : VH P n c (thenH K Q) f w0 H :=
  v_cut S ovr (fun _ => H) I h (fun x g hi _ hG => by rw [hG]; exact k x g hi) hK
/-- The frame is forgotten, but for the slots of l. -/
theorem v_norm {c : Code} {cx : Cx} (l : List (Nat × Value)) (h : Has f l) (k : ∀ g : Nat → Value, VH P n c Q (sets ⟨g, cx⟩ l) w0 H) (hc : f.c = cx := by conv => lhs; whnf) : VH P n c Q f w0 H := by
  have := k f.s
  rw [← hc] at this
  rwa [sets_has h] at this
theorem ent_vh {y : Code} (f : Fr) (H G : List HP) (h : VH P n y Q f w0 G) (he : Ent H G) : VH P n y Q f w0 H := h.ent he
end

section
variable {P : Program} {n : Nat} {Q : HQ} {f : Fr} {w0 : World} {H : List HP} {ops : Array Oper} {rest : List Oper} {d : Nat} {op : Op} {ty : TypeId} {pos : String} {aft : Array Edge} {v : Value}
theorem wh_nil (h : Q .normal f H) : WH P n ops Q [] f w0 H := ⟨fun _ hw => wl_nil ⟨H, h, hw⟩⟩
section guards
variable {od : Option Nat} {j : Nat} {want b : Bool}
end guards
section calls
variable {callee : Operand} {xs : List Operand} {at_ : Array TypeId} {g : FuncId} {fst cap : Array Value} {vs : List Value} {R : Value → List HP → Prop}
end calls

/-! the function's entry and its return -/
theorem left_shut {ds : List Deferred} {H1 : List HP} (hl : Left ds H H1) {w : World} (hw : Wd w0 H w) : ∃ w', Shut ds w w' ∧ Wd w0 H1 w' := by
  cases hl with
  | nil => exact ⟨w, .nil, hw⟩
  | @mark D _ R hs =>
    obtain ⟨he, q, ⟨p1, p2, hx, hs2, hd, rfl⟩, hp⟩ := hs.wd hw
    have hx : p1 = pone D (.deferred (some [])) := hx
    subst hx
    have hD := hp D (.deferred (some [])) (by simp [pjoin, pone_at])
    refine ⟨_, .mark hD.2, ?_⟩
    refine Wd.off hw.1 hs2 (hp.right hd) hD.1 (fun o ho => ?_)
    rcases hd D with h | h
    · rw [pone_at] at h; cases h
    · rw [h] at ho; cases ho
theorem enterH {g : FuncId} {fn : Func} {c : Code} {vs : List Value} {w : World} {R : Value → List HP → Prop} (hf : P.funcs[g]? = some fn) (hb : fn.body = some c)
    (hnm : (fn.name == "runtime.NumGoroutine") = false) (hn : fn.ntmps = n) (hlen : Nat.ble vs.length n = true) (hw : Wd w0 H w) (h : VH P n c (retH P n fn w0 R) (init vs) w0 H) : Ret P g vs.toArray w (RP w0 R) :=
  enter hf hb hnm hn hlen ((h.out w hw).mono fun e f w ⟨H, ⟨h1⟩, h2⟩ => ⟨by
    have key : (∃ H1, Left f.c.ds H H1 ∧ ∀ w, Wd w0 H1 w → ∃ v, (results fn (rep n f).tmps).run P w = .ok v w ∧ ∃ H', R v H' ∧ Ent H1 H') → ∃ w', Shut f.c.ds w w' ∧ ∃ v, (results fn (rep n f).tmps).run P w' = .ok v w' ∧ RP w0 R v w' := fun ⟨H1, hl, hr⟩ => by
      obtain ⟨w', hs, hw'⟩ := left_shut hl h2
      obtain ⟨v, hv, H', h3, h4⟩ := hr w' hw'
      exact ⟨w', hs, v, hv, H', h3, h4.wd hw'⟩
    cases e with
    | normal => exact key h1
    | ret => exact key h1
    | exit _ => exact h1.elim
    | goto _ => exact h1.elim
    | panic _ => exact h1.elim
    | outgrown => exact h1.elim⟩)
section rets
variable {fn : Func} {R : Value → List HP → Prop} {H' : List HP}
theorem ret_plain {e : Exit} (he : e = .normal ∨ e = .ret) (hd : f.c.ds = []) (h : ∀ w, Wd w0 H w → ∃ v, (results fn (rep n f).tmps).run P w = .ok v w ∧ ∃ H', R v H' ∧ Ent H H') : retH P n fn w0 R e f H :=
  ⟨by rcases he with rfl | rfl <;> exact ⟨H, hd ▸ .nil, h⟩⟩
/-- The mark is taken. -/
theorem rh_mark {e : Exit} {D : Nat} {ro : Option Nat} {H1 : List HP} (hd : f.c = ⟨[markD D], ro⟩) (hs : Split H (dfr D) H1) (h : retH P n fn w0 R e ⟨f.s, ⟨[], ro⟩⟩ H1) : retH P n fn w0 R e f H := ⟨by
  have h := h.out
  have key : (∃ H2, Left [] H1 H2 ∧ ∀ w, Wd w0 H2 w → ∃ v, (results fn (rep n ⟨f.s, ⟨[], ro⟩⟩).tmps).run P w = .ok v w ∧ ∃ H', R v H' ∧ Ent H2 H') → ∃ H2, Left f.c.ds H H2 ∧ ∀ w, Wd w0 H2 w → ∃ v, (results fn (rep n f).tmps).run P w = .ok v w ∧ ∃ H', R v H' ∧ Ent H2 H' := fun ⟨H2, hl, hr⟩ => by
    cases hl
    exact ⟨H1, by rw [hd]; exact .mark hs, hr⟩
  cases e with
  | normal => exact key h
  | ret => exact key h
  | exit _ => exact h.elim
  | goto _ => exact h.elim
  | panic _ => exact h.elim
  | outgrown => exact h.elim⟩
theorem rh0 (hr : fn.results = #[]) (h : R (.tuple #[]) H') (he : Ent H H') (hd : f.c.ds = [] := by rfl) : retH P n fn w0 R .ret f H := ret_plain (.inr rfl) hd fun w _ => ⟨_, results_none hr _ P w, H', h, he⟩
theorem rh0n (hr : fn.results = #[]) (h : R (.tuple #[]) H') (he : Ent H H') (hd : f.c.ds = [] := by rfl) : retH P n fn w0 R .normal f H := ret_plain (.inl rfl) hd fun w _ => ⟨_, results_none hr _ P w, H', h, he⟩
theorem rh1 {t : Nat} (hr : fn.results = #[.tmp t]) (ht : Nat.blt t n = true) (h : R (f t) H') (he : Ent H H') (hd : f.c.ds = [] := by rfl) : retH P n fn w0 R .ret f H :=
  ret_plain (.inr rfl) hd fun w _ => ⟨_, results_tmp hr _ P w, H', by rw [rep_get ht]; exact h, he⟩
theorem rh2 {t u : Nat} (hr : fn.results = #[.tmp t, .tmp u]) (ht : Nat.blt t n = true) (hu : Nat.blt u n = true) (h : R (.tuple #[f t, f u]) H') (he : Ent H H') (hd : f.c.ds = [] := by rfl) : retH P n fn w0 R .ret f H :=
  ret_plain (.inr rfl) hd fun w _ => ⟨_, results_tmp2 hr _ P w, H', by rw [rep_get ht, rep_get hu]; exact h, he⟩
/-- The result lies in memory. -/
theorem rhC {t : Nat} {T : TypeId} {a : Addr} (hr : fn.results = #[.cell t T]) (ht : Nat.blt t n = true) (hp : f t = .pointer (some a)) (hl : ∀ w, Wd w0 H w → (loadVar T a).run P w = .ok v w) (h : R v H') (he : Ent H H') (hd : f.c.ds = [] := by rfl) : retH P n fn w0 R .ret f H :=
  ret_plain (.inr rfl) hd fun w hw => ⟨v, by
    have h1 := rep_get (f := f) ht
    rw [hp] at h1
    simp only [Array.getD_eq_getD_getElem?] at h1
    simp [results, hr, h1, asAddr, hl w hw], H', h, he⟩
end rets

theorem WQ.mono {w : World} {l : List Oper} {K K' : Fr → Prop} (h : WQ P n ops w K l f) (hk : ∀ f, K f → K' f) : WQ P n ops w K' l f :=
  ⟨wpQuiet_mono (fun _ ⟨f, ha, hr, hf⟩ => ⟨f, ha, hr, hk f hf⟩) _ _ h.out⟩
end
end Go.Fw

/- Code over a frame and pieces of memory: the rules for memory that is made, read and written. -/
namespace Go.Fw
open Go.RowKit

/-- An append to a row of one's own: in place, or into a new block. -/
theorem append_ex {P : Program} {w : World} {t ty e : TypeId} {sz by_ : Nat} {A B : Option Addr} {m cp kk c2 : Nat} {xs news : List Value} {base : Nat} [ht : TSl P t e sz by_] [he : TEl P e sz by_]
    (hown : Own w base e sz A m cp xs) (hsrc : Src w B news)
    (hl : news.length = kk * sz) (h1 : ∀ u ∈ news, u.oneCell' = true) (hbig : (m + kk) * by_ ≤ 140737488355328) (h63 : m + kk ≤ 140737488355328) (hbase : base ≤ w.heap.size) :
    ∃ A' cp' w1, (Builtin.append_ #[t, t] ty #[.slice A m cp, .slice B kk c2]).run P w = .ok (.slice A' (m + kk) cp') w1 ∧ Own w1 base e sz A' (m + kk) cp' (xs ++ news) ∧ w.grownBy w1 (blk A) ∧
      (A' = A ∧ cp' = cp ∧ m + kk ≤ cp ∨ Ext w w1 ∧ (∀ k, blk A' = some k → w.heap.size ≤ k) ∧ cp < m + kk) := by
  obtain ⟨i, z, hi, hisz, hiby, hz, hzs⟩ := he.inf
  have hpos := he.pos
  by_cases h0 : kk = 0
  · subst h0
    have hn : news = [] := List.eq_nil_of_length_eq_zero (by simpa using hl)
    subst hn
    have hcap := (own_cap hown).1
    refine ⟨A, cp, w, ?_, by simpa using hown, ⟨rfl, rfl, rfl, Nat.le_refl _, fun _ _ _ => rfl⟩, .inl ⟨rfl, rfl, by omega⟩⟩
    cases B with
    | none =>
      cases A with
      | none => simp [Builtin.append_, run_underlying ht.und, sizeOf, typeInfo, program, Sem.run, hi, Builtin.lenOf, Builtin.firstCells, hcap, storeCells]
      | some a => simp [Builtin.append_, run_underlying ht.und, sizeOf, typeInfo, program, Sem.run, hi, Builtin.lenOf, Builtin.firstCells, hcap, storeCells]
    | some b =>
      cases A with
      | none => simp [Builtin.append_, run_underlying ht.und, sizeOf, typeInfo, program, Sem.run, hi, Builtin.lenOf, Builtin.firstCells, hcap, storeCells, loadCells, loadCellsFrom]
      | some a => simp [Builtin.append_, run_underlying ht.und, sizeOf, typeInfo, program, Sem.run, hi, Builtin.lenOf, Builtin.firstCells, hcap, storeCells, loadCells, loadCellsFrom]
  · have hne : 0 < news.length := by rw [hl]; exact Nat.mul_pos (by omega) hpos
    obtain ⟨hB, _⟩ := hsrc 0 news[0] (by simp [hne])
    have hnews : ∀ j u, news[j]? = some u → w.cell? ((adr B).add j) = some u := fun j u hu => (hsrc j u hu).2
    rw [hB]
    subst hisz hiby
    have hm63 : m + kk ≤ maxLen := by simp only [maxLen]; omega
    have hlen : (xs ++ news).length = (m + kk) * i.size := by rw [List.length_append, hown.1, hl, Nat.add_mul]
    have grown : ∀ (old : Nat) (row : Option Nat),
        Own (w.drew.alloc (.cells (xs.toArray ++ news.toArray ++ Builtin.zeroCells z.cells (grownCap w (m + kk) old e - (m + kk))) e)) base e i.size
          (some ⟨w.heap.size, 0, none⟩) (m + kk) (grownCap w (m + kk) old e) (xs ++ news) ∧
        w.grownBy (w.drew.alloc (.cells (xs.toArray ++ news.toArray ++ Builtin.zeroCells z.cells (grownCap w (m + kk) old e - (m + kk))) e)) row := by
      intro old row
      have hge := grownCap_ge w (m + kk) old e
      refine ⟨⟨hlen, .inr ⟨w.heap.size, _, _, rfl, hbase, heap_alloc_new w.drew _, hge, grownCap_le_maxLen w (m + kk) old e hm63, ?_, ?_⟩⟩, ⟨rfl, rfl, rfl, by simp, fun k hk _ => Below.heap_alloc w.drew _ k hk⟩⟩
      · simp only [Array.size_append, List.size_toArray, size_zeroCells, hzs, hown.1, hl, ← Nat.add_mul]
        congr 1
        omega
      · simp only [Array.toList_append, List.append_assoc]
        rw [← List.append_assoc, ← hlen]
        exact List.take_left
    rcases hown.2 with ⟨hv, hm⟩ | ⟨g, cap, cur, hv, hbg, hg, hnc, hcm, hcs, htake⟩
    · injection hv with hA _ hc
      subst hA hc hm
      have hx : xs = [] := List.eq_nil_of_length_eq_zero (by simpa using hown.1)
      subst hx
      have hr := run_append_nil (P := P) w t ty e i z ht.und hi hz (adr B) kk c2 news hl hnews (by omega) (by omega) (by simp only [Nat.zero_add] at hbig; omega)
      have hgr := grown 0 none
      simp only [Nat.zero_add, List.nil_append, Array.empty_append] at hgr ⊢
      refine ⟨_, _, _, hr, hgr.1, hgr.2, .inr ⟨Ext.grown0 hgr.2, fun k hk => ?_, by omega⟩⟩
      simp [blk] at hk; omega
    · injection hv with hA _ hc
      subst hA hc
      by_cases hroom : m + kk ≤ cp
      · have hfit : m * i.size + news.length ≤ cur.size := by rw [hl, hcs, ← Nat.add_mul]; exact Nat.mul_le_mul_right _ hroom
        have hr := run_append_room (P := P) w t ty e i ht.und hi g m cp cur hg (adr B) kk c2 news hl hnews h1 hroom hfit
        refine ⟨_, _, _, hr, ⟨hlen, .inr ⟨g, cp, _, rfl, hbg, setRow_heap w g cur _ e _ hg, hroom, hcm, ?_, ?_⟩⟩, ⟨rfl, rfl, rfl, by simp, fun k _ hk => setRow_other w g k _ (fun e => hk (by simp [blk, e]))⟩, .inl ⟨rfl, rfl, hroom⟩⟩
        · simp only [List.size_toArray, List.length_append, List.length_take, List.length_drop, Array.length_toList]
          omega
        · rw [htake, ← hlen]
          exact List.take_left
      · have holds : ∀ j u, xs[j]? = some u → w.cell? ((⟨g, 0, none⟩ : Addr).add j) = some u := World.ownsRow.cells hown (g := g) rfl
        have hr := run_append_grow (P := P) w t ty e i z ht.und hi hz ⟨g, 0, none⟩ m cp xs hown.1 holds (adr B) kk c2 news hl hnews (by omega) (by omega) (growslice_fits (by omega) hbig)
        have hgr := grown cp (blk (some ⟨g, 0, none⟩))
        refine ⟨_, _, _, hr, hgr.1, hgr.2, .inr ⟨Ext.grown0 (grown cp none).2, fun k hk => ?_, by omega⟩⟩
        simp [blk] at hk; omega

section
variable {P : Program} {n : Nat} {Q : HQ} {f : Fr} {w0 : World} {H R : List HP} {ops : Array Oper} {rest : List Oper} {d : Nat} {op : Op} {ty : TypeId} {pos : String} {aft : Array Edge} {v : Value} {x y : Operand}

/-! boxes -/
theorem ox_loadBx {w : World} {t te : TypeId} {z : Value} {b off : Nat} {cs : List Value} [h : TOne P t z] (hw : Wd w0 H w) (hx : ev n f x = .pointer (some ⟨b, off, none⟩)) (hs : Split H (bx b te cs) R) (hv : cs[off]? = some v) :
    OX P n f (.load t x) ty w v w := ox_load hx (hw.cell hs hv)
theorem ox_loadBxA {w : World} {t te : TypeId} {sz : Nat} {z : List Value} {b : Nat} {cs : List Value} [h : TAgg P t sz z] (hw : Wd w0 H w) (hx : ev n f x = .pointer (some ⟨b, 0, none⟩)) (hs : Split H (bx b te cs) R) (hl : cs.length = sz) :
    OX P n f (.load t x) ty w (.agg cs.toArray) w := ox_loadV hx (hw.box hs).1 hl
theorem loadVar_bx {w : World} {t te : TypeId} {sz : Nat} {z : List Value} {b : Nat} {cs : List Value} [h : TAgg P t sz z] (hw : Wd w0 H w) (hs : Split H (bx b te cs) R) (hl : cs.length = sz) : (loadVar t ⟨b, 0, none⟩).run P w = .ok (.agg cs.toArray) w :=
  loadVar_agg (hw.box hs).1 hl
/-! slices that are read -/
section
variable {α : Type} [F : Flat α] {w : World}
theorem ox_indexR {t e : TypeId} {sz by_ : Nat} {A : Option Addr} {m cp : Nat} {k : IntKind} {i : Nat} {l : List α} [h : TSl P t e sz by_] (hr : Rd w A l) (hx : ev n f x = .slice A m cp) (hy : ev n f y = .int k i)
    (hsz : sz = F.sz) (h1 : i < m) (h2 : i < l.length) : OX P n f (.indexAddr t x y) ty w (.pointer (some ((adr A).add (i * sz)))) w := by
  subst hsz
  have hl := F.len (l.getD i F.dflt)
  have hp := F.pos
  have hA := (hr _ _ (encs_get h2 (j := 0) (List.getElem?_eq_getElem (by omega)))).1
  rw [hA] at hx
  have := ox_index (P := P) (t := t) (w := w) (ty := ty) hx hy (Int.natCast_nonneg _) (Int.ofNat_lt.2 h1)
  rwa [Int.toNat_natCast] at this
theorem ox_indexRI {t e : TypeId} {sz by_ : Nat} {A : Option Addr} {m cp : Nat} {k : IntKind} {i : Int} {l : List α} [h : TSl P t e sz by_] (hr : Rd w A l) (hx : ev n f x = .slice A m cp) (hy : ev n f y = .int k i)
    (hsz : sz = F.sz) (h0 : 0 ≤ i) (h1 : i < m) (h2 : i < l.length) : OX P n f (.indexAddr t x y) ty w (.pointer (some ((adr A).add (i.toNat * sz)))) w :=
  ox_indexR (i := i.toNat) hr hx (by rw [hy, Int.toNat_of_nonneg h0]) hsz (by omega) (by omega)
theorem ox_loadRi {t : TypeId} {z : Value} {A : Option Addr} {i : Nat} {l : List Int} [h : TOne P t z] (hr : Rd w A l) (hx : ev n f x = .pointer (some ((adr A).add (i * 1)))) (h1 : i < l.length) : OX P n f (.load t x) ty w (.int .i64 (l.getD i 0)) w :=
  ox_load hx (hr _ _ (encs_get h1 (j := 0) rfl)).2
theorem ox_loadR1 {t : TypeId} {z : Value} {sz : Nat} {A : Option Addr} {i : Nat} {l : List α} [h : TOne P t z] (hr : Rd w A l) (hx : ev n f x = .pointer (some ((adr A).add (i * sz)))) (hsz : sz = F.sz) (h1 : i < l.length) (hv : F.enc (l.getD i F.dflt) = [v]) : OX P n f (.load t x) ty w v w := by
  subst hsz
  exact ox_load hx (hr _ _ (encs_get h1 (j := 0) (by rw [hv]; rfl))).2
theorem ox_loadRA {t : TypeId} {sz : Nat} {z : List Value} {A : Option Addr} {i : Nat} {l : List α} [h : TAgg P t sz z] (hr : Rd w A l) (hx : ev n f x = .pointer (some ((adr A).add (i * sz)))) (hsz : sz = F.sz) (h1 : i < l.length) : OX P n f (.load t x) ty w (.agg (F.enc (l.getD i F.dflt)).toArray) w := by
  subst hsz
  exact ox_loadA hx (fun j u hj => by rw [add_add]; exact (hr _ _ (encs_get h1 hj)).2) (F.len _)
theorem ox_loadRf {t : TypeId} {z : Value} {sz off : Nat} {A : Option Addr} {i : Nat} {l : List α} [h : TOne P t z] (hr : Rd w A l) (hx : ev n f x = .pointer (some (((adr A).add (i * sz)).add off))) (hsz : sz = F.sz) (h1 : i < l.length) (hv : (F.enc (l.getD i F.dflt))[off]? = some v) : OX P n f (.load t x) ty w v w := by
  subst hsz
  rw [add_add] at hx
  exact ox_load hx (hr _ _ (encs_get h1 hv)).2
end
/-! rows of one's own -/
section
variable {α : Type} [F : Flat α]
theorem ent_nilrow {e : TypeId} {G : List HP} (h : Ent H G) : Ent H (orow e none 0 ([] : List α) :: G) := ⟨fun p hp => by
  obtain ⟨q, hq, hk⟩ := h.out p hp
  exact ⟨pjoin pnil q, ⟨pnil, q, ⟨by simp [encs], .inl ⟨rfl, rfl, rfl⟩⟩, hq, fun _ => .inl rfl, rfl⟩, fun k o ho => hk k o ho⟩⟩
/-- Element i is written anew. -/
theorem own_set {w w1 : World} {e : TypeId} {A : Option Addr} {cp i : Nat} {l : List α} {base : Nat} {x' : α} (ho : Own w base e F.sz A l.length cp (encs l)) (hi : i < l.length) :
    ∃ g cur, A = some ⟨g, 0, none⟩ ∧ w.heap[g]? = some (.cells cur e (0, 0)) ∧ cur.size = cp * F.sz ∧ l.length ≤ cp ∧
      (w1.heap[g]? = some (.cells (cur.toList.take (i * F.sz) ++ F.enc x' ++ cur.toList.drop (i * F.sz + F.sz)).toArray e (0, 0)) → Own w1 base e F.sz A (l.set i x').length cp (encs (l.set i x'))) := by
  obtain ⟨g, cur, rfl, hg, hh, h1, h2, h3, h4⟩ := own_some ho (by omega)
  have hle : (i + 1) * F.sz ≤ l.length * F.sz := Nat.mul_le_mul_right _ hi
  have hle2 : l.length * F.sz ≤ cp * F.sz := Nat.mul_le_mul_right _ h1
  rw [Nat.succ_mul] at hle
  refine ⟨g, cur, rfl, hh, h3, h1, fun hb => ⟨by rw [encs_len], .inr ⟨g, cp, _, rfl, hg, hb, by simpa using h1, h2, ?_, ?_⟩⟩⟩
  · simp only [List.size_toArray, List.length_append, List.length_take, List.length_drop, Array.length_toList, h3, F.len]
    omega
  · rw [← encs_set hi, List.length_set]
    rw [← h4]
    simp only [List.take_append, List.take_take, List.length_take, Array.length_toList, h3, F.len, List.length_append, List.drop_take]
    rw [show min (l.length * F.sz) (i * F.sz) = i * F.sz by omega, show min (i * F.sz) (l.length * F.sz) = i * F.sz by omega, show min (i * F.sz) (cp * F.sz) = i * F.sz by omega,
      List.take_of_length_le (l := F.enc x') (by rw [F.len]; omega), show l.length * F.sz - (i * F.sz + F.sz) = l.length * F.sz - (i * F.sz + F.sz) from rfl]
theorem get3 (a b c : List Value) (j : Nat) (h : a.length ≤ j) : (a ++ b ++ c)[j]? = (b ++ c)[j - a.length]? := by rw [List.append_assoc, List.getElem?_append_right h]
theorem wh_setR {t e : TypeId} {sz : Nat} {A : Option Addr} {cp i off : Nat} {l : List α} {x' : α} {cs : List Value} (hx : ev n f x = .pointer (some ((adr A).add (i * sz + off)))) (hy : ev n f y = v) (hs : Split H (orow e A cp l) R) (hsz : sz = F.sz) (hi : i < l.length)
    (hv : v.cells.toList = cs) (hsiz : ∀ w, (sizeOf t).run P w = .ok cs.length w) (hone : cs.all (·.oneCell') = true) (hoff : off + cs.length ≤ sz)
    (hx' : F.enc x' = (F.enc (l.getD i F.dflt)).take off ++ cs ++ (F.enc (l.getD i F.dflt)).drop (off + cs.length))
    (k : WH P n ops Q rest f w0 (orow e A cp (l.set i x') :: R)) : WH P n ops Q (⟨none, .store t x y, ty, pos, aft, none⟩ :: rest) f w0 H := by
  subst hsz
  refine ⟨fun w hw => ?_⟩
  have ho := hw.own hs
  obtain ⟨g, cur, rfl, hg, hh, h1, h2, h3, h4⟩ := own_some ho (by omega)
  have hle : (i + 1) * F.sz ≤ l.length * F.sz := Nat.mul_le_mul_right _ hi
  have hle2 : l.length * F.sz ≤ cp * F.sz := Nat.mul_le_mul_right _ h1
  rw [Nat.succ_mul] at hle
  have henc : ∀ j, j < F.sz → cur.toList[i * F.sz + j]? = (F.enc (l.getD i F.dflt))[j]? := fun j hj => by
    have hlt : j < (F.enc (l.getD i F.dflt)).length := by rw [F.len]; exact hj
    have := encs_get hi (List.getElem?_eq_getElem hlt)
    rw [List.getElem?_eq_getElem hlt, ← this, ← h4, List.getElem?_take, if_pos (by omega)]
  refine wl_store (g := g) (off := i * F.sz + off) (cs := cs) hx (by rw [show adr (some ⟨g, 0, none⟩) = ⟨g, 0, none⟩ from rfl, Addr.add_lit]; simp) hy hv hsiz hone hh (by rw [h3]; omega) fun w1 hw1 hb => k.out w1 ?_
  obtain ⟨g', cur', hA, hh', _, _, hset⟩ := own_set (w1 := w1) (x' := x') ho hi
  injection hA with hA
  injection hA with hA _ _
  subst hA
  rw [hh] at hh'
  injection hh' with hh'
  injection hh' with hh' _ _
  subst hh'
  refine hw.row hs (by simpa [blk] using hw1.grown) (hset ?_) (fun k hk => .inl hk)
  rw [hb]
  congr 3
  apply List.ext_getElem?
  intro j
  have hcl : cur.toList.length = cp * F.sz := by simpa using h3
  rw [hx']
  rcases Nat.lt_or_ge j (i * F.sz + off) with h | h
  · rw [List.append_assoc, List.getElem?_append_left (by rw [List.length_take]; omega), List.getElem?_take, if_pos h]
    rcases Nat.lt_or_ge j (i * F.sz) with h' | h'
    · rw [List.append_assoc, List.getElem?_append_left (by rw [List.length_take]; omega), List.getElem?_take, if_pos h']
    · rw [List.append_assoc, List.getElem?_append_right (by rw [List.length_take]; omega), List.length_take, show min (i * F.sz) cur.toList.length = i * F.sz by omega,
        List.append_assoc, List.append_assoc, List.getElem?_append_left (by rw [List.length_take, F.len]; omega), List.getElem?_take, if_pos (by omega), ← henc _ (by omega)]
      congr 1; omega
  · rw [get3 (cur.toList.take (i * F.sz + off)) cs _ j (by rw [List.length_take]; omega), get3 (cur.toList.take (i * F.sz)) _ _ j (by rw [List.length_take]; omega)]
    rw [List.length_take, show min (i * F.sz + off) cur.toList.length = i * F.sz + off by omega, List.length_take, show min (i * F.sz) cur.toList.length = i * F.sz by omega]
    rw [List.append_assoc (List.take off _ ++ cs), get3 ((F.enc (l.getD i F.dflt)).take off) cs _ (j - i * F.sz) (by rw [List.length_take, F.len]; omega), List.length_take, F.len, show min off F.sz = off by omega]
    rcases Nat.lt_or_ge j (i * F.sz + off + cs.length) with h' | h'
    · rw [List.getElem?_append_left (by omega), List.getElem?_append_left (by omega)]
      congr 1; omega
    · rw [List.getElem?_append_right (by omega), List.getElem?_append_right (by omega), List.getElem?_drop]
      rcases Nat.lt_or_ge j (i * F.sz + F.sz) with h'' | h''
      · rw [List.getElem?_append_left (by rw [List.length_drop, F.len]; omega), List.getElem?_drop, ← henc _ (by omega)]
        congr 1; omega
      · rw [List.getElem?_append_right (by rw [List.length_drop, F.len]; omega), List.length_drop, F.len, List.getElem?_drop]
        congr 1; omega
end
theorem wh_setI {t e : TypeId} {z : Value} {A : Option Addr} {cp i : Nat} {l : List Int} {u : Int} [h : TOne P t z] (hx : ev n f x = .pointer (some ((adr A).add (i * 1)))) (hy : ev n f y = .int .i64 u) (hs : Split H (orow e A cp l) R) (hi : i < l.length)
    (k : WH P n ops Q rest f w0 (orow e A cp (l.set i u) :: R)) : WH P n ops Q (⟨none, .store t x y, ty, pos, aft, none⟩ :: rest) f w0 H :=
  wh_setR (off := 0) (cs := [.int .i64 u]) hx hy hs rfl hi rfl (fun w => h.siz w) rfl (Nat.le_refl _) rfl k
section
variable {α : Type} [F : Flat α]
theorem wh_append {t e : TypeId} {sz by_ : Nat} {A B : Option Addr} {m cp kk c2 : Nat} {l l2 : List α} [ht : TSl P t e sz by_] [he : TEl P e sz by_]
    (hx : ev n f x = .slice A m cp) (hy : ev n f y = .slice B kk c2) (hs : Split H (orow e A cp l) R) (hsrc : ∀ w, Wd w0 H w → Rd w B l2) (hsz : sz = F.sz) (hm : m = l.length) (hk : kk = l2.length)
    (hbig : (l.length + l2.length) * by_ ≤ 140737488355328) (h63 : l.length + l2.length ≤ 140737488355328)
    (k : ∀ A' cp', WH P n ops Q rest (upd f d (.slice A' (l ++ l2).length cp')) w0 (orow e A' cp' (l ++ l2) :: R)) :
    WH P n ops Q (⟨some d, .call { callee := .builtin .append, args := #[x, y], argTypes := #[t, t] }, ty, pos, aft, none⟩ :: rest) f w0 H := by
  subst hsz hm hk
  refine ⟨fun w hw => ?_⟩
  obtain ⟨A', cp', w1, hr, ho, hg, hc⟩ := append_ex (P := P) (ty := ty) (c2 := c2) (t := t) (hw.own hs) (hsrc w hw) (encs_len l2) (encs_one l2) hbig h63 hw.1.size
  rw [← encs_append, ← List.length_append] at ho
  rw [← List.length_append] at hr
  refine wl_val (v := .slice A' (l ++ l2).length cp') (w' := w1) ?_ ((k A' cp').out w1 (hw.row hs hg ho fun k hk => ?_))
  · intro d pos aft g
    simp [execOp, resolve, invoke, builtin, hx, hy, hr]
  · rcases hc with ⟨rfl, _⟩ | ⟨_, h, _⟩
    · exact .inl hk
    · exact .inr (h k hk)
/-- The values of a slice that is written out. -/
inductive Vals : List Value → List α → Prop where
  | nil : Vals [] []
  | cons {v : Value} {vs : List Value} {x : α} {l : List α} (hv : v.cells.toList = F.enc x) (h : Vals vs l) : Vals (v :: vs) (x :: l)
theorem Vals.flat {vs : List Value} {l : List α} (h : Vals vs l) : vs.flatMap (·.cells.toList) = encs l ∧ vs.length = l.length ∧ ∀ v ∈ vs, v.cells.size = F.sz := by
  induction h with
  | nil => exact ⟨rfl, rfl, fun _ h => by cases h⟩
  | cons hv _ ih =>
    refine ⟨by rw [List.flatMap_cons, hv, ih.1, encs_cons], by simp [ih.2.1], fun u hu => ?_⟩
    rcases List.mem_cons.1 hu with rfl | hu
    · rw [← Array.length_toList, hv, F.len]
    · exact ih.2.2 u hu
end
end
end Go.Fw

/- More operations that only compute. -/
namespace Go.Fw
open Go.RowKit
class TBool (P : Program) (t : TypeId) : Prop where
  und : P.underlying t = some .bool
section
variable {P : Program} {n : Nat} {f : Fr} {w : World} {ty : TypeId} {v : Value} {x y : Operand} {t1 t2 : TypeId}
theorem equalIn_bool {a b : Bool} (d : Nat) (h : P.underlying t1 = some .bool) (w : World) : (Op.equalIn (d + 1) t1 (.bool a) (.bool b)).run P w = .ok (a == b) w := by
  simp [Op.equalIn, run_underlying h]
theorem equal_bool {a b : Bool} (h : P.underlying t1 = some .bool) (w : World) : (Op.equal t1 (.bool a) (.bool b)).run P w = .ok (a == b) w := equalIn_bool 9999 h w
theorem ox_eqlb {a b : Bool} [h : TBool P t1] (hx : ev n f x = .bool a) (hy : ev n f y = .bool b) : OX P n f (.binOp .eql t1 x y t2) ty w (.bool (a == b)) w := by
  intro d pos aft g; simp [execOp, hx, hy, eqGuard, binOp, equal_bool h.und]
theorem ox_neqb {a b : Bool} [h : TBool P t1] (hx : ev n f x = .bool a) (hy : ev n f y = .bool b) : OX P n f (.binOp .neq t1 x y t2) ty w (.bool (!(a == b))) w := by
  intro d pos aft g; simp [execOp, hx, hy, eqGuard, binOp, equal_bool h.und]
theorem ox_nenil {e : TypeId} {sz by_ : Nat} {A : Option Addr} {m cp : Nat} [h : TSl P t1 e sz by_] (hx : ev n f x = .slice A m cp) (hy : ev n f y = .slice none 0 0) :
    OX P n f (.binOp .neq t1 x y t2) ty w (.bool A.isSome) w := by
  intro d pos aft g
  have := run_neq_slice_nil_any (P := P) w t1 e A m cp 0 0 h.und
  simp [execOp, hx, hy, eqGuard, this]
theorem ox_quoN {a b : Int} {k : IntKind} (hx : ev n f x = .int .i64 a) (hy : ev n f y = .int .i64 b) (h0 : 0 ≤ a) (h1 : a ≤ 9223372036854775807) (hb : 0 < b) : OX P n f (.binOp .quo t1 x y t2) ty w (.int .i64 (a / b)) w := by
  have := ox_quo (P := P) (w := w) (ty := ty) (t1 := t1) (t2 := t2) hx hy (by omega)
  rw [Int.tdiv_eq_ediv_of_nonneg h0, wrap_in] at this
  · exact this
  · have h2 : 0 ≤ a / b := Int.ediv_nonneg h0 (by omega)
    have h3 : a / b ≤ a := Int.ediv_le_self b h0
    constructor <;> omega
theorem oneCell_cells {v : Value} (h : v.oneCell' = true) : v.cells = #[v] := by
  cases v <;> first | rfl | cases h
theorem ox_build1 {t : TypeId} {sz : Nat} {zs : List Value} {parts : List (Nat × Operand)} {ps : List (Nat × Value)} [h : TSt P t sz zs] (hp : parts.map (fun p => (p.1, ev n f p.2)) = ps) (h1 : (ps.all fun p => Nat.blt p.1 sz && p.2.oneCell') = true) :
    OX P n f (.build t parts.toArray) ty w (.agg (setAt zs ps).toArray) w :=
  ox_build hp fun p hp => by
    have := List.all_eq_true.1 h1 p hp
    simp only [Bool.and_eq_true, Nat.blt_eq] at this
    exact ⟨this.1, oneCell_cells this.2⟩
end
end Go.Fw
namespace Go.Fw
/-- The call gives the value v, and leaves what was there as it was. -/
abbrev Out (w : World) (v : Value) : Value → World → Prop := RP w (Sc v)
theorem drop_cons {α : Type} {l : List α} {k : Nat} {d : α} (h : k < l.length) : l.drop k = l.getD k d :: l.drop (k + 1) := by
  rw [List.drop_eq_getElem_cons h]; simp [h]
theorem take_snoc {α : Type} {l : List α} {k : Nat} {d : α} (h : k < l.length) : l.take (k + 1) = l.take k ++ [l.getD k d] := by
  rw [List.take_succ_eq_append_getElem h]; simp [h]
/-- All numbers of the list are of type int. -/
def All64 (l : List Int) : Prop := ∀ x ∈ l, In64 x
theorem All64.at {l : List Int} (h : All64 l) (k : Nat) : In64 (l.getD k 0) := by
  by_cases hk : k < l.length
  · have e : l.getD k 0 = l[k] := by simp [hk]
    rw [e]; exact h _ (List.getElem_mem hk)
  · have e : l.getD k 0 = 0 := by simp [List.getElem?_eq_none (Nat.le_of_not_lt hk)]
    rw [e]; constructor <;> omega
/-- A function value that answers p x at x, and leaves what was there as it was. -/
def Fun1 {α : Type} (P : Program) (w : World) (fv : Value) (arg : α → Value) (res : α → Value) (ok : α → Prop) : Prop :=
  ∃ g fst cap, fv = .func (.func g) fst cap ∧ ∀ w', Ext w w' → ∀ x, ok x → Ret P g (fst.toList ++ [arg x] ++ cap.toList).toArray w' (Out w' (res x))
theorem Fun1.ext {α : Type} {P : Program} {w w' : World} {fv : Value} {arg res : α → Value} {ok : α → Prop} (h : Fun1 P w fv arg res ok) (he : Ext w w') : Fun1 P w' fv arg res ok :=
  let ⟨g, fst, cap, h1, h2⟩ := h; ⟨g, fst, cap, h1, fun w'' he' x hx => h2 w'' (he.trans he') x hx⟩
def idxFrom {α : Type} (p : α → Bool) (k : Int) : List α → Int
  | [] => -1
  | x :: l => if p x then k else idxFrom p (k + 1) l
def idxOf {α : Type} (p : α → Bool) (l : List α) : Int := idxFrom p 0 l
theorem idxFrom_any {α : Type} (p : α → Bool) : ∀ (l : List α) (k : Int), 0 ≤ k → (decide (0 ≤ idxFrom p k l)) = l.any p
  | [], k, _ => by simp [idxFrom]
  | x :: l, k, hk => by
    simp only [idxFrom, List.any_cons]
    by_cases h : p x
    · simp [h, hk]
    · simp only [h, Bool.false_or]; exact idxFrom_any p l (k + 1) (by omega)
theorem getD_mem {α : Type} {l : List α} {k : Nat} {d : α} (h : k < l.length) : l.getD k d ∈ l := by
  have e : l.getD k d = l[k] := by simp [h]
  rw [e]; exact List.getElem_mem h
end Go.Fw

/- One rule a kind of operation, for the three kinds of regions: in the text's order; any order, all operations only reading; any order, some operations making memory. -/
namespace Go.Fw
open Go.RowKit

def postK (K : Fr → World → Prop) : Exit → Fr → World → Prop := fun e f w => e = .normal ∧ K f w
theorem opwp_any {P : Program} {o : Oper} {a : Act} {w : World} {K K' : Act → World → Prop} {Q1 Q2 : Exit → Act → World → Prop} (hp : ∀ c a w, ¬ Q1 (.panic c) a w) (hl : ¬ LetsOut Q1) (h : ∀ a w, K a w → K' a w)
    (hh : o.wp P a w K Q1) : o.wp P a w K' Q2 := by
  unfold Oper.wp at *
  generalize (execOp a.eval o).run P w = r at *
  cases r with
  | ok n w' =>
    cases n <;> simp only [Oper.upon] at hh ⊢ <;>
      first
        | exact h _ _ hh
        | exact Calls.mono hh (fun e w'' he => by cases e <;> first | exact h _ _ he | exact (hp _ _ _ he).elim | exact (hl he).elim)
        | exact Rows.mono hh (fun _ _ he => h _ _ he)
  | halt x w' => cases x <;> simp only [Oper.upon] at hh ⊢ <;> exact (hp _ _ _ hh).elim
section
variable {P : Program} {n : Nat} {f : Fr} {w : World} {ops : Array Oper} {rest : List Oper} {o : Oper} {K : Fr → World → Prop} {Q : Exit → Fr → World → Prop}
theorem postK_panic {ro : Option Nat} (c : _) (a : Act) (w : World) : ¬ lift n ro (postK K) (.panic c) a w := fun ⟨_, _, _, _, h, _⟩ => by cases h
theorem op1_seq (h : WL P n ops (postK K) [o] f w) (k : ∀ f w, K f w → WL P n ops Q rest f w) : WL P n ops Q (o :: rest) f w := by
  constructor
  have h := h.out
  unfold wpList at *
  split
  · rename_i hw
    rw [if_pos hw] at h
    rcases h with h | ⟨_, h⟩
    · exact .inl (opwp_any postK_panic lift_out (fun a w ⟨_, f', ha, hr, _, hK⟩ => by subst ha; have := (k _ _ hK).out; rw [hr] at this; exact this) h)
    · exact (lift_out h).elim
  · rename_i hw
    rw [if_neg hw] at h
    obtain ⟨_, f', ha, hr, _, hK⟩ := h
    rw [ha]
    have := (k _ _ hK).out
    rw [hr] at this
    exact this
/-- A region in the text's order, in whatever round. -/
structure WI (P : Program) (n : Nat) (ops : Array Oper) (Q : Exit → Fr → World → Prop) (l : List Oper) (f : Fr) (w : World) : Prop where
  out : ∀ m, wpListIn (fen f.c.ro) m P ops (lift n f.c.ro Q) l (rep n f) w
theorem wi_nil (h : Q .normal f w) : WI P n ops Q [] f w := ⟨fun _ => lift_n rfl h⟩
theorem wi_region {id : Nat} {l : List Oper} (h : WI P n l.toArray Q l f w) : W P n (.region id l.toArray false) Q f w := ⟨fun m => wpIn_region_lit (h.out m)⟩
theorem wi_free {od : Option Nat} {op : Op} {ty : TypeId} {pos : String} {aft : Array Edge} {g : Option (Nat × Bool)} (hw : Region.wanted ⟨od, op, ty, pos, aft, g⟩ (yielded ops (rep n f).tmps) = true) (h : WI P n ops Q (⟨od, op, ty, pos, aft, none⟩ :: rest) f w) : WI P n ops Q (⟨od, op, ty, pos, aft, g⟩ :: rest) f w := ⟨fun m => by
  have h := h.out m
  unfold wpListIn at *
  rw [if_pos wanted_free] at h
  rw [if_pos hw]
  exact h⟩
theorem wi_off {d : Nat} {op : Op} {ty : TypeId} {pos : String} {aft : Array Edge} {g : Option (Nat × Bool)} (hw : Region.wanted ⟨some d, op, ty, pos, aft, g⟩ (yielded ops (rep n f).tmps) = false) (h : WI P n ops Q rest (upd f d undef) w) : WI P n ops Q (⟨some d, op, ty, pos, aft, g⟩ :: rest) f w := ⟨fun m => by
  unfold wpListIn
  rw [if_neg (by rw [hw]; simp)]
  refine ⟨fun _ _ => trivial, ?_⟩
  rw [rep_put]; exact h.out m⟩
theorem op1_in (hd : noDef (o :: rest) = true) (h : WL P n ops (postK K) [o] f w) (k : ∀ f w, K f w → WI P n ops Q rest f w) : WI P n ops Q (o :: rest) f w := ⟨fun m => by
  have h := h.out
  have ho := noDef_spec hd (List.mem_cons_self (a := o) (l := rest))
  unfold wpList at h
  unfold wpListIn
  split
  · rename_i hw
    rw [if_pos hw] at h
    rcases h with h | ⟨_, h⟩
    · exact op_in ho _ m (fun a w h => h) (opwp_any (K' := fun a w => wpListIn (fen f.c.ro) m P ops (lift n f.c.ro Q) rest a w) postK_panic lift_out (fun a w ⟨_, f', ha, hr, _, hK⟩ => by subst ha; have := (k _ _ hK).out m; rw [hr] at this; exact this) h)
    · exact (lift_out h).elim
  · rename_i hw
    rw [if_neg hw] at h
    obtain ⟨_, f', ha, hr, _, hK⟩ := h
    refine ⟨fun _ _ => trivial, ?_⟩
    rw [ha]
    have := (k _ _ hK).out m
    rw [hr] at this
    exact this⟩
theorem noDef_tail (h : noDef (o :: rest) = true) : noDef rest = true := by unfold noDef at *; rw [List.all_cons, Bool.and_eq_true] at h; exact h.2
theorem op1_any {i : Nat} {Q' : Exit → Act → World → Prop} {K' : Act → World → Prop} (hi : ops[i]? = some o) (h : WL P n ops (postK K) [o] f w) (k : ∀ f' w, f'.c.ro = f.c.ro → K f' w → K' (rep n f') w) : wpOp P ops Q' i K' (rep n f) w := by
  have h := h.out
  unfold wpList at h
  unfold wpOp
  simp only [hi]
  split
  · rename_i hw
    rw [if_pos hw] at h
    rcases h with h | ⟨_, h⟩
    · exact .inl (opwp_any postK_panic lift_out (fun a w ⟨_, f', ha, hr, _, hK⟩ => by subst ha; exact k _ _ hr hK) h)
    · exact (lift_out h).elim
  · rename_i hw
    rw [if_neg hw] at h
    obtain ⟨_, f', ha, hr, _, hK⟩ := h
    rw [ha]
    exact k _ _ hr hK
end

/-! the kinds of regions -/
/-- The order in which the operations are taken: 'true': taken ahead of others, for it only reads; 'false': no other can come up; a fork: two may come up. -/
inductive Tr where
  | nil
  | op (i : Nat) (b : Bool) (t : Tr)
  | fork (i : Nat) (t1 : Tr) (j : Nat) (t2 : Tr)
  | fork3 (i : Nat) (t1 : Tr) (j : Nat) (t2 : Tr) (k : Nat) (t3 : Tr)
  | fork4 (i : Nat) (t1 : Tr) (j : Nat) (t2 : Tr) (k : Nat) (t3 : Tr) (m : Nat) (t4 : Tr)
def Tr.len : Tr → Nat
  | .nil => 0
  | .op _ _ t => t.len + 1
  | .fork _ t1 _ _ => t1.len + 1
  | .fork3 _ t1 _ _ _ _ => t1.len + 1
  | .fork4 _ t1 _ _ _ _ _ _ => t1.len + 1
inductive Md where
  | seq
  | quiet
  | held (HS : List HP) (t : Tr) (L : List Bool)
  | pick (HS : List HP) (i : Nat) (t : Tr) (L : List Bool)
  | grd (HS : List HP) (i : Nat) (b : Bool) (t : Tr) (L : List Bool)
def okT (ops : Array Oper) : List Bool → Tr → Bool
  | L, .nil => (Region.ready .any ops L.toArray).isEmpty
  | L, .op i true t => decide (i < ops.size) && (Region.free .any ops L.toArray i && ((Region.ready .any ops L.toArray).contains i && okT ops (L.set i true) t))
  | L, .op i false t => decide (i < ops.size) && ((Region.ready .any ops L.toArray == [i]) && okT ops (L.set i true) t)
  | L, .fork i t1 j t2 => decide (i < ops.size) && (decide (j < ops.size) && ((Region.ready .any ops L.toArray == [i, j]) && (Nat.beq t1.len t2.len && (okT ops (L.set i true) t1 && okT ops (L.set j true) t2))))
  | L, .fork3 i t1 j t2 k t3 => decide (i < ops.size) && (decide (j < ops.size) && (decide (k < ops.size) && ((Region.ready .any ops L.toArray == [i, j, k]) && (Nat.beq t1.len t2.len && (Nat.beq t1.len t3.len && (okT ops (L.set i true) t1 && (okT ops (L.set j true) t2 && okT ops (L.set k true) t3)))))))
  | L, .fork4 i t1 j t2 k t3 m t4 => decide (i < ops.size) && (decide (j < ops.size) && (decide (k < ops.size) && (decide (m < ops.size) && ((Region.ready .any ops L.toArray == [i, j, k, m]) && (Nat.beq t1.len t2.len && (Nat.beq t1.len t3.len && (Nat.beq t1.len t4.len && (okT ops (L.set i true) t1 && (okT ops (L.set j true) t2 && (okT ops (L.set k true) t3 && okT ops (L.set m true) t4))))))))))
def noOper : Oper := ⟨none, .call { callee := .builtin .clear, args := #[], argTypes := #[] }, 0, "", #[], none⟩
def picks (l : List Oper) : Tr → List Oper
  | .nil => []
  | .op i _ t => (l[i]?).getD default :: picks l t
  | .fork _ _ _ _ => [noOper]
  | .fork3 _ _ _ _ _ _ => [noOper]
  | .fork4 _ _ _ _ _ _ _ _ => [noOper]
def tr : List (Nat × Bool) → Tr → Tr
  | [], t => t
  | (i, b) :: π, t => .op i b (tr π t)
def nx : Md → Md
  | .held HS (.op i _ t) L => .held HS t (L.set i true)
  | .pick HS i t L => .held HS t (L.set i true)
  | .grd HS i _ t L => .held HS t (L.set i true)
  | m => m
/-- Behind a guard that holds. -/
def gm : Md → Md
  | .held HS (.op i b t) L => .grd HS i b t L
  | m => m
/-- The pieces that may be read. -/
def vis : Md → List HP → List HP
  | .held HS (.op _ true _) _, _ => HS
  | .grd HS _ true _ _, _ => HS
  | _, H => H
/-- An operation that makes memory may stand here. -/
def addOK : Md → Bool
  | .seq => true
  | .quiet => false
  | .held _ (.op _ false _) _ => true
  | .held _ _ _ => false
  | .pick _ _ _ _ => true
  | .grd _ _ b _ _ => !b
def noP (Q : HQ) : HQ
  | .normal, f, H => Q .normal f H
  | _, _, _ => False
def SHD (P : Program) (n : Nat) (ops : Array Oper) (Q : HQ) (l : List Oper) (f : Fr) (w0 : World) (H : List HP) : Md → Prop
  | .seq => noDef l = true → ∀ w, Wd w0 H w → WI P n ops (low w0 Q) l f w
  | .quiet => ∀ w, Wd w0 H w → WQ P n ops w (fun f' => Q .normal f' H) l f
  | .held HS t L => okT ops L t = true → Region.noSelect ops = true → l = picks ops.toList t → ∀ w, Wd w0 H w → Wd w0 HS w → wpAnyH P .any ops (lift n f.c.ro (low w0 (noP Q))) (Wd w0 HS) t.len L.toArray (rep n f) w
  | .pick HS i t L => okT ops (L.set i true) t = true → Region.noSelect ops = true → i < ops.size → l = picks ops.toList (.op i false t) → ∀ w, Wd w0 H w → Wd w0 HS w →
      wpOp P ops (lift n f.c.ro (low w0 (noP Q))) i (fun a' w' => Wd w0 HS w' ∧ wpAnyH P .any ops (lift n f.c.ro (low w0 (noP Q))) (Wd w0 HS) t.len (L.set i true).toArray a' w') (rep n f) w
  | .grd HS i b t L => okT ops L (.op i b t) = true → Region.noSelect ops = true → ∀ od op ty pos aft rest g, l = ⟨od, op, ty, pos, aft, none⟩ :: rest → ops[i]? = some ⟨od, op, ty, pos, aft, g⟩ → Region.wanted ⟨od, op, ty, pos, aft, g⟩ (yielded ops (rep n f).tmps) = true → rest = picks ops.toList t →
      ∀ w, Wd w0 H w → Wd w0 HS w → wpAnyH P .any ops (lift n f.c.ro (low w0 (noP Q))) (Wd w0 HS) (t.len + 1) L.toArray (rep n f) w
structure SH (md : Md) (P : Program) (n : Nat) (ops : Array Oper) (Q : HQ) (l : List Oper) (f : Fr) (w0 : World) (H : List HP) : Prop where
  out : SHD P n ops Q l f w0 H md
section
variable {md : Md} {P : Program} {n : Nat} {Q : HQ} {f : Fr} {w0 : World} {H R : List HP} {ops : Array Oper} {rest : List Oper} {d : Nat} {op : Op} {ty : TypeId} {pos : String} {aft : Array Edge} {v : Value} {x y c : Operand}
theorem r_seq {id : Nat} {l : List Oper} (h : SH .seq P n l.toArray Q l f w0 H) (hd : noDef l = true := by kernel_rfl) : VH P n (.region id l.toArray false) Q f w0 H := ⟨fun w hw => wi_region (h.out hd w hw)⟩
theorem r_quiet {id : Nat} {l : List Oper} (hm : P.follows .mixedOrders = true) (hB : (Region.lexB .any l.toArray && noDef l) = true) (h : SH .quiet P n l.toArray Q l f w0 H) : VH P n (.region id l.toArray true) Q f w0 H :=
  ⟨fun w hw => w_quiet hm hB ((h.out w hw).mono fun _ hq _ he => ⟨H, hq, hw.step he⟩)⟩
theorem r_heldT {id : Nat} {l : List Oper} (HS : List HP) (t : Tr) (hm : P.follows .mixedOrders = true) (hB : (noDef l && (okT l.toArray (List.replicate l.length false) t && (Region.noSelect l.toArray && Nat.beq t.len l.length))) = true) (he : Ent H HS)
    (h : SH (.held HS t (List.replicate l.length false)) P n l.toArray Q (picks l t) f w0 H) : VH P n (.region id l.toArray true) Q f w0 H := by
  simp only [Bool.and_eq_true, Nat.beq_eq] at hB
  obtain ⟨hd, h1, h2, h4⟩ := hB
  refine ⟨fun w hw => W.mono (Q := low w0 (noP Q)) (w_any hm hd (wpAny_of_held (S := Wd w0 HS) _ _ _ _ ?_)) (fun e f' w' hq => ?_)⟩
  · have hw' : Wd w0 H { w with drawn := w.drawn + 1 } := hw.step (Ext.drew w)
    have := h.out h1 h2 (by simp) _ hw' (he.wd hw')
    rw [h4] at this
    simpa using this
  · obtain ⟨H', hn, hw'⟩ := hq
    cases e <;> first | exact ⟨H', hn, hw'⟩ | exact hn.elim
theorem r_held {id : Nat} {l : List Oper} (HS : List HP) (π : List (Nat × Bool)) (hm : P.follows .mixedOrders = true) (hB : (noDef l && (okT l.toArray (List.replicate l.length false) (tr π .nil) && (Region.noSelect l.toArray && Nat.beq (tr π .nil).len l.length))) = true) (he : Ent H HS)
    (h : SH (.held HS (tr π .nil) (List.replicate l.length false)) P n l.toArray Q (picks l (tr π .nil)) f w0 H) : VH P n (.region id l.toArray true) Q f w0 H := r_heldT HS _ hm hB he h
theorem s_nil (h : Q .normal f H) : SH md P n ops Q [] f w0 H := ⟨by
  cases md with
  | seq => exact fun _ _ hw => wi_nil ⟨H, h, hw⟩
  | quiet => exact fun _ _ => wq_nil h
  | held HS t L =>
    intro h1 _ h4 w hw hs
    cases t with
    | nil =>
      simp only [okT, List.isEmpty_iff] at h1
      exact wpAnyH_done h1 (lift_n rfl ⟨H, h, hw⟩) _
    | op i b t => simp [picks] at h4
    | fork => simp [picks] at h4
    | fork3 => simp [picks] at h4
    | fork4 => simp [picks] at h4
  | pick HS i t L =>
    intro _ _ _ h4
    simp [picks] at h4
  | grd HS i b t L =>
    intro _ _ od op ty pos aft rest g h4
    cases h4⟩
theorem wl_free {od : Option Nat} {op : Op} {ty : TypeId} {pos : String} {aft : Array Edge} {g : Option (Nat × Bool)} {Q' : Exit → Fr → World → Prop} {w : World} (hw : Region.wanted ⟨od, op, ty, pos, aft, g⟩ (yielded ops (rep n f).tmps) = true) (h : WL P n ops Q' (⟨od, op, ty, pos, aft, none⟩ :: rest) f w) : WL P n ops Q' (⟨od, op, ty, pos, aft, g⟩ :: rest) f w := ⟨by
  have h := h.out
  unfold wpList at *
  rw [if_pos wanted_free] at h
  rw [if_pos hw]
  exact h⟩
theorem picks_head {ops : Array Oper} {o : Oper} {rest : List Oper} {i : Nat} {b : Bool} {t : Tr} (h : o :: rest = picks ops.toList (.op i b t)) (hp : i < ops.size) : ops[i]? = some o ∧ rest = picks ops.toList t := by
  simp only [picks, List.cons.injEq] at h
  refine ⟨?_, h.2⟩
  rw [h.1]
  simp [hp]
/-- An operation that is chosen, or forced. -/
theorem s_op {o : Oper} {K : Fr → List HP → Prop} (hm : addOK md = true) (h : ∀ w, Wd w0 H w → WL P n ops (postK fun f' w' => ∃ H', K f' H' ∧ Wd w0 H' w') [o] f w)
    (k : ∀ f' H', K f' H' → SH (nx md) P n ops Q rest f' w0 H') (hk : ∀ HS t L, md = .held HS t L → ∀ w, Wd w0 H w → Wd w0 HS w → WL P n ops (postK fun f' w' => Wd w0 HS w' ∧ ∃ H', K f' H' ∧ Wd w0 H' w') [o] f w)
    (hk2 : ∀ HS i t L, md = .pick HS i t L → ∀ w, Wd w0 H w → Wd w0 HS w → WL P n ops (postK fun f' w' => Wd w0 HS w' ∧ ∃ H', K f' H' ∧ Wd w0 H' w') [o] f w)
    (hk3 : ∀ HS i b t L, md = .grd HS i b t L → ∀ w, Wd w0 H w → Wd w0 HS w → WL P n ops (postK fun f' w' => Wd w0 HS w' ∧ ∃ H', K f' H' ∧ Wd w0 H' w') [o] f w) : SH md P n ops Q (o :: rest) f w0 H := ⟨by
  cases md with
  | seq => exact fun hd w hw => op1_in hd (h w hw) fun f' w' ⟨H', h1, h2⟩ => (k f' H' h1).out (noDef_tail hd) w' h2
  | quiet => cases hm
  | held HS t L =>
    intro h1 h2 h4 w hw hs
    cases t with
    | nil => cases hm
    | fork => cases hm
    | fork3 => cases hm
    | fork4 => cases hm
    | op i b t =>
      cases b with
      | true => cases hm
      | false =>
        simp only [okT, Bool.and_eq_true, beq_iff_eq, decide_eq_true_eq] at h1
        obtain ⟨hi, hr⟩ := picks_head h4 h1.1
        show wpAnyH _ _ _ _ _ (t.len + 1) _ _ _
        refine wpAnyH_all h1.2.1 (by simp) fun j hj => ?_
        obtain rfl := List.mem_singleton.1 hj
        refine op1_any hi (hk _ _ _ rfl w hw hs) fun f' w' hr' ⟨hs', H', kk, hw'⟩ => ⟨hs', ?_⟩
        have := (k f' H' kk).out h1.2.2 h2 hr w' hw' hs'
        rw [hr'] at this
        simpa using this
  | pick HS i t L =>
    intro h1 h2 h3 h4 w hw hs
    obtain ⟨hi, hr⟩ := picks_head h4 h3
    refine op1_any hi (hk2 _ _ _ _ rfl w hw hs) fun f' w' hr' ⟨hs', H', kk, hw'⟩ => ⟨hs', ?_⟩
    have := (k f' H' kk).out h1 h2 hr w' hw' hs'
    rw [hr'] at this
    simpa using this
  | grd HS i b t L =>
    intro h1 h2 od op ty pos aft rest' g h4 hi hg hr w hw hs
    cases b with
    | true => cases hm
    | false =>
      simp only [okT, Bool.and_eq_true, beq_iff_eq, decide_eq_true_eq] at h1
      injection h4 with h4 h5
      subst h4 h5
      show wpAnyH _ _ _ _ _ (t.len + 1) _ _ _
      refine wpAnyH_all h1.2.1 (by simp) fun j hj => ?_
      obtain rfl := List.mem_singleton.1 hj
      refine op1_any hi (wl_free hg (hk3 _ _ _ _ _ rfl w hw hs)) fun f' w' hr' ⟨hs', H', kk, hw'⟩ => ⟨hs', ?_⟩
      have := (k f' H' kk).out h1.2.2 h2 hr w' hw' hs'
      rw [hr'] at this
      simpa using this⟩
/-- An operation that only reads. -/
theorem s_val (h : ∀ w, Wd w0 (vis md H) w → OX P n f op ty w v w) (k : SH (nx md) P n ops Q rest (upd f d v) w0 H) : SH md P n ops Q (⟨some d, op, ty, pos, aft, none⟩ :: rest) f w0 H := by
  by_cases ha : addOK md = true ∧ vis md H = H
  · obtain ⟨ha, hvis⟩ := ha
    rw [hvis] at h
    exact s_op (K := fun f' H' => f' = upd f d v ∧ H' = H) ha (fun w hw => wl_val (h w hw) (wl_nil ⟨rfl, H, ⟨rfl, rfl⟩, hw⟩)) (fun f' H' ⟨h1, h2⟩ => by subst h1 h2; exact k)
      (fun HS t L _ w hw hs => wl_val (h w hw) (wl_nil ⟨rfl, hs, H, ⟨rfl, rfl⟩, hw⟩)) (fun HS i t L _ w hw hs => wl_val (h w hw) (wl_nil ⟨rfl, hs, H, ⟨rfl, rfl⟩, hw⟩)) (fun HS i b t L _ w hw hs => wl_val (h w hw) (wl_nil ⟨rfl, hs, H, ⟨rfl, rfl⟩, hw⟩))
  · refine ⟨?_⟩
    cases md with
    | seq => exact (ha ⟨rfl, rfl⟩).elim
    | quiet => exact fun w hw => wq_val (fun w' he => h w' (hw.step he)) (k.out w hw)
    | pick HS i t L => exact (ha ⟨rfl, rfl⟩).elim
    | grd HS i b t L =>
      cases b with
      | false => exact (ha ⟨rfl, rfl⟩).elim
      | true =>
        intro h1 h2 od' op' ty' pos' aft' rest' g h4 hi hg hr w hw hs
        injection h4 with h4 h5
        injection h4 with e1 e2 e3 e4 e5 e6
        subst e1 e2 e3 e4 e5 h5
        simp only [okT, Bool.and_eq_true, decide_eq_true_eq] at h1
        have key := k.out h1.2.2.2 h2 hr w hw hs
        have hy : YieldsIf P ops (Wd w0 HS) ⟨some d, op, ty, pos, aft, g⟩ v (rep n f) := .inl ⟨hg, fun w hw => by rw [rep_eval]; exact h w hw _ _ _ _⟩
        refine wpAnyH_take (i := i) hi h2 h1.2.1 h1.2.2.1 (fun c a w hq => ?_) hy hs ?_
        · obtain ⟨_, _, _, _, _, hq, _⟩ := hq; exact hq.elim
        · rw [rep_put]
          have : (upd f d v).c.ro = f.c.ro := rfl
          rw [this] at key
          simpa using key
    | held HS t L =>
      intro h1 h2 h4 w hw hs
      cases t with
      | nil => simp [picks] at h4
      | fork => simp only [picks, noOper, List.cons.injEq, Oper.mk.injEq] at h4; simp at h4
      | fork3 => simp only [picks, noOper, List.cons.injEq, Oper.mk.injEq] at h4; simp at h4
      | fork4 => simp only [picks, noOper, List.cons.injEq, Oper.mk.injEq] at h4; simp at h4
      | op i b t =>
        cases b with
        | true =>
          simp only [okT, Bool.and_eq_true, decide_eq_true_eq] at h1
          obtain ⟨hi, hr⟩ := picks_head h4 h1.1
          have key := k.out h1.2.2.2 h2 hr w hw hs
          have hrun : ∀ w, Wd w0 HS w → (execOp (rep n f).eval ⟨some d, op, ty, pos, aft, none⟩).run P w = .ok (.value v) w := fun w hw => by rw [rep_eval]; exact h w hw _ _ _ _
          have hy : YieldsIf P ops (Wd w0 HS) ⟨some d, op, ty, pos, aft, none⟩ v (rep n f) := .inl ⟨rfl, hrun⟩
          show wpAnyH _ _ _ _ _ (t.len + 1) _ _ _
          refine wpAnyH_take (i := i) hi h2 h1.2.1 h1.2.2.1 (fun c a w hq => ?_) hy hs ?_
          · obtain ⟨_, _, _, _, _, hq, _⟩ := hq; exact hq.elim
          · rw [rep_put]
            have : (upd f d v).c.ro = f.c.ro := rfl
            rw [this] at key
            simpa using key
        | false => exact (ha ⟨rfl, rfl⟩).elim
/-- An operation that makes memory. -/
theorem s_add {o : Oper} (hm : addOK md = true) (h : ∀ w, Wd w0 H w → WL P n ops (postK fun f' w' => Ext w w' ∧ ∃ H', SH (nx md) P n ops Q rest f' w0 H' ∧ Wd w0 H' w') [o] f w) : SH md P n ops Q (o :: rest) f w0 H :=
  s_op (K := fun f' H' => SH (nx md) P n ops Q rest f' w0 H') hm (fun w hw => op1_seq (h w hw) fun f' w' ⟨_, h2⟩ => wl_nil ⟨rfl, h2⟩) (fun _ _ h => h)
    (fun HS t L _ w hw hs => op1_seq (h w hw) fun f' w' ⟨he, h2⟩ => wl_nil ⟨rfl, hs.step he, h2⟩) (fun HS i t L _ w hw hs => op1_seq (h w hw) fun f' w' ⟨he, h2⟩ => wl_nil ⟨rfl, hs.step he, h2⟩) (fun HS i b t L _ w hw hs => op1_seq (h w hw) fun f' w' ⟨he, h2⟩ => wl_nil ⟨rfl, hs.step he, h2⟩)
/-- The pieces that are read are there still. -/
def keeps : Md → List HP → Prop
  | .held HS _ _, H => Ent H HS
  | .pick HS _ _ _, H => Ent H HS
  | .grd HS _ _ _ _, H => Ent H HS
  | _, _ => True
/-- An operation that writes. -/
theorem s_mut {o : Oper} (hm : addOK md = true) (h : ∀ w, Wd w0 H w → WL P n ops (postK fun f' w' => ∃ H', keeps md H' ∧ SH (nx md) P n ops Q rest f' w0 H' ∧ Wd w0 H' w') [o] f w) : SH md P n ops Q (o :: rest) f w0 H :=
  s_op (K := fun f' H' => keeps md H' ∧ SH (nx md) P n ops Q rest f' w0 H') hm (fun w hw => op1_seq (h w hw) fun f' w' ⟨H', h1, h2, h3⟩ => wl_nil ⟨rfl, H', ⟨h1, h2⟩, h3⟩) (fun _ _ h => h.2)
    (fun HS t L e w hw hs => op1_seq (h w hw) fun f' w' ⟨H', h1, h2, h3⟩ => wl_nil ⟨rfl, by subst e; exact Ent.wd h1 h3, H', ⟨h1, h2⟩, h3⟩) (fun HS i t L e w hw hs => op1_seq (h w hw) fun f' w' ⟨H', h1, h2, h3⟩ => wl_nil ⟨rfl, by subst e; exact Ent.wd h1 h3, H', ⟨h1, h2⟩, h3⟩) (fun HS i b t L e w hw hs => op1_seq (h w hw) fun f' w' ⟨H', h1, h2, h3⟩ => wl_nil ⟨rfl, by subst e; exact Ent.wd h1 h3, H', ⟨h1, h2⟩, h3⟩)
/-- Two operations may come up: both orders are walked. -/
theorem s_fork {HS : List HP} {i j : Nat} {t1 t2 : Tr} {L : List Bool} {l : List Oper} (h1 : SH (.pick HS i t1 L) P n l.toArray Q (picks l (.op i false t1)) f w0 H) (h2 : SH (.pick HS j t2 L) P n l.toArray Q (picks l (.op j false t2)) f w0 H) :
    SH (.held HS (.fork i t1 j t2) L) P n l.toArray Q [noOper] f w0 H := ⟨fun k1 k2 _ w hw hs => by
  simp only [okT, Bool.and_eq_true, beq_iff_eq, decide_eq_true_eq, Nat.beq_eq] at k1
  obtain ⟨a1, b1, hr, hl, a2, b2⟩ := k1
  have e1 := h1.out a2 k2 a1 (by simp) w hw hs
  have e2 := h2.out b2 k2 b1 (by simp) w hw hs
  show wpAnyH _ _ _ _ _ (t1.len + 1) _ _ _
  refine wpAnyH_all hr (by simp) fun m hm => ?_
  simp only [List.mem_cons, List.not_mem_nil, or_false] at hm
  rcases hm with rfl | rfl
  · simpa using e1
  · rw [hl]; simpa using e2⟩
theorem s_fork3 {HS : List HP} {i j k : Nat} {t1 t2 t3 : Tr} {L : List Bool} {l : List Oper} (h1 : SH (.pick HS i t1 L) P n l.toArray Q (picks l (.op i false t1)) f w0 H) (h2 : SH (.pick HS j t2 L) P n l.toArray Q (picks l (.op j false t2)) f w0 H) (h3 : SH (.pick HS k t3 L) P n l.toArray Q (picks l (.op k false t3)) f w0 H) :
    SH (.held HS (.fork3 i t1 j t2 k t3) L) P n l.toArray Q [noOper] f w0 H := ⟨fun k1 k2 _ w hw hs => by
  simp only [okT, Bool.and_eq_true, beq_iff_eq, decide_eq_true_eq, Nat.beq_eq] at k1
  obtain ⟨a1, b1, c1, hr, hl, hl3, a2, b2, c2⟩ := k1
  have e1 := h1.out a2 k2 a1 (by simp) w hw hs
  have e2 := h2.out b2 k2 b1 (by simp) w hw hs
  have e3 := h3.out c2 k2 c1 (by simp) w hw hs
  show wpAnyH _ _ _ _ _ (t1.len + 1) _ _ _
  refine wpAnyH_all hr (by simp) fun m hm => ?_
  simp only [List.mem_cons, List.not_mem_nil, or_false] at hm
  rcases hm with rfl | rfl | rfl
  · simpa using e1
  · rw [hl]; simpa using e2
  · rw [hl3]; simpa using e3⟩
theorem s_fork4 {HS : List HP} {i j k m : Nat} {t1 t2 t3 t4 : Tr} {L : List Bool} {l : List Oper} (h1 : SH (.pick HS i t1 L) P n l.toArray Q (picks l (.op i false t1)) f w0 H) (h2 : SH (.pick HS j t2 L) P n l.toArray Q (picks l (.op j false t2)) f w0 H) (h3 : SH (.pick HS k t3 L) P n l.toArray Q (picks l (.op k false t3)) f w0 H) (h4 : SH (.pick HS m t4 L) P n l.toArray Q (picks l (.op m false t4)) f w0 H) :
    SH (.held HS (.fork4 i t1 j t2 k t3 m t4) L) P n l.toArray Q [noOper] f w0 H := ⟨fun k1 k2 _ w hw hs => by
  simp only [okT, Bool.and_eq_true, beq_iff_eq, decide_eq_true_eq, Nat.beq_eq] at k1
  obtain ⟨a1, b1, c1, d1, hr, hl, hl3, hl4, a2, b2, c2, d2⟩ := k1
  have e1 := h1.out a2 k2 a1 (by simp) w hw hs
  have e2 := h2.out b2 k2 b1 (by simp) w hw hs
  have e3 := h3.out c2 k2 c1 (by simp) w hw hs
  have e4 := h4.out d2 k2 d1 (by simp) w hw hs
  show wpAnyH _ _ _ _ _ (t1.len + 1) _ _ _
  refine wpAnyH_all hr (by simp) fun x hx => ?_
  simp only [List.mem_cons, List.not_mem_nil, or_false] at hx
  rcases hx with rfl | rfl | rfl | rfl
  · simpa using e1
  · rw [hl]; simpa using e2
  · rw [hl3]; simpa using e3
  · rw [hl4]; simpa using e4⟩
end
end Go.Fw

/- A rule for each kind of operation. -/
namespace Go.Fw
open Go.RowKit
/-- Values of the type t, which are data of the type α, are compared. -/
class TCmp (P : Program) (t : TypeId) (α : outParam Type) [F : outParam (Flat α)] [outParam (DecidableEq α)] : Prop where
  grd : P.eqGuardType P.depth t = false
  cmp : ∀ (x y : α) w, (Op.equalIn 10000 t (.agg (F.enc x).toArray) (.agg (F.enc y).toArray)).run P w = .ok (decide (x = y)) w
theorem ox_eqa {α : Type} [F : Flat α] [DecidableEq α] {P : Program} {n : Nat} {f : Fr} {w : World} {ty t1 t2 : TypeId} {x y : Operand} (x' y' : α) [h : TCmp P t1 α] (hx : ev n f x = .agg (F.enc x').toArray) (hy : ev n f y = .agg (F.enc y').toArray) :
    OX P n f (.binOp .eql t1 x y t2) ty w (.bool (decide (x' = y'))) w := by
  intro d pos aft g
  simp [execOp, hx, hy, run_eqGuard_agg w, h.grd, run_eql_struct, h.cmp]
theorem ox_nea {α : Type} [F : Flat α] [DecidableEq α] {P : Program} {n : Nat} {f : Fr} {w : World} {ty t1 t2 : TypeId} {x y : Operand} (x' y' : α) [h : TCmp P t1 α] (hx : ev n f x = .agg (F.enc x').toArray) (hy : ev n f y = .agg (F.enc y').toArray) :
    OX P n f (.binOp .neq t1 x y t2) ty w (.bool (!decide (x' = y'))) w := by
  intro d pos aft g
  simp [execOp, hx, hy, run_eqGuard_agg w, h.grd, run_neq_struct, h.cmp]
/-- No order other than the text's is to be thought of, or all operations only read, or the order is known. -/
def plain : Md → Bool
  | .seq => true
  | .quiet => true
  | .held _ (.op _ _ _) _ => true
  | _ => false
theorem dt {p : Prop} [Decidable p] (h : p) : decide p = true := decide_eq_true h
theorem df {p : Prop} [Decidable p] (h : ¬ p) : decide p = false := decide_eq_false h
theorem nt {b : Bool} (h : b = false) : (!b) = true := by rw [h]; rfl
theorem nf {b : Bool} (h : b = true) : (!b) = false := by rw [h]; rfl
section
variable {md : Md} {P : Program} {n : Nat} {Q : HQ} {f : Fr} {w0 : World} {H R : List HP} {ops : Array Oper} {rest : List Oper} {d : Nat} {od : Option Nat} {op : Op} {ty : TypeId} {pos : String} {aft : Array Edge} {v : Value} {x y c : Operand}
section
variable {j : Nat} {b : Bool}
theorem g_held_off {HS : List HP} {i : Nat} {b : Bool} {t : Tr} {L : List Bool} {g : Option (Nat × Bool)} (hg : Region.wanted ⟨some d, op, ty, pos, aft, g⟩ (yielded ops (rep n f).tmps) = false) (h : SH (.held HS t (L.set i true)) P n ops Q rest (upd f d undef) w0 H) :
    SH (.held HS (.op i b t) L) P n ops Q (⟨some d, op, ty, pos, aft, g⟩ :: rest) f w0 H := ⟨by
  intro h1 h2 h4 w hw hs
  cases b with
  | true =>
    simp only [okT, Bool.and_eq_true, decide_eq_true_eq] at h1
    obtain ⟨hi, hr⟩ := picks_head h4 h1.1
    have key := h.out h1.2.2.2 h2 hr w hw hs
    have hy : YieldsIf P ops (Wd w0 HS) ⟨some d, op, ty, pos, aft, g⟩ undef (rep n f) := .inr ⟨hg, rfl⟩
    show wpAnyH _ _ _ _ _ (t.len + 1) _ _ _
    refine wpAnyH_take (i := i) hi h2 h1.2.1 h1.2.2.1 (fun c a w hq => ?_) hy hs ?_
    · obtain ⟨_, _, _, _, _, hq, _⟩ := hq; exact hq.elim
    · rw [rep_put]
      have : (upd f d undef).c.ro = f.c.ro := rfl
      rw [this] at key
      simpa using key
  | false =>
    simp only [okT, Bool.and_eq_true, beq_iff_eq, decide_eq_true_eq] at h1
    obtain ⟨hi, hr⟩ := picks_head h4 h1.1
    have key := h.out h1.2.2 h2 hr w hw hs
    have this : (upd f d undef).c.ro = f.c.ro := rfl
    rw [this] at key
    show wpAnyH _ _ _ _ _ (t.len + 1) _ _ _
    refine wpAnyH_all h1.2.1 (by simp) fun j hj => ?_
    obtain rfl := List.mem_singleton.1 hj
    unfold wpOp
    simp only [hi]
    rw [if_neg (by rw [hg]; simp)]
    refine ⟨hs, ?_⟩
    show wpAnyH _ _ _ _ _ _ _ ((rep n f).put (some d) undef) _
    rw [rep_put]
    simpa using key⟩
theorem g_run {want : Bool} (hm : plain md = true) (hy : yld n ops f j = .bool b) (hb : b = want) (h : SH (gm md) P n ops Q (⟨od, op, ty, pos, aft, none⟩ :: rest) f w0 H) : SH md P n ops Q (⟨od, op, ty, pos, aft, some (j, want)⟩ :: rest) f w0 H := ⟨by
  cases md with
  | seq => exact fun hd w hw => wi_free (wanted_yes hy hb) (h.out hd w hw)
  | quiet => exact fun w hw => wq_run hy hb (h.out w hw)
  | held HS t L =>
    cases t with
    | op i b' t =>
      intro h1 h2 h4 w hw hs
      have hi0 : i < ops.size := by
        cases b' <;> simp only [okT, Bool.and_eq_true, decide_eq_true_eq] at h1 <;> exact h1.1
      obtain ⟨hi, hr⟩ := picks_head h4 hi0
      exact h.out h1 h2 _ _ _ _ _ _ _ rfl hi (wanted_yes hy hb) hr w hw hs
    | _ => cases hm
  | pick => cases hm
  | grd => cases hm⟩
theorem g_pass {want : Bool} (hm : plain md = true) (hy : yld n ops f j = .bool b) (hb : b = !want) (h : SH (nx md) P n ops Q rest (upd f d undef) w0 H) : SH md P n ops Q (⟨some d, op, ty, pos, aft, some (j, want)⟩ :: rest) f w0 H := by
  cases md with
  | seq => exact ⟨fun hd w hw => wi_off (wanted_no hy hb) (h.out (noDef_tail hd) w hw)⟩
  | quiet => exact ⟨fun w hw => wq_pass hy hb (h.out w hw)⟩
  | held HS t L =>
    cases t with
    | op i b' t => exact g_held_off (wanted_no hy hb) h
    | _ => cases hm
  | pick => cases hm
  | grd => cases hm
theorem gu {want : Bool} (hm : plain md = true) (hy : yld n ops f j = undef) (h : SH (nx md) P n ops Q rest (upd f d undef) w0 H) : SH md P n ops Q (⟨some d, op, ty, pos, aft, some (j, want)⟩ :: rest) f w0 H := by
  cases md with
  | seq => exact ⟨fun hd w hw => wi_off (wanted_undef hy) (h.out (noDef_tail hd) w hw)⟩
  | quiet => exact ⟨fun w hw => wq_pass_undef hy (h.out w hw)⟩
  | held HS t L =>
    cases t with
    | op i b' t => exact g_held_off (wanted_undef hy) h
    | _ => cases hm
  | pick => cases hm
  | grd => cases hm
theorem grT (hm : plain md = true) (hy : yld n ops f j = .bool b) (hb : b = true) (h : SH (gm md) P n ops Q (⟨od, op, ty, pos, aft, none⟩ :: rest) f w0 H) : SH md P n ops Q (⟨od, op, ty, pos, aft, some (j, true)⟩ :: rest) f w0 H := g_run hm hy hb h
theorem grF (hm : plain md = true) (hy : yld n ops f j = .bool b) (hb : b = false) (h : SH (gm md) P n ops Q (⟨od, op, ty, pos, aft, none⟩ :: rest) f w0 H) : SH md P n ops Q (⟨od, op, ty, pos, aft, some (j, false)⟩ :: rest) f w0 H := g_run hm hy hb h
theorem gpF (hm : plain md = true) (hy : yld n ops f j = .bool b) (hb : b = true) (h : SH (nx md) P n ops Q rest (upd f d undef) w0 H) : SH md P n ops Q (⟨some d, op, ty, pos, aft, some (j, false)⟩ :: rest) f w0 H := g_pass hm hy hb h
theorem gf (hm : plain md = true) (hy : yld n ops f j = .bool b) (h1 : b = false → SH (gm md) P n ops Q (⟨some d, op, ty, pos, aft, none⟩ :: rest) f w0 H) (h2 : b = true → SH (nx md) P n ops Q rest (upd f d undef) w0 H) :
    SH md P n ops Q (⟨some d, op, ty, pos, aft, some (j, false)⟩ :: rest) f w0 H := by
  cases b with
  | true => exact gpF hm hy rfl (h2 rfl)
  | false => exact grF hm hy rfl (h1 rfl)
/-- A guard that is looked at once. -/
structure GI (b want : Bool) (A B : Prop) : Prop where
  run : b = want → A
  pass : b = !want → B
theorem gif {want : Bool} (hm : plain md = true) (hy : yld n ops f j = .bool b) (h : GI b want (SH (gm md) P n ops Q (⟨some d, op, ty, pos, aft, none⟩ :: rest) f w0 H) (SH (nx md) P n ops Q rest (upd f d undef) w0 H)) :
    SH md P n ops Q (⟨some d, op, ty, pos, aft, some (j, want)⟩ :: rest) f w0 H := by
  by_cases hb : b = want
  · exact g_run hm hy hb (h.run hb)
  · have : b = !want := by cases b <;> cases want <;> simp_all
    exact g_pass hm hy this (h.pass this)
theorem giTT {A B : Prop} (hb : b = true) (h : A) : GI b true A B := ⟨fun _ => h, fun e => by rw [hb] at e; cases e⟩
theorem giTF {A B : Prop} (hb : b = false) (h : B) : GI b true A B := ⟨fun e => (by rw [hb] at e; cases e), fun _ => h⟩
theorem giFF {A B : Prop} (hb : b = false) (h : A) : GI b false A B := ⟨fun _ => h, fun e => by rw [hb] at e; cases e⟩
theorem giFT {A B : Prop} (hb : b = true) (h : B) : GI b false A B := ⟨fun e => (by rw [hb] at e; cases e), fun _ => h⟩
theorem giTd {A B p : Prop} [Decidable p] (h1 : p → A) (h2 : ¬ p → B) : GI (decide p) true A B := ⟨fun e => h1 (of_decide_eq_true e), fun e => h2 (of_decide_eq_false e)⟩
theorem giFd {A B p : Prop} [Decidable p] (h1 : ¬ p → A) (h2 : p → B) : GI (decide p) false A B := ⟨fun e => h1 (of_decide_eq_false e), fun e => h2 (of_decide_eq_true e)⟩
theorem giT {A B : Prop} (h1 : b = true → A) (h2 : b = false → B) : GI b true A B := ⟨h1, h2⟩
theorem giF {A B : Prop} (h1 : b = false → A) (h2 : b = true → B) : GI b false A B := ⟨h1, h2⟩
end
theorem mov (h : ev n f x = v) (k : SH (nx md) P n ops Q rest (upd f d v) w0 H) : SH md P n ops Q (⟨some d, .move x, ty, pos, aft, none⟩ :: rest) f w0 H := s_val (fun w hw => ox_move h) k
theorem asg (h : ev n f x = v) (k : SH (nx md) P n ops Q rest (upd f d v) w0 H) : SH md P n ops Q (⟨some d, .assign x, ty, pos, aft, none⟩ :: rest) f w0 H := s_val (fun w hw => ox_assign h) k
theorem pkt {t : Bool} (hc : ev n f c = .bool t) (ht : t = true) (h : ev n f x = v) (k : SH (nx md) P n ops Q rest (upd f d v) w0 H) : SH md P n ops Q (⟨some d, .pick c x y, ty, pos, aft, none⟩ :: rest) f w0 H := s_val (fun w hw => ox_pick_t hc ht h) k
theorem pkf {t : Bool} (hc : ev n f c = .bool t) (ht : t = false) (h : ev n f y = v) (k : SH (nx md) P n ops Q rest (upd f d v) w0 H) : SH md P n ops Q (⟨some d, .pick c x y, ty, pos, aft, none⟩ :: rest) f w0 H := s_val (fun w hw => ox_pick_f hc ht h) k
theorem add {a b : Int} {t1 t2 : TypeId} (hx : ev n f x = .int .i64 a) (hy : ev n f y = .int .i64 b) (h : In64 (a + b)) (k : SH (nx md) P n ops Q rest (upd f d (.int .i64 (a + b))) w0 H) : SH md P n ops Q (⟨some d, .binOp .add t1 x y t2, ty, pos, aft, none⟩ :: rest) f w0 H := s_val (fun w hw => ox_add64 hx hy h) k
theorem sub {a b : Int} {t1 t2 : TypeId} (hx : ev n f x = .int .i64 a) (hy : ev n f y = .int .i64 b) (h : In64 (a - b)) (k : SH (nx md) P n ops Q rest (upd f d (.int .i64 (a - b))) w0 H) : SH md P n ops Q (⟨some d, .binOp .sub t1 x y t2, ty, pos, aft, none⟩ :: rest) f w0 H := s_val (fun w hw => ox_sub64 hx hy h) k
theorem mul {a b : Int} {t1 t2 : TypeId} (hx : ev n f x = .int .i64 a) (hy : ev n f y = .int .i64 b) (h : In64 (a * b)) (k : SH (nx md) P n ops Q rest (upd f d (.int .i64 (a * b))) w0 H) : SH md P n ops Q (⟨some d, .binOp .mul t1 x y t2, ty, pos, aft, none⟩ :: rest) f w0 H := s_val (fun w hw => ox_mul64 hx hy h) k
theorem quo {a b : Int} {t1 t2 : TypeId} (hx : ev n f x = .int .i64 a) (hy : ev n f y = .int .i64 b) (h0 : 0 ≤ a) (h1 : a ≤ 9223372036854775807) (hb : 0 < b) (k : SH (nx md) P n ops Q rest (upd f d (.int .i64 (a / b))) w0 H) : SH md P n ops Q (⟨some d, .binOp .quo t1 x y t2, ty, pos, aft, none⟩ :: rest) f w0 H := s_val (fun w hw => ox_quoN (k := .i64) hx hy h0 h1 hb) k
theorem rem {a b : Int} {K : IntKind} {t1 t2 : TypeId} (hx : ev n f x = .int K a) (hy : ev n f y = .int K b) (h0 : 0 ≤ a) (hb : 0 < b) (k : SH (nx md) P n ops Q rest (upd f d (.int K (a % b))) w0 H) : SH md P n ops Q (⟨some d, .binOp .rem t1 x y t2, ty, pos, aft, none⟩ :: rest) f w0 H := s_val (fun w hw => ox_remN hx hy h0 hb) k
theorem lss {a b : Int} {K : IntKind} {t1 t2 : TypeId} (hx : ev n f x = .int K a) (hy : ev n f y = .int K b) (k : SH (nx md) P n ops Q rest (upd f d (.bool (decide (a < b)))) w0 H) : SH md P n ops Q (⟨some d, .binOp .lss t1 x y t2, ty, pos, aft, none⟩ :: rest) f w0 H := s_val (fun w hw => ox_lss hx hy) k
theorem leq {a b : Int} {K : IntKind} {t1 t2 : TypeId} (hx : ev n f x = .int K a) (hy : ev n f y = .int K b) (k : SH (nx md) P n ops Q rest (upd f d (.bool (decide (a ≤ b)))) w0 H) : SH md P n ops Q (⟨some d, .binOp .leq t1 x y t2, ty, pos, aft, none⟩ :: rest) f w0 H := s_val (fun w hw => ox_leq hx hy) k
theorem gtr {a b : Int} {K : IntKind} {t1 t2 : TypeId} (hx : ev n f x = .int K a) (hy : ev n f y = .int K b) (k : SH (nx md) P n ops Q rest (upd f d (.bool (decide (b < a)))) w0 H) : SH md P n ops Q (⟨some d, .binOp .gtr t1 x y t2, ty, pos, aft, none⟩ :: rest) f w0 H := s_val (fun w hw => ox_gtr hx hy) k
theorem geq {a b : Int} {K : IntKind} {t1 t2 : TypeId} (hx : ev n f x = .int K a) (hy : ev n f y = .int K b) (k : SH (nx md) P n ops Q rest (upd f d (.bool (decide (b ≤ a)))) w0 H) : SH md P n ops Q (⟨some d, .binOp .geq t1 x y t2, ty, pos, aft, none⟩ :: rest) f w0 H := s_val (fun w hw => ox_geq hx hy) k
theorem eql {a b : Int} {K : IntKind} {t1 t2 : TypeId} (hx : ev n f x = .int K a) (hy : ev n f y = .int K b) (k : SH (nx md) P n ops Q rest (upd f d (.bool (decide (a = b)))) w0 H) : SH md P n ops Q (⟨some d, .binOp .eql t1 x y t2, ty, pos, aft, none⟩ :: rest) f w0 H := s_val (fun w hw => ox_eql hx hy) k
theorem neq {a b : Int} {K : IntKind} {t1 t2 : TypeId} (hx : ev n f x = .int K a) (hy : ev n f y = .int K b) (k : SH (nx md) P n ops Q rest (upd f d (.bool (decide (a ≠ b)))) w0 H) : SH md P n ops Q (⟨some d, .binOp .neq t1 x y t2, ty, pos, aft, none⟩ :: rest) f w0 H := s_val (fun w hw => ox_neq hx hy) k
theorem eqn {t1 t2 e : TypeId} {sz by_ : Nat} {A : Option Addr} {m cp : Nat} [TSl P t1 e sz by_] (hx : ev n f x = .slice A m cp) (hy : ev n f y = .slice none 0 0) (k : SH (nx md) P n ops Q rest (upd f d (.bool A.isNone)) w0 H) : SH md P n ops Q (⟨some d, .binOp .eql t1 x y t2, ty, pos, aft, none⟩ :: rest) f w0 H := s_val (fun w hw => ox_eqnil hx hy) k
theorem nen {t1 t2 e : TypeId} {sz by_ : Nat} {A : Option Addr} {m cp : Nat} [TSl P t1 e sz by_] (hx : ev n f x = .slice A m cp) (hy : ev n f y = .slice none 0 0) (k : SH (nx md) P n ops Q rest (upd f d (.bool A.isSome)) w0 H) : SH md P n ops Q (⟨some d, .binOp .neq t1 x y t2, ty, pos, aft, none⟩ :: rest) f w0 H := s_val (fun w hw => ox_nenil hx hy) k
theorem eqb {a b : Bool} {t1 t2 : TypeId} [TBool P t1] (hx : ev n f x = .bool a) (hy : ev n f y = .bool b) (k : SH (nx md) P n ops Q rest (upd f d (.bool (a == b))) w0 H) : SH md P n ops Q (⟨some d, .binOp .eql t1 x y t2, ty, pos, aft, none⟩ :: rest) f w0 H := s_val (fun w hw => ox_eqlb hx hy) k
theorem neb {a b : Bool} {t1 t2 : TypeId} [TBool P t1] (hx : ev n f x = .bool a) (hy : ev n f y = .bool b) (k : SH (nx md) P n ops Q rest (upd f d (.bool (!(a == b)))) w0 H) : SH md P n ops Q (⟨some d, .binOp .neq t1 x y t2, ty, pos, aft, none⟩ :: rest) f w0 H := s_val (fun w hw => ox_neqb hx hy) k
theorem eqa {α : Type} [F : Flat α] [DecidableEq α] {t1 t2 : TypeId} (x' y' : α) [TCmp P t1 α] (hx : ev n f x = .agg (F.enc x').toArray) (hy : ev n f y = .agg (F.enc y').toArray) (k : SH (nx md) P n ops Q rest (upd f d (.bool (decide (x' = y')))) w0 H) : SH md P n ops Q (⟨some d, .binOp .eql t1 x y t2, ty, pos, aft, none⟩ :: rest) f w0 H := s_val (fun w hw => ox_eqa x' y' hx hy) k
theorem nea {α : Type} [F : Flat α] [DecidableEq α] {t1 t2 : TypeId} (x' y' : α) [TCmp P t1 α] (hx : ev n f x = .agg (F.enc x').toArray) (hy : ev n f y = .agg (F.enc y').toArray) (k : SH (nx md) P n ops Q rest (upd f d (.bool (!decide (x' = y')))) w0 H) : SH md P n ops Q (⟨some d, .binOp .neq t1 x y t2, ty, pos, aft, none⟩ :: rest) f w0 H := s_val (fun w hw => ox_nea x' y' hx hy) k
theorem bnot {b : Bool} {t1 : TypeId} (hx : ev n f x = .bool b) (k : SH (nx md) P n ops Q rest (upd f d (.bool !b)) w0 H) : SH md P n ops Q (⟨some d, .unOp .not t1 x, ty, pos, aft, none⟩ :: rest) f w0 H := s_val (fun w hw => ox_not hx) k
theorem neg {a : Int} {t1 : TypeId} (hx : ev n f x = .int .i64 a) (h : In64 (-a)) (k : SH (nx md) P n ops Q rest (upd f d (.int .i64 (-a))) w0 H) : SH md P n ops Q (⟨some d, .unOp .neg t1 x, ty, pos, aft, none⟩ :: rest) f w0 H := s_val (fun w hw => ox_neg64 hx h) k
theorem extr {vs : List Value} {i : Nat} (hx : ev n f x = .tuple vs.toArray) (hk : vs[i]? = some v) (k : SH (nx md) P n ops Q rest (upd f d v) w0 H) : SH md P n ops Q (⟨some d, .extract x i, ty, pos, aft, none⟩ :: rest) f w0 H := s_val (fun w hw => ox_extract hx hk) k
theorem fad {s : TypeId} {i off : Nat} {a : Addr} [TFld P s i off] (hx : ev n f x = .pointer (some a)) (k : SH (nx md) P n ops Q rest (upd f d (.pointer (some (a.add off)))) w0 H) : SH md P n ops Q (⟨some d, .fieldAddr s x i, ty, pos, aft, none⟩ :: rest) f w0 H := s_val (fun w hw => ox_field hx) k
theorem c64 {s t : TypeId} {ks k0 : IntKind} {a : Int} [TInt P s ks] [TInt P t .i64] (hx : ev n f x = .int k0 a) (h : In64 a) (k : SH (nx md) P n ops Q rest (upd f d (.int .i64 a)) w0 H) : SH md P n ops Q (⟨some d, .convert s t x, ty, pos, aft, none⟩ :: rest) f w0 H := s_val (fun w hw => ox_conv64 hx h) k
theorem cu64 {s t : TypeId} {ks k0 : IntKind} {a : Int} [TInt P s ks] [TInt P t .u64] (hx : ev n f x = .int k0 a) (h0 : 0 ≤ a) (h1 : a ≤ 9223372036854775807) (k : SH (nx md) P n ops Q rest (upd f d (.int .u64 a)) w0 H) : SH md P n ops Q (⟨some d, .convert s t x, ty, pos, aft, none⟩ :: rest) f w0 H := s_val (fun w hw => ox_convU64 hx h0 h1) k
theorem cnv {s t : TypeId} {ks k0 : IntKind} {a : Int} [TInt P s ks] {K : IntKind} [TInt P t K] (hx : ev n f x = .int k0 a) (k : SH (nx md) P n ops Q rest (upd f d (.int K (K.wrap a))) w0 H) : SH md P n ops Q (⟨some d, .convert s t x, ty, pos, aft, none⟩ :: rest) f w0 H := s_val (fun w hw => ox_conv hx) k
theorem sh1 {kk : IntKind} {a : Int} {t1 t2 : TypeId} (hx : ev n f x = .int .u64 a) (hy : ev n f y = .int kk 1) (k : SH (nx md) P n ops Q rest (upd f d (.int .u64 (a / 2))) w0 H) : SH md P n ops Q (⟨some d, .binOp .shr t1 x y t2, ty, pos, aft, none⟩ :: rest) f w0 H := s_val (fun w hw => ox_shr1 hx hy) k
theorem slen {t e : TypeId} {sz by_ : Nat} {A : Option Addr} {m cp : Nat} [TSl P t e sz by_] (hx : ev n f x = .slice A m cp) (k : SH (nx md) P n ops Q rest (upd f d (.int .i64 m)) w0 H) : SH md P n ops Q (⟨some d, .call { callee := .builtin .len, args := #[x], argTypes := #[t] }, ty, pos, aft, none⟩ :: rest) f w0 H := s_val (fun w hw => ox_len hx) k
theorem ix {α : Type} [F : Flat α] {t e : TypeId} {sz by_ : Nat} {A : Option Addr} {m cp : Nat} {K : IntKind} {i : Nat} {l : List α} [TSl P t e sz by_] (hx : ev n f x = .slice A m cp) {j : Int} (hy : ev n f y = .int K j) (hj : j = (i : Int)) (hr : ∀ w, Wd w0 (vis md H) w → Rd w A l) (hsz : sz = F.sz) (h1 : i < m) (h2 : i < l.length) (k : SH (nx md) P n ops Q rest (upd f d (.pointer (some ((adr A).add (i * sz))))) w0 H) : SH md P n ops Q (⟨some d, .indexAddr t x y, ty, pos, aft, none⟩ :: rest) f w0 H := s_val (fun w hw => ox_indexR (hr w hw) hx (hy.trans (by rw [hj])) hsz h1 h2) k
theorem ixi {α : Type} [F : Flat α] {t e : TypeId} {sz by_ : Nat} {A : Option Addr} {m cp : Nat} {K : IntKind} {i : Int} {l : List α} [TSl P t e sz by_] (hx : ev n f x = .slice A m cp) (hy : ev n f y = .int K i) (hr : ∀ w, Wd w0 (vis md H) w → Rd w A l) (hsz : sz = F.sz) (h0 : 0 ≤ i) (h1 : i < m) (h2 : i < l.length) (k : SH (nx md) P n ops Q rest (upd f d (.pointer (some ((adr A).add (i.toNat * sz))))) w0 H) : SH md P n ops Q (⟨some d, .indexAddr t x y, ty, pos, aft, none⟩ :: rest) f w0 H := s_val (fun w hw => ox_indexRI (hr w hw) hx hy hsz h0 h1 h2) k
theorem ixb {t e : TypeId} {len : Nat} {b i : Nat} {K : IntKind} [TArr P t len e 1] (hx : ev n f x = .pointer (some ⟨b, 0, none⟩)) (hy : ev n f y = .int K i) (h1 : i < len) (k : SH (nx md) P n ops Q rest (upd f d (.pointer (some ⟨b, i, none⟩))) w0 H) : SH md P n ops Q (⟨some d, .indexAddr t x y, ty, pos, aft, none⟩ :: rest) f w0 H := s_val (fun w hw => ox_indexB hx hy h1) k
theorem sla {t e : TypeId} {len sz : Nat} {a : Addr} {K : IntKind} {hi : Int} [TArr P t len e sz] (hx : ev n f x = .pointer (some a)) (hy : ev n f y = .int K hi) (h0 : 0 ≤ hi) (h1 : hi ≤ len) (k : SH (nx md) P n ops Q rest (upd f d (.slice (some a) hi.toNat len)) w0 H) : SH md P n ops Q (⟨some d, .slice t x none (some y) none, ty, pos, aft, none⟩ :: rest) f w0 H := s_val (fun w hw => ox_slice_arr hx hy h0 h1) k
theorem slh {t e : TypeId} {sz by_ : Nat} {A : Option Addr} {m cp : Nat} {K : IntKind} {hi : Int} [TSl P t e sz by_] (hx : ev n f x = .slice A m cp) (hy : ev n f y = .int K hi) (h0 : 0 ≤ hi) (h1 : hi ≤ cp) (k : SH (nx md) P n ops Q rest (upd f d (.slice A hi.toNat cp)) w0 H) : SH md P n ops Q (⟨some d, .slice t x none (some y) none, ty, pos, aft, none⟩ :: rest) f w0 H := s_val (fun w hw => ox_slice_hi hx hy h0 h1) k
theorem sll {t e : TypeId} {sz by_ : Nat} {A : Option Addr} {m cp : Nat} {K : IntKind} {lo : Int} [TSl P t e sz by_] (hx : ev n f x = .slice A m cp) (hy : ev n f y = .int K lo) (h0 : 0 ≤ lo) (h1 : lo ≤ m) (k : SH (nx md) P n ops Q rest (upd f d (.slice (if cp = lo.toNat then A else A.map (·.add (lo.toNat * sz))) (m - lo.toNat) (cp - lo.toNat))) w0 H) : SH md P n ops Q (⟨some d, .slice t x (some y) none none, ty, pos, aft, none⟩ :: rest) f w0 H := s_val (fun w hw => ox_slice_lo hx hy h0 h1) k
theorem lbx {t te : TypeId} {z : Value} {b off : Nat} {cs : List Value} [TOne P t z] (hx : ev n f x = .pointer (some ⟨b, off, none⟩)) (hs : Split (vis md H) (bx b te cs) R) (hv : cs[off]? = some v) (k : SH (nx md) P n ops Q rest (upd f d v) w0 H) : SH md P n ops Q (⟨some d, .load t x, ty, pos, aft, none⟩ :: rest) f w0 H := s_val (fun w hw => ox_loadBx hw hx hs hv) k
theorem lba {t te : TypeId} {sz : Nat} {z : List Value} {b : Nat} {cs : List Value} [TAgg P t sz z] (hx : ev n f x = .pointer (some ⟨b, 0, none⟩)) (hs : Split (vis md H) (bx b te cs) R) (hl : cs.length = sz) (k : SH (nx md) P n ops Q rest (upd f d (.agg cs.toArray)) w0 H) : SH md P n ops Q (⟨some d, .load t x, ty, pos, aft, none⟩ :: rest) f w0 H := s_val (fun w hw => ox_loadBxA hw hx hs hl) k
theorem lbi {t te : TypeId} {z : Value} {b i : Nat} {L : List Int} [TOne P t z] (hx : ev n f x = .pointer (some ⟨b, i, none⟩)) (hs : Split (vis md H) (bx b te (ints L)) R) (hi : i < L.length) (k : SH (nx md) P n ops Q rest (upd f d (.int .i64 (L.getD i 0))) w0 H) : SH md P n ops Q (⟨some d, .load t x, ty, pos, aft, none⟩ :: rest) f w0 H := s_val (fun w hw => ox_loadBx hw hx hs (ints_get hi)) k
theorem lin {t : TypeId} {z : Value} {A : Option Addr} {i : Nat} {l : List Int} [TOne P t z] (hx : ev n f x = .pointer (some ((adr A).add (i * 1)))) (hr : ∀ w, Wd w0 (vis md H) w → Rd w A l) (h1 : i < l.length) (k : SH (nx md) P n ops Q rest (upd f d (.int .i64 (l.getD i 0))) w0 H) : SH md P n ops Q (⟨some d, .load t x, ty, pos, aft, none⟩ :: rest) f w0 H := s_val (fun w hw => ox_loadRi (hr w hw) hx h1) k
theorem lr1 {α : Type} [F : Flat α] {t : TypeId} {z : Value} {sz : Nat} {A : Option Addr} {i : Nat} {l : List α} [TOne P t z] (hx : ev n f x = .pointer (some ((adr A).add (i * sz)))) (hr : ∀ w, Wd w0 (vis md H) w → Rd w A l) (hsz : sz = F.sz) (h1 : i < l.length) (hv : F.enc (l.getD i F.dflt) = [v]) (k : SH (nx md) P n ops Q rest (upd f d v) w0 H) : SH md P n ops Q (⟨some d, .load t x, ty, pos, aft, none⟩ :: rest) f w0 H := s_val (fun w hw => ox_loadR1 (hr w hw) hx hsz h1 hv) k
theorem lra {α : Type} [F : Flat α] {t : TypeId} {sz : Nat} {z : List Value} {A : Option Addr} {i : Nat} {l : List α} [TAgg P t sz z] (hx : ev n f x = .pointer (some ((adr A).add (i * sz)))) (hr : ∀ w, Wd w0 (vis md H) w → Rd w A l) (hsz : sz = F.sz) (h1 : i < l.length) (k : SH (nx md) P n ops Q rest (upd f d (.agg (F.enc (l.getD i F.dflt)).toArray)) w0 H) : SH md P n ops Q (⟨some d, .load t x, ty, pos, aft, none⟩ :: rest) f w0 H := s_val (fun w hw => ox_loadRA (hr w hw) hx hsz h1) k
theorem lrf {α : Type} [F : Flat α] {t : TypeId} {z : Value} {sz off : Nat} {A : Option Addr} {i : Nat} {l : List α} [TOne P t z] (hx : ev n f x = .pointer (some (((adr A).add (i * sz)).add off))) (hr : ∀ w, Wd w0 (vis md H) w → Rd w A l) (hsz : sz = F.sz) (h1 : i < l.length) (hv : (F.enc (l.getD i F.dflt))[off]? = some v) (k : SH (nx md) P n ops Q rest (upd f d v) w0 H) : SH md P n ops Q (⟨some d, .load t x, ty, pos, aft, none⟩ :: rest) f w0 H := s_val (fun w hw => ox_loadRf (hr w hw) hx hsz h1 hv) k
theorem lcell {t : TypeId} {z : Value} {a : Addr} [TOne P t z] (hx : ev n f x = .pointer (some a)) (hc : ∀ w, Wd w0 (vis md H) w → w.cell? a = some v) (k : SH (nx md) P n ops Q rest (upd f d v) w0 H) : SH md P n ops Q (⟨some d, .load t x, ty, pos, aft, none⟩ :: rest) f w0 H := s_val (fun w hw => ox_load hx (hc w hw)) k
theorem mf2 {fn : Fn} {c0 c1 : Operand} {v0 v1 : Value} (h0 : ev n f c0 = v0) (h1 : ev n f c1 = v1) (k : SH (nx md) P n ops Q rest (upd f d (.func fn #[] #[v0, v1])) w0 H) : SH md P n ops Q (⟨some d, .makeFunc fn #[] #[c0, c1], ty, pos, aft, none⟩ :: rest) f w0 H := s_val (fun w hw => ox_makeFunc2 h0 h1) k
theorem mf3 {fn : Fn} {c0 c1 c2 : Operand} {v0 v1 v2 : Value} (h0 : ev n f c0 = v0) (h1 : ev n f c1 = v1) (h2 : ev n f c2 = v2) (k : SH (nx md) P n ops Q rest (upd f d (.func fn #[] #[v0, v1, v2])) w0 H) : SH md P n ops Q (⟨some d, .makeFunc fn #[] #[c0, c1, c2], ty, pos, aft, none⟩ :: rest) f w0 H := s_val (fun w hw => ox_makeFunc3 h0 h1 h2) k
theorem bld {t : TypeId} {sz : Nat} {zs : List Value} {parts : List (Nat × Operand)} {ps : List (Nat × Value)} [TSt P t sz zs] (hp : parts.map (fun p => (p.1, ev n f p.2)) = ps) (h1 : (ps.all fun p => Nat.blt p.1 sz && p.2.oneCell') = true) (k : SH (nx md) P n ops Q rest (upd f d (.agg (setAt zs ps).toArray)) w0 H) : SH md P n ops Q (⟨some d, .build t parts.toArray, ty, pos, aft, none⟩ :: rest) f w0 H := s_val (fun w hw => ox_build1 hp h1) k

theorem al1 {t : TypeId} {z : Value} [TOne P t z] (hm : addOK md = true) (k : ∀ b, SH (nx md) P n ops Q rest (upd f d (.pointer (some ⟨b, 0, none⟩))) w0 (bx b t [z] :: H)) : SH md P n ops Q (⟨some d, .alloc t, ty, pos, aft, none⟩ :: rest) f w0 H :=
  s_add hm fun _ hw => wl_alloc1 fun _ b hn => wl_nil ⟨rfl, hn.ext, _, k b, hw.new hn⟩
theorem ala {t : TypeId} {sz : Nat} {z : List Value} [TAgg P t sz z] (hm : addOK md = true) (k : ∀ b, SH (nx md) P n ops Q rest (upd f d (.pointer (some ⟨b, 0, none⟩))) w0 (bx b t z :: H)) : SH md P n ops Q (⟨some d, .alloc t, ty, pos, aft, none⟩ :: rest) f w0 H :=
  s_add hm fun _ hw => wl_allocA fun _ b hn => wl_nil ⟨rfl, hn.ext, _, k b, hw.new hn⟩
theorem bxx {t : TypeId} {cs : List Value} (hm : addOK md = true) (hx : ev n f x = v) (hv : v.cells.toList = cs) (k : ∀ b, SH (nx md) P n ops Q rest (upd f d (.pointer (some ⟨b, 0, none⟩))) w0 (bx b t cs :: H)) : SH md P n ops Q (⟨some d, .box t x, ty, pos, aft, none⟩ :: rest) f w0 H :=
  s_add hm fun _ hw => wl_box hx (cs := cs.toArray) (by rw [← hv]) fun _ b hn => wl_nil ⟨rfl, hn.ext, _, k b, hw.new hn⟩
theorem stb {t te : TypeId} {z : Value} {b off : Nat} {cs : List Value} [h : TOne P t z] (hm : addOK md = true) (hx : ev n f x = .pointer (some ⟨b, off, none⟩)) (hy : ev n f y = v) (hs : Split H (bx b te cs) R) (hv : v.cells = #[v]) (hone : v.oneCell' = true) (hoff : off < cs.length)
    (hk : keeps md (bx b te (cs.set off v) :: R)) (k : SH (nx md) P n ops Q rest f w0 (bx b te (cs.set off v) :: R)) : SH md P n ops Q (⟨none, .store t x y, ty, pos, aft, none⟩ :: rest) f w0 H :=
  s_mut hm fun w hw => wl_store (cs := [v]) hx rfl hy (by rw [hv]) (fun w => h.siz w) (by simp [hone]) (hw.box hs).1 (by simp; omega) fun w1 hw1 hb => wl_nil ⟨rfl, _, hk, k, hw.setBox hs hw1 (by
    rw [hb]; congr 3
    rw [List.set_eq_take_append_cons_drop, if_pos hoff]
    simp)⟩
theorem sta {t te : TypeId} {sz b : Nat} {z cur cs : List Value} [h : TAgg P t sz z] (hm : addOK md = true) (hx : ev n f x = .pointer (some ⟨b, 0, none⟩)) (hy : ev n f y = .agg cs.toArray) (hs : Split H (bx b te cur) R) (hc : cur.length = sz) (hl : cs.length = sz) (hone : cs.all (·.oneCell') = true)
    (hk : keeps md (bx b te cs :: R)) (k : SH (nx md) P n ops Q rest f w0 (bx b te cs :: R)) : SH md P n ops Q (⟨none, .store t x y, ty, pos, aft, none⟩ :: rest) f w0 H :=
  s_mut hm fun w hw => wl_storeV (hw.box hs).1 hc hx hy hl hone fun w1 hw1 hb => wl_nil ⟨rfl, _, hk, k, hw.setBox hs hw1 hb⟩
theorem sbi {t te : TypeId} {z : Value} {b i : Nat} {L : List Int} {u : Int} [h : TOne P t z] (hm : addOK md = true) (hx : ev n f x = .pointer (some ⟨b, i, none⟩)) (hy : ev n f y = .int .i64 u) (hs : Split H (bx b te (ints L)) R) (hi : i < L.length)
    (hk : keeps md (bx b te (ints (L.set i u)) :: R)) (k : SH (nx md) P n ops Q rest f w0 (bx b te (ints (L.set i u)) :: R)) : SH md P n ops Q (⟨none, .store t x y, ty, pos, aft, none⟩ :: rest) f w0 H :=
  s_mut hm fun w hw => wl_storeB (hw.box hs).1 hx hy hi fun w1 hw1 hb => wl_nil ⟨rfl, _, hk, k, hw.setBox hs hw1 hb⟩
/-- A rule that is stated for the text's order, by itself. -/
theorem s_one {o : Oper} {K : Fr → List HP → Prop} (h : WH P n ops (fun e f' H' => e = .normal ∧ K f' H') [o] f w0 H) (w : World) (hw : Wd w0 H w) : WL P n ops (postK fun f' w' => ∃ H', K f' H' ∧ Wd w0 H' w') [o] f w := by
  have := h.out w hw
  exact op1_seq (K := fun f' w' => ∃ H', K f' H' ∧ Wd w0 H' w') (rest := []) (Q := _) (by
    have := this
    exact ⟨by
      have h := this.out
      unfold wpList at *
      split
      · rename_i hw
        rw [if_pos hw] at h
        have hp : ∀ c a w, ¬ lift n f.c.ro (low w0 fun e f' H' => e = .normal ∧ K f' H') (.panic c) a w := fun c a w ⟨_, _, _, _, _, ⟨h, _⟩, _⟩ => by cases h
        rcases h with h | ⟨_, h⟩
        · exact .inl (opwp_any hp lift_out (fun a w ⟨he, f', ha, hr, H', ⟨_, h1⟩, h2⟩ => ⟨Exit.noConfusion, f', ha, hr, rfl, H', h1, h2⟩) h)
        · exact (lift_out h).elim
      · rename_i hw
        rw [if_neg hw] at h
        obtain ⟨he, f', ha, hr, H', ⟨_, h1⟩, h2⟩ := h
        exact ⟨Exit.noConfusion, f', ha, hr, rfl, H', h1, h2⟩⟩) (fun f w h => wl_nil ⟨rfl, h⟩)
theorem s_wh {o : Oper} (hm : addOK md = true) (h : WH P n ops (fun e f' H' => e = .normal ∧ keeps md H' ∧ SH (nx md) P n ops Q rest f' w0 H') [o] f w0 H) : SH md P n ops Q (o :: rest) f w0 H :=
  s_mut hm fun w hw => (by
    have := s_one h w hw
    exact op1_seq (rest := []) this fun f' w' ⟨H', ⟨h1, h2⟩, h3⟩ => wl_nil ⟨rfl, H', h1, h2, h3⟩)
theorem sti {t e : TypeId} {z : Value} {A : Option Addr} {cp i : Nat} {l : List Int} {u : Int} [h : TOne P t z] (hm : addOK md = true) (hx : ev n f x = .pointer (some ((adr A).add (i * 1)))) (hy : ev n f y = .int .i64 u) (hs : Split H (orow e A cp l) R) (hi : i < l.length)
    (hk : keeps md (orow e A cp (l.set i u) :: R)) (k : SH (nx md) P n ops Q rest f w0 (orow e A cp (l.set i u) :: R)) : SH md P n ops Q (⟨none, .store t x y, ty, pos, aft, none⟩ :: rest) f w0 H :=
  s_wh hm (wh_setI hx hy hs hi (wh_nil ⟨rfl, hk, k⟩))
theorem ints_encs (l : List Int) : ints l = encs l := by
  induction l with
  | nil => rfl
  | cons x l ih => rw [encs_cons, ← ih]; rfl
theorem clr {t e : TypeId} {by_ : Nat} {A A' : Option Addr} {m' cp cp' j : Nat} {L : List Int} [TSl P t e 1 by_] [TOne P e (.int .i64 0)] (hm : addOK md = true) (hx : ev n f x = .slice A' m' cp') (hs : Split H (orow e A cp L) R)
    (hA : A' = (if cp = j then A else A.map (·.add (j * 1)))) (hm' : m' = L.length - j) (hj : j ≤ L.length)
    (hk : keeps md (orow e A cp (L.take j) :: R)) (k : SH (nx md) P n ops Q rest f w0 (orow e A cp (L.take j) :: R)) :
    SH md P n ops Q (⟨none, .call { callee := .builtin .clear, args := #[x], argTypes := #[t] }, ty, pos, aft, none⟩ :: rest) f w0 H :=
  s_mut hm fun w hw => by
    have ho := hw.own hs
    have e1 : encs L = ints L := (ints_encs L).symm
    rw [e1] at ho
    refine wl_clear ho hx hA hm' hj fun w1 ho1 hg _ => wl_nil ⟨rfl, _, hk, k, hw.row hs hg ?_ (fun k hk => .inl hk)⟩
    rw [ints_encs] at ho1
    have : (L.take j).length = j := by rw [List.length_take]; omega
    rw [this]; exact ho1
section
variable {α : Type} [F : Flat α]
theorem stf {t e : TypeId} {z : Value} {sz off : Nat} {A : Option Addr} {cp i : Nat} {l : List α} (x' : α) [h : TOne P t z] (hm : addOK md = true) (hx : ev n f x = .pointer (some (((adr A).add (i * sz)).add off))) (hy : ev n f y = v) (hs : Split H (orow e A cp l) R) (hsz : sz = F.sz) (hi : i < l.length) (hv : v.cells = #[v]) (hone : v.oneCell' = true) (hoff : off < sz)
    (hx' : F.enc x' = (F.enc (l.getD i F.dflt)).set off v) (hk : keeps md (orow e A cp (l.set i x') :: R)) (k : SH (nx md) P n ops Q rest f w0 (orow e A cp (l.set i x') :: R)) : SH md P n ops Q (⟨none, .store t x y, ty, pos, aft, none⟩ :: rest) f w0 H :=
  s_wh hm (wh_setR (off := off) (cs := [v]) (x' := x') (by rw [hx, add_add]) hy hs hsz hi (by rw [hv]) (fun w => h.siz w) (by simp [hone]) (by simp; omega) (by
    rw [hx', List.set_eq_take_append_cons_drop, if_pos (by rw [F.len]; omega)]; simp) (wh_nil ⟨rfl, hk, k⟩))
theorem app {t e : TypeId} {sz by_ : Nat} {A B : Option Addr} {m cp kk c2 : Nat} {l l2 : List α} [TSl P t e sz by_] [TEl P e sz by_] (hm : addOK md = true)
    (hx : ev n f x = .slice A m cp) (hy : ev n f y = .slice B kk c2) (hs : Split H (orow e A cp l) R) (hsrc : ∀ w, Wd w0 H w → Rd w B l2) (hsz : sz = F.sz) (hml : m = l.length) (hkl : kk = l2.length)
    (hbig : (l.length + l2.length) * by_ ≤ 140737488355328) (h63 : l.length + l2.length ≤ 140737488355328)
    (k : ∀ A' cp', keeps md (orow e A' cp' (l ++ l2) :: R) ∧ SH (nx md) P n ops Q rest (upd f d (.slice A' (l ++ l2).length cp')) w0 (orow e A' cp' (l ++ l2) :: R)) :
    SH md P n ops Q (⟨some d, .call { callee := .builtin .append, args := #[x, y], argTypes := #[t, t] }, ty, pos, aft, none⟩ :: rest) f w0 H :=
  s_wh hm (wh_append hx hy hs hsrc hsz hml hkl hbig h63 fun A' cp' => wh_nil ⟨rfl, k A' cp'⟩)
theorem numbered_of (g : Operand → Value) : ∀ (parts : List (Nat × Operand)) (k : Nat), parts.map (·.1) = List.range' k parts.length → parts.map (fun p => (p.1, g p.2)) = numbered k (parts.map fun p => g p.2)
  | [], _, _ => rfl
  | p :: ps, k, h => by
    simp only [List.map_cons, List.length_cons, List.range'_succ, List.cons.injEq] at h
    simp only [List.map_cons, numbered, h.1, numbered_of g ps (k + 1) h.2]
theorem bsl {t e : TypeId} {sz by_ : Nat} {parts : List (Nat × Operand)} {l : List α} {len : Nat} [TSl P t e sz by_] [TEl P e sz by_] (hm : addOK md = true)
    (hp : parts.map (·.1) = List.range' 0 parts.length) (hl : Vals (parts.map fun p => ev n f p.2) l) (hsz : sz = F.sz) (hlen : l.length = len) (hsmall : len * sz ≤ 16777216)
    (k : ∀ b, SH (nx md) P n ops Q rest (upd f d (.slice (some ⟨b, 0, none⟩) len len)) w0 (orow e (some ⟨b, 0, none⟩) len l :: H)) :
    SH md P n ops Q (⟨some d, .buildSlice t len parts.toArray, ty, pos, aft, none⟩ :: rest) f w0 H := by
  subst hsz hlen
  obtain ⟨h1, h2, h3⟩ := hl.flat
  refine s_add hm fun w hw => wl_bslice l.length (numbered_of (ev n f) parts 0 hp) h2 h3 hsmall fun w1 b hn ho => wl_nil ⟨rfl, hn.ext, _, k b, hw.newRow hn.ext ?_⟩
  rw [h1] at ho
  have := hn.num
  exact own_base ho (by omega)
end
section calls
variable {callee : Operand} {xs : List Operand} {at_ : Array TypeId} {g : FuncId} {fst cap : Array Value} {vs : List Value} {R : Value → List HP → Prop}
/-- A call that leaves what is there as it is, and adds pieces. -/
theorem cp (hm : addOK md = true) (h : ∀ w, Wd w0 H w → Ret P g vs.toArray w (RP w R)) (hc : ev n f callee = .func (.func g) fst cap) (hv : fst.toList ++ xs.map (ev n f) ++ cap.toList = vs)
    (k : ∀ v H', R v H' → SH (nx md) P n ops Q rest (upd f d v) w0 (H' ++ H)) : SH md P n ops Q (⟨some d, .call { callee := .value callee, args := xs.toArray, argTypes := at_ }, ty, pos, aft, none⟩ :: rest) f w0 H :=
  s_add hm fun w hw => wl_call (h w hw) hc hv fun v w' ⟨H', h1, h2⟩ => wl_nil ⟨rfl, h2.1, _, k v H' h1, hw.over h2⟩
/-- A call that may change pieces. -/
theorem cm (hm : addOK md = true) (h : ∀ w, Wd w0 H w → Ret P g vs.toArray w (RP w0 R)) (hc : ev n f callee = .func (.func g) fst cap) (hv : fst.toList ++ xs.map (ev n f) ++ cap.toList = vs)
    (k : ∀ v H', R v H' → keeps md H' ∧ SH (nx md) P n ops Q rest (upd f d v) w0 H') : SH md P n ops Q (⟨some d, .call { callee := .value callee, args := xs.toArray, argTypes := at_ }, ty, pos, aft, none⟩ :: rest) f w0 H :=
  s_mut hm fun w hw => wl_call (h w hw) hc hv fun v w' ⟨H', h1, h2⟩ => wl_nil ⟨rfl, H', (k v H' h1).1, (k v H' h1).2, h2⟩
def notTaken : Md → Bool
  | .held _ (.op _ false _) _ => true
  | .held _ _ _ => false
  | .grd _ _ b _ _ => !b
  | _ => true
/-- A call that gives the value v. -/
theorem cl (hm : notTaken md = true) (h : ∀ w, Wd w0 H w → Ret P g vs.toArray w (Out w v)) (hc : ev n f callee = .func (.func g) fst cap) (hv : fst.toList ++ xs.map (ev n f) ++ cap.toList = vs)
    (k : SH (nx md) P n ops Q rest (upd f d v) w0 H) : SH md P n ops Q (⟨some d, .call { callee := .value callee, args := xs.toArray, argTypes := at_ }, ty, pos, aft, none⟩ :: rest) f w0 H := by
  by_cases ha : addOK md = true
  · exact cp ha h hc hv fun u H' ⟨h1, h2⟩ => by subst h1 h2; exact k
  · cases md with
    | seq => exact (ha rfl).elim
    | quiet => exact ⟨fun w hw => wq_call (fun w' he => (h w' (hw.step he)).mono fun u w'' ⟨_, ⟨h1, _⟩, h3⟩ => ⟨h1, h3.1⟩) hc hv (k.out w hw)⟩
    | pick => exact (ha rfl).elim
    | grd HS i b t L => exact (ha hm).elim
    | held HS t L =>
      cases t with
      | nil => cases hm
      | fork => cases hm
      | fork3 => cases hm
      | fork4 => cases hm
      | op i b t =>
        cases b with
        | true => cases hm
        | false => exact (ha rfl).elim
end calls
end
/-- A slice in memory of its own, which reads as l. -/
def Fresh {α : Type} [Flat α] (e : TypeId) (l : List α) (v : Value) (H : List HP) : Prop := ∃ A cp, v = .slice A l.length cp ∧ H = [orow e A cp l]
end Go.Fw

/- More rules for memory: a slice that is appended to and read on; slices made with elements; numbers of all kinds. -/
namespace Go.Fw
open Go.RowKit

/-- In a round of a loop that writes the slots S: the frame is forgotten, but for the slots of l and all that lie outside S. -/
theorem v_normS {P : Program} {n : Nat} {Q : HQ} {f : Fr} {w0 : World} {H : List HP} {c : Code} (S : List (Nat × Nat)) (f0 : Fr) (ha : Agree S f f0) (l : List (Nat × Value)) (h : Has f l) (k : ∀ g, VH P n c Q (sets (mix S g f0) l) w0 H) : VH P n c Q f w0 H := by
  have := k f
  rwa [← ha.mix_eq, sets_has h] at this
/-- A number of the kind k. -/
structure NumK (k : IntKind) where
  n : Int
  deriving DecidableEq
instance (k : IntKind) : Flat (NumK k) := ⟨1, fun x => [.int k x.n], ⟨0⟩, fun _ => rfl, fun x v hv => by simp at hv; subst hv; rfl, by omega⟩

theorem ent_join {X Y Z : HP} {R : List HP} (h : ∀ p q, den X p → den Y q → Dis p q → den Z (pjoin p q)) : Ent (X :: Y :: R) (Z :: R) := ⟨fun p hp => by
  obtain ⟨p1, p23, hx, ⟨p2, p3, hy, hs, hd2, rfl⟩, hd1, rfl⟩ := hp
  refine ⟨pjoin (pjoin p1 p2) p3, ⟨pjoin p1 p2, p3, h p1 p2 hx hy (fun k => ?_), hs, fun k => ?_, rfl⟩, fun k o ho => ?_⟩
  · rcases hd1 k with h1 | h1
    · exact .inl h1
    · exact .inr (pjoin_none.1 h1).1
  · rcases hd2 k with h2 | h2
    · rcases hd1 k with h1 | h1
      · exact .inl (pjoin_none.2 ⟨h1, h2⟩)
      · exact .inr (pjoin_none.1 h1).2
    · exact .inr h2
  · unfold pjoin at ho ⊢
    cases h1 : p1 k with
    | some o' => rw [h1] at ho; exact ho
    | none => rw [h1] at ho; exact ho⟩
section
variable {α : Type} [F : Flat α]
/-- The slice at A, which reads as l, was appended to: the slice at A' reads as L; both may be read. -/
def twin (e : TypeId) (A : Option Addr) (cp : Nat) (l : List α) (A' : Option Addr) (cp' : Nat) (L : List α) : HP := .oth fun p =>
  (A' = A ∧ cp' = cp ∧ l <+: L ∧ den (orow e A' cp' L) p) ∨ ∃ p1 p2, den (orow e A cp l) p1 ∧ den (orow e A' cp' L) p2 ∧ Dis p1 p2 ∧ p = pjoin p1 p2
section
variable {w0 w : World} {H R : List HP} {e : TypeId} {A A' : Option Addr} {cp cp' : Nat} {l L : List α}
theorem Wd.rd2 (h : Wd w0 H w) (hs : Split H (twin e A cp l A' cp' L) R) : Rd w A' L := by
  obtain ⟨p, q, hx, _, _, hp, _⟩ := (hs.wd h).open_
  rcases hx with ⟨_, _, _, hx⟩ | ⟨p1, p2, _, hx, hd, rfl⟩
  · exact src_own (row_own hx hp)
  · exact src_own (row_own hx (hp.right hd))
theorem Wd.rd1 (h : Wd w0 H w) (hs : Split H (twin e A cp l A' cp' L) R) : Rd w A l := by
  obtain ⟨p, q, hx, _, _, hp, _⟩ := (hs.wd h).open_
  rcases hx with ⟨rfl, _, hpre, hx⟩ | ⟨p1, p2, hx, _, hd, rfl⟩
  · have h1 : Rd w A' L := src_own (row_own hx hp)
    have := h1.take l.length
    rwa [← List.prefix_iff_eq_take.1 hpre] at this
  · exact src_own (row_own hx hp.left)
end
section
variable {md : Md} {P : Program} {n : Nat} {Q : HQ} {f : Fr} {w0 : World} {H R : List HP} {ops : Array Oper} {rest : List Oper} {d : Nat} {op : Op} {ty : TypeId} {pos : String} {aft : Array Edge} {v : Value} {x y c : Operand}
end
end
end Go.Fw

/- More rules: slices of slices, pieces that are only read, an append that has to grow. -/
namespace Go.Fw
open Go.RowKit

/-- A slice as an element. -/
structure SliceV where
  A : Option Addr
  m : Nat
  cp : Nat
instance : Flat SliceV := ⟨1, fun x => [.slice x.A x.m x.cp], ⟨none, 0, 0⟩, fun _ => rfl, fun x v hv => by simp at hv; subst hv; rfl, by omega⟩
/-- A piece of which it is known that the slice at A, of capacity cp, reads as l. -/
def rdp {α : Type} [Flat α] (A : Option Addr) (cp : Nat) (l : List α) : HP := .oth fun p => l.length ≤ cp ∧ ∀ w lo, Inn p w lo → Rd w A l
section
variable {α : Type} [F : Flat α] {w0 w : World} {H R G : List HP} {e : TypeId} {A A' : Option Addr} {cp cp' : Nat} {l L : List α}
theorem Wd.cap (h : Wd w0 H w) (hs : Split H (rdp A cp l) R) : l.length ≤ cp := by
  obtain ⟨p, q, hx, _⟩ := (hs.wd h).open_
  exact hx.1
theorem Rd.drop (h : Rd w A l) (k : Nat) : Rd w (A.map (·.add (k * F.sz))) (l.drop k) := fun j u hj => by
  rw [← encs_drop, List.getElem?_drop] at hj
  obtain ⟨h1, h2⟩ := h _ u hj
  rw [h1]
  refine ⟨rfl, ?_⟩
  show w.cell? (((adr A).add (k * F.sz)).add j) = _
  rw [add_add]; exact h2
/-- What x[k:] reads as. -/
theorem Rd.from (h : Rd w A l) (k : Nat) (hc : l.length ≤ cp) : Rd w (if cp = k then A else A.map (·.add (k * F.sz))) (l.drop k) := by
  split
  · rw [List.drop_of_length_le (by omega)]; exact Rd.nil _ _
  · exact h.drop k
theorem den_row_rd {p : Part} (h : den (orow e A cp l) p) : l.length ≤ cp ∧ ∀ w lo, Inn p w lo → Rd w A l := by
  refine ⟨?_, fun w lo hi => src_own (row_own h hi)⟩
  rcases h.2 with ⟨_, h2, _⟩ | ⟨_, _, _, _, h2, _⟩
  · rw [h2]; exact Nat.zero_le _
  · exact h2
end
section
variable {md : Md} {P : Program} {n : Nat} {Q : HQ} {f : Fr} {w0 : World} {H R : List HP} {ops : Array Oper} {rest : List Oper} {d : Nat} {op : Op} {ty : TypeId} {pos : String} {aft : Array Edge} {v : Value} {x y y2 c : Operand}
section
variable {α : Type} [F : Flat α]
end
end
end Go.Fw

/- Lists of pieces; a row's beginning; a slice that was appended to is appended to again. -/
namespace Go.Fw
open Go.RowKit

section
variable {ι : Type} {d : ι} {H : List HP}
theorem split_map (f : ι → HP) : ∀ (L : List ι) (k : Nat), k < L.length → Split (L.map f ++ H) (f (L.getD k d)) ((L.eraseIdx k).map f ++ H)
  | [], k, h => absurd h (Nat.not_lt_zero k)
  | x :: L, 0, _ => Split.head
  | x :: L, k + 1, h => Split.tail (split_map f L k (by simpa using h))
theorem ent_map_open {f : ι → HP} {L : List ι} {k : Nat} (h : k < L.length) : Ent (L.map f ++ H) (f (L.getD k d) :: ((L.eraseIdx k).map f ++ H)) := ent_cons (split_map f L k h) (ent_refl _)
theorem ent_map_close {f : ι → HP} {x : ι} : ∀ {L : List ι} {k : Nat}, k < L.length → Ent (f x :: ((L.eraseIdx k).map f ++ H)) ((L.set k x).map f ++ H)
  | [], k, h => absurd h (Nat.not_lt_zero k)
  | y :: L, 0, _ => ent_refl _
  | y :: L, k + 1, h => ent_cons (Split.tail Split.head) (ent_map_close (by simpa using h))
theorem ent_map_back {f : ι → HP} : ∀ {L : List ι} {k : Nat}, k < L.length → Ent (f (L.getD k d) :: ((L.eraseIdx k).map f ++ H)) (L.map f ++ H)
  | [], k, h => absurd h (Nat.not_lt_zero k)
  | y :: L, 0, _ => ent_refl _
  | y :: L, k + 1, h => ent_cons (Split.tail Split.head) (ent_map_back (L := L) (k := k) (by simpa using h))
end
section
variable {α : Type} [F : Flat α] {w0 w : World} {H R G : List HP} {e : TypeId} {A A' : Option Addr} {cp cp' : Nat} {l L : List α}
section
variable {md : Md} {P : Program} {n : Nat} {Q : HQ} {f : Fr} {w0 : World} {H R : List HP} {ops : Array Oper} {rest : List Oper} {d : Nat} {op : Op} {ty : TypeId} {pos : String} {aft : Array Edge} {v : Value} {x y c : Operand}
theorem ox_nil {P : Program} {n : Nat} {f : Fr} {w : World} {ty : TypeId} {a : Addr} (hx : ev n f x = .pointer (some a)) : OX P n f (.nilCheck x) ty w (.pointer (some a)) w := by
  intro d pos aft g
  simp [execOp, hx]
theorem nlc {a : Addr} (hx : ev n f x = .pointer (some a)) (k : SH (nx md) P n ops Q rest (upd f d (.pointer (some a))) w0 H) : SH md P n ops Q (⟨some d, .nilCheck x, ty, pos, aft, none⟩ :: rest) f w0 H := s_val (fun w hw => ox_nil hx) k
theorem v_cap {c : Code} {A : Option Addr} {cp : Nat} {e : TypeId} {l : List α} (hs : Split H (orow e A cp l) R) (k : l.length ≤ cp → VH P n c Q f w0 H) : VH P n c Q f w0 H := ⟨fun w hw => (k (own_cap (hw.own hs)).1).out w hw⟩
end
end
end Go.Fw

/- Steps that close a goal, each under a short name. -/
namespace Go.Fw
open Go.RowKit
theorem spL {p : Prop} (h : p := by iterate 24 (try first | exact Split.head | apply Split.tail)) : p := h
theorem evL {p : Prop} (h : p := by conv => lhs; whnf) : p := h
theorem tbL {p : Prop} (h : p := by first | with_reducible rfl | assumption | exact dt (by assumption) | exact df (by assumption) | exact dt (by omega) | exact df (by omega) | exact nt (by first | with_reducible rfl | assumption | exact df (by omega)) | exact nf (by first | with_reducible rfl | assumption | exact dt (by assumption) | exact dt (by omega))) : p := h
theorem inL {p : Prop} (h : p := by constructor <;> omega) : p := h
theorem omL {p : Prop} (h : p := by first | omega | decide) : p := h
theorem rd_via {α : Type} [Flat α] {w0 w : World} {H : List HP} {A : Option Addr} {l : List α} (hw : Wd w0 H w) (h : Rd w0 A l) : Rd w A l := h.ext hw.ext
theorem hsL {p : Prop} (h : p := by (repeat (first | exact trivial | refine And.intro rfl ?_))) : p := h
theorem heL {p : Prop} (h : p := by (repeat (first | exact trivial | refine And.intro (by conv => lhs; whnf) ?_))) : p := h
theorem enL {p : Prop} (h : p := by (repeat (first | exact ent_refl _ | exact ent_nil _ | refine ent_nilrow ?_ | refine ent_cons spL ?_ | refine ent_drop ?_ | exact trivial))) : p := h
theorem kpL {p : Prop} (h : p := by first | exact trivial | exact ent_nil _ | exact ent_drop (ent_refl _) | exact ent_refl _ | exact enL) : p := h
theorem agL {p : Prop} (h : p := by (repeat (first | exact agree_mix _ _ _ | exact agree_refl _ _ | refine agree_upd rfl ?_ | refine agree_mix_of rfl ?_))) : p := h
end Go.Fw

/- More rules: a quotient of numbers of either sign. -/
namespace Go.Fw
open Go.RowKit
section
variable {md : Md} {P : Program} {n : Nat} {Q : HQ} {f : Fr} {w0 : World} {H R : List HP} {ops : Array Oper} {rest : List Oper} {d : Nat} {op : Op} {ty : TypeId} {pos : String} {aft : Array Edge} {v : Value} {x y c : Operand}
end
section
variable {P : Program} {n : Nat} {Q : HQ} {f : Fr} {w0 : World} {H H' : List HP} {fn : Func} {R : Value → List HP → Prop} {v : Value}
/-- The first of two results lies in memory. -/
theorem rhC2 {t u : Nat} {T : TypeId} {a : Addr} (hr : fn.results = #[.cell t T, .tmp u]) (ht : Nat.blt t n = true) (hu : Nat.blt u n = true) (hp : f t = .pointer (some a)) (hl : ∀ w, Wd w0 H w → (loadVar T a).run P w = .ok v w) (h : R (.tuple #[v, f u]) H') (he : Ent H H') (hd : f.c.ds = [] := by rfl) : retH P n fn w0 R .ret f H :=
  ret_plain (.inr rfl) hd fun w hw => ⟨_, by
    have h1 := rep_get (f := f) ht
    rw [hp] at h1
    have h2 := rep_get (f := f) hu
    simp only [Array.getD_eq_getD_getElem?] at h1 h2
    simp [results, hr, h1, h2, asAddr, hl w hw], H', h, he⟩
end
section
variable {md : Md} {P : Program} {n : Nat} {Q : HQ} {f : Fr} {w w0 : World} {H R : List HP} {ops : Array Oper} {rest : List Oper} {d : Nat} {op : Op} {ty : TypeId} {pos : String} {aft : Array Edge} {v : Value} {x y c : Operand}
/-- The rest of a row of structs is cleared. -/
theorem wl_clearG {Q' : Exit → Fr → World → Prop} {t e : TypeId} {sz by_ : Nat} {z cs : List Value} {base : Nat} {A A' : Option Addr} {m m' cp cp' k : Nat} [ht : TSl P t e sz by_] [he : TAgg P e sz z] (hzl : z.length = sz) (hz1 : ∀ u ∈ z, u.oneCell' = true) (hp : 0 < sz) (ho : Own w base e sz A m cp cs)
    (hx : ev n f x = .slice A' m' cp') (hA : A' = (if cp = k then A else A.map (·.add (k * sz)))) (hm' : m' = m - k) (hk : k ≤ m)
    (kk : ∀ w1, Own w1 base e sz A k cp (cs.take (k * sz)) → w.grownBy w1 (blk A) → WL P n ops Q' rest f w1) :
    WL P n ops Q' (⟨none, .call { callee := .builtin .clear, args := #[x], argTypes := #[t] }, ty, pos, aft, none⟩ :: rest) f w := by
  by_cases h0 : m - k = 0
  · have hmk : m = k := by omega
    subst hmk
    refine wl_val0 (v := .tuple #[]) (w' := w) ?_ (kk w (by rw [List.take_of_length_le (Nat.le_of_eq ho.1)]; exact ho) ⟨rfl, rfl, rfl, Nat.le_refl _, fun _ _ _ => rfl⟩)
    intro d pos aft g
    subst hm'
    rw [Nat.sub_self] at hx
    cases A' <;> simp [execOp, resolve, invoke, builtin, Builtin.clear_, hx, run_underlying ht.und]
  · obtain ⟨g, cur, rfl, hg, hh, h1, h2, h3, h4⟩ := own_some ho (by omega)
    rw [if_neg (by omega)] at hA
    subst hA hm'
    have hzs : ∀ q, (Builtin.zeroCells z.toArray q).toList.length = q * sz := by
      intro q
      simp [Builtin.zeroCells, hzl]
    have hzo : ∀ q, ∀ u ∈ (Builtin.zeroCells z.toArray q).toList, u.oneCell' = true := by
      intro q u hu
      simp only [Builtin.zeroCells, Array.toList_map, List.mem_map] at hu
      obtain ⟨i, _, rfl⟩ := hu
      have hi : i % z.length < z.length := Nat.mod_lt _ (by omega)
      rw [List.size_toArray, getElem!_pos z.toArray (i % z.length) (by simpa using hi)]
      exact hz1 _ (List.getElem_mem _)
    have hkm : k * sz + (m - k) * sz = m * sz := by rw [← Nat.add_mul]; congr 1; omega
    have hmc : m * sz ≤ cp * sz := Nat.mul_le_mul_right _ h1
    have hst := run_storeCells_at P g (k * sz) e (Builtin.zeroCells z.toArray (m - k)).toList 0 cur w hh (by rw [hzs, h3]; omega) (hzo _)
    have hmne : ∃ q, m - k = q + 1 := ⟨m - k - 1, by omega⟩
    refine wl_val0 (v := .tuple #[]) (w' := w.setRow g (cur.toList.take (k * sz) ++ (Builtin.zeroCells z.toArray (m - k)).toList ++ cur.toList.drop (k * sz + (Builtin.zeroCells z.toArray (m - k)).toList.length)).toArray) ?_ (kk _ ?_ ?_)
    · intro d pos aft gg
      obtain ⟨q, hq⟩ := hmne
      rw [hq] at hst hx ⊢
      simp only [Nat.add_zero] at hst
      simp [execOp, resolve, invoke, builtin, Builtin.clear_, hx, run_underlying ht.und, he.zer, Value.cells, Addr.add_lit]
      simp at hst
      rw [hst]
      simp
    · have hlen := ho.1
      refine ⟨by rw [List.length_take, hlen]; have := Nat.mul_le_mul_right sz hk; omega, .inr ⟨g, cp, _, rfl, hg, setRow_heap w g cur _ e _ hh, by omega, h2, ?_, ?_⟩⟩
      · simp only [List.size_toArray, List.length_append, List.length_take, List.length_drop, hzs, Array.length_toList, h3]; omega
      · have h4' : cs.take (k * sz) = cur.toList.take (k * sz) := by
          rw [← h4, List.take_take, Nat.min_eq_left (Nat.mul_le_mul_right _ hk)]
        rw [h4', List.append_assoc, List.take_append_of_le_length (by simp only [List.length_take, Array.length_toList, h3]; omega), List.take_take, Nat.min_self]
    · simpa [blk] using (Wrt.mk' w g _).grown
theorem clrG {α : Type} [F : Flat α] {t e : TypeId} {sz by_ : Nat} {z : List Value} {A A' : Option Addr} {m' cp cp' j : Nat} {L : List α} [TSl P t e sz by_] [TAgg P e sz z] (hsz : sz = F.sz) (hzl : z.length = sz) (hz1 : z.all (·.oneCell') = true) (hm : addOK md = true) (hx : ev n f x = .slice A' m' cp') (hs : Split H (orow e A cp L) R)
    (hA : A' = (if cp = j then A else A.map (·.add (j * sz)))) (hm' : m' = L.length - j) (hj : j ≤ L.length)
    (hk : keeps md (orow e A cp (L.take j) :: R)) (k : SH (nx md) P n ops Q rest f w0 (orow e A cp (L.take j) :: R)) :
    SH md P n ops Q (⟨none, .call { callee := .builtin .clear, args := #[x], argTypes := #[t] }, ty, pos, aft, none⟩ :: rest) f w0 H := by
  subst hsz
  refine s_mut hm fun w hw => wl_clearG hzl (List.all_eq_true.1 hz1) F.pos (hw.own hs) hx hA hm' hj fun w1 ho1 hg => wl_nil ⟨rfl, _, hk, k, hw.row hs hg ?_ (fun k hk => .inl hk)⟩
  have : (L.take j).length = j := by rw [List.length_take]; omega
  rw [encs_take] at ho1
  rw [this]; exact ho1
end
/-- Of a row it is known what one cell holds. -/
def cellp (a : Addr) (v : Value) : HP := .oth fun p => ∀ w lo, Inn p w lo → w.cell? a = some v
section
variable {w w0 : World} {H R G : List HP}
theorem Wd.cellp {a : Addr} {v : Value} (h : Wd w0 H w) (hs : Split H (Go.Fw.cellp a v) R) : w.cell? a = some v := by
  obtain ⟨p, q, hx, _, _, hp, _⟩ := (hs.wd h).open_
  exact hx w _ hp
end
end Go.Fw

/- Comparisons that are decided at once. -/
namespace Go.Fw
open Go.RowKit
section
variable {md : Md} {P : Program} {n : Nat} {Q : HQ} {f : Fr} {w0 : World} {H R : List HP} {ops : Array Oper} {rest : List Oper} {d : Nat} {ty : TypeId} {pos : String} {aft : Array Edge} {x y : Operand} {a b : Int} {K : IntKind} {t1 t2 : TypeId}
theorem lssT (hx : ev n f x = .int K a) (hy : ev n f y = .int K b) (h : a < b) (k : SH (nx md) P n ops Q rest (upd f d (.bool true)) w0 H) : SH md P n ops Q (⟨some d, .binOp .lss t1 x y t2, ty, pos, aft, none⟩ :: rest) f w0 H := lss hx hy (by rw [decide_eq_true h]; exact k)
theorem lssF (hx : ev n f x = .int K a) (hy : ev n f y = .int K b) (h : ¬ (a < b)) (k : SH (nx md) P n ops Q rest (upd f d (.bool false)) w0 H) : SH md P n ops Q (⟨some d, .binOp .lss t1 x y t2, ty, pos, aft, none⟩ :: rest) f w0 H := lss hx hy (by rw [decide_eq_false h]; exact k)
theorem leqT (hx : ev n f x = .int K a) (hy : ev n f y = .int K b) (h : a ≤ b) (k : SH (nx md) P n ops Q rest (upd f d (.bool true)) w0 H) : SH md P n ops Q (⟨some d, .binOp .leq t1 x y t2, ty, pos, aft, none⟩ :: rest) f w0 H := leq hx hy (by rw [decide_eq_true h]; exact k)
theorem leqF (hx : ev n f x = .int K a) (hy : ev n f y = .int K b) (h : ¬ (a ≤ b)) (k : SH (nx md) P n ops Q rest (upd f d (.bool false)) w0 H) : SH md P n ops Q (⟨some d, .binOp .leq t1 x y t2, ty, pos, aft, none⟩ :: rest) f w0 H := leq hx hy (by rw [decide_eq_false h]; exact k)
theorem gtrT (hx : ev n f x = .int K a) (hy : ev n f y = .int K b) (h : b < a) (k : SH (nx md) P n ops Q rest (upd f d (.bool true)) w0 H) : SH md P n ops Q (⟨some d, .binOp .gtr t1 x y t2, ty, pos, aft, none⟩ :: rest) f w0 H := gtr hx hy (by rw [decide_eq_true h]; exact k)
theorem gtrF (hx : ev n f x = .int K a) (hy : ev n f y = .int K b) (h : ¬ (b < a)) (k : SH (nx md) P n ops Q rest (upd f d (.bool false)) w0 H) : SH md P n ops Q (⟨some d, .binOp .gtr t1 x y t2, ty, pos, aft, none⟩ :: rest) f w0 H := gtr hx hy (by rw [decide_eq_false h]; exact k)
theorem geqT (hx : ev n f x = .int K a) (hy : ev n f y = .int K b) (h : b ≤ a) (k : SH (nx md) P n ops Q rest (upd f d (.bool true)) w0 H) : SH md P n ops Q (⟨some d, .binOp .geq t1 x y t2, ty, pos, aft, none⟩ :: rest) f w0 H := geq hx hy (by rw [decide_eq_true h]; exact k)
theorem geqF (hx : ev n f x = .int K a) (hy : ev n f y = .int K b) (h : ¬ (b ≤ a)) (k : SH (nx md) P n ops Q rest (upd f d (.bool false)) w0 H) : SH md P n ops Q (⟨some d, .binOp .geq t1 x y t2, ty, pos, aft, none⟩ :: rest) f w0 H := geq hx hy (by rw [decide_eq_false h]; exact k)
theorem eqlT (hx : ev n f x = .int K a) (hy : ev n f y = .int K b) (h : a = b) (k : SH (nx md) P n ops Q rest (upd f d (.bool true)) w0 H) : SH md P n ops Q (⟨some d, .binOp .eql t1 x y t2, ty, pos, aft, none⟩ :: rest) f w0 H := eql hx hy (by rw [decide_eq_true h]; exact k)
theorem eqlF (hx : ev n f x = .int K a) (hy : ev n f y = .int K b) (h : ¬ (a = b)) (k : SH (nx md) P n ops Q rest (upd f d (.bool false)) w0 H) : SH md P n ops Q (⟨some d, .binOp .eql t1 x y t2, ty, pos, aft, none⟩ :: rest) f w0 H := eql hx hy (by rw [decide_eq_false h]; exact k)
theorem neqT (hx : ev n f x = .int K a) (hy : ev n f y = .int K b) (h : a ≠ b) (k : SH (nx md) P n ops Q rest (upd f d (.bool true)) w0 H) : SH md P n ops Q (⟨some d, .binOp .neq t1 x y t2, ty, pos, aft, none⟩ :: rest) f w0 H := neq hx hy (by rw [decide_eq_true h]; exact k)
theorem neqF (hx : ev n f x = .int K a) (hy : ev n f y = .int K b) (h : a = b) (k : SH (nx md) P n ops Q rest (upd f d (.bool false)) w0 H) : SH md P n ops Q (⟨some d, .binOp .neq t1 x y t2, ty, pos, aft, none⟩ :: rest) f w0 H := neq hx hy (by rw [decide_eq_false (fun e => e h)]; exact k)
theorem bnoT (hx : ev n f x = .bool true) (k : SH (nx md) P n ops Q rest (upd f d (.bool false)) w0 H) : SH md P n ops Q (⟨some d, .unOp .not t1 x, ty, pos, aft, none⟩ :: rest) f w0 H := bnot hx k
theorem bnoF (hx : ev n f x = .bool false) (k : SH (nx md) P n ops Q rest (upd f d (.bool true)) w0 H) : SH md P n ops Q (⟨some d, .unOp .not t1 x, ty, pos, aft, none⟩ :: rest) f w0 H := bnot hx k
end
theorem omD {p : Prop} (h : p := by first | omega | assumption) : p := h
end Go.Fw

/- Ranges over a function: the caller's loop, a round, a call of yield. -/
namespace Go.Fw
open Go.RowKit

/-- A loop's record. -/
def lp (l : Nat) (mk : LoopState → Option Code → Loop) (st : LoopState) (pe : Option Code) : HP := .oth fun p => p = pone l (.loop (mk st pe))
def recOf (n : Nat) (f : Fr) (ps : Array Tmp) (assign body : Code) (fn : FuncId) (D : Nat) (st : LoopState) (pe : Option Code) : Loop :=
  { state := st, pending := pe, fn, tmps := (rep n f).tmps, params := ps, assign, body, defers := D }
theorem one_open {w0 w : World} {R : List HP} {b : Nat} {o : Obj} (h : Wd w0 (.oth (fun p => p = pone b o) :: R) w) : w.heap[b]? = some o ∧ w0.heap.size ≤ b := by
  obtain ⟨p, q, hx, _, _, hp, _⟩ := h.open_
  have hx : p = _ := hx
  subst hx
  exact ⟨(hp b _ (pone_at _ _)).2, (hp b _ (pone_at _ _)).1⟩
/-- The one object of a piece is put in anew. -/
theorem one_put {w0 w : World} {R : List HP} {b : Nat} {o : Obj} (o' : Obj) (h : Wd w0 (.oth (fun p => p = pone b o) :: R) w) : Wd w0 (.oth (fun p => p = pone b o') :: R) (w.putObj b o') := by
  have hb := (one_open h).2
  have hlt : b < w.heap.size := (Array.getElem?_eq_some_iff.1 (one_open h).1).1
  obtain ⟨he, q, ⟨p1, p2, hx, hs, hd, rfl⟩, hp⟩ := h
  have hx : p1 = _ := hx
  subst hx
  have hn : p2 b = none := (hd b).resolve_left (by rw [pone_at]; simp)
  refine ⟨he.trans_put hb o', pjoin (pone b o') p2, ⟨pone b o', p2, rfl, hs, fun k => ?_, rfl⟩, fun k o hk => ?_⟩
  · rcases hd k with h1 | h1
    · refine .inl ?_
      unfold pone at h1 ⊢
      split at h1
      · cases h1
      · rename_i hk; rw [if_neg hk]
    · exact .inr h1
  · unfold pjoin at hk
    by_cases hkb : k = b
    · subst hkb
      rw [pone_at] at hk
      injection hk with hk
      subst hk
      exact ⟨hb, World.putObj_heap_same hlt⟩
    · have : pone b o' k = none := by unfold pone; rw [if_neg hkb]
      rw [this] at hk
      have h2 := (hp.right hd) k o hk
      exact ⟨h2.1, by rw [World.putObj_heap_other hkb]; exact h2.2⟩
theorem one_new {w0 w : World} {H : List HP} (o : Obj) (h : Wd w0 H w) : Wd w0 (.oth (fun p => p = pone w.heap.size o) :: H) (w.alloc o) :=
  h.add (row := none) (World.grownBy_alloc w o none) rfl (X := .oth fun p => p = pone w.heap.size o) rfl fun k o' hk => by
    have := pone_ne (k := k) (by rw [hk]; simp)
    subst this
    rw [pone_at] at hk
    injection hk with hk
    subst hk
    exact ⟨World.alloc_heap_new w _, Nat.le_refl _⟩

/-- The slots of ps are given the values vs. -/
def upds (f : Fr) : List Nat → List Value → Fr
  | t :: ts, v :: vs => upds (upd f t v) ts vs
  | _, _ => f
theorem upds_tmps (n : Nat) : ∀ (ts : List Nat) (vs : List Value) (f : Fr), (ts.zip vs).foldl (fun tmps p => tmps.setIfInBounds p.1 p.2) (rep n f).tmps = (rep n (upds f ts vs)).tmps
  | [], _, _ => by simp [upds]
  | _ :: _, [], _ => by simp [upds]
  | t :: ts, v :: vs, f => by
    rw [List.zip_cons_cons, List.foldl_cons, upds, ← upds_tmps n ts vs (upd f t v)]
    have := congrArg Act.tmps (rep_put n f t v)
    simp only [Act.put] at this
    rw [this]

/-- A call of yield: the round ends, and R holds of what yield gives back. -/
def Yld (P : Program) (l : Nat) (args : List Value) (w : World) (R : Value → World → Prop) : Prop :=
  ∃ fn tmps assign body, (Instr.yield l args.toArray).run P w = .ok (.round l fn tmps assign body) w ∧ ∀ m, RoundIn Fence.wide m P l fn tmps assign body w fun e w' => ∃ v, e = .returned v ∧ R v w'

/-- How a round is left. -/
def roundD (w0 : World) (l : Nat) (mk : LoopState → Option Code → Loop) (R : Value → List HP → Prop) : HQ
  | .normal, _, H => ∃ G, Split H (lp l mk .busy none) G ∧ ∃ H', R (.bool true) H' ∧ Ent (lp l mk .ready none :: G) H'
  | .ret, _, H => ∃ G, Split H (lp l mk .busy none) G ∧ ∃ H', R (.bool false) H' ∧ Ent (lp l mk .done (some .ret) :: G) H'
  | .exit i, _, H => ∃ G, Split H (lp l mk .busy none) G ∧ ∃ H', R (.bool false) H' ∧ Ent (lp l mk .done (some (.exit i)) :: G) H'
  | _, _, _ => False
structure roundH (w0 : World) (l : Nat) (mk : LoopState → Option Code → Loop) (R : Value → List HP → Prop) (e : Exit) (f : Fr) (H : List HP) : Prop where
  out : roundD w0 l mk R e f H
section
variable {P : Program} {n : Nat} {Q : HQ} {f : Fr} {w0 : World} {H G : List HP} {l D : Nat} {mk : LoopState → Option Code → Loop} {R : Value → List HP → Prop} {H' : List HP}
theorem ro_normal (hs : Split H (lp l mk .busy none) G) (h : R (.bool true) H') (he : Ent (lp l mk .ready none :: G) H') : roundH w0 l mk R .normal f H := ⟨G, hs, H', h, he⟩
/-- One round, out of the walks of the assignment and the body. -/
theorem yld_of {f0 : Fr} {ps : List Tmp} {assign body : Code} {fn : FuncId} {args : List Value} (hmk : mk = recOf n f0 ps.toArray assign body fn D) (hlen : args.length = ps.length) (hs : Split H (lp l mk .ready none) G)
    (h : VH P n assign (thenH (fun f' H' => ∃ G', Split H' (lp l mk .ready none) G' ∧ VH P n body (roundH w0 l mk R) f' w0 (lp l mk .busy none :: G')) (fun _ _ _ => False)) ⟨(upds f0 ps args).s, ⟨[], some l⟩⟩ w0 (lp l mk .ready none :: G))
    {w : World} (hw : Wd w0 H w) : Yld P l args w (RP w0 R) := by
  have hw1 := hs.wd hw
  have hl := (one_open hw1).1
  subst hmk
  refine ⟨_, _, _, _, run_yield hl (by simpa [recOf] using hlen), fun m => ?_⟩
  have ht : (({ state := .ready, pending := none, fn, tmps := (rep n f0).tmps, params := ps.toArray, assign, body, defers := D } : Loop).params.zip args.toArray).foldl (fun tmps (x : Nat × Value) => tmps.setIfInBounds x.1 x.2) (rep n f0).tmps = (rep n (upds f0 ps args)).tmps := by
    rw [← upds_tmps n ps args f0]
    simp
  have hrep : ({ tmps := ((recOf n f0 ps.toArray assign body fn D .ready none).params.zip args.toArray).foldl (fun tmps (x : Nat × Value) => tmps.setIfInBounds x.1 x.2) (recOf n f0 ps.toArray assign body fn D .ready none).tmps, defers := [] } : Act) = rep n ⟨(upds f0 ps args).s, ⟨[], some l⟩⟩ := by
    have : (rep n ⟨(upds f0 ps args).s, ⟨[], some l⟩⟩) = { tmps := (rep n (upds f0 ps args)).tmps, defers := [] } := rfl
    rw [this, ← ht]; rfl
  refine roundIn_of_wpIn trivial ?_
  have hW := ((h.out w hw1).out m)
  refine Eq.mpr (congrArg (fun a => Code.wpIn _ _ _ _ _ a _) hrep) (wpIn_mono hW fun e a w1 ⟨he, f', ha, hr, H', ⟨hq⟩, hw2⟩ => ?_)
  subst ha
  cases e with
  | normal =>
    obtain ⟨G', hs', hb⟩ := hq
    have hw3 := hs'.wd hw2
    have hl3 := (one_open hw3).1
    refine ⟨_, run_beginRound hl3 rfl, ?_⟩
    have hw4 : Wd w0 (lp l (recOf n f0 ps.toArray assign body fn D) .busy none :: G') (w1.putObj l (.loop (recOf n f0 ps.toArray assign body fn D .busy none))) := one_put _ hw3
    have hB := (hb.out _ hw4).out m
    rw [show f'.c.ro = some l from hr] at hB
    refine wpIn_mono hB fun e a w5 ⟨he5, f5, ha5, hr5, H5, ⟨hq5⟩, hw5⟩ => ?_
    have fin : ∀ (jump : Option Code) (v : Bool) (st : LoopState), v = jump.isNone → st = (if jump.isNone then LoopState.ready else LoopState.done) →
        (∃ G, Split H5 (lp l (recOf n f0 ps.toArray assign body fn D) .busy none) G ∧ ∃ H', R (.bool v) H' ∧ Ent (lp l (recOf n f0 ps.toArray assign body fn D) st jump :: G) H') →
        ∃ v w', (Instr.endRound l jump).run P w5 = .ok v w' ∧ ∃ u, Ending.returned v = .returned u ∧ RP w0 R u w' := by
      rintro jump v st rfl rfl ⟨G, hsG, H', hR, hE⟩
      have hw6 := hsG.wd hw5
      have hl6 := (one_open hw6).1
      refine ⟨_, _, run_endRound jump hl6, _, rfl, H', hR, hE.wd ?_⟩
      exact one_put _ hw6
    cases e with
    | normal => exact fin none true .ready rfl rfl hq5
    | ret => exact fin (some .ret) false .done rfl rfl hq5
    | exit i => exact fin (some (.exit i)) false .done rfl rfl hq5
    | goto _ => exact hq5.elim
    | panic _ => exact hq5.elim
    | outgrown => exact (he5 rfl).elim
  | outgrown => exact (he rfl).elim
  | _ => exact hq.elim
/-- The loop 'for .. := range g': the function that is ranged over is called with yield; what it leaves. -/
theorem v_range {g : Operand} {ps : Array Tmp} {assign body : Code} {gf : FuncId} {lb : List Value} (hg : ev n f g = .func (.func gf) #[] lb.toArray) (hro : f.c.ro = none)
    (h : ∀ fn l D mk, mk = recOf n f ps assign body fn D → ∀ w, Wd w0 (lp l mk .ready none :: dfr D :: H) w → Ret P gf (.func (.yield l) #[] #[] :: lb).toArray w (RP w0 fun _ H' => ∃ st pe G, Split H' (lp l mk st pe) G ∧ st ≠ .busy ∧
      match pe with
      | none => Q .normal ⟨f.s, ⟨markD D :: f.c.ds, none⟩⟩ G
      | some c => VH P n c Q ⟨f.s, ⟨markD D :: f.c.ds, none⟩⟩ w0 G)) : VH P n (.rangeFunc g ps assign body) Q f w0 H := ⟨fun w hw => ⟨fun m => by
  rw [hro]
  refine wpIn_rangeFunc ?_
  intro fn _
  have hw1 : Wd w0 (lp (w.heap.size + 1) (recOf n f ps assign body fn w.heap.size) .ready none :: dfr w.heap.size :: H) ((w.alloc (.deferred (some []))).alloc (.loop (recOf n f ps assign body fn w.heap.size .ready none))) := by
    have h1 := one_new (.loop (recOf n f ps assign body fn w.heap.size .ready none)) (one_new (.deferred (some [])) hw)
    rw [World.size_alloc] at h1
    exact h1
  have hR := h fn (w.heap.size + 1) w.heap.size _ rfl _ hw1
  obtain ⟨hB, hC⟩ := hR
  have hE := run_enterLoop_outer (P := P) (w := w) fn (rep n f).tmps ps assign body
  obtain ⟨W1, hW1⟩ : ∃ W1, (w.alloc (.deferred (some []))).alloc (.loop { state := .ready, pending := none, fn, tmps := (rep n f).tmps, params := ps, assign, body, defers := w.heap.size }) = W1 := ⟨_, rfl⟩
  have hC : Calls P gf (Value.func (.yield (w.heap.size + 1)) #[] #[] :: lb).toArray W1 _ := hW1 ▸ hC
  rw [hW1] at hE
  refine ⟨w.heap.size + 1, [{ target := .collected w.heap.size, args := #[] }], W1, { target := .fn (.func gf) lb.toArray, args := #[.func (.yield (w.heap.size + 1)) #[] #[]] }, W1, gf,
    #[.func (.yield (w.heap.size + 1)) #[] #[]] ++ lb.toArray, W1, hE, ?_, fun _ _ => trivial, ?_, fun e => by simp [fen, Fence.wide] at e, ?_⟩
  · simp only [resolve, rep_eval, hg]
    simp [go_sem]; rfl
  · simp only [invoke]
    exact run_callFunc hB
  · have hargs : #[.func (.yield (w.heap.size + 1)) #[] #[]] ++ lb.toArray = (Value.func (.yield (w.heap.size + 1)) #[] #[] :: lb).toArray := by simp
    rw [hargs]
    refine (callsIn_fen hC).mono fun e w3 ⟨v, he, H', ⟨st, pe, G, hs, hst, hk⟩, hw3⟩ => ?_
    subst he
    have hw4 := hs.wd hw3
    have hl4 := (one_open hw4).1
    refine ⟨pe, _, run_endLoop hl4 hst, ?_⟩
    have hw5 : Wd w0 G (w3.putObj (w.heap.size + 1) (.loop { recOf n f ps assign body fn w.heap.size st pe with state := .exhausted })) := (Ent.wd (ent_drop (ent_refl G)) (one_put _ hw4))
    cases pe with
    | none => exact ⟨Exit.noConfusion, _, rfl, rfl, G, hk, hw5⟩
    | some c => exact (hk.out _ hw5).out m⟩⟩
end
section
variable {P : Program} {n : Nat} {Q : HQ} {f : Fr} {w0 : World} {H : List HP} {ops : Array Oper} {rest : List Oper} {d : Nat} {ty : TypeId} {pos : String} {aft : Array Edge} {callee : Operand} {xs : List Operand} {at_ : Array TypeId} {l : Nat} {vs : List Value} {R : Value → List HP → Prop}
/-- yield is called. -/
theorem cy (h : ∀ w, Wd w0 H w → Yld P l vs w (RP w0 R)) (hc : ev n f callee = .func (.yield l) #[] #[]) (hv : xs.map (ev n f) = vs)
    (k : ∀ v H', R v H' → SH .seq P n ops Q rest (upd f d v) w0 H') : SH .seq P n ops Q (⟨some d, .call { callee := .value callee, args := xs.toArray, argTypes := at_ }, ty, pos, aft, none⟩ :: rest) f w0 H := ⟨fun hd w hw => ⟨fun m => by
  obtain ⟨fn, tmps, assign, body, hy, hr⟩ := h w hw
  unfold wpListIn
  rw [if_pos wanted_free]
  refine ⟨fun _ _ => trivial, ?_⟩
  rw [Oper.semAt_eq _ _ _ (fun c e => by cases e), rep_eval]
  have hrun : (execOp (ev n f) ⟨some d, .call { callee := .value callee, args := xs.toArray, argTypes := at_ }, ty, pos, aft, none⟩).run P w = .ok (.round l fn tmps assign body) w := by
    simp only [execOp, resolve, hc, Deferred.ofValue, invoke, Sem.run_bind, Sem.run_pure, Result.andThen_ok]
    have : (#[] ++ xs.toArray.map (ev n f) : Array Value) = vs.toArray := by rw [← hv]; simp
    rw [this]
    exact hy
  rw [hrun]
  refine ⟨fun e => by simp [fen, Fence.wide] at e, ?_⟩
  refine RoundIn.mono (hr (m - 1)) fun e w' ⟨v, he, H', hR, hw'⟩ => ?_
  subst he
  show wpListIn _ _ _ _ _ _ _ _
  rw [rep_put]
  exact ((k v H' hR).out (noDef_tail hd) w' hw').out m⟩⟩
end
theorem sat_comm : ∀ {A B : List HP} {p : Part}, Sat (A ++ B) p → ∃ q r, Sat A q ∧ Sat B r ∧ Dis q r ∧ ∀ k o, pjoin q r k = some o → p k = some o
  | [], B, p, h => ⟨pnil, p, trivial, h, fun _ => .inl rfl, fun k o hk => by simpa [pjoin, pnil] using hk⟩
  | X :: A, B, p, ⟨p1, p2, hx, hs, hd, hp⟩ => by
    subst hp
    obtain ⟨q, r, hq, hr, hqr, hk⟩ := sat_comm hs
    have hd2 : ∀ k, p1 k = none ∨ (q k = none ∧ r k = none) := fun k => by
      rcases hd k with h | h
      · exact .inl h
      · refine .inr ?_
        cases hj : pjoin q r k with
        | none => exact pjoin_none.1 hj
        | some o => rw [hk k o hj] at h; cases h
    refine ⟨pjoin p1 q, r, ⟨p1, q, hx, hq, fun k => (hd2 k).imp id And.left, rfl⟩, hr, fun k => ?_, fun k o ho => ?_⟩
    · rcases hd2 k with h | h
      · rcases hqr k with h' | h'
        · exact .inl (pjoin_none.2 ⟨h, h'⟩)
        · exact .inr h'
      · exact .inr h.2
    · unfold pjoin at ho ⊢
      cases h1 : p1 k with
      | some o' => rw [h1] at ho; exact ho
      | none =>
        rw [h1] at ho
        exact hk k o (by unfold pjoin; exact ho)
/-- Two parts of the list change places. -/
theorem ent_swap (A B : List HP) : Ent (A ++ B) (B ++ A) := ⟨fun p hp => by
  obtain ⟨q, r, hq, hr, hqr, hk⟩ := sat_comm hp
  obtain ⟨s, hs, hsk⟩ := sat_append hr hq (fun k => (hqr k).symm)
  refine ⟨s, hs, fun k o ho => hk k o ?_⟩
  unfold pjoin
  rcases hsk k o ho with h | h
  · rcases hqr k with h' | h'
    · rw [h']; exact h
    · rw [h'] at h; cases h
  · rw [h]⟩
section
variable {md : Md} {P : Program} {n : Nat} {Q : HQ} {f : Fr} {w0 : World} {H R : List HP} {ops : Array Oper} {rest : List Oper} {d : Nat} {ty : TypeId} {pos : String} {aft : Array Edge} {x y : Operand}
/-- A slice that has elements has an address. -/
theorem v_some {α : Type} [F : Flat α] {c : Code} {A : Option Addr} {cp : Nat} {e : TypeId} {l : List α} (hs : Split H (orow e A cp l) R) (hl : 0 < l.length) (k : A = some (adr A) → VH P n c Q f w0 H) : VH P n c Q f w0 H := ⟨fun w hw => by
  refine (k ?_).out w hw
  obtain ⟨g, cur, rfl, _⟩ := own_some (hw.own hs) hl
  rfl⟩
theorem ixq {t e : TypeId} {sz by_ : Nat} {A : Option Addr} {m cp : Nat} {K : IntKind} {i : Int} [TSl P t e sz by_] (hx : ev n f x = .slice A m cp) (hy : ev n f y = .int K i) (hA : A = some (adr A)) (h0 : 0 ≤ i) (h1 : i < m)
    (k : SH (nx md) P n ops Q rest (upd f d (.pointer (some ((adr A).add (i.toNat * sz))))) w0 H) : SH md P n ops Q (⟨some d, .indexAddr t x y, ty, pos, aft, none⟩ :: rest) f w0 H :=
  s_val (fun w hw => by rw [hA] at hx; exact ox_index hx hy h0 h1) k
end
end Go.Fw


/- The basic types of a seat's program, as the rules ask for them. -/
namespace Go.Proofs.Ytplhnnlklnbahaa
open Go.Fw Go.RowKit
theorem hmix : Try.prog.follows .mixedOrders = true := by kernel_rfl
theorem tel_of {P : Program} {e : TypeId} {sz by_ : Nat} {z : Value} (h : (P.info? e).map (fun i => (i.size, i.bytes, i.zero)) = some (sz, by_, some z)) (hz : z.cells.size = sz) (hp : 0 < sz) : TEl P e sz by_ := by
  refine ⟨?_, hp⟩
  cases hi : P.info? e with
  | none => rw [hi] at h; simp at h
  | some i =>
    rw [hi] at h
    simp only [Option.map_some, Option.some.injEq, Prod.mk.injEq] at h
    exact ⟨i, z, rfl, h.1, h.2.1, h.2.2, hz⟩
instance : TSl Try.prog 29 3 1 8 := ⟨by kernel_rfl, by kernel_rfl⟩
instance : TSl Try.prog 62 5 1 1 := ⟨by kernel_rfl, by kernel_rfl⟩
instance : TEl Try.prog 3 1 8 := tel_of (z := .int .i64 0) (by kernel_rfl) rfl (by omega)
instance : TEl Try.prog 29 1 24 := tel_of (z := .slice none 0 0) (by kernel_rfl) rfl (by omega)
instance : TOne Try.prog 3 (.int .i64 0) := ⟨fun w => by kernel_rfl, fun w => by kernel_rfl, fun w => by kernel_rfl, rfl⟩
instance : TOne Try.prog 29 (.slice none 0 0) := ⟨fun w => by kernel_rfl, fun w => by kernel_rfl, fun w => by kernel_rfl, rfl⟩
instance : TOne Try.prog 5 (.int .u8 0) := ⟨fun w => by kernel_rfl, fun w => by kernel_rfl, fun w => by kernel_rfl, rfl⟩
instance : TInt Try.prog 3 .i64 := ⟨by kernel_rfl⟩
instance : TInt Try.prog 118 .u64 := ⟨by kernel_rfl⟩
instance : TInt Try.prog 5 .u8 := ⟨by kernel_rfl⟩
theorem tst_of {P : Program} {t : TypeId} {sz : Nat} {zs : List Value} {fs : Array Field} (hu : P.underlying t = some (.struct fs)) (hm : ∀ w, (fs.mapM fun (f : Field) => do pure (f.offset, ← sizeOf f.type)).run P w = .ok ((List.range sz).map fun i => (i, 1)).toArray w)
    (hz : ∀ w, (zeroValue t).run P w = .ok (.agg zs.toArray) w) (hl : zs.length = sz) : TSt P t sz zs := ⟨⟨fs, hu, hm⟩, hz, hl⟩
instance : TBool Try.prog 4 := ⟨by kernel_rfl⟩
instance : TInt Try.prog 147 .u32 := ⟨by kernel_rfl⟩
instance : TInt Try.prog 21 .i32 := ⟨by kernel_rfl⟩
instance : TInt Try.prog 32 .i64 := ⟨by kernel_rfl⟩
instance : TOne Try.prog 32 (.int .i64 0) := ⟨fun w => by kernel_rfl, fun w => by kernel_rfl, fun w => by kernel_rfl, rfl⟩
instance : TOne Try.prog 147 (.int .u32 0) := ⟨fun w => by kernel_rfl, fun w => by kernel_rfl, fun w => by kernel_rfl, rfl⟩
instance : TOne Try.prog 4 (.bool false) := ⟨fun w => by kernel_rfl, fun w => by kernel_rfl, fun w => by kernel_rfl, rfl⟩
theorem tfld_of {P : Program} {s : TypeId} {k off : Nat} {fs : Array Field} {fd : Field} (c : Nat) (hu : P.underlying s = some (.struct fs)) (hf : fs[k]? = some fd) (ho : fd.offset = off) (hs : ∀ w, (sizeOf fd.type).run P w = .ok (c + 1) w) : TFld P s k off :=
  ⟨fun a w => by simp [Instr.fieldAt, run_underlying hu, hf, ho, Instr.sureAddr, fieldPlace, hs]⟩
theorem tflv_of {P : Program} {s : TypeId} {k off : Nat} {fs : Array Field} {fd : Field} (hu : P.underlying s = some (.struct fs)) (hf : fs[k]? = some fd) (ho : fd.offset = off) (hs : ∀ w, (isAgg fd.type).run P w = .ok false w) : TFlv P s k off :=
  ⟨fun cs v w hv => by simp [Instr.field, run_underlying hu, hf, ho, asAgg, part, hs, hv]⟩
end Go.Proofs.Ytplhnnlklnbahaa

/- Worlds: components, entities, and where they lie in memory; pieces of which something is known. -/
namespace Go.Fw
open Go.RowKit
/-- A piece of which it is known what follows of it. -/
def kno (Φ : World → Prop) : HP := .oth fun p => ∀ w lo, Inn p w lo → Φ w
section
variable {Φ Ψ : World → Prop} {w0 w : World} {H R G : List HP}
theorem Wd.kn (h : Wd w0 H w) (hs : Split H (kno Φ) R) : Φ w := by
  obtain ⟨p, q, hx, _, _, hp, _⟩ := (hs.wd h).open_
  exact hx w _ hp
theorem ent_kno_row {α : Type} [Flat α] {e : TypeId} {A : Option Addr} {cp : Nat} {l : List α} (h : Split H (orow e A cp l) R) (hg : Ent R G) : Ent H (kno (fun w => Rd w A l) :: G) := (ent_cons h hg).trans (ent_imp fun _ hp => (den_row_rd hp).2)
theorem ent_kno_imp (hi : ∀ w, Φ w → Ψ w) (h : Split H (kno Φ) R) (hg : Ent R G) : Ent H (kno Ψ :: G) := (ent_cons h hg).trans (ent_imp fun _ hp w lo hw => hi w (hp w lo hw))
theorem ent_kno_and : Ent (kno Φ :: kno Ψ :: R) (kno (fun w => Φ w ∧ Ψ w) :: R) := ent_join fun p q hp hq hd w lo hi => ⟨hp w lo hi.left, hq w lo (hi.right hd)⟩
theorem ent_kno_nil (hi : ∀ w, Φ w) (hg : Ent H G) : Ent H (kno Φ :: G) := ⟨fun p hp => by
  obtain ⟨q, hq, hk⟩ := hg.out p hp
  exact ⟨pjoin pnil q, ⟨pnil, q, fun w _ _ => hi w, hq, fun _ => .inl rfl, rfl⟩, fun k o ho => hk k o ho⟩⟩
theorem ent_kno_map {ι : Type} {f : ι → HP} {φ : ι → World → Prop} (hf : ∀ x G, Ent (f x :: G) (kno (φ x) :: G)) : ∀ L : List ι, Ent (L.map f ++ R) (kno (fun w => ∀ x ∈ L, φ x w) :: R)
  | [] => ent_kno_nil (fun _ _ h => by simp at h) (ent_refl _)
  | x :: L => ((ent_cons Split.head (ent_kno_map hf L)).trans (hf x _)).trans (ent_kno_and.trans (ent_kno_imp (fun w h y hy => by
      rcases List.mem_cons.1 hy with rfl | hy
      · exact h.1
      · exact h.2 y hy) Split.head (ent_refl _)))
end
/-- A component. -/
structure Comp where
  kind : Int
  a : Int
  b : Int
  c : Int
  d : Int
  deriving DecidableEq
instance : Flat Comp := ⟨5, fun x => [.int .u8 x.kind, .int .i64 x.a, .int .i64 x.b, .int .i64 x.c, .int .i64 x.d], ⟨0, 0, 0, 0, 0⟩, fun _ => rfl, fun x v hv => by
  simp at hv; rcases hv with rfl | rfl | rfl | rfl | rfl <;> rfl, by omega⟩
/-- An entity. -/
structure Ent1 where
  id : Int
  comps : List Comp
  deriving DecidableEq
/-- An entity, whose components lie at A. -/
structure EntP where
  e : Ent1
  A : Option Addr
  cp : Nat
instance : Flat EntP := ⟨2, fun x => [.int .i64 x.e.id, .slice x.A x.e.comps.length x.cp], ⟨⟨0, []⟩, none, 0⟩, fun _ => rfl, fun x v hv => by
  simp at hv; rcases hv with rfl | rfl <;> rfl, by omega⟩
/-- The entities at A, with their components. -/
def RdW (w : World) (A : Option Addr) (l : List EntP) : Prop := Rd w A l ∧ ∀ x ∈ l, Rd w x.A x.e.comps
theorem RdW.ext {w w' : World} {A : Option Addr} {l : List EntP} (h : RdW w A l) (he : Ext w w') : RdW w' A l := ⟨h.1.ext he, fun x hx => (h.2 x hx).ext he⟩
theorem RdW.at {w : World} {A : Option Addr} {l : List EntP} (h : RdW w A l) {k : Nat} (hk : k < l.length) : Rd w (l.getD k Flat.dflt).A (l.getD k Flat.dflt).e.comps := h.2 _ (getD_mem hk)
section
variable {w0 w : World} {H R G : List HP} {A : Option Addr} {l : List EntP}
end
end Go.Fw

/- Many pieces as one. -/
namespace Go.Fw
open Go.RowKit
/-- The pieces X, side by side, as one piece. -/
def allH (X : List HP) : HP := .oth fun p => Sat X p
section
variable {w0 w : World} {H R G X Y : List HP}
theorem ent_all_in : ∀ (X : List HP) {G : List HP}, Ent (X ++ G) (allH X :: G)
  | [], G => ⟨fun p hp => ⟨p, ⟨pnil, p, trivial, hp, fun _ => .inl rfl, by funext k; rfl⟩, fun _ _ h => h⟩⟩
  | a :: X, G => ⟨fun p ⟨p1, p2, ha, hs, hd, hp⟩ => by
    subst hp
    obtain ⟨q, ⟨q1, q2, h1, h2, hd', hq⟩, hk⟩ := (ent_all_in X (G := G)).out p2 hs
    subst hq
    have hdd : Dis p1 (pjoin q1 q2) := fun k => by
      rcases hd k with h | h
      · exact .inl h
      · refine .inr ?_
        cases hv : pjoin q1 q2 k with
        | none => rfl
        | some o => rw [hk k o hv] at h; cases h
    refine ⟨pjoin (pjoin p1 q1) q2, ⟨pjoin p1 q1, q2, ⟨p1, q1, ha, h1, fun k => ?_, rfl⟩, h2, fun k => ?_, rfl⟩, fun k o ho => ?_⟩
    · rcases hdd k with h | h
      · exact .inl h
      · exact .inr (pjoin_none.1 h).1
    · rcases hd' k with h | h
      · rcases hdd k with h' | h'
        · exact .inl (pjoin_none.2 ⟨h', h⟩)
        · exact .inr (pjoin_none.1 h').2
      · exact .inr h
    · unfold pjoin at ho ⊢
      cases h1' : p1 k with
      | some o' => rw [h1'] at ho; exact ho
      | none =>
        rw [h1'] at ho
        exact hk k o (by unfold pjoin; exact ho)⟩
theorem ent_all_out (X : List HP) {G : List HP} : Ent (allH X :: G) (X ++ G) := ⟨fun p ⟨p1, p2, hx, hs, hd, hp⟩ => by
  subst hp
  obtain ⟨r, hr, hk⟩ := sat_append hx hs hd
  refine ⟨r, hr, fun k o ho => ?_⟩
  unfold pjoin
  rcases hk k o ho with h | h
  · rw [h]
  · rcases hd k with h' | h'
    · rw [h']; exact h
    · rw [h'] at h; cases h⟩
theorem ent_all_cons {a : HP} : Ent (a :: allH X :: G) (allH (a :: X) :: G) := (ent_cons Split.head (ent_all_out X)).trans (ent_all_in (a :: X))
theorem ent_all_nil (h : Ent H G) : Ent H (allH [] :: G) := h.trans (ent_all_in [])
theorem ent_all_imp (h : Ent X Y) : Ent (allH X :: G) (allH Y :: G) := ⟨fun p ⟨p1, p2, hx, hs, hd, hp⟩ => by
  subst hp
  obtain ⟨q, hq, hk⟩ := h.out p1 hx
  refine ⟨pjoin q p2, ⟨q, p2, hq, hs, fun k => ?_, rfl⟩, fun k o ho => ?_⟩
  · cases hqk : q k with
    | none => exact .inl rfl
    | some o =>
      refine .inr ?_
      rcases hd k with h' | h'
      · rw [hk k o hqk] at h'; cases h'
      · exact h'
  · unfold pjoin at ho ⊢
    cases hqk : q k with
    | some o' => rw [hqk] at ho; injection ho with ho; subst ho; rw [hk k o' hqk]
    | none =>
      rw [hqk] at ho
      rcases hd k with h' | h'
      · rw [h']; exact ho
      · rw [h'] at ho; cases ho⟩
theorem ent_snoc {ι : Type} (f : ι → HP) (x : ι) : ∀ L : List ι, Ent (f x :: L.map f) ((L ++ [x]).map f)
  | [] => ent_refl _
  | y :: L => (ent_cons (Split.tail Split.head) (ent_snoc f x L) : Ent (f x :: f y :: L.map f) (f y :: (L ++ [x]).map f))
theorem ent_all_snoc {ι : Type} {f : ι → HP} {x : ι} {L : List ι} : Ent (f x :: allH (L.map f) :: G) (allH ((L ++ [x]).map f) :: G) := ent_all_cons.trans (ent_all_imp (ent_snoc f x L))
end
end Go.Fw

/- One row out of many, and back. -/
namespace Go.Fw
open Go.RowKit
section
variable {ι : Type} {d : ι} {f : ι → HP} {L : List ι} {k : Nat} {H G : List HP}
theorem ent_all_open (h : k < L.length) : Ent (allH (L.map f) :: G) (f (L.getD k d) :: allH ((L.eraseIdx k).map f) :: G) :=
  (ent_all_out _).trans ((ent_map_open h).trans (ent_cons Split.head (ent_all_in _)))
theorem ent_all_close {x : ι} (h : k < L.length) : Ent (f x :: allH ((L.eraseIdx k).map f) :: G) (allH ((L.set k x).map f) :: G) :=
  (ent_cons Split.head (ent_all_out _)).trans ((ent_map_close h).trans (ent_all_in _))
theorem ent_all_back (h : k < L.length) : Ent (f (L.getD k d) :: allH ((L.eraseIdx k).map f) :: G) (allH (L.map f) :: G) :=
  (ent_cons Split.head (ent_all_out _)).trans ((ent_map_back h).trans (ent_all_in _))
end
end Go.Fw

/- Maps from numbers to numbers. -/
namespace Go.Fw
open Go.RowKit
/-- The entries es are l. -/
def Mat (es : List MapEntry) (l : List (Int × Int)) : Prop := es.map (fun e => (e.key, e.val)) = l.map fun x => (Value.int .i64 x.1, Value.int .i64 x.2)
theorem Mat.len {es : List MapEntry} {l : List (Int × Int)} (h : Mat es l) : es.length = l.length := by simpa using congrArg List.length h
/-- t is map[int]int. -/
class TMap (P : Program) (t : TypeId) : Prop where
  und : ∃ kt et, P.underlying t = some (.map kt et) ∧ P.underlying kt = some (.int .i64) ∧ ∀ w, (zeroValue et).run P w = .ok (.int .i64 0) w
section
variable {P : Program} {w : World} {r : Nat} {es : Array MapEntry} {c : Nat}
end
section
variable {md : Md} {P : Program} {n : Nat} {Q : HQ} {f : Fr} {w0 : World} {H R : List HP} {ops : Array Oper} {rest : List Oper} {d : Nat} {op : Op} {ty : TypeId} {pos : String} {aft : Array Edge} {v : Value} {x y z : Operand}
end
end Go.Fw

