/- One rule a kind of operation, for the three kinds of regions: in the text's order; any order, all operations only reading; any order, some operations making memory. -/
import Derived.Test.YtehjdbgijibmcaaVv
set_option linter.unusedSimpArgs false
set_option linter.unusedVariables false
namespace Go.Fw
open Go.RowKit

def postK (K : Fr → World → Prop) : Exit → Fr → World → Prop := fun e f w => e = .normal ∧ K f w
theorem opwp_any {P : Program} {o : Oper} {a : Act} {w : World} {K K' : Act → World → Prop} {Q1 Q2 : Exit → Act → World → Prop} (hp : ∀ c a w, ¬ Q1 (.panic c) a w) (hl : ¬ LetsOut Q1) (h : ∀ a w, K a w → K' a w)
    (hh : o.wp P a w K Q1) : o.wp P a w K' Q2 := by
  unfold Oper.wp at *
  generalize (execOp a.eval o).run P w = r at *
  cases r with
  | ok n w' =>
    cases n <;> simp only [Oper.upon] at hh ⊢ <;>
      first
        | exact h _ _ hh
        | exact Calls.mono hh (fun e w'' he => by cases e <;> first | exact h _ _ he | exact (hp _ _ _ he).elim | exact (hl he).elim)
        | exact Rows.mono hh (fun _ _ he => h _ _ he)
  | halt x w' => cases x <;> simp only [Oper.upon] at hh ⊢ <;> exact (hp _ _ _ hh).elim
section
variable {P : Program} {n : Nat} {f : Fr} {w : World} {ops : Array Oper} {rest : List Oper} {o : Oper} {K : Fr → World → Prop} {Q : Exit → Fr → World → Prop}
theorem postK_panic {ro : Option Nat} (c : _) (a : Act) (w : World) : ¬ lift n ro (postK K) (.panic c) a w := fun ⟨_, _, _, _, h, _⟩ => by cases h
theorem op1_seq (h : WL P n ops (postK K) [o] f w) (k : ∀ f w, K f w → WL P n ops Q rest f w) : WL P n ops Q (o :: rest) f w := by
  constructor
  have h := h.out
  unfold wpList at *
  split
  · rename_i hw
    rw [if_pos hw] at h
    rcases h with h | ⟨_, h⟩
    · exact .inl (opwp_any postK_panic lift_out (fun a w ⟨_, f', ha, hr, _, hK⟩ => by subst ha; have := (k _ _ hK).out; rw [hr] at this; exact this) h)
    · exact (lift_out h).elim
  · rename_i hw
    rw [if_neg hw] at h
    obtain ⟨_, f', ha, hr, _, hK⟩ := h
    rw [ha]
    have := (k _ _ hK).out
    rw [hr] at this
    exact this
/-- A region in the text's order, in whatever round. -/
structure WI (P : Program) (n : Nat) (ops : Array Oper) (Q : Exit → Fr → World → Prop) (l : List Oper) (f : Fr) (w : World) : Prop where
  out : ∀ m, wpListIn (fen f.c.ro) m P ops (lift n f.c.ro Q) l (rep n f) w
theorem wi_nil (h : Q .normal f w) : WI P n ops Q [] f w := ⟨fun _ => lift_n rfl h⟩
theorem wi_region {id : Nat} {l : List Oper} (h : WI P n l.toArray Q l f w) : W P n (.region id l.toArray false) Q f w := ⟨fun m => wpIn_region_lit (h.out m)⟩
theorem wi_free {od : Option Nat} {op : Op} {ty : TypeId} {pos : String} {aft : Array Edge} {g : Option (Nat × Bool)} (hw : Region.wanted ⟨od, op, ty, pos, aft, g⟩ (yielded ops (rep n f).tmps) = true) (h : WI P n ops Q (⟨od, op, ty, pos, aft, none⟩ :: rest) f w) : WI P n ops Q (⟨od, op, ty, pos, aft, g⟩ :: rest) f w := ⟨fun m => by
  have h := h.out m
  unfold wpListIn at *
  rw [if_pos wanted_free] at h
  rw [if_pos hw]
  exact h⟩
theorem wi_off {d : Nat} {op : Op} {ty : TypeId} {pos : String} {aft : Array Edge} {g : Option (Nat × Bool)} (hw : Region.wanted ⟨some d, op, ty, pos, aft, g⟩ (yielded ops (rep n f).tmps) = false) (h : WI P n ops Q rest (upd f d undef) w) : WI P n ops Q (⟨some d, op, ty, pos, aft, g⟩ :: rest) f w := ⟨fun m => by
  unfold wpListIn
  rw [if_neg (by rw [hw]; simp)]
  refine ⟨fun _ _ => trivial, ?_⟩
  rw [rep_put]; exact h.out m⟩
theorem op1_in (hd : noDef (o :: rest) = true) (h : WL P n ops (postK K) [o] f w) (k : ∀ f w, K f w → WI P n ops Q rest f w) : WI P n ops Q (o :: rest) f w := ⟨fun m => by
  have h := h.out
  have ho := noDef_spec hd (List.mem_cons_self (a := o) (l := rest))
  unfold wpList at h
  unfold wpListIn
  split
  · rename_i hw
    rw [if_pos hw] at h
    rcases h with h | ⟨_, h⟩
    · exact op_in ho _ m (fun a w h => h) (opwp_any (K' := fun a w => wpListIn (fen f.c.ro) m P ops (lift n f.c.ro Q) rest a w) postK_panic lift_out (fun a w ⟨_, f', ha, hr, _, hK⟩ => by subst ha; have := (k _ _ hK).out m; rw [hr] at this; exact this) h)
    · exact (lift_out h).elim
  · rename_i hw
    rw [if_neg hw] at h
    obtain ⟨_, f', ha, hr, _, hK⟩ := h
    refine ⟨fun _ _ => trivial, ?_⟩
    rw [ha]
    have := (k _ _ hK).out m
    rw [hr] at this
    exact this⟩
theorem noDef_tail (h : noDef (o :: rest) = true) : noDef rest = true := by unfold noDef at *; rw [List.all_cons, Bool.and_eq_true] at h; exact h.2
theorem op1_any {i : Nat} {Q' : Exit → Act → World → Prop} {K' : Act → World → Prop} (hi : ops[i]? = some o) (h : WL P n ops (postK K) [o] f w) (k : ∀ f' w, f'.c.ro = f.c.ro → K f' w → K' (rep n f') w) : wpOp P ops Q' i K' (rep n f) w := by
  have h := h.out
  unfold wpList at h
  unfold wpOp
  simp only [hi]
  split
  · rename_i hw
    rw [if_pos hw] at h
    rcases h with h | ⟨_, h⟩
    · exact .inl (opwp_any postK_panic lift_out (fun a w ⟨_, f', ha, hr, _, hK⟩ => by subst ha; exact k _ _ hr hK) h)
    · exact (lift_out h).elim
  · rename_i hw
    rw [if_neg hw] at h
    obtain ⟨_, f', ha, hr, _, hK⟩ := h
    rw [ha]
    exact k _ _ hr hK
end

/-! the kinds of regions -/
/-- The order in which the operations are taken: 'true': taken ahead of others, for it only reads; 'false': no other can come up; a fork: two may come up. -/
inductive Tr where
  | nil
  | op (i : Nat) (b : Bool) (t : Tr)
  | fork (i : Nat) (t1 : Tr) (j : Nat) (t2 : Tr)
def Tr.len : Tr → Nat
  | .nil => 0
  | .op _ _ t => t.len + 1
  | .fork _ t1 _ _ => t1.len + 1
inductive Md where
  | seq
  | quiet
  | held (HS : List HP) (t : Tr) (L : List Bool)
  | pick (HS : List HP) (i : Nat) (t : Tr) (L : List Bool)
def okT (ops : Array Oper) : List Bool → Tr → Bool
  | L, .nil => (Region.ready .any ops L.toArray).isEmpty
  | L, .op i true t => decide (i < ops.size) && (Region.free .any ops L.toArray i && ((Region.ready .any ops L.toArray).contains i && okT ops (L.set i true) t))
  | L, .op i false t => decide (i < ops.size) && ((Region.ready .any ops L.toArray == [i]) && okT ops (L.set i true) t)
  | L, .fork i t1 j t2 => decide (i < ops.size) && (decide (j < ops.size) && ((Region.ready .any ops L.toArray == [i, j]) && (Nat.beq t1.len t2.len && (okT ops (L.set i true) t1 && okT ops (L.set j true) t2))))
def noOper : Oper := ⟨none, .call { callee := .builtin .clear, args := #[], argTypes := #[] }, 0, "", #[], none⟩
def picks (l : List Oper) : Tr → List Oper
  | .nil => []
  | .op i _ t => (l[i]?).getD default :: picks l t
  | .fork _ _ _ _ => [noOper]
def tr : List (Nat × Bool) → Tr → Tr
  | [], t => t
  | (i, b) :: π, t => .op i b (tr π t)
def forkOf : List (List (Nat × Bool)) → Tr
  | [(i, _) :: π1, (j, _) :: π2] => .fork i (tr π1 .nil) j (tr π2 .nil)
  | _ => .nil
def nx : Md → Md
  | .held HS (.op i _ t) L => .held HS t (L.set i true)
  | .pick HS i t L => .held HS t (L.set i true)
  | m => m
/-- The pieces that may be read. -/
def vis : Md → List HP → List HP
  | .held HS (.op _ true _) _, _ => HS
  | _, H => H
/-- An operation that makes memory may stand here. -/
def addOK : Md → Bool
  | .seq => true
  | .quiet => false
  | .held _ (.op _ false _) _ => true
  | .held _ _ _ => false
  | .pick _ _ _ _ => true
def noP (Q : HQ) : HQ
  | .normal, f, H => Q .normal f H
  | _, _, _ => False
def SHD (P : Program) (n : Nat) (ops : Array Oper) (Q : HQ) (l : List Oper) (f : Fr) (w0 : World) (H : List HP) : Md → Prop
  | .seq => noDef l = true → ∀ w, Wd w0 H w → WI P n ops (low w0 Q) l f w
  | .quiet => ∀ w, Wd w0 H w → WQ P n ops w (fun f' => Q .normal f' H) l f
  | .held HS t L => okT ops L t = true → Region.noSelect ops = true → l = picks ops.toList t → ∀ w, Wd w0 H w → Wd w0 HS w → wpAnyH P .any ops (lift n f.c.ro (low w0 (noP Q))) (Wd w0 HS) t.len L.toArray (rep n f) w
  | .pick HS i t L => okT ops (L.set i true) t = true → Region.noSelect ops = true → i < ops.size → l = picks ops.toList (.op i false t) → ∀ w, Wd w0 H w → Wd w0 HS w →
      wpOp P ops (lift n f.c.ro (low w0 (noP Q))) i (fun a' w' => Wd w0 HS w' ∧ wpAnyH P .any ops (lift n f.c.ro (low w0 (noP Q))) (Wd w0 HS) t.len (L.set i true).toArray a' w') (rep n f) w
structure SH (md : Md) (P : Program) (n : Nat) (ops : Array Oper) (Q : HQ) (l : List Oper) (f : Fr) (w0 : World) (H : List HP) : Prop where
  out : SHD P n ops Q l f w0 H md
section
variable {md : Md} {P : Program} {n : Nat} {Q : HQ} {f : Fr} {w0 : World} {H R : List HP} {ops : Array Oper} {rest : List Oper} {d : Nat} {op : Op} {ty : TypeId} {pos : String} {aft : Array Edge} {v : Value} {x y c : Operand}
theorem r_seq {id : Nat} {l : List Oper} (h : SH .seq P n l.toArray Q l f w0 H) (hd : noDef l = true := by kernel_rfl) : VH P n (.region id l.toArray false) Q f w0 H := ⟨fun w hw => wi_region (h.out hd w hw)⟩
theorem r_quiet {id : Nat} {l : List Oper} (hm : P.follows .mixedOrders = true) (hB : (Region.lexB .any l.toArray && noDef l) = true) (h : SH .quiet P n l.toArray Q l f w0 H) : VH P n (.region id l.toArray true) Q f w0 H :=
  ⟨fun w hw => w_quiet hm hB ((h.out w hw).mono fun _ hq _ he => ⟨H, hq, hw.step he⟩)⟩
theorem r_heldT {id : Nat} {l : List Oper} (HS : List HP) (t : Tr) (hm : P.follows .mixedOrders = true) (hB : (noDef l && (okT l.toArray (List.replicate l.length false) t && (Region.noSelect l.toArray && Nat.beq t.len l.length))) = true) (he : Ent H HS)
    (h : SH (.held HS t (List.replicate l.length false)) P n l.toArray Q (picks l t) f w0 H) : VH P n (.region id l.toArray true) Q f w0 H := by
  simp only [Bool.and_eq_true, Nat.beq_eq] at hB
  obtain ⟨hd, h1, h2, h4⟩ := hB
  refine ⟨fun w hw => W.mono (Q := low w0 (noP Q)) (w_any hm hd (wpAny_of_held (S := Wd w0 HS) _ _ _ _ ?_)) (fun e f' w' hq => ?_)⟩
  · have hw' : Wd w0 H { w with drawn := w.drawn + 1 } := hw.step (Ext.drew w)
    have := h.out h1 h2 (by simp) _ hw' (he.wd hw')
    rw [h4] at this
    simpa using this
  · obtain ⟨H', hn, hw'⟩ := hq
    cases e <;> first | exact ⟨H', hn, hw'⟩ | exact hn.elim
theorem r_heldA {id : Nat} {l : List Oper} (HS : List HP) (π : List (Nat × Bool)) (alts : List (List (Nat × Bool))) (hm : P.follows .mixedOrders = true) (hB : (noDef l && (okT l.toArray (List.replicate l.length false) (tr π (forkOf alts)) && (Region.noSelect l.toArray && Nat.beq (tr π (forkOf alts)).len l.length))) = true) (he : Ent H HS)
    (h : SH (.held HS (tr π (forkOf alts)) (List.replicate l.length false)) P n l.toArray Q (picks l (tr π (forkOf alts))) f w0 H) : VH P n (.region id l.toArray true) Q f w0 H := r_heldT HS _ hm hB he h
theorem r_held {id : Nat} {l : List Oper} (HS : List HP) (π : List (Nat × Bool)) (hm : P.follows .mixedOrders = true) (hB : (noDef l && (okT l.toArray (List.replicate l.length false) (tr π .nil) && (Region.noSelect l.toArray && Nat.beq (tr π .nil).len l.length))) = true) (he : Ent H HS)
    (h : SH (.held HS (tr π .nil) (List.replicate l.length false)) P n l.toArray Q (picks l (tr π .nil)) f w0 H) : VH P n (.region id l.toArray true) Q f w0 H := r_heldT HS _ hm hB he h
theorem s_nil (h : Q .normal f H) : SH md P n ops Q [] f w0 H := ⟨by
  cases md with
  | seq => exact fun _ _ hw => wi_nil ⟨H, h, hw⟩
  | quiet => exact fun _ _ => wq_nil h
  | held HS t L =>
    intro h1 _ h4 w hw hs
    cases t with
    | nil =>
      simp only [okT, List.isEmpty_iff] at h1
      exact wpAnyH_done h1 (lift_n rfl ⟨H, h, hw⟩) _
    | op i b t => simp [picks] at h4
    | fork => simp [picks] at h4
  | pick HS i t L =>
    intro _ _ _ h4
    simp [picks] at h4⟩
theorem picks_head {ops : Array Oper} {o : Oper} {rest : List Oper} {i : Nat} {b : Bool} {t : Tr} (h : o :: rest = picks ops.toList (.op i b t)) (hp : i < ops.size) : ops[i]? = some o ∧ rest = picks ops.toList t := by
  simp only [picks, List.cons.injEq] at h
  refine ⟨?_, h.2⟩
  rw [h.1]
  simp [hp]
/-- An operation that is chosen, or forced. -/
theorem s_op {o : Oper} {K : Fr → List HP → Prop} (hm : addOK md = true) (h : ∀ w, Wd w0 H w → WL P n ops (postK fun f' w' => ∃ H', K f' H' ∧ Wd w0 H' w') [o] f w)
    (k : ∀ f' H', K f' H' → SH (nx md) P n ops Q rest f' w0 H') (hk : ∀ HS t L, md = .held HS t L → ∀ w, Wd w0 H w → Wd w0 HS w → WL P n ops (postK fun f' w' => Wd w0 HS w' ∧ ∃ H', K f' H' ∧ Wd w0 H' w') [o] f w)
    (hk2 : ∀ HS i t L, md = .pick HS i t L → ∀ w, Wd w0 H w → Wd w0 HS w → WL P n ops (postK fun f' w' => Wd w0 HS w' ∧ ∃ H', K f' H' ∧ Wd w0 H' w') [o] f w) : SH md P n ops Q (o :: rest) f w0 H := ⟨by
  cases md with
  | seq => exact fun hd w hw => op1_in hd (h w hw) fun f' w' ⟨H', h1, h2⟩ => (k f' H' h1).out (noDef_tail hd) w' h2
  | quiet => cases hm
  | held HS t L =>
    intro h1 h2 h4 w hw hs
    cases t with
    | nil => cases hm
    | fork => cases hm
    | op i b t =>
      cases b with
      | true => cases hm
      | false =>
        simp only [okT, Bool.and_eq_true, beq_iff_eq, decide_eq_true_eq] at h1
        obtain ⟨hi, hr⟩ := picks_head h4 h1.1
        show wpAnyH _ _ _ _ _ (t.len + 1) _ _ _
        refine wpAnyH_all h1.2.1 (by simp) fun j hj => ?_
        obtain rfl := List.mem_singleton.1 hj
        refine op1_any hi (hk _ _ _ rfl w hw hs) fun f' w' hr' ⟨hs', H', kk, hw'⟩ => ⟨hs', ?_⟩
        have := (k f' H' kk).out h1.2.2 h2 hr w' hw' hs'
        rw [hr'] at this
        simpa using this
  | pick HS i t L =>
    intro h1 h2 h3 h4 w hw hs
    obtain ⟨hi, hr⟩ := picks_head h4 h3
    refine op1_any hi (hk2 _ _ _ _ rfl w hw hs) fun f' w' hr' ⟨hs', H', kk, hw'⟩ => ⟨hs', ?_⟩
    have := (k f' H' kk).out h1 h2 hr w' hw' hs'
    rw [hr'] at this
    simpa using this⟩
/-- An operation that only reads. -/
theorem s_val (h : ∀ w, Wd w0 (vis md H) w → OX P n f op ty w v w) (k : SH (nx md) P n ops Q rest (upd f d v) w0 H) : SH md P n ops Q (⟨some d, op, ty, pos, aft, none⟩ :: rest) f w0 H := by
  by_cases ha : addOK md = true ∧ vis md H = H
  · obtain ⟨ha, hvis⟩ := ha
    rw [hvis] at h
    exact s_op (K := fun f' H' => f' = upd f d v ∧ H' = H) ha (fun w hw => wl_val (h w hw) (wl_nil ⟨rfl, H, ⟨rfl, rfl⟩, hw⟩)) (fun f' H' ⟨h1, h2⟩ => by subst h1 h2; exact k)
      (fun HS t L _ w hw hs => wl_val (h w hw) (wl_nil ⟨rfl, hs, H, ⟨rfl, rfl⟩, hw⟩)) (fun HS i t L _ w hw hs => wl_val (h w hw) (wl_nil ⟨rfl, hs, H, ⟨rfl, rfl⟩, hw⟩))
  · refine ⟨?_⟩
    cases md with
    | seq => exact (ha ⟨rfl, rfl⟩).elim
    | quiet => exact fun w hw => wq_val (fun w' he => h w' (hw.step he)) (k.out w hw)
    | pick HS i t L => exact (ha ⟨rfl, rfl⟩).elim
    | held HS t L =>
      intro h1 h2 h4 w hw hs
      cases t with
      | nil => simp [picks] at h4
      | fork => simp only [picks, noOper, List.cons.injEq, Oper.mk.injEq] at h4; simp at h4
      | op i b t =>
        cases b with
        | true =>
          simp only [okT, Bool.and_eq_true, decide_eq_true_eq] at h1
          obtain ⟨hi, hr⟩ := picks_head h4 h1.1
          have key := k.out h1.2.2.2 h2 hr w hw hs
          have hrun : ∀ w, Wd w0 HS w → (execOp (rep n f).eval ⟨some d, op, ty, pos, aft, none⟩).run P w = .ok (.value v) w := fun w hw => by rw [rep_eval]; exact h w hw _ _ _ _
          have hy : YieldsIf P ops (Wd w0 HS) ⟨some d, op, ty, pos, aft, none⟩ v (rep n f) := .inl ⟨rfl, hrun⟩
          show wpAnyH _ _ _ _ _ (t.len + 1) _ _ _
          refine wpAnyH_take (i := i) hi h2 h1.2.1 h1.2.2.1 (fun c a w hq => ?_) hy hs ?_
          · obtain ⟨_, _, _, _, _, hq, _⟩ := hq; exact hq.elim
          · rw [rep_put]
            have : (upd f d v).c.ro = f.c.ro := rfl
            rw [this] at key
            simpa using key
        | false => exact (ha ⟨rfl, rfl⟩).elim
/-- An operation that makes memory. -/
theorem s_add {o : Oper} (hm : addOK md = true) (h : ∀ w, Wd w0 H w → WL P n ops (postK fun f' w' => Ext w w' ∧ ∃ H', SH (nx md) P n ops Q rest f' w0 H' ∧ Wd w0 H' w') [o] f w) : SH md P n ops Q (o :: rest) f w0 H :=
  s_op (K := fun f' H' => SH (nx md) P n ops Q rest f' w0 H') hm (fun w hw => op1_seq (h w hw) fun f' w' ⟨_, h2⟩ => wl_nil ⟨rfl, h2⟩) (fun _ _ h => h)
    (fun HS t L _ w hw hs => op1_seq (h w hw) fun f' w' ⟨he, h2⟩ => wl_nil ⟨rfl, hs.step he, h2⟩) (fun HS i t L _ w hw hs => op1_seq (h w hw) fun f' w' ⟨he, h2⟩ => wl_nil ⟨rfl, hs.step he, h2⟩)
/-- The pieces that are read are there still. -/
def keeps : Md → List HP → Prop
  | .held HS _ _, H => Ent H HS
  | .pick HS _ _ _, H => Ent H HS
  | _, _ => True
/-- An operation that writes. -/
theorem s_mut {o : Oper} (hm : addOK md = true) (h : ∀ w, Wd w0 H w → WL P n ops (postK fun f' w' => ∃ H', keeps md H' ∧ SH (nx md) P n ops Q rest f' w0 H' ∧ Wd w0 H' w') [o] f w) : SH md P n ops Q (o :: rest) f w0 H :=
  s_op (K := fun f' H' => keeps md H' ∧ SH (nx md) P n ops Q rest f' w0 H') hm (fun w hw => op1_seq (h w hw) fun f' w' ⟨H', h1, h2, h3⟩ => wl_nil ⟨rfl, H', ⟨h1, h2⟩, h3⟩) (fun _ _ h => h.2)
    (fun HS t L e w hw hs => op1_seq (h w hw) fun f' w' ⟨H', h1, h2, h3⟩ => wl_nil ⟨rfl, by subst e; exact Ent.wd h1 h3, H', ⟨h1, h2⟩, h3⟩) (fun HS i t L e w hw hs => op1_seq (h w hw) fun f' w' ⟨H', h1, h2, h3⟩ => wl_nil ⟨rfl, by subst e; exact Ent.wd h1 h3, H', ⟨h1, h2⟩, h3⟩)
/-- Two operations may come up: both orders are walked. -/
theorem s_fork {HS : List HP} {i j : Nat} {t1 t2 : Tr} {L : List Bool} {l : List Oper} (h1 : SH (.pick HS i t1 L) P n l.toArray Q (picks l (.op i false t1)) f w0 H) (h2 : SH (.pick HS j t2 L) P n l.toArray Q (picks l (.op j false t2)) f w0 H) :
    SH (.held HS (.fork i t1 j t2) L) P n l.toArray Q [noOper] f w0 H := ⟨fun k1 k2 _ w hw hs => by
  simp only [okT, Bool.and_eq_true, beq_iff_eq, decide_eq_true_eq, Nat.beq_eq] at k1
  obtain ⟨a1, b1, hr, hl, a2, b2⟩ := k1
  have e1 := h1.out a2 k2 a1 (by simp) w hw hs
  have e2 := h2.out b2 k2 b1 (by simp) w hw hs
  show wpAnyH _ _ _ _ _ (t1.len + 1) _ _ _
  refine wpAnyH_all hr (by simp) fun m hm => ?_
  simp only [List.mem_cons, List.not_mem_nil, or_false] at hm
  rcases hm with rfl | rfl
  · simpa using e1
  · rw [hl]; simpa using e2⟩
end
end Go.Fw
