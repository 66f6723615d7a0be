/- The abstract evaluator's memory against the model's: what a step of it says of the model's. Conditions: none. -/
import Derived.Test.YtbgjanmheagilaaDoorAmA
namespace Go.Am
open Go Go.RowKit
set_option linter.unusedVariables false
set_option linter.unusedSimpArgs false
variable {μ : Type} {I : MemI μ}

theorem VR.arr_eq {E : Env} {as cs : Array Value} {n : Nat} (hs : as.size = cs.size) (hg : as.toList.all (gnd n) = true)
    (h : ∀ a c : Value, ∀ j : Nat, as[j]? = some a → cs[j]? = some c → gnd n a = true → c = a) : cs = as := by
  apply Array.ext hs.symm
  intro j h1 h2
  exact h as[j] cs[j] j (by simp) (by simp) (all_getElem? hg (by simp : as[j]? = some as[j]))

theorem gnd_eq {E : Env} {v v' : Value} (h : VR E v v') : ∀ n, gnd n v = true → v' = v := by
  induction h with
  | bool b => exact fun _ _ => rfl
  | int k n => exact fun _ _ => rfl
  | float k n => exact fun _ _ => rfl
  | cplx k n m => exact fun _ _ => rfl
  | string s => exact fun _ _ => rfl
  | nilp => exact fun _ _ => rfl
  | ptr h => intro n hg; cases n <;> simp [gnd] at hg
  | nils n c => exact fun _ _ => rfl
  | slice n c h => intro n hg; cases n <;> simp [gnd] at hg
  | wide n c h => intro n hg; cases n <;> simp [gnd] at hg
  | nilm => exact fun _ _ => rfl
  | map h => intro n hg; cases n <;> simp [gnd] at hg
  | @func f as bs cs ds h1 h2 h3 h4 i1 i2 =>
    intro n hg
    have : as = #[] ∧ bs = #[] := by
      obtain ⟨la⟩ := as
      obtain ⟨lb⟩ := bs
      cases la with
      | nil => cases lb with
        | nil => exact ⟨rfl, rfl⟩
        | cons x l => cases n <;> simp [gnd] at hg
      | cons x l => cases n <;> simp [gnd] at hg
    obtain ⟨rfl, rfl⟩ := this
    have e1 : cs = #[] := Array.eq_empty_of_size_eq_zero h1.symm
    have e2 : ds = #[] := Array.eq_empty_of_size_eq_zero h3.symm
    rw [e1, e2]
  | yield h => intro n hg; cases n <;> simp [gnd] at hg
  | nilf => exact fun _ _ => rfl
  | iface t h ih =>
    intro n hg
    cases n with
    | zero => simp [gnd] at hg
    | succ n => rw [ih n hg]
  | nili => exact fun _ _ => rfl
  | @agg as cs h1 h2 ih =>
    intro n hg
    cases n with
    | zero => simp [gnd] at hg
    | succ n => rw [VR.arr_eq (E := E) h1 hg fun a c j ha hc hga => ih a c j ha hc n hga]
  | @tuple as cs h1 h2 ih =>
    intro n hg
    cases n with
    | zero => simp [gnd] at hg
    | succ n => rw [VR.arr_eq (E := E) h1 hg fun a c j ha hc hga => ih a c j ha hc n hga]

theorem VR.undef (E : Env) : VR E undef undef := .tuple rfl fun a c j h => by simp at h

/-! ### Objects -/
inductive OR (P : Program) (E : Env) (r : Nat) : Obj → Obj → Prop
  | cells {as cs : Array Value} {e : TypeId} : as.size + r * P.cellsOf e = cs.size → (∀ a c : Value, ∀ j : Nat, as[j]? = some a → cs[j]? = some c → VR E a c) → OR P E r (.cells as e (0, 0)) (.cells cs e (0, 0))
  | seen {as cs : Array Value} {e : TypeId} {fr : Nat × Nat} : as.size = cs.size → (∀ a c : Value, ∀ j : Nat, as[j]? = some a → cs[j]? = some c → VR E a c) → OR P E r (.cells as e (1, 0)) (.cells cs e fr)
  | map {es cs : Array MapEntry} (clock : Nat) : es.size = cs.size → (∀ a c : MapEntry, ∀ j : Nat, es[j]? = some a → cs[j]? = some c → c.key = a.key ∧ c.born = a.born ∧ VR E a.val c.val) →
      OR P E r (.map es clock) (.map cs clock)
  | iter (s : ByteArray) (p : Nat) : OR P E r (.stringIter s p) (.stringIter s p)

theorem OR.mono {P : Program} {E E' : Env} {r : Nat} {o co : Obj} (hE : ∀ k x, E k = some x → E' k = some x) (h : OR P E r o co) : OR P E' r o co := by
  cases h with
  | cells h1 h2 => exact .cells h1 (fun a c j ha hc => (h2 a c j ha hc).mono hE)
  | seen h1 h2 => exact .seen h1 (fun a c j ha hc => (h2 a c j ha hc).mono hE)
  | map clock h1 h2 => exact .map clock h1 fun a c j ha hc => let ⟨x, y, z⟩ := h2 a c j ha hc; ⟨x, y, z.mono hE⟩
  | iter s p => exact .iter s p

/-- The world that the call began in, and the names that stand from the beginning. -/
structure Bs where
  w : World
  E : Env

/-- The abstract memory stands for the world. -/
structure Rel (P : Program) (lo : Lim) (w0 : Bs) (E : Env) (g : Nat → Option Obj) (w : World) : Prop where
  below : Below w0.w.heap.size w0.w w
  tie : ∀ k o, g k = some o → ∃ b r co, E k = some (b, r) ∧ w.heap[b]? = some co ∧ OR P E r o co
  inj : ∀ k k' o o' b r r', g k = some o → g k' = some o' → E k = some (b, r) → E k' = some (b, r') → k = k'
  own : ∀ k b r, lo.lo ≤ k → E k = some (b, r) → w0.w.heap.size ≤ b
  old : ∀ k, k < lo.G → E k = some (k, 0)
  kept : ∀ k x, w0.E k = some x → E k = some x

def Agree (I : MemI μ) (s s' : St μ) (g : Nat → Option Obj) : Prop := ∀ k, (s'.T.testBit k || s'.W.testBit k) = true → g k = I.get s.mem k
def Fresh (s s' : St μ) (E : Env) : Prop := ∀ k, s.next ≤ k → k < s'.next → E k = none
def merge (I : MemI μ) (s' : St μ) (g : Nat → Option Obj) : Nat → Option Obj := fun k => if s'.W.testBit k = true then I.get s'.mem k else g k

theorem Agree.first {s s1 s' : St μ} {g : Nat → Option Obj} (h : Agree I s s' g) (hl : St.Le I s1 s') : Agree I s s1 g := fun k hk => by
  refine h k ?_
  rw [Bool.or_eq_true] at hk ⊢
  exact hk.imp (hl.T k) (hl.W k)
theorem Agree.second {s s1 s' : St μ} {g : Nat → Option Obj} (h : Agree I s s' g) (hl0 : St.Le I s s1) (hl : St.Le I s1 s') : Agree I s1 s' (merge I s1 g) := fun k hk => by
  unfold merge
  split
  · rfl
  · rename_i hw
    rw [h k hk]
    exact (hl0.mem k (by simpa using hw)).symm
theorem merge_merge {s1 s' : St μ} (g : Nat → Option Obj) (hl : St.Le I s1 s') : merge I s' (merge I s1 g) = merge I s' g := by
  funext k
  unfold merge
  split
  · rfl
  · rename_i hw
    rw [if_neg]
    intro h; exact hw (hl.W k h)
theorem merge_read {s s' : St μ} {g : Nat → Option Obj} (hA : Agree I s s' g) (hW : ∀ k, s'.W.testBit k = s.W.testBit k) (hm : ∀ k, I.get s'.mem k = I.get s.mem k) : merge I s' g = g := by
  funext k
  unfold merge
  split
  · rename_i h
    rw [hm, hA k (by rw [h, Bool.or_true])]
  · rfl
/-- Behind one write. -/
theorem merge_write {s s' : St μ} {g : Nat → Option Obj} {k0 : Nat} {o : Option Obj} (hA : Agree I s s' g) (hW : ∀ k, s'.W.testBit k = (s.W.testBit k || decide (k = k0))) (hm : ∀ k, I.get s'.mem k = if k = k0 then o else I.get s.mem k) :
    merge I s' g = fun k => if k = k0 then o else g k := by
  funext k
  unfold merge
  by_cases e : k = k0
  · subst e
    simp [hW, hm]
  · simp only [hm, e, if_false]
    split
    · rename_i h
      rw [hA k (by rw [h, Bool.or_true])]
    · rfl

/-- A world in which one block has turned. -/
structure Turned (b : Nat) (co : Obj) (w w' : World) : Prop where
  os : w'.os = w.os
  tape : w'.tape = w.tape
  output : w'.output = w.output
  size : w'.heap.size = w.heap.size
  at_ : w'.heap[b]? = some co
  other : ∀ i, i ≠ b → w'.heap[i]? = w.heap[i]?

variable {P : Program} {lo : Lim} {w0 : Bs}

theorem Rel.lt {E : Env} {g : Nat → Option Obj} {w : World} (h : Rel P lo w0 E g w) {k : Nat} {o : Obj} {b r : Nat} (hg : g k = some o) (hE : E k = some (b, r)) : b < w.heap.size := by
  obtain ⟨b', r', co, h1, h2, _⟩ := h.tie k o hg
  rw [h1] at hE; cases hE
  exact (Array.getElem?_eq_some_iff.1 h2).1

theorem Rel.write {E : Env} {g : Nat → Option Obj} {w w' : World} (h : Rel P lo w0 E g w) {k0 b r : Nat} {o0 o : Obj} {co : Obj} (hg : g k0 = some o0) (hE : E k0 = some (b, r)) (hlo : lo.lo ≤ k0)
    (hw : Turned b co w w') (ho : OR P E r o co) : Rel P lo w0 E (fun k => if k = k0 then some o else g k) w' := by
  refine ⟨?_, ?_, ?_, h.own, h.old, h.kept⟩
  · refine h.below.trans ⟨hw.os, hw.tape, hw.output, Nat.le_of_eq hw.size.symm, fun i hi => hw.other i ?_⟩
    have := h.own k0 b r hlo hE
    omega
  · intro k o' hk
    by_cases e : k = k0
    · subst e
      simp at hk; subst hk
      exact ⟨b, r, co, hE, hw.at_, ho⟩
    · simp [e] at hk
      obtain ⟨b', r', co', h1, h2, h3⟩ := h.tie k o' hk
      refine ⟨b', r', co', h1, ?_, h3⟩
      rw [hw.other b' ?_]
      · exact h2
      · intro eb; subst eb
        exact e (h.inj _ _ _ _ _ _ _ hk hg h1 hE)
  · intro k k' o1 o2 b' r1 r2 h1 h2 e1 e2
    have : ∀ i o', (if i = k0 then some o else g i) = some o' → ∃ o'', g i = some o'' := fun i o' hi => by
      by_cases e : i = k0
      · subst e; exact ⟨o0, hg⟩
      · simp [e] at hi; exact ⟨o', hi⟩
    obtain ⟨o1', h1'⟩ := this _ _ h1
    obtain ⟨o2', h2'⟩ := this _ _ h2
    exact h.inj _ _ _ _ _ _ _ h1' h2' e1 e2

theorem Rel.kill {E : Env} {g : Nat → Option Obj} {w : World} (h : Rel P lo w0 E g w) (k0 : Nat) : Rel P lo w0 E (fun k => if k = k0 then none else g k) w := by
  have : ∀ i o', (if i = k0 then none else g i) = some o' → g i = some o' := fun i o' hi => by
    by_cases e : i = k0
    · simp [e] at hi
    · simpa [e] using hi
  exact ⟨h.below, fun k o hk => h.tie k o (this k o hk), fun k k' o o' b r r' h1 h2 => h.inj k k' o o' b r r' (this _ _ h1) (this _ _ h2), h.own, h.old, h.kept⟩

def Env.put (E : Env) (k b r : Nat) : Env := fun i => if i = k then some (b, r) else E i
theorem Env.put_keep {E : Env} {k b r : Nat} (h : E k = none) : ∀ i x, E i = some x → E.put k b r i = some x := fun i x hi => by
  unfold Env.put
  split
  · rename_i e; subst e; rw [h] at hi; cases hi
  · exact hi

/-- A new name for a block whose name, if it had one, is dead; or for a new block. -/
theorem Rel.name {E : Env} {g : Nat → Option Obj} {w w' : World} (h : Rel P lo w0 E g w) {k b r : Nat} {o co : Obj} (hk : E k = none) (hb : Below w0.w.heap.size w0.w w') (hbw : w0.w.heap.size ≤ b)
    (hat : w'.heap[b]? = some co) (hother : ∀ i, i ≠ b → i < w.heap.size → w'.heap[i]? = w.heap[i]?)
    (hun : ∀ i o' r', g i = some o' → E i ≠ some (b, r')) (ho : OR P (E.put k b r) r o co) : Rel P lo w0 (E.put k b r) (fun i => if i = k then some o else g i) w' := by
  have hkeep := Env.put_keep (b := b) (r := r) hk
  have hne : ∀ i o', g i = some o' → i ≠ k := fun i o' hi e => by
    subst e
    obtain ⟨b', r', co', h1, _⟩ := h.tie _ _ hi
    rw [hk] at h1; cases h1
  refine ⟨hb, ?_, ?_, ?_, ?_, fun i x hi => hkeep i x (h.kept i x hi)⟩
  · intro i o' hi
    by_cases e : i = k
    · subst e
      simp at hi; subst hi
      exact ⟨b, r, co, by simp [Env.put], hat, ho⟩
    · simp [e] at hi
      obtain ⟨b', r', co', h1, h2, h3⟩ := h.tie i o' hi
      refine ⟨b', r', co', hkeep _ _ h1, ?_, h3.mono hkeep⟩
      rw [hother b' (fun eb => hun i o' r' hi (eb ▸ h1)) (Array.getElem?_eq_some_iff.1 h2).1]
      exact h2
  · intro i i' o1 o2 b' r1 r2 h1 h2 e1 e2
    by_cases e : i = k
    · by_cases e' : i' = k
      · rw [e, e']
      · subst e
        simp [e'] at h2
        simp [Env.put] at e1
        simp [Env.put, e'] at e2
        obtain ⟨rfl, rfl⟩ := e1
        exact absurd e2 (hun _ _ _ h2)
    · by_cases e' : i' = k
      · subst e'
        simp [e] at h1
        simp [Env.put] at e2
        simp [Env.put, e] at e1
        obtain ⟨rfl, rfl⟩ := e2
        exact absurd e1 (hun _ _ _ h1)
      · simp [e] at h1
        simp [e'] at h2
        simp [Env.put, e] at e1
        simp [Env.put, e'] at e2
        exact h.inj _ _ _ _ _ _ _ h1 h2 e1 e2
  · intro i b' r' hi he
    by_cases e : i = k
    · subst e; simp [Env.put] at he; omega
    · simp [Env.put, e] at he; exact h.own i b' r' hi he
  · intro i hi
    exact hkeep _ _ (h.old i hi)

/-! ### What a step of the evaluator says of the model's -/
/-- H: what is known of the memory ahead of the step. -/
def Sim (P : Program) (lo : Lim) (w0 : Bs) {α β : Type} (E : Env) (H : (Nat → Option Obj) → Prop) (m : M I α) (c : Sem β) (R : Env → α → β → Prop) : Prop :=
  ∀ s a s', m.run s = some (a, s') → ∀ E1 g w, (∀ k x, E k = some x → E1 k = some x) → Rel P lo w0 E1 g w → Agree I s s' g → Fresh s s' E1 → H g →
    ∃ E' b w', c.run P w = .ok b w' ∧ Env.Ext E1 E' s.next s'.next ∧ R E' a b ∧ Rel P lo w0 E' (merge I s' g) w'
/-- Nothing is known. -/
def noH : (Nat → Option Obj) → Prop := fun _ => True

section
variable {α β γ δ : Type} {E : Env} {H : (Nat → Option Obj) → Prop}

theorem Fresh.first {s s1 s' : St μ} {E : Env} (h : Fresh s s' E) (hl : s1.next ≤ s'.next) : Fresh s s1 E := fun k h1 h2 => h k h1 (by omega)
theorem Fresh.second {s s1 s' : St μ} {E E1 : Env} (h : Fresh s s' E) (hx : Env.Ext E E1 s.next s1.next) (hl : s.next ≤ s1.next) : Fresh s1 s' E1 := fun k h1 h2 => by
  cases e : E1 k with
  | none => rfl
  | some x =>
    rcases hx.dom k (by simp [e]) with h3 | h3
    · exact absurd (h k (by omega) h2) h3
    · omega

theorem Sim.bind {m : M I α} {c : Sem β} {f : α → M I γ} {f' : β → Sem δ} {R : Env → α → β → Prop} {R' : Env → γ → δ → Prop}
    (h : Sim P lo w0 E H m c R) (h2 : ∀ E1 a b, (∀ k x, E k = some x → E1 k = some x) → R E1 a b → Sim P lo w0 E1 noH (f a) (f' b) R') : Sim P lo w0 E H (m >>= f) (c >>= f') R' := by
  intro s a s' hr E1 g w hE hR hA hF hH
  obtain ⟨a1, s1, hr1, hr2⟩ := bind_run hr
  have l1 := m.le _ _ _ hr1
  have l2 := (f a1).le _ _ _ hr2
  obtain ⟨E2, b, w1, hc, hx, hab, hR1⟩ := h s a1 s1 hr1 E1 g w hE hR (hA.first l2) (hF.first l2.next) hH
  obtain ⟨E3, d, w2, hc2, hx2, hcd, hR2⟩ := h2 E2 a1 b (fun k x hk => hx.keep k x (hE k x hk)) hab s1 a s' hr2 E2 (merge I s1 g) w1 (fun _ _ h => h) hR1 (hA.second l1 l2) (hF.second hx l1.next) trivial
  refine ⟨E3, d, w2, ?_, hx.trans hx2 l1.next l2.next, hcd, ?_⟩
  · rw [Sem.run_bind, hc]; exact hc2
  · rw [merge_merge g l2] at hR2; exact hR2

theorem Sim.leaf {a : α} {c : Sem β} {R : Env → α → β → Prop} (h : ∀ E1 g w, (∀ k x, E k = some x → E1 k = some x) → Rel P lo w0 E1 g w → H g → ∃ b, c.run P w = .ok b w ∧ R E1 a b) : Sim P lo w0 E H (Pure.pure a : M I α) c R := by
  intro s a' s' hr E1 g w hE hR hA hF hH
  obtain ⟨rfl, rfl⟩ := pure_run hr
  obtain ⟨b, hb, hab⟩ := h E1 g w hE hR hH
  refine ⟨E1, b, w, hb, .refl _ _, hab, ?_⟩
  rw [merge_read hA (fun _ => rfl) (fun _ => rfl)]; exact hR
theorem Sim.pure {a : α} {b : β} {R : Env → α → β → Prop} (h : ∀ E1, (∀ k x, E k = some x → E1 k = some x) → R E1 a b) : Sim P lo w0 E H (Pure.pure a : M I α) (Pure.pure b) R :=
  Sim.leaf fun E1 g w hE _ _ => ⟨b, rfl, h E1 hE⟩

theorem Sim.fail {c : Sem β} {R : Env → α → β → Prop} : Sim P lo w0 E H (Am.fail : M I α) c R := fun s a s' hr => (fail_run hr).elim

theorem Sim.rd {k : Nat} {f : Obj → M I α} {c : Sem β} {R : Env → α → β → Prop} (h : ∀ o, Sim P lo w0 E (fun g => H g ∧ g k = some o) (f o) c R) : Sim P lo w0 E H (rd k >>= f) c R := by
  intro s a s' hr E1 g w hE hR hA hF hH
  obtain ⟨o, s1, hr1, hr2⟩ := bind_run hr
  have l1 := (Am.rd k).le _ _ _ hr1
  have l2 := (f o).le _ _ _ hr2
  obtain ⟨e1, e2, e3, e4, e5⟩ := rd_run hr1
  have hm : merge I s1 g = g := merge_read (hA.first l2) (fun k => by rw [e4]) (fun k => by rw [e3])
  have hA1 : Agree I s1 s' g := by have := hA.second l1 l2; rwa [hm] at this
  have hg : g k = some o := by rw [hA k (by rw [l2.T k e5, Bool.true_or]), e1]
  obtain ⟨E2, b, w1, h1, h2, h3, h4⟩ := h o s1 a s' hr2 E1 g w hE hR hA1 (fun i h1 h2 => hF i (by omega) h2) ⟨hH, hg⟩
  exact ⟨E2, b, w1, h1, by rw [← e2]; exact h2, h3, h4⟩

/-- One write, and the answer. -/
theorem Sim.wr {k : Nat} {o : Obj} {a : α} {c : Sem β} {R : Env → α → β → Prop} (h : ∀ E1 g w, (∀ k x, E k = some x → E1 k = some x) → Rel P lo w0 E1 g w → H g → ∀ o0, g k = some o0 → lo.lo ≤ k →
    ∃ b w' bl r co, c.run P w = .ok b w' ∧ E1 k = some (bl, r) ∧ Turned bl co w w' ∧ OR P E1 r o co ∧ R E1 a b) : Sim P lo w0 E H (wr lo k (some o) >>= fun _ => (Pure.pure a : M I α)) c R := by
  intro s a' s' hr E1 g w hE hR hA hF hH
  obtain ⟨u, s1, hr1, hr2⟩ := bind_run hr
  obtain ⟨rfl, rfl⟩ := pure_run hr2
  obtain ⟨e1, ⟨o0, e2⟩, e3, e4, e5, e6⟩ := wr_run hr1
  have hg : g k = some o0 := by rw [hA k (by rw [e5]; simp), e2]
  obtain ⟨b, w', bl, r, co, h1, h2, h3, h4, h5⟩ := h E1 g w hE hR hH o0 hg e1
  refine ⟨E1, b, w', h1, ⟨fun _ _ h => h, fun _ h => .inl h⟩, h5, ?_⟩
  rw [merge_write hA e5 e6]
  exact hR.write hg h2 e1 h3 h4

/-- A new block, and the answer. -/
theorem Sim.new {o : Obj} {f : Nat → α} {c : Sem β} {R : Env → α → β → Prop} (h : ∀ E1 g w k, (∀ k x, E k = some x → E1 k = some x) → Rel P lo w0 E1 g w → H g → E1 k = none →
    ∃ b w' r co, c.run P w = .ok b w' ∧ Below w0.w.heap.size w0.w w' ∧ w'.heap[w.heap.size]? = some co ∧ (∀ i, i < w.heap.size → w'.heap[i]? = w.heap[i]?) ∧ OR P (E1.put k w.heap.size r) r o co ∧ R (E1.put k w.heap.size r) (f k) b) :
    Sim P lo w0 E H (new o >>= fun k => (Pure.pure (f k) : M I α)) c R := by
  intro s a' s' hr E1 g w hE hR hA hF hH
  obtain ⟨k, s1, hr1, hr2⟩ := bind_run hr
  obtain ⟨rfl, rfl⟩ := pure_run hr2
  obtain ⟨rfl, e2, e3, e4, e5, e6⟩ := new_run hr1
  have hk : E1 s.next = none := hF s.next (Nat.le_refl _) (by omega)
  obtain ⟨b, w', r, co, h1, h2, h3, h4, h5, h6⟩ := h E1 g w s.next hE hR hH hk
  refine ⟨E1.put s.next w.heap.size r, b, w', h1, ⟨Env.put_keep hk, fun i hi => ?_⟩, h6, ?_⟩
  · by_cases e : i = s.next
    · subst e; exact .inr ⟨Nat.le_refl _, by omega⟩
    · simp [Env.put, e] at hi; exact .inl (by simpa using hi)
  · rw [merge_write hA e5 e6]
    refine hR.name hk h2 hR.below.size h3 (fun i _ hi => h4 i hi) (fun i o' r' hi he => ?_) h5
    exact absurd (hR.lt hi he) (Nat.lt_irrefl _)

/-- What the model does first without looking at the world. -/
theorem Sim.left {m : M I α} {c : Sem β} {b : β} {f' : β → Sem δ} {R : Env → α → δ → Prop} (hc : ∀ w, c.run P w = .ok b w) (h : Sim P lo w0 E H m (f' b) R) : Sim P lo w0 E H m (c >>= f') R := by
  intro s a s' hr E1 g w hE hR hA hF hH
  obtain ⟨E2, d, w1, h1, h2⟩ := h s a s' hr E1 g w hE hR hA hF hH
  exact ⟨E2, d, w1, by rw [Sem.run_bind, hc]; exact h1, h2⟩

theorem Sim.mono {m : M I α} {c : Sem β} {R R' : Env → α → β → Prop} (h : Sim P lo w0 E H m c R) (hR : ∀ E1 a b, (∀ k x, E k = some x → E1 k = some x) → R E1 a b → R' E1 a b) : Sim P lo w0 E H m c R' := by
  intro s a s' hr E1 g w hE hRl hA hF hH
  obtain ⟨E2, d, w1, h1, h2, h3, h4⟩ := h s a s' hr E1 g w hE hRl hA hF hH
  exact ⟨E2, d, w1, h1, h2, hR E2 a d (fun k x hk => h2.keep k x (hE k x hk)) h3, h4⟩

theorem Sim.eqrun {m : M I α} {c c' : Sem β} {R : Env → α → β → Prop} (hc : ∀ w, c'.run P w = c.run P w) (h : Sim P lo w0 E H m c R) : Sim P lo w0 E H m c' R := by
  intro s a s' hr E1 g w hE hRl hA hF hH
  obtain ⟨E2, d, w1, h1, h2, h3, h4⟩ := h s a s' hr E1 g w hE hRl hA hF hH
  exact ⟨E2, d, w1, by rw [hc]; exact h1, h2, h3, h4⟩

theorem Sim.weak {m : M I α} {c : Sem β} {R : Env → α → β → Prop} {H' : (Nat → Option Obj) → Prop} (h : Sim P lo w0 E H m c R) (hH : ∀ g, H' g → H g) : Sim P lo w0 E H' m c R :=
  fun s a s' hr E1 g w hE hRl hA hF hH' => h s a s' hr E1 g w hE hRl hA hF (hH g hH')
end
end Go.Am
