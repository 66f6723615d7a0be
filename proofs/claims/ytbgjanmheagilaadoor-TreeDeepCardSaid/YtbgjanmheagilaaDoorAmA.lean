/- An abstract evaluator of the model's code: its memory, its values, and how they stand for the model's. Conditions: none. -/
import Derived.WalkKit
import Derived.WalkSpells
import Derived.WalkLawsBesides
import Derived.Below
import Derived.Laws.CopyRow
import Derived.Laws.AppendOwn
import Derived.Laws.MakeOwn
import Derived.Laws.Tables
import Derived.Laws.Cells
import Derived.ChangeKeysEq
namespace Go.Am
open Go Go.RowKit
set_option linter.unusedVariables false

/-! ### Tries -/
inductive Trie (α : Type) where
  | leaf
  | node (v : Option α) (l r : Trie α)

/-- A choice that the kernel makes in one step. -/
noncomputable def bsel {β : Type} (c : Bool) (a b : β) : β := Bool.rec (motive := fun _ => β) b a c
@[simp] theorem bsel_true {β : Type} (a b : β) : bsel true a b = a := rfl
@[simp] theorem bsel_false {β : Type} (a b : β) : bsel false a b = b := rfl
noncomputable def nsel {β : Type} (n : Nat) (z : β) (s : Nat → β) : β := Nat.rec (motive := fun _ => β) z (fun k _ => s k) n
@[simp] theorem nsel_zero {β : Type} (z : β) (s : Nat → β) : nsel 0 z s = z := rfl
@[simp] theorem nsel_succ {β : Type} (k : Nat) (z : β) (s : Nat → β) : nsel (k + 1) z s = s k := rfl

/-- What lies at a number: 0 here; k + 1 to the left or the right, by k's last bit. -/
noncomputable def Trie.get {α : Type} (t : Trie α) : Nat → Option α :=
  Trie.rec (motive := fun _ => Nat → Option α) (fun _ => none) (fun v _ _ l r k => Nat.rec (motive := fun _ => Option α) v (fun k' _ => Nat.rec (motive := fun _ => Option α) (l (Nat.div k' 2)) (fun _ _ => r (Nat.div k' 2)) (Nat.mod k' 2)) k) t
noncomputable def Trie.at_ {α β : Type} (t : Trie α) (a : β) (f : Option α → Trie α → Trie α → β) : β := Trie.rec (motive := fun _ => β) a (fun v l r _ _ => f v l r) t
noncomputable def Trie.set {α : Type} (d : Nat) : Trie α → Nat → Option α → Trie α :=
  Nat.rec (motive := fun _ => Trie α → Nat → Option α → Trie α) (fun t _ _ => t)
    (fun _ ih t k x => Nat.rec (motive := fun _ => Trie α) (t.at_ (.node x .leaf .leaf) (fun _ l r => .node x l r))
      (fun k' _ => Nat.rec (motive := fun _ => Trie α)
        (t.at_ (.node none (ih .leaf (Nat.div k' 2) x) .leaf) (fun v l r => .node v (ih l (Nat.div k' 2) x) r))
        (fun _ _ => t.at_ (.node none .leaf (ih .leaf (Nat.div k' 2) x)) (fun v l r => .node v l (ih r (Nat.div k' 2) x))) (Nat.mod k' 2)) k) d

theorem Trie.get_leaf {α : Type} (k : Nat) : (Trie.leaf : Trie α).get k = none := rfl
theorem Trie.get_zero {α : Type} (v : Option α) (l r : Trie α) : (Trie.node v l r).get 0 = v := rfl
theorem Trie.get_left {α : Type} (v : Option α) (l r : Trie α) (j : Nat) : (Trie.node v l r).get (2 * j + 1) = l.get j := by
  show Nat.rec (motive := fun _ => Option α) (l.get (Nat.div (2 * j) 2)) (fun _ _ => r.get (Nat.div (2 * j) 2)) (Nat.mod (2 * j) 2) = _
  have h1 : Nat.mod (2 * j) 2 = 0 := Nat.mul_mod_right 2 j
  have h2 : Nat.div (2 * j) 2 = j := Nat.mul_div_cancel_left j (by decide)
  rw [h1, h2]; rfl
theorem Trie.get_right {α : Type} (v : Option α) (l r : Trie α) (j : Nat) : (Trie.node v l r).get (2 * j + 2) = r.get j := by
  show Nat.rec (motive := fun _ => Option α) (l.get (Nat.div (2 * j + 1) 2)) (fun _ _ => r.get (Nat.div (2 * j + 1) 2)) (Nat.mod (2 * j + 1) 2) = _
  have h1 : Nat.mod (2 * j + 1) 2 = 1 := by show (2 * j + 1) % 2 = 1; omega
  have h2 : Nat.div (2 * j + 1) 2 = j := by show (2 * j + 1) / 2 = j; omega
  rw [h1, h2]; rfl
theorem Trie.set_zero {α : Type} (d : Nat) (t : Trie α) (x : Option α) : t.set (d + 1) 0 x = t.at_ (.node x .leaf .leaf) (fun _ l r => .node x l r) := rfl
theorem Trie.set_left {α : Type} (d : Nat) (t : Trie α) (j : Nat) (x : Option α) : t.set (d + 1) (2 * j + 1) x = t.at_ (.node none (Trie.leaf.set d j x) .leaf) (fun v l r => .node v (l.set d j x) r) := by
  show Nat.rec (motive := fun _ => Trie α) (t.at_ (.node none (Trie.leaf.set d (Nat.div (2 * j) 2) x) .leaf) (fun v l r => .node v (l.set d (Nat.div (2 * j) 2) x) r)) (fun _ _ => t.at_ (.node none .leaf (Trie.leaf.set d (Nat.div (2 * j) 2) x)) (fun v l r => .node v l (r.set d (Nat.div (2 * j) 2) x))) (Nat.mod (2 * j) 2) = _
  have h1 : Nat.mod (2 * j) 2 = 0 := Nat.mul_mod_right 2 j
  have h2 : Nat.div (2 * j) 2 = j := Nat.mul_div_cancel_left j (by decide)
  rw [h1, h2]; rfl
theorem Trie.set_right {α : Type} (d : Nat) (t : Trie α) (j : Nat) (x : Option α) : t.set (d + 1) (2 * j + 2) x = t.at_ (.node none .leaf (Trie.leaf.set d j x)) (fun v l r => .node v l (r.set d j x)) := by
  show Nat.rec (motive := fun _ => Trie α) (t.at_ (.node none (Trie.leaf.set d (Nat.div (2 * j + 1) 2) x) .leaf) (fun v l r => .node v (l.set d (Nat.div (2 * j + 1) 2) x) r)) (fun _ _ => t.at_ (.node none .leaf (Trie.leaf.set d (Nat.div (2 * j + 1) 2) x)) (fun v l r => .node v l (r.set d (Nat.div (2 * j + 1) 2) x))) (Nat.mod (2 * j + 1) 2) = _
  have h1 : Nat.mod (2 * j + 1) 2 = 1 := by show (2 * j + 1) % 2 = 1; omega
  have h2 : Nat.div (2 * j + 1) 2 = j := by show (2 * j + 1) / 2 = j; omega
  rw [h1, h2]; rfl
theorem parts3 (k : Nat) : k = 0 ∨ (∃ j, k = 2 * j + 1) ∨ ∃ j, k = 2 * j + 2 := by
  rcases Nat.eq_zero_or_pos k with h | h
  · exact .inl h
  · rcases Nat.mod_two_eq_zero_or_one k with h2 | h2
    · exact .inr (.inr ⟨k / 2 - 1, by omega⟩)
    · exact .inr (.inl ⟨k / 2, by omega⟩)

theorem Trie.get_set {α : Type} : ∀ (d : Nat) (t : Trie α) (k k' : Nat) (v : Option α), k + 1 < 2 ^ d → (t.set d k v).get k' = if k' = k then v else t.get k' := by
  intro d
  induction d with
  | zero => intro t k k' v h; simp at h
  | succ d ih =>
    intro t k k' v h
    have hd : 2 ^ (d + 1) = 2 * 2 ^ d := by rw [Nat.pow_succ]; omega
    rcases parts3 k with rfl | ⟨j, rfl⟩ | ⟨j, rfl⟩
    · rw [set_zero]
      cases t with
      | leaf =>
        show (Trie.node v .leaf .leaf).get k' = _
        rcases parts3 k' with rfl | ⟨i, rfl⟩ | ⟨i, rfl⟩
        · simp [get_zero]
        · rw [get_left, if_neg (by omega)]; rfl
        · rw [get_right, if_neg (by omega)]; rfl
      | node u l r =>
        show (Trie.node v l r).get k' = _
        rcases parts3 k' with rfl | ⟨i, rfl⟩ | ⟨i, rfl⟩
        · simp [get_zero]
        · rw [get_left, if_neg (by omega), get_left]
        · rw [get_right, if_neg (by omega), get_right]
    · rw [set_left]
      have hj : j + 1 < 2 ^ d := by omega
      cases t with
      | leaf =>
        show (Trie.node none (Trie.leaf.set d j v) .leaf).get k' = _
        rcases parts3 k' with rfl | ⟨i, rfl⟩ | ⟨i, rfl⟩
        · rw [get_zero, if_neg (by omega)]; rfl
        · rw [get_left, ih _ _ _ _ hj]
          have : (2 * i + 1 = 2 * j + 1) = (i = j) := by apply propext; omega
          simp only [this, get_leaf]
        · rw [get_right, if_neg (by omega)]; rfl
      | node u l r =>
        show (Trie.node u (l.set d j v) r).get k' = _
        rcases parts3 k' with rfl | ⟨i, rfl⟩ | ⟨i, rfl⟩
        · rw [get_zero, if_neg (by omega), get_zero]
        · rw [get_left, ih _ _ _ _ hj, get_left]
          have : (2 * i + 1 = 2 * j + 1) = (i = j) := by apply propext; omega
          simp only [this]
        · rw [get_right, if_neg (by omega), get_right]
    · rw [set_right]
      have hj : j + 1 < 2 ^ d := by omega
      cases t with
      | leaf =>
        show (Trie.node none .leaf (Trie.leaf.set d j v)).get k' = _
        rcases parts3 k' with rfl | ⟨i, rfl⟩ | ⟨i, rfl⟩
        · rw [get_zero, if_neg (by omega)]; rfl
        · rw [get_left, if_neg (by omega)]; rfl
        · rw [get_right, ih _ _ _ _ hj]
          have : (2 * i + 2 = 2 * j + 2) = (i = j) := by apply propext; omega
          simp only [this, get_leaf]
      | node u l r =>
        show (Trie.node u l (r.set d j v)).get k' = _
        rcases parts3 k' with rfl | ⟨i, rfl⟩ | ⟨i, rfl⟩
        · rw [get_zero, if_neg (by omega), get_zero]
        · rw [get_left, if_neg (by omega), get_left]
        · rw [get_right, ih _ _ _ _ hj, get_right]
          have : (2 * i + 2 = 2 * j + 2) = (i = j) := by apply propext; omega
          simp only [this]

/-- The names that are only read: below lo; the variables of the program: below G. -/
structure Lim where
  lo : Nat
  G : Nat

/-! ### Memory by names -/
structure MemI (μ : Type) where
  get : μ → Nat → Option Obj
  set : μ → Nat → Option Obj → μ
  ok : Nat → Bool
  law : ∀ m k o k', ok k = true → get (set m k o) k' = if k' = k then o else get m k'

/-- The memory that the kernel reckons with: new names in a trie. -/
noncomputable def trieI : MemI (Trie Obj) where
  get m k := m.get k
  set m k o := m.set 24 k o
  ok k := Nat.blt k 16777215
  law m k o k' h := Trie.get_set 24 m k k' o (by simp [Nat.blt] at h; omega)

structure St (μ : Type) where
  next : Nat
  mem : μ
  T : Nat
  W : Nat

variable {μ : Type} {I : MemI μ}

/-- What a run leaves: more names, more marks; what is not marked as written is as it was. -/
structure St.Le (I : MemI μ) (s s' : St μ) : Prop where
  next : s.next ≤ s'.next
  T : ∀ k, s.T.testBit k = true → s'.T.testBit k = true
  W : ∀ k, s.W.testBit k = true → s'.W.testBit k = true
  mem : ∀ k, s'.W.testBit k = false → I.get s'.mem k = I.get s.mem k

theorem St.Le.refl (s : St μ) : St.Le I s s := ⟨Nat.le_refl _, fun _ h => h, fun _ h => h, fun _ _ => rfl⟩
theorem St.Le.trans {a b c : St μ} (h : St.Le I a b) (k : St.Le I b c) : St.Le I a c :=
  ⟨Nat.le_trans h.next k.next, fun i hi => k.T i (h.T i hi), fun i hi => k.W i (h.W i hi), fun i hi => by
    rw [k.mem i hi]
    refine h.mem i ?_
    cases e : b.W.testBit i
    · rfl
    · rw [k.W i e] at hi; cases hi⟩

structure M (I : MemI μ) (α : Type) : Type where
  run : St μ → Option (α × St μ)
  le : ∀ s a s', run s = some (a, s') → St.Le I s s'

def M.pure {α : Type} (a : α) : M I α := ⟨fun s => some (a, s), fun s b s' h => by cases h; exact .refl s⟩
def M.bind {α β : Type} (m : M I α) (f : α → M I β) : M I β :=
  ⟨fun s => match m.run s with
    | none => none
    | some (a, s1) => (f a).run s1, fun s b s' h => by
      cases e : m.run s with
      | none => rw [e] at h; cases h
      | some x => obtain ⟨a, s1⟩ := x; rw [e] at h; exact (m.le _ _ _ e).trans ((f a).le _ _ _ h)⟩
def fail {α : Type} : M I α := ⟨fun _ => none, fun _ _ _ h => by cases h⟩
instance : Monad (M I) where
  pure := M.pure
  bind := M.bind

theorem pure_run {α : Type} {a b : α} {s s' : St μ} (h : (Pure.pure a : M I α).run s = some (b, s')) : b = a ∧ s' = s := by
  cases h; exact ⟨rfl, rfl⟩
theorem bind_run {α β : Type} {m : M I α} {f : α → M I β} {s s' : St μ} {b : β} (h : (m >>= f).run s = some (b, s')) : ∃ a s1, m.run s = some (a, s1) ∧ (f a).run s1 = some (b, s') := by
  change (M.bind m f).run s = _ at h
  simp only [M.bind] at h
  cases e : m.run s with
  | none => rw [e] at h; cases h
  | some x => obtain ⟨a, s1⟩ := x; rw [e] at h; exact ⟨a, s1, rfl, h⟩
theorem fail_run {α : Type} {s s' : St μ} {b : α} (h : (fail : M I α).run s = some (b, s')) : False := by cases h

theorem testBit_mark (n k i : Nat) : (n ||| 1 <<< k).testBit i = (n.testBit i || decide (i = k)) := by
  rw [Nat.testBit_or, Nat.testBit_shiftLeft]
  congr 1
  have one : ∀ j, Nat.testBit 1 j = decide (j = 0) := fun j => by
    rcases j with _ | j
    · rfl
    · simp [Nat.testBit_succ]
  rw [one]
  by_cases h : i = k
  · subst h; simp
  · by_cases h2 : k ≤ i
    · have : i - k ≠ 0 := by omega
      simp [this, h]
    · simp [h2, h]

/-- Reads an object. -/
def rd (k : Nat) : M I Obj := ⟨fun s => match I.get s.mem k with
    | none => none
    | some o => some (o, ⟨s.next, s.mem, bif s.T.testBit k then s.T else s.T ||| 1 <<< k, s.W⟩), fun s a s' h => by
  cases e : I.get s.mem k with
  | none => rw [e] at h; cases h
  | some o =>
    rw [e] at h; cases h
    refine ⟨Nat.le_refl _, fun i hi => ?_, fun _ h => h, fun _ _ => rfl⟩
    cases hb : s.T.testBit k <;> simp only [hb, cond_true, cond_false, testBit_mark, hi, Bool.true_or]⟩
theorem rd_run {k : Nat} {s s' : St μ} {o : Obj} (h : (rd k : M I Obj).run s = some (o, s')) :
    I.get s.mem k = some o ∧ s'.next = s.next ∧ s'.mem = s.mem ∧ s'.W = s.W ∧ s'.T.testBit k = true := by
  simp only [rd] at h
  cases e : I.get s.mem k with
  | none => rw [e] at h; cases h
  | some o =>
    rw [e] at h; cases h
    refine ⟨rfl, rfl, rfl, rfl, ?_⟩
    cases hb : s.T.testBit k
    · simp only [cond_false, testBit_mark, decide_true, Bool.or_true]
    · simp only [cond_true, hb]

/-- Writes an object that is there, at a name from lo on. -/
def wr (lo : Lim) (k : Nat) (o : Option Obj) : M I Unit := ⟨fun s =>
    bif Nat.ble lo.lo k && I.ok k && (I.get s.mem k).isSome then
      some ((), ⟨s.next, I.set s.mem k o, s.T, bif s.W.testBit k then s.W else s.W ||| 1 <<< k⟩)
    else none, fun s a s' h => by
  cases e : (Nat.ble lo.lo k && I.ok k && (I.get s.mem k).isSome) with
  | false => rw [e] at h; cases h
  | true =>
    rw [e] at h; cases h
    simp only [Bool.and_eq_true] at e
    refine ⟨Nat.le_refl _, fun _ h => h, fun i hi => ?_, fun i hi => ?_⟩
    · cases hb : s.W.testBit k <;> simp only [cond_true, cond_false, testBit_mark, hi, Bool.true_or]
    · simp only [I.law _ _ _ _ e.1.2]
      rw [if_neg]
      intro e2; subst e2
      cases hb : s.W.testBit i
      · simp only [hb, cond_false, testBit_mark, decide_true, Bool.or_true] at hi; cases hi
      · simp only [hb, cond_true] at hi; cases hi⟩
theorem wr_run {lo : Lim} {k : Nat} {s s' : St μ} {o : Option Obj} {u : Unit} (h : (wr lo k o : M I Unit).run s = some (u, s')) :
    lo.lo ≤ k ∧ (∃ o0, I.get s.mem k = some o0) ∧ s'.next = s.next ∧ s'.T = s.T ∧ (∀ i, s'.W.testBit i = (s.W.testBit i || decide (i = k))) ∧
      ∀ i, I.get s'.mem i = if i = k then o else I.get s.mem i := by
  simp only [wr] at h
  cases e : (Nat.ble lo.lo k && I.ok k && (I.get s.mem k).isSome) with
  | false => rw [e] at h; cases h
  | true =>
    rw [e] at h; cases h
    simp only [Bool.and_eq_true] at e
    obtain ⟨⟨e1, e2⟩, e3⟩ := e
    refine ⟨Nat.le_of_ble_eq_true e1, Option.isSome_iff_exists.1 e3, rfl, rfl, fun i => ?_, fun i => I.law _ _ _ _ e2⟩
    cases hb : s.W.testBit k
    · simp only [cond_false, testBit_mark]
    · by_cases hi : i = k
      · subst hi; simp [hb]
      · simp [hi]

/-- A new object. -/
def new (o : Obj) : M I Nat := ⟨fun s =>
    bif I.ok s.next && !(I.get s.mem s.next).isSome then
      some (s.next, ⟨s.next + 1, I.set s.mem s.next (some o), s.T, s.W ||| 1 <<< s.next⟩)
    else none, fun s a s' h => by
  cases e : (I.ok s.next && !(I.get s.mem s.next).isSome) with
  | false => rw [e] at h; cases h
  | true =>
    rw [e] at h; cases h
    simp only [Bool.and_eq_true] at e
    refine ⟨Nat.le_succ _, fun _ h => h, fun i hi => ?_, fun i hi => ?_⟩
    · simp only [testBit_mark, hi, Bool.true_or]
    · simp only [I.law _ _ _ _ e.1]
      rw [if_neg]
      intro e2; subst e2
      simp only [testBit_mark, decide_true, Bool.or_true] at hi; cases hi⟩
theorem new_run {s s' : St μ} {o : Obj} {k : Nat} (h : (new o : M I Nat).run s = some (k, s')) :
    k = s.next ∧ I.get s.mem k = none ∧ s'.next = s.next + 1 ∧ s'.T = s.T ∧ (∀ i, s'.W.testBit i = (s.W.testBit i || decide (i = k))) ∧
      ∀ i, I.get s'.mem i = if i = k then some o else I.get s.mem i := by
  simp only [new] at h
  cases e : (I.ok s.next && !(I.get s.mem s.next).isSome) with
  | false => rw [e] at h; cases h
  | true =>
    rw [e] at h; cases h
    simp only [Bool.and_eq_true] at e
    obtain ⟨e1, e2⟩ := e
    refine ⟨rfl, by simpa using e2, rfl, rfl, fun i => testBit_mark _ _ _, fun i => I.law _ _ _ _ e1⟩

/-! ### Names and blocks; values -/
abbrev Env := Nat → Option (Nat × Nat)

inductive VR (E : Env) : Value → Value → Prop
  | bool (b : Bool) : VR E (.bool b) (.bool b)
  | int (k : IntKind) (n : Int) : VR E (.int k n) (.int k n)
  | float (k : FloatKind) (n : Nat) : VR E (.float k n) (.float k n)
  | cplx (k : FloatKind) (n m : Nat) : VR E (.complex k n m) (.complex k n m)
  | string (s : ByteArray) : VR E (.string s) (.string s)
  | nilp : VR E (.pointer none) (.pointer none)
  | ptr {k o b r : Nat} : E k = some (b, r) → VR E (.pointer (some ⟨k, o, none⟩)) (.pointer (some ⟨b, o, none⟩))
  | nils (n c : Nat) : VR E (.slice none n c) (.slice none n c)
  | slice {k o b r : Nat} (n c : Nat) : E k = some (b, r) → VR E (.slice (some ⟨k, o, none⟩) n c) (.slice (some ⟨b, o, none⟩) n c)
  | wide {k o b r : Nat} (n c : Nat) : E k = some (b, r) → VR E (.slice (some ⟨k, o, some 0⟩) n c) (.slice (some ⟨b, o, none⟩) n (c + r))
  | nilm : VR E (.map none) (.map none)
  | map {k b r : Nat} : E k = some (b, r) → VR E (.map (some k)) (.map (some b))
  | func {f : FuncId} {as bs cs ds : Array Value} : as.size = cs.size → (∀ a c : Value, ∀ j : Nat, as[j]? = some a → cs[j]? = some c → VR E a c) →
      bs.size = ds.size → (∀ a c : Value, ∀ j : Nat, bs[j]? = some a → ds[j]? = some c → VR E a c) → VR E (.func (.func f) as bs) (.func (.func f) cs ds)
  | yield {l b r : Nat} : E l = some (b, r) → VR E (.func (.yield l) #[] #[]) (.func (.yield b) #[] #[])
  | nilf : VR E .nilFunc .nilFunc
  | iface {v v' : Value} (t : TypeId) : VR E v v' → VR E (.iface t v) (.iface t v')
  | nili : VR E .nilIface .nilIface
  | agg {as cs : Array Value} : as.size = cs.size → (∀ a c : Value, ∀ j : Nat, as[j]? = some a → cs[j]? = some c → VR E a c) → VR E (.agg as) (.agg cs)
  | tuple {as cs : Array Value} : as.size = cs.size → (∀ a c : Value, ∀ j : Nat, as[j]? = some a → cs[j]? = some c → VR E a c) → VR E (.tuple as) (.tuple cs)

/-- Rows of values, element by element. -/
def ARl (E : Env) (as cs : Array Value) : Prop := as.size = cs.size ∧ ∀ a c : Value, ∀ j : Nat, as[j]? = some a → cs[j]? = some c → VR E a c

structure Env.Ext (E E' : Env) (a b : Nat) : Prop where
  keep : ∀ k x, E k = some x → E' k = some x
  dom : ∀ k, E' k ≠ none → E k ≠ none ∨ (a ≤ k ∧ k < b)

theorem Env.Ext.refl (E : Env) (a : Nat) : Env.Ext E E a a := ⟨fun _ _ h => h, fun _ h => .inl h⟩
theorem Env.Ext.trans {E E1 E2 : Env} {a b c : Nat} (h : Env.Ext E E1 a b) (k : Env.Ext E1 E2 b c) (hab : a ≤ b) (hbc : b ≤ c) : Env.Ext E E2 a c :=
  ⟨fun i x hi => k.keep i x (h.keep i x hi), fun i hi => by
    rcases k.dom i hi with h1 | h1
    · rcases h.dom i h1 with h2 | h2
      · exact .inl h2
      · exact .inr (by omega)
    · exact .inr (by omega)⟩

theorem VR.mono {E E' : Env} (hE : ∀ k x, E k = some x → E' k = some x) {v v' : Value} (h : VR E v v') : VR E' v v' := by
  induction h with
  | bool b => exact .bool b
  | int k n => exact .int k n
  | float k n => exact .float k n
  | cplx k n m => exact .cplx k n m
  | string s => exact .string s
  | nilp => exact .nilp
  | ptr h => exact .ptr (hE _ _ h)
  | nils n c => exact .nils n c
  | slice n c h => exact .slice n c (hE _ _ h)
  | wide n c h => exact .wide n c (hE _ _ h)
  | nilm => exact .nilm
  | map h => exact .map (hE _ _ h)
  | func h1 h2 h3 h4 i1 i2 => exact .func h1 i1 h3 i2
  | yield h => exact .yield (hE _ _ h)
  | nilf => exact .nilf
  | iface t h ih => exact .iface t ih
  | nili => exact .nili
  | agg h1 h2 ih => exact .agg h1 ih
  | tuple h1 h2 ih => exact .tuple h1 ih

theorem ARl.mono {E E' : Env} (hE : ∀ k x, E k = some x → E' k = some x) {as cs : Array Value} (h : ARl E as cs) : ARl E' as cs :=
  ⟨h.1, fun a c j ha hc => (h.2 a c j ha hc).mono hE⟩

/-- A value without addresses. -/
def gnd : Nat → Value → Bool
  | _, .bool _ | _, .int _ _ | _, .float _ _ | _, .complex _ _ _ | _, .string _ | _, .pointer none | _, .slice none _ _ | _, .map none | _, .nilFunc | _, .nilIface => true
  | n + 1, .iface _ v => gnd n v
  | n + 1, .agg cs => cs.toList.all (gnd n)
  | n + 1, .tuple cs => cs.toList.all (gnd n)
  | _, .func (.func _) ⟨[]⟩ ⟨[]⟩ => true
  | _, _ => false

theorem all_getElem? {cs : Array Value} {p : Value → Bool} (h : cs.toList.all p = true) {j : Nat} {a : Value} (ha : cs[j]? = some a) : p a = true := by
  rw [List.all_eq_true] at h
  exact h a (by rw [← Array.getElem?_toList] at ha; exact List.mem_of_getElem? ha)

theorem gnd_refl (E : Env) : ∀ (n : Nat) (v : Value), gnd n v = true → VR E v v := by
  intro n
  induction n with
  | zero =>
    intro v h
    cases v with
    | bool b => exact .bool b
    | int k n => exact .int k n
    | float k n => exact .float k n
    | complex k n m => exact .cplx k n m
    | string s => exact .string s
    | pointer a => cases a <;> simp [gnd] at h; exact .nilp
    | slice a n c => cases a <;> simp [gnd] at h; exact .nils n c
    | map r => cases r <;> simp [gnd] at h; exact .nilm
    | chan r => simp [gnd] at h
    | func fn as bs =>
      unfold gnd at h
      split at h <;> first | (simp at h; done) | skip
      all_goals first
        | cases ‹_ = Value.func _ _ _›
        | skip
      all_goals simp_all
      exact .func rfl (fun _ _ j h => by simp at h) rfl (fun _ _ j h => by simp at h)
    | nilFunc => exact .nilf
    | iface t v => simp [gnd] at h
    | nilIface => exact .nili
    | agg cs => simp [gnd] at h
    | tuple cs => simp [gnd] at h
  | succ n ih =>
    intro v h
    cases v with
    | bool b => exact .bool b
    | int k n => exact .int k n
    | float k n => exact .float k n
    | complex k n m => exact .cplx k n m
    | string s => exact .string s
    | pointer a => cases a <;> simp [gnd] at h; exact .nilp
    | slice a n c => cases a <;> simp [gnd] at h; exact .nils n c
    | map r => cases r <;> simp [gnd] at h; exact .nilm
    | chan r => simp [gnd] at h
    | func fn as bs =>
      unfold gnd at h
      split at h <;> first | (simp at h; done) | skip
      all_goals simp_all
      exact .func rfl (fun _ _ j h => by simp at h) rfl (fun _ _ j h => by simp at h)
    | nilFunc => exact .nilf
    | iface t v => exact .iface t (ih v h)
    | nilIface => exact .nili
    | agg cs => exact .agg rfl fun a c j ha hc => by rw [ha] at hc; cases hc; exact ih a (all_getElem? h ha)
    | tuple cs => exact .tuple rfl fun a c j ha hc => by rw [ha] at hc; cases hc; exact ih a (all_getElem? h ha)
end Go.Am
