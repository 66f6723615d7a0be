/- An abstract evaluator of the model's code: its memory, its values, and how they stand for the model's. Conditions: none. -/
import Derived.WalkKit
import Derived.WalkSpells
import Derived.WalkLawsBesides
import Derived.Below
import Derived.Laws.CopyRow
import Derived.Laws.AppendOwn
import Derived.Laws.MakeOwn
import Derived.Laws.Tables
import Derived.Laws.Cells
import Derived.ChangeKeysEq
set_option linter.unusedVariables false
set_option linter.unusedSimpArgs false
namespace Go.Am
open Go Go.RowKit
set_option linter.unusedVariables false

/-! ### Tries -/
inductive Trie (α : Type) where
  | leaf
  | node (v : Option α) (l r : Trie α)

/-- A choice that the kernel makes in one step. -/
noncomputable def bsel {β : Type} (c : Bool) (a b : β) : β := Bool.rec (motive := fun _ => β) b a c
@[simp] theorem bsel_true {β : Type} (a b : β) : bsel true a b = a := rfl
@[simp] theorem bsel_false {β : Type} (a b : β) : bsel false a b = b := rfl
noncomputable def nsel {β : Type} (n : Nat) (z : β) (s : Nat → β) : β := Nat.rec (motive := fun _ => β) z (fun k _ => s k) n
@[simp] theorem nsel_zero {β : Type} (z : β) (s : Nat → β) : nsel 0 z s = z := rfl
@[simp] theorem nsel_succ {β : Type} (k : Nat) (z : β) (s : Nat → β) : nsel (k + 1) z s = s k := rfl

/-- What lies at a number: 0 here; k + 1 to the left or the right, by k's last bit. -/
noncomputable def Trie.get {α : Type} (t : Trie α) : Nat → Option α :=
  Trie.rec (motive := fun _ => Nat → Option α) (fun _ => none) (fun v _ _ l r k => Nat.rec (motive := fun _ => Option α) v (fun k' _ => Nat.rec (motive := fun _ => Option α) (l (Nat.div k' 2)) (fun _ _ => r (Nat.div k' 2)) (Nat.mod k' 2)) k) t
noncomputable def Trie.at_ {α β : Type} (t : Trie α) (a : β) (f : Option α → Trie α → Trie α → β) : β := Trie.rec (motive := fun _ => β) a (fun v l r _ _ => f v l r) t
noncomputable def Trie.set {α : Type} (d : Nat) : Trie α → Nat → Option α → Trie α :=
  Nat.rec (motive := fun _ => Trie α → Nat → Option α → Trie α) (fun t _ _ => t)
    (fun _ ih t k x => Nat.rec (motive := fun _ => Trie α) (t.at_ (.node x .leaf .leaf) (fun _ l r => .node x l r))
      (fun k' _ => Nat.rec (motive := fun _ => Trie α)
        (t.at_ (.node none (ih .leaf (Nat.div k' 2) x) .leaf) (fun v l r => .node v (ih l (Nat.div k' 2) x) r))
        (fun _ _ => t.at_ (.node none .leaf (ih .leaf (Nat.div k' 2) x)) (fun v l r => .node v l (ih r (Nat.div k' 2) x))) (Nat.mod k' 2)) k) d

theorem Trie.get_leaf {α : Type} (k : Nat) : (Trie.leaf : Trie α).get k = none := rfl
theorem Trie.get_zero {α : Type} (v : Option α) (l r : Trie α) : (Trie.node v l r).get 0 = v := rfl
theorem Trie.get_left {α : Type} (v : Option α) (l r : Trie α) (j : Nat) : (Trie.node v l r).get (2 * j + 1) = l.get j := by
  show Nat.rec (motive := fun _ => Option α) (l.get (Nat.div (2 * j) 2)) (fun _ _ => r.get (Nat.div (2 * j) 2)) (Nat.mod (2 * j) 2) = _
  have h1 : Nat.mod (2 * j) 2 = 0 := Nat.mul_mod_right 2 j
  have h2 : Nat.div (2 * j) 2 = j := Nat.mul_div_cancel_left j (by decide)
  rw [h1, h2]; rfl
theorem Trie.get_right {α : Type} (v : Option α) (l r : Trie α) (j : Nat) : (Trie.node v l r).get (2 * j + 2) = r.get j := by
  show Nat.rec (motive := fun _ => Option α) (l.get (Nat.div (2 * j + 1) 2)) (fun _ _ => r.get (Nat.div (2 * j + 1) 2)) (Nat.mod (2 * j + 1) 2) = _
  have h1 : Nat.mod (2 * j + 1) 2 = 1 := by show (2 * j + 1) % 2 = 1; omega
  have h2 : Nat.div (2 * j + 1) 2 = j := by show (2 * j + 1) / 2 = j; omega
  rw [h1, h2]; rfl
theorem Trie.set_zero {α : Type} (d : Nat) (t : Trie α) (x : Option α) : t.set (d + 1) 0 x = t.at_ (.node x .leaf .leaf) (fun _ l r => .node x l r) := rfl
theorem Trie.set_left {α : Type} (d : Nat) (t : Trie α) (j : Nat) (x : Option α) : t.set (d + 1) (2 * j + 1) x = t.at_ (.node none (Trie.leaf.set d j x) .leaf) (fun v l r => .node v (l.set d j x) r) := by
  show Nat.rec (motive := fun _ => Trie α) (t.at_ (.node none (Trie.leaf.set d (Nat.div (2 * j) 2) x) .leaf) (fun v l r => .node v (l.set d (Nat.div (2 * j) 2) x) r)) (fun _ _ => t.at_ (.node none .leaf (Trie.leaf.set d (Nat.div (2 * j) 2) x)) (fun v l r => .node v l (r.set d (Nat.div (2 * j) 2) x))) (Nat.mod (2 * j) 2) = _
  have h1 : Nat.mod (2 * j) 2 = 0 := Nat.mul_mod_right 2 j
  have h2 : Nat.div (2 * j) 2 = j := Nat.mul_div_cancel_left j (by decide)
  rw [h1, h2]; rfl
theorem Trie.set_right {α : Type} (d : Nat) (t : Trie α) (j : Nat) (x : Option α) : t.set (d + 1) (2 * j + 2) x = t.at_ (.node none .leaf (Trie.leaf.set d j x)) (fun v l r => .node v l (r.set d j x)) := by
  show Nat.rec (motive := fun _ => Trie α) (t.at_ (.node none (Trie.leaf.set d (Nat.div (2 * j + 1) 2) x) .leaf) (fun v l r => .node v (l.set d (Nat.div (2 * j + 1) 2) x) r)) (fun _ _ => t.at_ (.node none .leaf (Trie.leaf.set d (Nat.div (2 * j + 1) 2) x)) (fun v l r => .node v l (r.set d (Nat.div (2 * j + 1) 2) x))) (Nat.mod (2 * j + 1) 2) = _
  have h1 : Nat.mod (2 * j + 1) 2 = 1 := by show (2 * j + 1) % 2 = 1; omega
  have h2 : Nat.div (2 * j + 1) 2 = j := by show (2 * j + 1) / 2 = j; omega
  rw [h1, h2]; rfl
theorem parts3 (k : Nat) : k = 0 ∨ (∃ j, k = 2 * j + 1) ∨ ∃ j, k = 2 * j + 2 := by
  rcases Nat.eq_zero_or_pos k with h | h
  · exact .inl h
  · rcases Nat.mod_two_eq_zero_or_one k with h2 | h2
    · exact .inr (.inr ⟨k / 2 - 1, by omega⟩)
    · exact .inr (.inl ⟨k / 2, by omega⟩)

theorem Trie.get_set {α : Type} : ∀ (d : Nat) (t : Trie α) (k k' : Nat) (v : Option α), k + 1 < 2 ^ d → (t.set d k v).get k' = if k' = k then v else t.get k' := by
  intro d
  induction d with
  | zero => intro t k k' v h; simp at h
  | succ d ih =>
    intro t k k' v h
    have hd : 2 ^ (d + 1) = 2 * 2 ^ d := by rw [Nat.pow_succ]; omega
    rcases parts3 k with rfl | ⟨j, rfl⟩ | ⟨j, rfl⟩
    · rw [set_zero]
      cases t with
      | leaf =>
        show (Trie.node v .leaf .leaf).get k' = _
        rcases parts3 k' with rfl | ⟨i, rfl⟩ | ⟨i, rfl⟩
        · simp [get_zero]
        · rw [get_left, if_neg (by omega)]; rfl
        · rw [get_right, if_neg (by omega)]; rfl
      | node u l r =>
        show (Trie.node v l r).get k' = _
        rcases parts3 k' with rfl | ⟨i, rfl⟩ | ⟨i, rfl⟩
        · simp [get_zero]
        · rw [get_left, if_neg (by omega), get_left]
        · rw [get_right, if_neg (by omega), get_right]
    · rw [set_left]
      have hj : j + 1 < 2 ^ d := by omega
      cases t with
      | leaf =>
        show (Trie.node none (Trie.leaf.set d j v) .leaf).get k' = _
        rcases parts3 k' with rfl | ⟨i, rfl⟩ | ⟨i, rfl⟩
        · rw [get_zero, if_neg (by omega)]; rfl
        · rw [get_left, ih _ _ _ _ hj]
          have : (2 * i + 1 = 2 * j + 1) = (i = j) := by apply propext; omega
          simp only [this, get_leaf]
        · rw [get_right, if_neg (by omega)]; rfl
      | node u l r =>
        show (Trie.node u (l.set d j v) r).get k' = _
        rcases parts3 k' with rfl | ⟨i, rfl⟩ | ⟨i, rfl⟩
        · rw [get_zero, if_neg (by omega), get_zero]
        · rw [get_left, ih _ _ _ _ hj, get_left]
          have : (2 * i + 1 = 2 * j + 1) = (i = j) := by apply propext; omega
          simp only [this]
        · rw [get_right, if_neg (by omega), get_right]
    · rw [set_right]
      have hj : j + 1 < 2 ^ d := by omega
      cases t with
      | leaf =>
        show (Trie.node none .leaf (Trie.leaf.set d j v)).get k' = _
        rcases parts3 k' with rfl | ⟨i, rfl⟩ | ⟨i, rfl⟩
        · rw [get_zero, if_neg (by omega)]; rfl
        · rw [get_left, if_neg (by omega)]; rfl
        · rw [get_right, ih _ _ _ _ hj]
          have : (2 * i + 2 = 2 * j + 2) = (i = j) := by apply propext; omega
          simp only [this, get_leaf]
      | node u l r =>
        show (Trie.node u l (r.set d j v)).get k' = _
        rcases parts3 k' with rfl | ⟨i, rfl⟩ | ⟨i, rfl⟩
        · rw [get_zero, if_neg (by omega), get_zero]
        · rw [get_left, if_neg (by omega), get_left]
        · rw [get_right, ih _ _ _ _ hj, get_right]
          have : (2 * i + 2 = 2 * j + 2) = (i = j) := by apply propext; omega
          simp only [this]

/-- The names that are only read: below lo; the variables of the program: below G. -/
structure Lim where
  lo : Nat
  G : Nat

/-! ### Memory by names -/
structure MemI (μ : Type) where
  get : μ → Nat → Option Obj
  set : μ → Nat → Option Obj → μ
  ok : Nat → Bool
  law : ∀ m k o k', ok k = true → get (set m k o) k' = if k' = k then o else get m k'

/-- The memory that the kernel reckons with: new names in a trie. -/
noncomputable def trieI : MemI (Trie Obj) where
  get m k := m.get k
  set m k o := m.set 24 k o
  ok k := Nat.blt k 16777215
  law m k o k' h := Trie.get_set 24 m k k' o (by simp [Nat.blt] at h; omega)

structure St (μ : Type) where
  next : Nat
  mem : μ
  T : Nat
  W : Nat

variable {μ : Type} {I : MemI μ}

/-- What a run leaves: more names, more marks; what is not marked as written is as it was. -/
structure St.Le (I : MemI μ) (s s' : St μ) : Prop where
  next : s.next ≤ s'.next
  T : ∀ k, s.T.testBit k = true → s'.T.testBit k = true
  W : ∀ k, s.W.testBit k = true → s'.W.testBit k = true
  mem : ∀ k, s'.W.testBit k = false → I.get s'.mem k = I.get s.mem k

theorem St.Le.refl (s : St μ) : St.Le I s s := ⟨Nat.le_refl _, fun _ h => h, fun _ h => h, fun _ _ => rfl⟩
theorem St.Le.trans {a b c : St μ} (h : St.Le I a b) (k : St.Le I b c) : St.Le I a c :=
  ⟨Nat.le_trans h.next k.next, fun i hi => k.T i (h.T i hi), fun i hi => k.W i (h.W i hi), fun i hi => by
    rw [k.mem i hi]
    refine h.mem i ?_
    cases e : b.W.testBit i
    · rfl
    · rw [k.W i e] at hi; cases hi⟩

structure M (I : MemI μ) (α : Type) : Type where
  run : St μ → Option (α × St μ)
  le : ∀ s a s', run s = some (a, s') → St.Le I s s'

def M.pure {α : Type} (a : α) : M I α := ⟨fun s => some (a, s), fun s b s' h => by cases h; exact .refl s⟩
def M.bind {α β : Type} (m : M I α) (f : α → M I β) : M I β :=
  ⟨fun s => match m.run s with
    | none => none
    | some (a, s1) => (f a).run s1, fun s b s' h => by
      cases e : m.run s with
      | none => rw [e] at h; cases h
      | some x => obtain ⟨a, s1⟩ := x; rw [e] at h; exact (m.le _ _ _ e).trans ((f a).le _ _ _ h)⟩
def fail {α : Type} : M I α := ⟨fun _ => none, fun _ _ _ h => by cases h⟩
instance : Monad (M I) where
  pure := M.pure
  bind := M.bind

theorem pure_run {α : Type} {a b : α} {s s' : St μ} (h : (Pure.pure a : M I α).run s = some (b, s')) : b = a ∧ s' = s := by
  cases h; exact ⟨rfl, rfl⟩
theorem bind_run {α β : Type} {m : M I α} {f : α → M I β} {s s' : St μ} {b : β} (h : (m >>= f).run s = some (b, s')) : ∃ a s1, m.run s = some (a, s1) ∧ (f a).run s1 = some (b, s') := by
  change (M.bind m f).run s = _ at h
  simp only [M.bind] at h
  cases e : m.run s with
  | none => rw [e] at h; cases h
  | some x => obtain ⟨a, s1⟩ := x; rw [e] at h; exact ⟨a, s1, rfl, h⟩
theorem fail_run {α : Type} {s s' : St μ} {b : α} (h : (fail : M I α).run s = some (b, s')) : False := by cases h

theorem testBit_mark (n k i : Nat) : (n ||| 1 <<< k).testBit i = (n.testBit i || decide (i = k)) := by
  rw [Nat.testBit_or, Nat.testBit_shiftLeft]
  congr 1
  have one : ∀ j, Nat.testBit 1 j = decide (j = 0) := fun j => by
    rcases j with _ | j
    · rfl
    · simp [Nat.testBit_succ]
  rw [one]
  by_cases h : i = k
  · subst h; simp
  · by_cases h2 : k ≤ i
    · have : i - k ≠ 0 := by omega
      simp [this, h]
    · simp [h2, h]

/-- Reads an object. -/
def rd (k : Nat) : M I Obj := ⟨fun s => match I.get s.mem k with
    | none => none
    | some o => some (o, ⟨s.next, s.mem, bif s.T.testBit k then s.T else s.T ||| 1 <<< k, s.W⟩), fun s a s' h => by
  cases e : I.get s.mem k with
  | none => rw [e] at h; cases h
  | some o =>
    rw [e] at h; cases h
    refine ⟨Nat.le_refl _, fun i hi => ?_, fun _ h => h, fun _ _ => rfl⟩
    cases hb : s.T.testBit k <;> simp only [hb, cond_true, cond_false, testBit_mark, hi, Bool.true_or]⟩
theorem rd_run {k : Nat} {s s' : St μ} {o : Obj} (h : (rd k : M I Obj).run s = some (o, s')) :
    I.get s.mem k = some o ∧ s'.next = s.next ∧ s'.mem = s.mem ∧ s'.W = s.W ∧ s'.T.testBit k = true := by
  simp only [rd] at h
  cases e : I.get s.mem k with
  | none => rw [e] at h; cases h
  | some o =>
    rw [e] at h; cases h
    refine ⟨rfl, rfl, rfl, rfl, ?_⟩
    cases hb : s.T.testBit k
    · simp only [cond_false, testBit_mark, decide_true, Bool.or_true]
    · simp only [cond_true, hb]

/-- Writes an object that is there, at a name from lo on. -/
def wr (lo : Lim) (k : Nat) (o : Option Obj) : M I Unit := ⟨fun s =>
    bif Nat.ble lo.lo k && I.ok k && (I.get s.mem k).isSome then
      some ((), ⟨s.next, I.set s.mem k o, s.T, bif s.W.testBit k then s.W else s.W ||| 1 <<< k⟩)
    else none, fun s a s' h => by
  cases e : (Nat.ble lo.lo k && I.ok k && (I.get s.mem k).isSome) with
  | false => rw [e] at h; cases h
  | true =>
    rw [e] at h; cases h
    simp only [Bool.and_eq_true] at e
    refine ⟨Nat.le_refl _, fun _ h => h, fun i hi => ?_, fun i hi => ?_⟩
    · cases hb : s.W.testBit k <;> simp only [cond_true, cond_false, testBit_mark, hi, Bool.true_or]
    · simp only [I.law _ _ _ _ e.1.2]
      rw [if_neg]
      intro e2; subst e2
      cases hb : s.W.testBit i
      · simp only [hb, cond_false, testBit_mark, decide_true, Bool.or_true] at hi; cases hi
      · simp only [hb, cond_true] at hi; cases hi⟩
theorem wr_run {lo : Lim} {k : Nat} {s s' : St μ} {o : Option Obj} {u : Unit} (h : (wr lo k o : M I Unit).run s = some (u, s')) :
    lo.lo ≤ k ∧ (∃ o0, I.get s.mem k = some o0) ∧ s'.next = s.next ∧ s'.T = s.T ∧ (∀ i, s'.W.testBit i = (s.W.testBit i || decide (i = k))) ∧
      ∀ i, I.get s'.mem i = if i = k then o else I.get s.mem i := by
  simp only [wr] at h
  cases e : (Nat.ble lo.lo k && I.ok k && (I.get s.mem k).isSome) with
  | false => rw [e] at h; cases h
  | true =>
    rw [e] at h; cases h
    simp only [Bool.and_eq_true] at e
    obtain ⟨⟨e1, e2⟩, e3⟩ := e
    refine ⟨Nat.le_of_ble_eq_true e1, Option.isSome_iff_exists.1 e3, rfl, rfl, fun i => ?_, fun i => I.law _ _ _ _ e2⟩
    cases hb : s.W.testBit k
    · simp only [cond_false, testBit_mark]
    · by_cases hi : i = k
      · subst hi; simp [hb]
      · simp [hi]

/-- A new object. -/
def new (o : Obj) : M I Nat := ⟨fun s =>
    bif I.ok s.next && !(I.get s.mem s.next).isSome then
      some (s.next, ⟨s.next + 1, I.set s.mem s.next (some o), s.T, s.W ||| 1 <<< s.next⟩)
    else none, fun s a s' h => by
  cases e : (I.ok s.next && !(I.get s.mem s.next).isSome) with
  | false => rw [e] at h; cases h
  | true =>
    rw [e] at h; cases h
    simp only [Bool.and_eq_true] at e
    refine ⟨Nat.le_succ _, fun _ h => h, fun i hi => ?_, fun i hi => ?_⟩
    · simp only [testBit_mark, hi, Bool.true_or]
    · simp only [I.law _ _ _ _ e.1]
      rw [if_neg]
      intro e2; subst e2
      simp only [testBit_mark, decide_true, Bool.or_true] at hi; cases hi⟩
theorem new_run {s s' : St μ} {o : Obj} {k : Nat} (h : (new o : M I Nat).run s = some (k, s')) :
    k = s.next ∧ I.get s.mem k = none ∧ s'.next = s.next + 1 ∧ s'.T = s.T ∧ (∀ i, s'.W.testBit i = (s.W.testBit i || decide (i = k))) ∧
      ∀ i, I.get s'.mem i = if i = k then some o else I.get s.mem i := by
  simp only [new] at h
  cases e : (I.ok s.next && !(I.get s.mem s.next).isSome) with
  | false => rw [e] at h; cases h
  | true =>
    rw [e] at h; cases h
    simp only [Bool.and_eq_true] at e
    obtain ⟨e1, e2⟩ := e
    refine ⟨rfl, by simpa using e2, rfl, rfl, fun i => testBit_mark _ _ _, fun i => I.law _ _ _ _ e1⟩

/-! ### Names and blocks; values -/
abbrev Env := Nat → Option (Nat × Nat)

inductive VR (E : Env) : Value → Value → Prop
  | bool (b : Bool) : VR E (.bool b) (.bool b)
  | int (k : IntKind) (n : Int) : VR E (.int k n) (.int k n)
  | float (k : FloatKind) (n : Nat) : VR E (.float k n) (.float k n)
  | cplx (k : FloatKind) (n m : Nat) : VR E (.complex k n m) (.complex k n m)
  | string (s : ByteArray) : VR E (.string s) (.string s)
  | nilp : VR E (.pointer none) (.pointer none)
  | ptr {k o b r : Nat} : E k = some (b, r) → VR E (.pointer (some ⟨k, o, none⟩)) (.pointer (some ⟨b, o, none⟩))
  | nils (n c : Nat) : VR E (.slice none n c) (.slice none n c)
  | slice {k o b r : Nat} (n c : Nat) : E k = some (b, r) → VR E (.slice (some ⟨k, o, none⟩) n c) (.slice (some ⟨b, o, none⟩) n c)
  | wide {k o b r : Nat} (n c : Nat) : E k = some (b, r) → VR E (.slice (some ⟨k, o, some 0⟩) n c) (.slice (some ⟨b, o, none⟩) n (c + r))
  | nilm : VR E (.map none) (.map none)
  | map {k b r : Nat} : E k = some (b, r) → VR E (.map (some k)) (.map (some b))
  | func {f : FuncId} {as bs cs ds : Array Value} : as.size = cs.size → (∀ a c : Value, ∀ j : Nat, as[j]? = some a → cs[j]? = some c → VR E a c) →
      bs.size = ds.size → (∀ a c : Value, ∀ j : Nat, bs[j]? = some a → ds[j]? = some c → VR E a c) → VR E (.func (.func f) as bs) (.func (.func f) cs ds)
  | yield {l b r : Nat} : E l = some (b, r) → VR E (.func (.yield l) #[] #[]) (.func (.yield b) #[] #[])
  | nilf : VR E .nilFunc .nilFunc
  | iface {v v' : Value} (t : TypeId) : VR E v v' → VR E (.iface t v) (.iface t v')
  | nili : VR E .nilIface .nilIface
  | agg {as cs : Array Value} : as.size = cs.size → (∀ a c : Value, ∀ j : Nat, as[j]? = some a → cs[j]? = some c → VR E a c) → VR E (.agg as) (.agg cs)
  | tuple {as cs : Array Value} : as.size = cs.size → (∀ a c : Value, ∀ j : Nat, as[j]? = some a → cs[j]? = some c → VR E a c) → VR E (.tuple as) (.tuple cs)

/-- Rows of values, element by element. -/
def ARl (E : Env) (as cs : Array Value) : Prop := as.size = cs.size ∧ ∀ a c : Value, ∀ j : Nat, as[j]? = some a → cs[j]? = some c → VR E a c

structure Env.Ext (E E' : Env) (a b : Nat) : Prop where
  keep : ∀ k x, E k = some x → E' k = some x
  dom : ∀ k, E' k ≠ none → E k ≠ none ∨ (a ≤ k ∧ k < b)

theorem Env.Ext.refl (E : Env) (a : Nat) : Env.Ext E E a a := ⟨fun _ _ h => h, fun _ h => .inl h⟩
theorem Env.Ext.trans {E E1 E2 : Env} {a b c : Nat} (h : Env.Ext E E1 a b) (k : Env.Ext E1 E2 b c) (hab : a ≤ b) (hbc : b ≤ c) : Env.Ext E E2 a c :=
  ⟨fun i x hi => k.keep i x (h.keep i x hi), fun i hi => by
    rcases k.dom i hi with h1 | h1
    · rcases h.dom i h1 with h2 | h2
      · exact .inl h2
      · exact .inr (by omega)
    · exact .inr (by omega)⟩

theorem VR.mono {E E' : Env} (hE : ∀ k x, E k = some x → E' k = some x) {v v' : Value} (h : VR E v v') : VR E' v v' := by
  induction h with
  | bool b => exact .bool b
  | int k n => exact .int k n
  | float k n => exact .float k n
  | cplx k n m => exact .cplx k n m
  | string s => exact .string s
  | nilp => exact .nilp
  | ptr h => exact .ptr (hE _ _ h)
  | nils n c => exact .nils n c
  | slice n c h => exact .slice n c (hE _ _ h)
  | wide n c h => exact .wide n c (hE _ _ h)
  | nilm => exact .nilm
  | map h => exact .map (hE _ _ h)
  | func h1 h2 h3 h4 i1 i2 => exact .func h1 i1 h3 i2
  | yield h => exact .yield (hE _ _ h)
  | nilf => exact .nilf
  | iface t h ih => exact .iface t ih
  | nili => exact .nili
  | agg h1 h2 ih => exact .agg h1 ih
  | tuple h1 h2 ih => exact .tuple h1 ih

theorem ARl.mono {E E' : Env} (hE : ∀ k x, E k = some x → E' k = some x) {as cs : Array Value} (h : ARl E as cs) : ARl E' as cs :=
  ⟨h.1, fun a c j ha hc => (h.2 a c j ha hc).mono hE⟩

/-- A value without addresses. -/
def gnd : Nat → Value → Bool
  | _, .bool _ | _, .int _ _ | _, .float _ _ | _, .complex _ _ _ | _, .string _ | _, .pointer none | _, .slice none _ _ | _, .map none | _, .nilFunc | _, .nilIface => true
  | n + 1, .iface _ v => gnd n v
  | n + 1, .agg cs => cs.toList.all (gnd n)
  | n + 1, .tuple cs => cs.toList.all (gnd n)
  | _, .func (.func _) ⟨[]⟩ ⟨[]⟩ => true
  | _, _ => false

theorem all_getElem? {cs : Array Value} {p : Value → Bool} (h : cs.toList.all p = true) {j : Nat} {a : Value} (ha : cs[j]? = some a) : p a = true := by
  rw [List.all_eq_true] at h
  exact h a (by rw [← Array.getElem?_toList] at ha; exact List.mem_of_getElem? ha)

theorem gnd_refl (E : Env) : ∀ (n : Nat) (v : Value), gnd n v = true → VR E v v := by
  intro n
  induction n with
  | zero =>
    intro v h
    cases v with
    | bool b => exact .bool b
    | int k n => exact .int k n
    | float k n => exact .float k n
    | complex k n m => exact .cplx k n m
    | string s => exact .string s
    | pointer a => cases a <;> simp [gnd] at h; exact .nilp
    | slice a n c => cases a <;> simp [gnd] at h; exact .nils n c
    | map r => cases r <;> simp [gnd] at h; exact .nilm
    | chan r => simp [gnd] at h
    | func fn as bs =>
      unfold gnd at h
      split at h <;> first | (simp at h; done) | skip
      all_goals first
        | cases ‹_ = Value.func _ _ _›
        | skip
      all_goals simp_all
      exact .func rfl (fun _ _ j h => by simp at h) rfl (fun _ _ j h => by simp at h)
    | nilFunc => exact .nilf
    | iface t v => simp [gnd] at h
    | nilIface => exact .nili
    | agg cs => simp [gnd] at h
    | tuple cs => simp [gnd] at h
  | succ n ih =>
    intro v h
    cases v with
    | bool b => exact .bool b
    | int k n => exact .int k n
    | float k n => exact .float k n
    | complex k n m => exact .cplx k n m
    | string s => exact .string s
    | pointer a => cases a <;> simp [gnd] at h; exact .nilp
    | slice a n c => cases a <;> simp [gnd] at h; exact .nils n c
    | map r => cases r <;> simp [gnd] at h; exact .nilm
    | chan r => simp [gnd] at h
    | func fn as bs =>
      unfold gnd at h
      split at h <;> first | (simp at h; done) | skip
      all_goals simp_all
      exact .func rfl (fun _ _ j h => by simp at h) rfl (fun _ _ j h => by simp at h)
    | nilFunc => exact .nilf
    | iface t v => exact .iface t (ih v h)
    | nilIface => exact .nili
    | agg cs => exact .agg rfl fun a c j ha hc => by rw [ha] at hc; cases hc; exact ih a (all_getElem? h ha)
    | tuple cs => exact .tuple rfl fun a c j ha hc => by rw [ha] at hc; cases hc; exact ih a (all_getElem? h ha)
end Go.Am

/- The abstract evaluator's memory against the model's: what a step of it says of the model's. Conditions: none. -/
namespace Go.Am
open Go Go.RowKit
set_option linter.unusedVariables false
set_option linter.unusedSimpArgs false
variable {μ : Type} {I : MemI μ}

theorem VR.arr_eq {E : Env} {as cs : Array Value} {n : Nat} (hs : as.size = cs.size) (hg : as.toList.all (gnd n) = true)
    (h : ∀ a c : Value, ∀ j : Nat, as[j]? = some a → cs[j]? = some c → gnd n a = true → c = a) : cs = as := by
  apply Array.ext hs.symm
  intro j h1 h2
  exact h as[j] cs[j] j (by simp) (by simp) (all_getElem? hg (by simp : as[j]? = some as[j]))

theorem gnd_eq {E : Env} {v v' : Value} (h : VR E v v') : ∀ n, gnd n v = true → v' = v := by
  induction h with
  | bool b => exact fun _ _ => rfl
  | int k n => exact fun _ _ => rfl
  | float k n => exact fun _ _ => rfl
  | cplx k n m => exact fun _ _ => rfl
  | string s => exact fun _ _ => rfl
  | nilp => exact fun _ _ => rfl
  | ptr h => intro n hg; cases n <;> simp [gnd] at hg
  | nils n c => exact fun _ _ => rfl
  | slice n c h => intro n hg; cases n <;> simp [gnd] at hg
  | wide n c h => intro n hg; cases n <;> simp [gnd] at hg
  | nilm => exact fun _ _ => rfl
  | map h => intro n hg; cases n <;> simp [gnd] at hg
  | @func f as bs cs ds h1 h2 h3 h4 i1 i2 =>
    intro n hg
    have : as = #[] ∧ bs = #[] := by
      obtain ⟨la⟩ := as
      obtain ⟨lb⟩ := bs
      cases la with
      | nil => cases lb with
        | nil => exact ⟨rfl, rfl⟩
        | cons x l => cases n <;> simp [gnd] at hg
      | cons x l => cases n <;> simp [gnd] at hg
    obtain ⟨rfl, rfl⟩ := this
    have e1 : cs = #[] := Array.eq_empty_of_size_eq_zero h1.symm
    have e2 : ds = #[] := Array.eq_empty_of_size_eq_zero h3.symm
    rw [e1, e2]
  | yield h => intro n hg; cases n <;> simp [gnd] at hg
  | nilf => exact fun _ _ => rfl
  | iface t h ih =>
    intro n hg
    cases n with
    | zero => simp [gnd] at hg
    | succ n => rw [ih n hg]
  | nili => exact fun _ _ => rfl
  | @agg as cs h1 h2 ih =>
    intro n hg
    cases n with
    | zero => simp [gnd] at hg
    | succ n => rw [VR.arr_eq (E := E) h1 hg fun a c j ha hc hga => ih a c j ha hc n hga]
  | @tuple as cs h1 h2 ih =>
    intro n hg
    cases n with
    | zero => simp [gnd] at hg
    | succ n => rw [VR.arr_eq (E := E) h1 hg fun a c j ha hc hga => ih a c j ha hc n hga]

theorem VR.undef (E : Env) : VR E undef undef := .tuple rfl fun a c j h => by simp at h

/-! ### Objects -/
inductive OR (P : Program) (E : Env) (r : Nat) : Obj → Obj → Prop
  | cells {as cs : Array Value} {e : TypeId} : as.size + r * P.cellsOf e = cs.size → (∀ a c : Value, ∀ j : Nat, as[j]? = some a → cs[j]? = some c → VR E a c) → OR P E r (.cells as e (0, 0)) (.cells cs e (0, 0))
  | seen {as cs : Array Value} {e : TypeId} {fr : Nat × Nat} : as.size = cs.size → (∀ a c : Value, ∀ j : Nat, as[j]? = some a → cs[j]? = some c → VR E a c) → OR P E r (.cells as e (1, 0)) (.cells cs e fr)
  | map {es cs : Array MapEntry} (clock : Nat) : es.size = cs.size → (∀ a c : MapEntry, ∀ j : Nat, es[j]? = some a → cs[j]? = some c → c.key = a.key ∧ c.born = a.born ∧ VR E a.val c.val) →
      OR P E r (.map es clock) (.map cs clock)
  | iter (s : ByteArray) (p : Nat) : OR P E r (.stringIter s p) (.stringIter s p)
  | loop {x y : Loop} {q : Nat} : y.state = x.state → y.pending = x.pending → y.params = x.params → y.assign = x.assign → y.body = x.body → x.tmps.size = y.tmps.size → (∀ a c : Value, ∀ j : Nat, x.tmps[j]? = some a → y.tmps[j]? = some c → VR E a c) → E x.defers = some (y.defers, q) → OR P E r (.loop x) (.loop y)
  | collected : OR P E r (.deferred (some [])) (.deferred (some []))
  | shut : OR P E r (.deferred none) (.deferred none)

theorem OR.mono {P : Program} {E E' : Env} {r : Nat} {o co : Obj} (hE : ∀ k x, E k = some x → E' k = some x) (h : OR P E r o co) : OR P E' r o co := by
  cases h with
  | cells h1 h2 => exact .cells h1 (fun a c j ha hc => (h2 a c j ha hc).mono hE)
  | seen h1 h2 => exact .seen h1 (fun a c j ha hc => (h2 a c j ha hc).mono hE)
  | map clock h1 h2 => exact .map clock h1 fun a c j ha hc => let ⟨x, y, z⟩ := h2 a c j ha hc; ⟨x, y, z.mono hE⟩
  | iter s p => exact .iter s p
  | loop h1 h2 h3 h4 h5 h6 h7 h8 => exact .loop h1 h2 h3 h4 h5 h6 (fun a c j ha hc => (h7 a c j ha hc).mono hE) (hE _ _ h8)
  | collected => exact .collected
  | shut => exact .shut

/-- The world that the call began in, and the names that stand from the beginning. -/
structure Bs where
  w : World
  E : Env

/-- The abstract memory stands for the world. -/
structure Rel (P : Program) (lo : Lim) (w0 : Bs) (E : Env) (g : Nat → Option Obj) (w : World) : Prop where
  below : Below w0.w.heap.size w0.w w
  tie : ∀ k o, g k = some o → ∃ b r co, E k = some (b, r) ∧ w.heap[b]? = some co ∧ OR P E r o co
  inj : ∀ k k' o o' b r r', g k = some o → g k' = some o' → E k = some (b, r) → E k' = some (b, r') → k = k'
  own : ∀ k b r, lo.lo ≤ k → E k = some (b, r) → w0.w.heap.size ≤ b
  old : ∀ k, k < lo.G → E k = some (k, 0)
  kept : ∀ k x, w0.E k = some x → E k = some x

def Agree (I : MemI μ) (s s' : St μ) (g : Nat → Option Obj) : Prop := ∀ k, (s'.T.testBit k || s'.W.testBit k) = true → g k = I.get s.mem k
def Fresh (s s' : St μ) (E : Env) : Prop := ∀ k, s.next ≤ k → k < s'.next → E k = none
def merge (I : MemI μ) (s' : St μ) (g : Nat → Option Obj) : Nat → Option Obj := fun k => if s'.W.testBit k = true then I.get s'.mem k else g k

theorem Agree.first {s s1 s' : St μ} {g : Nat → Option Obj} (h : Agree I s s' g) (hl : St.Le I s1 s') : Agree I s s1 g := fun k hk => by
  refine h k ?_
  rw [Bool.or_eq_true] at hk ⊢
  exact hk.imp (hl.T k) (hl.W k)
theorem Agree.second {s s1 s' : St μ} {g : Nat → Option Obj} (h : Agree I s s' g) (hl0 : St.Le I s s1) (hl : St.Le I s1 s') : Agree I s1 s' (merge I s1 g) := fun k hk => by
  unfold merge
  split
  · rfl
  · rename_i hw
    rw [h k hk]
    exact (hl0.mem k (by simpa using hw)).symm
theorem merge_merge {s1 s' : St μ} (g : Nat → Option Obj) (hl : St.Le I s1 s') : merge I s' (merge I s1 g) = merge I s' g := by
  funext k
  unfold merge
  split
  · rfl
  · rename_i hw
    rw [if_neg]
    intro h; exact hw (hl.W k h)
theorem merge_read {s s' : St μ} {g : Nat → Option Obj} (hA : Agree I s s' g) (hW : ∀ k, s'.W.testBit k = s.W.testBit k) (hm : ∀ k, I.get s'.mem k = I.get s.mem k) : merge I s' g = g := by
  funext k
  unfold merge
  split
  · rename_i h
    rw [hm, hA k (by rw [h, Bool.or_true])]
  · rfl
/-- Behind one write. -/
theorem merge_write {s s' : St μ} {g : Nat → Option Obj} {k0 : Nat} {o : Option Obj} (hA : Agree I s s' g) (hW : ∀ k, s'.W.testBit k = (s.W.testBit k || decide (k = k0))) (hm : ∀ k, I.get s'.mem k = if k = k0 then o else I.get s.mem k) :
    merge I s' g = fun k => if k = k0 then o else g k := by
  funext k
  unfold merge
  by_cases e : k = k0
  · subst e
    simp [hW, hm]
  · simp only [hm, e, if_false]
    split
    · rename_i h
      rw [hA k (by rw [h, Bool.or_true])]
    · rfl

/-- A world in which one block has turned. -/
structure Turned (b : Nat) (co : Obj) (w w' : World) : Prop where
  os : w'.os = w.os
  tape : w'.tape = w.tape
  output : w'.output = w.output
  size : w'.heap.size = w.heap.size
  at_ : w'.heap[b]? = some co
  other : ∀ i, i ≠ b → w'.heap[i]? = w.heap[i]?

variable {P : Program} {lo : Lim} {w0 : Bs}

theorem Rel.lt {E : Env} {g : Nat → Option Obj} {w : World} (h : Rel P lo w0 E g w) {k : Nat} {o : Obj} {b r : Nat} (hg : g k = some o) (hE : E k = some (b, r)) : b < w.heap.size := by
  obtain ⟨b', r', co, h1, h2, _⟩ := h.tie k o hg
  rw [h1] at hE; cases hE
  exact (Array.getElem?_eq_some_iff.1 h2).1

theorem Rel.write {E : Env} {g : Nat → Option Obj} {w w' : World} (h : Rel P lo w0 E g w) {k0 b r : Nat} {o0 o : Obj} {co : Obj} (hg : g k0 = some o0) (hE : E k0 = some (b, r)) (hlo : lo.lo ≤ k0)
    (hw : Turned b co w w') (ho : OR P E r o co) : Rel P lo w0 E (fun k => if k = k0 then some o else g k) w' := by
  refine ⟨?_, ?_, ?_, h.own, h.old, h.kept⟩
  · refine h.below.trans ⟨hw.os, hw.tape, hw.output, Nat.le_of_eq hw.size.symm, fun i hi => hw.other i ?_⟩
    have := h.own k0 b r hlo hE
    omega
  · intro k o' hk
    by_cases e : k = k0
    · subst e
      simp at hk; subst hk
      exact ⟨b, r, co, hE, hw.at_, ho⟩
    · simp [e] at hk
      obtain ⟨b', r', co', h1, h2, h3⟩ := h.tie k o' hk
      refine ⟨b', r', co', h1, ?_, h3⟩
      rw [hw.other b' ?_]
      · exact h2
      · intro eb; subst eb
        exact e (h.inj _ _ _ _ _ _ _ hk hg h1 hE)
  · intro k k' o1 o2 b' r1 r2 h1 h2 e1 e2
    have : ∀ i o', (if i = k0 then some o else g i) = some o' → ∃ o'', g i = some o'' := fun i o' hi => by
      by_cases e : i = k0
      · subst e; exact ⟨o0, hg⟩
      · simp [e] at hi; exact ⟨o', hi⟩
    obtain ⟨o1', h1'⟩ := this _ _ h1
    obtain ⟨o2', h2'⟩ := this _ _ h2
    exact h.inj _ _ _ _ _ _ _ h1' h2' e1 e2

theorem Rel.kill {E : Env} {g : Nat → Option Obj} {w : World} (h : Rel P lo w0 E g w) (k0 : Nat) : Rel P lo w0 E (fun k => if k = k0 then none else g k) w := by
  have : ∀ i o', (if i = k0 then none else g i) = some o' → g i = some o' := fun i o' hi => by
    by_cases e : i = k0
    · simp [e] at hi
    · simpa [e] using hi
  exact ⟨h.below, fun k o hk => h.tie k o (this k o hk), fun k k' o o' b r r' h1 h2 => h.inj k k' o o' b r r' (this _ _ h1) (this _ _ h2), h.own, h.old, h.kept⟩

def Env.put (E : Env) (k b r : Nat) : Env := fun i => if i = k then some (b, r) else E i
theorem Env.put_keep {E : Env} {k b r : Nat} (h : E k = none) : ∀ i x, E i = some x → E.put k b r i = some x := fun i x hi => by
  unfold Env.put
  split
  · rename_i e; subst e; rw [h] at hi; cases hi
  · exact hi

/-- A new name for a block whose name, if it had one, is dead; or for a new block. -/
theorem Rel.name {E : Env} {g : Nat → Option Obj} {w w' : World} (h : Rel P lo w0 E g w) {k b r : Nat} {o co : Obj} (hk : E k = none) (hb : Below w0.w.heap.size w0.w w') (hbw : w0.w.heap.size ≤ b)
    (hat : w'.heap[b]? = some co) (hother : ∀ i, i ≠ b → i < w.heap.size → w'.heap[i]? = w.heap[i]?)
    (hun : ∀ i o' r', g i = some o' → E i ≠ some (b, r')) (ho : OR P (E.put k b r) r o co) : Rel P lo w0 (E.put k b r) (fun i => if i = k then some o else g i) w' := by
  have hkeep := Env.put_keep (b := b) (r := r) hk
  have hne : ∀ i o', g i = some o' → i ≠ k := fun i o' hi e => by
    subst e
    obtain ⟨b', r', co', h1, _⟩ := h.tie _ _ hi
    rw [hk] at h1; cases h1
  refine ⟨hb, ?_, ?_, ?_, ?_, fun i x hi => hkeep i x (h.kept i x hi)⟩
  · intro i o' hi
    by_cases e : i = k
    · subst e
      simp at hi; subst hi
      exact ⟨b, r, co, by simp [Env.put], hat, ho⟩
    · simp [e] at hi
      obtain ⟨b', r', co', h1, h2, h3⟩ := h.tie i o' hi
      refine ⟨b', r', co', hkeep _ _ h1, ?_, h3.mono hkeep⟩
      rw [hother b' (fun eb => hun i o' r' hi (eb ▸ h1)) (Array.getElem?_eq_some_iff.1 h2).1]
      exact h2
  · intro i i' o1 o2 b' r1 r2 h1 h2 e1 e2
    by_cases e : i = k
    · by_cases e' : i' = k
      · rw [e, e']
      · subst e
        simp [e'] at h2
        simp [Env.put] at e1
        simp [Env.put, e'] at e2
        obtain ⟨rfl, rfl⟩ := e1
        exact absurd e2 (hun _ _ _ h2)
    · by_cases e' : i' = k
      · subst e'
        simp [e] at h1
        simp [Env.put] at e2
        simp [Env.put, e] at e1
        obtain ⟨rfl, rfl⟩ := e2
        exact absurd e1 (hun _ _ _ h1)
      · simp [e] at h1
        simp [e'] at h2
        simp [Env.put, e] at e1
        simp [Env.put, e'] at e2
        exact h.inj _ _ _ _ _ _ _ h1 h2 e1 e2
  · intro i b' r' hi he
    by_cases e : i = k
    · subst e; simp [Env.put] at he; omega
    · simp [Env.put, e] at he; exact h.own i b' r' hi he
  · intro i hi
    exact hkeep _ _ (h.old i hi)

/-! ### What a step of the evaluator says of the model's -/
/-- H: what is known of the memory ahead of the step. -/
def Sim (P : Program) (lo : Lim) (w0 : Bs) {α β : Type} (E : Env) (H : (Nat → Option Obj) → Prop) (m : M I α) (c : Sem β) (R : Env → α → β → Prop) : Prop :=
  ∀ s a s', m.run s = some (a, s') → ∀ E1 g w, (∀ k x, E k = some x → E1 k = some x) → Rel P lo w0 E1 g w → Agree I s s' g → Fresh s s' E1 → H g →
    ∃ E' b w', c.run P w = .ok b w' ∧ Env.Ext E1 E' s.next s'.next ∧ R E' a b ∧ Rel P lo w0 E' (merge I s' g) w'
/-- Nothing is known. -/
def noH : (Nat → Option Obj) → Prop := fun _ => True

section
variable {α β γ δ : Type} {E : Env} {H : (Nat → Option Obj) → Prop}

theorem Fresh.first {s s1 s' : St μ} {E : Env} (h : Fresh s s' E) (hl : s1.next ≤ s'.next) : Fresh s s1 E := fun k h1 h2 => h k h1 (by omega)
theorem Fresh.second {s s1 s' : St μ} {E E1 : Env} (h : Fresh s s' E) (hx : Env.Ext E E1 s.next s1.next) (hl : s.next ≤ s1.next) : Fresh s1 s' E1 := fun k h1 h2 => by
  cases e : E1 k with
  | none => rfl
  | some x =>
    rcases hx.dom k (by simp [e]) with h3 | h3
    · exact absurd (h k (by omega) h2) h3
    · omega

theorem Sim.bind {m : M I α} {c : Sem β} {f : α → M I γ} {f' : β → Sem δ} {R : Env → α → β → Prop} {R' : Env → γ → δ → Prop}
    (h : Sim P lo w0 E H m c R) (h2 : ∀ E1 a b, (∀ k x, E k = some x → E1 k = some x) → R E1 a b → Sim P lo w0 E1 noH (f a) (f' b) R') : Sim P lo w0 E H (m >>= f) (c >>= f') R' := by
  intro s a s' hr E1 g w hE hR hA hF hH
  obtain ⟨a1, s1, hr1, hr2⟩ := bind_run hr
  have l1 := m.le _ _ _ hr1
  have l2 := (f a1).le _ _ _ hr2
  obtain ⟨E2, b, w1, hc, hx, hab, hR1⟩ := h s a1 s1 hr1 E1 g w hE hR (hA.first l2) (hF.first l2.next) hH
  obtain ⟨E3, d, w2, hc2, hx2, hcd, hR2⟩ := h2 E2 a1 b (fun k x hk => hx.keep k x (hE k x hk)) hab s1 a s' hr2 E2 (merge I s1 g) w1 (fun _ _ h => h) hR1 (hA.second l1 l2) (hF.second hx l1.next) trivial
  refine ⟨E3, d, w2, ?_, hx.trans hx2 l1.next l2.next, hcd, ?_⟩
  · rw [Sem.run_bind, hc]; exact hc2
  · rw [merge_merge g l2] at hR2; exact hR2

theorem Sim.leaf {a : α} {c : Sem β} {R : Env → α → β → Prop} (h : ∀ E1 g w, (∀ k x, E k = some x → E1 k = some x) → Rel P lo w0 E1 g w → H g → ∃ b, c.run P w = .ok b w ∧ R E1 a b) : Sim P lo w0 E H (Pure.pure a : M I α) c R := by
  intro s a' s' hr E1 g w hE hR hA hF hH
  obtain ⟨rfl, rfl⟩ := pure_run hr
  obtain ⟨b, hb, hab⟩ := h E1 g w hE hR hH
  refine ⟨E1, b, w, hb, .refl _ _, hab, ?_⟩
  rw [merge_read hA (fun _ => rfl) (fun _ => rfl)]; exact hR
theorem Sim.pure {a : α} {b : β} {R : Env → α → β → Prop} (h : ∀ E1, (∀ k x, E k = some x → E1 k = some x) → R E1 a b) : Sim P lo w0 E H (Pure.pure a : M I α) (Pure.pure b) R :=
  Sim.leaf fun E1 g w hE _ _ => ⟨b, rfl, h E1 hE⟩

theorem Sim.fail {c : Sem β} {R : Env → α → β → Prop} : Sim P lo w0 E H (Am.fail : M I α) c R := fun s a s' hr => (fail_run hr).elim

theorem Sim.rd {k : Nat} {f : Obj → M I α} {c : Sem β} {R : Env → α → β → Prop} (h : ∀ o, Sim P lo w0 E (fun g => H g ∧ g k = some o) (f o) c R) : Sim P lo w0 E H (rd k >>= f) c R := by
  intro s a s' hr E1 g w hE hR hA hF hH
  obtain ⟨o, s1, hr1, hr2⟩ := bind_run hr
  have l1 := (Am.rd k).le _ _ _ hr1
  have l2 := (f o).le _ _ _ hr2
  obtain ⟨e1, e2, e3, e4, e5⟩ := rd_run hr1
  have hm : merge I s1 g = g := merge_read (hA.first l2) (fun k => by rw [e4]) (fun k => by rw [e3])
  have hA1 : Agree I s1 s' g := by have := hA.second l1 l2; rwa [hm] at this
  have hg : g k = some o := by rw [hA k (by rw [l2.T k e5, Bool.true_or]), e1]
  obtain ⟨E2, b, w1, h1, h2, h3, h4⟩ := h o s1 a s' hr2 E1 g w hE hR hA1 (fun i h1 h2 => hF i (by omega) h2) ⟨hH, hg⟩
  exact ⟨E2, b, w1, h1, by rw [← e2]; exact h2, h3, h4⟩

/-- One write, and the answer. -/
theorem Sim.wr {k : Nat} {o : Obj} {a : α} {c : Sem β} {R : Env → α → β → Prop} (h : ∀ E1 g w, (∀ k x, E k = some x → E1 k = some x) → Rel P lo w0 E1 g w → H g → ∀ o0, g k = some o0 → lo.lo ≤ k →
    ∃ b w' bl r co, c.run P w = .ok b w' ∧ E1 k = some (bl, r) ∧ Turned bl co w w' ∧ OR P E1 r o co ∧ R E1 a b) : Sim P lo w0 E H (wr lo k (some o) >>= fun _ => (Pure.pure a : M I α)) c R := by
  intro s a' s' hr E1 g w hE hR hA hF hH
  obtain ⟨u, s1, hr1, hr2⟩ := bind_run hr
  obtain ⟨rfl, rfl⟩ := pure_run hr2
  obtain ⟨e1, ⟨o0, e2⟩, e3, e4, e5, e6⟩ := wr_run hr1
  have hg : g k = some o0 := by rw [hA k (by rw [e5]; simp), e2]
  obtain ⟨b, w', bl, r, co, h1, h2, h3, h4, h5⟩ := h E1 g w hE hR hH o0 hg e1
  refine ⟨E1, b, w', h1, ⟨fun _ _ h => h, fun _ h => .inl h⟩, h5, ?_⟩
  rw [merge_write hA e5 e6]
  exact hR.write hg h2 e1 h3 h4

/-- A new block, and the answer. -/
theorem Sim.new {o : Obj} {f : Nat → α} {c : Sem β} {R : Env → α → β → Prop} (h : ∀ E1 g w k, (∀ k x, E k = some x → E1 k = some x) → Rel P lo w0 E1 g w → H g → E1 k = none →
    ∃ b w' r co, c.run P w = .ok b w' ∧ Below w0.w.heap.size w0.w w' ∧ w'.heap[w.heap.size]? = some co ∧ (∀ i, i < w.heap.size → w'.heap[i]? = w.heap[i]?) ∧ OR P (E1.put k w.heap.size r) r o co ∧ R (E1.put k w.heap.size r) (f k) b) :
    Sim P lo w0 E H (new o >>= fun k => (Pure.pure (f k) : M I α)) c R := by
  intro s a' s' hr E1 g w hE hR hA hF hH
  obtain ⟨k, s1, hr1, hr2⟩ := bind_run hr
  obtain ⟨rfl, rfl⟩ := pure_run hr2
  obtain ⟨rfl, e2, e3, e4, e5, e6⟩ := new_run hr1
  have hk : E1 s.next = none := hF s.next (Nat.le_refl _) (by omega)
  obtain ⟨b, w', r, co, h1, h2, h3, h4, h5, h6⟩ := h E1 g w s.next hE hR hH hk
  refine ⟨E1.put s.next w.heap.size r, b, w', h1, ⟨Env.put_keep hk, fun i hi => ?_⟩, h6, ?_⟩
  · by_cases e : i = s.next
    · subst e; exact .inr ⟨Nat.le_refl _, by omega⟩
    · simp [Env.put, e] at hi; exact .inl (by simpa using hi)
  · rw [merge_write hA e5 e6]
    refine hR.name hk h2 hR.below.size h3 (fun i _ hi => h4 i hi) (fun i o' r' hi he => ?_) h5
    exact absurd (hR.lt hi he) (Nat.lt_irrefl _)

/-- What the model does first without looking at the world. -/
theorem Sim.left {m : M I α} {c : Sem β} {b : β} {f' : β → Sem δ} {R : Env → α → δ → Prop} (hc : ∀ w, c.run P w = .ok b w) (h : Sim P lo w0 E H m (f' b) R) : Sim P lo w0 E H m (c >>= f') R := by
  intro s a s' hr E1 g w hE hR hA hF hH
  obtain ⟨E2, d, w1, h1, h2⟩ := h s a s' hr E1 g w hE hR hA hF hH
  exact ⟨E2, d, w1, by rw [Sem.run_bind, hc]; exact h1, h2⟩

theorem Sim.mono {m : M I α} {c : Sem β} {R R' : Env → α → β → Prop} (h : Sim P lo w0 E H m c R) (hR : ∀ E1 a b, (∀ k x, E k = some x → E1 k = some x) → R E1 a b → R' E1 a b) : Sim P lo w0 E H m c R' := by
  intro s a s' hr E1 g w hE hRl hA hF hH
  obtain ⟨E2, d, w1, h1, h2, h3, h4⟩ := h s a s' hr E1 g w hE hRl hA hF hH
  exact ⟨E2, d, w1, h1, h2, hR E2 a d (fun k x hk => h2.keep k x (hE k x hk)) h3, h4⟩

theorem Sim.eqrun {m : M I α} {c c' : Sem β} {R : Env → α → β → Prop} (hc : ∀ w, c'.run P w = c.run P w) (h : Sim P lo w0 E H m c R) : Sim P lo w0 E H m c' R := by
  intro s a s' hr E1 g w hE hRl hA hF hH
  obtain ⟨E2, d, w1, h1, h2, h3, h4⟩ := h s a s' hr E1 g w hE hRl hA hF hH
  exact ⟨E2, d, w1, by rw [hc]; exact h1, h2, h3, h4⟩

theorem Sim.weak {m : M I α} {c : Sem β} {R : Env → α → β → Prop} {H' : (Nat → Option Obj) → Prop} (h : Sim P lo w0 E H m c R) (hH : ∀ g, H' g → H g) : Sim P lo w0 E H' m c R :=
  fun s a s' hr E1 g w hE hRl hA hF hH' => h s a s' hr E1 g w hE hRl hA hF (hH g hH')
end
end Go.Am
