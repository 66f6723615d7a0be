/- The abstract evaluator: a region that draws its order comes to the same in each order. Conditions: none. -/
import Derived.Test.YtjchnliaglecoaaGreatDoorAmLX
set_option linter.unusedVariables false
set_option linter.unusedSimpArgs false
namespace Go.Am
open Go Go.RowKit
set_option linter.unusedVariables false
set_option linter.unusedSimpArgs false
variable {μ : Type} {I : MemI μ} {P : Program} {lo : Lim} {w0 : Bs}

/-! ### What stands ahead -/
inductive Ahead (ops : List Oper) : Nat → Nat → Prop
  | edge {j : Nat} {o : Oper} {e : Edge} : ops[j]? = some o → e ∈ o.after → Region.binds .any e = true → Ahead ops j e.on
  | step {j i : Nat} {o : Oper} {e : Edge} : ops[j]? = some o → e ∈ o.after → Region.binds .any e = true → Ahead ops e.on i → Ahead ops j i
theorem maskOf_spec (ops : List Oper) {acc : List Nat} {j : Nat} {o : Oper} (ho : ops[j]? = some o) (hacc : ∀ j i, (acc.getD j 0).testBit i = true → Ahead ops j i) : ∀ (l : List Edge), (∀ e ∈ l, e ∈ o.after) → ∀ i, (maskOf acc l).testBit i = true → Ahead ops j i
  | [], _, i, h => by simp [maskOf] at h
  | e :: l, hl, i, h => by
    unfold maskOf at h
    cases hb : Region.binds .any e with
    | false => rw [hb] at h; exact maskOf_spec ops ho hacc l (fun x hx => hl x (by simp [hx])) i h
    | true =>
      rw [hb, cond_true, Nat.testBit_or, testBit_mark] at h
      simp only [Bool.or_eq_true, decide_eq_true_eq] at h
      rcases h with (h | h) | h
      · exact maskOf_spec ops ho hacc l (fun x hx => hl x (by simp [hx])) i h
      · subst h; exact .edge ho (hl e (by simp)) hb
      · exact .step ho (hl e (by simp)) hb (hacc _ _ h)
theorem masks_spec (ops : List Oper) : ∀ (l : List Oper) (acc : List Nat), (∀ k o, l[k]? = some o → ops[acc.length + k]? = some o) → (∀ j i, (acc.getD j 0).testBit i = true → Ahead ops j i) →
    ∀ j i, ((masks l acc).getD j 0).testBit i = true → Ahead ops j i
  | [], acc, _, h => h
  | o :: l, acc, hl, h => by
    refine masks_spec ops l _ (fun k p hk => ?_) fun j i hji => ?_
    · have := hl (k + 1) p (by simpa using hk)
      rw [List.length_append]
      rw [← this]; congr 1; simp; omega
    · rcases Nat.lt_trichotomy j acc.length with hj | hj | hj
      · refine h j i ?_
        simpa [List.getD, List.getElem?_append_left hj] using hji
      · subst hj
        have ho := hl 0 o rfl
        simp at ho
        refine maskOf_spec ops ho h o.after.toList (fun e he => by simpa using he) i ?_
        simpa [List.getD] using hji
      · simp [List.getD, List.getElem?_append_right (Nat.le_of_lt hj)] at hji
        rw [List.getElem?_eq_none (by simp; omega)] at hji
        simp at hji
/-- A set that bears all that stands ahead of its members. -/
def ClosedS (ops : List Oper) (S : Nat → Bool) : Prop := ∀ j o e, S j = true → ops[j]? = some o → e ∈ o.after → Region.binds .any e = true → S e.on = true
theorem Ahead.mem {ops : List Oper} {S : Nat → Bool} (hS : ClosedS ops S) {j i : Nat} (h : Ahead ops j i) (hj : S j = true) : S i = true := by
  induction h with
  | edge ho he hb => exact hS _ _ _ hj ho he hb
  | step ho he hb _ ih => exact ih (hS _ _ _ hj ho he hb)

/-! ### The last one that has a say -/
def lastW {α β : Type} (p : α → Bool) (f : α → β) : β → List α → β
  | b, [] => b
  | b, r :: l => lastW p f (if p r then f r else b) l
theorem lastW_congr {α β : Type} {p q : α → Bool} {f : α → β} : ∀ (l : List α) (b : β), (∀ r ∈ l, p r = q r) → lastW p f b l = lastW q f b l
  | [], _, _ => rfl
  | r :: l, b, h => by
    simp only [lastW, h r (by simp)]
    exact lastW_congr l _ fun x hx => h x (by simp [hx])
theorem lastW_none {α β : Type} {p : α → Bool} {f : α → β} : ∀ (l : List α) (b : β), (∀ r ∈ l, p r = false) → lastW p f b l = b
  | [], _, _ => rfl
  | r :: l, b, h => by
    simp only [lastW, h r (by simp), Bool.false_eq_true, if_false]
    exact lastW_none l _ fun x hx => h x (by simp [hx])
theorem lastW_append {α β : Type} {p : α → Bool} {f : α → β} : ∀ (l m : List α) (b : β), lastW p f b (l ++ m) = lastW p f (lastW p f b l) m
  | [], _, _ => rfl
  | r :: l, m, b => by simp only [List.cons_append, lastW]; exact lastW_append l m _
theorem lastW_at {α β : Type} {p : α → Bool} {f : α → β} {l m : List α} {r : α} (b : β) (hr : p r = true) (hm : ∀ x ∈ m, p x = false) : lastW p f b (l ++ r :: m) = f r := by
  rw [lastW_append]
  simp only [lastW, hr, if_true]
  exact lastW_none m _ hm

/-! ### The region in the text's order, step by step -/
structure Stp (μ : Type) where
  i : Nat
  o : Oper
  a : AAct
  v : Value
  n0 : Nat
  m0 : μ
  n1 : Nat
  m1 : μ
  T : Nat
  W : Nat
def PutD (a : AAct) (dst : Option Tmp) (v : Value) (a1 : AAct) : Prop := (∀ t, a1.val t = if dst = some t then v else a.val t) ∧ a1.n = a.n ∧ a1.defers = a.defers ∧ ∀ d, dst = some d → d < a.n
theorem putD_of {a a' : AAct} {dst : Option Tmp} {v : Value} {s s' : St μ} (hr : (putA' a dst v : M I AAct).run s = some (a', s')) : s' = s ∧ PutD a dst v a' := by
  unfold putA' at hr
  cases dst with
  | none => obtain ⟨rfl, rfl⟩ := pure_run hr; exact ⟨rfl, fun t => by simp, rfl, rfl, fun d h => by cases h⟩
  | some d =>
    cases hb : (Nat.blt d a.n && Nat.blt d 4095) with
    | false => simp only [hb] at hr; exact (fail_run hr).elim
    | true =>
      simp only [hb] at hr
      obtain ⟨rfl, rfl⟩ := pure_run hr
      rw [blt_eq, blt_eq] at hb
      simp only [Bool.and_eq_true, decide_eq_true_eq] at hb
      refine ⟨rfl, fun t => ?_, rfl, rfl, fun d' h => by cases h; exact hb.1⟩
      unfold AAct.val
      rw [Trie.get_set 12 a.t d t (some v) (by omega)]
      by_cases e : t = d
      · subst e; simp
      · have : ¬ (d = t) := fun h => e h.symm
        simp [e, this]

inductive Tr (P : Program) (X : Hk) (lo : Lim) (self : Self I) (ops : Array Oper) : Nat → List Oper → AAct → Nat → μ → List (Stp μ) → AAct → Nat → μ → Prop
  | nil {i : Nat} {a : AAct} {n : Nat} {m : μ} : Tr P X lo self ops i [] a n m [] a n m
  | cons {i : Nat} {o : Oper} {rest : List Oper} {a a1 aN : AAct} {n n1 nN : Nat} {m m1 mN : μ} {v : Value} {T W : Nat} {L : List (Stp μ)} : (oneD P X lo self ops o a).run ⟨n, m, 0, 0⟩ = some (v, ⟨n1, m1, T, W⟩) → PutD a o.dst v a1 →
      Tr P X lo self ops (i + 1) rest a1 n1 m1 L aN nN mN → Tr P X lo self ops i (o :: rest) a n m (⟨i, o, a, v, n, m, n1, m1, T, W⟩ :: L) aN nN mN

variable {X : Hk} {self : Self I} {ops : Array Oper}

theorem runD_tr : ∀ (l : List Oper) (i : Nat) (a : AAct) (s s' : St μ) (q : AAct × List Mk), (runD P X lo self ops l a).run s = some (q, s') →
    ∃ L, Tr P X lo self ops i l a s.next s.mem L q.1 s'.next s'.mem ∧ q.2 = L.map (fun r => ⟨r.T, r.W⟩) ∧ (∀ k, s'.T.testBit k = (s.T.testBit k || L.any (fun r => r.T.testBit k))) ∧ ∀ k, s'.W.testBit k = (s.W.testBit k || L.any (fun r => r.W.testBit k))
  | [], i, a, s, s', q, h => by
    obtain ⟨rfl, rfl⟩ := pure_run h
    exact ⟨[], .nil, rfl, by simp, by simp⟩
  | o :: rest, i, a, s, s', q, h => by
    obtain ⟨⟨v, T, W⟩, s1, h1, h2⟩ := bind_run h
    obtain ⟨a1, s2, h3, h4⟩ := bind_run h2
    obtain ⟨q2, s3, h5, h6⟩ := bind_run h4
    obtain ⟨rfl, rfl⟩ := pure_run h6
    obtain ⟨g1, g2, g3⟩ := alone_run h1
    obtain ⟨rfl, hp⟩ := putD_of h3
    obtain ⟨L, hL, hm, hT, hW⟩ := runD_tr rest (i + 1) a1 _ _ q2 h5
    refine ⟨_, .cons g1 hp hL, by simp [hm], fun k => ?_, fun k => ?_⟩
    · rw [hT, g2, Nat.testBit_or]; simp [Bool.or_assoc]
    · rw [hW, g3, Nat.testBit_or]; simp [Bool.or_assoc]

theorem Tr.idx {i : Nat} {l : List Oper} {a aN : AAct} {n nN : Nat} {m mN : μ} {L : List (Stp μ)} (h : Tr P X lo self ops i l a n m L aN nN mN) : L.length = l.length ∧ ∀ (k : Nat) (r : Stp μ), L[k]? = some r → r.i = i + k ∧ l[k]? = some r.o := by
  induction h with
  | nil => exact ⟨rfl, fun k r h => by simp at h⟩
  | cons h1 h2 h3 ih =>
    refine ⟨by simp [ih.1], fun k r hk => ?_⟩
    rcases k with _ | k
    · simp at hk; subst hk; exact ⟨rfl, rfl⟩
    · simp at hk
      obtain ⟨h4, h5⟩ := ih.2 k r hk
      exact ⟨by omega, by simpa using h5⟩
theorem Tr.ge {i : Nat} {l : List Oper} {a aN : AAct} {n nN : Nat} {m mN : μ} {L : List (Stp μ)} (h : Tr P X lo self ops i l a n m L aN nN mN) : ∀ r ∈ L, i ≤ r.i := fun r hr => by
  obtain ⟨k, hk⟩ := List.mem_iff_getElem?.1 hr
  have := (h.idx.2 k r hk).1
  omega
theorem Tr.one {i : Nat} {l : List Oper} {a aN : AAct} {n nN : Nat} {m mN : μ} {L : List (Stp μ)} (h : Tr P X lo self ops i l a n m L aN nN mN) : ∀ r ∈ L, (oneD P X lo self ops r.o r.a).run ⟨r.n0, r.m0, 0, 0⟩ = some (r.v, ⟨r.n1, r.m1, r.T, r.W⟩) := by
  induction h with
  | nil => intro r hr; cases hr
  | cons h1 h2 h3 ih =>
    intro r hr
    rcases List.mem_cons.1 hr with rfl | hr
    · exact h1
    · exact ih r hr
theorem Tr.frame {i : Nat} {l : List Oper} {a aN : AAct} {n nN : Nat} {m mN : μ} {L : List (Stp μ)} (h : Tr P X lo self ops i l a n m L aN nN mN) : aN.n = a.n ∧ aN.defers = a.defers ∧ n ≤ nN ∧ ∀ r ∈ L, r.a.n = a.n ∧ n ≤ r.n0 ∧ r.n0 ≤ r.n1 ∧ r.n1 ≤ nN ∧ ∀ d, r.o.dst = some d → d < a.n := by
  induction h with
  | nil => exact ⟨rfl, rfl, Nat.le_refl _, fun r hr => by cases hr⟩
  | cons h1 h2 h3 ih =>
    have hl := (oneD P X lo self ops _ _).le _ _ _ h1
    obtain ⟨i1, i2, i3, i4⟩ := ih
    have hn := hl.next
    simp only at hn
    refine ⟨by rw [i1, h2.2.1], by rw [i2, h2.2.2.1], by omega, fun r hr => ?_⟩
    rcases List.mem_cons.1 hr with rfl | hr
    · exact ⟨rfl, Nat.le_refl _, hn, i3, h2.2.2.2⟩
    · obtain ⟨j1, j2, j3, j4, j5⟩ := i4 r hr
      exact ⟨by rw [j1, h2.2.1], by omega, j3, j4, fun d hd => by have := j5 d hd; rw [h2.2.1] at this; exact this⟩
theorem Tr.apart {i : Nat} {l : List Oper} {a aN : AAct} {n nN : Nat} {m mN : μ} {L : List (Stp μ)} (h : Tr P X lo self ops i l a n m L aN nN mN) : ∀ r ∈ L, ∀ r' ∈ L, r.i < r'.i → r.n1 ≤ r'.n0 := by
  induction h with
  | nil => intro r hr; cases hr
  | cons h1 h2 h3 ih =>
    intro r hr r' hr' hlt
    have hge := h3.ge
    rcases List.mem_cons.1 hr with rfl | hr
    · rcases List.mem_cons.1 hr' with rfl | hr'
      · exact absurd hlt (Nat.lt_irrefl _)
      · exact (h3.frame.2.2.2 r' hr').2.1
    · rcases List.mem_cons.1 hr' with rfl | hr'
      · have := hge r hr; simp only at hlt; omega
      · exact ih r hr r' hr' hlt
theorem Tr.mem {i : Nat} {l : List Oper} {a aN : AAct} {n nN : Nat} {m mN : μ} {L : List (Stp μ)} (h : Tr P X lo self ops i l a n m L aN nN mN) (k : Nat) :
    (∀ r ∈ L, I.get r.m0 k = lastW (fun x => decide (x.i < r.i) && x.W.testBit k) (fun x => I.get x.m1 k) (I.get m k) L) ∧ I.get mN k = lastW (fun x => x.W.testBit k) (fun x => I.get x.m1 k) (I.get m k) L := by
  induction h with
  | nil => exact ⟨fun r hr => (List.not_mem_nil hr).elim, rfl⟩
  | @cons i o rest a a1 aN n n1 nN m m1 mN v T W L h1 h2 h3 ih =>
    have hl := (oneD P X lo self ops _ _).le _ _ _ h1
    have hge := h3.ge
    have hbase : (if W.testBit k = true then I.get m1 k else I.get m k) = I.get m1 k := by
      split
      · rfl
      · rename_i hw
        exact (hl.mem k (by simpa using hw)).symm
    refine ⟨fun r hr => ?_, ?_⟩
    · rcases List.mem_cons.1 hr with rfl | hr
      · rw [lastW_none]
        intro x hx
        rcases List.mem_cons.1 hx with rfl | hx
        · simp
        · have := hge x hx
          have : ¬ (x.i < i) := by omega
          simp [this]
      · rw [ih.1 r hr]
        have hlt : i < r.i := by have := hge r hr; omega
        simp only [lastW, hlt, decide_true, Bool.true_and, hbase]
    · rw [ih.2]
      simp only [lastW, hbase]
theorem Tr.vals {i : Nat} {l : List Oper} {a aN : AAct} {n nN : Nat} {m mN : μ} {L : List (Stp μ)} (h : Tr P X lo self ops i l a n m L aN nN mN) (t : Nat) :
    (∀ r ∈ L, r.a.val t = lastW (fun x => decide (x.i < r.i) && decide (x.o.dst = some t)) (fun x => x.v) (a.val t) L) ∧ aN.val t = lastW (fun x => decide (x.o.dst = some t)) (fun x => x.v) (a.val t) L := by
  induction h with
  | nil => exact ⟨fun r hr => (List.not_mem_nil hr).elim, rfl⟩
  | @cons i o rest a a1 aN n n1 nN m m1 mN v T W L h1 h2 h3 ih =>
    have hge := h3.ge
    have hbase : (if decide (o.dst = some t) = true then v else a.val t) = a1.val t := by
      rw [h2.1]; simp
    refine ⟨fun r hr => ?_, ?_⟩
    · rcases List.mem_cons.1 hr with rfl | hr
      · rw [lastW_none]
        intro x hx
        rcases List.mem_cons.1 hx with rfl | hx
        · simp
        · have := hge x hx
          have : ¬ (x.i < i) := by omega
          simp [this]
      · rw [ih.1 r hr]
        have hlt : i < r.i := by have := hge r hr; omega
        simp only [lastW, hlt, decide_true, Bool.true_and, hbase]
    · rw [ih.2]
      simp only [lastW, hbase]

/-! ### Apart -/
structure ApartS (ops : Array Oper) (r r' : Stp μ) : Prop where
  op : r.o.apart ops r'.o = true
  w : ∀ k, r.W.testBit k = true → r'.T.testBit k = false ∧ r'.W.testBit k = false
  t : ∀ k, r.T.testBit k = true → r'.W.testBit k = false
theorem land_zero {x y : Nat} (h : Nat.beq (x &&& y) 0 = true) (k : Nat) (hx : x.testBit k = true) : y.testBit k = false := by
  have h0 := Nat.eq_of_beq_eq_true h
  have := congrArg (fun n => n.testBit k) h0
  simpa [Nat.testBit_and, hx] using this
theorem apartM_spec {r r' : Stp μ} (h : apartM ops r.o r'.o ⟨r.T, r.W⟩ ⟨r'.T, r'.W⟩ = true) : ApartS ops r r' := by
  unfold apartM at h
  simp only [Bool.and_eq_true] at h
  obtain ⟨⟨h1, h2⟩, h3⟩ := h
  refine ⟨h1, fun k hk => ?_, fun k hk => land_zero h3 k hk⟩
  have := land_zero h2 k hk
  rw [Nat.testBit_or, Bool.or_eq_false_iff] at this
  exact this
theorem checkD_spec {L : List (Stp μ)} (hL : ∀ (k : Nat) (r : Stp μ), L[k]? = some r → r.i = k ∧ ops.toList[k]? = some r.o) (h : checkD ops (masks ops.toList []) (L.map fun r => (⟨r.T, r.W⟩ : Mk)) = true) :
    (∀ r ∈ L, ∀ r' ∈ L, r.i < r'.i → Ahead ops.toList r'.i r.i ∨ ApartS ops r r') ∧ ∀ i o e, ops.toList[i]? = some o → e ∈ o.after → Region.binds .any e = true → e.on < i := by
  unfold checkD at h
  simp only [Bool.and_eq_true] at h
  obtain ⟨h1, h2⟩ := h
  constructor
  · intro r hr r' hr' hlt
    obtain ⟨i, hi⟩ := List.mem_iff_getElem?.1 hr
    obtain ⟨j, hj⟩ := List.mem_iff_getElem?.1 hr'
    obtain ⟨e1, o1⟩ := hL i r hi
    obtain ⟨e2, o2⟩ := hL j r' hj
    have hm' : ((⟨r'.T, r'.W⟩ : Mk), j) ∈ (L.map fun r => (⟨r.T, r.W⟩ : Mk)).zipIdx := by
      rw [List.mem_zipIdx_iff_getElem?]; simp [hj]
    have hm : ((⟨r.T, r.W⟩ : Mk), i) ∈ (L.map fun r => (⟨r.T, r.W⟩ : Mk)).zipIdx := by
      rw [List.mem_zipIdx_iff_getElem?]; simp [hi]
    have h3 := List.all_eq_true.1 h1 _ hm'
    have h4 := List.all_eq_true.1 h3 _ hm
    simp only [Bool.or_eq_true] at h4
    rcases h4 with (h4 | h4) | h4
    · rw [blt_eq] at h4
      simp at h4; omega
    · rw [e1, e2]
      exact .inl (masks_spec ops.toList ops.toList [] (fun k o hk => by simpa using hk) (fun j i h => by simp at h) j i h4)
    · refine .inr (apartM_spec ?_)
      have q1 : ops[i]? = some r.o := by rw [← o1]; simp
      have q2 : ops[j]? = some r'.o := by rw [← o2]; simp
      simpa [q1, q2] using h4
  · intro i o e ho he hb
    have hm : (o, i) ∈ ops.toList.zipIdx := by rw [List.mem_zipIdx_iff_getElem?]; exact ho
    have h3 := List.all_eq_true.1 h2 _ hm
    simp only [Array.all_eq_true_iff_forall_mem] at h3
    have h4 := h3 e he
    rw [hb, blt_eq] at h4
    simpa using h4

structure DInv (P : Program) (lo : Lim) (w0 : Bs) (ops : Array Oper) (I : MemI μ) (E0 : Env) (g : Nat → Option Obj) (a : AAct) (ca0 : Act) (b0 b1 : Nat) (L : List (Stp μ)) (S : Nat → Bool) (E : Env) (ca : Act) (w : World) : Prop where
  rel : Rel P lo w0 E (fun k => lastW (fun x => S x.i && x.W.testBit k) (fun x => I.get x.m1 k) (g k) L) w
  size : ca.tmps.size = a.n
  val : ∀ t, VR E (lastW (fun x => S x.i && decide (x.o.dst = some t)) (fun x => x.v) (a.val t) L) (ca.tmps.getD t undef)
  defers : ca.defers = ca0.defers
  fresh : ∀ r ∈ L, S r.i = false → ∀ k, r.n0 ≤ k → k < r.n1 → E k = none
  ext : Env.Ext E0 E b0 b1
  closed : ClosedS ops.toList S

/-- Who looks at the same slots sees the same. -/
theorem wanted_slots {a : AAct} {ca : Act} {o : Oper} {E : Env} (hs : ca.tmps.size = a.n) (h : ∀ t ∈ o.looksAt ops, VR E (a.val t) (ca.tmps.getD t undef)) : Region.wanted o (yielded ops ca.tmps) = wantedA ops a o := by
  unfold Region.wanted wantedA
  cases hg : o.guard with
  | none => rfl
  | some jw =>
    obtain ⟨j, want⟩ := jw
    simp only
    have hy : yielded ops ca.tmps j = yieldedA ops a j := by
      unfold yielded yieldedA
      cases hd : (ops[j]?).bind (·.dst) with
      | none => rfl
      | some d =>
        simp only [Option.bind_some, blt_eq, ← hs]
        have hv := h d (by unfold Oper.looksAt; rw [hg]; simp [hd])
        by_cases hlt : d < ca.tmps.size
        · simp only [hlt, decide_true, cond_true]
          rw [Array.getElem?_eq_getElem hlt]
          have : ca.tmps.getD d undef = ca.tmps[d] := by simp [hlt]
          rw [this] at hv
          generalize a.val d = x at hv
          generalize ca.tmps[d] = y at hv
          cases hv <;> rfl
        · simp only [hlt, decide_false, cond_false]
          rw [Array.getElem?_eq_none (Nat.le_of_not_lt hlt)]
    rw [hy]
    cases yieldedA ops a j with
    | none => rfl
    | some b => cases b <;> cases want <;> rfl
theorem evO_rel {a : AAct} {ca : Act} {o : Oper} {E : Env} (hold : ∀ k, k < lo.G → E k = some (k, 0)) (h : ∀ t ∈ o.looksAt ops, VR E (a.val t) (ca.tmps.getD t undef)) : ∀ x v, evO lo ops o a x = some v → VR E v (ca.eval x) := by
  intro x v hv
  cases x with
  | tmp t =>
    unfold evO at hv
    cases hc : (o.looksAt ops).contains t with
    | true =>
      simp only [hc, cond_true, Option.some.injEq] at hv
      subst hv
      exact h t (by simpa using hc)
    | false => simp only [hc, cond_false] at hv; cases hv
  | const u =>
    change evA lo a (.const u) = some v at hv
    cases hg : gnd 3 u with
    | true => simp [evA, hg] at hv; subst hv; exact gnd_refl E 3 u hg
    | false => simp [evA, hg] at hv
  | global g =>
    change evA lo a (.global g) = some v at hv
    cases hb : Nat.blt g lo.G with
    | true =>
      simp [evA, hb] at hv; subst hv
      rw [blt_eq] at hb
      exact .ptr (r := 0) (hold g (by simpa using hb))
    | false => simp [evA, hb] at hv
  | func f =>
    change evA lo a (.func f) = some v at hv
    simp [evA] at hv; subst hv; exact .func rfl (fun _ _ j h => by simp at h) rfl (fun _ _ j h => by simp at h)

/-- One operation of the region, in the world as it stands: what it did in the text's order it does here. -/
theorem one_ok {H : Plain P X w0.w} (hcd : CodeOK P lo w0 self.code) (hc : CallOK P lo w0 self.call) {ρ' : Option Nat} {o : Oper} {a : AAct} {s s' : St μ} {v : Value} (hr : (oneD P X lo self ops o a).run s = some (v, s')) {E : Env} {g : Nat → Option Obj} {w : World} {ca : Act} {Q : Exit → Act → World → Prop} {K : Act → World → Prop} {i : Nat}
    (ho : ops[i]? = some o) (hR : Rel P lo w0 E g w) (hA : Agree I s s' g) (hF : Fresh s s' E) (hs : ca.tmps.size = a.n) (hlook : ∀ t ∈ o.looksAt ops, VR E (a.val t) (ca.tmps.getD t undef))
    (hK : ∀ E' v' w', Env.Ext E E' s.next s'.next → VR E' v v' → Rel P lo w0 E' (merge I s' g) w' → K (ca.put o.dst v') w') : wpOpIn (fen ρ') 0 P ops Q i K ca w := by
  have hw := wanted_slots (ops := ops) hs hlook
  unfold wpOpIn
  simp only [ho]
  rw [hw]
  unfold oneD at hr
  cases hwa : wantedA ops a o with
  | false =>
    simp only [hwa, cond_false] at hr
    obtain ⟨rfl, rfl⟩ := pure_run hr
    rw [if_neg (by simp)]
    exact ⟨fun _ _ => trivial, hK E undef w (.refl _ _) (VR.undef E) (by rw [merge_read hA (fun _ => rfl) (fun _ => rfl)]; exact hR)⟩
  | true =>
    simp only [hwa, cond_true] at hr
    rw [if_pos rfl]
    refine ⟨fun _ _ => trivial, ?_⟩
    obtain ⟨r, s1, h1, h2⟩ := bind_run hr
    have hle2 : St.Le I s1 s' := M.le _ _ _ _ h2
    have hev := evO_rel (lo := lo) (ops := ops) hR.old hlook
    obtain ⟨E1, nx, w1, hrun, hx1, hnr, hR1⟩ := sim_stepOp (lo := lo) (w0 := w0) (E := E) H hev o s r s1 h1 E g w (fun _ _ h => h) hR (hA.first hle2) (hF.first hle2.next) trivial
    obtain ⟨hA1, hF1, hX1, hm1⟩ := chain h1 hle2 hA hF hx1
    cases r with
    | val u =>
      rw [sem_at h1 (fun d h => by cases h), hrun]
      obtain ⟨rfl, rfl⟩ := pure_run h2
      cases nx <;> simp only [NR] at hnr <;> first | exact hnr.elim | skip
      · exact hK E1 _ w1 hx1 hnr hR1
      · subst hnr; exact hK E1 undef w1 hx1 (VR.undef E1) hR1
    | call f args =>
      rw [sem_at h1 (fun d h => by cases h), hrun]
      cases nx <;> simp only [NR] at hnr <;> first | exact hnr.elim | skip
      rename_i f' cs
      obtain ⟨rfl, hargs⟩ := hnr
      obtain ⟨en, s2, h3, h4⟩ := bind_run h2
      have hle3 : St.Le I s2 s' := M.le _ _ _ _ h4
      have hcall := hc f args s1 en s2 h3 E1 _ w1 cs hR1 (hA1.first hle3) (hF1.first hle3.next) hargs
      rw [Oper.uponIn_enter]
      refine ⟨fen_depth, callsIn_fen (hcall.mono fun e2 w2 ⟨E2, hx2, hen, hR2⟩ => ?_)⟩
      cases en with
      | panic u => exact (fail_run h4).elim
      | ret u =>
        obtain ⟨rfl, rfl⟩ := pure_run h4
        cases e2 with
        | panicked c => exact hen.elim
        | outgrown => exact hen.elim
        | returned u' => exact hK E2 u' w2 (hX1 E2 hx2) hen (by rw [hm1] at hR2; exact hR2)
    | round l ts b c =>
      rw [sem_at h1 (fun d h => by cases h), hrun]
      cases nx <;> simp only [NR] at hnr <;> first | exact hnr.elim | skip
      rename_i l' f' cs b' c'
      obtain ⟨rfl, rfl, ⟨q, hq⟩, hargs⟩ := hnr
      obtain ⟨en, s2, h3, h4⟩ := bind_run h2
      have hle3 : St.Le I s2 s' := M.le _ _ _ _ h4
      have hcall := round_ok (ρ' := ρ') (f := f') hcd h3 hR1 (hA1.first hle3) (hF1.first hle3.next) hq hargs
      rw [Oper.uponIn_round]
      refine ⟨fen_depth, (hcall.mono fun e2 w2 ⟨E2, hx2, hen, hR2⟩ => ?_)⟩
      cases en with
      | panic u => exact (fail_run h4).elim
      | ret u =>
        obtain ⟨rfl, rfl⟩ := pure_run h4
        cases e2 with
        | panicked c => exact hen.elim
        | outgrown => exact hen.elim
        | returned u' => exact hK E2 u' w2 (hX1 E2 hx2) hen (by rw [hm1] at hR2; exact hR2)
    | defer d => exact (fail_run h2).elim
    | panic u => exact (fail_run h2).elim
    | recover => exact (fail_run h2).elim

section
variable {E0 : Env} {g : Nat → Option Obj} {a aN : AAct} {ca0 : Act} {n nN : Nat} {m mN : μ} {L : List (Stp μ)}
theorem draw_step {H : Plain P X w0.w} (hcd : CodeOK P lo w0 self.code) (hc : CallOK P lo w0 self.call) {ρ' : Option Nat} (hT : Tr P X lo self ops 0 ops.toList a n m L aN nN mN) (hg : ∀ r ∈ L, ∀ k, (r.T.testBit k || r.W.testBit k) = true → g k = I.get m k)
    (hchk : ∀ r ∈ L, ∀ r' ∈ L, r.i < r'.i → Ahead ops.toList r'.i r.i ∨ ApartS ops r r') {S S' : Nat → Bool} {E : Env} {ca : Act} {w : World} (hI : DInv P lo w0 ops I E0 g a ca0 n nN L S E ca w)
    {r : Stp μ} (hr : r ∈ L) (hSr : S r.i = false) (hready : ∀ e ∈ r.o.after, Region.binds .any e = true → S e.on = true) (hS' : ∀ j, S' j = (S j || decide (j = r.i)))
    {Q : Exit → Act → World → Prop} {K : Act → World → Prop} (hK : ∀ E' ca' w', DInv P lo w0 ops I E0 g a ca0 n nN L S' E' ca' w' → K ca' w') : wpOpIn (fen ρ') 0 P ops Q r.i K ca w := by
  obtain ⟨hlen, hidx⟩ := hT.idx
  have hidx' : ∀ (k : Nat) (x : Stp μ), L[k]? = some x → x.i = k ∧ ops.toList[k]? = some x.o := fun k x hx => by
    have := hidx k x hx; exact ⟨by omega, this.2⟩
  have hat : ∀ x ∈ L, L[x.i]? = some x ∧ ops.toList[x.i]? = some x.o := fun x hx => by
    obtain ⟨k, hk⟩ := List.mem_iff_getElem?.1 hx
    obtain ⟨h1, h2⟩ := hidx' k x hk
    rw [h1]; exact ⟨hk, h2⟩
  have huniq : ∀ x ∈ L, ∀ y ∈ L, x.i = y.i → x = y := fun x hx y hy e => by
    have h1 := (hat x hx).1
    have h2 := (hat y hy).1
    rw [e, h2] at h1; cases h1; rfl
  have hro := (hat r hr).2
  have hahead : ∀ i, Ahead ops.toList r.i i → S i = true := fun i h => by
    cases h with
    | edge ho he hb => rw [hro] at ho; cases ho; exact hready _ he hb
    | step ho he hb h2 => rw [hro] at ho; cases ho; exact h2.mem hI.closed (hready _ he hb)
  have hbehind : ∀ i, Ahead ops.toList i r.i → S i = false := fun i h => by
    cases hs : S i with
    | false => rfl
    | true => have := h.mem hI.closed hs; rw [hSr] at this; cases this
  -- who touches what this one touches
  have rel1 : ∀ k, (r.T.testBit k || r.W.testBit k) = true → ∀ x ∈ L, (S x.i && x.W.testBit k) = (decide (x.i < r.i) && x.W.testBit k) := fun k hk x hx => by
    cases hxw : x.W.testBit k with
    | false => simp
    | true =>
      simp only [Bool.and_true]
      rcases Nat.lt_trichotomy x.i r.i with hlt | heq | hgt
      · rcases hchk x hx r hr hlt with h | h
        · rw [hahead _ h]; simp [hlt]
        · obtain ⟨h1, h2⟩ := h.w k hxw
          rw [h1, h2] at hk; cases hk
      · have := huniq x hx r hr heq
        subst this
        rw [hSr]; simp
      · rcases hchk r hr x hx hgt with h | h
        · rw [hbehind _ h]
          have : ¬ x.i < r.i := by omega
          simp [this]
        · exfalso
          rw [Bool.or_eq_true] at hk
          rcases hk with hk | hk
          · rw [h.t k hk] at hxw; cases hxw
          · rw [(h.w k hk).2] at hxw; cases hxw
  have rel2 : ∀ t, (t ∈ r.o.looksAt ops ∨ r.o.dst = some t) → ∀ x ∈ L, (S x.i && decide (x.o.dst = some t)) = (decide (x.i < r.i) && decide (x.o.dst = some t)) := fun t ht x hx => by
    by_cases hxd : x.o.dst = some t
    · simp only [hxd, decide_true, Bool.and_true]
      rcases Nat.lt_trichotomy x.i r.i with hlt | heq | hgt
      · rcases hchk x hx r hr hlt with h | h
        · rw [hahead _ h]; simp [hlt]
        · obtain ⟨h1, h2, h3⟩ := Oper.apart_spec h.op
          rcases ht with ht | ht
          · exact absurd ht (h1 t hxd)
          · exact absurd ht (h2 t hxd)
      · have := huniq x hx r hr heq
        subst this
        rw [hSr]; simp
      · rcases hchk r hr x hx hgt with h | h
        · rw [hbehind _ h]
          have : ¬ x.i < r.i := by omega
          simp [this]
        · obtain ⟨h1, h2, h3⟩ := Oper.apart_spec h.op
          rcases ht with ht | ht
          · exact absurd ht (h3 t hxd)
          · exact absurd hxd (h2 t ht)
    · simp [hxd]
  have hone := hT.one r hr
  obtain ⟨f1, f2, f3, f4⟩ := hT.frame
  obtain ⟨j1, j2, j3, j4, j5⟩ := f4 r hr
  have hops : ops[r.i]? = some r.o := by rw [← hro]; simp
  refine one_ok (H := H) hcd hc hone hops hI.rel (fun k hk => ?_) (fun k h1 h2 => hI.fresh r hr hSr k h1 h2) (by rw [j1]; exact hI.size) (fun t ht => ?_) fun E' v' w' hx hv hR' => hK E' _ w' ?_
  · -- it finds what it found
    show lastW _ _ _ _ = _
    rw [lastW_congr L (g k) (rel1 k hk), (hT.mem k).1 r hr, hg r hr k hk]
  · rw [(hT.vals t).1 r hr, ← lastW_congr L (a.val t) (rel2 t (.inl ht))]
    exact hI.val t
  · have hkeep := hx.keep
    -- split the list at r
    obtain ⟨L1, L2, hLs⟩ := List.append_of_mem hr
    have hL2 : ∀ x ∈ L2, r.i < x.i := fun x hx => by
      obtain ⟨k, hk⟩ := List.mem_iff_getElem?.1 hx
      have h1 : L[L1.length]? = some r := by rw [hLs]; simp
      have h2 : L[L1.length + 1 + k]? = some x := by
        rw [hLs, List.getElem?_append_right (by omega), show L1.length + 1 + k - L1.length = k + 1 by omega]; simpa using hk
      have e1 := (hidx' _ _ h1).1
      have e2 := (hidx' _ _ h2).1
      omega
    have hmemL2 : ∀ x ∈ L2, x ∈ L := fun x hx => by rw [hLs]; simp [hx]
    refine ⟨?_, ?_, fun t => ?_, ?_, fun x hxL hxS k h1 h2 => ?_, ?_, fun j o e hj ho he hb => ?_⟩
    · have hm : merge I ⟨r.n1, r.m1, r.T, r.W⟩ (fun k => lastW (fun x => S x.i && x.W.testBit k) (fun x => I.get x.m1 k) (g k) L) = fun k => lastW (fun x => S' x.i && x.W.testBit k) (fun x => I.get x.m1 k) (g k) L := by
        funext k
        unfold merge
        simp only
        cases hw : r.W.testBit k with
        | false =>
          rw [if_neg (by simp)]
          refine lastW_congr L _ fun x hx => ?_
          rw [hS']
          by_cases e : x.i = r.i
          · have := huniq x hx r hr e
            subst this
            simp [hw]
          · simp [e]
        | true =>
          rw [if_pos rfl, hLs]
          refine (lastW_at (p := fun x => S' x.i && x.W.testBit k) (f := fun x => I.get x.m1 k) (l := L1) (m := L2) (r := r) (g k) (by simp only [hS', hw]; simp) fun x hx => ?_).symm
          show (S' x.i && x.W.testBit k) = false
          cases hxw : x.W.testBit k with
          | false => simp
          | true =>
            rw [Bool.and_true, hS']
            have hlt := hL2 x hx
            rcases hchk r hr x (hmemL2 x hx) hlt with h | h
            · rw [hbehind _ h]
              have : ¬ x.i = r.i := by omega
              simp [this]
            · rw [(h.w k hw).2] at hxw; cases hxw
      rw [hm] at hR'
      exact hR'
    · simp [Act.put]
      cases r.o.dst <;> simp [hI.size]
    · by_cases hd : r.o.dst = some t
      · have hval : lastW (fun x => S' x.i && decide (x.o.dst = some t)) (fun x => x.v) (a.val t) L = r.v := by
          rw [hLs]
          refine lastW_at _ (by rw [hS']; simp [hd]) fun x hx => ?_
          by_cases hxd : x.o.dst = some t
          · have hlt := hL2 x hx
            have := rel2 t (.inr hd) x (hmemL2 x hx)
            rw [hxd] at this
            have hn : ¬ x.i < r.i := by omega
            have hn2 : ¬ x.i = r.i := by omega
            simp [hn] at this
            rw [hS', this]; simp [hn2]
          · simp [hxd]
        rw [hval, hd]
        have hlt : t < ca.tmps.size := by rw [hI.size]; exact j5 t hd
        simp [Act.put, hlt]
        exact hv
      · have hval : lastW (fun x => S' x.i && decide (x.o.dst = some t)) (fun x => x.v) (a.val t) L = lastW (fun x => S x.i && decide (x.o.dst = some t)) (fun x => x.v) (a.val t) L := by
          refine lastW_congr L _ fun x hx => ?_
          rw [hS']
          by_cases e : x.i = r.i
          · have := huniq x hx r hr e
            subst this
            simp [hd]
          · simp [e]
        rw [hval]
        have : (ca.put r.o.dst v').tmps.getD t undef = ca.tmps.getD t undef := by
          cases hdd : r.o.dst with
          | none => rfl
          | some d =>
            have hne : ¬ d = t := fun e => hd (by rw [hdd, e])
            simp [Act.put, Array.getElem?_setIfInBounds, hne]
        rw [this]
        exact (hI.val t).mono hkeep
    · rw [← hI.defers]
      cases r.o.dst <;> rfl
    · rw [hS'] at hxS
      simp only [Bool.or_eq_false_iff, decide_eq_false_iff_not] at hxS
      have h0 := hI.fresh x hxL hxS.1 k h1 h2
      cases hE : E' k with
      | none => rfl
      | some y =>
        rcases hx.dom k (by simp [hE]) with h3 | h3
        · exact absurd h0 h3
        · simp only at h3
          rcases Nat.lt_or_gt_of_ne hxS.2 with hlt | hgt
          · have := hT.apart x hxL r hr hlt; omega
          · have := hT.apart r hr x hxL hgt; omega
    · refine ⟨fun k x hk => hkeep k x (hI.ext.keep k x hk), fun k hk => ?_⟩
      rcases hx.dom k hk with h1 | h1
      · exact hI.ext.dom k h1
      · simp only at h1; exact .inr (by omega)
    · rw [hS'] at hj ⊢
      rw [Bool.or_eq_true, decide_eq_true_eq] at hj
      rcases hj with hj | hj
      · rw [hI.closed j o e hj ho he hb]; rfl
      · subst hj
        rw [hro] at ho; cases ho
        rw [hready e he hb]; rfl
end

theorem count_set_true (listed : Array Bool) (i : Nat) (h : listed.getD i true = false) : (listed.setIfInBounds i true).toList.count false + 1 = listed.toList.count false := by
  have hi : i < listed.size := by
    rcases Nat.lt_or_ge i listed.size with h' | h'
    · exact h'
    · simp [Array.getElem?_eq_none h'] at h
  have hv : listed[i] = false := by simpa [hi] using h
  rw [Array.toList_setIfInBounds]
  rw [List.count_set (by simpa using hi)]
  have hmem : false ∈ listed.toList := by
    rw [List.mem_iff_getElem]; exact ⟨i, by simpa using hi, by simpa using hv⟩
  have hp := List.count_pos_iff.2 hmem
  have e1 : (listed.toList[i]'(by simpa using hi) == false) = true := by simpa using hv
  rw [if_pos e1, if_neg (by simp)]
  omega

/-- The whole region. -/
theorem draw_ok {H : Plain P X w0.w} (hcd : CodeOK P lo w0 self.code) (hc : CallOK P lo w0 self.call) {ρ : Option Nat} (a : AAct) : CodeP P lo w0 ρ (drawA P X lo self ops a) a (fun ρ' Q ca w => wpAnyIn (fen ρ') 0 P .any ops Q ops.size (Array.replicate ops.size false) ca w) := by
  intro s e a' s' hr E0 g w ca Q ρ' hρ hR hA hF ha hQ
  unfold drawA at hr
  obtain ⟨q, s1, h1, h2⟩ := bind_run hr
  cases hck : checkD ops (masks ops.toList []) q.2 with
  | false => simp only [hck] at h2; exact (fail_run h2).elim
  | true =>
    simp only [hck, cond_true] at h2
    obtain ⟨h3, rfl⟩ := pure_run h2
    cases h3
    obtain ⟨L, hT, hm, hTT, hWW⟩ := runD_tr (P := P) (X := X) (lo := lo) (self := self) (ops := ops) ops.toList 0 a s s' q h1
    rw [hm] at hck
    obtain ⟨hlen, hidx⟩ := hT.idx
    have hidx' : ∀ (k : Nat) (x : Stp μ), L[k]? = some x → x.i = k ∧ ops.toList[k]? = some x.o := fun k x hx => by
      have := hidx k x hx; exact ⟨by omega, this.2⟩
    obtain ⟨hchk, hedge⟩ := checkD_spec hidx' hck
    have hg : ∀ r ∈ L, ∀ k, (r.T.testBit k || r.W.testBit k) = true → g k = I.get s.mem k := fun r hr k hk => by
      refine hA k ?_
      rw [hTT, hWW]
      rw [Bool.or_eq_true] at hk
      rcases hk with hk | hk
      · have : L.any (fun r => r.T.testBit k) = true := List.any_eq_true.2 ⟨r, hr, hk⟩
        simp [this]
      · have : L.any (fun r => r.W.testBit k) = true := List.any_eq_true.2 ⟨r, hr, hk⟩
        simp [this]
    obtain ⟨f1, f2, f3, f4⟩ := hT.frame
    -- all is done
    have done : ∀ (S : Nat → Bool) E ca1 w1, (∀ i, i < ops.size → S i = true) → DInv P lo w0 ops I E0 g a ca s.next s'.next L S E ca1 w1 → Q .normal ca1 w1 := fun S E ca1 w1 hS hI => by
      have hSx : ∀ x ∈ L, S x.i = true := fun x hx => by
        obtain ⟨k, hk⟩ := List.mem_iff_getElem?.1 hx
        have := (hidx' k x hk).1
        have hlt : k < L.length := (List.getElem?_eq_some_iff.1 hk).1
        rw [this]; exact hS k (by rw [hlen] at hlt; simpa using hlt)
      refine hQ E .normal ca1 w1 hI.ext trivial ⟨by rw [f1]; exact hI.size, fun t => ?_, by rw [f2, hI.defers]; exact ha.len, by rw [f2, hI.defers]; exact fun j d d' h1 h2 => (ha.defers j d d' h1 h2).mono hI.ext.keep⟩ ?_
      · have := hI.val t
        rw [(hT.vals t).2, ← lastW_congr (p := fun x => S x.i && decide (x.o.dst = some t)) L (a.val t) (fun x hx => by rw [hSx x hx, Bool.true_and])]
        exact this
      · have hme : merge I s' g = fun k => lastW (fun x => S x.i && x.W.testBit k) (fun x => I.get x.m1 k) (g k) L := by
          funext k
          rw [lastW_congr (q := fun x => x.W.testBit k) L (g k) (fun x hx => by rw [hSx x hx, Bool.true_and])]
          unfold merge
          rw [hWW]
          cases hany : L.any (fun r => r.W.testBit k) with
          | true =>
            rw [if_pos (by simp), (hT.mem k).2]
            obtain ⟨r, hr1, hr2⟩ := List.any_eq_true.1 hany
            rw [hg r hr1 k (by simp [hr2])]
          | false =>
            have hnone : ∀ x ∈ L, x.W.testBit k = false := fun x hx => by
              cases hw : x.W.testBit k with
              | false => rfl
              | true => rw [List.any_eq_true.2 ⟨x, hx, hw⟩] at hany; cases hany
            rw [lastW_none L _ hnone]
            split
            · rename_i hw
              rw [(hT.mem k).2, lastW_none L _ hnone]
              exact (hA k (by rw [hTT, hWW]; simp at hw; simp [hw])).symm
            · rfl
        rw [hme]; exact hI.rel
    have key : ∀ (fuel : Nat) (listed : Array Bool) E ca1 w1, listed.size = ops.size → listed.toList.count false ≤ fuel → DInv P lo w0 ops I E0 g a ca s.next s'.next L (fun i => listed.getD i false) E ca1 w1 → wpAnyIn (fen ρ') 0 P .any ops Q fuel listed ca1 w1 := by
      intro fuel
      induction fuel with
      | zero =>
        intro listed E ca1 w1 hsz hcnt hI
        have hall : ∀ i, i < ops.size → listed.getD i false = true := fun i hi => by
          have hi' : i < listed.size := by omega
          cases hv : listed[i] with
          | true => simp [hi', hv]
          | false =>
            have hmem : false ∈ listed.toList := by rw [List.mem_iff_getElem]; exact ⟨i, by simpa using hi', by simpa using hv⟩
            have := List.count_pos_iff.2 hmem
            omega
        refine ⟨?_, done _ E ca1 w1 hall hI⟩
        apply List.eq_nil_iff_forall_not_mem.2
        intro i hi
        obtain ⟨h4, o, ho, _⟩ := mem_ready.1 hi
        have hlt : i < ops.size := (Array.getElem?_eq_some_iff.1 ho).1
        have := hall i hlt
        have hi' : i < listed.size := by omega
        simp [hi'] at this h4
        rw [this] at h4; cases h4
      | succ fuel ih =>
        intro listed E ca1 w1 hsz hcnt hI
        constructor
        · intro hnone
          refine done _ E ca1 w1 ?_ hI
          intro i
          induction i using Nat.strongRecOn with
          | _ i ihi =>
            intro hi
            have hi' : i < listed.size := by omega
            cases hv : listed[i] with
            | true => simp [hi', hv]
            | false =>
              exfalso
              have : i ∈ Region.ready .any ops listed := mem_ready.2 ⟨by simp [hi', hv], ops[i], by simp [hi], fun e he hb => by
                have hlt := hedge i ops[i] e (by simp [hi]) he hb
                exact ihi e.on hlt (by omega)⟩
              rw [hnone] at this; cases this
        · intro i hi
          obtain ⟨h4, o, ho, hall⟩ := mem_ready.1 hi
          have hlt : i < ops.size := (Array.getElem?_eq_some_iff.1 ho).1
          have hi' : i < listed.size := by omega
          have hL : i < L.length := by rw [hlen]; simpa using hlt
          obtain ⟨q1, q2⟩ := hidx' i L[i] (by simp [hL])
          have hoo : L[i].o = o := by
            have : ops.toList[i]? = some o := by simpa using ho
            rw [this] at q2; cases q2; rfl
          have h4' : listed.getD i false = false := by
            simp [hi'] at h4 ⊢; exact h4
          have hstep := draw_step (H := H) (ρ' := ρ') (K := wpAnyIn (fen ρ') 0 P .any ops Q fuel (listed.setIfInBounds i true)) (Q := Q) (S' := fun j => (listed.setIfInBounds i true).getD j false) hcd hc hT hg hchk hI (r := L[i]) (List.getElem_mem hL) (by rw [q1]; exact h4') (by rw [hoo]; exact hall)
            (fun j => by
              rw [q1]
              by_cases e : j = i
              · subst e; simp [hi']
              · have hne : ¬ i = j := fun h => e h.symm
                simp [e, Array.getElem?_setIfInBounds, hne])
            (fun E' ca' w' hI' => ih _ E' ca' w' (by simpa using hsz) (by have := count_set_true listed i h4; omega) hI')
          rw [q1] at hstep
          exact hstep
    refine key ops.size _ E0 ca w (by simp) (by simp) ⟨?_, ha.size, fun t => ?_, rfl, fun r hr _ k h1 h2 => hF k (by have := (f4 r hr).2.1; omega) (by have := (f4 r hr).2.2.2.1; omega), ⟨fun _ _ h => h, fun _ h => .inl h⟩, fun j o e hj => ?_⟩
    · have : (fun k => lastW (fun x : Stp μ => (Array.replicate ops.size false).getD x.i false && x.W.testBit k) (fun x => I.get x.m1 k) (g k) L) = g := by
        funext k
        exact lastW_none L _ fun x hx => by
          simp [Array.getElem?_replicate]
          intro h; split at h <;> simp at h
      rw [this]; exact hR
    · rw [lastW_none L _ fun x hx => by
          simp [Array.getElem?_replicate]
          intro h; split at h <;> simp at h]
      exact ha.val t
    · simp [Array.getElem?_replicate] at hj
      split at hj <;> simp at hj
end Go.Am

/- The abstract evaluator: a region that draws its order and whose last operation stands behind all the others. Conditions: none. -/
namespace Go.Am
open Go Go.RowKit
set_option linter.unusedVariables false
set_option linter.unusedSimpArgs false
variable {F : Fence} {n : Nat} {μ : Type} {I : MemI μ} {P : Program} {lo : Lim} {w0 : Bs} {X : Hk} {self : Self I} {ops : Array Oper}

theorem wpIn_exits {o : Oper} {a : Act} {w : World} {K : Act → World → Prop} {Q Q1 : Exit → Act → World → Prop} (hp : ∀ c a w, Q1 (.panic c) a w → Q (.panic c) a w) (hl : LetsOut Q1 → LetsOut Q) (h : o.wpIn F n P a w K Q1) : o.wpIn F n P a w K Q := by
  unfold Oper.wpIn at *
  refine ⟨h.1, ?_⟩
  have h := h.2
  generalize (o.semAt F.round a.eval).run P w = r at *
  cases r with
  | ok nx w' =>
    cases nx <;> simp only [Oper.uponIn] at h ⊢ <;>
      first
        | exact h
        | exact ⟨h.1, CallsIn.mono h.2 (fun e w'' he => by cases e <;> first | exact he | exact hp _ _ _ he | exact hl he)⟩
        | exact ⟨h.1, RoundIn.mono h.2 (fun e w'' he => by cases e <;> first | exact he | exact hp _ _ _ he | exact hl he)⟩
  | halt x w' => cases x <;> simp only [Oper.uponIn] at h ⊢ <;> first | exact h | exact hp _ _ _ h
theorem any_done {Q : Exit → Act → World → Prop} {listed : Array Bool} {a : Act} {w : World} (h : Region.ready .any ops listed = []) (hQ : Q .normal a w) : ∀ fuel, wpAnyIn F n P .any ops Q fuel listed a w
  | 0 => ⟨h, hQ⟩
  | fuel + 1 => ⟨fun _ => hQ, fun i hi => by rw [h] at hi; cases hi⟩
/-- What the others hand on to the last. -/
def Last (F : Fence) (n : Nat) (P : Program) (ops : Array Oper) (p : Oper) (Q : Exit → Act → World → Prop) : Exit → Act → World → Prop
  | .normal, a, w => wpListIn F n P ops Q [p] a w
  | e, a, w => Q e a w
theorem any_last {pre : Array Oper} {p : Oper} {Q : Exit → Act → World → Prop} (hpre : ∀ i o, pre[i]? = some o → (∀ e ∈ o.after, Region.binds .any e = true → e.on < i) ∧ ∀ j b, o.guard = some (j, b) → j < pre.size)
    (hp : ∀ e ∈ p.after, Region.binds .any e = true → e.on < pre.size) (hlast : ∀ i, i < pre.size → Ahead (pre.push p).toList pre.size i) :
    ∀ (fuel : Nat) (l : Array Bool) (a : Act) (w : World), l.size = pre.size → ClosedS pre.toList (fun i => l.getD i false) → wpAnyIn F n P .any pre (Last F n P (pre.push p) p Q) fuel l a w → wpAnyIn F n P .any (pre.push p) Q (fuel + 1) (l.push false) a w := by
  intro fuel
  have getlt : ∀ (l : Array Bool) (d : Bool) i, i < l.size → (l.push false).getD i d = l.getD i d := fun l d i hi => by
    simp [Array.getD_eq_getD_getElem?, Array.getElem?_push, Nat.ne_of_lt hi]
  have getn : ∀ (l : Array Bool), (l.push false).getD l.size true = false := fun l => by
    simp [Array.getD_eq_getD_getElem?]
  have opslt : ∀ i, i < pre.size → (pre.push p)[i]? = pre[i]? := fun i hi => by simp [Array.getElem?_push, Nat.ne_of_lt hi]
  have opsn : (pre.push p)[pre.size]? = some p := by simp
  -- ready here, ready there
  have rdy : ∀ (l : Array Bool), l.size = pre.size → ∀ i, i < pre.size → (i ∈ Region.ready .any (pre.push p) (l.push false) ↔ i ∈ Region.ready .any pre l) := fun l hl i hi => by
    rw [mem_ready, mem_ready, opslt i hi, getlt l true i (by omega)]
    constructor
    · rintro ⟨h1, o, h2, h3⟩
      refine ⟨h1, o, h2, fun e he hb => ?_⟩
      have := (hpre i o h2).1 e he hb
      rw [← getlt l false e.on (by omega)]; exact h3 e he hb
    · rintro ⟨h1, o, h2, h3⟩
      refine ⟨h1, o, h2, fun e he hb => ?_⟩
      have := (hpre i o h2).1 e he hb
      rw [getlt l false e.on (by omega)]; exact h3 e he hb
  have inlt : ∀ (l : Array Bool), l.size = pre.size → ∀ i, i ∈ Region.ready .any (pre.push p) (l.push false) → i < pre.size ∨ i = pre.size := fun l hl i hi => by
    obtain ⟨_, o, ho, _⟩ := mem_ready.1 hi
    have := (Array.getElem?_eq_some_iff.1 ho).1
    simp at this; omega
  -- the last is ready when all is done
  have full : ∀ (l : Array Bool), l.size = pre.size → ClosedS pre.toList (fun i => l.getD i false) → pre.size ∈ Region.ready .any (pre.push p) (l.push false) → ∀ i, i < pre.size → l.getD i false = true := fun l hl hc hn i hi => by
    obtain ⟨_, o, ho, hall⟩ := mem_ready.1 hn
    rw [opsn] at ho; cases ho
    have hc2 : ClosedS (pre.push p).toList (fun i => decide (i < pre.size) && l.getD i false) := fun j o e hj ho he hb => by
      simp only [Bool.and_eq_true, decide_eq_true_eq] at hj
      have ho' : pre[j]? = some o := by
        have : (pre.push p)[j]? = some o := by rw [← ho]; simp only [Array.getElem?_toList]
        rw [opslt j hj.1] at this; exact this
      have h1 := (hpre j o ho').1 e he hb
      simp only [Bool.and_eq_true, decide_eq_true_eq]
      exact ⟨by omega, hc j o e hj.2 (by simpa using ho') he hb⟩
    have hS : ∀ e ∈ p.after, Region.binds .any e = true → (decide (e.on < pre.size) && l.getD e.on false) = true := fun e he hb => by
      have h1 := hp e he hb
      have h2 := hall e he hb
      rw [getlt l false e.on (by omega)] at h2
      simp [h1, h2]
    have hA := hlast i hi
    have key : (decide (i < pre.size) && l.getD i false) = true := by
      cases hA with
      | edge ho he hb =>
        have ho' := ho; rw [Array.getElem?_toList] at ho'
        rw [opsn] at ho'; cases ho'
        exact hS _ he hb
      | step ho he hb h2 =>
        have ho' := ho; rw [Array.getElem?_toList] at ho'
        rw [opsn] at ho'; cases ho'
        exact h2.mem hc2 (hS _ he hb)
    simp only [Bool.and_eq_true, decide_eq_true_eq] at key
    exact key.2
  have none : ∀ (l : Array Bool), (∀ i, i < pre.size → l.getD i false = true) → l.size = pre.size → Region.ready .any pre l = [] := fun l hl hsz => by
    apply List.eq_nil_iff_forall_not_mem.2
    intro i hi
    obtain ⟨h1, o, ho, _⟩ := mem_ready.1 hi
    have hlt := (Array.getElem?_eq_some_iff.1 ho).1
    have := hl i hlt
    have hi' : i < l.size := by omega
    simp [Array.getD_eq_getD_getElem?, hi'] at this h1
    rw [this] at h1; cases h1
  -- the last one's turn
  have fin : ∀ (fuel : Nat) (l : Array Bool) (a : Act) (w : World), l.size = pre.size → (∀ i, i < pre.size → l.getD i false = true) → wpListIn F n P (pre.push p) Q [p] a w → wpOpIn F n P (pre.push p) Q pre.size (wpAnyIn F n P .any (pre.push p) Q fuel ((l.push false).setIfInBounds pre.size true)) a w := fun fuel l a w hl hall h => by
    have hr : Region.ready .any (pre.push p) ((l.push false).setIfInBounds pre.size true) = [] := by
      apply List.eq_nil_iff_forall_not_mem.2
      intro i hi
      obtain ⟨h1, o, ho, _⟩ := mem_ready.1 hi
      have hlt := (Array.getElem?_eq_some_iff.1 ho).1
      simp at hlt
      by_cases e : i = pre.size
      · subst e
        simp [Array.getD_eq_getD_getElem?, hl] at h1
      · have h2 := hall i (by omega)
        have hi' : i < l.size := by omega
        have e' : ¬ pre.size = i := fun h => e h.symm
        have e2 : ¬ i = l.size := by omega
        simp [Array.getD_eq_getD_getElem?, Array.getElem?_setIfInBounds, Array.getElem?_push, e', e2, hi'] at h1 h2
        rw [h2] at h1; cases h1
    unfold wpListIn at h
    unfold wpOpIn
    simp only [opsn]
    split
    · rename_i hw
      rw [if_pos hw] at h
      exact Oper.wpIn_mono (fun a w h => any_done hr h fuel) h
    · rename_i hw
      rw [if_neg hw] at h
      exact ⟨h.1, any_done hr h.2 fuel⟩
  have some_ready : ∀ (l : Array Bool), l.size = pre.size → Region.ready .any (pre.push p) (l.push false) = [] → False := fun l hl h => by
    have hall : ∀ i, i < pre.size → l.getD i false = true := by
      intro i
      induction i using Nat.strongRecOn with
      | _ i ihi =>
        intro hi
        have hi' : i < l.size := by omega
        cases hv : l[i] with
        | true => simp [Array.getD_eq_getD_getElem?, hi', hv]
        | false =>
          exfalso
          have : i ∈ Region.ready .any pre l := mem_ready.2 ⟨by simp [Array.getD_eq_getD_getElem?, hi', hv], pre[i], by simp [hi], fun e he hb => by
            have hlt := (hpre i pre[i] (by simp [hi])).1 e he hb
            exact ihi e.on hlt (by omega)⟩
          rw [← rdy l hl i hi, h] at this; cases this
    have : pre.size ∈ Region.ready .any (pre.push p) (l.push false) := mem_ready.2 ⟨by rw [← hl]; exact getn l, p, opsn, fun e he hb => by
      have := hp e he hb
      rw [getlt l false e.on (by omega)]; exact hall e.on this⟩
    rw [h] at this; cases this
  induction fuel with
  | zero =>
    intro l a w hl hc h
    refine ⟨fun hn => (some_ready l hl hn).elim, fun i hi => ?_⟩
    rcases inlt l hl i hi with hlt | rfl
    · have := (rdy l hl i hlt).1 hi
      rw [h.1] at this; cases this
    · exact fin 0 l a w hl (full l hl hc hi) h.2
  | succ fuel ih =>
    intro l a w hl hc h
    refine ⟨fun hn => (some_ready l hl hn).elim, fun i hi => ?_⟩
    rcases inlt l hl i hi with hlt | rfl
    · have hi2 := (rdy l hl i hlt).1 hi
      have h2 := h.2 i hi2
      obtain ⟨q1, o, ho, hedges⟩ := mem_ready.1 hi2
      have hil : i < l.size := by omega
      have hset : (l.push false).setIfInBounds i true = (l.setIfInBounds i true).push false := by
        apply Array.ext_getElem?
        intro k
        by_cases hk : k = i
        · subst hk
          have e1 : ¬ k = l.size := by omega
          have hR : ((l.setIfInBounds k true).push false)[k]? = some true := by
            rw [Array.getElem?_push, if_neg (by rw [Array.size_setIfInBounds]; exact e1)]
            simp [hil]
          have hL : ((l.push false).setIfInBounds k true)[k]? = some true := by
            have h9 : k < (l.push false).size := by rw [Array.size_push]; omega
            rw [Array.getElem?_setIfInBounds, if_pos rfl, if_pos h9]
          rw [hR, hL]
        · have hk' : ¬ i = k := fun h => hk h.symm
          simp [Array.getElem?_setIfInBounds, Array.getElem?_push, hk']
      have hcl : ClosedS pre.toList (fun j => (l.setIfInBounds i true).getD j false) := fun j o' e hj ho' he hb => by
        have hget : ∀ k, (l.setIfInBounds i true).getD k false = (l.getD k false || decide (k = i)) := fun k => by
          by_cases hk : k = i
          · subst hk; simp [Array.getD_eq_getD_getElem?, hil]
          · have hk' : ¬ i = k := fun h => hk h.symm
            simp [Array.getD_eq_getD_getElem?, Array.getElem?_setIfInBounds, hk, hk']
        simp only at hj ⊢
        rw [hget] at hj ⊢
        rw [Bool.or_eq_true, decide_eq_true_eq] at hj
        rcases hj with hj | hj
        · have h5 : l.getD e.on false = true := hc j o' e hj ho' he hb
          rw [h5]; rfl
        · subst hj
          have : pre[j]? = some o' := by simpa using ho'
          rw [ho] at this; cases this
          rw [hedges e he hb]; rfl
      rw [hset]
      unfold wpOpIn at h2 ⊢
      rw [opslt i hlt]
      simp only [ho] at h2 ⊢
      have hwant : Region.wanted o (yielded (pre.push p) a.tmps) = Region.wanted o (yielded pre a.tmps) := by
        unfold Region.wanted
        cases hg : o.guard with
        | none => rfl
        | some jw =>
          obtain ⟨j, b⟩ := jw
          have hj := (hpre i o ho).2 j b hg
          simp only
          have : yielded (pre.push p) a.tmps j = yielded pre a.tmps j := by
            unfold yielded
            rw [opslt j hj]
          rw [this]
      rw [hwant]
      split
      · rename_i hw
        rw [if_pos hw] at h2
        exact wpIn_exits (fun c a w h => h) (fun h => h) (Oper.wpIn_mono (fun a w h => ih _ a w (by simpa using hl) hcl h) h2)
      · rename_i hw
        rw [if_neg hw] at h2
        exact ⟨h2.1, ih _ _ w (by simpa using hl) hcl h2.2⟩
    · have hall := full l hl hc hi
      exact fin (fuel + 1) l a w hl hall (h.1 (none l hall hl))

theorem lastP_spec {p : Oper} (h : lastP ops = some p) : ops = ops.pop.push p ∧ (∀ i o, ops.pop[i]? = some o → (∀ e ∈ o.after, Region.binds .any e = true → e.on < i) ∧ ∀ j b, o.guard = some (j, b) → j < ops.pop.size) ∧
    (∀ e ∈ p.after, Region.binds .any e = true → e.on < ops.pop.size) ∧ ∀ i, i < ops.pop.size → Ahead ops.toList ops.pop.size i := by
  unfold lastP at h
  cases hb : ops.back? with
  | none => rw [hb] at h; cases h
  | some p' =>
    rw [hb] at h
    simp only at h
    · cases hk : ((ops.toList.zipIdx.all fun (o, i) => backOK ops.pop.size i o) && ((List.range ops.pop.size).all fun i => ((masks ops.toList []).getD ops.pop.size 0).testBit i)) with
      | false => rw [hk] at h; cases h
      | true =>
        rw [hk] at h
        cases h
        simp only [Bool.and_eq_true] at hk
        have hne : ops ≠ #[] := by rintro rfl; simp at hb
        have hsz : 0 < ops.size := Array.size_pos_iff.2 hne
        have heq : ops = ops.pop.push p := by
          have hpb : p = ops.back hsz := by
            rw [Array.back?_eq_getElem?] at hb
            have h1 : ops.size - 1 < ops.size := by omega
            rw [Array.getElem?_eq_getElem h1] at hb
            cases hb; rfl
          rw [hpb]
          apply Array.ext_getElem?
          intro k
          rw [Array.getElem?_push, Array.getElem?_pop]
          simp only [Array.size_pop]
          by_cases hk2 : k = ops.size - 1
          · subst hk2; rw [if_pos rfl, Array.getElem?_eq_getElem (by omega)]; rfl
          · rw [if_neg hk2]
            by_cases hk3 : k < ops.size - 1
            · rw [if_pos hk3]
            · rw [if_neg hk3, Array.getElem?_eq_none (by omega)]
        have hbk : ∀ i o, ops[i]? = some o → backOK ops.pop.size i o = true := fun i o ho => by
          have hm : (o, i) ∈ ops.toList.zipIdx := by rw [List.mem_zipIdx_iff_getElem?]; simpa using ho
          exact List.all_eq_true.1 hk.1 _ hm
        have hspec : ∀ i o, ops[i]? = some o → (∀ e ∈ o.after, Region.binds .any e = true → e.on < i) ∧ ∀ j b, o.guard = some (j, b) → j < ops.pop.size := fun i o ho => by
          have h1 := hbk i o ho
          unfold backOK at h1
          simp only [Bool.and_eq_true, Array.all_eq_true_iff_forall_mem] at h1
          refine ⟨fun e he hbd => ?_, fun j b hg => ?_⟩
          · have := h1.1 e he
            rw [hbd, blt_eq] at this
            simpa using this
          · have := h1.2
            rw [hg] at this
            simp only [blt_eq, decide_eq_true_eq] at this
            exact this
        refine ⟨heq, fun i o ho => hspec i o ?_, (hspec ops.pop.size p ?_).1, fun i hi => ?_⟩
        · rw [heq, Array.getElem?_push]
          have := (Array.getElem?_eq_some_iff.1 ho).1
          rw [if_neg (by omega)]
          exact ho
        · have h5 : (ops.pop.push p)[ops.pop.size]? = some p := Array.getElem?_push_size
          rw [← heq] at h5; exact h5
        · exact masks_spec ops.toList ops.toList [] (fun k o hk => by simpa using hk) (fun j i h => by simp at h) _ i (List.all_eq_true.1 hk.2 i (List.mem_range.2 hi))

theorem drawL_ok {H : Plain P X w0.w} (hcd : CodeOK P lo w0 self.code) (hc : CallOK P lo w0 self.call) {ρ : Option Nat} (a : AAct) : CodeP P lo w0 ρ (drawL P X lo ρ self ops a) a (fun ρ' Q ca w => wpAnyIn (fen ρ') 0 P .any ops Q ops.size (Array.replicate ops.size false) ca w) := by
  intro s e a' s' hr E g w ca Q ρ' hρ hR hA hF ha hQ
  unfold drawL at hr
  cases hl : lastP ops with
  | none => rw [hl] at hr; exact draw_ok (H := H) hcd hc a s e a' s' hr E g w ca Q ρ' hρ hR hA hF ha hQ
  | some p =>
    rw [hl] at hr
    obtain ⟨heq, h1, h2, h3⟩ := lastP_spec hl
    obtain ⟨r, s1, q1, q2⟩ := bind_run hr
    have hle2 : St.Le I s1 s' := M.le _ _ _ _ q2
    obtain ⟨e1, a1⟩ := r
    have hsz : ops.size = ops.pop.size + 1 := by
      have := congrArg Array.size heq
      simpa using this
    have main : wpAnyIn (fen ρ') 0 P .any ops.pop (Last (fen ρ') 0 P ops p Q) ops.pop.size (Array.replicate ops.pop.size false) ca w := by
      refine draw_ok (H := H) hcd hc a s e1 a1 s1 q1 E g w ca _ ρ' hρ hR (hA.first hle2) (hF.first hle2.next) ha fun E' ce ca' w' hx he ha' hR' => ?_
      obtain ⟨hA1, hF1, hX1, hm1⟩ := chain q1 hle2 hA hF hx
      cases e1 with
      | normal =>
        cases ce <;> first | exact he.elim | skip
        exact opsSeq_ok H hcd hc [p] a1 s1 e a' s' q2 E' _ w' ca' Q ρ' (hρ.mono hx.keep) hR' hA1 hF1 ha' fun E2 ce2 ca2 w2 hx2 he2 ha2 hR2 => hQ E2 ce2 ca2 w2 (hX1 E2 hx2) he2 ha2 (by rw [hm1] at hR2; exact hR2)
      | _ =>
        obtain ⟨h4, rfl⟩ := pure_run q2
        cases h4
        have := hQ E' ce ca' w' hx he ha' hR'
        cases ce <;> first | exact he.elim | exact this
    have key := any_last (F := fen ρ') (n := 0) (P := P) (Q := Q) h1 h2 (fun i hi => by rw [← heq]; exact h3 i hi) ops.pop.size (Array.replicate ops.pop.size false) ca w (by simp) (fun j o e hj => by
      simp [Array.getElem?_replicate] at hj
      split at hj <;> simp at hj) (by rw [← heq]; exact main)
    rw [← heq] at key
    have hrep : (Array.replicate ops.pop.size false).push false = Array.replicate ops.size false := by
      rw [hsz]; exact Array.replicate_succ.symm
    rw [hrep, ← hsz] at key
    exact key
end Go.Am
