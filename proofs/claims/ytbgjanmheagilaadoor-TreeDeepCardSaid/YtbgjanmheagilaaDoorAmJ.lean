/- The abstract evaluator: code and calls. Conditions: none. -/
import Derived.Test.YtbgjanmheagilaaDoorAmI
import Derived.LoopN
import Derived.Defers
namespace Go.Am
open Go Go.RowKit
set_option linter.unusedVariables false
set_option linter.unusedSimpArgs false
noncomputable section
variable {μ : Type} {I : MemI μ} {P : Program} {lo : Lim} {w0 : Bs} {E : Env} {H : (Nat → Option Obj) → Prop}

structure AAct where
  n : Nat
  t : Trie Value
  defers : List Deferred

def AAct.val (a : AAct) (i : Nat) : Value := (a.t.get i).getD undef
def evA (lo : Lim) (a : AAct) : Ev
  | .tmp i => some (a.val i)
  | .const v => bif gnd 3 v then some v else none
  | .global g => bif Nat.blt g lo.G then some (.pointer (some ⟨g, 0, none⟩)) else none
  | .func f => some (.func (.func f) #[] #[])
def putA' (a : AAct) (dst : Option Tmp) (v : Value) : M I AAct := match dst with
  | none => pure a
  | some d => bif Nat.blt d a.n && Nat.blt d 4095 then pure ⟨a.n, a.t.set 12 d (some v), a.defers⟩ else fail

structure ActR (E : Env) (a : AAct) (ca : Act) : Prop where
  size : ca.tmps.size = a.n
  val : ∀ i, VR E (a.val i) (ca.tmps.getD i undef)
  len : a.defers.length = ca.defers.length
  defers : ∀ (j : Nat) (d d' : Deferred), a.defers[j]? = some d → ca.defers[j]? = some d' → DR E d d'
theorem DR.mono {E E' : Env} (hE : ∀ k x, E k = some x → E' k = some x) {d d' : Deferred} (h : DR E d d') : DR E' d d' := by
  obtain ⟨f, c, c', h1, h2, h3, h4⟩ := h
  exact ⟨f, c, c', h1, h2, h3.mono hE, h4.mono hE⟩
theorem ActR.mono {E E' : Env} (hE : ∀ k x, E k = some x → E' k = some x) {a : AAct} {ca : Act} (h : ActR E a ca) : ActR E' a ca :=
  ⟨h.size, fun i => (h.val i).mono hE, h.len, fun j d d' h1 h2 => (h.defers j d d' h1 h2).mono hE⟩
theorem ActR.ev {a : AAct} {ca : Act} (h : ActR E a ca) (hold : ∀ k, k < lo.G → E k = some (k, 0)) : ∀ x v, evA lo a x = some v → VR E v (ca.eval x) := by
  intro x v hv
  cases x with
  | tmp i => simp [evA] at hv; subst hv; exact h.val i
  | const u =>
    cases hg : gnd 3 u with
    | true => simp [evA, hg] at hv; subst hv; exact gnd_refl E 3 u hg
    | false => simp [evA, hg] at hv
  | global g =>
    cases hb : Nat.blt g lo.G with
    | true =>
      simp [evA, hb] at hv; subst hv
      rw [blt_eq] at hb
      exact .ptr (r := 0) (hold g (by simpa using hb))
    | false => simp [evA, hb] at hv
  | func f => simp [evA] at hv; subst hv; exact .func rfl (fun _ _ j h => by simp at h) rfl (fun _ _ j h => by simp at h)
theorem ActR.put {a a' : AAct} {ca : Act} {dst : Option Tmp} {v v' : Value} {s s' : St μ} (h : ActR E a ca) (hv : VR E v v') (hr : (putA' a dst v : M I AAct).run s = some (a', s')) : s' = s ∧ ActR E a' (ca.put dst v') := by
  unfold putA' at hr
  cases dst with
  | none => obtain ⟨rfl, rfl⟩ := pure_run hr; exact ⟨rfl, h⟩
  | some d =>
    cases hb : (Nat.blt d a.n && Nat.blt d 4095) with
    | false => simp only [hb] at hr; exact (fail_run hr).elim
    | true =>
      simp only [hb] at hr
      obtain ⟨rfl, rfl⟩ := pure_run hr
      rw [blt_eq, blt_eq] at hb
      simp only [Bool.and_eq_true, decide_eq_true_eq] at hb
      refine ⟨rfl, ⟨by simp [Act.put, h.size], fun i => ?_, h.len, h.defers⟩⟩
      have hval : AAct.val ⟨a.n, a.t.set 12 d (some v), a.defers⟩ i = if i = d then v else a.val i := by
        unfold AAct.val
        rw [Trie.get_set 12 a.t d i (some v) (by omega)]
        split <;> rfl
      rw [hval]
      by_cases e : i = d
      · subst e
        have hlt : i < ca.tmps.size := by rw [h.size]; exact hb.1
        simp [Act.put, hlt]
        exact hv
      · have := h.val i
        have hne : ¬ (d = i) := fun h => e h.symm
        simp [Act.put, e, Array.getElem?_setIfInBounds, hne] at this ⊢
        exact this

inductive AExit where
  | normal
  | exit (id : Nat)
  | ret
  | panic (v : Value)
def ExR (E : Env) : AExit → Exit → Prop
  | .normal, .normal => True
  | .exit i, .exit j => i = j
  | .ret, .ret => True
  | .panic v, .panic c => ∃ v', c = [{ v := v', recovered := false }] ∧ VR E v v'
  | _, _ => False
inductive AEnd where
  | ret (v : Value)
  | panic (v : Value)
def EnR (E : Env) : AEnd → Ending → Prop
  | .ret v, .returned v' => VR E v v'
  | .panic v, .panicked c => ∃ v', c = [{ v := v', recovered := false }] ∧ VR E v v'
  | _, _ => False

structure Self (I : MemI μ) where
  code : Code → AAct → M I (AExit × AAct)
  call : FuncId → Array Value → M I AEnd

def yieldedA (ops : Array Oper) (a : AAct) (j : Nat) : Option Bool := match (ops[j]?).bind (·.dst) with
  | some d => bif Nat.blt d a.n then match a.val d with
    | .bool b => some b
    | _ => none
    else none
  | none => none
def wantedA (ops : Array Oper) (a : AAct) (o : Oper) : Bool := match o.guard with
  | none => true
  | some (j, want) => match yieldedA ops a j with
    | some b => bif want then b else !b
    | none => false
theorem wantedA_eq {ops : Array Oper} {a : AAct} {ca : Act} (h : ActR E a ca) (o : Oper) : Region.wanted o (yielded ops ca.tmps) = wantedA ops a o := by
  unfold Region.wanted wantedA
  cases hg : o.guard with
  | none => rfl
  | some jw =>
    obtain ⟨j, want⟩ := jw
    simp only
    have hy : yielded ops ca.tmps j = yieldedA ops a j := by
      unfold yielded yieldedA
      cases hd : (ops[j]?).bind (·.dst) with
      | none => rfl
      | some d =>
        simp only [Option.bind_some, blt_eq, ← h.size]
        have hv := h.val d
        by_cases hlt : d < ca.tmps.size
        · simp only [hlt, decide_true, cond_true]
          rw [Array.getElem?_eq_getElem hlt]
          have : ca.tmps.getD d undef = ca.tmps[d] := by simp [hlt]
          rw [this] at hv
          generalize a.val d = x at hv
          generalize ca.tmps[d] = y at hv
          cases hv <;> rfl
        · simp only [hlt, decide_false, cond_false]
          rw [Array.getElem?_eq_none (Nat.le_of_not_lt hlt)]
    rw [hy]
    cases yieldedA ops a j with
    | none => rfl
    | some b => cases b <;> cases want <;> rfl

def afterCall (a : AAct) (o : Oper) (k : AAct → M I (AExit × AAct)) (e : AEnd) : M I (AExit × AAct) := match e with
  | .ret v => putA' a o.dst v >>= k
  | .panic v => pure (.panic v, a)
def afterOp (self : Self I) (a : AAct) (o : Oper) (k : AAct → M I (AExit × AAct)) (r : OpRes) : M I (AExit × AAct) := match r with
  | .val v => putA' a o.dst v >>= k
  | .call f args => self.call f args >>= afterCall a o k
  | .defer d => putA' ⟨a.n, a.t, d :: a.defers⟩ o.dst undef >>= k
  | _ => fail
def panicV (a : AAct) (v : Value) : M I (AExit × AAct) := match v with
  | .iface _ _ => pure (.panic v, a)
  | _ => fail
def panicA (lo : Lim) (a : AAct) (x : Operand) : M I (AExit × AAct) := arg (evA lo a) x >>= panicV a
def opB (P : Program) (X : Hk) (lo : Lim) (self : Self I) (a : AAct) (o : Oper) (k : AAct → M I (AExit × AAct)) : M I (AExit × AAct) := match o.op with
  | .panic x => panicA lo a x
  | _ => stepOp P X lo (evA lo a) o >>= afterOp self a o k
/-- Operations one behind the other. -/
def opsSeq (P : Program) (X : Hk) (lo : Lim) (self : Self I) (ops : Array Oper) : List Oper → AAct → M I (AExit × AAct)
  | [], a => pure (.normal, a)
  | o :: rest, a => bif wantedA ops a o then opB P X lo self a o (opsSeq P X lo self ops rest) else putA' a o.dst undef >>= opsSeq P X lo self ops rest

def afterRound (k : AAct → M I (AExit × AAct)) (r : AExit × AAct) : M I (AExit × AAct) := match r with
  | (.normal, a1) => k a1
  | r => pure r
def loopA (self : Self I) (c : Code) : Nat → AAct → M I (AExit × AAct)
  | 0, _ => fail
  | m + 1, a => self.code c a >>= afterRound (loopA self c m)

/-! ### What the evaluator's calls and code promise -/
def CallOK (P : Program) (lo : Lim) (w0 : Bs) (call : FuncId → Array Value → M I AEnd) : Prop :=
  ∀ f args s r s', (call f args).run s = some (r, s') → ∀ E g w cargs, Rel P lo w0 E g w → Agree I s s' g → Fresh s s' E → ARl E args cargs →
    Calls P f cargs w fun e w' => ∃ E', Env.Ext E E' s.next s'.next ∧ EnR E' r e ∧ Rel P lo w0 E' (merge I s' g) w'
def CodeP (P : Program) (lo : Lim) (w0 : Bs) (m : M I (AExit × AAct)) (a : AAct) (C : (Exit → Act → World → Prop) → Act → World → Prop) : Prop :=
  ∀ s e a' s', m.run s = some ((e, a'), s') → ∀ E g w ca Q, Rel P lo w0 E g w → Agree I s s' g → Fresh s s' E → ActR E a ca →
    (∀ E' ce ca' w', Env.Ext E E' s.next s'.next → ExR E' e ce → ActR E' a' ca' → Rel P lo w0 E' (merge I s' g) w' → Q ce ca' w') → C Q ca w
def CodeOK (P : Program) (lo : Lim) (w0 : Bs) (code : Code → AAct → M I (AExit × AAct)) : Prop :=
  ∀ c a, CodeP P lo w0 (code c a) a (fun Q ca w => c.wp P Q ca w)

/-- What follows a step that is done. -/
theorem chain {α : Type} {m : M I α} {a : α} {s s1 s' : St μ} {g : Nat → Option Obj} {E E1 : Env} (h1 : m.run s = some (a, s1)) (h2 : St.Le I s1 s') (hA : Agree I s s' g) (hF : Fresh s s' E) (hx : Env.Ext E E1 s.next s1.next) :
    Agree I s1 s' (merge I s1 g) ∧ Fresh s1 s' E1 ∧ (∀ E', Env.Ext E1 E' s1.next s'.next → Env.Ext E E' s.next s'.next) ∧ merge I s' (merge I s1 g) = merge I s' g :=
  ⟨hA.second (m.le _ _ _ h1) h2, hF.second hx (m.le _ _ _ h1).next, fun E' h => hx.trans h (m.le _ _ _ h1).next h2.next, merge_merge g h2⟩

theorem opsSeq_ok {X : Hk} (hX : Plain P X) {self : Self I} (hc : CallOK P lo w0 self.call) {ops : Array Oper} : ∀ (l : List Oper) (a : AAct), CodeP P lo w0 (opsSeq P X lo self ops l a) a (fun Q ca w => wpList P ops Q l ca w)
  | [], a => by
    intro s e a' s' hr E g w ca Q hR hA hF ha hQ
    obtain ⟨h1, rfl⟩ := pure_run hr
    cases h1
    exact hQ E .normal ca w (.refl _ _) trivial ha (by rw [merge_read hA (fun _ => rfl) (fun _ => rfl)]; exact hR)
  | o :: rest, a => by
    intro s e a' s' hr E g w ca Q hR hA hF ha hQ
    have hw := wantedA_eq (ops := ops) ha o
    unfold opsSeq at hr
    unfold wpList
    rw [hw]
    cases hwa : wantedA ops a o with
    | false =>
      simp only [hwa, cond_false] at hr
      obtain ⟨a1, s1, h1, h2⟩ := bind_run hr
      obtain ⟨rfl, ha1⟩ := ha.put (VR.undef E) h1
      rw [if_neg (by simp)]
      exact opsSeq_ok hX hc rest a1 _ e a' s' h2 E g w _ Q hR hA hF ha1 hQ
    | true =>
      simp only [hwa, cond_true] at hr
      rw [if_pos rfl]
      refine .inl ?_
      have hev := ha.ev (lo := lo) hR.old
      by_cases hp : ∃ x, o.op = .panic x
      · obtain ⟨x, hx⟩ := hp
        unfold opB at hr
        rw [hx] at hr
        simp only at hr
        unfold panicA arg at hr
        cases hv : evA lo a x with
        | none => rw [hv] at hr; obtain ⟨_, _, h1, _⟩ := bind_run hr; exact (fail_run h1).elim
        | some v =>
          rw [hv] at hr
          obtain ⟨v1, s1, h1, h2⟩ := bind_run hr
          obtain ⟨rfl, rfl⟩ := pure_run h1
          unfold panicV at h2
          split at h2
          · rename_i t u
            obtain ⟨h3, rfl⟩ := pure_run h2
            cases h3
            have hvr := hev _ _ hv
            generalize hq : ca.eval x = q at hvr
            cases hvr with
            | iface _ hu =>
              rename_i u'
              have hrun : (execOp ca.eval o).run P w = .halt (.panic (.iface t u')) w := by
                unfold execOp; rw [hx]
                simp [hq, Instr.panic]
              unfold Oper.wp
              rw [hrun]
              exact hQ E (.panic [{ v := .iface t u', recovered := false }]) ca w (.refl _ _) ⟨_, rfl, .iface t hu⟩ ha (by rw [merge_read hA (fun _ => rfl) (fun _ => rfl)]; exact hR)
          · exact (fail_run h2).elim
      · have hnp : opB P X lo self a o (opsSeq P X lo self ops rest) = (stepOp P X lo (evA lo a) o >>= afterOp self a o (opsSeq P X lo self ops rest)) := by
          unfold opB
          split
          · rename_i x hx; exact absurd ⟨x, hx⟩ hp
          · rfl
        rw [hnp] at hr
        obtain ⟨r, s1, h1, h2⟩ := bind_run hr
        have hle2 : St.Le I s1 s' := M.le _ _ _ _ h2
        obtain ⟨E1, nx, w1, hrun, hx1, hnr, hR1⟩ := sim_stepOp (lo := lo) (w0 := w0) (E := E) hX hev o s r s1 h1 E g w (fun _ _ h => h) hR (hA.first hle2) (hF.first hle2.next) trivial
        obtain ⟨hA1, hF1, hX1, hm1⟩ := chain h1 hle2 hA hF hx1
        have ha1 := ha.mono hx1.keep
        unfold Oper.wp
        rw [hrun]
        cases r with
        | val v =>
          obtain ⟨a1, s2, h3, h4⟩ := bind_run h2
          have key : ∀ v', VR E1 v v' → wpList P ops Q rest (ca.put o.dst v') w1 := fun v' hv' => by
            obtain ⟨rfl, ha2⟩ := ha1.put hv' h3
            refine opsSeq_ok hX hc rest a1 _ e a' s' h4 E1 _ w1 _ Q hR1 hA1 hF1 ha2 fun E' ce ca' w' hx' he' ha' hR' => hQ E' ce ca' w' (hX1 E' hx') he' ha' (by rw [hm1] at hR'; exact hR')
          cases nx <;> simp only [NR] at hnr <;> first | exact hnr.elim | skip
          · exact key _ hnr
          · subst hnr; exact key _ (VR.undef E1)
        | call f args =>
          cases nx <;> simp only [NR] at hnr <;> first | exact hnr.elim | skip
          rename_i f' cs
          obtain ⟨rfl, hargs⟩ := hnr
          obtain ⟨en, s2, h3, h4⟩ := bind_run h2
          have hle3 : St.Le I s2 s' := M.le _ _ _ _ h4
          have hcall := hc f args s1 en s2 h3 E1 _ w1 cs hR1 (hA1.first hle3) (hF1.first hle3.next) hargs
          refine hcall.mono fun e2 w2 ⟨E2, hx2, hen, hR2⟩ => ?_
          obtain ⟨hA2, hF2, hX2, hm2⟩ := chain h3 hle3 hA1 hF1 hx2
          have ha2 := ha1.mono hx2.keep
          cases en with
          | ret v =>
            cases e2 with
            | panicked c => exact hen.elim
            | outgrown => exact hen.elim
            | returned v' =>
            obtain ⟨a1, s3, h5, h6⟩ := bind_run h4
            obtain ⟨rfl, ha3⟩ := ha2.put hen h5
            refine opsSeq_ok hX hc rest a1 _ e a' s' h6 E2 _ w2 _ Q hR2 hA2 hF2 ha3 fun E' ce ca' w' hx' he' ha' hR' => hQ E' ce ca' w' (hX1 E' (hX2 E' hx')) he' ha' (by rw [hm2, hm1] at hR'; exact hR')
          | panic v =>
            obtain ⟨h5, rfl⟩ := pure_run h4
            cases h5
            cases e2 with
            | panicked c =>
              have hmm : merge I s' (merge I s1 g) = merge I s' g := hm1
              exact hQ E2 (.panic c) ca w2 (hX1 E2 hx2) hen ha2 (by rw [hmm] at hR2; exact hR2)
            | returned v' => exact hen.elim
            | outgrown => exact hen.elim
        | defer d =>
          cases nx <;> simp only [NR] at hnr <;> first | exact hnr.elim | skip
          rename_i d'
          obtain ⟨a1, s2, h3, h4⟩ := bind_run h2
          have ha2 : ActR E1 ⟨a.n, a.t, d :: a.defers⟩ { ca with defers := d' :: ca.defers } := ⟨ha1.size, ha1.val, by simp [ha1.len], fun j x y hx hy => by
            rcases j with _ | j
            · simp at hx hy; subst hx; subst hy; exact hnr
            · simp at hx hy; exact ha1.defers j x y hx hy⟩
          obtain ⟨rfl, ha3⟩ := ha2.put (VR.undef E1) h3
          refine opsSeq_ok hX hc rest a1 _ e a' s' h4 E1 _ w1 _ Q hR1 hA1 hF1 ha3 fun E' ce ca' w' hx' he' ha' hR' => hQ E' ce ca' w' (hX1 E' hx') he' ha' (by rw [hm1] at hR'; exact hR')
        | panic v => exact (fail_run h2).elim
        | recover => exact (fail_run h2).elim
end
end Go.Am
