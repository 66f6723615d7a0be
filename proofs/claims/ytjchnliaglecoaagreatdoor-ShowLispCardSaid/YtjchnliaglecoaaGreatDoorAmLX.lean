/- The abstract evaluator: code and calls. Conditions: none. -/
import Derived.LoopNIn
import Derived.DefersIn
import Derived.OrdersIn
import Derived.Test.YtjchnliaglecoaaGreatDoorAmI
set_option linter.unusedVariables false
set_option linter.unusedSimpArgs false
namespace Go.Am
open Go Go.RowKit
set_option linter.unusedVariables false
set_option linter.unusedSimpArgs false
noncomputable section
variable {μ : Type} {I : MemI μ} {P : Program} {lo : Lim} {w0 : Bs} {E : Env} {H : (Nat → Option Obj) → Prop}

structure AAct where
  n : Nat
  t : Trie Value
  defers : List Deferred

def AAct.val (a : AAct) (i : Nat) : Value := (a.t.get i).getD undef
def evA (lo : Lim) (a : AAct) : Ev
  | .tmp i => some (a.val i)
  | .const v => bif gnd 3 v then some v else none
  | .global g => bif Nat.blt g lo.G then some (.pointer (some ⟨g, 0, none⟩)) else none
  | .func f => some (.func (.func f) #[] #[])
def putA' (a : AAct) (dst : Option Tmp) (v : Value) : M I AAct := match dst with
  | none => pure a
  | some d => bif Nat.blt d a.n && Nat.blt d 4095 then pure ⟨a.n, a.t.set 12 d (some v), a.defers⟩ else fail

structure ActR (E : Env) (a : AAct) (ca : Act) : Prop where
  size : ca.tmps.size = a.n
  val : ∀ i, VR E (a.val i) (ca.tmps.getD i undef)
  len : a.defers.length = ca.defers.length
  defers : ∀ (j : Nat) (d d' : Deferred), a.defers[j]? = some d → ca.defers[j]? = some d' → DR E d d'
theorem DR.mono {E E' : Env} (hE : ∀ k x, E k = some x → E' k = some x) {d d' : Deferred} (h : DR E d d') : DR E' d d' := by
  rcases h with ⟨f, c, c', h1, h2, h3, h4⟩ | ⟨k, b, q, h1, h2, h3⟩
  · exact .inl ⟨f, c, c', h1, h2, h3.mono hE, h4.mono hE⟩
  · exact .inr ⟨k, b, q, h1, h2, hE _ _ h3⟩
theorem ActR.mono {E E' : Env} (hE : ∀ k x, E k = some x → E' k = some x) {a : AAct} {ca : Act} (h : ActR E a ca) : ActR E' a ca :=
  ⟨h.size, fun i => (h.val i).mono hE, h.len, fun j d d' h1 h2 => (h.defers j d d' h1 h2).mono hE⟩
theorem ActR.ev {a : AAct} {ca : Act} (h : ActR E a ca) (hold : ∀ k, k < lo.G → E k = some (k, 0)) : ∀ x v, evA lo a x = some v → VR E v (ca.eval x) := by
  intro x v hv
  cases x with
  | tmp i => simp [evA] at hv; subst hv; exact h.val i
  | const u =>
    cases hg : gnd 3 u with
    | true => simp [evA, hg] at hv; subst hv; exact gnd_refl E 3 u hg
    | false => simp [evA, hg] at hv
  | global g =>
    cases hb : Nat.blt g lo.G with
    | true =>
      simp [evA, hb] at hv; subst hv
      rw [blt_eq] at hb
      exact .ptr (r := 0) (hold g (by simpa using hb))
    | false => simp [evA, hb] at hv
  | func f => simp [evA] at hv; subst hv; exact .func rfl (fun _ _ j h => by simp at h) rfl (fun _ _ j h => by simp at h)
theorem ActR.put {a a' : AAct} {ca : Act} {dst : Option Tmp} {v v' : Value} {s s' : St μ} (h : ActR E a ca) (hv : VR E v v') (hr : (putA' a dst v : M I AAct).run s = some (a', s')) : s' = s ∧ ActR E a' (ca.put dst v') := by
  unfold putA' at hr
  cases dst with
  | none => obtain ⟨rfl, rfl⟩ := pure_run hr; exact ⟨rfl, h⟩
  | some d =>
    cases hb : (Nat.blt d a.n && Nat.blt d 4095) with
    | false => simp only [hb] at hr; exact (fail_run hr).elim
    | true =>
      simp only [hb] at hr
      obtain ⟨rfl, rfl⟩ := pure_run hr
      rw [blt_eq, blt_eq] at hb
      simp only [Bool.and_eq_true, decide_eq_true_eq] at hb
      refine ⟨rfl, ⟨by simp [Act.put, h.size], fun i => ?_, h.len, h.defers⟩⟩
      have hval : AAct.val ⟨a.n, a.t.set 12 d (some v), a.defers⟩ i = if i = d then v else a.val i := by
        unfold AAct.val
        rw [Trie.get_set 12 a.t d i (some v) (by omega)]
        split <;> rfl
      rw [hval]
      by_cases e : i = d
      · subst e
        have hlt : i < ca.tmps.size := by rw [h.size]; exact hb.1
        simp [Act.put, hlt]
        exact hv
      · have := h.val i
        have hne : ¬ (d = i) := fun h => e h.symm
        simp [Act.put, e, Array.getElem?_setIfInBounds, hne] at this ⊢
        exact this

inductive AExit where
  | normal
  | exit (id : Nat)
  | ret
  | panic (v : Value)
def ExR (E : Env) : AExit → Exit → Prop
  | .normal, .normal => True
  | .exit i, .exit j => i = j
  | .ret, .ret => True
  | .panic v, .panic c => ∃ v', c = [{ v := v', recovered := false }] ∧ VR E v v'
  | _, _ => False
inductive AEnd where
  | ret (v : Value)
  | panic (v : Value)
def EnR (E : Env) : AEnd → Ending → Prop
  | .ret v, .returned v' => VR E v v'
  | .panic v, .panicked c => ∃ v', c = [{ v := v', recovered := false }] ∧ VR E v v'
  | _, _ => False

def fillT : List Value → Nat → Trie Value → Trie Value
  | [], _, t => t
  | v :: l, i, t => fillT l (i + 1) (t.set 12 i (some v))

theorem fillT_get : ∀ (l : List Value) (i : Nat) (t : Trie Value) (j : Nat), i + l.length ≤ 4094 → (fillT l i t).get j = if i ≤ j ∧ j < i + l.length then l[j - i]? else t.get j
  | [], i, t, j, h => by simp [fillT]; intro h1 h2; omega
  | v :: l, i, t, j, h => by
    simp only [fillT]
    rw [fillT_get l (i + 1) _ j (by simp at h; omega), Trie.get_set 12 t i j (some v) (by simp at h; omega)]
    simp only [List.length_cons]
    by_cases e : j = i
    · subst e
      rw [if_neg (by omega), if_pos rfl, if_pos (by omega)]; simp
    · rw [if_neg e]
      by_cases e2 : i ≤ j ∧ j < i + (l.length + 1)
      · rw [if_pos e2, if_pos (by omega), show j - i = (j - (i + 1)) + 1 by omega]; simp
      · rw [if_neg e2, if_neg (by omega)]

structure Self (I : MemI μ) where
  code : Option Nat → Code → AAct → M I (AExit × AAct)
  call : FuncId → Array Value → M I AEnd

def yieldedA (ops : Array Oper) (a : AAct) (j : Nat) : Option Bool := match (ops[j]?).bind (·.dst) with
  | some d => bif Nat.blt d a.n then match a.val d with
    | .bool b => some b
    | _ => none
    else none
  | none => none
def wantedA (ops : Array Oper) (a : AAct) (o : Oper) : Bool := match o.guard with
  | none => true
  | some (j, want) => match yieldedA ops a j with
    | some b => bif want then b else !b
    | none => false
theorem wantedA_eq {ops : Array Oper} {a : AAct} {ca : Act} (h : ActR E a ca) (o : Oper) : Region.wanted o (yielded ops ca.tmps) = wantedA ops a o := by
  unfold Region.wanted wantedA
  cases hg : o.guard with
  | none => rfl
  | some jw =>
    obtain ⟨j, want⟩ := jw
    simp only
    have hy : yielded ops ca.tmps j = yieldedA ops a j := by
      unfold yielded yieldedA
      cases hd : (ops[j]?).bind (·.dst) with
      | none => rfl
      | some d =>
        simp only [Option.bind_some, blt_eq, ← h.size]
        have hv := h.val d
        by_cases hlt : d < ca.tmps.size
        · simp only [hlt, decide_true, cond_true]
          rw [Array.getElem?_eq_getElem hlt]
          have : ca.tmps.getD d undef = ca.tmps[d] := by simp [hlt]
          rw [this] at hv
          generalize a.val d = x at hv
          generalize ca.tmps[d] = y at hv
          cases hv <;> rfl
        · simp only [hlt, decide_false, cond_false]
          rw [Array.getElem?_eq_none (Nat.le_of_not_lt hlt)]
    rw [hy]
    cases yieldedA ops a j with
    | none => rfl
    | some b => cases b <;> cases want <;> rfl

def afterCall (a : AAct) (o : Oper) (k : AAct → M I (AExit × AAct)) (e : AEnd) : M I (AExit × AAct) := match e with
  | .ret v => putA' a o.dst v >>= k
  | .panic v => pure (.panic v, a)
/-! ### Rounds -/
def beginA (lo : Lim) (k : Nat) : M I Unit := rd k >>= fun o => match o with
  | .loop r => match r.state with
    | .ready => wr lo k (some (.loop { r with state := .busy }))
    | _ => fail
  | _ => fail
def endRoundA (lo : Lim) (k : Nat) (jump : Option Code) : M I AEnd := rd k >>= fun o => match o with
  | .loop r => wr lo k (some (.loop { r with state := if jump.isNone then .ready else .done, pending := jump })) >>= fun _ => pure (.ret (.bool jump.isNone))
  | _ => fail
def roundC (lo : Lim) (k : Nat) (r : AExit × AAct) : M I AEnd := match r.1 with
  | .normal => endRoundA lo k none
  | .ret => endRoundA lo k (some .ret)
  | .exit id => endRoundA lo k (some (.exit id))
  | .panic _ => fail
def roundB (lo : Lim) (self : Self I) (k : Nat) (body : Code) (r : AExit × AAct) : M I AEnd := match r.1 with
  | .normal => beginA lo k >>= fun _ => self.code (some k) body r.2 >>= roundC lo k
  | _ => fail
/-- A round: the loop's left sides, the body. -/
def roundA (lo : Lim) (self : Self I) (k : Nat) (ts : Array Value) (assign body : Code) : M I AEnd :=
  bif Nat.blt ts.size 4000 then self.code (some k) assign ⟨ts.size, fillT ts.toList 0 .leaf, []⟩ >>= roundB lo self k body else fail
def noDefer (ρ : Option Nat) : Bool := match ρ with
  | none => true
  | some _ => false
def afterOp (lo : Lim) (ρ : Option Nat) (self : Self I) (a : AAct) (o : Oper) (k : AAct → M I (AExit × AAct)) (r : OpRes) : M I (AExit × AAct) := match r with
  | .val v => putA' a o.dst v >>= k
  | .call f args => self.call f args >>= afterCall a o k
  | .defer d => bif noDefer ρ then putA' ⟨a.n, a.t, d :: a.defers⟩ o.dst undef >>= k else fail
  | .round l ts b c => roundA lo self l ts b c >>= afterCall a o k
  | _ => fail
def panicV (a : AAct) (v : Value) : M I (AExit × AAct) := match v with
  | .iface _ _ => pure (.panic v, a)
  | _ => fail
def panicA (lo : Lim) (a : AAct) (x : Operand) : M I (AExit × AAct) := arg (evA lo a) x >>= panicV a
def opB (P : Program) (X : Hk) (lo : Lim) (ρ : Option Nat) (self : Self I) (a : AAct) (o : Oper) (k : AAct → M I (AExit × AAct)) : M I (AExit × AAct) := match o.op with
  | .panic x => panicA lo a x
  | _ => stepOp P X lo (evA lo a) o >>= afterOp lo ρ self a o k
/-- Operations one behind the other. -/
def opsSeq (P : Program) (X : Hk) (lo : Lim) (ρ : Option Nat) (self : Self I) (ops : Array Oper) : List Oper → AAct → M I (AExit × AAct)
  | [], a => pure (.normal, a)
  | o :: rest, a => bif wantedA ops a o then opB P X lo ρ self a o (opsSeq P X lo ρ self ops rest) else putA' a o.dst undef >>= opsSeq P X lo ρ self ops rest

def afterRound (k : AAct → M I (AExit × AAct)) (r : AExit × AAct) : M I (AExit × AAct) := match r with
  | (.normal, a1) => k a1
  | r => pure r
def loopA (self : Self I) (ρ : Option Nat) (c : Code) : Nat → AAct → M I (AExit × AAct)
  | 0, _ => fail
  | m + 1, a => self.code ρ c a >>= afterRound (loopA self ρ c m)

/-! ### What the evaluator's calls and code promise -/
def CallOK (P : Program) (lo : Lim) (w0 : Bs) (call : FuncId → Array Value → M I AEnd) : Prop :=
  ∀ f args s r s', (call f args).run s = some (r, s') → ∀ E g w cargs, Rel P lo w0 E g w → Agree I s s' g → Fresh s s' E → ARl E args cargs →
    Calls P f cargs w fun e w' => ∃ E', Env.Ext E E' s.next s'.next ∧ EnR E' r e ∧ Rel P lo w0 E' (merge I s' g) w'
/-- The fence of the walk: everything may be called; in a round, or not. -/
def fen (ρ : Option Nat) : Fence := { Fence.wide with round := ρ }
def RhoR (E : Env) (ρ ρ' : Option Nat) : Prop := match ρ, ρ' with
  | none, none => True
  | some k, some b => ∃ q, E k = some (b, q)
  | _, _ => False
theorem RhoR.mono {E E' : Env} (hE : ∀ k x, E k = some x → E' k = some x) {ρ ρ' : Option Nat} (h : RhoR E ρ ρ') : RhoR E' ρ ρ' := by
  cases ρ <;> cases ρ' <;> first | exact h | skip
  obtain ⟨q, hq⟩ := h
  exact ⟨q, hE _ _ hq⟩
def CodeP (P : Program) (lo : Lim) (w0 : Bs) (ρ : Option Nat) (m : M I (AExit × AAct)) (a : AAct) (C : Option Nat → (Exit → Act → World → Prop) → Act → World → Prop) : Prop :=
  ∀ s e a' s', m.run s = some ((e, a'), s') → ∀ E g w ca Q ρ', RhoR E ρ ρ' → Rel P lo w0 E g w → Agree I s s' g → Fresh s s' E → ActR E a ca →
    (∀ E' ce ca' w', Env.Ext E E' s.next s'.next → ExR E' e ce → ActR E' a' ca' → Rel P lo w0 E' (merge I s' g) w' → Q ce ca' w') → C ρ' Q ca w
def CodeOK (P : Program) (lo : Lim) (w0 : Bs) (code : Option Nat → Code → AAct → M I (AExit × AAct)) : Prop :=
  ∀ ρ c a, CodeP P lo w0 ρ (code ρ c a) a (fun ρ' Q ca w => c.wpIn (fen ρ') 0 P Q ca w)
theorem fen_depth {ρ' : Option Nat} (h : (fen ρ').depth.isSome = true) : 1 ≤ 0 := by simp [fen, Fence.wide] at h
theorem callsIn_fen {ρ' : Option Nat} {f : FuncId} {args : Array Value} {w : World} {R : Ending → World → Prop} (h : Calls P f args w R) : CallsIn (fen ρ') (0 - 1) P f args w R := callsIn_wide.2 h
theorem calls_fen {f : FuncId} {args : Array Value} {w : World} {R : Ending → World → Prop} (h : CallsIn (fen none) 0 P f args w R) : Calls P f args w R := callsIn_wide.1 h

/-- What follows a step that is done. -/
theorem chain {α : Type} {m : M I α} {a : α} {s s1 s' : St μ} {g : Nat → Option Obj} {E E1 : Env} (h1 : m.run s = some (a, s1)) (h2 : St.Le I s1 s') (hA : Agree I s s' g) (hF : Fresh s s' E) (hx : Env.Ext E E1 s.next s1.next) :
    Agree I s1 s' (merge I s1 g) ∧ Fresh s1 s' E1 ∧ (∀ E', Env.Ext E1 E' s1.next s'.next → Env.Ext E E' s.next s'.next) ∧ merge I s' (merge I s1 g) = merge I s' g :=
  ⟨hA.second (m.le _ _ _ h1) h2, hF.second hx (m.le _ _ _ h1).next, fun E' h => hx.trans h (m.le _ _ _ h1).next h2.next, merge_merge g h2⟩

theorem sem_at {X : Hk} {ev : Ev} {o : Oper} {r : OpRes} {s s1 : St μ} (h : (stepOp P X lo ev o : M I OpRes).run s = some (r, s1)) (hne : ∀ d, r ≠ .defer d) (ρ' : Option Nat) (ρv : Operand → Value) : Oper.semAt ρ' ρv o = execOp ρv o := by
  rw [Oper.semAt_eq]
  intro c hc0
  unfold stepOp at h
  rw [hc0] at h
  simp only [sDefer] at h
  split at h
  · unfold deferA at h
    split at h
    · obtain ⟨h, _⟩ := pure_run h; exact hne _ h
    · exact (fail_run h).elim
  · exact (fail_run h).elim
theorem frame_tmps {E : Env} {ts cs : Array Value} (hsz : ts.size < 4000) (h : ARl E ts cs) : ActR E ⟨ts.size, fillT ts.toList 0 .leaf, []⟩ { tmps := cs, defers := [] } := by
  refine ⟨h.1.symm, fun i => ?_, rfl, fun j d d' h => by simp at h⟩
  unfold AAct.val
  simp only
  rw [fillT_get ts.toList 0 .leaf i (by simp; omega)]
  simp only [Nat.zero_le, true_and, Nat.zero_add, Nat.sub_zero, Array.length_toList]
  by_cases hi : i < ts.size
  · rw [if_pos hi]
    have hi' : i < cs.size := by rw [← h.1]; exact hi
    have := h.2 ts[i] cs[i] i (by simp [hi]) (by simp [hi'])
    simpa [hi, hi'] using this
  · rw [if_neg hi]
    have hi' : ¬ i < cs.size := by rw [← h.1]; exact hi
    have : cs.getD i undef = undef := by simp [hi']
    rw [this]
    exact VR.undef E
theorem putObj_turned {w : World} {b : Nat} {o co : Obj} (h : w.heap[b]? = some o) : Turned b co w (w.putObj b co) :=
  ⟨rfl, rfl, rfl, World.putObj_size, World.putObj_heap_same (Array.getElem?_eq_some_iff.1 h).1, fun i hi => World.putObj_heap_other hi⟩
/-- A record that is read. -/
theorem rd_loop {E : Env} {g : Nat → Option Obj} {w : World} {k b q : Nat} {r : Loop} (hR : Rel P lo w0 E g w) (hg : g k = some (.loop r)) (hk : E k = some (b, q)) :
    ∃ y q', w.heap[b]? = some (.loop y) ∧ y.state = r.state ∧ y.pending = r.pending ∧ y.params = r.params ∧ y.assign = r.assign ∧ y.body = r.body ∧ ARl E r.tmps y.tmps ∧ E r.defers = some (y.defers, q') := by
  obtain ⟨b', r', co, h1, h2, h3⟩ := hR.tie _ _ hg
  rw [hk] at h1
  cases h1
  cases h3 with
  | @loop _ y q' g1 g2 g3 g4 g5 g6 g7 g8 => exact ⟨y, q', h2, g1, g2, g3, g4, g5, ⟨g6, g7⟩, g8⟩
/-- A write to a record, behind its reading. -/
theorem loop_wr {k b q : Nat} {r r' : Loop} {s s1 s' : St μ} {u : Unit} (h1 : (rd k : M I Obj).run s = some (.loop r, s1)) (h2 : (wr lo k (some (.loop r')) : M I Unit).run s1 = some (u, s'))
    {E : Env} {g : Nat → Option Obj} {w : World} (hR : Rel P lo w0 E g w) (hA : Agree I s s' g) (hk : E k = some (b, q)) {y y' : Loop} (hy : w.heap[b]? = some (.loop y)) (ho : ∀ q, OR P E q (.loop r') (.loop y')) :
    s'.next = s.next ∧ Rel P lo w0 E (merge I s' g) (w.putObj b (.loop y')) := by
  obtain ⟨e1, e2, e3, e4, e5⟩ := rd_run h1
  obtain ⟨w1, ⟨o0, w2⟩, w3, w4, w5, w6⟩ := wr_run h2
  have l1 := (rd (I := I) k).le _ _ _ h1
  have l2 := (wr (I := I) lo k (some (.loop r'))).le _ _ _ h2
  have hm : merge I s1 g = g := merge_read (hA.first l2) (fun k => by rw [e4]) (fun k => by rw [e3])
  have hA1 : Agree I s1 s' g := by have := hA.second l1 l2; rwa [hm] at this
  have hg : g k = some (.loop r) := by rw [hA k (by rw [l2.T k e5, Bool.true_or]), e1]
  refine ⟨by rw [w3, e2], ?_⟩
  rw [merge_write hA1 w5 w6]
  exact hR.write hg hk w1 (putObj_turned hy) (ho q)
theorem round_ok {self : Self I} (hcd : CodeOK P lo w0 self.code) {k : Nat} {ts : Array Value} {assign body : Code} {s s' : St μ} {r : AEnd} (hr : (roundA lo self k ts assign body).run s = some (r, s'))
    {E : Env} {g : Nat → Option Obj} {w : World} {b q : Nat} {f : FuncId} {cs : Array Value} {ρ' : Option Nat} (hR : Rel P lo w0 E g w) (hA : Agree I s s' g) (hF : Fresh s s' E) (hk : E k = some (b, q)) (hts : ARl E ts cs) :
    RoundIn (fen ρ') (0 - 1) P b f cs assign body w fun e w' => ∃ E', Env.Ext E E' s.next s'.next ∧ EnR E' r e ∧ Rel P lo w0 E' (merge I s' g) w' := by
  unfold roundA at hr
  cases hsz : Nat.blt ts.size 4000 with
  | false => rw [hsz] at hr; exact (fail_run hr).elim
  | true =>
    rw [hsz, cond_true] at hr
    rw [blt_eq, decide_eq_true_eq] at hsz
    obtain ⟨⟨e1, a1⟩, s1, h1, h2⟩ := bind_run hr
    have hle : St.Le I s1 s' := M.le _ _ _ _ h2
    refine roundIn_of_wpIn (F := fen ρ') trivial ?_
    refine hcd (some k) assign _ s e1 a1 s1 h1 E g w _ _ (some b) ⟨q, hk⟩ hR (hA.first hle) (hF.first hle.next) (frame_tmps hsz hts) fun E1 ce ca1 w1 hx1 he1 ha1 hR1 => ?_
    obtain ⟨hA1, hF1, hX1, hm1⟩ := chain h1 hle hA hF hx1
    unfold roundB at h2
    cases e1 with
    | normal =>
      cases ce <;> simp only [ExR] at he1 <;> first | exact he1.elim | skip
      simp only at h2
      obtain ⟨u, s2, h3, h4⟩ := bind_run h2
      have hle2 : St.Le I s2 s' := M.le _ _ _ _ h4
      unfold beginA at h3
      obtain ⟨ob, s3, h5, h6⟩ := bind_run h3
      have hk1 := hx1.keep _ _ hk
      cases ob with
      | loop x =>
        simp only at h6
        cases hst : x.state with
        | ready =>
          rw [hst] at h6
          simp only at h6
          have hgx : merge I s1 g k = some (.loop x) := by
            obtain ⟨e1', e2', e3', e4', e5'⟩ := rd_run h5
            have l6 := M.le _ _ _ _ h6
            rw [(hA1.first hle2) k (by rw [l6.T k e5', Bool.true_or]), e1']
          obtain ⟨y, q', y0, y1, y2, y3, y4, y5, y6, y7⟩ := rd_loop hR1 hgx hk1
          obtain ⟨n1, hR2⟩ := loop_wr h5 h6 hR1 (hA1.first hle2) hk1 y0 (y' := { y with state := .busy }) (fun q => .loop rfl y2 y3 y4 y5 y6.1 y6.2 y7)
          refine ⟨w1.putObj b (.loop { y with state := .busy }), run_beginRound y0 (by rw [y1, hst]), ?_⟩
          have hx2 : Env.Ext E1 E1 s1.next s2.next := ⟨fun _ _ h => h, fun _ h => .inl h⟩
          obtain ⟨hA2, hF2, hX2, hm2⟩ := chain h3 hle2 hA1 hF1 hx2
          obtain ⟨⟨e2, a2⟩, s4, h7, h8⟩ := bind_run h4
          have hle4 : St.Le I s4 s' := M.le _ _ _ _ h8
          refine hcd (some k) body a1 s2 e2 a2 s4 h7 E1 _ _ ca1 _ (some b) ⟨q, hk1⟩ hR2 (hA2.first hle4) (hF2.first hle4.next) ha1 fun E2 ce2 ca2 w2 hx3 he2 ha2 hR3 => ?_
          obtain ⟨hA3, hF3, hX3, hm3⟩ := chain h7 hle4 hA2 hF2 hx3
          have hk2 := hx3.keep _ _ hk1
          have fin : ∀ (jump : Option Code), (endRoundA lo k jump : M I AEnd).run s4 = some (r, s') → ∃ v w', (Instr.endRound b jump).run P w2 = .ok v w' ∧ ∃ E', Env.Ext E E' s.next s'.next ∧ EnR E' r (.returned v) ∧ Rel P lo w0 E' (merge I s' g) w' := fun jump hj => by
            unfold endRoundA at hj
            obtain ⟨ob2, s5, j1, j2⟩ := bind_run hj
            cases ob2 with
            | loop z =>
              simp only at j2
              obtain ⟨u2, s6, j3, j4⟩ := bind_run j2
              obtain ⟨j5, rfl⟩ := pure_run j4
              subst j5
              have hgz : merge I s4 (merge I s2 (merge I s1 g)) k = some (.loop z) := by
                obtain ⟨e1', e2', e3', e4', e5'⟩ := rd_run j1
                have l6 := M.le _ _ _ _ j3
                rw [hA3 k (by rw [l6.T k e5', Bool.true_or]), e1']
              obtain ⟨y', q2, z0, z1, z2, z3, z4, z5, z6, z7⟩ := rd_loop hR3 hgz hk2
              obtain ⟨n2, hR4⟩ := loop_wr j1 j3 hR3 hA3 hk2 z0 (y' := { y' with state := if jump.isNone then .ready else .done, pending := jump }) (fun q => .loop rfl rfl z3 z4 z5 z6.1 z6.2 z7)
              refine ⟨_, _, run_endRound jump z0, E2, ?_, .bool _, ?_⟩
              · exact hX1 E2 (hX2 E2 (hX3 E2 ⟨fun _ _ h => h, fun _ h => .inl h⟩))
              · rw [hm3, hm2, hm1] at hR4; exact hR4
            | _ => exact (fail_run j2).elim
          cases e2 with
          | normal =>
            cases ce2 <;> simp only [ExR] at he2 <;> first | exact he2.elim | skip
            exact fin none h8
          | ret =>
            cases ce2 <;> simp only [ExR] at he2 <;> first | exact he2.elim | skip
            exact fin (some .ret) h8
          | exit id =>
            cases ce2 <;> simp only [ExR] at he2 <;> first | exact he2.elim | skip
            subst he2
            exact fin (some (.exit id)) h8
          | panic v => exact (fail_run h8).elim
        | _ => rw [hst] at h6; exact (fail_run h6).elim
      | _ => exact (fail_run h6).elim
    | _ => exact (fail_run h2).elim
theorem opsSeq_ok {X : Hk} (hX : Plain P X w0.w) {self : Self I} (hcd : CodeOK P lo w0 self.code) (hc : CallOK P lo w0 self.call) {ops : Array Oper} {ρ : Option Nat} : ∀ (l : List Oper) (a : AAct), CodeP P lo w0 ρ (opsSeq P X lo ρ self ops l a) a (fun ρ' Q ca w => wpListIn (fen ρ') 0 P ops Q l ca w)
  | [], a => by
    intro s e a' s' hr E g w ca Q ρ' hρ hR hA hF ha hQ
    obtain ⟨h1, rfl⟩ := pure_run hr
    cases h1
    exact hQ E .normal ca w (.refl _ _) trivial ha (by rw [merge_read hA (fun _ => rfl) (fun _ => rfl)]; exact hR)
  | o :: rest, a => by
    intro s e a' s' hr E g w ca Q ρ' hρ hR hA hF ha hQ
    have hw := wantedA_eq (ops := ops) ha o
    unfold opsSeq at hr
    unfold wpListIn
    rw [hw]
    cases hwa : wantedA ops a o with
    | false =>
      simp only [hwa, cond_false] at hr
      obtain ⟨a1, s1, h1, h2⟩ := bind_run hr
      obtain ⟨rfl, ha1⟩ := ha.put (VR.undef E) h1
      rw [if_neg (by simp)]
      exact ⟨fun _ _ => trivial, opsSeq_ok hX hcd hc rest a1 _ e a' s' h2 E g w _ Q ρ' hρ hR hA hF ha1 hQ⟩
    | true =>
      simp only [hwa, cond_true] at hr
      rw [if_pos rfl]
      refine ⟨fun _ _ => trivial, ?_⟩
      have hev := ha.ev (lo := lo) hR.old
      by_cases hp : ∃ x, o.op = .panic x
      · obtain ⟨x, hx⟩ := hp
        unfold opB at hr
        rw [hx] at hr
        simp only at hr
        unfold panicA arg at hr
        cases hv : evA lo a x with
        | none => rw [hv] at hr; obtain ⟨_, _, h1, _⟩ := bind_run hr; exact (fail_run h1).elim
        | some v =>
          rw [hv] at hr
          obtain ⟨v1, s1, h1, h2⟩ := bind_run hr
          obtain ⟨rfl, rfl⟩ := pure_run h1
          unfold panicV at h2
          split at h2
          · rename_i t u
            obtain ⟨h3, rfl⟩ := pure_run h2
            cases h3
            have hvr := hev _ _ hv
            generalize hq : ca.eval x = q at hvr
            cases hvr with
            | iface _ hu =>
              rename_i u'
              have hrun : (execOp ca.eval o).run P w = .halt (.panic (.iface t u')) w := by
                unfold execOp; rw [hx]
                simp [hq, Instr.panic]
              rw [Oper.semAt_eq _ _ _ (by rw [hx]; intro c h; cases h), hrun]
              exact hQ E (.panic [{ v := .iface t u', recovered := false }]) ca w (.refl _ _) ⟨_, rfl, .iface t hu⟩ ha (by rw [merge_read hA (fun _ => rfl) (fun _ => rfl)]; exact hR)
          · exact (fail_run h2).elim
      · have hnp : opB P X lo ρ self a o (opsSeq P X lo ρ self ops rest) = (stepOp P X lo (evA lo a) o >>= afterOp lo ρ self a o (opsSeq P X lo ρ self ops rest)) := by
          unfold opB
          split
          · rename_i x hx; exact absurd ⟨x, hx⟩ hp
          · rfl
        rw [hnp] at hr
        obtain ⟨r, s1, h1, h2⟩ := bind_run hr
        have hle2 : St.Le I s1 s' := M.le _ _ _ _ h2
        obtain ⟨E1, nx, w1, hrun, hx1, hnr, hR1⟩ := sim_stepOp (lo := lo) (w0 := w0) (E := E) hX hev o s r s1 h1 E g w (fun _ _ h => h) hR (hA.first hle2) (hF.first hle2.next) trivial
        obtain ⟨hA1, hF1, hX1, hm1⟩ := chain h1 hle2 hA hF hx1
        have ha1 := ha.mono hx1.keep
        have hsem : (∀ d, r ≠ .defer d) → (o.semAt (fen ρ').round ca.eval).run P w = (execOp ca.eval o).run P w := fun hne => by
          rw [Oper.semAt_eq]
          intro c hc0
          have : ∃ d, r = .defer d := by
            have h9 := h1
            unfold stepOp at h9
            rw [hc0] at h9
            simp only [sDefer] at h9
            split at h9
            · unfold deferA at h9
              split at h9
              · obtain ⟨h9, _⟩ := pure_run h9; exact ⟨_, h9⟩
              · exact (fail_run h9).elim
            · exact (fail_run h9).elim
          obtain ⟨d, hd⟩ := this
          exact hne d hd
        cases r with
        | val v =>
          rw [hsem (fun d h => by cases h), hrun]
          obtain ⟨a1, s2, h3, h4⟩ := bind_run h2
          have key : ∀ v', VR E1 v v' → wpListIn (fen ρ') 0 P ops Q rest (ca.put o.dst v') w1 := fun v' hv' => by
            obtain ⟨rfl, ha2⟩ := ha1.put hv' h3
            refine opsSeq_ok hX hcd hc rest a1 _ e a' s' h4 E1 _ w1 _ Q ρ' (hρ.mono hx1.keep) hR1 hA1 hF1 ha2 fun E' ce ca' w' hx' he' ha' hR' => hQ E' ce ca' w' (hX1 E' hx') he' ha' (by rw [hm1] at hR'; exact hR')
          cases nx <;> simp only [NR] at hnr <;> first | exact hnr.elim | skip
          · exact key _ hnr
          · subst hnr; exact key _ (VR.undef E1)
        | call f args =>
          rw [hsem (fun d h => by cases h), hrun]
          cases nx <;> simp only [NR] at hnr <;> first | exact hnr.elim | skip
          rename_i f' cs
          obtain ⟨rfl, hargs⟩ := hnr
          obtain ⟨en, s2, h3, h4⟩ := bind_run h2
          have hle3 : St.Le I s2 s' := M.le _ _ _ _ h4
          have hcall := hc f args s1 en s2 h3 E1 _ w1 cs hR1 (hA1.first hle3) (hF1.first hle3.next) hargs
          rw [Oper.uponIn_enter]
          refine ⟨fen_depth, callsIn_fen (hcall.mono fun e2 w2 ⟨E2, hx2, hen, hR2⟩ => ?_)⟩
          obtain ⟨hA2, hF2, hX2, hm2⟩ := chain h3 hle3 hA1 hF1 hx2
          have ha2 := ha1.mono hx2.keep
          cases en with
          | ret v =>
            cases e2 with
            | panicked c => exact hen.elim
            | outgrown => exact hen.elim
            | returned v' =>
            obtain ⟨a1, s3, h5, h6⟩ := bind_run h4
            obtain ⟨rfl, ha3⟩ := ha2.put hen h5
            refine opsSeq_ok hX hcd hc rest a1 _ e a' s' h6 E2 _ w2 _ Q ρ' ((hρ.mono hx1.keep).mono hx2.keep) hR2 hA2 hF2 ha3 fun E' ce ca' w' hx' he' ha' hR' => hQ E' ce ca' w' (hX1 E' (hX2 E' hx')) he' ha' (by rw [hm2, hm1] at hR'; exact hR')
          | panic v =>
            obtain ⟨h5, rfl⟩ := pure_run h4
            cases h5
            cases e2 with
            | panicked c =>
              have hmm : merge I s' (merge I s1 g) = merge I s' g := hm1
              exact hQ E2 (.panic c) ca w2 (hX1 E2 hx2) hen ha2 (by rw [hmm] at hR2; exact hR2)
            | returned v' => exact hen.elim
            | outgrown => exact hen.elim
        | defer d =>
          unfold afterOp at h2
          simp only at h2
          cases ρ with
          | some l => exact (fail_run h2).elim
          | none =>
          cases ρ' with
          | some l' => exact hρ.elim
          | none =>
          simp only [noDefer, cond_true] at h2
          change Oper.uponIn (fen none) 0 P o ca _ Q ((execOp ca.eval o).run P w)
          rw [hrun]
          cases nx <;> simp only [NR] at hnr <;> first | exact hnr.elim | skip
          rename_i d'
          obtain ⟨a1, s2, h3, h4⟩ := bind_run h2
          have ha2 : ActR E1 ⟨a.n, a.t, d :: a.defers⟩ { ca with defers := d' :: ca.defers } := ⟨ha1.size, ha1.val, by simp [ha1.len], fun j x y hx hy => by
            rcases j with _ | j
            · simp at hx hy; subst hx; subst hy; exact hnr
            · simp at hx hy; exact ha1.defers j x y hx hy⟩
          obtain ⟨rfl, ha3⟩ := ha2.put (VR.undef E1) h3
          refine opsSeq_ok hX hcd hc rest a1 _ e a' s' h4 E1 _ w1 _ Q none trivial hR1 hA1 hF1 ha3 fun E' ce ca' w' hx' he' ha' hR' => hQ E' ce ca' w' (hX1 E' hx') he' ha' (by rw [hm1] at hR'; exact hR')
        | round l ts b c =>
          rw [hsem (fun d h => by cases h), hrun]
          cases nx <;> simp only [NR] at hnr <;> first | exact hnr.elim | skip
          rename_i l' f' cs b' c'
          obtain ⟨rfl, rfl, ⟨q, hq⟩, hargs⟩ := hnr
          obtain ⟨en, s2, h3, h4⟩ := bind_run h2
          have hle3 : St.Le I s2 s' := M.le _ _ _ _ h4
          have hcall := round_ok (ρ' := ρ') (f := f') hcd h3 hR1 (hA1.first hle3) (hF1.first hle3.next) hq hargs
          rw [Oper.uponIn_round]
          refine ⟨fen_depth, (hcall.mono fun e2 w2 ⟨E2, hx2, hen, hR2⟩ => ?_)⟩
          obtain ⟨hA2, hF2, hX2, hm2⟩ := chain h3 hle3 hA1 hF1 hx2
          have ha2 := ha1.mono hx2.keep
          cases en with
          | ret v =>
            cases e2 with
            | panicked c => exact hen.elim
            | outgrown => exact hen.elim
            | returned v' =>
            obtain ⟨a1, s3, h5, h6⟩ := bind_run h4
            obtain ⟨rfl, ha3⟩ := ha2.put hen h5
            refine opsSeq_ok hX hcd hc rest a1 _ e a' s' h6 E2 _ w2 _ Q ρ' ((hρ.mono hx1.keep).mono hx2.keep) hR2 hA2 hF2 ha3 fun E' ce ca' w' hx' he' ha' hR' => hQ E' ce ca' w' (hX1 E' (hX2 E' hx')) he' ha' (by rw [hm2, hm1] at hR'; exact hR')
          | panic v =>
            obtain ⟨h5, rfl⟩ := pure_run h4
            cases h5
            cases e2 with
            | panicked c =>
              have hmm : merge I s' (merge I s1 g) = merge I s' g := hm1
              exact hQ E2 (.panic c) ca w2 (hX1 E2 hx2) hen ha2 (by rw [hmm] at hR2; exact hR2)
            | returned v' => exact hen.elim
            | outgrown => exact hen.elim
        | panic v => exact (fail_run h2).elim
        | recover => exact (fail_run h2).elim
end
end Go.Am

/- The abstract evaluator: a region that draws its order. Conditions: none. -/
namespace Go.Am
open Go Go.RowKit
set_option linter.unusedVariables false
set_option linter.unusedSimpArgs false
noncomputable section
variable {μ : Type} {I : MemI μ} {P : Program} {lo : Lim} {w0 : Bs} {E : Env}

/-- A run with marks of its own. -/
def alone {α : Type} (m : M I α) : M I (α × Nat × Nat) := ⟨fun s => match m.run ⟨s.next, s.mem, 0, 0⟩ with
    | none => none
    | some (a, s') => some ((a, s'.T, s'.W), ⟨s'.next, s'.mem, s.T ||| s'.T, s.W ||| s'.W⟩), fun s a s' h => by
  cases e : m.run ⟨s.next, s.mem, 0, 0⟩ with
  | none => rw [e] at h; cases h
  | some x =>
    obtain ⟨b, s1⟩ := x
    rw [e] at h; cases h
    have hl := m.le _ _ _ e
    refine ⟨hl.next, fun k hk => by simp [Nat.testBit_or, hk], fun k hk => by simp [Nat.testBit_or, hk], fun k hk => ?_⟩
    simp [Nat.testBit_or] at hk
    exact hl.mem k hk.2⟩
theorem alone_run {α : Type} {m : M I α} {s s' : St μ} {a : α} {T W : Nat} (h : (alone m).run s = some ((a, T, W), s')) :
    m.run ⟨s.next, s.mem, 0, 0⟩ = some (a, ⟨s'.next, s'.mem, T, W⟩) ∧ s'.T = s.T ||| T ∧ s'.W = s.W ||| W := by
  simp only [alone] at h
  cases e : m.run ⟨s.next, s.mem, 0, 0⟩ with
  | none => rw [e] at h; cases h
  | some x =>
    obtain ⟨b, s1⟩ := x
    rw [e] at h; cases h
    exact ⟨rfl, rfl, rfl⟩

/-- The slots that an operation looks at, and no others. -/
def evO (lo : Lim) (ops : Array Oper) (o : Oper) (a : AAct) : Ev
  | .tmp t => bif (o.looksAt ops).contains t then some (a.val t) else none
  | x => evA lo a x

def endV (e : AEnd) : M I Value := match e with
  | .ret v => pure v
  | .panic _ => fail
def resV (lo : Lim) (self : Self I) (r : OpRes) : M I Value := match r with
  | .val v => pure v
  | .call f args => self.call f args >>= endV
  | .round l ts b c => roundA lo self l ts b c >>= endV
  | _ => fail
/-- One operation of the region, walked to its value. -/
def oneD (P : Program) (X : Hk) (lo : Lim) (self : Self I) (ops : Array Oper) (o : Oper) (a : AAct) : M I Value :=
  bif wantedA ops a o then stepOp P X lo (evO lo ops o a) o >>= resV lo self else pure undef

/-- What one operation of the region has done. -/
structure Mk where
  T : Nat
  W : Nat

/-- The text's order, with the marks of each. -/
def runD (P : Program) (X : Hk) (lo : Lim) (self : Self I) (ops : Array Oper) : List Oper → AAct → M I (AAct × List Mk)
  | [], a => pure (a, [])
  | o :: rest, a => alone (oneD P X lo self ops o a) >>= fun r => putA' a o.dst r.1 >>= fun a' => runD P X lo self ops rest a' >>= fun q => pure (q.1, ⟨r.2.1, r.2.2⟩ :: q.2)

/-- Two operations do not touch each other. -/
def apartM (ops : Array Oper) (o p : Oper) (x y : Mk) : Bool := o.apart ops p && Nat.beq (x.W &&& (y.T ||| y.W)) 0 && Nat.beq (x.T &&& y.W) 0
/-- What stands ahead of each operation, as bits. -/
def maskOf (acc : List Nat) : List Edge → Nat
  | [] => 0
  | e :: l => bif Region.binds .any e then (maskOf acc l ||| 1 <<< e.on) ||| acc.getD e.on 0 else maskOf acc l
def masks : List Oper → List Nat → List Nat
  | [], acc => acc
  | o :: l, acc => masks l (acc ++ [maskOf acc o.after.toList])
/-- i < j: the one is ahead of the other, or they are apart. -/
def checkD (ops : Array Oper) (bef : List Nat) (ms : List Mk) : Bool :=
  (ms.zipIdx.all fun (y, j) => ms.zipIdx.all fun (x, i) => !Nat.blt i j || (bef.getD j 0).testBit i || match ops[i]?, ops[j]? with
    | some o, some p => apartM ops o p x y
    | _, _ => false) && ops.toList.zipIdx.all fun (o, i) => o.after.all fun e => !Region.binds .any e || Nat.blt e.on i
def drawA (P : Program) (X : Hk) (lo : Lim) (self : Self I) (ops : Array Oper) (a : AAct) : M I (AExit × AAct) :=
  runD P X lo self ops ops.toList a >>= fun q => bif checkD ops (masks ops.toList []) q.2 then pure (.normal, q.1) else fail
/-- Edges and guard look back. -/
def backOK (n i : Nat) (o : Oper) : Bool := (o.after.all fun e => !Region.binds .any e || Nat.blt e.on i) && match o.guard with
  | some (j, _) => Nat.blt j n
  | none => true
/-- The last one, where it stands behind all the others. -/
def lastP (ops : Array Oper) : Option Oper := match ops.back? with
  | some p => bif (ops.toList.zipIdx.all fun (o, i) => backOK ops.pop.size i o) && ((List.range ops.pop.size).all fun i => ((masks ops.toList []).getD ops.pop.size 0).testBit i) then some p else none
  | none => none
def thenL (k : AAct → M I (AExit × AAct)) (r : AExit × AAct) : M I (AExit × AAct) := match r with
  | (.normal, a1) => k a1
  | r => pure r
def drawL (P : Program) (X : Hk) (lo : Lim) (ρ : Option Nat) (self : Self I) (ops : Array Oper) (a : AAct) : M I (AExit × AAct) := match lastP ops with
  | some p => drawA P X lo self ops.pop a >>= thenL (opsSeq P X lo ρ self ops [p])
  | none => drawA P X lo self ops a
end
end Go.Am

/- The abstract evaluator: it runs. Conditions: none. -/
namespace Go.Am
open Go Go.RowKit
set_option linter.unusedVariables false
set_option linter.unusedSimpArgs false
noncomputable section
variable {μ : Type} {I : MemI μ} {P : Program} {lo : Lim} {w0 : Bs} {E : Env}

def thenA (k : AAct → M I (AExit × AAct)) (r : AExit × AAct) : M I (AExit × AAct) := match r with
  | (.normal, a1) => k a1
  | r => pure r
def inBlockA (id : Nat) (r : AExit × AAct) : M I (AExit × AAct) := match r with
  | (.exit j, a1) => bif Nat.beq j id then pure (.normal, a1) else pure (.exit j, a1)
  | r => pure r
def condA (lo : Lim) (self : Self I) (ρ : Option Nat) (c : Operand) (x y : Code) (a : AAct) : M I (AExit × AAct) := match evA lo a c with
  | some (.bool b) => bif b then self.code ρ x a else self.code ρ y a
  | _ => fail
def tmpsOf (a : AAct) : Array Value := ((List.range a.n).map a.val).toArray
def recordA (a : AAct) (ps : Array Tmp) (assign body : Code) (d : Nat) : Obj := .loop { state := .ready, pending := none, fn := 0, tmps := tmpsOf a, params := ps, assign, body, defers := d }
def enterLoopA (ρ : Option Nat) (a : AAct) (ps : Array Tmp) (assign body : Code) : M I (Nat × List Deferred) := match ρ with
  | none => new (.deferred (some [])) >>= fun r => new (recordA a ps assign body r) >>= fun l => pure (l, [{ target := .collected r, args := #[] }])
  | some k => rd k >>= fun o => match o with
    | .loop r0 => new (recordA a ps assign body r0.defers) >>= fun l => pure (l, [])
    | _ => fail
def marked (a : AAct) (m : List Deferred) : AAct := ⟨a.n, a.t, m ++ a.defers⟩
def jumpA (a : AAct) (j : Option Code) : M I (AExit × AAct) := match j with
  | none => pure (.normal, a)
  | some .ret => pure (.ret, a)
  | some (.exit id) => pure (.exit id, a)
  | _ => fail
def endLoopA (lo : Lim) (l : Nat) : M I (Option Code) := rd l >>= fun o => match o with
  | .loop r => match r.state with
    | .busy => fail
    | _ => wr lo l (some (.loop { r with state := .exhausted })) >>= fun _ => pure r.pending
  | _ => fail
def afterRange (lo : Lim) (l : Nat) (a : AAct) (e : AEnd) : M I (AExit × AAct) := match e with
  | .panic v => pure (.panic v, a)
  | .ret _ => endLoopA lo l >>= jumpA a
def rangeB (X : Hk) (lo : Lim) (self : Self I) (g : Operand) (a : AAct) (lm : Nat × List Deferred) : M I (AExit × AAct) := match evA lo a g with
  | some (.func (.func f) first cap) => bif X.X f then self.call f (first ++ #[.func (.yield lm.1) #[] #[]] ++ cap) >>= afterRange lo lm.1 (marked a lm.2) else fail
  | _ => fail
/-- A range over a function. -/
def rangeA' (X : Hk) (lo : Lim) (self : Self I) (ρ : Option Nat) (g : Operand) (ps : Array Tmp) (assign body : Code) (a : AAct) : M I (AExit × AAct) :=
  enterLoopA ρ a ps assign body >>= rangeB X lo self g a
def codeStep (P : Program) (X : Hk) (lo : Lim) (self : Self I) (ρ : Option Nat) : Code → AAct → M I (AExit × AAct)
  | .skip, a => pure (.normal, a)
  | .label _, a => pure (.normal, a)
  | .seq x y, a => self.code ρ x a >>= thenA (self.code ρ y)
  | .cond c x y, a => condA lo self ρ c x y a
  | .block id b, a => self.code ρ b a >>= inBlockA id
  | .loop b, a => loopA self ρ b 1000000 a
  | .scope b, a => self.code ρ b a
  | .exit id, a => pure (.exit id, a)
  | .ret, a => pure (.ret, a)
  | .region _ ops false, a => opsSeq P X lo ρ self ops ops.toList a
  | .region _ ops true, a => drawL P X lo ρ self ops a
  | .rangeFunc g ps assign body, a => rangeA' X lo self ρ g ps assign body a
  | _, _ => fail

def resL (P : Program) (a : AAct) : List ResultVar → M I (List Value)
  | [] => pure []
  | .tmp t :: l => resL P a l >>= fun vs => pure (a.val t :: vs)
  | .cell x t :: l => loadA P t (a.val x) >>= fun v => resL P a l >>= fun vs => pure (v :: vs)
def resA (P : Program) (fn : Func) (a : AAct) : M I Value := resL P a fn.results.toList >>= fun vs => match vs with
  | [v] => pure v
  | vs => pure (.tuple vs.toArray)

/-- Calls that are known by a contract: what they do to the abstract memory. -/
abbrev Hook (I : MemI μ) := Option (FuncId → Array Value → Option (M I AEnd))
/-- The empty memory. -/
def st0 (n : Nat) : St (Trie Obj) := ⟨n, .leaf, 0, 0⟩
end
end Go.Am
