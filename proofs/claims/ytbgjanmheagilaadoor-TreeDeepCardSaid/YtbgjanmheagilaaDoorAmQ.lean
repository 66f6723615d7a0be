/- The abstract evaluator: what is deferred, and what is caught. Conditions: none. -/
import Derived.Test.YtbgjanmheagilaaDoorAmN
import Derived.Recover
namespace Go.Am
open Go Go.RowKit
set_option linter.unusedVariables false
set_option linter.unusedSimpArgs false
noncomputable section
variable {μ : Type} {I : MemI μ} {P : Program} {lo : Lim} {w0 : Bs} {E : Env}

/-- How a frame is being left: it answers, or it panics (and may be caught). -/
inductive AMd where
  | ret
  | panic (v : Value) (caught : Bool)
def AMd.settle : AMd → AMd
  | .panic _ true => .ret
  | m => m
def MdR (E : Env) : AMd → FrameMode → Prop
  | .ret, .returning => True
  | .panic v c, .panicking ch => ∃ v', ch = [{ v := v', recovered := c }] ∧ VR E v v'
  | _, _ => False
theorem MdR.mono {E E' : Env} (hE : ∀ k x, E k = some x → E' k = some x) {u : AMd} {m : FrameMode} (h : MdR E u m) : MdR E' u m := by
  cases u <;> cases m <;> first | exact h.elim | trivial | skip
  obtain ⟨v', h1, h2⟩ := h
  exact ⟨v', h1, h2.mono hE⟩
theorem MdR.settle {u : AMd} {m : FrameMode} (h : MdR E u m) : MdR E u.settle (Go.settle m) := by
  cases u <;> cases m <;> first | exact h.elim | trivial | skip
  rename_i v c ch
  obtain ⟨v', rfl, h2⟩ := h
  cases c with
  | true => exact trivial
  | false => exact ⟨v', rfl, h2⟩

def isRec (o : Oper) : Bool := match o.op with
  | .call c => match c.callee with
    | .builtin .recover => true
    | _ => false
  | _ => false
abbrev SRes := (AExit × AAct) × AMd
def thenS (k : AAct → AMd → M I SRes) (u : AMd) (r : AExit × AAct) : M I SRes := match r with
  | (.normal, a1) => k a1 u
  | r => pure (r, u)
def recA (o : Oper) (k : AAct → AMd → M I SRes) (a : AAct) (u : AMd) : M I SRes := match u with
  | .panic v false => putA' a o.dst v >>= fun a1 => k a1 (.panic v true)
  | u => putA' a o.dst .nilIface >>= fun a1 => k a1 u
def opsS (P : Program) (X : Hk) (lo : Lim) (self : Self I) (ops : Array Oper) : List Oper → AAct → AMd → M I SRes
  | [], a, u => pure ((.normal, a), u)
  | o :: rest, a, u => bif wantedA ops a o && isRec o then recA o (opsS P X lo self ops rest) a u else opsSeq P X lo self ops [o] a >>= thenS (opsS P X lo self ops rest) u
def keepS (u : AMd) (r : AExit × AAct) : M I SRes := pure (r, u)
def thenU (k : AAct → AMd → M I SRes) (r : SRes) : M I SRes := match r with
  | ((.normal, a1), u1) => k a1 u1
  | r => pure r
/-- A body that is called as it was deferred. -/
def codeS (P : Program) (X : Hk) (lo : Lim) (self : Self I) : Code → AAct → AMd → M I SRes
  | .seq x y, a, u => codeS P X lo self x a u >>= thenU (codeS P X lo self y)
  | .region _ ops false, a, u => opsS P X lo self ops ops.toList a u
  | c, a, u => self.code c a >>= keepS u
def bodyS (r : SRes) : M I AMd := match r with
  | ((.normal, ⟨_, _, []⟩), u) => pure u
  | ((.ret, ⟨_, _, []⟩), u) => pure u
  | _ => fail
def frameA (args : Array Value) (fn : Func) : AAct := ⟨args.size + (fn.ntmps - args.size), fillT args.toList 0 .leaf, []⟩
/-- A call of what was deferred. -/
def callDA (P : Program) (X : Hk) (lo : Lim) (self : Self I) (f : FuncId) (args : Array Value) (u : AMd) : M I AMd := match P.funcs[f]? with
  | some fn => match fn.body with
    | some c => bif Nat.blt args.size 4000 && fn.results.isEmpty then codeS P X lo self c (frameA args fn) u >>= bodyS else fail
    | none => fail
  | none => fail
def endA (P : Program) (fn : Func) (a : AAct) (u : AMd) : M I AEnd := match u with
  | .ret => resA P fn a >>= fun v => pure (.ret v)
  | .panic v false => pure (.panic v)
  | _ => fail
def leavesA (P : Program) (X : Hk) (lo : Lim) (self : Self I) (fn : Func) (a : AAct) : List Deferred → AMd → M I AEnd
  | [], u => endA P fn a u
  | d :: ds, u => match d.target with
    | .fn (.func f) cap => bif X.X f then callDA P X lo self f (d.args ++ cap) u >>= fun u1 => leavesA P X lo self fn a ds u1.settle else fail
    | _ => fail
def bodyD (P : Program) (X : Hk) (lo : Lim) (self : Self I) (fn : Func) (r : AExit × AAct) : M I AEnd := match r.1 with
  | .normal => leavesA P X lo self fn r.2 r.2.defers .ret
  | .ret => leavesA P X lo self fn r.2 r.2.defers .ret
  | .panic v => leavesA P X lo self fn r.2 r.2.defers (.panic v false)
  | _ => fail
def enterD (P : Program) (X : Hk) (lo : Lim) (self : Self I) (args : Array Value) (fn : Func) : M I AEnd := match fn.body with
  | some c => bif Nat.blt args.size 4000 then self.code c (frameA args fn) >>= bodyD P X lo self fn else fail
  | none => fail
def bodyStepD (P : Program) (X : Hk) (lo : Lim) (self : Self I) (f : FuncId) (args : Array Value) : M I AEnd := match X.L f args.toList with
  | some v => pure (.ret v)
  | none => match P.funcs[f]? with
    | some fn => enterD P X lo self args fn
    | none => fail
def callStepD (P : Program) (X : Hk) (lo : Lim) (K : Hook I) (self : Self I) (f : FuncId) (args : Array Value) : M I AEnd := match K with
  | none => bodyStepD P X lo self f args
  | some h => match h f args with
    | some m => m
    | none => bodyStepD P X lo self f args
def evalD (P : Program) (X : Hk) (lo : Lim) (K : Hook I) : Nat → Self I
  | 0 => ⟨fun _ _ => fail, fun _ _ => fail⟩
  | n + 1 => ⟨codeStep P X lo (evalD P X lo K n), callStepD P X lo K (evalD P X lo K n)⟩
def runsD (P : Program) (X : Hk) (n : Nat) (f : FuncId) (args : Array Value) (p : Value → Bool) : Bool := match ((evalD (I := trieI) P X ⟨0, 0⟩ none n).call f args).run (st0 0) with
  | some (.ret v, _) => p v
  | _ => false

/-! ### Soundness -/
theorem upon_of_wpList {ops : Array Oper} {o : Oper} {ca : Act} {w : World} {Q : Exit → Act → World → Prop} (hw : Region.wanted o (yielded ops ca.tmps) = true) (hQ : ¬ LetsOut Q) (h : wpList P ops Q [o] ca w) : o.wp P ca w (fun a w => Q .normal a w) Q := by
  unfold wpList at h
  rw [if_pos hw] at h
  rcases h with h | h
  · exact h
  · exact absurd h.2 hQ
theorem frame_rel {args cargs : Array Value} {fn : Func} (hsz : args.size < 4000) (hargs : ARl E args cargs) : ActR E (frameA args fn) { tmps := cargs ++ Array.replicate (fn.ntmps - cargs.size) undef, defers := [] } := by
  unfold frameA
  refine ⟨by simp [hargs.1], fun i => ?_, rfl, fun j d d' h => by simp at h⟩
  unfold AAct.val
  simp only
  rw [fillT_get args.toList 0 .leaf i (by simp; omega)]
  simp only [Nat.zero_le, true_and, Nat.zero_add, Nat.sub_zero, Array.length_toList]
  by_cases hi : i < args.size
  · rw [if_pos hi]
    have hi' : i < cargs.size := by rw [← hargs.1]; exact hi
    have := hargs.2 args[i] cargs[i] i (by simp [hi]) (by simp [hi'])
    simpa [hi, hi', Array.getElem?_append] using this
  · rw [if_neg hi]
    have hi' : ¬ i < cargs.size := by rw [← hargs.1]; exact hi
    have : (cargs ++ Array.replicate (fn.ntmps - cargs.size) undef).getD i undef = undef := by
      simp [Array.getElem?_append, hi', Array.getElem?_replicate]
      split <;> rfl
    rw [this]
    exact VR.undef E
/-- What a body that was deferred promises. -/
def CodeSP (P : Program) (lo : Lim) (w0 : Bs) (m : M I SRes) (a : AAct) (u : AMd) (C : (Exit → Act → List Frame → World → Prop) → Act → List Frame → World → Prop) : Prop :=
  ∀ s e a' u' s', m.run s = some (((e, a'), u'), s') → ∀ E g w ca (c0 : Frame) (cs : List Frame) (um : FrameMode) Q, Rel P lo w0 E g w → Agree I s s' g → Fresh s s' E → ActR E a ca → MdR E u um →
    (∀ E' ce ca' (um' : FrameMode) w', Env.Ext E E' s.next s'.next → ExR E' e ce → ActR E' a' ca' → MdR E' u' um' → Rel P lo w0 E' (merge I s' g) w' → Q ce ca' ({ c0 with mode := um' } :: cs) w') →
    C Q ca ({ c0 with mode := um } :: cs) w
theorem sem_rec {o : Oper} (h : isRec o = true) (ρ : Operand → Value) (w : World) : (execOp ρ o).run P w = .ok .recover w := by
  unfold isRec at h
  split at h
  · rename_i c hc
    split at h
    · rename_i hb
      obtain ⟨callee, args, ts⟩ := c
      simp only at hb
      subst hb
      unfold execOp
      rw [hc]
      simp [resolve, invoke, builtin]
    · cases h
  · cases h

theorem wpOpsS_cons {ops : Array Oper} {o : Oper} {i : Nat} {rest : List Nat} {ca : Act} {cs : List Frame} {w : World} {Q : Exit → Act → List Frame → World → Prop} (ho : ops[i]? = some o) (hw : Region.wanted o (yielded ops ca.tmps) = true)
    {Q1 : Exit → Act → World → Prop} (h1 : o.wp P ca w (fun a w => Q1 .normal a w) Q1) (hn : ∀ a' w', Q1 .normal a' w' → wpOpsS P ops Q rest a' cs w') (hp : ∀ ch a' w', Q1 (.panic ch) a' w' → Q (.panic ch) a' cs w') (hl : ¬ LetsOut Q1) : wpOpsS P ops Q (i :: rest) ca cs w := by
  unfold wpOpsS
  simp only [ho, hw, if_true]
  unfold Oper.wp at h1
  generalize (execOp ca.eval o).run P w = r at h1
  cases r with
  | halt x w' =>
    cases x <;> first | exact h1.elim | exact hp _ _ _ h1
  | ok n w' =>
    cases n <;> first | exact h1.elim | exact hn _ _ h1 | skip
    · refine Calls.mono h1 fun e w2 he => ?_
      cases e with
      | returned v => exact hn _ _ he
      | panicked ch => exact hp _ _ _ he
      | outgrown => exact absurd he hl
    · exact Rows.mono h1 fun v w2 he => hn _ _ he
theorem opsS_ok {X : Hk} (hX : Plain P X) {self : Self I} (hc : CallOK P lo w0 self.call) {ops : Array Oper} : ∀ (is : List Nat) (l : List Oper), is.map (fun i => ops[i]?) = l.map some → ∀ (a : AAct) (u : AMd), CodeSP P lo w0 (opsS P X lo self ops l a u) a u (fun Q ca cs w => wpOpsS P ops Q is ca cs w)
  | [], [], _, a, u => by
    intro s e a' u' s' hr E g w ca c0 cs um Q hR hA hF ha hu hQ
    obtain ⟨h1, rfl⟩ := pure_run hr
    cases h1
    exact hQ E .normal ca um w (.refl _ _) trivial ha hu (by rw [merge_read hA (fun _ => rfl) (fun _ => rfl)]; exact hR)
  | [], _ :: _, h, a, u => by simp at h
  | _ :: _, [], h, a, u => by simp at h
  | i :: is, o :: rest, h, a, u => by
    intro s e a' u' s' hr E g w ca c0 cs um Q hR hA hF ha hu hQ
    simp only [List.map_cons, List.cons.injEq] at h
    obtain ⟨ho, h⟩ := h
    have hw := wantedA_eq (ops := ops) ha o
    unfold opsS at hr
    cases hwr : (wantedA ops a o && isRec o) with
    | true =>
      rw [hwr, cond_true] at hr
      simp only [Bool.and_eq_true] at hwr
      rw [hwr.1] at hw
      have hrec := sem_rec (P := P) hwr.2 ca.eval w
      unfold wpOpsS
      simp only [ho, hw, if_true, hrec]
      have go : ∀ (v v' : Value) (u1 : AMd) (um1 : FrameMode), VR E v v' → MdR E u1 um1 → (putA' a o.dst v >>= fun a1 => opsS P X lo self ops rest a1 u1).run s = some (((e, a'), u'), s') → wpOpsS P ops Q is (ca.put o.dst v') ({ c0 with mode := um1 } :: cs) w := fun v v' u1 um1 hv hu1 hr => by
        obtain ⟨a1, s1, h1, h2⟩ := bind_run hr
        obtain ⟨rfl, ha1⟩ := ha.put hv h1
        exact opsS_ok hX hc is rest h a1 u1 _ e a' u' s' h2 E g w _ c0 cs um1 Q hR hA hF ha1 hu1 hQ
      have hnil : VR E .nilIface .nilIface := gnd_refl E 3 .nilIface rfl
      cases u with
      | ret =>
        cases um <;> first | exact (show False from hu).elim | skip
        exact go .nilIface .nilIface .ret .returning hnil trivial hr
      | panic v c =>
        cases um <;> first | exact (show False from hu).elim | skip
        obtain ⟨v', rfl, hv⟩ := hu
        cases c with
        | false => exact go v v' (.panic v true) (.panicking [{ v := v', recovered := true }]) hv ⟨v', rfl, hv⟩ hr
        | true => exact go .nilIface .nilIface (.panic v true) (.panicking [{ v := v', recovered := true }]) hnil ⟨v', rfl, hv⟩ hr
    | false =>
      rw [hwr, cond_false] at hr
      obtain ⟨⟨e1, a1⟩, s1, h1, h2⟩ := bind_run hr
      have hle : St.Le I s1 s' := M.le _ _ _ _ h2
      have hx := opsSeq_ok hX hc (ops := ops) [o] a s e1 a1 s1 h1 E g w ca (fun ce ca1 w1 => ∃ E1, Env.Ext E E1 s.next s1.next ∧ ExR E1 e1 ce ∧ ActR E1 a1 ca1 ∧ Rel P lo w0 E1 (merge I s1 g) w1) hR (hA.first hle) (hF.first hle.next) ha fun E' ce ca' w' k1 k2 k3 k4 => ⟨E', k1, k2, k3, k4⟩
      have hn : ∀ ca1 w1, (∃ E1, Env.Ext E E1 s.next s1.next ∧ ExR E1 e1 .normal ∧ ActR E1 a1 ca1 ∧ Rel P lo w0 E1 (merge I s1 g) w1) → wpOpsS P ops Q is ca1 ({ c0 with mode := um } :: cs) w1 := fun ca1 w1 ⟨E1, k1, k2, k3, k4⟩ => by
        obtain ⟨hA1, hF1, hX1, hm1⟩ := chain h1 hle hA hF k1
        cases e1 <;> first | exact k2.elim | skip
        exact opsS_ok hX hc is rest h a1 u s1 e a' u' s' h2 E1 _ w1 ca1 c0 cs um Q k4 hA1 hF1 k3 (hu.mono k1.keep) fun E' ce ca' um' w' q1 q2 q3 q4 q5 => hQ E' ce ca' um' w' (hX1 E' q1) q2 q3 q4 (by rw [hm1] at q5; exact q5)
      have hp : ∀ ch ca1 w1, (∃ E1, Env.Ext E E1 s.next s1.next ∧ ExR E1 e1 (.panic ch) ∧ ActR E1 a1 ca1 ∧ Rel P lo w0 E1 (merge I s1 g) w1) → Q (.panic ch) ca1 ({ c0 with mode := um } :: cs) w1 := fun ch ca1 w1 ⟨E1, k1, k2, k3, k4⟩ => by
        cases e1 <;> first | exact k2.elim | skip
        obtain ⟨q1, rfl⟩ := pure_run h2
        cases q1
        exact hQ E1 _ ca1 um w1 k1 k2 k3 (hu.mono k1.keep) k4
      cases hwa : wantedA ops a o with
      | true =>
        rw [hwa] at hw
        have hl : ¬ LetsOut (fun ce ca1 w1 => ∃ E1, Env.Ext E E1 s.next s1.next ∧ ExR E1 e1 ce ∧ ActR E1 a1 ca1 ∧ Rel P lo w0 E1 (merge I s1 g) w1) := fun ⟨a0, w00, E1, _, k2, _⟩ => by
          cases e1 <;> exact k2.elim
        exact wpOpsS_cons ho hw (upon_of_wpList hw hl hx) hn hp hl
      | false =>
        rw [hwa] at hw
        unfold wpList at hx
        rw [hw, if_neg (by simp)] at hx
        unfold wpOpsS
        simp only [ho, hw, Bool.false_eq_true, if_false]
        exact hn _ _ hx
theorem codeS_ok {X : Hk} (hX : Plain P X) {self : Self I} (hcd : CodeOK P lo w0 self.code) (hc : CallOK P lo w0 self.call) : ∀ (c : Code) (a : AAct) (u : AMd), CodeSP P lo w0 (codeS P X lo self c a u) a u (fun Q ca cs w => c.wpS P Q ca cs w) := by
  have plain : ∀ (c : Code) (a : AAct) (u : AMd), CodeSP P lo w0 (self.code c a >>= keepS u) a u (fun Q ca cs w => c.wpS P Q ca cs w) := fun c a u => by
    intro s e a' u' s' hr E g w ca c0 cs um Q hR hA hF ha hu hQ
    obtain ⟨⟨e1, a1⟩, s1, h1, h2⟩ := bind_run hr
    obtain ⟨q1, rfl⟩ := pure_run h2
    cases q1
    exact wpS_of_wp (hcd c a s _ _ _ h1 E g w ca _ hR hA hF ha fun E' ce ca' w' k1 k2 k3 k4 => hQ E' ce ca' um w' k1 k2 k3 (hu.mono k1.keep) k4)
  intro c
  induction c with
  | seq x y ihx ihy =>
    intro a u s e a' u' s' hr E g w ca c0 cs um Q hR hA hF ha hu hQ
    obtain ⟨⟨⟨e1, a1⟩, u1⟩, s1, h1, h2⟩ := bind_run (m := codeS P X lo self x a u) hr
    have hle : St.Le I s1 s' := M.le _ _ _ _ h2
    refine wpS_seq (ihx a u s e1 a1 u1 s1 h1 E g w ca c0 cs um _ hR (hA.first hle) (hF.first hle.next) ha hu fun E1 ce ca1 um1 w1 k1 k2 k3 k4 k5 => ?_)
    obtain ⟨hA1, hF1, hX1, hm1⟩ := chain h1 hle hA hF k1
    cases e1 with
    | normal =>
      cases ce <;> first | exact k2.elim | skip
      exact ihy a1 u1 s1 e a' u' s' h2 E1 _ w1 ca1 c0 cs um1 Q k5 hA1 hF1 k3 k4 fun E' ce ca' um' w' q1 q2 q3 q4 q5 => hQ E' ce ca' um' w' (hX1 E' q1) q2 q3 q4 (by rw [hm1] at q5; exact q5)
    | exit id =>
      obtain ⟨h3, rfl⟩ := pure_run h2
      cases h3
      cases ce <;> first | exact k2.elim | exact hQ E1 _ ca1 um1 w1 k1 k2 k3 k4 k5
    | ret =>
      obtain ⟨h3, rfl⟩ := pure_run h2
      cases h3
      cases ce <;> first | exact k2.elim | exact hQ E1 _ ca1 um1 w1 k1 k2 k3 k4 k5
    | panic v =>
      obtain ⟨h3, rfl⟩ := pure_run h2
      cases h3
      cases ce <;> first | exact k2.elim | exact hQ E1 _ ca1 um1 w1 k1 k2 k3 k4 k5
  | region id ops draw =>
    cases draw with
    | true => exact fun a u => plain _ a u
    | false =>
      intro a u s e a' u' s' hr E g w ca c0 cs um Q hR hA hF ha hu hQ
      refine wpS_region (opsS_ok hX hc (List.range ops.size) ops.toList ?_ a u s e a' u' s' hr E g w ca c0 cs um Q hR hA hF ha hu hQ)
      apply List.ext_getElem (by simp)
      intro i h1 h2
      simp at h1 h2
      simp [h1]
  | skip => exact fun a u => plain _ a u
  | cond c x y _ _ => exact fun a u => plain _ a u
  | block id b _ => exact fun a u => plain _ a u
  | loop b _ => exact fun a u => plain _ a u
  | rangeFunc f ps x y _ _ => exact fun a u => plain _ a u
  | exit id => exact fun a u => plain _ a u
  | scope b _ => exact fun a u => plain _ a u
  | label l => exact fun a u => plain _ a u
  | goto l => exact fun a u => plain _ a u
  | ret => exact fun a u => plain _ a u
  | refuse why => exact fun a u => plain _ a u

theorem res_empty {fn : Func} (h : fn.results.isEmpty = true) (tmps : Array Value) (w : World) : (results fn tmps).run P w = .ok (.tuple #[]) w := by
  have : fn.results = #[] := by simpa using h
  unfold results
  rw [this]
  simp
theorem callDA_ok {X : Hk} (hX : Plain P X) {self : Self I} (hcd : CodeOK P lo w0 self.code) (hc : CallOK P lo w0 self.call) {f : FuncId} {args : Array Value} {u u' : AMd} {s s' : St μ} (hr : (callDA P X lo self f args u).run s = some (u', s'))
    {E : Env} {g : Nat → Option Obj} {w : World} {cargs : Array Value} {um : FrameMode} (hR : Rel P lo w0 E g w) (hA : Agree I s s' g) (hF : Fresh s s' E) (hargs : ARl E args cargs) (hu : MdR E u um) :
    CallsD P f cargs um w fun e um' w' => ∃ E' v, e = .returned v ∧ Env.Ext E E' s.next s'.next ∧ MdR E' u' um' ∧ Rel P lo w0 E' (merge I s' g) w' := by
  unfold callDA at hr
  split at hr
  · rename_i fn hf
    split at hr
    · rename_i c hb
      cases hsz : (Nat.blt args.size 4000 && fn.results.isEmpty) with
      | false => rw [hsz] at hr; exact (fail_run hr).elim
      | true =>
        rw [hsz, cond_true] at hr
        simp only [Bool.and_eq_true, blt_eq, decide_eq_true_eq] at hsz
        obtain ⟨⟨⟨e1, a1⟩, u1⟩, s1, h1, h2⟩ := bind_run hr
        have hle : St.Le I s1 s' := M.le _ _ _ _ h2
        have hend : (e1 = .normal ∨ e1 = .ret) ∧ a1.defers = [] ∧ u1 = u' ∧ s1 = s' := by
          unfold bodyS at h2
          split at h2
          · rename_i hh
            obtain ⟨q1, q2⟩ := pure_run h2
            cases hh
            exact ⟨.inl rfl, rfl, q1.symm, q2.symm⟩
          · rename_i hh
            obtain ⟨q1, q2⟩ := pure_run h2
            cases hh
            exact ⟨.inr rfl, rfl, q1.symm, q2.symm⟩
          · exact (fail_run h2).elim
        obtain ⟨he1, hd1, rfl, rfl⟩ := hend
        refine callsD_of_wpS hf hb fun c0 cs hc0 => ?_
        have hc0' : c0 = { c0 with mode := um } := by rw [← hc0]
        rw [hc0']
        refine codeS_ok hX hcd hc c _ u s e1 a1 u1 s1 h1 E g w _ c0 cs um _ hR hA hF (frame_rel hsz.1 hargs) hu fun E' ce ca' um' w' k1 k2 k3 k4 k5 => ?_
        have hdd : ca'.defers = [] := by
          have := k3.len
          rw [hd1] at this
          exact List.eq_nil_of_length_eq_zero (by simpa using this.symm)
        rcases he1 with rfl | rfl
        · cases ce <;> first | exact k2.elim | exact ⟨hdd, um', rfl, _, res_empty hsz.2 _ _, E', _, rfl, k1, k4, k5⟩
        · cases ce <;> first | exact k2.elim | exact ⟨hdd, um', rfl, _, res_empty hsz.2 _ _, E', _, rfl, k1, k4, k5⟩
    · exact (fail_run hr).elim
  · exact (fail_run hr).elim
theorem leaves_ok {X : Hk} (hX : Plain P X) {self : Self I} (hcd : CodeOK P lo w0 self.code) (hc : CallOK P lo w0 self.call) {fn : Func} {a : AAct} : ∀ (ds : List Deferred) (u : AMd) (s : St μ) (r : AEnd) (s' : St μ), (leavesA P X lo self fn a ds u).run s = some (r, s') →
    ∀ (E : Env) (g : Nat → Option Obj) (w : World) (tmps : Array Value) (ds' : List Deferred) (um : FrameMode) (R : Ending → World → Prop), Rel P lo w0 E g w → Agree I s s' g → Fresh s s' E → (∀ i, VR E (a.val i) (tmps.getD i undef)) → MdR E u um →
      ds.length = ds'.length → (∀ (j : Nat) (d d' : Deferred), ds[j]? = some d → ds'[j]? = some d' → DR E d d') →
      (∀ E' e w', Env.Ext E E' s.next s'.next → EnR E' r e → Rel P lo w0 E' (merge I s' g) w' → R e w') → Leaves P fn tmps R ds' um w
  | [], u, s, r, s', hr, E, g, w, tmps, ds', um, R, hR, hA, hF, hv, hu, hlen, _, hQ => by
    obtain rfl : ds' = [] := List.eq_nil_of_length_eq_zero (by simpa using hlen.symm)
    unfold leavesA endA at hr
    split at hr
    · cases um <;> first | exact (show False from hu).elim | skip
      obtain ⟨v, s2, h4, h5⟩ := bind_run hr
      obtain ⟨rfl, rfl⟩ := pure_run h5
      obtain ⟨E2, v', w2, k1, k2, k3, k4⟩ := sim_resA (P := P) (lo := lo) (w0 := w0) (E := E) (fn := fn) (ca := { tmps := tmps, defers := [] }) hv s v s' h4 E _ w (fun _ _ h => h) hR hA hF trivial
      have := stl_results (P := P) fn tmps w v' w2 k1
      subst this
      exact ⟨v', k1, hQ E2 _ _ k2 k3 k4⟩
    · cases um <;> first | exact (show False from hu).elim | skip
      obtain ⟨v', rfl, hv'⟩ := hu
      obtain ⟨rfl, rfl⟩ := pure_run hr
      exact hQ E _ w (.refl _ _) ⟨v', rfl, hv'⟩ (by rw [merge_read hA (fun _ => rfl) (fun _ => rfl)]; exact hR)
    · exact (fail_run hr).elim
  | d :: ds, u, s, r, s', hr, E, g, w, tmps, [], um, R, hR, hA, hF, hv, hu, hlen, hds, hQ => by simp at hlen
  | d :: ds, u, s, r, s', hr, E, g, w, tmps, d' :: ds', um, R, hR, hA, hF, hv, hu, hlen, hds, hQ => by
    obtain ⟨f, cap, cap', ht, ht', hcap, hargs⟩ := hds 0 d d' rfl rfl
    unfold leavesA at hr
    rw [ht] at hr
    simp only at hr
    cases hx : X.X f with
    | false => rw [hx] at hr; exact (fail_run hr).elim
    | true =>
      rw [hx, cond_true] at hr
      obtain ⟨u1, s1, h1, h2⟩ := bind_run hr
      have hle : St.Le I s1 s' := M.le _ _ _ _ h2
      obtain ⟨fn', g1, g2, g3⟩ := hX.x f hx
      have g3' : fn'.body ≠ none := fun e => by rw [e] at g3; cases g3
      have g2' : ¬ fn'.name = "runtime.NumGoroutine" := by simpa using g2
      have hne : um ≠ .run := fun e => by subst e; cases u <;> exact (show False from hu).elim
      refine ⟨hne, .func f, cap', f, d'.args ++ cap', ht', ?_, ?_⟩
      · rw [ht']
        simp [invoke, callFunc, g1, g2', g3']
      · refine (callDA_ok hX hcd hc h1 hR (hA.first hle) (hF.first hle.next) (ARl.append hargs hcap) hu).mono fun e um1 w1 ⟨E1, v, he, k1, k2, k3⟩ => ?_
        subst he
        obtain ⟨hA1, hF1, hX1, hm1⟩ := chain h1 hle hA hF k1
        exact leaves_ok hX hcd hc ds u1.settle s1 r s' h2 E1 _ w1 tmps ds' _ R k3 hA1 hF1 (fun i => (hv i).mono k1.keep) k2.settle (by simpa using hlen) (fun j x y hx hy => (hds (j + 1) x y (by simpa using hx) (by simpa using hy)).mono k1.keep)
          fun E' e w' q1 q2 q3 => hQ E' e w' (hX1 E' q1) q2 (by rw [hm1] at q3; exact q3)
theorem call_okD {X : Hk} (H : Plain P X) {self : Self I} (hcd : CodeOK P lo w0 self.code) (hc : CallOK P lo w0 self.call) : CallOK P lo w0 (bodyStepD P X lo self) := by
  intro f args s r s' hr E g w cargs hR hA hF hargs
  unfold bodyStepD at hr
  split at hr
  · rename_i v hl
    obtain ⟨rfl, rfl⟩ := pure_run hr
    obtain ⟨l1, l2, l3⟩ := H.l f _ v hl
    have he := hargs.gnd l1
    have := l3 w
    rw [show args.toList.toArray = args by simp, ← he] at this
    refine this.mono fun e w' ⟨h1, h2⟩ => ⟨E, .refl _ _, ?_, ?_⟩
    · subst h1; exact gnd_refl E 3 v l2
    · rw [merge_read hA (fun _ => rfl) (fun _ => rfl)]; exact hR.below' h2
  · split at hr
    · rename_i fn hf
      unfold enterD at hr
      split at hr
      · rename_i c hb
        cases hsz : Nat.blt args.size 4000 with
        | false => simp only [hsz] at hr; exact (fail_run hr).elim
        | true =>
          simp only [hsz, cond_true] at hr
          rw [blt_eq, decide_eq_true_eq] at hsz
          obtain ⟨⟨x, a1⟩, s1, h1, h2⟩ := bind_run hr
          have hle : St.Le I s1 s' := M.le _ _ _ _ h2
          refine calls_of_wp_defers hf hb ?_
          refine hcd c _ s x a1 s1 h1 E g w _ _ hR (hA.first hle) (hF.first hle.next) (frame_rel hsz hargs) fun E1 ce ca1 w1 hx1 he1 ha1 hR1 => ?_
          obtain ⟨hA1, hF1, hX1, hm1⟩ := chain h1 hle hA hF hx1
          have leave : ∀ u um, MdR E1 u um → (leavesA P X lo self fn a1 a1.defers u).run s1 = some (r, s') → Leaves P fn ca1.tmps (fun e w' => ∃ E', Env.Ext E E' s.next s'.next ∧ EnR E' r e ∧ Rel P lo w0 E' (merge I s' g) w') ca1.defers um w1 := fun u um hu h3 =>
            leaves_ok H hcd hc a1.defers u s1 r s' h3 E1 _ w1 ca1.tmps ca1.defers um _ hR1 hA1 hF1 ha1.val hu ha1.len ha1.defers fun E' e w' q1 q2 q3 => ⟨E', hX1 E' q1, q2, by rw [hm1] at q3; exact q3⟩
          cases x with
          | normal =>
            cases ce <;> simp only [ExR] at he1 <;> first | exact he1.elim | skip
            exact leave .ret .returning trivial h2
          | ret =>
            cases ce <;> simp only [ExR] at he1 <;> first | exact he1.elim | skip
            exact leave .ret .returning trivial h2
          | exit j => exact (fail_run h2).elim
          | panic v =>
            cases ce <;> simp only [ExR] at he1 <;> first | exact he1.elim | skip
            exact leave (.panic v false) (.panicking _) he1 h2
      · exact (fail_run hr).elim
    · exact (fail_run hr).elim
theorem evalD_ok (hm : P.follows .mixedOrders = true) {X : Hk} (H : Plain P X) {K : Hook I} (hK : HookOK P lo w0 K) : ∀ n, CodeOK P lo w0 (evalD (I := I) P X lo K n).code ∧ CallOK P lo w0 (evalD (I := I) P X lo K n).call
  | 0 => ⟨fun c a s e a' s' hr => (fail_run hr).elim, fun f args s r s' hr => (fail_run hr).elim⟩
  | n + 1 => ⟨code_ok hm H (evalD_ok hm H hK n).1 (evalD_ok hm H hK n).2, by
      have hb := call_okD H (evalD_ok hm H hK n).1 (evalD_ok hm H hK n).2
      intro f args s r s' hr E g w cargs hR hA hF hargs
      change (callStepD P X lo K (evalD P X lo K n) f args).run s = _ at hr
      unfold callStepD at hr
      split at hr
      · exact hb f args s r s' hr E g w cargs hR hA hF hargs
      · rename_i h
        split at hr
        · rename_i m hm
          exact hK h rfl f args m hm s r s' hr E g w cargs hR hA hF hargs
        · exact hb f args s r s' hr E g w cargs hR hA hF hargs⟩
/-- A call on plain values alone, run by the kernel: so it comes on every tape, in every memory. -/
theorem runsD_calls (hm : P.follows .mixedOrders = true) {X : Hk} (H : Plain P X) {n : Nat} {f : FuncId} {args : Array Value} {p : Value → Bool} (h : runsD P X n f args p = true) (hg : args.toList.all (gnd 3) = true) (w : World) :
    Calls P f args w fun e w' => ∃ (v v' : Value) (E : Env), p v = true ∧ e = .returned v' ∧ VR E v v' ∧ Below w.heap.size w w' := by
  unfold runsD at h
  split at h
  · rename_i v s' hr
    have hR : Rel P ⟨0, 0⟩ ⟨w, fun _ => none⟩ (fun _ => none) (fun _ => none) w := ⟨Below.refl _ _, (fun k o h => by cases h), (fun k k' o o' b r r' h => by cases h), (fun k b r _ h => by cases h), (fun k h => absurd h (Nat.not_lt_zero k)), (fun k x h => by cases h)⟩
    have hself : ARl (fun _ => none) args args := ⟨rfl, fun a c j ha hc => by rw [ha] at hc; cases hc; exact gnd_refl _ 3 a (all_getElem? hg ha)⟩
    have := (evalD_ok (I := trieI) (lo := ⟨0, 0⟩) (w0 := ⟨w, fun _ => none⟩) hm H (K := none) (fun h e => by cases e) n).2 f args (st0 0) (.ret v) s' hr (fun _ => none) (fun _ => none) w args hR (fun k hk => rfl) (fun k _ _ => rfl) hself
    refine this.mono fun e w' ⟨E, _, he, hR'⟩ => ?_
    cases e with
    | returned v' => exact ⟨v, v', E, h, rfl, he, hR'.below⟩
    | panicked c => exact he.elim
    | outgrown => exact he.elim
  · cases h
/-- A call whose arguments bear names, with what is known of its callees. -/
theorem runsD_named (hm : P.follows .mixedOrders = true) {X : Hk} (H : Plain P X) {lo : Lim} {K : Hook trieI} {w : World} {E0 : Env} (hK : HookOK P lo ⟨w, E0⟩ K) (hG : ∀ k, k < lo.G → E0 k = some (k, 0)) (hlo : ∀ k, lo.lo ≤ k → E0 k = none) {n : Nat} {f : FuncId} {args cargs : Array Value} {r : AEnd} {s' : St (Trie Obj)}
    (h : ((evalD (I := trieI) P X lo K n).call f args).run (st0 lo.lo) = some (r, s')) (ha : ARl E0 args cargs) :
    Calls P f cargs w fun e w' => ∃ E', EnR E' r e ∧ Rel P lo ⟨w, E0⟩ E' (merge trieI s' fun _ => none) w' := by
  have hR : Rel P lo ⟨w, E0⟩ E0 (fun _ => none) w := ⟨Below.refl _ _, (fun k o h => by cases h), (fun k k' o o' b r r' h => by cases h), (fun k b r h1 h2 => by rw [hlo k h1] at h2; cases h2), hG, (fun k x h => h)⟩
  exact ((evalD_ok (I := trieI) hm H hK n).2 f args (st0 lo.lo) r s' h E0 (fun _ => none) w cargs hR (fun k hk => rfl) (fun k h1 _ => hlo k h1) ha).mono fun e w' ⟨E', _, he, hR'⟩ => ⟨E', he, hR'⟩
end
end Go.Am
