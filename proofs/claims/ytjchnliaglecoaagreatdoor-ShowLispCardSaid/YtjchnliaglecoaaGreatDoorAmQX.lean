/- The abstract evaluator: what it comes to, the model comes to, on every tape. Conditions: none. -/
import Derived.Scope
import Derived.RangeFuncNested
import Derived.TacticsIn
import Derived.Test.YtjchnliaglecoaaGreatDoorAmLX
import Derived.Test.YtjchnliaglecoaaGreatDoorAmOX
import Derived.Recover
set_option linter.unusedVariables false
set_option linter.unusedSimpArgs false
namespace Go.Am
open Go Go.RowKit
set_option linter.unusedVariables false
set_option linter.unusedSimpArgs false
variable {μ : Type} {I : MemI μ} {P : Program} {lo : Lim} {w0 : Bs} {E : Env}

/-! ### What only reads -/
def Stl {α : Type} (P : Program) (c : Sem α) : Prop := ∀ w v w', c.run P w = .ok v w' → w' = w
theorem Stl.pure {α : Type} (a : α) : Stl P (Pure.pure a : Sem α) := fun w v w' h => by cases h; rfl
theorem Stl.halt {α : Type} (x : Halt) : Stl P (Sem.halt x : Sem α) := fun w v w' h => by cases h
theorem Stl.bind {α β : Type} {c : Sem α} {f : α → Sem β} (h : Stl P c) (hf : ∀ a, Stl P (f a)) : Stl P (c >>= f) := fun w v w' hr => by
  rw [Sem.run_bind] at hr
  cases hc : c.run P w with
  | halt x w1 => rw [hc] at hr; cases hr
  | ok a w1 =>
    rw [hc] at hr
    have := h w a w1 hc
    subst this
    exact hf a _ _ _ hr
theorem Stl.program : Stl P program := fun w v w' h => by cases h; rfl
theorem Stl.info (t : TypeId) : Stl P (typeInfo t) := by
  unfold typeInfo
  refine Stl.bind Stl.program fun p => ?_
  split
  · exact Stl.pure _
  · exact Stl.halt _
theorem Stl.under (t : TypeId) : Stl P (underlying t) := by
  unfold underlying
  refine Stl.bind Stl.program fun p => ?_
  split
  · exact Stl.pure _
  · exact Stl.halt _
theorem Stl.load (a : Addr) (m : Mode) : Stl P (load a m) := fun w v w' h => by
  rw [run_load] at h
  split at h
  · cases h; rfl
  · split at h
    · cases h; rfl
    · cases h
theorem Stl.cells (a : Addr) : ∀ (n i : Nat) (acc : Array Value), Stl P (loadCellsFrom a i n acc)
  | 0, i, acc => Stl.pure _
  | n + 1, i, acc => by
    unfold loadCellsFrom
    exact Stl.bind (Stl.load _ _) fun v => Stl.cells a n _ _
theorem Stl.var (t : TypeId) (a : Addr) : Stl P (loadVar t a) := by
  unfold loadVar isAgg
  refine Stl.bind (Stl.bind (Stl.under t) fun d => ?_) fun b => ?_
  · split <;> exact Stl.pure _
  · split
    · refine Stl.bind (Stl.bind (Stl.info t) fun i => Stl.pure _) fun n => Stl.bind (Stl.cells a n 0 _) fun cs => Stl.pure _
    · exact Stl.load _ _

/-! ### Results -/
theorem mapM_arr {α β : Type} (f : α → Sem β) (xs : Array α) : (xs.mapM f) = (do let l ← xs.toList.mapM f; pure l.toArray) := by
  obtain ⟨l⟩ := xs
  rw [List.mapM_toArray, map_eq_pure_bind]
theorem sim_resL {a : AAct} {ca : Act} : ∀ (l : List ResultVar) (E : Env) (H : (Nat → Option Obj) → Prop), (∀ i, VR E (a.val i) (ca.tmps.getD i undef)) → Sim P lo w0 E H (resL P a l : M I (List Value)) (l.mapM fun
    | .tmp t => pure (ca.tmps.getD t undef)
    | .cell x t => do loadVar t (← asAddr (ca.tmps.getD x undef))) LR
  | [], E, H, ha => Sim.pure fun E1 hE => ⟨rfl, fun a c j h => by simp at h⟩
  | .tmp t :: l, E, H, ha => by
    rw [List.mapM_cons]
    refine Sim.left (b := ca.tmps.getD t undef) (fun w => rfl) (Sim.bind (sim_resL l E H ha) fun E1 vs cs hE hvs => Sim.pure fun E2 hE2 => ?_)
    refine ⟨by simp [hvs.1], fun x y j hx hy => ?_⟩
    rcases j with _ | j
    · simp only [List.getElem?_cons_zero, Option.some.injEq] at hx hy
      subst hx; subst hy
      exact (ha t).mono fun k x hk => hE2 k x (hE k x hk)
    · simp only [List.getElem?_cons_succ] at hx hy
      exact (hvs.2 x y j hx hy).mono hE2
  | .cell x t :: l, E, H, ha => by
    rw [List.mapM_cons]
    have hv := ha x
    refine Sim.bind (R := VR) (c := do loadVar t (← asAddr (ca.tmps.getD x undef))) ?_ fun E1 v v' hE hvv => Sim.bind (sim_resL l E1 noH fun i => (ha i).mono hE) fun E2 vs cs hE2 hvs => Sim.pure fun E3 hE3 => ?_
    · unfold loadA
      generalize ca.tmps.getD x undef = q at hv
      split
      · rename_i k o hk0
        rw [hk0] at hv
        cases hv with
        | ptr hk => exact Sim.left (b := _) (fun w => rfl) (sim_loadAt hk)
      · exact Sim.fail
    · refine ⟨by simp [hvs.1], fun x y j hx hy => ?_⟩
      rcases j with _ | j
      · simp only [List.getElem?_cons_zero, Option.some.injEq] at hx hy
        subst hx; subst hy
        exact hvv.mono fun k x hk => hE3 k x (hE2 k x hk)
      · simp only [List.getElem?_cons_succ] at hx hy
        exact (hvs.2 x y j hx hy).mono hE3
theorem stl_results (fn : Func) (tmps : Array Value) : Stl P (results fn tmps) := by
  unfold results
  refine Stl.bind ?_ fun vs => Stl.pure _
  rw [mapM_arr]
  refine Stl.bind ?_ fun vs => Stl.pure _
  induction fn.results.toList with
  | nil => exact Stl.pure _
  | cons r l ih =>
    rw [List.mapM_cons]
    refine Stl.bind ?_ fun v => Stl.bind ih fun vs => Stl.pure _
    cases r with
    | tmp t => exact Stl.pure _
    | cell x t =>
      refine Stl.bind ?_ fun a => Stl.var t a
      cases tmps.getD x undef <;> first | exact Stl.halt _ | skip
      rename_i p
      cases p with
      | some p => exact Stl.pure _
      | none => exact fun w v w' h => by simp [asAddr, runtimePanic] at h
theorem sim_resA {fn : Func} {a : AAct} {ca : Act} (ha : ∀ i, VR E (a.val i) (ca.tmps.getD i undef)) : Sim P lo w0 E noH (resA P fn a : M I Value) (results fn ca.tmps) VR := by
  unfold resA results
  rw [mapM_arr, bind_assoc]
  refine Sim.bind (sim_resL _ E _ ha) fun E1 vs cs hE hvs => ?_
  rw [pure_bind]
  obtain ⟨h1, h2⟩ := hvs
  split
  · rename_i v
    obtain ⟨c, rfl⟩ := List.length_eq_one_iff.1 h1.symm
    refine Sim.pure fun E2 hE2 => ?_
    have : VR E1 v c := h2 v c 0 rfl rfl
    simpa using this.mono hE2
  · rename_i vs hne
    refine Sim.pure fun E2 hE2 => ?_
    have hne' : ¬ cs.toArray.size = 1 := fun h => by
      simp at h
      obtain ⟨v, hv⟩ := List.length_eq_one_iff.1 (h1.trans h)
      exact hne v hv
    rw [dif_neg hne']
    exact .tuple (by simpa using h1) fun x y j hx hy => (h2 x y j (by simpa using hx) (by simpa using hy)).mono hE2

/-! ### Code -/
theorem Rel.below' {g : Nat → Option Obj} {w w' : World} (h : Rel P lo w0 E g w) (hb : Below w.heap.size w w') : Rel P lo w0 E g w' :=
  ⟨h.below.trans (hb.mono h.below.size), fun k o hk => by
    obtain ⟨b, r, co, h1, h2, h3⟩ := h.tie k o hk
    exact ⟨b, r, co, h1, by rw [hb.block b (Array.getElem?_eq_some_iff.1 h2).1]; exact h2, h3⟩, h.inj, h.own, h.old, h.kept⟩

theorem CodeP.same {ρ : Option Nat} {a : AAct} {x : AExit} {C : Option Nat → (Exit → Act → World → Prop) → Act → World → Prop} (h : ∀ E ca w Q ce ρ', ExR E x ce → Q ce ca w → C ρ' Q ca w) (hx : ∀ E, ∃ ce, ExR E x ce) : CodeP P lo w0 ρ (pure (x, a) : M I (AExit × AAct)) a C := by
  intro s e a' s' hr E g w ca Q ρ' hρ hR hA hF ha hQ
  obtain ⟨h1, rfl⟩ := pure_run hr
  cases h1
  obtain ⟨ce, hce⟩ := hx E
  exact h E ca w Q ce ρ' hce (hQ E ce ca w (.refl _ _) hce ha (by rw [merge_read hA (fun _ => rfl) (fun _ => rfl)]; exact hR))

theorem loop_ok {self : Self I} (hc : CodeOK P lo w0 self.code) (ρ : Option Nat) (c : Code) : ∀ (n : Nat) (a : AAct), CodeP P lo w0 ρ (loopA self ρ c n a) a (fun ρ' Q ca w => Code.roundsIn (fen ρ') 0 P c Q n ca w)
  | 0, a => fun s e a' s' hr => (fail_run hr).elim
  | n + 1, a => by
    intro s e a' s' hr E g w ca Q ρ' hρ hR hA hF ha hQ
    obtain ⟨⟨x, a1⟩, s1, h1, h2⟩ := bind_run hr
    have hle : St.Le I s1 s' := M.le _ _ _ _ h2
    show c.wpIn (fen ρ') 0 P _ ca w
    refine hc ρ c a s x a1 s1 h1 E g w ca _ ρ' hρ hR (hA.first hle) (hF.first hle.next) ha fun E1 ce ca1 w1 hx1 he1 ha1 hR1 => ?_
    obtain ⟨hA1, hF1, hX1, hm1⟩ := chain h1 hle hA hF hx1
    cases x with
    | normal =>
      cases ce <;> simp only [ExR] at he1 <;> first | exact he1.elim | skip
      exact loop_ok hc ρ c n a1 s1 e a' s' h2 E1 _ w1 ca1 Q ρ' (hρ.mono hx1.keep) hR1 hA1 hF1 ha1 fun E' ce ca' w' hx' he' ha' hR' => hQ E' ce ca' w' (hX1 E' hx') he' ha' (by rw [hm1] at hR'; exact hR')
    | exit id =>
      obtain ⟨h3, rfl⟩ := pure_run h2
      cases h3
      cases ce <;> simp only [ExR] at he1 <;> first | exact he1.elim | skip
      exact hQ E1 _ ca1 w1 hx1 he1 ha1 hR1
    | ret =>
      obtain ⟨h3, rfl⟩ := pure_run h2
      cases h3
      cases ce <;> simp only [ExR] at he1 <;> first | exact he1.elim | skip
      exact hQ E1 _ ca1 w1 hx1 trivial ha1 hR1
    | panic v =>
      obtain ⟨h3, rfl⟩ := pure_run h2
      cases h3
      cases ce <;> simp only [ExR] at he1 <;> first | exact he1.elim | skip
      exact hQ E1 _ ca1 w1 hx1 he1 ha1 hR1

theorem stepR_scope {b : Frame} {a : Act} {k : List Item} {cs : List Frame} {w : World} {c : Code} : step P (lone (b.atR a (.code (.scope c) :: k)) cs w) = .next (lone (b.atR a (.code c :: .inScope c :: k)) cs w) :=
  step_lone_go (by simp [stepG, stepG.exec, Frame.atR])
theorem stepR_inScope {b : Frame} {a : Act} {k : List Item} {cs : List Frame} {w : World} {c : Code} : step P (lone (b.atR a (.inScope c :: k)) cs w) = .next (lone (b.atR a k) cs w) :=
  step_lone_go (by simp [stepG, stepG.exec, Frame.atR])
theorem wpIn_scope_straight {F : Fence} {n : Nat} {Q : Exit → Act → World → Prop} {a : Act} {w : World} {c : Code} (h : c.wpIn F n P (Exit.noGoto Q) a w) : (Code.scope c).wpIn F n P Q a w := by
  intro b k cs hro hb hr
  obtain ⟨e, a₁, w₁, hq, harr⟩ := h b (.inScope c :: k) cs hro hb hr
  have s0 : StepsIn (Machine.fenced P F) P (lone (b.atR a (.code (.scope c) :: k)) cs w) (lone (b.atR a (.code c :: .inScope c :: k)) cs w) := .one (fenced_calm hb hr rfl) stepR_scope
  cases e with
  | normal => exact ⟨.normal, a₁, w₁, hq, StepsIn.trans s0 (StepsIn.trans harr (.one (fenced_calm hb hr rfl) stepR_inScope))⟩
  | exit id =>
    have hx : exitTo id (.inScope c :: k) = exitTo id k := by simp [exitTo]
    exact ⟨.exit id, a₁, w₁, hq, fun k' hk => StepsIn.trans s0 (harr.1 k' (by rw [hx]; exact hk)), fun hr' hk => let ⟨k₁, h1, h2⟩ := harr.2 hr' (by rw [hx]; exact hk); ⟨k₁, h1, StepsIn.trans s0 h2⟩⟩
  | goto l => exact hq.elim
  | ret => exact ⟨_, a₁, w₁, hq, .of_steps s0 harr⟩
  | panic ch => exact ⟨_, a₁, w₁, hq, .of_steps s0 harr⟩
  | outgrown => exact ⟨_, a₁, w₁, hq, .of_steps s0 harr⟩
/-- A new block. -/
theorem new_ok {o co : Obj} {k : Nat} {s s1 : St μ} (h : (new o : M I Nat).run s = some (k, s1)) {E : Env} {g : Nat → Option Obj} {w : World} (hR : Rel P lo w0 E g w) (hA : Agree I s s1 g) (hF : Fresh s s1 E)
    (ho : ∀ E', (∀ i x, E i = some x → E' i = some x) → OR P E' 0 o co) : ∃ E1, Env.Ext E E1 s.next s1.next ∧ E1 k = some (w.heap.size, 0) ∧ Rel P lo w0 E1 (merge I s1 g) (w.alloc co) := by
  obtain ⟨rfl, e2, e3, e4, e5, e6⟩ := new_run h
  have hk : E s.next = none := hF s.next (Nat.le_refl _) (by omega)
  refine ⟨E.put s.next w.heap.size 0, ⟨Env.put_keep hk, fun i hi => ?_⟩, by simp [Env.put], ?_⟩
  · by_cases e : i = s.next
    · subst e; exact .inr ⟨Nat.le_refl _, by omega⟩
    · simp [Env.put, e] at hi; exact .inl (by simpa using hi)
  · rw [merge_write hA e5 e6]
    refine hR.name hk (hR.alloc _) hR.below.size (alloc_heap w _) (fun i _ hi => Below.heap_alloc w _ i hi) (fun i o' r' hi he => ?_) (ho _ (Env.put_keep hk))
    exact absurd (hR.lt hi he) (Nat.lt_irrefl _)
theorem tmpsOf_rel {E : Env} {a : AAct} {ca : Act} (ha : ActR E a ca) : ARl E (tmpsOf a) ca.tmps := by
  refine ⟨by simp [tmpsOf, ha.size], fun x y j hx hy => ?_⟩
  have hj : j < ca.tmps.size := (Array.getElem?_eq_some_iff.1 hy).1
  have h1 := ha.val j
  have h2 : ca.tmps.getD j undef = y := by simp [Array.getD_eq_getD_getElem?, hy]
  have h3 : x = a.val j := by
    unfold tmpsOf at hx
    rw [List.getElem?_toArray, List.getElem?_map] at hx
    have hj' : j < a.n := by rw [← ha.size]; exact hj
    rw [List.getElem?_range hj'] at hx
    simpa using hx.symm
  rw [h3, ← h2]; exact h1
theorem enter_ok {ρ ρ' : Option Nat} {a : AAct} {ca : Act} {ps : Array Tmp} {as b : Code} {l : Nat} {mark : List Deferred} {s s1 : St μ} (h : (enterLoopA ρ a ps as b : M I (Nat × List Deferred)).run s = some ((l, mark), s1)) {E : Env} {g : Nat → Option Obj} {w : World}
    (hρ : RhoR E ρ ρ') (hR : Rel P lo w0 E g w) (hA : Agree I s s1 g) (hF : Fresh s s1 E) (ha : ActR E a ca) (fn : FuncId) :
    ∃ E1 bl mark' w1, (Instr.enterLoop fn ca.tmps ps as b ρ').run P w = .ok (bl, mark') w1 ∧ Env.Ext E E1 s.next s1.next ∧ (∃ q, E1 l = some (bl, q)) ∧ ActR E1 (marked a mark) { ca with defers := mark' ++ ca.defers } ∧ Rel P lo w0 E1 (merge I s1 g) w1 := by
  unfold enterLoopA at h
  cases ρ with
  | none =>
    cases ρ' with
    | some x => exact hρ.elim
    | none =>
    simp only at h
    obtain ⟨r, s2, h1, h2⟩ := bind_run h
    obtain ⟨l', s3, h3, h4⟩ := bind_run h2
    obtain ⟨h5, rfl⟩ := pure_run h4
    cases h5
    have l1 := (new (I := I) (.deferred (some []))).le _ _ _ h1
    have l2 := M.le _ _ _ _ h3
    obtain ⟨E1, x1, k1, R1⟩ := new_ok h1 hR (hA.first l2) (hF.first l2.next) (co := .deferred (some [])) (fun _ _ => .collected)
    obtain ⟨hA1, hF1, hX1, hm1⟩ := chain h1 l2 hA hF x1
    have ht := tmpsOf_rel (ha.mono x1.keep)
    obtain ⟨E2, x2, k2, R2⟩ := new_ok h3 R1 hA1 hF1 (co := .loop { state := .ready, pending := none, fn, tmps := ca.tmps, params := ps, assign := as, body := b, defers := w.heap.size })
      (fun E' hE' => .loop rfl rfl rfl rfl rfl ht.1 (fun a c j h1 h2 => (ht.2 a c j h1 h2).mono hE') (hE' _ _ k1))
    have hx := hX1 E2 x2
    refine ⟨E2, _, _, _, run_enterLoop_outer fn ca.tmps ps as b, hx, ⟨0, by rw [k2, World.size_alloc]⟩, ?_, by rw [hm1] at R2; exact R2⟩
    have hm := ha.mono hx.keep
    refine ⟨hm.size, hm.val, by simp [marked, hm.len], fun j d d' hd hd' => ?_⟩
    rcases j with _ | j
    · simp [marked] at hd hd'
      subst hd hd'
      exact .inr ⟨_, _, 0, rfl, rfl, x2.keep _ _ k1⟩
    · simp [marked] at hd hd'
      exact hm.defers j d d' hd hd'
  | some k =>
    cases ρ' with
    | none => exact hρ.elim
    | some bk =>
    obtain ⟨q, hq⟩ := hρ
    simp only at h
    obtain ⟨ob, s2, h1, h2⟩ := bind_run h
    cases ob with
    | loop r0 =>
      simp only at h2
      obtain ⟨l', s3, h3, h4⟩ := bind_run h2
      obtain ⟨h5, rfl⟩ := pure_run h4
      cases h5
      obtain ⟨e1, e2, e3, e4, e5⟩ := rd_run h1
      have l2 := M.le _ _ _ _ h3
      have hm : merge I s2 g = g := merge_read (hA.first l2) (fun k => by rw [e4]) (fun k => by rw [e3])
      have l1 := (rd (I := I) k).le _ _ _ h1
      have hA1 : Agree I s2 s1 g := by have := hA.second l1 l2; rwa [hm] at this
      have hF1 : Fresh s2 s1 E := fun i h1 h2 => hF i (by omega) h2
      have hg : g k = some (.loop r0) := by rw [hA k (by rw [l2.T k e5, Bool.true_or]), e1]
      obtain ⟨y, q', y0, y1, y2, y3, y4, y5, y6, y7⟩ := rd_loop hR hg hq
      have ht := tmpsOf_rel ha
      obtain ⟨E2, x2, k2, R2⟩ := new_ok h3 hR hA1 hF1 (co := .loop { state := .ready, pending := none, fn, tmps := ca.tmps, params := ps, assign := as, body := b, defers := y.defers })
        (fun E' hE' => .loop rfl rfl rfl rfl rfl ht.1 (fun a c j h1 h2 => (ht.2 a c j h1 h2).mono hE') (hE' _ _ y7))
      have hx : Env.Ext E E2 s.next s1.next := ⟨x2.keep, fun i hi => (x2.dom i hi).imp id fun h => by rw [e2] at h; exact h⟩
      refine ⟨E2, _, _, _, run_enterLoop_inner y0 fn ca.tmps ps as b, hx, ⟨0, k2⟩, ?_, R2⟩
      have hm := ha.mono hx.keep
      exact ⟨hm.size, hm.val, by simp [marked, hm.len], fun j d d' hd hd' => hm.defers j d d' (by simpa [marked] using hd) (by simpa using hd')⟩
    | _ => exact (fail_run h2).elim
theorem range_ok {X : Hk} (H : Plain P X w0.w) {self : Self I} (hk : CallOK P lo w0 self.call) {ρ : Option Nat} (g0 : Operand) (ps : Array Tmp) (as b : Code) (a : AAct) : CodeP P lo w0 ρ (rangeA' X lo self ρ g0 ps as b a) a (fun ρ' Q ca w => (Code.rangeFunc g0 ps as b).wpIn (fen ρ') 0 P Q ca w) := by
  intro s e a' s' hr E g w ca Q ρ' hρ hR hA hF ha hQ
  unfold rangeA' at hr
  obtain ⟨⟨l, mark⟩, s1, h1, h2⟩ := bind_run hr
  have hle : St.Le I s1 s' := M.le _ _ _ _ h2
  unfold rangeB at h2
  split at h2
  · rename_i f first cap hv
    cases hx : X.X f with
    | false => rw [hx] at h2; exact (fail_run h2).elim
    | true =>
      rw [hx, cond_true] at h2
      obtain ⟨en, s2, h3, h4⟩ := bind_run h2
      have hle2 : St.Le I s2 s' := M.le _ _ _ _ h4
      obtain ⟨fn', f1, f2, f3⟩ := H.x f hx
      have f3' : fn'.body ≠ none := fun e => by rw [e] at f3; cases f3
      have f2' : ¬ fn'.name = "runtime.NumGoroutine" := by simpa using f2
      have hvr := ha.ev (lo := lo) hR.old _ _ hv
      generalize hq : ca.eval g0 = gv at hvr
      cases hvr with
      | @func _ _ _ cs ds g1 g2 g3 g4 =>
        refine wpIn_rangeFunc fun fn _ => ?_
        obtain ⟨E1, bl, mark', w1, hrun, x1, ⟨q, hq1⟩, ha1, R1⟩ := enter_ok (ρ' := ρ') h1 hρ hR (hA.first hle) (hF.first hle.next) ha fn
        obtain ⟨hA1, hF1, hX1, hm1⟩ := chain h1 hle hA hF x1
        refine ⟨bl, mark', w1, { target := .fn (.func f) ds, args := cs ++ #[.func (.yield bl) #[] #[]] }, w1, f, cs ++ #[.func (.yield bl) #[] #[]] ++ ds, w1, hrun, ?_, fun _ _ => trivial, ?_, fen_depth, callsIn_fen ?_⟩
        · have hc : ca.eval (.const (.func (.yield bl) #[] #[])) = .func (.yield bl) #[] #[] := rfl
          simp [resolve, hq, hc, Deferred.ofValue]
        · simp [invoke, callFunc, f1, f2', f3']
        · have hargs : ARl E1 (first ++ #[.func (.yield l) #[] #[]] ++ cap) (cs ++ #[.func (.yield bl) #[] #[]] ++ ds) :=
            ARl.append (ARl.append (ARl.mono x1.keep ⟨g1, g2⟩) ⟨rfl, fun x y j hx hy => by
              rcases j with _ | j
              · simp at hx hy; subst hx hy; exact .yield hq1
              · simp at hx⟩) (ARl.mono x1.keep ⟨g3, g4⟩)
          refine (hk f _ s1 en s2 h3 E1 _ w1 _ R1 (hA1.first hle2) (hF1.first hle2.next) hargs).mono fun e2 w2 ⟨E2, x2, hen, R2⟩ => ?_
          obtain ⟨hA2, hF2, hX2, hm2⟩ := chain h3 hle2 hA1 hF1 x2
          have ha2 := ha1.mono x2.keep
          have hq2 := x2.keep _ _ hq1
          unfold afterRange at h4
          cases en with
          | panic v =>
            cases e2 with
            | returned v' => exact hen.elim
            | outgrown => exact hen.elim
            | panicked c =>
              simp only at h4
              obtain ⟨h5, rfl⟩ := pure_run h4
              cases h5
              exact hQ E2 (.panic c) _ w2 (hX1 E2 x2) hen ha2 (by rw [hm1] at R2; exact R2)
          | ret v =>
            cases e2 with
            | panicked c => exact hen.elim
            | outgrown => exact hen.elim
            | returned v' =>
              simp only at h4
              obtain ⟨jump, s3, h5, h6⟩ := bind_run h4
              have hle3 : St.Le I s3 s' := M.le _ _ _ _ h6
              unfold endLoopA at h5
              obtain ⟨ob, s4, h7, h8⟩ := bind_run h5
              cases ob with
              | loop r =>
                simp only at h8
                have hst : r.state ≠ .busy := fun e => by rw [e] at h8; exact (fail_run h8).elim
                have h8' : (wr lo l (some (.loop { r with state := .exhausted })) >>= fun _ => pure r.pending : M I (Option Code)).run s4 = some (jump, s3) := by
                  cases hs : r.state <;> rw [hs] at h8 <;> first | exact absurd hs hst | exact h8
                obtain ⟨u, s5, h9, h10⟩ := bind_run h8'
                obtain ⟨h11, rfl⟩ := pure_run h10
                have hgr : merge I s2 (merge I s1 g) l = some (.loop r) := by
                  obtain ⟨e1', e2', e3', e4', e5'⟩ := rd_run h7
                  have l6 := M.le _ _ _ _ h9
                  rw [(hA2.first hle3) l (by rw [l6.T l e5', Bool.true_or]), e1']
                obtain ⟨y, q', y0, y1, y2, y3, y4, y5, y6, y7⟩ := rd_loop R2 hgr hq2
                obtain ⟨n1, R3⟩ := loop_wr h7 h9 R2 (hA2.first hle3) hq2 y0 (y' := { y with state := .exhausted }) (fun q => .loop rfl y2 y3 y4 y5 y6.1 y6.2 y7)
                have x3 : Env.Ext E2 E2 s2.next s3.next := ⟨fun _ _ h => h, fun _ h => .inl h⟩
                obtain ⟨hA3, hF3, hX3, hm3⟩ := chain h5 hle3 hA2 hF2 x3
                refine ⟨y.pending, _, run_endLoop y0 (by rw [y1]; exact hst), ?_⟩
                rw [y2, ← h11]
                rw [y2, ← h11] at R3
                have hmm : merge I s3 (merge I s2 (merge I s1 g)) = merge I s3 g := by rw [merge_merge _ (M.le _ _ _ _ h5), merge_merge _ ((M.le _ _ _ _ h3).trans (M.le _ _ _ _ h5))]
                rw [hmm] at R3
                unfold jumpA at h6
                split at h6
                · obtain ⟨j1, rfl⟩ := pure_run h6
                  cases j1
                  exact hQ E2 .normal _ _ (hX1 E2 (hX2 E2 x3)) trivial ha2 R3
                · obtain ⟨j1, rfl⟩ := pure_run h6
                  cases j1
                  exact wpIn_ret (hQ E2 .ret _ _ (hX1 E2 (hX2 E2 x3)) trivial ha2 R3)
                · obtain ⟨j1, rfl⟩ := pure_run h6
                  cases j1
                  exact wpIn_exit (hQ E2 (.exit _) _ _ (hX1 E2 (hX2 E2 x3)) rfl ha2 R3)
                · exact (fail_run h6).elim
              | _ => exact (fail_run h8).elim
  · exact (fail_run h2).elim
theorem code_ok (hm : P.follows .mixedOrders = true) {X : Hk} (H : Plain P X w0.w) {self : Self I} (hc : CodeOK P lo w0 self.code) (hk : CallOK P lo w0 self.call) : CodeOK P lo w0 (codeStep P X lo self) := by
  intro ρ c a
  cases c with
  | skip => exact CodeP.same (fun E ca w Q ce _ he hq => by cases ce <;> simp only [ExR] at he <;> first | exact he.elim | exact wpIn_skip hq) (fun E => ⟨.normal, trivial⟩)
  | label l => exact CodeP.same (fun E ca w Q ce _ he hq => by cases ce <;> simp only [ExR] at he <;> first | exact he.elim | exact wpIn_label hq) (fun E => ⟨.normal, trivial⟩)
  | ret => exact CodeP.same (fun E ca w Q ce _ he hq => by cases ce <;> simp only [ExR] at he <;> first | exact he.elim | exact wpIn_ret hq) (fun E => ⟨.ret, trivial⟩)
  | exit id => exact CodeP.same (fun E ca w Q ce _ he hq => by cases ce <;> simp only [ExR] at he <;> first | exact he.elim | (subst he; exact wpIn_exit hq)) (fun E => ⟨.exit id, rfl⟩)
  | seq x y =>
    intro s e a' s' hr E g w ca Q ρ' hρ hR hA hF ha hQ
    obtain ⟨⟨x1, a1⟩, s1, h1, h2⟩ := bind_run hr
    have hle : St.Le I s1 s' := M.le _ _ _ _ h2
    refine wpIn_seq (hc ρ x a s x1 a1 s1 h1 E g w ca _ ρ' hρ hR (hA.first hle) (hF.first hle.next) ha fun E1 ce ca1 w1 hx1 he1 ha1 hR1 => ?_)
    obtain ⟨hA1, hF1, hX1, hm1⟩ := chain h1 hle hA hF hx1
    cases x1 with
    | normal =>
      cases ce <;> simp only [ExR] at he1 <;> first | exact he1.elim | skip
      exact hc ρ y a1 s1 e a' s' h2 E1 _ w1 ca1 Q ρ' (hρ.mono hx1.keep) hR1 hA1 hF1 ha1 fun E' ce ca' w' hx' he' ha' hR' => hQ E' ce ca' w' (hX1 E' hx') he' ha' (by rw [hm1] at hR'; exact hR')
    | exit id =>
      obtain ⟨h3, rfl⟩ := pure_run h2
      cases h3
      cases ce <;> simp only [ExR] at he1 <;> first | exact he1.elim | skip
      exact hQ E1 _ ca1 w1 hx1 he1 ha1 hR1
    | ret =>
      obtain ⟨h3, rfl⟩ := pure_run h2
      cases h3
      cases ce <;> simp only [ExR] at he1 <;> first | exact he1.elim | skip
      exact hQ E1 _ ca1 w1 hx1 trivial ha1 hR1
    | panic v =>
      obtain ⟨h3, rfl⟩ := pure_run h2
      cases h3
      cases ce <;> simp only [ExR] at he1 <;> first | exact he1.elim | skip
      exact hQ E1 _ ca1 w1 hx1 he1 ha1 hR1
  | cond c x y =>
    intro s e a' s' hr E g w ca Q ρ' hρ hR hA hF ha hQ
    change (condA lo self ρ c x y a).run s = _ at hr
    unfold condA at hr
    split at hr
    · rename_i b hb
      have hv := ha.ev (lo := lo) hR.old _ _ hb
      generalize hq : ca.eval c = q at hv
      cases hv
      refine wpIn_cond hq ?_
      cases b with
      | true => exact hc ρ x a s e a' s' hr E g w ca Q ρ' hρ hR hA hF ha hQ
      | false => exact hc ρ y a s e a' s' hr E g w ca Q ρ' hρ hR hA hF ha hQ
    · exact (fail_run hr).elim
  | block id b =>
    intro s e a' s' hr E g w ca Q ρ' hρ hR hA hF ha hQ
    obtain ⟨⟨x1, a1⟩, s1, h1, h2⟩ := bind_run hr
    have hle : St.Le I s1 s' := M.le _ _ _ _ h2
    refine wpIn_block (hc ρ b a s x1 a1 s1 h1 E g w ca _ ρ' hρ hR (hA.first hle) (hF.first hle.next) ha fun E1 ce ca1 w1 hx1 he1 ha1 hR1 => ?_)
    cases x1 with
    | normal =>
      obtain ⟨h3, rfl⟩ := pure_run h2
      cases h3
      cases ce <;> simp only [ExR] at he1 <;> first | exact he1.elim | skip
      exact hQ E1 _ ca1 w1 hx1 trivial ha1 hR1
    | exit j =>
      cases ce <;> simp only [ExR] at he1 <;> first | exact he1.elim | skip
      subst he1
      change (bif Nat.beq j id then (pure (.normal, a1) : M I (AExit × AAct)) else pure (.exit j, a1)).run s1 = _ at h2
      cases hb : Nat.beq j id with
      | true =>
        rw [hb] at h2
        obtain ⟨h3, rfl⟩ := pure_run h2
        cases h3
        have := Nat.eq_of_beq_eq_true hb
        subst this
        show (if j = j then Q .normal ca1 w1 else Q (.exit j) ca1 w1)
        rw [if_pos rfl]
        exact hQ E1 .normal ca1 w1 hx1 trivial ha1 hR1
      | false =>
        rw [hb] at h2
        obtain ⟨h3, rfl⟩ := pure_run h2
        cases h3
        have hne : j ≠ id := fun e => by subst e; simp at hb
        show (if j = id then Q .normal ca1 w1 else Q (.exit j) ca1 w1)
        rw [if_neg hne]
        exact hQ E1 (.exit j) ca1 w1 hx1 rfl ha1 hR1
    | ret =>
      obtain ⟨h3, rfl⟩ := pure_run h2
      cases h3
      cases ce <;> simp only [ExR] at he1 <;> first | exact he1.elim | skip
      exact hQ E1 _ ca1 w1 hx1 trivial ha1 hR1
    | panic v =>
      obtain ⟨h3, rfl⟩ := pure_run h2
      cases h3
      cases ce <;> simp only [ExR] at he1 <;> first | exact he1.elim | skip
      exact hQ E1 _ ca1 w1 hx1 he1 ha1 hR1
  | loop b =>
    intro s e a' s' hr E g w ca Q ρ' hρ hR hA hF ha hQ
    exact wpIn_loop_rounds 1000000 (loop_ok hc ρ b 1000000 a s e a' s' hr E g w ca Q ρ' hρ hR hA hF ha hQ)
  | scope b =>
    intro s e a' s' hr E g w ca Q ρ' hρ hR hA hF ha hQ
    refine wpIn_scope_straight (hc ρ b a s e a' s' hr E g w ca _ ρ' hρ hR hA hF ha fun E' ce ca' w' hx' he' ha' hR' => ?_)
    have := hQ E' ce ca' w' hx' he' ha' hR'
    cases ce with
    | goto l => cases e <;> exact he'.elim
    | normal => exact this
    | exit i => exact this
    | ret => exact this
    | panic c => exact this
    | outgrown => exact this
  | region id ops draw =>
    cases draw with
    | false =>
      intro s e a' s' hr E g w ca Q ρ' hρ hR hA hF ha hQ
      exact wpIn_region_list (opsSeq_ok H hc hk ops.toList a s e a' s' hr E g w ca Q ρ' hρ hR hA hF ha hQ)
    | true =>
      intro s e a' s' hr E g w ca Q ρ' hρ hR hA hF ha hQ
      exact wpIn_region_any hm (drawL_ok (H := H) hc hk a s e a' s' hr E g w.drew ca Q ρ' hρ (rel_drew hR) hA hF ha hQ)
  | rangeFunc g ps as b => exact range_ok H hk g ps as b a
  | goto l => exact fun s e a' s' hr => (fail_run hr).elim
  | refuse why => exact fun s e a' s' hr => (fail_run hr).elim

/-- The calls that are known by a contract do what is said of them. -/
def HookOK (P : Program) (lo : Lim) (w0 : Bs) (K : Hook I) : Prop := ∀ h, K = some h → ∀ f args m, h f args = some m → ∀ s r s', m.run s = some (r, s') → ∀ E g w cargs, Rel P lo w0 E g w → Agree I s s' g → Fresh s s' E → ARl E args cargs →
  Calls P f cargs w fun e w' => ∃ E', Env.Ext E E' s.next s'.next ∧ EnR E' r e ∧ Rel P lo w0 E' (merge I s' g) w'
end Go.Am

/- The abstract evaluator: what is deferred, and what is caught. Conditions: none. -/
namespace Go.Am
open Go Go.RowKit
set_option linter.unusedVariables false
set_option linter.unusedSimpArgs false
noncomputable section
variable {μ : Type} {I : MemI μ} {P : Program} {lo : Lim} {w0 : Bs} {E : Env}

/-- How a frame is being left: it answers, or it panics (and may be caught). -/
inductive AMd where
  | ret
  | panic (v : Value) (caught : Bool)
def AMd.settle : AMd → AMd
  | .panic _ true => .ret
  | m => m
def MdR (E : Env) : AMd → FrameMode → Prop
  | .ret, .returning => True
  | .panic v c, .panicking ch => ∃ v', ch = [{ v := v', recovered := c }] ∧ VR E v v'
  | _, _ => False
theorem MdR.mono {E E' : Env} (hE : ∀ k x, E k = some x → E' k = some x) {u : AMd} {m : FrameMode} (h : MdR E u m) : MdR E' u m := by
  cases u <;> cases m <;> first | exact h.elim | trivial | skip
  obtain ⟨v', h1, h2⟩ := h
  exact ⟨v', h1, h2.mono hE⟩
theorem MdR.settle {u : AMd} {m : FrameMode} (h : MdR E u m) : MdR E u.settle (Go.settle m) := by
  cases u <;> cases m <;> first | exact h.elim | trivial | skip
  rename_i v c ch
  obtain ⟨v', rfl, h2⟩ := h
  cases c with
  | true => exact trivial
  | false => exact ⟨v', rfl, h2⟩

def isRec (o : Oper) : Bool := match o.op with
  | .call c => match c.callee with
    | .builtin .recover => true
    | _ => false
  | _ => false
abbrev SRes := (AExit × AAct) × AMd
def thenS (k : AAct → AMd → M I SRes) (u : AMd) (r : AExit × AAct) : M I SRes := match r with
  | (.normal, a1) => k a1 u
  | r => pure (r, u)
def recA (o : Oper) (k : AAct → AMd → M I SRes) (a : AAct) (u : AMd) : M I SRes := match u with
  | .panic v false => putA' a o.dst v >>= fun a1 => k a1 (.panic v true)
  | u => putA' a o.dst .nilIface >>= fun a1 => k a1 u
def afterSC (a : AAct) (o : Oper) (k : AAct → AMd → M I SRes) (u : AMd) (e : AEnd) : M I SRes := match e with
  | .ret v => putA' a o.dst v >>= fun a1 => k a1 u
  | .panic v => pure ((.panic v, a), u)
def afterS (self : Self I) (a : AAct) (o : Oper) (k : AAct → AMd → M I SRes) (u : AMd) (r : OpRes) : M I SRes := match r with
  | .val v => putA' a o.dst v >>= fun a1 => k a1 u
  | .call f args => self.call f args >>= afterSC a o k u
  | _ => fail
def opsS (P : Program) (X : Hk) (lo : Lim) (self : Self I) (ops : Array Oper) : List Oper → AAct → AMd → M I SRes
  | [], a, u => pure ((.normal, a), u)
  | o :: rest, a, u => bif wantedA ops a o then (bif isRec o then recA o (opsS P X lo self ops rest) a u else stepOp P X lo (evA lo a) o >>= afterS self a o (opsS P X lo self ops rest) u) else putA' a o.dst undef >>= fun a1 => opsS P X lo self ops rest a1 u
def keepS (u : AMd) (r : AExit × AAct) : M I SRes := pure (r, u)
def thenU (k : AAct → AMd → M I SRes) (r : SRes) : M I SRes := match r with
  | ((.normal, a1), u1) => k a1 u1
  | r => pure r
/-- A body that is called as it was deferred. -/
def codeS (P : Program) (X : Hk) (lo : Lim) (self : Self I) : Code → AAct → AMd → M I SRes
  | .seq x y, a, u => codeS P X lo self x a u >>= thenU (codeS P X lo self y)
  | .region _ ops false, a, u => opsS P X lo self ops ops.toList a u
  | c, a, u => self.code none c a >>= keepS u
def bodyS (r : SRes) : M I AMd := match r with
  | ((.normal, ⟨_, _, []⟩), u) => pure u
  | ((.ret, ⟨_, _, []⟩), u) => pure u
  | _ => fail
def frameA (args : Array Value) (fn : Func) : AAct := ⟨args.size + (fn.ntmps - args.size), fillT args.toList 0 .leaf, []⟩
/-- A call of what was deferred. -/
def callDA (P : Program) (X : Hk) (lo : Lim) (self : Self I) (f : FuncId) (args : Array Value) (u : AMd) : M I AMd := match P.funcs[f]? with
  | some fn => match fn.body with
    | some c => bif Nat.blt args.size 4000 && fn.results.isEmpty then codeS P X lo self c (frameA args fn) u >>= bodyS else fail
    | none => fail
  | none => fail
def endA (P : Program) (fn : Func) (a : AAct) (u : AMd) : M I AEnd := match u with
  | .ret => resA P fn a >>= fun v => pure (.ret v)
  | .panic v false => pure (.panic v)
  | _ => fail
def shutA (lo : Lim) (k : Nat) : M I Unit := rd k >>= fun o => match o with
  | .deferred (some []) => wr lo k (some (.deferred none))
  | _ => fail
def leavesA (P : Program) (X : Hk) (lo : Lim) (self : Self I) (fn : Func) (a : AAct) : List Deferred → AMd → M I AEnd
  | [], u => endA P fn a u
  | d :: ds, u => match d.target with
    | .fn (.func f) cap => bif X.X f then callDA P X lo self f (d.args ++ cap) u >>= fun u1 => leavesA P X lo self fn a ds u1.settle else fail
    | .collected k => shutA lo k >>= fun _ => leavesA P X lo self fn a ds u
    | _ => fail
def bodyD (P : Program) (X : Hk) (lo : Lim) (self : Self I) (fn : Func) (r : AExit × AAct) : M I AEnd := match r.1 with
  | .normal => leavesA P X lo self fn r.2 r.2.defers .ret
  | .ret => leavesA P X lo self fn r.2 r.2.defers .ret
  | .panic v => leavesA P X lo self fn r.2 r.2.defers (.panic v false)
  | _ => fail
def enterD (P : Program) (X : Hk) (lo : Lim) (self : Self I) (args : Array Value) (fn : Func) : M I AEnd := match fn.body with
  | some c => bif Nat.blt args.size 4000 then self.code none c (frameA args fn) >>= bodyD P X lo self fn else fail
  | none => fail
def bodyStepD (P : Program) (X : Hk) (lo : Lim) (self : Self I) (f : FuncId) (args : Array Value) : M I AEnd := match X.L f args.toList with
  | some v => pure (.ret v)
  | none => match P.funcs[f]? with
    | some fn => enterD P X lo self args fn
    | none => fail
def callStepD (P : Program) (X : Hk) (lo : Lim) (K : Hook I) (self : Self I) (f : FuncId) (args : Array Value) : M I AEnd := match K with
  | none => bodyStepD P X lo self f args
  | some h => match h f args with
    | some m => m
    | none => bodyStepD P X lo self f args
def evalD (P : Program) (X : Hk) (lo : Lim) (K : Hook I) : Nat → Self I
  | 0 => ⟨fun _ _ _ => fail, fun _ _ => fail⟩
  | n + 1 => ⟨codeStep P X lo (evalD P X lo K n), callStepD P X lo K (evalD P X lo K n)⟩
def runsD (P : Program) (X : Hk) (n : Nat) (f : FuncId) (args : Array Value) (p : Value → Bool) : Bool := match ((evalD (I := trieI) P X ⟨0, 0⟩ none n).call f args).run (st0 0) with
  | some (.ret v, _) => p v
  | _ => false

/-! ### Soundness -/
theorem frame_rel {args cargs : Array Value} {fn : Func} (hsz : args.size < 4000) (hargs : ARl E args cargs) : ActR E (frameA args fn) { tmps := cargs ++ Array.replicate (fn.ntmps - cargs.size) undef, defers := [] } := by
  unfold frameA
  refine ⟨by simp [hargs.1], fun i => ?_, rfl, fun j d d' h => by simp at h⟩
  unfold AAct.val
  simp only
  rw [fillT_get args.toList 0 .leaf i (by simp; omega)]
  simp only [Nat.zero_le, true_and, Nat.zero_add, Nat.sub_zero, Array.length_toList]
  by_cases hi : i < args.size
  · rw [if_pos hi]
    have hi' : i < cargs.size := by rw [← hargs.1]; exact hi
    have := hargs.2 args[i] cargs[i] i (by simp [hi]) (by simp [hi'])
    simpa [hi, hi', Array.getElem?_append] using this
  · rw [if_neg hi]
    have hi' : ¬ i < cargs.size := by rw [← hargs.1]; exact hi
    have : (cargs ++ Array.replicate (fn.ntmps - cargs.size) undef).getD i undef = undef := by
      simp [Array.getElem?_append, hi', Array.getElem?_replicate]
      split <;> rfl
    rw [this]
    exact VR.undef E
/-- What a body that was deferred promises. -/
def CodeSP (P : Program) (lo : Lim) (w0 : Bs) (m : M I SRes) (a : AAct) (u : AMd) (C : (Exit → Act → List Frame → World → Prop) → Act → List Frame → World → Prop) : Prop :=
  ∀ s e a' u' s', m.run s = some (((e, a'), u'), s') → ∀ E g w ca (c0 : Frame) (cs : List Frame) (um : FrameMode) Q, Rel P lo w0 E g w → Agree I s s' g → Fresh s s' E → ActR E a ca → MdR E u um →
    (∀ E' ce ca' (um' : FrameMode) w', Env.Ext E E' s.next s'.next → ExR E' e ce → ActR E' a' ca' → MdR E' u' um' → Rel P lo w0 E' (merge I s' g) w' → Q ce ca' ({ c0 with mode := um' } :: cs) w') →
    C Q ca ({ c0 with mode := um } :: cs) w
theorem sem_rec {o : Oper} (h : isRec o = true) (ρ : Operand → Value) (w : World) : (execOp ρ o).run P w = .ok .recover w := by
  unfold isRec at h
  split at h
  · rename_i c hc
    split at h
    · rename_i hb
      obtain ⟨callee, args, ts⟩ := c
      simp only at hb
      subst hb
      unfold execOp
      rw [hc]
      simp [resolve, invoke, builtin]
    · cases h
  · cases h

theorem opsS_ok {X : Hk} (hX : Plain P X w0.w) {self : Self I} (hc : CallOK P lo w0 self.call) {ops : Array Oper} : ∀ (is : List Nat) (l : List Oper), is.map (fun i => ops[i]?) = l.map some → ∀ (a : AAct) (u : AMd), CodeSP P lo w0 (opsS P X lo self ops l a u) a u (fun Q ca cs w => wpOpsS P ops Q is ca cs w)
  | [], [], _, a, u => by
    intro s e a' u' s' hr E g w ca c0 cs um Q hR hA hF ha hu hQ
    obtain ⟨h1, rfl⟩ := pure_run hr
    cases h1
    exact hQ E .normal ca um w (.refl _ _) trivial ha hu (by rw [merge_read hA (fun _ => rfl) (fun _ => rfl)]; exact hR)
  | [], _ :: _, h, a, u => by simp at h
  | _ :: _, [], h, a, u => by simp at h
  | i :: is, o :: rest, h, a, u => by
    intro s e a' u' s' hr E g w ca c0 cs um Q hR hA hF ha hu hQ
    simp only [List.map_cons, List.cons.injEq] at h
    obtain ⟨ho, h⟩ := h
    have hw := wantedA_eq (ops := ops) ha o
    unfold opsS at hr
    cases hwa : wantedA ops a o with
    | false =>
      rw [hwa] at hw
      simp only [hwa, cond_false] at hr
      obtain ⟨a1, s1, h1, h2⟩ := bind_run hr
      obtain ⟨rfl, ha1⟩ := ha.put (VR.undef E) h1
      unfold wpOpsS
      simp only [ho, hw, Bool.false_eq_true, if_false]
      exact opsS_ok hX hc is rest h a1 u _ e a' u' s' h2 E g w _ c0 cs um Q hR hA hF ha1 hu hQ
    | true =>
    rw [hwa] at hw
    simp only [hwa, cond_true] at hr
    cases hwr : isRec o with
    | true =>
      simp only [hwr, cond_true] at hr
      have hrec := sem_rec (P := P) hwr ca.eval w
      unfold wpOpsS
      simp only [ho, hw, if_true, hrec]
      have go : ∀ (v v' : Value) (u1 : AMd) (um1 : FrameMode), VR E v v' → MdR E u1 um1 → (putA' a o.dst v >>= fun a1 => opsS P X lo self ops rest a1 u1).run s = some (((e, a'), u'), s') → wpOpsS P ops Q is (ca.put o.dst v') ({ c0 with mode := um1 } :: cs) w := fun v v' u1 um1 hv hu1 hr => by
        obtain ⟨a1, s1, h1, h2⟩ := bind_run hr
        obtain ⟨rfl, ha1⟩ := ha.put hv h1
        exact opsS_ok hX hc is rest h a1 u1 _ e a' u' s' h2 E g w _ c0 cs um1 Q hR hA hF ha1 hu1 hQ
      have hnil : VR E .nilIface .nilIface := gnd_refl E 3 .nilIface rfl
      cases u with
      | ret =>
        cases um <;> first | exact (show False from hu).elim | skip
        exact go .nilIface .nilIface .ret .returning hnil trivial hr
      | panic v c =>
        cases um <;> first | exact (show False from hu).elim | skip
        obtain ⟨v', rfl, hv⟩ := hu
        cases c with
        | false => exact go v v' (.panic v true) (.panicking [{ v := v', recovered := true }]) hv ⟨v', rfl, hv⟩ hr
        | true => exact go .nilIface .nilIface (.panic v true) (.panicking [{ v := v', recovered := true }]) hnil ⟨v', rfl, hv⟩ hr
    | false =>
      simp only [hwr, cond_false] at hr
      obtain ⟨r, s1, h1, h2⟩ := bind_run hr
      have hle2 : St.Le I s1 s' := M.le _ _ _ _ h2
      have hev := ha.ev (lo := lo) hR.old
      obtain ⟨E1, nx, w1, hrun, hx1, hnr, hR1⟩ := sim_stepOp (lo := lo) (w0 := w0) (E := E) hX hev o s r s1 h1 E g w (fun _ _ h => h) hR (hA.first hle2) (hF.first hle2.next) trivial
      obtain ⟨hA1, hF1, hX1, hm1⟩ := chain h1 hle2 hA hF hx1
      have ha1 := ha.mono hx1.keep
      unfold wpOpsS
      simp only [ho, hw, if_true, hrun]
      cases r with
      | val v =>
        obtain ⟨a1, s2, h3, h4⟩ := bind_run h2
        have key : ∀ v', VR E1 v v' → wpOpsS P ops Q is (ca.put o.dst v') ({ c0 with mode := um } :: cs) w1 := fun v' hv' => by
          obtain ⟨rfl, ha2⟩ := ha1.put hv' h3
          exact opsS_ok hX hc is rest h a1 u _ e a' u' s' h4 E1 _ w1 _ c0 cs um Q hR1 hA1 hF1 ha2 (hu.mono hx1.keep) fun E' ce ca' um' w' q1 q2 q3 q4 q5 => hQ E' ce ca' um' w' (hX1 E' q1) q2 q3 q4 (by rw [hm1] at q5; exact q5)
        cases nx <;> simp only [NR] at hnr <;> first | exact hnr.elim | skip
        · exact key _ hnr
        · subst hnr; exact key _ (VR.undef E1)
      | call f args =>
        cases nx <;> simp only [NR] at hnr <;> first | exact hnr.elim | skip
        rename_i f' cs'
        obtain ⟨rfl, hargs⟩ := hnr
        obtain ⟨en, s2, h3, h4⟩ := bind_run h2
        have hle3 : St.Le I s2 s' := M.le _ _ _ _ h4
        refine (hc f args s1 en s2 h3 E1 _ w1 cs' hR1 (hA1.first hle3) (hF1.first hle3.next) hargs).mono fun e2 w2 ⟨E2, hx2, hen, hR2⟩ => ?_
        obtain ⟨hA2, hF2, hX2, hm2⟩ := chain h3 hle3 hA1 hF1 hx2
        have ha2 := ha1.mono hx2.keep
        cases en with
        | ret v =>
          cases e2 with
          | panicked c => exact hen.elim
          | outgrown => exact hen.elim
          | returned v' =>
          obtain ⟨a1, s3, h5, h6⟩ := bind_run h4
          obtain ⟨rfl, ha3⟩ := ha2.put hen h5
          exact opsS_ok hX hc is rest h a1 u _ e a' u' s' h6 E2 _ w2 _ c0 cs um Q hR2 hA2 hF2 ha3 ((hu.mono hx1.keep).mono hx2.keep) fun E' ce ca' um' w' q1 q2 q3 q4 q5 => hQ E' ce ca' um' w' (hX1 E' (hX2 E' q1)) q2 q3 q4 (by rw [hm2, hm1] at q5; exact q5)
        | panic v =>
          obtain ⟨h5, rfl⟩ := pure_run h4
          cases h5
          cases e2 with
          | panicked c => exact hQ E2 (.panic c) ca um w2 (hX1 E2 hx2) hen ha2 ((hu.mono hx1.keep).mono hx2.keep) (by rw [hm1] at hR2; exact hR2)
          | returned v' => exact hen.elim
          | outgrown => exact hen.elim
      | _ => exact (fail_run h2).elim
theorem codeS_ok {X : Hk} (hX : Plain P X w0.w) {self : Self I} (hcd : CodeOK P lo w0 self.code) (hc : CallOK P lo w0 self.call) : ∀ (c : Code) (a : AAct) (u : AMd), CodeSP P lo w0 (codeS P X lo self c a u) a u (fun Q ca cs w => c.wpS P Q ca cs w) := by
  have plain : ∀ (c : Code) (a : AAct) (u : AMd), CodeSP P lo w0 (self.code none c a >>= keepS u) a u (fun Q ca cs w => c.wpS P Q ca cs w) := fun c a u => by
    intro s e a' u' s' hr E g w ca c0 cs um Q hR hA hF ha hu hQ
    obtain ⟨⟨e1, a1⟩, s1, h1, h2⟩ := bind_run hr
    obtain ⟨q1, rfl⟩ := pure_run h2
    cases q1
    exact wpS_of_wp (wpIn_wide.1 (hcd none c a s _ _ _ h1 E g w ca _ none trivial hR hA hF ha fun E' ce ca' w' k1 k2 k3 k4 => hQ E' ce ca' um w' k1 k2 k3 (hu.mono k1.keep) k4))
  intro c
  induction c with
  | seq x y ihx ihy =>
    intro a u s e a' u' s' hr E g w ca c0 cs um Q hR hA hF ha hu hQ
    obtain ⟨⟨⟨e1, a1⟩, u1⟩, s1, h1, h2⟩ := bind_run (m := codeS P X lo self x a u) hr
    have hle : St.Le I s1 s' := M.le _ _ _ _ h2
    refine wpS_seq (ihx a u s e1 a1 u1 s1 h1 E g w ca c0 cs um _ hR (hA.first hle) (hF.first hle.next) ha hu fun E1 ce ca1 um1 w1 k1 k2 k3 k4 k5 => ?_)
    obtain ⟨hA1, hF1, hX1, hm1⟩ := chain h1 hle hA hF k1
    cases e1 with
    | normal =>
      cases ce <;> first | exact k2.elim | skip
      exact ihy a1 u1 s1 e a' u' s' h2 E1 _ w1 ca1 c0 cs um1 Q k5 hA1 hF1 k3 k4 fun E' ce ca' um' w' q1 q2 q3 q4 q5 => hQ E' ce ca' um' w' (hX1 E' q1) q2 q3 q4 (by rw [hm1] at q5; exact q5)
    | exit id =>
      obtain ⟨h3, rfl⟩ := pure_run h2
      cases h3
      cases ce <;> first | exact k2.elim | exact hQ E1 _ ca1 um1 w1 k1 k2 k3 k4 k5
    | ret =>
      obtain ⟨h3, rfl⟩ := pure_run h2
      cases h3
      cases ce <;> first | exact k2.elim | exact hQ E1 _ ca1 um1 w1 k1 k2 k3 k4 k5
    | panic v =>
      obtain ⟨h3, rfl⟩ := pure_run h2
      cases h3
      cases ce <;> first | exact k2.elim | exact hQ E1 _ ca1 um1 w1 k1 k2 k3 k4 k5
  | region id ops draw =>
    cases draw with
    | true => exact fun a u => plain _ a u
    | false =>
      intro a u s e a' u' s' hr E g w ca c0 cs um Q hR hA hF ha hu hQ
      refine wpS_region (opsS_ok hX hc (List.range ops.size) ops.toList ?_ a u s e a' u' s' hr E g w ca c0 cs um Q hR hA hF ha hu hQ)
      apply List.ext_getElem (by simp)
      intro i h1 h2
      simp at h1 h2
      simp [h1]
  | skip => exact fun a u => plain _ a u
  | cond c x y _ _ => exact fun a u => plain _ a u
  | block id b _ => exact fun a u => plain _ a u
  | loop b _ => exact fun a u => plain _ a u
  | rangeFunc f ps x y _ _ => exact fun a u => plain _ a u
  | exit id => exact fun a u => plain _ a u
  | scope b _ => exact fun a u => plain _ a u
  | label l => exact fun a u => plain _ a u
  | goto l => exact fun a u => plain _ a u
  | ret => exact fun a u => plain _ a u
  | refuse why => exact fun a u => plain _ a u

theorem res_empty {fn : Func} (h : fn.results.isEmpty = true) (tmps : Array Value) (w : World) : (results fn tmps).run P w = .ok (.tuple #[]) w := by
  have : fn.results = #[] := by simpa using h
  unfold results
  rw [this]
  simp
theorem callsDIn_mono {F : Fence} {n : Nat} {f : FuncId} {args : Array Value} {u : FrameMode} {w : World} {R R' : Ending → FrameMode → World → Prop} (h : CallsDIn F n P f args u w R) (hr : ∀ e u w, R e u w → R' e u w) : CallsDIn F n P f args u w R' :=
  ⟨h.1, fun c cs hc hroom => let ⟨e, u', w', fr, r, s, x⟩ := h.2 c cs hc hroom; ⟨e, u', w', fr, hr _ _ _ r, s, x⟩⟩
theorem callsDF_of_wpS {f : FuncId} {fn : Func} {c : Code} {args : Array Value} {u : FrameMode} {w : World} {R : Ending → FrameMode → World → Prop}
    (hf : P.funcs[f]? = some fn) (hb : fn.body = some c)
    (h : ∀ (c₀ : Frame) (cs : List Frame), c₀.mode = u →
      c.wpS P (bodyPostS P fn c₀ cs R) { tmps := args ++ Array.replicate (fn.ntmps - args.size) undef, defers := [] } (c₀ :: cs) w) :
    CallsDIn (fen none) (0 - 1) P f args u w R := by
  refine ⟨trivial, fun c₀ cs hu _ => ?_⟩
  let b : Frame := { (default : Frame) with fn := f, kind := .deferred }
  have henter : Frame.enter P f args .deferred =
      b.at { tmps := args ++ Array.replicate (fn.ntmps - args.size) undef, defers := [] } [.code c] := by
    simp [Frame.enter, Frame.at, hf, hb, b]
  obtain ⟨e, a', cs', w', hq, harr⟩ := h c₀ cs hu b [] rfl rfl
  rw [← henter] at harr
  cases e with
  | normal =>
    obtain ⟨hd, u', rfl, v, hr, hR⟩ := hq
    exact ⟨.returned v, u', w', _, hR, comesIn_wide.2 (show Comes P _ _ (.returned v) from Steps.trans harr (.one step_end)), rfl, rfl, rfl, hd, fn, hf, hr⟩
  | ret =>
    obtain ⟨hd, u', rfl, v, hr, hR⟩ := hq
    obtain ⟨todo, hs⟩ := harr
    exact ⟨.returned v, u', w', _, hR, comesIn_wide.2 (show Comes P _ _ (.returned v) from hs), rfl, rfl, rfl, hd, fn, hf, hr⟩
  | panic chain =>
    obtain ⟨hd, u', rfl, hR⟩ := hq
    obtain ⟨todo, hs⟩ := harr
    exact ⟨.panicked chain, u', w', _, hR, comesIn_wide.2 (show Comes P _ _ (.panicked chain) from hs), rfl, rfl, rfl, hd, fn, hf⟩
  | exit id => exact hq.elim
  | goto l => exact hq.elim
  | outgrown =>
    obtain ⟨u', hR⟩ := hq
    exact ⟨.outgrown, u', w', b, hR, comesIn_wide.2 (show Comes P _ _ .outgrown from harr.resolve_left (by simp [b])), rfl, rfl, trivial⟩
theorem callDA_ok {X : Hk} (hX : Plain P X w0.w) {self : Self I} (hcd : CodeOK P lo w0 self.code) (hc : CallOK P lo w0 self.call) {f : FuncId} {args : Array Value} {u u' : AMd} {s s' : St μ} (hr : (callDA P X lo self f args u).run s = some (u', s'))
    {E : Env} {g : Nat → Option Obj} {w : World} {cargs : Array Value} {um : FrameMode} (hR : Rel P lo w0 E g w) (hA : Agree I s s' g) (hF : Fresh s s' E) (hargs : ARl E args cargs) (hu : MdR E u um) :
    CallsDIn (fen none) (0 - 1) P f cargs um w fun e um' w' => ∃ E' v, e = .returned v ∧ Env.Ext E E' s.next s'.next ∧ MdR E' u' um' ∧ Rel P lo w0 E' (merge I s' g) w' := by
  unfold callDA at hr
  split at hr
  · rename_i fn hf
    split at hr
    · rename_i c hb
      cases hsz : (Nat.blt args.size 4000 && fn.results.isEmpty) with
      | false => rw [hsz] at hr; exact (fail_run hr).elim
      | true =>
        rw [hsz, cond_true] at hr
        simp only [Bool.and_eq_true, blt_eq, decide_eq_true_eq] at hsz
        obtain ⟨⟨⟨e1, a1⟩, u1⟩, s1, h1, h2⟩ := bind_run hr
        have hle : St.Le I s1 s' := M.le _ _ _ _ h2
        have hend : (e1 = .normal ∨ e1 = .ret) ∧ a1.defers = [] ∧ u1 = u' ∧ s1 = s' := by
          unfold bodyS at h2
          split at h2
          · rename_i hh
            obtain ⟨q1, q2⟩ := pure_run h2
            cases hh
            exact ⟨.inl rfl, rfl, q1.symm, q2.symm⟩
          · rename_i hh
            obtain ⟨q1, q2⟩ := pure_run h2
            cases hh
            exact ⟨.inr rfl, rfl, q1.symm, q2.symm⟩
          · exact (fail_run h2).elim
        obtain ⟨he1, hd1, rfl, rfl⟩ := hend
        refine callsDF_of_wpS hf hb fun c0 cs hc0 => ?_
        have hc0' : c0 = { c0 with mode := um } := by rw [← hc0]
        rw [hc0']
        refine codeS_ok hX hcd hc c _ u s e1 a1 u1 s1 h1 E g w _ c0 cs um _ hR hA hF (frame_rel hsz.1 hargs) hu fun E' ce ca' um' w' k1 k2 k3 k4 k5 => ?_
        have hdd : ca'.defers = [] := by
          have := k3.len
          rw [hd1] at this
          exact List.eq_nil_of_length_eq_zero (by simpa using this.symm)
        rcases he1 with rfl | rfl
        · cases ce <;> first | exact k2.elim | exact ⟨hdd, um', rfl, _, res_empty hsz.2 _ _, E', _, rfl, k1, k4, k5⟩
        · cases ce <;> first | exact k2.elim | exact ⟨hdd, um', rfl, _, res_empty hsz.2 _ _, E', _, rfl, k1, k4, k5⟩
    · exact (fail_run hr).elim
  · exact (fail_run hr).elim
theorem leaves_ok {X : Hk} (hX : Plain P X w0.w) {self : Self I} (hcd : CodeOK P lo w0 self.code) (hc : CallOK P lo w0 self.call) {fn : Func} {a : AAct} : ∀ (ds : List Deferred) (u : AMd) (s : St μ) (r : AEnd) (s' : St μ), (leavesA P X lo self fn a ds u).run s = some (r, s') →
    ∀ (E : Env) (g : Nat → Option Obj) (w : World) (tmps : Array Value) (ds' : List Deferred) (um : FrameMode) (R : Ending → World → Prop), Rel P lo w0 E g w → Agree I s s' g → Fresh s s' E → (∀ i, VR E (a.val i) (tmps.getD i undef)) → MdR E u um →
      ds.length = ds'.length → (∀ (j : Nat) (d d' : Deferred), ds[j]? = some d → ds'[j]? = some d' → DR E d d') →
      (∀ E' e w', Env.Ext E E' s.next s'.next → EnR E' r e → Rel P lo w0 E' (merge I s' g) w' → R e w') → LeavesInM (fen none) 0 P fn tmps R ds' um w
  | [], u, s, r, s', hr, E, g, w, tmps, ds', um, R, hR, hA, hF, hv, hu, hlen, _, hQ => by
    obtain rfl : ds' = [] := List.eq_nil_of_length_eq_zero (by simpa using hlen.symm)
    unfold leavesA endA at hr
    split at hr
    · cases um <;> first | exact (show False from hu).elim | skip
      obtain ⟨v, s2, h4, h5⟩ := bind_run hr
      obtain ⟨rfl, rfl⟩ := pure_run h5
      obtain ⟨E2, v', w2, k1, k2, k3, k4⟩ := sim_resA (P := P) (lo := lo) (w0 := w0) (E := E) (fn := fn) (ca := { tmps := tmps, defers := [] }) hv s v s' h4 E _ w (fun _ _ h => h) hR hA hF trivial
      have := stl_results (P := P) fn tmps w v' w2 k1
      subst this
      exact ⟨v', k1, hQ E2 _ _ k2 k3 k4⟩
    · cases um <;> first | exact (show False from hu).elim | skip
      obtain ⟨v', rfl, hv'⟩ := hu
      obtain ⟨rfl, rfl⟩ := pure_run hr
      exact hQ E _ w (.refl _ _) ⟨v', rfl, hv'⟩ (by rw [merge_read hA (fun _ => rfl) (fun _ => rfl)]; exact hR)
    · exact (fail_run hr).elim
  | d :: ds, u, s, r, s', hr, E, g, w, tmps, [], um, R, hR, hA, hF, hv, hu, hlen, hds, hQ => by simp at hlen
  | d :: ds, u, s, r, s', hr, E, g, w, tmps, d' :: ds', um, R, hR, hA, hF, hv, hu, hlen, hds, hQ => by
    rcases hds 0 d d' rfl rfl with ⟨f, cap, cap', ht, ht', hcap, hargs⟩ | ⟨k, b, q, ht, ht', hkb⟩
    · unfold leavesA at hr
      rw [ht] at hr
      simp only at hr
      cases hx : X.X f with
      | false => rw [hx] at hr; exact (fail_run hr).elim
      | true =>
        rw [hx, cond_true] at hr
        obtain ⟨u1, s1, h1, h2⟩ := bind_run hr
        have hle : St.Le I s1 s' := M.le _ _ _ _ h2
        obtain ⟨fn', g1, g2, g3⟩ := hX.x f hx
        have g3' : fn'.body ≠ none := fun e => by rw [e] at g3; cases g3
        have g2' : ¬ fn'.name = "runtime.NumGoroutine" := by simpa using g2
        have hne : um ≠ .run := fun e => by subst e; cases u <;> exact (show False from hu).elim
        refine ⟨hne, .inr ⟨fen_depth, .func f, cap', f, d'.args ++ cap', ht', ?_, fun _ _ => trivial, ?_⟩⟩
        · rw [ht']
          simp [invoke, callFunc, g1, g2', g3']
        · refine callsDIn_mono (callDA_ok hX hcd hc h1 hR (hA.first hle) (hF.first hle.next) (ARl.append hargs hcap) hu) fun e um1 w1 ⟨E1, v, he, k1, k2, k3⟩ => ?_
          subst he
          obtain ⟨hA1, hF1, hX1, hm1⟩ := chain h1 hle hA hF k1
          exact leaves_ok hX hcd hc ds u1.settle s1 r s' h2 E1 _ w1 tmps ds' _ R k3 hA1 hF1 (fun i => (hv i).mono k1.keep) k2.settle (by simpa using hlen) (fun j x y hx hy => (hds (j + 1) x y (by simpa using hx) (by simpa using hy)).mono k1.keep)
            fun E' e w' q1 q2 q3 => hQ E' e w' (hX1 E' q1) q2 (by rw [hm1] at q3; exact q3)
    · unfold leavesA at hr
      rw [ht] at hr
      simp only at hr
      obtain ⟨u1, s1, h1, h2⟩ := bind_run hr
      have hle : St.Le I s1 s' := M.le _ _ _ _ h2
      have hne : um ≠ .run := fun e => by subst e; cases u <;> exact (show False from hu).elim
      unfold shutA at h1
      obtain ⟨ob, s2, h3, h4⟩ := bind_run h1
      have hob : ob = .deferred (some []) := by
        cases ob <;> first | exact (fail_run h4).elim | skip
        rename_i x
        cases x with
        | none => exact (fail_run h4).elim
        | some l => cases l with
          | nil => rfl
          | cons y l => exact (fail_run h4).elim
      subst hob
      simp only at h4
      obtain ⟨e1, e2, e3, e4, e5⟩ := rd_run h3
      obtain ⟨w1', ⟨o0, w2'⟩, w3', w4', w5', w6'⟩ := wr_run h4
      have l1 := (rd (I := I) k).le _ _ _ h3
      have l2 := (wr (I := I) lo k (some (.deferred none))).le _ _ _ h4
      have hm : merge I s2 g = g := merge_read ((hA.first hle).first l2) (fun k => by rw [e4]) (fun k => by rw [e3])
      have hA1 : Agree I s2 s1 g := by have := (hA.first hle).second l1 l2; rwa [hm] at this
      have hg : g k = some (.deferred (some [])) := by rw [(hA.first hle) k (by rw [l2.T k e5, Bool.true_or]), e1]
      obtain ⟨b', r', co, q1, q2, q3⟩ := hR.tie _ _ hg
      rw [hkb] at q1
      cases q1
      cases q3 with
      | collected =>
        have hR1 : Rel P lo w0 E (merge I s1 g) (w.putObj b (.deferred none)) := by
          rw [merge_write hA1 w5' w6']
          exact hR.write hg hkb w1' (putObj_turned q2) .shut
        have x1 : Env.Ext E E s.next s1.next := ⟨fun _ _ h => h, fun _ h => .inl h⟩
        obtain ⟨hA2, hF2, hX2, hm2⟩ := chain h1 hle hA hF x1
        exact ⟨hne, .inl ⟨b, _, ht', run_takeDeferred q2, leaves_ok hX hcd hc ds u s1 r s' h2 E _ _ tmps ds' um R hR1 hA2 hF2 hv hu (by simpa using hlen) (fun j x y hx hy => hds (j + 1) x y (by simpa using hx) (by simpa using hy))
          fun E' e w' q1 q2 q3 => hQ E' e w' (hX2 E' q1) q2 (by rw [hm2] at q3; exact q3)⟩⟩
theorem call_okD {X : Hk} (H : Plain P X w0.w) {self : Self I} (hcd : CodeOK P lo w0 self.code) (hc : CallOK P lo w0 self.call) : CallOK P lo w0 (bodyStepD P X lo self) := by
  intro f args s r s' hr E g w cargs hR hA hF hargs
  unfold bodyStepD at hr
  split at hr
  · rename_i v hl
    obtain ⟨rfl, rfl⟩ := pure_run hr
    obtain ⟨l1, l2, l3⟩ := H.l f _ v hl
    have he := hargs.gnd l1
    have := l3 w hR.below
    rw [show args.toList.toArray = args by simp, ← he] at this
    refine this.mono fun e w' ⟨h1, h2⟩ => ⟨E, .refl _ _, ?_, ?_⟩
    · subst h1; exact gnd_refl E 3 v l2
    · rw [merge_read hA (fun _ => rfl) (fun _ => rfl)]; exact hR.below' h2
  · split at hr
    · rename_i fn hf
      unfold enterD at hr
      split at hr
      · rename_i c hb
        cases hsz : Nat.blt args.size 4000 with
        | false => simp only [hsz] at hr; exact (fail_run hr).elim
        | true =>
          simp only [hsz, cond_true] at hr
          rw [blt_eq, decide_eq_true_eq] at hsz
          obtain ⟨⟨x, a1⟩, s1, h1, h2⟩ := bind_run hr
          have hle : St.Le I s1 s' := M.le _ _ _ _ h2
          refine calls_fen (callsIn_of_wp_marks hf hb trivial ?_)
          refine hcd none c _ s x a1 s1 h1 E g w _ _ none trivial hR (hA.first hle) (hF.first hle.next) (frame_rel hsz hargs) fun E1 ce ca1 w1 hx1 he1 ha1 hR1 => ?_
          obtain ⟨hA1, hF1, hX1, hm1⟩ := chain h1 hle hA hF hx1
          have leave : ∀ u um, MdR E1 u um → (leavesA P X lo self fn a1 a1.defers u).run s1 = some (r, s') → LeavesInM (fen none) 0 P fn ca1.tmps (fun e w' => ∃ E', Env.Ext E E' s.next s'.next ∧ EnR E' r e ∧ Rel P lo w0 E' (merge I s' g) w') ca1.defers um w1 := fun u um hu h3 =>
            leaves_ok H hcd hc a1.defers u s1 r s' h3 E1 _ w1 ca1.tmps ca1.defers um _ hR1 hA1 hF1 ha1.val hu ha1.len ha1.defers fun E' e w' q1 q2 q3 => ⟨E', hX1 E' q1, q2, by rw [hm1] at q3; exact q3⟩
          cases x with
          | normal =>
            cases ce <;> simp only [ExR] at he1 <;> first | exact he1.elim | skip
            exact leave .ret .returning trivial h2
          | ret =>
            cases ce <;> simp only [ExR] at he1 <;> first | exact he1.elim | skip
            exact leave .ret .returning trivial h2
          | exit j => exact (fail_run h2).elim
          | panic v =>
            cases ce <;> simp only [ExR] at he1 <;> first | exact he1.elim | skip
            exact leave (.panic v false) (.panicking _) he1 h2
      · exact (fail_run hr).elim
    · exact (fail_run hr).elim
theorem evalD_ok (hm : P.follows .mixedOrders = true) {X : Hk} (H : Plain P X w0.w) {K : Hook I} (hK : HookOK P lo w0 K) : ∀ n, CodeOK P lo w0 (evalD (I := I) P X lo K n).code ∧ CallOK P lo w0 (evalD (I := I) P X lo K n).call
  | 0 => ⟨fun ρ c a s e a' s' hr => (fail_run hr).elim, fun f args s r s' hr => (fail_run hr).elim⟩
  | n + 1 => ⟨code_ok hm H (evalD_ok hm H hK n).1 (evalD_ok hm H hK n).2, by
      have hb := call_okD H (evalD_ok hm H hK n).1 (evalD_ok hm H hK n).2
      intro f args s r s' hr E g w cargs hR hA hF hargs
      change (callStepD P X lo K (evalD P X lo K n) f args).run s = _ at hr
      unfold callStepD at hr
      split at hr
      · exact hb f args s r s' hr E g w cargs hR hA hF hargs
      · rename_i h
        split at hr
        · rename_i m hm
          exact hK h rfl f args m hm s r s' hr E g w cargs hR hA hF hargs
        · exact hb f args s r s' hr E g w cargs hR hA hF hargs⟩
/-- A call on plain values alone, run by the kernel: so it comes on every tape, in every memory. -/
theorem runsD_calls (hm : P.follows .mixedOrders = true) {X : Hk} (w : World) (H : Plain P X w) {n : Nat} {f : FuncId} {args : Array Value} {p : Value → Bool} (h : runsD P X n f args p = true) (hg : args.toList.all (gnd 3) = true) :
    Calls P f args w fun e w' => ∃ (v v' : Value) (E : Env), p v = true ∧ e = .returned v' ∧ VR E v v' ∧ Below w.heap.size w w' := by
  unfold runsD at h
  split at h
  · rename_i v s' hr
    have hR : Rel P ⟨0, 0⟩ ⟨w, fun _ => none⟩ (fun _ => none) (fun _ => none) w := ⟨Below.refl _ _, (fun k o h => by cases h), (fun k k' o o' b r r' h => by cases h), (fun k b r _ h => by cases h), (fun k h => absurd h (Nat.not_lt_zero k)), (fun k x h => by cases h)⟩
    have hself : ARl (fun _ => none) args args := ⟨rfl, fun a c j ha hc => by rw [ha] at hc; cases hc; exact gnd_refl _ 3 a (all_getElem? hg ha)⟩
    have := (evalD_ok (I := trieI) (lo := ⟨0, 0⟩) (w0 := ⟨w, fun _ => none⟩) hm H (K := none) (fun h e => by cases e) n).2 f args (st0 0) (.ret v) s' hr (fun _ => none) (fun _ => none) w args hR (fun k hk => rfl) (fun k _ _ => rfl) hself
    refine this.mono fun e w' ⟨E, _, he, hR'⟩ => ?_
    cases e with
    | returned v' => exact ⟨v, v', E, h, rfl, he, hR'.below⟩
    | panicked c => exact he.elim
    | outgrown => exact he.elim
  · cases h
/-- A call whose arguments bear names, with what is known of its callees. -/
theorem runsD_named (hm : P.follows .mixedOrders = true) {X : Hk} {w : World} (H : Plain P X w) {lo : Lim} {K : Hook trieI} {E0 : Env} (hK : HookOK P lo ⟨w, E0⟩ K) (hG : ∀ k, k < lo.G → E0 k = some (k, 0)) (hlo : ∀ k, lo.lo ≤ k → E0 k = none) {n : Nat} {f : FuncId} {args cargs : Array Value} {r : AEnd} {s' : St (Trie Obj)}
    (h : ((evalD (I := trieI) P X lo K n).call f args).run (st0 lo.lo) = some (r, s')) (ha : ARl E0 args cargs) :
    Calls P f cargs w fun e w' => ∃ E', EnR E' r e ∧ Rel P lo ⟨w, E0⟩ E' (merge trieI s' fun _ => none) w' := by
  have hR : Rel P lo ⟨w, E0⟩ E0 (fun _ => none) w := ⟨Below.refl _ _, (fun k o h => by cases h), (fun k k' o o' b r r' h => by cases h), (fun k b r h1 h2 => by rw [hlo k h1] at h2; cases h2), hG, (fun k x h => h)⟩
  exact ((evalD_ok (I := trieI) hm H hK n).2 f args (st0 lo.lo) r s' h E0 (fun _ => none) w cargs hR (fun k hk => rfl) (fun k h1 _ => hlo k h1) ha).mono fun e w' ⟨E', _, he, hR'⟩ => ⟨E', he, hR'⟩
end
end Go.Am
