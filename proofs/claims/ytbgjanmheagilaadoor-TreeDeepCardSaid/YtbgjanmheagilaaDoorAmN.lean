/- The abstract evaluator: what it comes to, the model comes to, on every tape. Conditions: none. -/
import Derived.Test.YtbgjanmheagilaaDoorAmL
import Derived.Test.YtbgjanmheagilaaDoorAmO
import Derived.Scope
namespace Go.Am
open Go Go.RowKit
set_option linter.unusedVariables false
set_option linter.unusedSimpArgs false
variable {μ : Type} {I : MemI μ} {P : Program} {lo : Lim} {w0 : Bs} {E : Env}

/-! ### What only reads -/
def Stl {α : Type} (P : Program) (c : Sem α) : Prop := ∀ w v w', c.run P w = .ok v w' → w' = w
theorem Stl.pure {α : Type} (a : α) : Stl P (Pure.pure a : Sem α) := fun w v w' h => by cases h; rfl
theorem Stl.halt {α : Type} (x : Halt) : Stl P (Sem.halt x : Sem α) := fun w v w' h => by cases h
theorem Stl.bind {α β : Type} {c : Sem α} {f : α → Sem β} (h : Stl P c) (hf : ∀ a, Stl P (f a)) : Stl P (c >>= f) := fun w v w' hr => by
  rw [Sem.run_bind] at hr
  cases hc : c.run P w with
  | halt x w1 => rw [hc] at hr; cases hr
  | ok a w1 =>
    rw [hc] at hr
    have := h w a w1 hc
    subst this
    exact hf a _ _ _ hr
theorem Stl.program : Stl P program := fun w v w' h => by cases h; rfl
theorem Stl.info (t : TypeId) : Stl P (typeInfo t) := by
  unfold typeInfo
  refine Stl.bind Stl.program fun p => ?_
  split
  · exact Stl.pure _
  · exact Stl.halt _
theorem Stl.under (t : TypeId) : Stl P (underlying t) := by
  unfold underlying
  refine Stl.bind Stl.program fun p => ?_
  split
  · exact Stl.pure _
  · exact Stl.halt _
theorem Stl.load (a : Addr) (m : Mode) : Stl P (load a m) := fun w v w' h => by
  rw [run_load] at h
  split at h
  · cases h; rfl
  · split at h
    · cases h; rfl
    · cases h
theorem Stl.cells (a : Addr) : ∀ (n i : Nat) (acc : Array Value), Stl P (loadCellsFrom a i n acc)
  | 0, i, acc => Stl.pure _
  | n + 1, i, acc => by
    unfold loadCellsFrom
    exact Stl.bind (Stl.load _ _) fun v => Stl.cells a n _ _
theorem Stl.var (t : TypeId) (a : Addr) : Stl P (loadVar t a) := by
  unfold loadVar isAgg
  refine Stl.bind (Stl.bind (Stl.under t) fun d => ?_) fun b => ?_
  · split <;> exact Stl.pure _
  · split
    · refine Stl.bind (Stl.bind (Stl.info t) fun i => Stl.pure _) fun n => Stl.bind (Stl.cells a n 0 _) fun cs => Stl.pure _
    · exact Stl.load _ _

/-! ### Results -/
theorem mapM_arr {α β : Type} (f : α → Sem β) (xs : Array α) : (xs.mapM f) = (do let l ← xs.toList.mapM f; pure l.toArray) := by
  obtain ⟨l⟩ := xs
  rw [List.mapM_toArray, map_eq_pure_bind]
theorem sim_resL {a : AAct} {ca : Act} : ∀ (l : List ResultVar) (E : Env) (H : (Nat → Option Obj) → Prop), (∀ i, VR E (a.val i) (ca.tmps.getD i undef)) → Sim P lo w0 E H (resL P a l : M I (List Value)) (l.mapM fun
    | .tmp t => pure (ca.tmps.getD t undef)
    | .cell x t => do loadVar t (← asAddr (ca.tmps.getD x undef))) LR
  | [], E, H, ha => Sim.pure fun E1 hE => ⟨rfl, fun a c j h => by simp at h⟩
  | .tmp t :: l, E, H, ha => by
    rw [List.mapM_cons]
    refine Sim.left (b := ca.tmps.getD t undef) (fun w => rfl) (Sim.bind (sim_resL l E H ha) fun E1 vs cs hE hvs => Sim.pure fun E2 hE2 => ?_)
    refine ⟨by simp [hvs.1], fun x y j hx hy => ?_⟩
    rcases j with _ | j
    · simp only [List.getElem?_cons_zero, Option.some.injEq] at hx hy
      subst hx; subst hy
      exact (ha t).mono fun k x hk => hE2 k x (hE k x hk)
    · simp only [List.getElem?_cons_succ] at hx hy
      exact (hvs.2 x y j hx hy).mono hE2
  | .cell x t :: l, E, H, ha => by
    rw [List.mapM_cons]
    have hv := ha x
    refine Sim.bind (R := VR) (c := do loadVar t (← asAddr (ca.tmps.getD x undef))) ?_ fun E1 v v' hE hvv => Sim.bind (sim_resL l E1 noH fun i => (ha i).mono hE) fun E2 vs cs hE2 hvs => Sim.pure fun E3 hE3 => ?_
    · unfold loadA
      generalize ca.tmps.getD x undef = q at hv
      split
      · rename_i k o hk0
        rw [hk0] at hv
        cases hv with
        | ptr hk => exact Sim.left (b := _) (fun w => rfl) (sim_loadAt hk)
      · exact Sim.fail
    · refine ⟨by simp [hvs.1], fun x y j hx hy => ?_⟩
      rcases j with _ | j
      · simp only [List.getElem?_cons_zero, Option.some.injEq] at hx hy
        subst hx; subst hy
        exact hvv.mono fun k x hk => hE3 k x (hE2 k x hk)
      · simp only [List.getElem?_cons_succ] at hx hy
        exact (hvs.2 x y j hx hy).mono hE3
theorem stl_results (fn : Func) (tmps : Array Value) : Stl P (results fn tmps) := by
  unfold results
  refine Stl.bind ?_ fun vs => Stl.pure _
  rw [mapM_arr]
  refine Stl.bind ?_ fun vs => Stl.pure _
  induction fn.results.toList with
  | nil => exact Stl.pure _
  | cons r l ih =>
    rw [List.mapM_cons]
    refine Stl.bind ?_ fun v => Stl.bind ih fun vs => Stl.pure _
    cases r with
    | tmp t => exact Stl.pure _
    | cell x t =>
      refine Stl.bind ?_ fun a => Stl.var t a
      cases tmps.getD x undef <;> first | exact Stl.halt _ | skip
      rename_i p
      cases p with
      | some p => exact Stl.pure _
      | none => exact fun w v w' h => by simp [asAddr, runtimePanic] at h
theorem sim_resA {fn : Func} {a : AAct} {ca : Act} (ha : ∀ i, VR E (a.val i) (ca.tmps.getD i undef)) : Sim P lo w0 E noH (resA P fn a : M I Value) (results fn ca.tmps) VR := by
  unfold resA results
  rw [mapM_arr, bind_assoc]
  refine Sim.bind (sim_resL _ E _ ha) fun E1 vs cs hE hvs => ?_
  rw [pure_bind]
  obtain ⟨h1, h2⟩ := hvs
  split
  · rename_i v
    obtain ⟨c, rfl⟩ := List.length_eq_one_iff.1 h1.symm
    refine Sim.pure fun E2 hE2 => ?_
    have : VR E1 v c := h2 v c 0 rfl rfl
    simpa using this.mono hE2
  · rename_i vs hne
    refine Sim.pure fun E2 hE2 => ?_
    have hne' : ¬ cs.toArray.size = 1 := fun h => by
      simp at h
      obtain ⟨v, hv⟩ := List.length_eq_one_iff.1 (h1.trans h)
      exact hne v hv
    rw [dif_neg hne']
    exact .tuple (by simpa using h1) fun x y j hx hy => (h2 x y j (by simpa using hx) (by simpa using hy)).mono hE2

/-! ### Code -/
theorem Rel.below' {g : Nat → Option Obj} {w w' : World} (h : Rel P lo w0 E g w) (hb : Below w.heap.size w w') : Rel P lo w0 E g w' :=
  ⟨h.below.trans (hb.mono h.below.size), fun k o hk => by
    obtain ⟨b, r, co, h1, h2, h3⟩ := h.tie k o hk
    exact ⟨b, r, co, h1, by rw [hb.block b (Array.getElem?_eq_some_iff.1 h2).1]; exact h2, h3⟩, h.inj, h.own, h.old, h.kept⟩

theorem CodeP.same {a : AAct} {x : AExit} {C : (Exit → Act → World → Prop) → Act → World → Prop} (h : ∀ E ca w Q ce, (∀ c, x = .panic c → False) → ExR E x ce → Q ce ca w → C Q ca w) (hx : ∀ E, ∃ ce, ExR E x ce) (hp : ∀ c, x = .panic c → False) : CodeP P lo w0 (pure (x, a) : M I (AExit × AAct)) a C := by
  intro s e a' s' hr E g w ca Q hR hA hF ha hQ
  obtain ⟨h1, rfl⟩ := pure_run hr
  cases h1
  obtain ⟨ce, hce⟩ := hx E
  exact h E ca w Q ce hp hce (hQ E ce ca w (.refl _ _) hce ha (by rw [merge_read hA (fun _ => rfl) (fun _ => rfl)]; exact hR))

theorem loop_ok {self : Self I} (hc : CodeOK P lo w0 self.code) (c : Code) : ∀ (n : Nat) (a : AAct), CodeP P lo w0 (loopA self c n a) a (fun Q ca w => Code.rounds P c Q n ca w)
  | 0, a => fun s e a' s' hr => (fail_run hr).elim
  | n + 1, a => by
    intro s e a' s' hr E g w ca Q hR hA hF ha hQ
    obtain ⟨⟨x, a1⟩, s1, h1, h2⟩ := bind_run hr
    have hle : St.Le I s1 s' := M.le _ _ _ _ h2
    rw [rounds_succ]
    refine hc c a s x a1 s1 h1 E g w ca _ hR (hA.first hle) (hF.first hle.next) ha fun E1 ce ca1 w1 hx1 he1 ha1 hR1 => ?_
    obtain ⟨hA1, hF1, hX1, hm1⟩ := chain h1 hle hA hF hx1
    cases x with
    | normal =>
      cases ce <;> simp only [ExR] at he1 <;> first | exact he1.elim | skip
      exact loop_ok hc c n a1 s1 e a' s' h2 E1 _ w1 ca1 Q hR1 hA1 hF1 ha1 fun E' ce ca' w' hx' he' ha' hR' => hQ E' ce ca' w' (hX1 E' hx') he' ha' (by rw [hm1] at hR'; exact hR')
    | exit id =>
      obtain ⟨h3, rfl⟩ := pure_run h2
      cases h3
      cases ce <;> simp only [ExR] at he1 <;> first | exact he1.elim | skip
      exact hQ E1 _ ca1 w1 hx1 he1 ha1 hR1
    | ret =>
      obtain ⟨h3, rfl⟩ := pure_run h2
      cases h3
      cases ce <;> simp only [ExR] at he1 <;> first | exact he1.elim | skip
      exact hQ E1 _ ca1 w1 hx1 trivial ha1 hR1
    | panic v =>
      obtain ⟨h3, rfl⟩ := pure_run h2
      cases h3
      cases ce <;> simp only [ExR] at he1 <;> first | exact he1.elim | skip
      exact hQ E1 _ ca1 w1 hx1 he1 ha1 hR1

theorem code_ok (hm : P.follows .mixedOrders = true) {X : Hk} (H : Plain P X) {self : Self I} (hc : CodeOK P lo w0 self.code) (hk : CallOK P lo w0 self.call) : CodeOK P lo w0 (codeStep P X lo self) := by
  intro c a
  cases c with
  | skip => exact CodeP.same (fun E ca w Q ce _ he hq => by cases ce <;> simp only [ExR] at he <;> first | exact he.elim | exact wp_skip hq) (fun E => ⟨.normal, trivial⟩) (fun c h => by cases h)
  | label l => exact CodeP.same (fun E ca w Q ce _ he hq => by cases ce <;> simp only [ExR] at he <;> first | exact he.elim | exact wp_label hq) (fun E => ⟨.normal, trivial⟩) (fun c h => by cases h)
  | ret => exact CodeP.same (fun E ca w Q ce _ he hq => by cases ce <;> simp only [ExR] at he <;> first | exact he.elim | exact wp_ret hq) (fun E => ⟨.ret, trivial⟩) (fun c h => by cases h)
  | exit id => exact CodeP.same (fun E ca w Q ce _ he hq => by cases ce <;> simp only [ExR] at he <;> first | exact he.elim | (subst he; exact wp_exit hq)) (fun E => ⟨.exit id, rfl⟩) (fun c h => by cases h)
  | seq x y =>
    intro s e a' s' hr E g w ca Q hR hA hF ha hQ
    obtain ⟨⟨x1, a1⟩, s1, h1, h2⟩ := bind_run hr
    have hle : St.Le I s1 s' := M.le _ _ _ _ h2
    refine wp_seq (hc x a s x1 a1 s1 h1 E g w ca _ hR (hA.first hle) (hF.first hle.next) ha fun E1 ce ca1 w1 hx1 he1 ha1 hR1 => ?_)
    obtain ⟨hA1, hF1, hX1, hm1⟩ := chain h1 hle hA hF hx1
    cases x1 with
    | normal =>
      cases ce <;> simp only [ExR] at he1 <;> first | exact he1.elim | skip
      exact hc y a1 s1 e a' s' h2 E1 _ w1 ca1 Q hR1 hA1 hF1 ha1 fun E' ce ca' w' hx' he' ha' hR' => hQ E' ce ca' w' (hX1 E' hx') he' ha' (by rw [hm1] at hR'; exact hR')
    | exit id =>
      obtain ⟨h3, rfl⟩ := pure_run h2
      cases h3
      cases ce <;> simp only [ExR] at he1 <;> first | exact he1.elim | skip
      exact hQ E1 _ ca1 w1 hx1 he1 ha1 hR1
    | ret =>
      obtain ⟨h3, rfl⟩ := pure_run h2
      cases h3
      cases ce <;> simp only [ExR] at he1 <;> first | exact he1.elim | skip
      exact hQ E1 _ ca1 w1 hx1 trivial ha1 hR1
    | panic v =>
      obtain ⟨h3, rfl⟩ := pure_run h2
      cases h3
      cases ce <;> simp only [ExR] at he1 <;> first | exact he1.elim | skip
      exact hQ E1 _ ca1 w1 hx1 he1 ha1 hR1
  | cond c x y =>
    intro s e a' s' hr E g w ca Q hR hA hF ha hQ
    change (condA lo self c x y a).run s = _ at hr
    unfold condA at hr
    split at hr
    · rename_i b hb
      have hv := ha.ev (lo := lo) hR.old _ _ hb
      generalize hq : ca.eval c = q at hv
      cases hv
      refine wp_cond hq ?_
      cases b with
      | true => exact hc x a s e a' s' hr E g w ca Q hR hA hF ha hQ
      | false => exact hc y a s e a' s' hr E g w ca Q hR hA hF ha hQ
    · exact (fail_run hr).elim
  | block id b =>
    intro s e a' s' hr E g w ca Q hR hA hF ha hQ
    obtain ⟨⟨x1, a1⟩, s1, h1, h2⟩ := bind_run hr
    have hle : St.Le I s1 s' := M.le _ _ _ _ h2
    refine wp_block (hc b a s x1 a1 s1 h1 E g w ca _ hR (hA.first hle) (hF.first hle.next) ha fun E1 ce ca1 w1 hx1 he1 ha1 hR1 => ?_)
    cases x1 with
    | normal =>
      obtain ⟨h3, rfl⟩ := pure_run h2
      cases h3
      cases ce <;> simp only [ExR] at he1 <;> first | exact he1.elim | skip
      exact hQ E1 _ ca1 w1 hx1 trivial ha1 hR1
    | exit j =>
      cases ce <;> simp only [ExR] at he1 <;> first | exact he1.elim | skip
      subst he1
      change (bif Nat.beq j id then (pure (.normal, a1) : M I (AExit × AAct)) else pure (.exit j, a1)).run s1 = _ at h2
      cases hb : Nat.beq j id with
      | true =>
        rw [hb] at h2
        obtain ⟨h3, rfl⟩ := pure_run h2
        cases h3
        have := Nat.eq_of_beq_eq_true hb
        subst this
        show (if j = j then Q .normal ca1 w1 else Q (.exit j) ca1 w1)
        rw [if_pos rfl]
        exact hQ E1 .normal ca1 w1 hx1 trivial ha1 hR1
      | false =>
        rw [hb] at h2
        obtain ⟨h3, rfl⟩ := pure_run h2
        cases h3
        have hne : j ≠ id := fun e => by subst e; simp at hb
        show (if j = id then Q .normal ca1 w1 else Q (.exit j) ca1 w1)
        rw [if_neg hne]
        exact hQ E1 (.exit j) ca1 w1 hx1 rfl ha1 hR1
    | ret =>
      obtain ⟨h3, rfl⟩ := pure_run h2
      cases h3
      cases ce <;> simp only [ExR] at he1 <;> first | exact he1.elim | skip
      exact hQ E1 _ ca1 w1 hx1 trivial ha1 hR1
    | panic v =>
      obtain ⟨h3, rfl⟩ := pure_run h2
      cases h3
      cases ce <;> simp only [ExR] at he1 <;> first | exact he1.elim | skip
      exact hQ E1 _ ca1 w1 hx1 he1 ha1 hR1
  | loop b =>
    intro s e a' s' hr E g w ca Q hR hA hF ha hQ
    exact wp_loop_rounds 1000000 (loop_ok hc b 1000000 a s e a' s' hr E g w ca Q hR hA hF ha hQ)
  | scope b =>
    intro s e a' s' hr E g w ca Q hR hA hF ha hQ
    refine wp_scope_straight (hc b a s e a' s' hr E g w ca _ hR hA hF ha fun E' ce ca' w' hx' he' ha' hR' => ?_)
    have := hQ E' ce ca' w' hx' he' ha' hR'
    cases ce with
    | goto l => cases e <;> exact he'.elim
    | normal => exact this
    | exit i => exact this
    | ret => exact this
    | panic c => exact this
    | outgrown => exact this
  | region id ops draw =>
    cases draw with
    | false =>
      intro s e a' s' hr E g w ca Q hR hA hF ha hQ
      exact wp_region_list (opsSeq_ok H hk ops.toList a s e a' s' hr E g w ca Q hR hA hF ha hQ)
    | true =>
      intro s e a' s' hr E g w ca Q hR hA hF ha hQ
      exact wp_region_any hm (drawL_ok (H := H) hk a s e a' s' hr E g w.drew ca Q (rel_drew hR) hA hF ha hQ)
  | rangeFunc f ps as b => exact fun s e a' s' hr => (fail_run hr).elim
  | goto l => exact fun s e a' s' hr => (fail_run hr).elim
  | refuse why => exact fun s e a' s' hr => (fail_run hr).elim

/-! ### Calls -/
theorem fillT_get : ∀ (l : List Value) (i : Nat) (t : Trie Value) (j : Nat), i + l.length ≤ 4094 → (fillT l i t).get j = if i ≤ j ∧ j < i + l.length then l[j - i]? else t.get j
  | [], i, t, j, h => by simp [fillT]; intro h1 h2; omega
  | v :: l, i, t, j, h => by
    simp only [fillT]
    rw [fillT_get l (i + 1) _ j (by simp at h; omega), Trie.get_set 12 t i j (some v) (by simp at h; omega)]
    simp only [List.length_cons]
    by_cases e : j = i
    · subst e
      rw [if_neg (by omega), if_pos rfl, if_pos (by omega)]; simp
    · rw [if_neg e]
      by_cases e2 : i ≤ j ∧ j < i + (l.length + 1)
      · rw [if_pos e2, if_pos (by omega), show j - i = (j - (i + 1)) + 1 by omega]; simp
      · rw [if_neg e2, if_neg (by omega)]

theorem call_ok {X : Hk} (H : Plain P X) {self : Self I} (hc : CodeOK P lo w0 self.code) : CallOK P lo w0 (bodyStep P X self) := by
  intro f args s r s' hr E g w cargs hR hA hF hargs
  unfold bodyStep at hr
  split at hr
  · rename_i v hl
    obtain ⟨rfl, rfl⟩ := pure_run hr
    obtain ⟨l1, l2, l3⟩ := H.l f _ v hl
    have he := hargs.gnd l1
    have := l3 w
    rw [show args.toList.toArray = args by simp, ← he] at this
    refine this.mono fun e w' ⟨h1, h2⟩ => ⟨E, .refl _ _, ?_, ?_⟩
    · subst h1; exact gnd_refl E 3 v l2
    · rw [merge_read hA (fun _ => rfl) (fun _ => rfl)]; exact hR.below' h2
  · split at hr
    · rename_i fn hf
      unfold enterA at hr
      split at hr
      · rename_i c hb
        cases hsz : Nat.blt args.size 4000 with
        | false => simp only [hsz] at hr; exact (fail_run hr).elim
        | true =>
          simp only [hsz, cond_true] at hr
          rw [blt_eq, decide_eq_true_eq] at hsz
          obtain ⟨⟨x, a1⟩, s1, h1, h2⟩ := bind_run hr
          have hle : St.Le I s1 s' := M.le _ _ _ _ h2
          refine calls_of_wp hf hb ?_
          have ha0 : ActR E ⟨args.size + (fn.ntmps - args.size), fillT args.toList 0 .leaf, []⟩ { tmps := cargs ++ Array.replicate (fn.ntmps - cargs.size) undef, defers := [] } := by
            refine ⟨by simp [hargs.1], fun i => ?_, rfl, fun j d d' h => by simp at h⟩
            unfold AAct.val
            simp only
            rw [fillT_get args.toList 0 .leaf i (by simp; omega)]
            simp only [Nat.zero_le, true_and, Nat.zero_add, Nat.sub_zero, Array.length_toList]
            by_cases hi : i < args.size
            · rw [if_pos hi]
              have hi' : i < cargs.size := by rw [← hargs.1]; exact hi
              have := hargs.2 args[i] cargs[i] i (by simp [hi]) (by simp [hi'])
              simpa [hi, hi', Array.getElem?_append] using this
            · rw [if_neg hi]
              have hi' : ¬ i < cargs.size := by rw [← hargs.1]; exact hi
              have : (cargs ++ Array.replicate (fn.ntmps - cargs.size) undef).getD i undef = undef := by
                simp [Array.getElem?_append, hi', Array.getElem?_replicate]
                split <;> rfl
              rw [this]
              exact VR.undef E
          refine hc c _ s x a1 s1 h1 E g w _ _ hR (hA.first hle) (hF.first hle.next) ha0 fun E1 ce ca1 w1 hx1 he1 ha1 hR1 => ?_
          obtain ⟨hA1, hF1, hX1, hm1⟩ := chain h1 hle hA hF hx1
          have leave : (leaveA P fn a1).run s1 = some (r, s') → ca1.defers = [] ∧ ∃ v, (results fn ca1.tmps).run P w1 = .ok v w1 ∧ ∃ E', Env.Ext E E' s.next s'.next ∧ EnR E' r (.returned v) ∧ Rel P lo w0 E' (merge I s' g) w1 := fun h3 => by
            unfold leaveA at h3
            split at h3
            · rename_i hd
              obtain ⟨v, s2, h4, h5⟩ := bind_run h3
              obtain ⟨rfl, rfl⟩ := pure_run h5
              obtain ⟨E2, v', w2, k1, k2, k3, k4⟩ := sim_resA (P := P) (lo := lo) (w0 := w0) (E := E1) (fn := fn) (ca := ca1) ha1.val s1 v s' h4 E1 _ w1 (fun _ _ h => h) hR1 hA1 hF1 trivial
              have := stl_results (P := P) fn ca1.tmps w1 v' w2 k1
              subst this
              refine ⟨?_, v', k1, E2, hX1 E2 k2, k3, by rw [hm1] at k4; exact k4⟩
              have := ha1.len
              rw [hd] at this
              exact List.eq_nil_of_length_eq_zero (by simpa using this.symm)
            · exact (fail_run h3).elim
          cases x with
          | normal =>
            cases ce <;> simp only [ExR] at he1 <;> first | exact he1.elim | skip
            exact leave h2
          | ret =>
            cases ce <;> simp only [ExR] at he1 <;> first | exact he1.elim | skip
            exact leave h2
          | exit j => exact (fail_run h2).elim
          | panic v =>
            change (leaveP a1 v).run s1 = _ at h2
            unfold leaveP at h2
            cases ce <;> simp only [ExR] at he1 <;> first | exact he1.elim | skip
            split at h2
            · rename_i hd
              obtain ⟨rfl, rfl⟩ := pure_run h2
              have := ha1.len
              rw [hd] at this
              exact ⟨List.eq_nil_of_length_eq_zero (by simpa using this.symm), E1, hx1, he1, hR1⟩
            · exact (fail_run h2).elim
      · exact (fail_run hr).elim
    · exact (fail_run hr).elim

/-- The calls that are known by a contract do what is said of them. -/
def HookOK (P : Program) (lo : Lim) (w0 : Bs) (K : Hook I) : Prop := ∀ h, K = some h → ∀ f args m, h f args = some m → ∀ s r s', m.run s = some (r, s') → ∀ E g w cargs, Rel P lo w0 E g w → Agree I s s' g → Fresh s s' E → ARl E args cargs →
  Calls P f cargs w fun e w' => ∃ E', Env.Ext E E' s.next s'.next ∧ EnR E' r e ∧ Rel P lo w0 E' (merge I s' g) w'
theorem evalN_ok (hm : P.follows .mixedOrders = true) {X : Hk} (H : Plain P X) {K : Hook I} (hK : HookOK P lo w0 K) : ∀ n, CodeOK P lo w0 (evalN (I := I) P X lo K n).code ∧ CallOK P lo w0 (evalN (I := I) P X lo K n).call
  | 0 => ⟨fun c a s e a' s' hr => (fail_run hr).elim, fun f args s r s' hr => (fail_run hr).elim⟩
  | n + 1 => ⟨code_ok hm H (evalN_ok hm H hK n).1 (evalN_ok hm H hK n).2, by
      have hb := call_ok H (evalN_ok hm H hK n).1
      intro f args s r s' hr E g w cargs hR hA hF hargs
      change (callStep P X K (evalN P X lo K n) f args).run s = _ at hr
      unfold callStep at hr
      split at hr
      · exact hb f args s r s' hr E g w cargs hR hA hF hargs
      · rename_i h
        split at hr
        · rename_i m hm
          exact hK h rfl f args m hm s r s' hr E g w cargs hR hA hF hargs
        · exact hb f args s r s' hr E g w cargs hR hA hF hargs⟩

/-- A call on plain values alone, run by the kernel: so it comes on every tape, in every memory. -/
theorem runs_calls (hm : P.follows .mixedOrders = true) {X : Hk} (H : Plain P X) {n : Nat} {f : FuncId} {args : Array Value} {p : Value → Bool} (h : runs P X n f args p = true) (hg : args.toList.all (gnd 3) = true) (w : World) :
    Calls P f args w fun e w' => ∃ (v v' : Value) (E : Env), p v = true ∧ e = .returned v' ∧ VR E v v' ∧ Below w.heap.size w w' := by
  unfold runs at h
  split at h
  · rename_i v s' hr
    have hR : Rel P ⟨0, 0⟩ ⟨w, fun _ => none⟩ (fun _ => none) (fun _ => none) w := ⟨Below.refl _ _, (fun k o h => by cases h), (fun k k' o o' b r r' h => by cases h), (fun k b r _ h => by cases h), (fun k h => absurd h (Nat.not_lt_zero k)), (fun k x h => by cases h)⟩
    have hself : ARl (fun _ => none) args args := ⟨rfl, fun a c j ha hc => by rw [ha] at hc; cases hc; exact gnd_refl _ 3 a (all_getElem? hg ha)⟩
    have := (evalN_ok (I := trieI) (lo := ⟨0, 0⟩) (w0 := ⟨w, fun _ => none⟩) hm H (K := none) (fun h e => by cases e) n).2 f args (st0 0) (.ret v) s' hr (fun _ => none) (fun _ => none) w args hR (fun k hk => rfl) (fun k _ _ => rfl) hself
    refine this.mono fun e w' ⟨E, _, he, hR'⟩ => ?_
    cases e with
    | returned v' => exact ⟨v, v', E, h, rfl, he, hR'.below⟩
    | panicked c => exact he.elim
    | outgrown => exact he.elim
  · cases h

/-- A call whose arguments bear names, with what is known of its callees. -/
theorem runs_named (hm : P.follows .mixedOrders = true) {X : Hk} (H : Plain P X) {lo : Lim} {K : Hook trieI} {w : World} {E0 : Env} (hK : HookOK P lo ⟨w, E0⟩ K) (hG : ∀ k, k < lo.G → E0 k = some (k, 0)) (hlo : ∀ k, lo.lo ≤ k → E0 k = none) {n : Nat} {f : FuncId} {args cargs : Array Value} {r : AEnd} {s' : St (Trie Obj)}
    (h : ((evalN (I := trieI) P X lo K n).call f args).run (st0 lo.lo) = some (r, s')) (ha : ARl E0 args cargs) :
    Calls P f cargs w fun e w' => ∃ E', EnR E' r e ∧ Rel P lo ⟨w, E0⟩ E' (merge trieI s' fun _ => none) w' := by
  have hR : Rel P lo ⟨w, E0⟩ E0 (fun _ => none) w := ⟨Below.refl _ _, (fun k o h => by cases h), (fun k k' o o' b r r' h => by cases h), (fun k b r h1 h2 => by rw [hlo k h1] at h2; cases h2), hG, (fun k x h => h)⟩
  exact ((evalN_ok (I := trieI) hm H hK n).2 f args (st0 lo.lo) r s' h E0 (fun _ => none) w cargs hR (fun k hk => rfl) (fun k h1 _ => hlo k h1) ha).mono fun e w' ⟨E', _, he, hR'⟩ => ⟨E', he, hR'⟩
end Go.Am
