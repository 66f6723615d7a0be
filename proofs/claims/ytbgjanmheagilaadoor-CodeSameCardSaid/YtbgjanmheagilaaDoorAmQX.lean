/- The abstract evaluator: what it comes to, the model comes to, on every tape. Conditions: none. -/
import Derived.Scope
import Derived.Test.YtbgjanmheagilaaDoorAmLX
import Derived.Test.YtbgjanmheagilaaDoorAmOX
import Derived.Recover
set_option linter.unusedVariables false
set_option linter.unusedSimpArgs false
namespace Go.Am
open Go Go.RowKit
set_option linter.unusedVariables false
set_option linter.unusedSimpArgs false
variable {μ : Type} {I : MemI μ} {P : Program} {lo : Lim} {w0 : Bs} {E : Env}

/-! ### What only reads -/
def Stl {α : Type} (P : Program) (c : Sem α) : Prop := ∀ w v w', c.run P w = .ok v w' → w' = w
theorem Stl.pure {α : Type} (a : α) : Stl P (Pure.pure a : Sem α) := fun w v w' h => by cases h; rfl
theorem Stl.halt {α : Type} (x : Halt) : Stl P (Sem.halt x : Sem α) := fun w v w' h => by cases h
theorem Stl.bind {α β : Type} {c : Sem α} {f : α → Sem β} (h : Stl P c) (hf : ∀ a, Stl P (f a)) : Stl P (c >>= f) := fun w v w' hr => by
  rw [Sem.run_bind] at hr
  cases hc : c.run P w with
  | halt x w1 => rw [hc] at hr; cases hr
  | ok a w1 =>
    rw [hc] at hr
    have := h w a w1 hc
    subst this
    exact hf a _ _ _ hr
theorem Stl.program : Stl P program := fun w v w' h => by cases h; rfl
theorem Stl.info (t : TypeId) : Stl P (typeInfo t) := by
  unfold typeInfo
  refine Stl.bind Stl.program fun p => ?_
  split
  · exact Stl.pure _
  · exact Stl.halt _
theorem Stl.under (t : TypeId) : Stl P (underlying t) := by
  unfold underlying
  refine Stl.bind Stl.program fun p => ?_
  split
  · exact Stl.pure _
  · exact Stl.halt _
theorem Stl.load (a : Addr) (m : Mode) : Stl P (load a m) := fun w v w' h => by
  rw [run_load] at h
  split at h
  · cases h; rfl
  · split at h
    · cases h; rfl
    · cases h
theorem Stl.cells (a : Addr) : ∀ (n i : Nat) (acc : Array Value), Stl P (loadCellsFrom a i n acc)
  | 0, i, acc => Stl.pure _
  | n + 1, i, acc => by
    unfold loadCellsFrom
    exact Stl.bind (Stl.load _ _) fun v => Stl.cells a n _ _
theorem Stl.var (t : TypeId) (a : Addr) : Stl P (loadVar t a) := by
  unfold loadVar isAgg
  refine Stl.bind (Stl.bind (Stl.under t) fun d => ?_) fun b => ?_
  · split <;> exact Stl.pure _
  · split
    · refine Stl.bind (Stl.bind (Stl.info t) fun i => Stl.pure _) fun n => Stl.bind (Stl.cells a n 0 _) fun cs => Stl.pure _
    · exact Stl.load _ _

/-! ### Results -/
theorem mapM_arr {α β : Type} (f : α → Sem β) (xs : Array α) : (xs.mapM f) = (do let l ← xs.toList.mapM f; pure l.toArray) := by
  obtain ⟨l⟩ := xs
  rw [List.mapM_toArray, map_eq_pure_bind]
theorem sim_resL {a : AAct} {ca : Act} : ∀ (l : List ResultVar) (E : Env) (H : (Nat → Option Obj) → Prop), (∀ i, VR E (a.val i) (ca.tmps.getD i undef)) → Sim P lo w0 E H (resL P a l : M I (List Value)) (l.mapM fun
    | .tmp t => pure (ca.tmps.getD t undef)
    | .cell x t => do loadVar t (← asAddr (ca.tmps.getD x undef))) LR
  | [], E, H, ha => Sim.pure fun E1 hE => ⟨rfl, fun a c j h => by simp at h⟩
  | .tmp t :: l, E, H, ha => by
    rw [List.mapM_cons]
    refine Sim.left (b := ca.tmps.getD t undef) (fun w => rfl) (Sim.bind (sim_resL l E H ha) fun E1 vs cs hE hvs => Sim.pure fun E2 hE2 => ?_)
    refine ⟨by simp [hvs.1], fun x y j hx hy => ?_⟩
    rcases j with _ | j
    · simp only [List.getElem?_cons_zero, Option.some.injEq] at hx hy
      subst hx; subst hy
      exact (ha t).mono fun k x hk => hE2 k x (hE k x hk)
    · simp only [List.getElem?_cons_succ] at hx hy
      exact (hvs.2 x y j hx hy).mono hE2
  | .cell x t :: l, E, H, ha => by
    rw [List.mapM_cons]
    have hv := ha x
    refine Sim.bind (R := VR) (c := do loadVar t (← asAddr (ca.tmps.getD x undef))) ?_ fun E1 v v' hE hvv => Sim.bind (sim_resL l E1 noH fun i => (ha i).mono hE) fun E2 vs cs hE2 hvs => Sim.pure fun E3 hE3 => ?_
    · unfold loadA
      generalize ca.tmps.getD x undef = q at hv
      split
      · rename_i k o hk0
        rw [hk0] at hv
        cases hv with
        | ptr hk => exact Sim.left (b := _) (fun w => rfl) (sim_loadAt hk)
      · exact Sim.fail
    · refine ⟨by simp [hvs.1], fun x y j hx hy => ?_⟩
      rcases j with _ | j
      · simp only [List.getElem?_cons_zero, Option.some.injEq] at hx hy
        subst hx; subst hy
        exact hvv.mono fun k x hk => hE3 k x (hE2 k x hk)
      · simp only [List.getElem?_cons_succ] at hx hy
        exact (hvs.2 x y j hx hy).mono hE3
theorem stl_results (fn : Func) (tmps : Array Value) : Stl P (results fn tmps) := by
  unfold results
  refine Stl.bind ?_ fun vs => Stl.pure _
  rw [mapM_arr]
  refine Stl.bind ?_ fun vs => Stl.pure _
  induction fn.results.toList with
  | nil => exact Stl.pure _
  | cons r l ih =>
    rw [List.mapM_cons]
    refine Stl.bind ?_ fun v => Stl.bind ih fun vs => Stl.pure _
    cases r with
    | tmp t => exact Stl.pure _
    | cell x t =>
      refine Stl.bind ?_ fun a => Stl.var t a
      cases tmps.getD x undef <;> first | exact Stl.halt _ | skip
      rename_i p
      cases p with
      | some p => exact Stl.pure _
      | none => exact fun w v w' h => by simp [asAddr, runtimePanic] at h
theorem sim_resA {fn : Func} {a : AAct} {ca : Act} (ha : ∀ i, VR E (a.val i) (ca.tmps.getD i undef)) : Sim P lo w0 E noH (resA P fn a : M I Value) (results fn ca.tmps) VR := by
  unfold resA results
  rw [mapM_arr, bind_assoc]
  refine Sim.bind (sim_resL _ E _ ha) fun E1 vs cs hE hvs => ?_
  rw [pure_bind]
  obtain ⟨h1, h2⟩ := hvs
  split
  · rename_i v
    obtain ⟨c, rfl⟩ := List.length_eq_one_iff.1 h1.symm
    refine Sim.pure fun E2 hE2 => ?_
    have : VR E1 v c := h2 v c 0 rfl rfl
    simpa using this.mono hE2
  · rename_i vs hne
    refine Sim.pure fun E2 hE2 => ?_
    have hne' : ¬ cs.toArray.size = 1 := fun h => by
      simp at h
      obtain ⟨v, hv⟩ := List.length_eq_one_iff.1 (h1.trans h)
      exact hne v hv
    rw [dif_neg hne']
    exact .tuple (by simpa using h1) fun x y j hx hy => (h2 x y j (by simpa using hx) (by simpa using hy)).mono hE2

/-! ### Code -/
theorem Rel.below' {g : Nat → Option Obj} {w w' : World} (h : Rel P lo w0 E g w) (hb : Below w.heap.size w w') : Rel P lo w0 E g w' :=
  ⟨h.below.trans (hb.mono h.below.size), fun k o hk => by
    obtain ⟨b, r, co, h1, h2, h3⟩ := h.tie k o hk
    exact ⟨b, r, co, h1, by rw [hb.block b (Array.getElem?_eq_some_iff.1 h2).1]; exact h2, h3⟩, h.inj, h.own, h.old, h.kept⟩

theorem CodeP.same {a : AAct} {x : AExit} {C : (Exit → Act → World → Prop) → Act → World → Prop} (h : ∀ E ca w Q ce, (∀ c, x = .panic c → False) → ExR E x ce → Q ce ca w → C Q ca w) (hx : ∀ E, ∃ ce, ExR E x ce) (hp : ∀ c, x = .panic c → False) : CodeP P lo w0 (pure (x, a) : M I (AExit × AAct)) a C := by
  intro s e a' s' hr E g w ca Q hR hA hF ha hQ
  obtain ⟨h1, rfl⟩ := pure_run hr
  cases h1
  obtain ⟨ce, hce⟩ := hx E
  exact h E ca w Q ce hp hce (hQ E ce ca w (.refl _ _) hce ha (by rw [merge_read hA (fun _ => rfl) (fun _ => rfl)]; exact hR))

theorem loop_ok {self : Self I} (hc : CodeOK P lo w0 self.code) (c : Code) : ∀ (n : Nat) (a : AAct), CodeP P lo w0 (loopA self c n a) a (fun Q ca w => Code.rounds P c Q n ca w)
  | 0, a => fun s e a' s' hr => (fail_run hr).elim
  | n + 1, a => by
    intro s e a' s' hr E g w ca Q hR hA hF ha hQ
    obtain ⟨⟨x, a1⟩, s1, h1, h2⟩ := bind_run hr
    have hle : St.Le I s1 s' := M.le _ _ _ _ h2
    rw [rounds_succ]
    refine hc c a s x a1 s1 h1 E g w ca _ hR (hA.first hle) (hF.first hle.next) ha fun E1 ce ca1 w1 hx1 he1 ha1 hR1 => ?_
    obtain ⟨hA1, hF1, hX1, hm1⟩ := chain h1 hle hA hF hx1
    cases x with
    | normal =>
      cases ce <;> simp only [ExR] at he1 <;> first | exact he1.elim | skip
      exact loop_ok hc c n a1 s1 e a' s' h2 E1 _ w1 ca1 Q hR1 hA1 hF1 ha1 fun E' ce ca' w' hx' he' ha' hR' => hQ E' ce ca' w' (hX1 E' hx') he' ha' (by rw [hm1] at hR'; exact hR')
    | exit id =>
      obtain ⟨h3, rfl⟩ := pure_run h2
      cases h3
      cases ce <;> simp only [ExR] at he1 <;> first | exact he1.elim | skip
      exact hQ E1 _ ca1 w1 hx1 he1 ha1 hR1
    | ret =>
      obtain ⟨h3, rfl⟩ := pure_run h2
      cases h3
      cases ce <;> simp only [ExR] at he1 <;> first | exact he1.elim | skip
      exact hQ E1 _ ca1 w1 hx1 trivial ha1 hR1
    | panic v =>
      obtain ⟨h3, rfl⟩ := pure_run h2
      cases h3
      cases ce <;> simp only [ExR] at he1 <;> first | exact he1.elim | skip
      exact hQ E1 _ ca1 w1 hx1 he1 ha1 hR1

theorem code_ok (hm : P.follows .mixedOrders = true) {X : Hk} (H : Plain P X) {self : Self I} (hc : CodeOK P lo w0 self.code) (hk : CallOK P lo w0 self.call) : CodeOK P lo w0 (codeStep P X lo self) := by
  intro c a
  cases c with
  | skip => exact CodeP.same (fun E ca w Q ce _ he hq => by cases ce <;> simp only [ExR] at he <;> first | exact he.elim | exact wp_skip hq) (fun E => ⟨.normal, trivial⟩) (fun c h => by cases h)
  | label l => exact CodeP.same (fun E ca w Q ce _ he hq => by cases ce <;> simp only [ExR] at he <;> first | exact he.elim | exact wp_label hq) (fun E => ⟨.normal, trivial⟩) (fun c h => by cases h)
  | ret => exact CodeP.same (fun E ca w Q ce _ he hq => by cases ce <;> simp only [ExR] at he <;> first | exact he.elim | exact wp_ret hq) (fun E => ⟨.ret, trivial⟩) (fun c h => by cases h)
  | exit id => exact CodeP.same (fun E ca w Q ce _ he hq => by cases ce <;> simp only [ExR] at he <;> first | exact he.elim | (subst he; exact wp_exit hq)) (fun E => ⟨.exit id, rfl⟩) (fun c h => by cases h)
  | seq x y =>
    intro s e a' s' hr E g w ca Q hR hA hF ha hQ
    obtain ⟨⟨x1, a1⟩, s1, h1, h2⟩ := bind_run hr
    have hle : St.Le I s1 s' := M.le _ _ _ _ h2
    refine wp_seq (hc x a s x1 a1 s1 h1 E g w ca _ hR (hA.first hle) (hF.first hle.next) ha fun E1 ce ca1 w1 hx1 he1 ha1 hR1 => ?_)
    obtain ⟨hA1, hF1, hX1, hm1⟩ := chain h1 hle hA hF hx1
    cases x1 with
    | normal =>
      cases ce <;> simp only [ExR] at he1 <;> first | exact he1.elim | skip
      exact hc y a1 s1 e a' s' h2 E1 _ w1 ca1 Q hR1 hA1 hF1 ha1 fun E' ce ca' w' hx' he' ha' hR' => hQ E' ce ca' w' (hX1 E' hx') he' ha' (by rw [hm1] at hR'; exact hR')
    | exit id =>
      obtain ⟨h3, rfl⟩ := pure_run h2
      cases h3
      cases ce <;> simp only [ExR] at he1 <;> first | exact he1.elim | skip
      exact hQ E1 _ ca1 w1 hx1 he1 ha1 hR1
    | ret =>
      obtain ⟨h3, rfl⟩ := pure_run h2
      cases h3
      cases ce <;> simp only [ExR] at he1 <;> first | exact he1.elim | skip
      exact hQ E1 _ ca1 w1 hx1 trivial ha1 hR1
    | panic v =>
      obtain ⟨h3, rfl⟩ := pure_run h2
      cases h3
      cases ce <;> simp only [ExR] at he1 <;> first | exact he1.elim | skip
      exact hQ E1 _ ca1 w1 hx1 he1 ha1 hR1
  | cond c x y =>
    intro s e a' s' hr E g w ca Q hR hA hF ha hQ
    change (condA lo self c x y a).run s = _ at hr
    unfold condA at hr
    split at hr
    · rename_i b hb
      have hv := ha.ev (lo := lo) hR.old _ _ hb
      generalize hq : ca.eval c = q at hv
      cases hv
      refine wp_cond hq ?_
      cases b with
      | true => exact hc x a s e a' s' hr E g w ca Q hR hA hF ha hQ
      | false => exact hc y a s e a' s' hr E g w ca Q hR hA hF ha hQ
    · exact (fail_run hr).elim
  | block id b =>
    intro s e a' s' hr E g w ca Q hR hA hF ha hQ
    obtain ⟨⟨x1, a1⟩, s1, h1, h2⟩ := bind_run hr
    have hle : St.Le I s1 s' := M.le _ _ _ _ h2
    refine wp_block (hc b a s x1 a1 s1 h1 E g w ca _ hR (hA.first hle) (hF.first hle.next) ha fun E1 ce ca1 w1 hx1 he1 ha1 hR1 => ?_)
    cases x1 with
    | normal =>
      obtain ⟨h3, rfl⟩ := pure_run h2
      cases h3
      cases ce <;> simp only [ExR] at he1 <;> first | exact he1.elim | skip
      exact hQ E1 _ ca1 w1 hx1 trivial ha1 hR1
    | exit j =>
      cases ce <;> simp only [ExR] at he1 <;> first | exact he1.elim | skip
      subst he1
      change (bif Nat.beq j id then (pure (.normal, a1) : M I (AExit × AAct)) else pure (.exit j, a1)).run s1 = _ at h2
      cases hb : Nat.beq j id with
      | true =>
        rw [hb] at h2
        obtain ⟨h3, rfl⟩ := pure_run h2
        cases h3
        have := Nat.eq_of_beq_eq_true hb
        subst this
        show (if j = j then Q .normal ca1 w1 else Q (.exit j) ca1 w1)
        rw [if_pos rfl]
        exact hQ E1 .normal ca1 w1 hx1 trivial ha1 hR1
      | false =>
        rw [hb] at h2
        obtain ⟨h3, rfl⟩ := pure_run h2
        cases h3
        have hne : j ≠ id := fun e => by subst e; simp at hb
        show (if j = id then Q .normal ca1 w1 else Q (.exit j) ca1 w1)
        rw [if_neg hne]
        exact hQ E1 (.exit j) ca1 w1 hx1 rfl ha1 hR1
    | ret =>
      obtain ⟨h3, rfl⟩ := pure_run h2
      cases h3
      cases ce <;> simp only [ExR] at he1 <;> first | exact he1.elim | skip
      exact hQ E1 _ ca1 w1 hx1 trivial ha1 hR1
    | panic v =>
      obtain ⟨h3, rfl⟩ := pure_run h2
      cases h3
      cases ce <;> simp only [ExR] at he1 <;> first | exact he1.elim | skip
      exact hQ E1 _ ca1 w1 hx1 he1 ha1 hR1
  | loop b =>
    intro s e a' s' hr E g w ca Q hR hA hF ha hQ
    exact wp_loop_rounds 1000000 (loop_ok hc b 1000000 a s e a' s' hr E g w ca Q hR hA hF ha hQ)
  | scope b =>
    intro s e a' s' hr E g w ca Q hR hA hF ha hQ
    refine wp_scope_straight (hc b a s e a' s' hr E g w ca _ hR hA hF ha fun E' ce ca' w' hx' he' ha' hR' => ?_)
    have := hQ E' ce ca' w' hx' he' ha' hR'
    cases ce with
    | goto l => cases e <;> exact he'.elim
    | normal => exact this
    | exit i => exact this
    | ret => exact this
    | panic c => exact this
    | outgrown => exact this
  | region id ops draw =>
    cases draw with
    | false =>
      intro s e a' s' hr E g w ca Q hR hA hF ha hQ
      exact wp_region_list (opsSeq_ok H hk ops.toList a s e a' s' hr E g w ca Q hR hA hF ha hQ)
    | true =>
      intro s e a' s' hr E g w ca Q hR hA hF ha hQ
      exact wp_region_any hm (drawL_ok (H := H) hk a s e a' s' hr E g w.drew ca Q (rel_drew hR) hA hF ha hQ)
  | rangeFunc f ps as b => exact fun s e a' s' hr => (fail_run hr).elim
  | goto l => exact fun s e a' s' hr => (fail_run hr).elim
  | refuse why => exact fun s e a' s' hr => (fail_run hr).elim

/-! ### Calls -/
theorem fillT_get : ∀ (l : List Value) (i : Nat) (t : Trie Value) (j : Nat), i + l.length ≤ 4094 → (fillT l i t).get j = if i ≤ j ∧ j < i + l.length then l[j - i]? else t.get j
  | [], i, t, j, h => by simp [fillT]; intro h1 h2; omega
  | v :: l, i, t, j, h => by
    simp only [fillT]
    rw [fillT_get l (i + 1) _ j (by simp at h; omega), Trie.get_set 12 t i j (some v) (by simp at h; omega)]
    simp only [List.length_cons]
    by_cases e : j = i
    · subst e
      rw [if_neg (by omega), if_pos rfl, if_pos (by omega)]; simp
    · rw [if_neg e]
      by_cases e2 : i ≤ j ∧ j < i + (l.length + 1)
      · rw [if_pos e2, if_pos (by omega), show j - i = (j - (i + 1)) + 1 by omega]; simp
      · rw [if_neg e2, if_neg (by omega)]

theorem call_ok {X : Hk} (H : Plain P X) {self : Self I} (hc : CodeOK P lo w0 self.code) : CallOK P lo w0 (bodyStep P X self) := by
  intro f args s r s' hr E g w cargs hR hA hF hargs
  unfold bodyStep at hr
  split at hr
  · rename_i v hl
    obtain ⟨rfl, rfl⟩ := pure_run hr
    obtain ⟨l1, l2, l3⟩ := H.l f _ v hl
    have he := hargs.gnd l1
    have := l3 w
    rw [show args.toList.toArray = args by simp, ← he] at this
    refine this.mono fun e w' ⟨h1, h2⟩ => ⟨E, .refl _ _, ?_, ?_⟩
    · subst h1; exact gnd_refl E 3 v l2
    · rw [merge_read hA (fun _ => rfl) (fun _ => rfl)]; exact hR.below' h2
  · split at hr
    · rename_i fn hf
      unfold enterA at hr
      split at hr
      · rename_i c hb
        cases hsz : Nat.blt args.size 4000 with
        | false => simp only [hsz] at hr; exact (fail_run hr).elim
        | true =>
          simp only [hsz, cond_true] at hr
          rw [blt_eq, decide_eq_true_eq] at hsz
          obtain ⟨⟨x, a1⟩, s1, h1, h2⟩ := bind_run hr
          have hle : St.Le I s1 s' := M.le _ _ _ _ h2
          refine calls_of_wp hf hb ?_
          have ha0 : ActR E ⟨args.size + (fn.ntmps - args.size), fillT args.toList 0 .leaf, []⟩ { tmps := cargs ++ Array.replicate (fn.ntmps - cargs.size) undef, defers := [] } := by
            refine ⟨by simp [hargs.1], fun i => ?_, rfl, fun j d d' h => by simp at h⟩
            unfold AAct.val
            simp only
            rw [fillT_get args.toList 0 .leaf i (by simp; omega)]
            simp only [Nat.zero_le, true_and, Nat.zero_add, Nat.sub_zero, Array.length_toList]
            by_cases hi : i < args.size
            · rw [if_pos hi]
              have hi' : i < cargs.size := by rw [← hargs.1]; exact hi
              have := hargs.2 args[i] cargs[i] i (by simp [hi]) (by simp [hi'])
              simpa [hi, hi', Array.getElem?_append] using this
            · rw [if_neg hi]
              have hi' : ¬ i < cargs.size := by rw [← hargs.1]; exact hi
              have : (cargs ++ Array.replicate (fn.ntmps - cargs.size) undef).getD i undef = undef := by
                simp [Array.getElem?_append, hi', Array.getElem?_replicate]
                split <;> rfl
              rw [this]
              exact VR.undef E
          refine hc c _ s x a1 s1 h1 E g w _ _ hR (hA.first hle) (hF.first hle.next) ha0 fun E1 ce ca1 w1 hx1 he1 ha1 hR1 => ?_
          obtain ⟨hA1, hF1, hX1, hm1⟩ := chain h1 hle hA hF hx1
          have leave : (leaveA P fn a1).run s1 = some (r, s') → ca1.defers = [] ∧ ∃ v, (results fn ca1.tmps).run P w1 = .ok v w1 ∧ ∃ E', Env.Ext E E' s.next s'.next ∧ EnR E' r (.returned v) ∧ Rel P lo w0 E' (merge I s' g) w1 := fun h3 => by
            unfold leaveA at h3
            split at h3
            · rename_i hd
              obtain ⟨v, s2, h4, h5⟩ := bind_run h3
              obtain ⟨rfl, rfl⟩ := pure_run h5
              obtain ⟨E2, v', w2, k1, k2, k3, k4⟩ := sim_resA (P := P) (lo := lo) (w0 := w0) (E := E1) (fn := fn) (ca := ca1) ha1.val s1 v s' h4 E1 _ w1 (fun _ _ h => h) hR1 hA1 hF1 trivial
              have := stl_results (P := P) fn ca1.tmps w1 v' w2 k1
              subst this
              refine ⟨?_, v', k1, E2, hX1 E2 k2, k3, by rw [hm1] at k4; exact k4⟩
              have := ha1.len
              rw [hd] at this
              exact List.eq_nil_of_length_eq_zero (by simpa using this.symm)
            · exact (fail_run h3).elim
          cases x with
          | normal =>
            cases ce <;> simp only [ExR] at he1 <;> first | exact he1.elim | skip
            exact leave h2
          | ret =>
            cases ce <;> simp only [ExR] at he1 <;> first | exact he1.elim | skip
            exact leave h2
          | exit j => exact (fail_run h2).elim
          | panic v =>
            change (leaveP a1 v).run s1 = _ at h2
            unfold leaveP at h2
            cases ce <;> simp only [ExR] at he1 <;> first | exact he1.elim | skip
            split at h2
            · rename_i hd
              obtain ⟨rfl, rfl⟩ := pure_run h2
              have := ha1.len
              rw [hd] at this
              exact ⟨List.eq_nil_of_length_eq_zero (by simpa using this.symm), E1, hx1, he1, hR1⟩
            · exact (fail_run h2).elim
      · exact (fail_run hr).elim
    · exact (fail_run hr).elim

/-- The calls that are known by a contract do what is said of them. -/
def HookOK (P : Program) (lo : Lim) (w0 : Bs) (K : Hook I) : Prop := ∀ h, K = some h → ∀ f args m, h f args = some m → ∀ s r s', m.run s = some (r, s') → ∀ E g w cargs, Rel P lo w0 E g w → Agree I s s' g → Fresh s s' E → ARl E args cargs →
  Calls P f cargs w fun e w' => ∃ E', Env.Ext E E' s.next s'.next ∧ EnR E' r e ∧ Rel P lo w0 E' (merge I s' g) w'
theorem evalN_ok (hm : P.follows .mixedOrders = true) {X : Hk} (H : Plain P X) {K : Hook I} (hK : HookOK P lo w0 K) : ∀ n, CodeOK P lo w0 (evalN (I := I) P X lo K n).code ∧ CallOK P lo w0 (evalN (I := I) P X lo K n).call
  | 0 => ⟨fun c a s e a' s' hr => (fail_run hr).elim, fun f args s r s' hr => (fail_run hr).elim⟩
  | n + 1 => ⟨code_ok hm H (evalN_ok hm H hK n).1 (evalN_ok hm H hK n).2, by
      have hb := call_ok H (evalN_ok hm H hK n).1
      intro f args s r s' hr E g w cargs hR hA hF hargs
      change (callStep P X K (evalN P X lo K n) f args).run s = _ at hr
      unfold callStep at hr
      split at hr
      · exact hb f args s r s' hr E g w cargs hR hA hF hargs
      · rename_i h
        split at hr
        · rename_i m hm
          exact hK h rfl f args m hm s r s' hr E g w cargs hR hA hF hargs
        · exact hb f args s r s' hr E g w cargs hR hA hF hargs⟩

/-- A call on plain values alone, run by the kernel: so it comes on every tape, in every memory. -/
theorem runs_calls (hm : P.follows .mixedOrders = true) {X : Hk} (H : Plain P X) {n : Nat} {f : FuncId} {args : Array Value} {p : Value → Bool} (h : runs P X n f args p = true) (hg : args.toList.all (gnd 3) = true) (w : World) :
    Calls P f args w fun e w' => ∃ (v v' : Value) (E : Env), p v = true ∧ e = .returned v' ∧ VR E v v' ∧ Below w.heap.size w w' := by
  unfold runs at h
  split at h
  · rename_i v s' hr
    have hR : Rel P ⟨0, 0⟩ ⟨w, fun _ => none⟩ (fun _ => none) (fun _ => none) w := ⟨Below.refl _ _, (fun k o h => by cases h), (fun k k' o o' b r r' h => by cases h), (fun k b r _ h => by cases h), (fun k h => absurd h (Nat.not_lt_zero k)), (fun k x h => by cases h)⟩
    have hself : ARl (fun _ => none) args args := ⟨rfl, fun a c j ha hc => by rw [ha] at hc; cases hc; exact gnd_refl _ 3 a (all_getElem? hg ha)⟩
    have := (evalN_ok (I := trieI) (lo := ⟨0, 0⟩) (w0 := ⟨w, fun _ => none⟩) hm H (K := none) (fun h e => by cases e) n).2 f args (st0 0) (.ret v) s' hr (fun _ => none) (fun _ => none) w args hR (fun k hk => rfl) (fun k _ _ => rfl) hself
    refine this.mono fun e w' ⟨E, _, he, hR'⟩ => ?_
    cases e with
    | returned v' => exact ⟨v, v', E, h, rfl, he, hR'.below⟩
    | panicked c => exact he.elim
    | outgrown => exact he.elim
  · cases h

/-- A call whose arguments bear names, with what is known of its callees. -/
theorem runs_named (hm : P.follows .mixedOrders = true) {X : Hk} (H : Plain P X) {lo : Lim} {K : Hook trieI} {w : World} {E0 : Env} (hK : HookOK P lo ⟨w, E0⟩ K) (hG : ∀ k, k < lo.G → E0 k = some (k, 0)) (hlo : ∀ k, lo.lo ≤ k → E0 k = none) {n : Nat} {f : FuncId} {args cargs : Array Value} {r : AEnd} {s' : St (Trie Obj)}
    (h : ((evalN (I := trieI) P X lo K n).call f args).run (st0 lo.lo) = some (r, s')) (ha : ARl E0 args cargs) :
    Calls P f cargs w fun e w' => ∃ E', EnR E' r e ∧ Rel P lo ⟨w, E0⟩ E' (merge trieI s' fun _ => none) w' := by
  have hR : Rel P lo ⟨w, E0⟩ E0 (fun _ => none) w := ⟨Below.refl _ _, (fun k o h => by cases h), (fun k k' o o' b r r' h => by cases h), (fun k b r h1 h2 => by rw [hlo k h1] at h2; cases h2), hG, (fun k x h => h)⟩
  exact ((evalN_ok (I := trieI) hm H hK n).2 f args (st0 lo.lo) r s' h E0 (fun _ => none) w cargs hR (fun k hk => rfl) (fun k h1 _ => hlo k h1) ha).mono fun e w' ⟨E', _, he, hR'⟩ => ⟨E', he, hR'⟩
end Go.Am

/- The abstract evaluator: what is deferred, and what is caught. Conditions: none. -/
namespace Go.Am
open Go Go.RowKit
set_option linter.unusedVariables false
set_option linter.unusedSimpArgs false
noncomputable section
variable {μ : Type} {I : MemI μ} {P : Program} {lo : Lim} {w0 : Bs} {E : Env}

/-- How a frame is being left: it answers, or it panics (and may be caught). -/
inductive AMd where
  | ret
  | panic (v : Value) (caught : Bool)
def AMd.settle : AMd → AMd
  | .panic _ true => .ret
  | m => m
def MdR (E : Env) : AMd → FrameMode → Prop
  | .ret, .returning => True
  | .panic v c, .panicking ch => ∃ v', ch = [{ v := v', recovered := c }] ∧ VR E v v'
  | _, _ => False
theorem MdR.mono {E E' : Env} (hE : ∀ k x, E k = some x → E' k = some x) {u : AMd} {m : FrameMode} (h : MdR E u m) : MdR E' u m := by
  cases u <;> cases m <;> first | exact h.elim | trivial | skip
  obtain ⟨v', h1, h2⟩ := h
  exact ⟨v', h1, h2.mono hE⟩
theorem MdR.settle {u : AMd} {m : FrameMode} (h : MdR E u m) : MdR E u.settle (Go.settle m) := by
  cases u <;> cases m <;> first | exact h.elim | trivial | skip
  rename_i v c ch
  obtain ⟨v', rfl, h2⟩ := h
  cases c with
  | true => exact trivial
  | false => exact ⟨v', rfl, h2⟩

def isRec (o : Oper) : Bool := match o.op with
  | .call c => match c.callee with
    | .builtin .recover => true
    | _ => false
  | _ => false
abbrev SRes := (AExit × AAct) × AMd
def thenS (k : AAct → AMd → M I SRes) (u : AMd) (r : AExit × AAct) : M I SRes := match r with
  | (.normal, a1) => k a1 u
  | r => pure (r, u)
def recA (o : Oper) (k : AAct → AMd → M I SRes) (a : AAct) (u : AMd) : M I SRes := match u with
  | .panic v false => putA' a o.dst v >>= fun a1 => k a1 (.panic v true)
  | u => putA' a o.dst .nilIface >>= fun a1 => k a1 u
def opsS (P : Program) (X : Hk) (lo : Lim) (self : Self I) (ops : Array Oper) : List Oper → AAct → AMd → M I SRes
  | [], a, u => pure ((.normal, a), u)
  | o :: rest, a, u => bif wantedA ops a o && isRec o then recA o (opsS P X lo self ops rest) a u else opsSeq P X lo self ops [o] a >>= thenS (opsS P X lo self ops rest) u
def keepS (u : AMd) (r : AExit × AAct) : M I SRes := pure (r, u)
def thenU (k : AAct → AMd → M I SRes) (r : SRes) : M I SRes := match r with
  | ((.normal, a1), u1) => k a1 u1
  | r => pure r
/-- A body that is called as it was deferred. -/
def codeS (P : Program) (X : Hk) (lo : Lim) (self : Self I) : Code → AAct → AMd → M I SRes
  | .seq x y, a, u => codeS P X lo self x a u >>= thenU (codeS P X lo self y)
  | .region _ ops false, a, u => opsS P X lo self ops ops.toList a u
  | c, a, u => self.code c a >>= keepS u
def bodyS (r : SRes) : M I AMd := match r with
  | ((.normal, ⟨_, _, []⟩), u) => pure u
  | ((.ret, ⟨_, _, []⟩), u) => pure u
  | _ => fail
def frameA (args : Array Value) (fn : Func) : AAct := ⟨args.size + (fn.ntmps - args.size), fillT args.toList 0 .leaf, []⟩
/-- A call of what was deferred. -/
def callDA (P : Program) (X : Hk) (lo : Lim) (self : Self I) (f : FuncId) (args : Array Value) (u : AMd) : M I AMd := match P.funcs[f]? with
  | some fn => match fn.body with
    | some c => bif Nat.blt args.size 4000 && fn.results.isEmpty then codeS P X lo self c (frameA args fn) u >>= bodyS else fail
    | none => fail
  | none => fail
def endA (P : Program) (fn : Func) (a : AAct) (u : AMd) : M I AEnd := match u with
  | .ret => resA P fn a >>= fun v => pure (.ret v)
  | .panic v false => pure (.panic v)
  | _ => fail
def leavesA (P : Program) (X : Hk) (lo : Lim) (self : Self I) (fn : Func) (a : AAct) : List Deferred → AMd → M I AEnd
  | [], u => endA P fn a u
  | d :: ds, u => match d.target with
    | .fn (.func f) cap => bif X.X f then callDA P X lo self f (d.args ++ cap) u >>= fun u1 => leavesA P X lo self fn a ds u1.settle else fail
    | _ => fail
def bodyD (P : Program) (X : Hk) (lo : Lim) (self : Self I) (fn : Func) (r : AExit × AAct) : M I AEnd := match r.1 with
  | .normal => leavesA P X lo self fn r.2 r.2.defers .ret
  | .ret => leavesA P X lo self fn r.2 r.2.defers .ret
  | .panic v => leavesA P X lo self fn r.2 r.2.defers (.panic v false)
  | _ => fail
def enterD (P : Program) (X : Hk) (lo : Lim) (self : Self I) (args : Array Value) (fn : Func) : M I AEnd := match fn.body with
  | some c => bif Nat.blt args.size 4000 then self.code c (frameA args fn) >>= bodyD P X lo self fn else fail
  | none => fail
def bodyStepD (P : Program) (X : Hk) (lo : Lim) (self : Self I) (f : FuncId) (args : Array Value) : M I AEnd := match X.L f args.toList with
  | some v => pure (.ret v)
  | none => match P.funcs[f]? with
    | some fn => enterD P X lo self args fn
    | none => fail
def callStepD (P : Program) (X : Hk) (lo : Lim) (K : Hook I) (self : Self I) (f : FuncId) (args : Array Value) : M I AEnd := match K with
  | none => bodyStepD P X lo self f args
  | some h => match h f args with
    | some m => m
    | none => bodyStepD P X lo self f args
def evalD (P : Program) (X : Hk) (lo : Lim) (K : Hook I) : Nat → Self I
  | 0 => ⟨fun _ _ => fail, fun _ _ => fail⟩
  | n + 1 => ⟨codeStep P X lo (evalD P X lo K n), callStepD P X lo K (evalD P X lo K n)⟩
def runsD (P : Program) (X : Hk) (n : Nat) (f : FuncId) (args : Array Value) (p : Value → Bool) : Bool := match ((evalD (I := trieI) P X ⟨0, 0⟩ none n).call f args).run (st0 0) with
  | some (.ret v, _) => p v
  | _ => false

/-! ### Soundness -/
theorem upon_of_wpList {ops : Array Oper} {o : Oper} {ca : Act} {w : World} {Q : Exit → Act → World → Prop} (hw : Region.wanted o (yielded ops ca.tmps) = true) (hQ : ¬ LetsOut Q) (h : wpList P ops Q [o] ca w) : o.wp P ca w (fun a w => Q .normal a w) Q := by
  unfold wpList at h
  rw [if_pos hw] at h
  rcases h with h | h
  · exact h
  · exact absurd h.2 hQ
theorem frame_rel {args cargs : Array Value} {fn : Func} (hsz : args.size < 4000) (hargs : ARl E args cargs) : ActR E (frameA args fn) { tmps := cargs ++ Array.replicate (fn.ntmps - cargs.size) undef, defers := [] } := by
  unfold frameA
  refine ⟨by simp [hargs.1], fun i => ?_, rfl, fun j d d' h => by simp at h⟩
  unfold AAct.val
  simp only
  rw [fillT_get args.toList 0 .leaf i (by simp; omega)]
  simp only [Nat.zero_le, true_and, Nat.zero_add, Nat.sub_zero, Array.length_toList]
  by_cases hi : i < args.size
  · rw [if_pos hi]
    have hi' : i < cargs.size := by rw [← hargs.1]; exact hi
    have := hargs.2 args[i] cargs[i] i (by simp [hi]) (by simp [hi'])
    simpa [hi, hi', Array.getElem?_append] using this
  · rw [if_neg hi]
    have hi' : ¬ i < cargs.size := by rw [← hargs.1]; exact hi
    have : (cargs ++ Array.replicate (fn.ntmps - cargs.size) undef).getD i undef = undef := by
      simp [Array.getElem?_append, hi', Array.getElem?_replicate]
      split <;> rfl
    rw [this]
    exact VR.undef E
/-- What a body that was deferred promises. -/
def CodeSP (P : Program) (lo : Lim) (w0 : Bs) (m : M I SRes) (a : AAct) (u : AMd) (C : (Exit → Act → List Frame → World → Prop) → Act → List Frame → World → Prop) : Prop :=
  ∀ s e a' u' s', m.run s = some (((e, a'), u'), s') → ∀ E g w ca (c0 : Frame) (cs : List Frame) (um : FrameMode) Q, Rel P lo w0 E g w → Agree I s s' g → Fresh s s' E → ActR E a ca → MdR E u um →
    (∀ E' ce ca' (um' : FrameMode) w', Env.Ext E E' s.next s'.next → ExR E' e ce → ActR E' a' ca' → MdR E' u' um' → Rel P lo w0 E' (merge I s' g) w' → Q ce ca' ({ c0 with mode := um' } :: cs) w') →
    C Q ca ({ c0 with mode := um } :: cs) w
theorem sem_rec {o : Oper} (h : isRec o = true) (ρ : Operand → Value) (w : World) : (execOp ρ o).run P w = .ok .recover w := by
  unfold isRec at h
  split at h
  · rename_i c hc
    split at h
    · rename_i hb
      obtain ⟨callee, args, ts⟩ := c
      simp only at hb
      subst hb
      unfold execOp
      rw [hc]
      simp [resolve, invoke, builtin]
    · cases h
  · cases h

theorem wpOpsS_cons {ops : Array Oper} {o : Oper} {i : Nat} {rest : List Nat} {ca : Act} {cs : List Frame} {w : World} {Q : Exit → Act → List Frame → World → Prop} (ho : ops[i]? = some o) (hw : Region.wanted o (yielded ops ca.tmps) = true)
    {Q1 : Exit → Act → World → Prop} (h1 : o.wp P ca w (fun a w => Q1 .normal a w) Q1) (hn : ∀ a' w', Q1 .normal a' w' → wpOpsS P ops Q rest a' cs w') (hp : ∀ ch a' w', Q1 (.panic ch) a' w' → Q (.panic ch) a' cs w') (hl : ¬ LetsOut Q1) : wpOpsS P ops Q (i :: rest) ca cs w := by
  unfold wpOpsS
  simp only [ho, hw, if_true]
  unfold Oper.wp at h1
  generalize (execOp ca.eval o).run P w = r at h1
  cases r with
  | halt x w' =>
    cases x <;> first | exact h1.elim | exact hp _ _ _ h1
  | ok n w' =>
    cases n <;> first | exact h1.elim | exact hn _ _ h1 | skip
    · refine Calls.mono h1 fun e w2 he => ?_
      cases e with
      | returned v => exact hn _ _ he
      | panicked ch => exact hp _ _ _ he
      | outgrown => exact absurd he hl
    · exact Rows.mono h1 fun v w2 he => hn _ _ he
theorem opsS_ok {X : Hk} (hX : Plain P X) {self : Self I} (hc : CallOK P lo w0 self.call) {ops : Array Oper} : ∀ (is : List Nat) (l : List Oper), is.map (fun i => ops[i]?) = l.map some → ∀ (a : AAct) (u : AMd), CodeSP P lo w0 (opsS P X lo self ops l a u) a u (fun Q ca cs w => wpOpsS P ops Q is ca cs w)
  | [], [], _, a, u => by
    intro s e a' u' s' hr E g w ca c0 cs um Q hR hA hF ha hu hQ
    obtain ⟨h1, rfl⟩ := pure_run hr
    cases h1
    exact hQ E .normal ca um w (.refl _ _) trivial ha hu (by rw [merge_read hA (fun _ => rfl) (fun _ => rfl)]; exact hR)
  | [], _ :: _, h, a, u => by simp at h
  | _ :: _, [], h, a, u => by simp at h
  | i :: is, o :: rest, h, a, u => by
    intro s e a' u' s' hr E g w ca c0 cs um Q hR hA hF ha hu hQ
    simp only [List.map_cons, List.cons.injEq] at h
    obtain ⟨ho, h⟩ := h
    have hw := wantedA_eq (ops := ops) ha o
    unfold opsS at hr
    cases hwr : (wantedA ops a o && isRec o) with
    | true =>
      rw [hwr, cond_true] at hr
      simp only [Bool.and_eq_true] at hwr
      rw [hwr.1] at hw
      have hrec := sem_rec (P := P) hwr.2 ca.eval w
      unfold wpOpsS
      simp only [ho, hw, if_true, hrec]
      have go : ∀ (v v' : Value) (u1 : AMd) (um1 : FrameMode), VR E v v' → MdR E u1 um1 → (putA' a o.dst v >>= fun a1 => opsS P X lo self ops rest a1 u1).run s = some (((e, a'), u'), s') → wpOpsS P ops Q is (ca.put o.dst v') ({ c0 with mode := um1 } :: cs) w := fun v v' u1 um1 hv hu1 hr => by
        obtain ⟨a1, s1, h1, h2⟩ := bind_run hr
        obtain ⟨rfl, ha1⟩ := ha.put hv h1
        exact opsS_ok hX hc is rest h a1 u1 _ e a' u' s' h2 E g w _ c0 cs um1 Q hR hA hF ha1 hu1 hQ
      have hnil : VR E .nilIface .nilIface := gnd_refl E 3 .nilIface rfl
      cases u with
      | ret =>
        cases um <;> first | exact (show False from hu).elim | skip
        exact go .nilIface .nilIface .ret .returning hnil trivial hr
      | panic v c =>
        cases um <;> first | exact (show False from hu).elim | skip
        obtain ⟨v', rfl, hv⟩ := hu
        cases c with
        | false => exact go v v' (.panic v true) (.panicking [{ v := v', recovered := true }]) hv ⟨v', rfl, hv⟩ hr
        | true => exact go .nilIface .nilIface (.panic v true) (.panicking [{ v := v', recovered := true }]) hnil ⟨v', rfl, hv⟩ hr
    | false =>
      rw [hwr, cond_false] at hr
      obtain ⟨⟨e1, a1⟩, s1, h1, h2⟩ := bind_run hr
      have hle : St.Le I s1 s' := M.le _ _ _ _ h2
      have hx := opsSeq_ok hX hc (ops := ops) [o] a s e1 a1 s1 h1 E g w ca (fun ce ca1 w1 => ∃ E1, Env.Ext E E1 s.next s1.next ∧ ExR E1 e1 ce ∧ ActR E1 a1 ca1 ∧ Rel P lo w0 E1 (merge I s1 g) w1) hR (hA.first hle) (hF.first hle.next) ha fun E' ce ca' w' k1 k2 k3 k4 => ⟨E', k1, k2, k3, k4⟩
      have hn : ∀ ca1 w1, (∃ E1, Env.Ext E E1 s.next s1.next ∧ ExR E1 e1 .normal ∧ ActR E1 a1 ca1 ∧ Rel P lo w0 E1 (merge I s1 g) w1) → wpOpsS P ops Q is ca1 ({ c0 with mode := um } :: cs) w1 := fun ca1 w1 ⟨E1, k1, k2, k3, k4⟩ => by
        obtain ⟨hA1, hF1, hX1, hm1⟩ := chain h1 hle hA hF k1
        cases e1 <;> first | exact k2.elim | skip
        exact opsS_ok hX hc is rest h a1 u s1 e a' u' s' h2 E1 _ w1 ca1 c0 cs um Q k4 hA1 hF1 k3 (hu.mono k1.keep) fun E' ce ca' um' w' q1 q2 q3 q4 q5 => hQ E' ce ca' um' w' (hX1 E' q1) q2 q3 q4 (by rw [hm1] at q5; exact q5)
      have hp : ∀ ch ca1 w1, (∃ E1, Env.Ext E E1 s.next s1.next ∧ ExR E1 e1 (.panic ch) ∧ ActR E1 a1 ca1 ∧ Rel P lo w0 E1 (merge I s1 g) w1) → Q (.panic ch) ca1 ({ c0 with mode := um } :: cs) w1 := fun ch ca1 w1 ⟨E1, k1, k2, k3, k4⟩ => by
        cases e1 <;> first | exact k2.elim | skip
        obtain ⟨q1, rfl⟩ := pure_run h2
        cases q1
        exact hQ E1 _ ca1 um w1 k1 k2 k3 (hu.mono k1.keep) k4
      cases hwa : wantedA ops a o with
      | true =>
        rw [hwa] at hw
        have hl : ¬ LetsOut (fun ce ca1 w1 => ∃ E1, Env.Ext E E1 s.next s1.next ∧ ExR E1 e1 ce ∧ ActR E1 a1 ca1 ∧ Rel P lo w0 E1 (merge I s1 g) w1) := fun ⟨a0, w00, E1, _, k2, _⟩ => by
          cases e1 <;> exact k2.elim
        exact wpOpsS_cons ho hw (upon_of_wpList hw hl hx) hn hp hl
      | false =>
        rw [hwa] at hw
        unfold wpList at hx
        rw [hw, if_neg (by simp)] at hx
        unfold wpOpsS
        simp only [ho, hw, Bool.false_eq_true, if_false]
        exact hn _ _ hx
theorem codeS_ok {X : Hk} (hX : Plain P X) {self : Self I} (hcd : CodeOK P lo w0 self.code) (hc : CallOK P lo w0 self.call) : ∀ (c : Code) (a : AAct) (u : AMd), CodeSP P lo w0 (codeS P X lo self c a u) a u (fun Q ca cs w => c.wpS P Q ca cs w) := by
  have plain : ∀ (c : Code) (a : AAct) (u : AMd), CodeSP P lo w0 (self.code c a >>= keepS u) a u (fun Q ca cs w => c.wpS P Q ca cs w) := fun c a u => by
    intro s e a' u' s' hr E g w ca c0 cs um Q hR hA hF ha hu hQ
    obtain ⟨⟨e1, a1⟩, s1, h1, h2⟩ := bind_run hr
    obtain ⟨q1, rfl⟩ := pure_run h2
    cases q1
    exact wpS_of_wp (hcd c a s _ _ _ h1 E g w ca _ hR hA hF ha fun E' ce ca' w' k1 k2 k3 k4 => hQ E' ce ca' um w' k1 k2 k3 (hu.mono k1.keep) k4)
  intro c
  induction c with
  | seq x y ihx ihy =>
    intro a u s e a' u' s' hr E g w ca c0 cs um Q hR hA hF ha hu hQ
    obtain ⟨⟨⟨e1, a1⟩, u1⟩, s1, h1, h2⟩ := bind_run (m := codeS P X lo self x a u) hr
    have hle : St.Le I s1 s' := M.le _ _ _ _ h2
    refine wpS_seq (ihx a u s e1 a1 u1 s1 h1 E g w ca c0 cs um _ hR (hA.first hle) (hF.first hle.next) ha hu fun E1 ce ca1 um1 w1 k1 k2 k3 k4 k5 => ?_)
    obtain ⟨hA1, hF1, hX1, hm1⟩ := chain h1 hle hA hF k1
    cases e1 with
    | normal =>
      cases ce <;> first | exact k2.elim | skip
      exact ihy a1 u1 s1 e a' u' s' h2 E1 _ w1 ca1 c0 cs um1 Q k5 hA1 hF1 k3 k4 fun E' ce ca' um' w' q1 q2 q3 q4 q5 => hQ E' ce ca' um' w' (hX1 E' q1) q2 q3 q4 (by rw [hm1] at q5; exact q5)
    | exit id =>
      obtain ⟨h3, rfl⟩ := pure_run h2
      cases h3
      cases ce <;> first | exact k2.elim | exact hQ E1 _ ca1 um1 w1 k1 k2 k3 k4 k5
    | ret =>
      obtain ⟨h3, rfl⟩ := pure_run h2
      cases h3
      cases ce <;> first | exact k2.elim | exact hQ E1 _ ca1 um1 w1 k1 k2 k3 k4 k5
    | panic v =>
      obtain ⟨h3, rfl⟩ := pure_run h2
      cases h3
      cases ce <;> first | exact k2.elim | exact hQ E1 _ ca1 um1 w1 k1 k2 k3 k4 k5
  | region id ops draw =>
    cases draw with
    | true => exact fun a u => plain _ a u
    | false =>
      intro a u s e a' u' s' hr E g w ca c0 cs um Q hR hA hF ha hu hQ
      refine wpS_region (opsS_ok hX hc (List.range ops.size) ops.toList ?_ a u s e a' u' s' hr E g w ca c0 cs um Q hR hA hF ha hu hQ)
      apply List.ext_getElem (by simp)
      intro i h1 h2
      simp at h1 h2
      simp [h1]
  | skip => exact fun a u => plain _ a u
  | cond c x y _ _ => exact fun a u => plain _ a u
  | block id b _ => exact fun a u => plain _ a u
  | loop b _ => exact fun a u => plain _ a u
  | rangeFunc f ps x y _ _ => exact fun a u => plain _ a u
  | exit id => exact fun a u => plain _ a u
  | scope b _ => exact fun a u => plain _ a u
  | label l => exact fun a u => plain _ a u
  | goto l => exact fun a u => plain _ a u
  | ret => exact fun a u => plain _ a u
  | refuse why => exact fun a u => plain _ a u

theorem res_empty {fn : Func} (h : fn.results.isEmpty = true) (tmps : Array Value) (w : World) : (results fn tmps).run P w = .ok (.tuple #[]) w := by
  have : fn.results = #[] := by simpa using h
  unfold results
  rw [this]
  simp
theorem callDA_ok {X : Hk} (hX : Plain P X) {self : Self I} (hcd : CodeOK P lo w0 self.code) (hc : CallOK P lo w0 self.call) {f : FuncId} {args : Array Value} {u u' : AMd} {s s' : St μ} (hr : (callDA P X lo self f args u).run s = some (u', s'))
    {E : Env} {g : Nat → Option Obj} {w : World} {cargs : Array Value} {um : FrameMode} (hR : Rel P lo w0 E g w) (hA : Agree I s s' g) (hF : Fresh s s' E) (hargs : ARl E args cargs) (hu : MdR E u um) :
    CallsD P f cargs um w fun e um' w' => ∃ E' v, e = .returned v ∧ Env.Ext E E' s.next s'.next ∧ MdR E' u' um' ∧ Rel P lo w0 E' (merge I s' g) w' := by
  unfold callDA at hr
  split at hr
  · rename_i fn hf
    split at hr
    · rename_i c hb
      cases hsz : (Nat.blt args.size 4000 && fn.results.isEmpty) with
      | false => rw [hsz] at hr; exact (fail_run hr).elim
      | true =>
        rw [hsz, cond_true] at hr
        simp only [Bool.and_eq_true, blt_eq, decide_eq_true_eq] at hsz
        obtain ⟨⟨⟨e1, a1⟩, u1⟩, s1, h1, h2⟩ := bind_run hr
        have hle : St.Le I s1 s' := M.le _ _ _ _ h2
        have hend : (e1 = .normal ∨ e1 = .ret) ∧ a1.defers = [] ∧ u1 = u' ∧ s1 = s' := by
          unfold bodyS at h2
          split at h2
          · rename_i hh
            obtain ⟨q1, q2⟩ := pure_run h2
            cases hh
            exact ⟨.inl rfl, rfl, q1.symm, q2.symm⟩
          · rename_i hh
            obtain ⟨q1, q2⟩ := pure_run h2
            cases hh
            exact ⟨.inr rfl, rfl, q1.symm, q2.symm⟩
          · exact (fail_run h2).elim
        obtain ⟨he1, hd1, rfl, rfl⟩ := hend
        refine callsD_of_wpS hf hb fun c0 cs hc0 => ?_
        have hc0' : c0 = { c0 with mode := um } := by rw [← hc0]
        rw [hc0']
        refine codeS_ok hX hcd hc c _ u s e1 a1 u1 s1 h1 E g w _ c0 cs um _ hR hA hF (frame_rel hsz.1 hargs) hu fun E' ce ca' um' w' k1 k2 k3 k4 k5 => ?_
        have hdd : ca'.defers = [] := by
          have := k3.len
          rw [hd1] at this
          exact List.eq_nil_of_length_eq_zero (by simpa using this.symm)
        rcases he1 with rfl | rfl
        · cases ce <;> first | exact k2.elim | exact ⟨hdd, um', rfl, _, res_empty hsz.2 _ _, E', _, rfl, k1, k4, k5⟩
        · cases ce <;> first | exact k2.elim | exact ⟨hdd, um', rfl, _, res_empty hsz.2 _ _, E', _, rfl, k1, k4, k5⟩
    · exact (fail_run hr).elim
  · exact (fail_run hr).elim
theorem leaves_ok {X : Hk} (hX : Plain P X) {self : Self I} (hcd : CodeOK P lo w0 self.code) (hc : CallOK P lo w0 self.call) {fn : Func} {a : AAct} : ∀ (ds : List Deferred) (u : AMd) (s : St μ) (r : AEnd) (s' : St μ), (leavesA P X lo self fn a ds u).run s = some (r, s') →
    ∀ (E : Env) (g : Nat → Option Obj) (w : World) (tmps : Array Value) (ds' : List Deferred) (um : FrameMode) (R : Ending → World → Prop), Rel P lo w0 E g w → Agree I s s' g → Fresh s s' E → (∀ i, VR E (a.val i) (tmps.getD i undef)) → MdR E u um →
      ds.length = ds'.length → (∀ (j : Nat) (d d' : Deferred), ds[j]? = some d → ds'[j]? = some d' → DR E d d') →
      (∀ E' e w', Env.Ext E E' s.next s'.next → EnR E' r e → Rel P lo w0 E' (merge I s' g) w' → R e w') → Leaves P fn tmps R ds' um w
  | [], u, s, r, s', hr, E, g, w, tmps, ds', um, R, hR, hA, hF, hv, hu, hlen, _, hQ => by
    obtain rfl : ds' = [] := List.eq_nil_of_length_eq_zero (by simpa using hlen.symm)
    unfold leavesA endA at hr
    split at hr
    · cases um <;> first | exact (show False from hu).elim | skip
      obtain ⟨v, s2, h4, h5⟩ := bind_run hr
      obtain ⟨rfl, rfl⟩ := pure_run h5
      obtain ⟨E2, v', w2, k1, k2, k3, k4⟩ := sim_resA (P := P) (lo := lo) (w0 := w0) (E := E) (fn := fn) (ca := { tmps := tmps, defers := [] }) hv s v s' h4 E _ w (fun _ _ h => h) hR hA hF trivial
      have := stl_results (P := P) fn tmps w v' w2 k1
      subst this
      exact ⟨v', k1, hQ E2 _ _ k2 k3 k4⟩
    · cases um <;> first | exact (show False from hu).elim | skip
      obtain ⟨v', rfl, hv'⟩ := hu
      obtain ⟨rfl, rfl⟩ := pure_run hr
      exact hQ E _ w (.refl _ _) ⟨v', rfl, hv'⟩ (by rw [merge_read hA (fun _ => rfl) (fun _ => rfl)]; exact hR)
    · exact (fail_run hr).elim
  | d :: ds, u, s, r, s', hr, E, g, w, tmps, [], um, R, hR, hA, hF, hv, hu, hlen, hds, hQ => by simp at hlen
  | d :: ds, u, s, r, s', hr, E, g, w, tmps, d' :: ds', um, R, hR, hA, hF, hv, hu, hlen, hds, hQ => by
    obtain ⟨f, cap, cap', ht, ht', hcap, hargs⟩ := hds 0 d d' rfl rfl
    unfold leavesA at hr
    rw [ht] at hr
    simp only at hr
    cases hx : X.X f with
    | false => rw [hx] at hr; exact (fail_run hr).elim
    | true =>
      rw [hx, cond_true] at hr
      obtain ⟨u1, s1, h1, h2⟩ := bind_run hr
      have hle : St.Le I s1 s' := M.le _ _ _ _ h2
      obtain ⟨fn', g1, g2, g3⟩ := hX.x f hx
      have g3' : fn'.body ≠ none := fun e => by rw [e] at g3; cases g3
      have g2' : ¬ fn'.name = "runtime.NumGoroutine" := by simpa using g2
      have hne : um ≠ .run := fun e => by subst e; cases u <;> exact (show False from hu).elim
      refine ⟨hne, .func f, cap', f, d'.args ++ cap', ht', ?_, ?_⟩
      · rw [ht']
        simp [invoke, callFunc, g1, g2', g3']
      · refine (callDA_ok hX hcd hc h1 hR (hA.first hle) (hF.first hle.next) (ARl.append hargs hcap) hu).mono fun e um1 w1 ⟨E1, v, he, k1, k2, k3⟩ => ?_
        subst he
        obtain ⟨hA1, hF1, hX1, hm1⟩ := chain h1 hle hA hF k1
        exact leaves_ok hX hcd hc ds u1.settle s1 r s' h2 E1 _ w1 tmps ds' _ R k3 hA1 hF1 (fun i => (hv i).mono k1.keep) k2.settle (by simpa using hlen) (fun j x y hx hy => (hds (j + 1) x y (by simpa using hx) (by simpa using hy)).mono k1.keep)
          fun E' e w' q1 q2 q3 => hQ E' e w' (hX1 E' q1) q2 (by rw [hm1] at q3; exact q3)
theorem call_okD {X : Hk} (H : Plain P X) {self : Self I} (hcd : CodeOK P lo w0 self.code) (hc : CallOK P lo w0 self.call) : CallOK P lo w0 (bodyStepD P X lo self) := by
  intro f args s r s' hr E g w cargs hR hA hF hargs
  unfold bodyStepD at hr
  split at hr
  · rename_i v hl
    obtain ⟨rfl, rfl⟩ := pure_run hr
    obtain ⟨l1, l2, l3⟩ := H.l f _ v hl
    have he := hargs.gnd l1
    have := l3 w
    rw [show args.toList.toArray = args by simp, ← he] at this
    refine this.mono fun e w' ⟨h1, h2⟩ => ⟨E, .refl _ _, ?_, ?_⟩
    · subst h1; exact gnd_refl E 3 v l2
    · rw [merge_read hA (fun _ => rfl) (fun _ => rfl)]; exact hR.below' h2
  · split at hr
    · rename_i fn hf
      unfold enterD at hr
      split at hr
      · rename_i c hb
        cases hsz : Nat.blt args.size 4000 with
        | false => simp only [hsz] at hr; exact (fail_run hr).elim
        | true =>
          simp only [hsz, cond_true] at hr
          rw [blt_eq, decide_eq_true_eq] at hsz
          obtain ⟨⟨x, a1⟩, s1, h1, h2⟩ := bind_run hr
          have hle : St.Le I s1 s' := M.le _ _ _ _ h2
          refine calls_of_wp_defers hf hb ?_
          refine hcd c _ s x a1 s1 h1 E g w _ _ hR (hA.first hle) (hF.first hle.next) (frame_rel hsz hargs) fun E1 ce ca1 w1 hx1 he1 ha1 hR1 => ?_
          obtain ⟨hA1, hF1, hX1, hm1⟩ := chain h1 hle hA hF hx1
          have leave : ∀ u um, MdR E1 u um → (leavesA P X lo self fn a1 a1.defers u).run s1 = some (r, s') → Leaves P fn ca1.tmps (fun e w' => ∃ E', Env.Ext E E' s.next s'.next ∧ EnR E' r e ∧ Rel P lo w0 E' (merge I s' g) w') ca1.defers um w1 := fun u um hu h3 =>
            leaves_ok H hcd hc a1.defers u s1 r s' h3 E1 _ w1 ca1.tmps ca1.defers um _ hR1 hA1 hF1 ha1.val hu ha1.len ha1.defers fun E' e w' q1 q2 q3 => ⟨E', hX1 E' q1, q2, by rw [hm1] at q3; exact q3⟩
          cases x with
          | normal =>
            cases ce <;> simp only [ExR] at he1 <;> first | exact he1.elim | skip
            exact leave .ret .returning trivial h2
          | ret =>
            cases ce <;> simp only [ExR] at he1 <;> first | exact he1.elim | skip
            exact leave .ret .returning trivial h2
          | exit j => exact (fail_run h2).elim
          | panic v =>
            cases ce <;> simp only [ExR] at he1 <;> first | exact he1.elim | skip
            exact leave (.panic v false) (.panicking _) he1 h2
      · exact (fail_run hr).elim
    · exact (fail_run hr).elim
theorem evalD_ok (hm : P.follows .mixedOrders = true) {X : Hk} (H : Plain P X) {K : Hook I} (hK : HookOK P lo w0 K) : ∀ n, CodeOK P lo w0 (evalD (I := I) P X lo K n).code ∧ CallOK P lo w0 (evalD (I := I) P X lo K n).call
  | 0 => ⟨fun c a s e a' s' hr => (fail_run hr).elim, fun f args s r s' hr => (fail_run hr).elim⟩
  | n + 1 => ⟨code_ok hm H (evalD_ok hm H hK n).1 (evalD_ok hm H hK n).2, by
      have hb := call_okD H (evalD_ok hm H hK n).1 (evalD_ok hm H hK n).2
      intro f args s r s' hr E g w cargs hR hA hF hargs
      change (callStepD P X lo K (evalD P X lo K n) f args).run s = _ at hr
      unfold callStepD at hr
      split at hr
      · exact hb f args s r s' hr E g w cargs hR hA hF hargs
      · rename_i h
        split at hr
        · rename_i m hm
          exact hK h rfl f args m hm s r s' hr E g w cargs hR hA hF hargs
        · exact hb f args s r s' hr E g w cargs hR hA hF hargs⟩
/-- A call on plain values alone, run by the kernel: so it comes on every tape, in every memory. -/
theorem runsD_calls (hm : P.follows .mixedOrders = true) {X : Hk} (H : Plain P X) {n : Nat} {f : FuncId} {args : Array Value} {p : Value → Bool} (h : runsD P X n f args p = true) (hg : args.toList.all (gnd 3) = true) (w : World) :
    Calls P f args w fun e w' => ∃ (v v' : Value) (E : Env), p v = true ∧ e = .returned v' ∧ VR E v v' ∧ Below w.heap.size w w' := by
  unfold runsD at h
  split at h
  · rename_i v s' hr
    have hR : Rel P ⟨0, 0⟩ ⟨w, fun _ => none⟩ (fun _ => none) (fun _ => none) w := ⟨Below.refl _ _, (fun k o h => by cases h), (fun k k' o o' b r r' h => by cases h), (fun k b r _ h => by cases h), (fun k h => absurd h (Nat.not_lt_zero k)), (fun k x h => by cases h)⟩
    have hself : ARl (fun _ => none) args args := ⟨rfl, fun a c j ha hc => by rw [ha] at hc; cases hc; exact gnd_refl _ 3 a (all_getElem? hg ha)⟩
    have := (evalD_ok (I := trieI) (lo := ⟨0, 0⟩) (w0 := ⟨w, fun _ => none⟩) hm H (K := none) (fun h e => by cases e) n).2 f args (st0 0) (.ret v) s' hr (fun _ => none) (fun _ => none) w args hR (fun k hk => rfl) (fun k _ _ => rfl) hself
    refine this.mono fun e w' ⟨E, _, he, hR'⟩ => ?_
    cases e with
    | returned v' => exact ⟨v, v', E, h, rfl, he, hR'.below⟩
    | panicked c => exact he.elim
    | outgrown => exact he.elim
  · cases h
/-- A call whose arguments bear names, with what is known of its callees. -/
theorem runsD_named (hm : P.follows .mixedOrders = true) {X : Hk} (H : Plain P X) {lo : Lim} {K : Hook trieI} {w : World} {E0 : Env} (hK : HookOK P lo ⟨w, E0⟩ K) (hG : ∀ k, k < lo.G → E0 k = some (k, 0)) (hlo : ∀ k, lo.lo ≤ k → E0 k = none) {n : Nat} {f : FuncId} {args cargs : Array Value} {r : AEnd} {s' : St (Trie Obj)}
    (h : ((evalD (I := trieI) P X lo K n).call f args).run (st0 lo.lo) = some (r, s')) (ha : ARl E0 args cargs) :
    Calls P f cargs w fun e w' => ∃ E', EnR E' r e ∧ Rel P lo ⟨w, E0⟩ E' (merge trieI s' fun _ => none) w' := by
  have hR : Rel P lo ⟨w, E0⟩ E0 (fun _ => none) w := ⟨Below.refl _ _, (fun k o h => by cases h), (fun k k' o o' b r r' h => by cases h), (fun k b r h1 h2 => by rw [hlo k h1] at h2; cases h2), hG, (fun k x h => h)⟩
  exact ((evalD_ok (I := trieI) hm H hK n).2 f args (st0 lo.lo) r s' h E0 (fun _ => none) w cargs hR (fun k hk => rfl) (fun k h1 _ => hlo k h1) ha).mono fun e w' ⟨E', _, he, hR'⟩ => ⟨E', he, hR'⟩
end
end Go.Am
