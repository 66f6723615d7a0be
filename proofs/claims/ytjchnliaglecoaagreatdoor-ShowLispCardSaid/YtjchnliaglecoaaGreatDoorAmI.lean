/- The abstract evaluator: any one operation. Conditions: none. -/
import Derived.RangeFuncNested
import Derived.Test.YtjchnliaglecoaaGreatDoorAmHX
set_option linter.unusedVariables false
set_option linter.unusedSimpArgs false
namespace Go.Am
open Go Go.RowKit
set_option linter.unusedVariables false
set_option linter.unusedSimpArgs false
variable {μ : Type} {I : MemI μ} {P : Program} {lo : Lim} {w0 : Bs} {E : Env} {H : (Nat → Option Obj) → Prop}

/-- What is known of the functions: X, those that are called as they stand (they have a body); Z, answers of functions without a body; L, answers that are known by a contract. -/
structure Hk where
  X : FuncId → Bool
  Z : FuncId → List Value → Option Value
  L : FuncId → List Value → Option Value
structure Plain (P : Program) (h : Hk) (W0 : World) : Prop where
  x : ∀ f, h.X f = true → ∃ fn, P.funcs[f]? = some fn ∧ (fn.name == "runtime.NumGoroutine") = false ∧ fn.body.isNone = false
  z : ∀ f vs v, h.Z f vs = some v → vs.all (gnd 3) = true ∧ gnd 3 v = true ∧ ∀ w, (callFunc f vs.toArray).run P w = .ok (.value v) w
  l : ∀ f vs v, h.L f vs = some v → vs.all (gnd 3) = true ∧ gnd 3 v = true ∧ ∀ w, Below W0.heap.size W0 w → Calls P f vs.toArray w fun e w' => e = .returned v ∧ Below w.heap.size w w'
theorem ARl.gnd {as cs : Array Value} (h : ARl E as cs) (hg : as.toList.all (gnd 3) = true) : cs = as :=
  VR.arr_eq (E := E) h.1 hg fun a c j ha hc hga => gnd_eq (h.2 a c j ha hc) 3 hga

def builtinA (P : Program) (lo : Lim) (ev : Ev) (o : Oper) (b : Builtin) (args : Array Operand) (ts : Array TypeId) : M I OpRes :=
  match b, args, ts with
  | .append, ⟨[s, x]⟩, ⟨[st, xt]⟩ => arg ev s >>= fun sv => arg ev x >>= fun xv => liftV (appendA P lo st xt sv xv)
  | .copy, ⟨[d, x]⟩, ⟨[dt, _]⟩ => arg ev d >>= fun dv => arg ev x >>= fun xv => liftV (copyA P lo dt dv xv)
  | .len, ⟨[x]⟩, ⟨[t]⟩ => arg ev x >>= fun xv => liftV (lenA P t xv)
  | .cap, ⟨[x]⟩, ⟨[t]⟩ => arg ev x >>= fun xv => liftV (capA P t xv)
  | .recover, _, _ => pure .recover
  | .append, _, _ | .copy, _, _ | .len, _, _ | .cap, _, _ | .clear, _, _ | .close, _, _ | .delete, _, _ | .panic, _, _ | .print, _, _ | .println, _, _ => fail
  | _, _, _ => pureOp P ev o

/-- What a round's frame holds. -/
def roundTmps (ps : List Tmp) (vs : List Value) (ts : Array Value) : Array Value := (ps.zip vs).foldl (fun t (i, v) => t.setIfInBounds i v) ts
theorem zip_fold (ps : Array Tmp) (vs : Array Value) (ts : Array Value) : (ps.zip vs).foldl (fun tmps (t, a) => tmps.setIfInBounds t a) ts = roundTmps ps.toList vs.toList ts := by
  unfold roundTmps
  rw [← Array.foldl_toList, Array.toList_zip]
theorem roundTmps_rel : ∀ (ps : List Tmp) (vs cs : List Value) (ts ts' : Array Value), ARl E ts ts' → LR E vs cs → ARl E (roundTmps ps vs ts) (roundTmps ps cs ts')
  | [], vs, cs, ts, ts', h, hv => by simpa [roundTmps] using h
  | p :: ps, [], cs, ts, ts', h, hv => by
    have : cs = [] := List.eq_nil_of_length_eq_zero hv.1.symm
    subst this
    simpa [roundTmps] using h
  | p :: ps, v :: vs, [], ts, ts', h, hv => by have := hv.1; simp at this
  | p :: ps, v :: vs, c :: cs, ts, ts', h, hv => by
    have h1 : ARl E (ts.setIfInBounds p v) (ts'.setIfInBounds p c) := by
      refine ⟨by simpa using h.1, fun a b j ha hb => ?_⟩
      rw [Array.getElem?_setIfInBounds] at ha hb
      by_cases e : p = j
      · subst e
        rw [if_pos rfl] at ha hb
        split at ha <;> split at hb <;> first | (cases ha; cases hb; exact hv.2 v c 0 rfl rfl) | (cases ha; done) | (cases hb; done)
      · rw [if_neg e] at ha hb
        exact h.2 a b j ha hb
    have h2 : LR E vs cs := ⟨by have := hv.1; simpa using this, fun a b j ha hb => hv.2 a b (j + 1) (by simpa using ha) (by simpa using hb)⟩
    exact roundTmps_rel ps vs cs _ _ h1 h2
def yieldA (k : Nat) (vs : List Value) : M I OpRes := rd k >>= fun o => match o with
  | .loop r => bif Nat.beq vs.length r.params.size then pure (.round k (roundTmps r.params.toList vs r.tmps) r.assign r.body) else fail
  | _ => fail
def callA (X : Hk) (ev : Ev) (fv : Operand) (args : Array Operand) : M I OpRes := match ev fv, evs ev args.toList with
  | some (.func (.func f) first cap), some vs => bif X.X f then pure (.call f (first ++ vs.toArray ++ cap)) else match X.Z f (first ++ vs.toArray ++ cap).toList with
    | some v => pure (.val v)
    | none => fail
  | some (.func (.yield k) _ _), some vs => yieldA k vs
  | _, _ => fail
def deferA (ev : Ev) (fv : Operand) (args : Array Operand) : M I OpRes := match ev fv, evs ev args.toList with
  | some (.func (.func f) first cap), some vs => pure (.defer { target := .fn (.func f) cap, args := first ++ vs.toArray })
  | _, _ => fail

def isStr (P : Program) (t : TypeId) : Bool := match P.underlying t with
  | some .string => true
  | _ => false

def nilCheckA (x : Value) : M I Value := match x with
  | .pointer (some _) => pure x
  | .iface _ _ => pure x
  | .func (.func _) _ _ => pure x
  | _ => fail
def extractA (x : Value) (i : Nat) : M I Value := match x with
  | .tuple vs => match vs[i]? with
    | some v => pure v
    | none => fail
  | _ => fail
def pickA (c a b : Value) : M I Value := match c with
  | .bool true => pure a
  | .bool false => pure b
  | _ => fail
def kindEq : IntKind → IntKind → Bool
  | .i8, .i8 | .i16, .i16 | .i32, .i32 | .i64, .i64 | .u8, .u8 | .u16, .u16 | .u32, .u32 | .u64, .u64 => true
  | _, _ => false
theorem kindEq_eq {j k : IntKind} (h : kindEq j k = true) : j = k := by cases j <;> cases k <;> first | rfl | (simp [kindEq] at h)
/-- Whole numbers. -/
def fastInt (op : BinOp) (k : IntKind) (a b : Int) : Option Value := match op with
  | .add => some (.int k (k.wrap (a + b)))
  | .sub => some (.int k (k.wrap (a - b)))
  | .mul => some (.int k (k.wrap (a * b)))
  | .eql => some (.bool (a == b))
  | .neq => some (.bool (a != b))
  | .lss => some (.bool (decide (a < b)))
  | .leq => some (.bool (decide (a ≤ b)))
  | .gtr => some (.bool (decide (a > b)))
  | .geq => some (.bool (decide (a ≥ b)))
  | _ => none
def fastBin (op : BinOp) (x y : Value) : Option Value := match x, y with
  | .int k a, .int k' b => bif kindEq k k' then fastInt op k a b else none
  | _, _ => none
theorem fastBin_run {op : BinOp} {t : TypeId} {X Y : Operand} {x y v : Value} (h : fastBin op x y = some v) (w : World) : (do eqGuard op t X Y x y; binOp op t x y : Sem Value).run P w = .ok v w ∧ gnd 0 v = true := by
  unfold fastBin at h
  split at h
  · rename_i k a k' b
    cases hk : kindEq k k' with
    | false => rw [hk] at h; cases h
    | true =>
      rw [hk] at h
      have := kindEq_eq hk
      subst this
      simp only [cond_true] at h
      unfold fastInt at h
      split at h <;> cases h <;> exact ⟨by simp [eqGuard, binOp, Op.intArith, Op.intCmp], rfl⟩
  · cases h
def eqNilA (P : Program) (op : BinOp) (t : TypeId) (x y : Value) : M I OpRes := match op with
  | .eql => match eqNil P t x y with
    | some b => pure (.val (.bool b))
    | none => fail
  | .neq => match eqNil P t x y with
    | some b => pure (.val (.bool (!b)))
    | none => fail
  | _ => fail
def binA (P : Program) (ev : Ev) (o : Oper) (op : BinOp) (t : TypeId) (x y : Value) : M I OpRes := match fastBin op x y with
  | some v => pure (.val v)
  | none => bif gnd 3 x && gnd 3 y then pureOp P ev o else eqNilA P op t x y
/-- Whole numbers turned. -/
def convInt (P : Program) (s d : TypeId) (x : Value) : Option Value := match x with
  | .int _ n => match P.underlying s, P.underlying d with
    | some _, some (.int k) => some (.int k (k.wrap n))
    | _, _ => none
  | _ => none
def convB (P : Program) (ev : Ev) (o : Oper) (s d : TypeId) (x : Value) : M I OpRes := bif gnd 3 x then pureOp P ev o else liftV (strA P s d x)
def convA (P : Program) (ev : Ev) (o : Oper) (s d : TypeId) (x : Value) : M I OpRes := match convInt P s d x with
  | some v => pure (.val v)
  | none => convB P ev o s d x

def s1 (ev : Ev) (x : Operand) (f : Value → M I Value) : M I OpRes := arg ev x >>= fun v => liftV (f v)
def s2 (ev : Ev) (x y : Operand) (f : Value → Value → M I Value) : M I OpRes := arg ev x >>= fun v => arg ev y >>= fun u => liftV (f v u)
def sPick (ev : Ev) (c a b : Operand) : M I OpRes := arg ev c >>= fun cv => arg ev a >>= fun av => arg ev b >>= fun bv => liftV (pickA cv av bv)
def sBuild (P : Program) (ev : Ev) (t : TypeId) (ps : Array (Nat × Operand)) : M I OpRes := match evps ev ps.toList with
  | some vs => liftV (buildA P t vs)
  | none => fail
def sBuildSlice (P : Program) (ev : Ev) (t : TypeId) (n : Nat) (ps : Array (Nat × Operand)) : M I OpRes := match evps ev ps.toList with
  | some vs => liftV (buildSliceA P t n vs)
  | none => fail
def sStore (P : Program) (lo : Lim) (ev : Ev) (t : TypeId) (a x : Operand) : M I OpRes := arg ev a >>= fun v => arg ev x >>= fun xv => liftU (storeA P lo t v xv)
def sBin (P : Program) (ev : Ev) (o : Oper) (op : BinOp) (t : TypeId) (x y : Operand) : M I OpRes := arg ev x >>= fun xv => arg ev y >>= fun yv => binA P ev o op t xv yv
def sConv (P : Program) (ev : Ev) (o : Oper) (s d : TypeId) (x : Operand) : M I OpRes := arg ev x >>= fun v => convA P ev o s d v
def sFunc (ev : Ev) (f : FuncId) (first cap : Array Operand) : M I OpRes := match evs ev first.toList, evs ev cap.toList with
  | some fs, some cs => pure (.val (.func (.func f) fs.toArray cs.toArray))
  | _, _ => fail
def sSlice (P : Program) (ev : Ev) (o : Oper) (t : TypeId) (x : Operand) (l h m : Option Operand) : M I OpRes := bif isStr P t then pureOp P ev o else arg ev x >>= fun v => match evo ev l, evo ev h, evo ev m with
  | some lv, some hv, some mv => liftV (sliceA P t v lv hv mv)
  | _, _, _ => fail
def sIndex (P : Program) (ev : Ev) (o : Oper) (t : TypeId) (x i : Operand) : M I OpRes := bif isStr P t then pureOp P ev o else s2 ev x i (indexA P t)
def sUpdate (P : Program) (lo : Lim) (ev : Ev) (t : TypeId) (m k x : Operand) : M I OpRes := arg ev m >>= fun mv => arg ev k >>= fun kv => arg ev x >>= fun xv => liftU (updateA P lo t mv kv xv)
def sCall (P : Program) (X : Hk) (lo : Lim) (ev : Ev) (o : Oper) (c : Call) : M I OpRes := match c.callee with
  | .value f => callA X ev f c.args
  | .builtin b => builtinA P lo ev o b c.args c.argTypes
  | .invoke _ _ => fail
def sDefer (ev : Ev) (c : Call) : M I OpRes := match c.callee with
  | .value f => deferA ev f c.args
  | _ => fail
def retV (v : Value) : M I Value := pure v

def stepOp (P : Program) (X : Hk) (lo : Lim) (ev : Ev) (o : Oper) : M I OpRes := match o.op with
  | .move x | .assign x => s1 ev x retV
  | .pick c a b => sPick ev c a b
  | .alloc t => liftV (allocA P t)
  | .box t x => s1 ev x (boxA t)
  | .build t ps => sBuild P ev t ps
  | .buildSlice t n ps => sBuildSlice P ev t n ps
  | .load t a => s1 ev a (loadA P t)
  | .store t a x => sStore P lo ev t a x
  | .nilCheck x => s1 ev x nilCheckA
  | .binOp op t x y _ => sBin P ev o op t x y
  | .unOp _ _ _ => pureOp P ev o
  | .convert s d x => sConv P ev o s d x
  | .makeInterface t x => s1 ev x (mkIface P t)
  | .makeFunc (.func f) first cap => sFunc ev f first cap
  | .makeMap _ none => liftV makeMapA
  | .makeSlice t l c => s2 ev l c (makeSliceA P t)
  | .slice t x l h m => sSlice P ev o t x l h m
  | .fieldAddr t x f => s1 ev x (fun v => fieldAddrA P t v f)
  | .field t x f => s1 ev x (fun v => fieldA P t v f)
  | .indexAddr t x i => s2 ev x i (indexAddrA P t)
  | .index t x i => sIndex P ev o t x i
  | .lookup t x i ok => s2 ev x i (fun v iv => lookupA P t v iv ok)
  | .mapUpdate t m k x | .insert t m k x => sUpdate P lo ev t m k x
  | .range t x => s1 ev x (rangeA P t)
  | .next it isS => s1 ev it (fun v => nextA lo v isS)
  | .typeAssert x _ t ok => s1 ev x (fun v => assertA P v t ok)
  | .extract t i => s1 ev t (fun v => extractA v i)
  | .call c => sCall P X lo ev o c
  | .defer c => sDefer ev c
  | _ => fail

theorem ARl.append {as bs cs ds : Array Value} (h : ARl E as cs) (k : ARl E bs ds) : ARl E (as ++ bs) (cs ++ ds) := by
  have := (h.lst.append k.lst).arr
  have e : ∀ x y : Array Value, (x.toList ++ y.toList).toArray = x ++ y := fun x y => by apply Array.toList_inj.1; simp
  rwa [e, e] at this

theorem sim_callA {X : Hk} (hX : Plain P X w0.w) {ev : Ev} {ρ : Operand → Value} (hρ : ∀ x v, ev x = some v → VR E v (ρ x)) {fv : Operand} {args : Array Operand} {ts : Array TypeId} {ty : TypeId} :
    Sim P lo w0 E H (callA X ev fv args : M I OpRes) (do let d ← resolve ρ { callee := .value fv, args := args, argTypes := ts } ty; invoke d.target d.args) NR := by
  unfold callA
  split
  · rename_i f first cap vs hf hvs
    cases hx : X.X f with
    | false =>
      simp only [cond_false]
      split
      · rename_i v hz
        obtain ⟨z1, z2, z3⟩ := hX.z f _ v hz
        have hr := hρ _ _ hf
        have ha := evs_arr hρ hvs
        generalize hq : ρ fv = q at hr
        cases hr with
        | @func _ _ _ cs ds g1 g2 g3 g4 =>
          have hA := (ARl.append (ARl.append ⟨g1, g2⟩ ha) ⟨g3, g4⟩)
          have he := hA.gnd (by simpa using z1)
          refine Sim.leaf (a := OpRes.val v) (R := NR) fun E1 g w hE _ _ => ⟨.value v, ?_, gnd_refl E1 3 v z2⟩
          have := z3 w
          rw [show (first ++ vs.toArray ++ cap).toList.toArray = first ++ vs.toArray ++ cap by simp, ← he] at this
          simp [resolve, hq, Deferred.ofValue, invoke]
          simpa using this
      · exact Sim.fail
    | true =>
      simp only [cond_true]
      obtain ⟨fn, h1, h2, h3⟩ := hX.x f hx
      have hr := hρ _ _ hf
      have ha := evs_arr hρ hvs
      generalize hq : ρ fv = q at hr
      cases hr with
      | @func _ _ _ cs ds g1 g2 g3 g4 =>
        refine Sim.leaf fun E1 g w hE _ _ => ⟨.enter f (cs ++ args.map ρ ++ ds), ?_, rfl, ((ARl.append (ARl.append ⟨g1, g2⟩ ha) ⟨g3, g4⟩)).mono hE⟩
        have h3' : fn.body ≠ none := fun e => by rw [e] at h3; cases h3
        have h2' : ¬ fn.name = "runtime.NumGoroutine" := by simpa using h2
        simp [resolve, hq, Deferred.ofValue, invoke, callFunc, h1, h2', h3']
  · rename_i k x1 x2 vs hf hvs
    have hr := hρ _ _ hf
    have ha := evs_arr hρ hvs
    generalize hq : ρ fv = q at hr
    cases hr with
    | @yield _ b q hE0 =>
      unfold yieldA
      refine Sim.rd fun ob => ?_
      cases ob with
      | loop r =>
        simp only
        cases hb : Nat.beq vs.length r.params.size with
        | false => simp only [cond_false]; exact Sim.fail
        | true =>
          simp only [cond_true]
          have hlen := Nat.eq_of_beq_eq_true hb
          refine Sim.leaf fun E1 g w hE hR ⟨_, hg⟩ => ?_
          obtain ⟨b', r', co, h1, h2, h3⟩ := hR.tie _ _ hg
          have hk := hE _ _ hE0
          rw [hk] at h1
          cases h1
          cases h3 with
          | @loop _ y q' g1 g2 g3 g4 g5 g6 g7 g8 =>
            refine ⟨.round b y.fn (roundTmps y.params.toList (args.map ρ).toList y.tmps) y.assign y.body, ?_, g4, g5, ⟨_, hk⟩, ?_⟩
            · have hsz : (args.map ρ).size = y.params.size := by
                rw [g3, ← hlen]
                have := ha.1
                simpa using this.symm
              have hy := run_yield (P := P) h2 hsz
              rw [zip_fold] at hy
              simp only [resolve, hq, Deferred.ofValue, invoke, Sem.run_bind, Sem.run_pure, Result.andThen_ok, Array.empty_append, Array.append_empty]
              exact hy
            · rw [g3]
              exact roundTmps_rel _ _ _ _ _ ⟨g6, g7⟩ ((ha.mono hE).lst)
      | _ => exact Sim.fail
  · exact Sim.fail
theorem sim_deferA {ev : Ev} {ρ : Operand → Value} (hρ : ∀ x v, ev x = some v → VR E v (ρ x)) {fv : Operand} {args : Array Operand} {ts : Array TypeId} {ty : TypeId} :
    Sim P lo w0 E H (deferA ev fv args : M I OpRes) (do pure (.defer (← resolve ρ { callee := .value fv, args := args, argTypes := ts } ty)) : Sem Next) NR := by
  unfold deferA
  split
  · rename_i f first cap vs hf hvs
    have hr := hρ _ _ hf
    have ha := evs_arr hρ hvs
    generalize hq : ρ fv = q at hr
    cases hr with
    | @func _ _ _ cs ds g1 g2 g3 g4 =>
      refine Sim.leaf fun E1 g w hE _ _ => ⟨.defer { target := .fn (.func f) ds, args := cs ++ args.map ρ }, ?_, .inl ⟨f, _, _, rfl, rfl, ARl.mono hE ⟨g3, g4⟩, (ARl.append ⟨g1, g2⟩ ha).mono hE⟩⟩
      simp [resolve, hq, Deferred.ofValue]
  · exact Sim.fail

theorem sim_builtinA {ev : Ev} {ρ : Operand → Value} (hρ : ∀ x v, ev x = some v → VR E v (ρ x)) {o : Oper} {b : Builtin} {args : Array Operand} {ts : Array TypeId} (ho : o.op = .call { callee := .builtin b, args := args, argTypes := ts }) :
    Sim P lo w0 E noH (builtinA P lo ev o b args ts : M I OpRes) (execOp ρ o) NR := by
  have hs : ∀ cs b, o.op ≠ .select cs b := fun cs b e => by rw [ho] at e; cases e
  have he : ∀ (c : Sem Next), (∀ w, (builtin b ts o.type (args.map fun | .const _ => true | _ => false) (args.map ρ)).run P w = c.run P w) → ∀ w, (execOp ρ o).run P w = c.run P w := fun c hc w => by
    rw [← hc w]; unfold execOp; rw [ho]; simp [resolve, invoke]; rfl
  unfold builtinA
  split
  · rename_i s x st xt
    refine Sim.arg hρ fun sv hsv => Sim.arg hρ fun xv hxv => Sim.eqrun (he (do pure (.value (← Builtin.append_ #[st, xt] o.type #[ρ s, ρ x]))) fun w => ?_) (sim_liftV (sim_appendA hsv hxv))
    simp [builtin]
  · rename_i s x st xt
    refine Sim.arg hρ fun sv hsv => Sim.arg hρ fun xv hxv => Sim.eqrun (he (do pure (.value (← Builtin.copy_ #[st, xt] o.type #[ρ s, ρ x]))) fun w => ?_) (sim_liftV (sim_copyA hsv hxv))
    simp [builtin]
  · rename_i x t
    refine Sim.arg hρ fun xv hxv => Sim.eqrun (he (do pure (.value (← Builtin.len_ #[t] o.type #[ρ x]))) fun w => ?_) (sim_liftV (sim_lenA rfl hxv))
    simp [builtin]
  · rename_i x t
    refine Sim.arg hρ fun xv hxv => Sim.eqrun (he (do pure (.value (← Builtin.cap_ #[t] o.type #[ρ x]))) fun w => ?_) (sim_liftV (sim_capA rfl hxv))
    simp [builtin]
  · refine Sim.eqrun (he (pure .recover) fun w => rfl) (Sim.pure fun E1 hE => trivial)
  all_goals first | exact Sim.fail | exact sim_pureOp hρ hs

theorem sim_nilCheckA {x x' : Value} (hx : VR E x x') : Sim P lo w0 E H (nilCheckA x : M I Value) (match x' with
    | .pointer none | .nilIface | .nilFunc => runtimePanic .nilDeref
    | x => pure x : Sem Value) VR := by
  unfold nilCheckA
  split
  · cases hx with
    | ptr h => exact Sim.val ⟨_, fun w => rfl, .ptr h⟩
  · cases hx with
    | iface _ h => exact Sim.val ⟨_, fun w => rfl, .iface _ h⟩
  · cases hx with
    | func h1 h2 h3 h4 => exact Sim.val ⟨_, fun w => rfl, .func h1 h2 h3 h4⟩
  · exact Sim.fail

theorem sim_extractA {x x' : Value} {i : Nat} (hx : VR E x x') : Sim P lo w0 E H (extractA x i : M I Value) (Instr.extract x' i) VR := by
  unfold extractA
  split
  · rename_i vs
    cases hx with
    | tuple h1 h2 =>
      cases hv : vs[i]? with
      | none => simp only [hv]; exact Sim.fail
      | some v =>
        simp only [hv]
        rename_i cs
        have hi : i < cs.size := by have := (Array.getElem?_eq_some_iff.1 hv).1; omega
        exact Sim.val ⟨cs[i], fun w => by simp [Instr.extract, hi], h2 v _ i hv (by simp [hi])⟩
  · exact Sim.fail
theorem sim_pickA {c a b c' a' b' : Value} (hc : VR E c c') (ha : VR E a a') (hb : VR E b b') : Sim P lo w0 E H (pickA c a b : M I Value) (do pure (if ← asBool c' then a' else b') : Sem Value) VR := by
  unfold pickA
  split
  · cases hc; exact Sim.val ⟨a', fun w => by simp [asBool], ha⟩
  · cases hc; exact Sim.val ⟨b', fun w => by simp [asBool], hb⟩
  · exact Sim.fail
theorem sim_binA {ev : Ev} {ρ : Operand → Value} (hρ : ∀ x v, ev x = some v → VR E v (ρ x)) {o : Oper} {op : BinOp} {t yt : TypeId} {x y : Operand} (ho : o.op = .binOp op t x y yt) {xv yv : Value} (hx : VR E xv (ρ x)) (hy : VR E yv (ρ y)) :
    Sim P lo w0 E H (binA P ev o op t xv yv : M I OpRes) (execOp ρ o) NR := by
  have hs : ∀ cs b, o.op ≠ .select cs b := fun cs b e => by rw [ho] at e; cases e
  have he : ∀ (v : Value) (w : World), (do eqGuard op t x y (ρ x) (ρ y); binOp op t (ρ x) (ρ y) : Sem Value).run P w = .ok v w → (execOp ρ o).run P w = .ok (.value v) w := fun v w h => by
    unfold execOp; rw [ho]
    simp only [Sem.run_bind] at h ⊢
    rw [h]; rfl
  unfold binA
  split
  · rename_i v hf
    have h1 : xv = ρ x ∧ yv = ρ y := by
      unfold fastBin at hf
      split at hf
      · constructor
        · generalize ρ x = q at hx; cases hx; rfl
        · generalize ρ y = q at hy; cases hy; rfl
      · cases hf
    rw [h1.1, h1.2] at hf
    exact Sim.leaf (a := OpRes.val v) (R := NR) fun E1 g w hE _ _ => ⟨_, he v w (fastBin_run (X := x) (Y := y) hf w).1, gnd_refl E1 0 v (fastBin_run (P := P) (t := t) (X := x) (Y := y) hf w).2⟩
  · cases hg : (gnd 3 xv && gnd 3 yv) with
    | true => exact sim_pureOp hρ hs
    | false =>
      simp only [cond_false]
      unfold eqNilA
      split
      · split
        · rename_i b hb
          exact Sim.leaf fun E1 g w hE _ _ => ⟨_, he _ w (eqNil_run hb hx hy x y w).1, .bool b⟩
        · exact Sim.fail
      · split
        · rename_i b hb
          exact Sim.leaf fun E1 g w hE _ _ => ⟨_, he _ w (eqNil_run hb hx hy x y w).2, .bool _⟩
        · exact Sim.fail
      · exact Sim.fail

theorem sim_valN {v : Value} {c : Sem Next} (h : ∃ v', (∀ w, c.run P w = .ok (.value v') w) ∧ VR E v v') : Sim P lo w0 E H (liftV (pure v) : M I OpRes) c NR := by
  obtain ⟨v', h1, h2⟩ := h
  exact Sim.congr (m' := pure (.val v)) rfl (Sim.leaf (a := OpRes.val v) (R := NR) fun E1 g w hE _ _ => ⟨.value v', h1 w, h2.mono hE⟩)
theorem isStr_run {t : TypeId} (h : isStr P t = false) : P.underlying t ≠ some .string := fun e => by
  unfold isStr at h; rw [e] at h; cases h

/-- One operation: what the evaluator says of it is what the model does. -/
theorem sim_stepOp {X : Hk} (hX : Plain P X w0.w) {ev : Ev} {ρ : Operand → Value} (hρ : ∀ x v, ev x = some v → VR E v (ρ x)) (o : Oper) :
    Sim P lo w0 E noH (stepOp P X lo ev o : M I OpRes) (execOp ρ o) NR := by
  obtain ⟨dst, op, type, pos, after, guard⟩ := o
  cases op with
  | move x => exact Sim.arg hρ fun v hv => sim_valN ⟨_, fun w => rfl, hv⟩
  | assign x => exact Sim.arg hρ fun v hv => sim_valN ⟨_, fun w => rfl, hv⟩
  | pick c a b =>
    refine Sim.arg hρ fun cv hc => Sim.arg hρ fun av ha => Sim.arg hρ fun bv hb => Sim.eqrun (fun w => ?_) (sim_liftV (sim_pickA hc ha hb))
    simp [execOp]
  | alloc t => exact sim_liftV sim_allocA
  | box t x => exact Sim.arg hρ fun v hv => sim_liftV (sim_boxA hv)
  | build t ps =>
    unfold stepOp sBuild
    simp only
    split
    · rename_i vs hvs
      refine sim_liftV (sim_buildA ?_)
      have := evps_rel hρ _ _ hvs
      rwa [← Array.toList_map] at this
    · exact Sim.fail
  | buildSlice t n ps =>
    unfold stepOp sBuildSlice
    simp only
    split
    · rename_i vs hvs
      refine sim_liftV (sim_buildSliceA ?_)
      have := evps_rel hρ _ _ hvs
      rwa [← Array.toList_map] at this
    · exact Sim.fail
  | insert t m k x => exact Sim.arg hρ fun mv hm => Sim.arg hρ fun kv hk => Sim.arg hρ fun xv hx => sim_liftU (sim_updateA hm hk hx)
  | load t a => exact Sim.arg hρ fun v hv => sim_liftV (sim_loadA hv)
  | store t a x => exact Sim.arg hρ fun v hv => Sim.arg hρ fun xv hx => sim_liftU (sim_storeA hv hx)
  | nilCheck x =>
    refine Sim.arg hρ fun v hv => ?_
    generalize hq : ρ x = q at hv
    unfold nilCheckA
    split
    · cases hv with
      | ptr h => exact sim_valN ⟨_, fun w => by simp [execOp, hq], .ptr h⟩
    · cases hv with
      | iface _ h => exact sim_valN ⟨_, fun w => by simp [execOp, hq], .iface _ h⟩
    · cases hv with
      | func h1 h2 h3 h4 => exact sim_valN ⟨_, fun w => by simp [execOp, hq], .func h1 h2 h3 h4⟩
    · exact fun s a s' hr => by obtain ⟨a1, s1, h1, h2⟩ := bind_run hr; exact (fail_run h1).elim
  | binOp op t x y yt => exact Sim.arg hρ fun xv hx => Sim.arg hρ fun yv hy => sim_binA hρ rfl hx hy
  | unOp op t x => exact sim_pureOp hρ (fun cs b e => by cases e)
  | convert s d x =>
    refine Sim.arg hρ fun v hv => ?_
    unfold convA
    split
    · rename_i u hu
      unfold convInt at hu
      split at hu
      · rename_i k n
        split at hu
        · rename_i sd k' h1 h2
          cases hu
          generalize hq : ρ x = q at hv
          cases hv
          refine Sim.leaf (a := OpRes.val (.int k' (k'.wrap n))) (R := NR) fun E1 g w hE _ _ => ⟨.value (.int k' (k'.wrap n)), ?_, .int _ _⟩
          simp [execOp, hq, convert, run_underlying h1, run_underlying h2, Conv.intToInt]
        · cases hu
      · cases hu
    · unfold convB
      cases hg : gnd 3 v with
      | true => exact sim_pureOp hρ (fun cs b e => by cases e)
      | false => exact sim_liftV (sim_strA hv)
  | makeInterface t x => exact Sim.arg hρ fun v hv => sim_liftV (sim_mkIface hv)
  | makeFunc fn first cap =>
    cases fn with
    | func f =>
      unfold stepOp sFunc
      simp only
      split
      · rename_i fs cs hf hc
        have h1 := evs_arr hρ hf
        have h2 := evs_arr hρ hc
        exact Sim.leaf fun E1 g w hE _ _ => ⟨.value (.func (.func f) (first.map ρ) (cap.map ρ)), by simp [execOp, Instr.makeFunc], .func h1.1 (h1.mono hE).2 h2.1 (h2.mono hE).2⟩
      · exact Sim.fail
    | _ => exact Sim.fail
  | makeMap t r =>
    cases r with
    | none => exact sim_liftV (sim_makeMapA fun w => rfl)
    | some r => exact Sim.fail
  | makeSlice t l c => exact Sim.arg hρ fun lv hl => Sim.arg hρ fun cv hc => sim_liftV (sim_makeSliceA hl hc)
  | slice t x l h m =>
    unfold stepOp sSlice
    simp only
    cases hs : isStr P t with
    | true => exact sim_pureOp hρ (fun cs b e => by cases e)
    | false =>
      refine Sim.arg hρ fun v hv => ?_
      split
      · rename_i lv hv' mv h1 h2 h3
        exact sim_liftV (sim_sliceA hv (evo_rel hρ h1) (evo_rel hρ h2) (evo_rel hρ h3))
      · exact Sim.fail
  | fieldAddr t x f => exact Sim.arg hρ fun v hv => sim_liftV (sim_fieldAddrA hv)
  | field t x f => exact Sim.arg hρ fun v hv => sim_liftV (sim_fieldA hv)
  | indexAddr t x i => exact Sim.arg hρ fun v hv => Sim.arg hρ fun iv hi => sim_liftV (sim_indexAddrA hv hi)
  | index t x i =>
    unfold stepOp sIndex
    simp only
    cases hs : isStr P t with
    | true => exact sim_pureOp hρ (fun cs b e => by cases e)
    | false => exact Sim.arg hρ fun v hv => Sim.arg hρ fun iv hi => sim_liftV (sim_indexA hv hi)
  | lookup t x i ok => exact Sim.arg hρ fun v hv => Sim.arg hρ fun iv hi => sim_liftV (sim_lookupA hv hi)
  | mapUpdate t m k x => exact Sim.arg hρ fun mv hm => Sim.arg hρ fun kv hk => Sim.arg hρ fun xv hx => sim_liftU (sim_updateA hm hk hx)
  | range t x => exact Sim.arg hρ fun v hv => sim_liftV (sim_rangeA hv)
  | next it isS => exact Sim.arg hρ fun v hv => sim_liftV (sim_nextA hv)
  | typeAssert x xT t ok => exact Sim.arg hρ fun v hv => sim_liftV (sim_assertA hv)
  | extract t i => exact Sim.arg hρ fun v hv => sim_liftV (sim_extractA hv)
  | call c =>
    obtain ⟨callee, args, ts⟩ := c
    cases callee with
    | value f => exact sim_callA hX hρ
    | builtin b => exact sim_builtinA hρ rfl
    | invoke r m => exact Sim.fail
  | defer c =>
    obtain ⟨callee, args, ts⟩ := c
    cases callee with
    | value f => exact sim_deferA hρ
    | builtin b => exact Sim.fail
    | invoke r m => exact Sim.fail
  | _ => exact Sim.fail
end Go.Am
