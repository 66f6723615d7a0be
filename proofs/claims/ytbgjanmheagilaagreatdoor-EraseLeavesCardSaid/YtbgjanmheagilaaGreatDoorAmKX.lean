/- The abstract evaluator: any one operation. Conditions: none. -/
import Derived.RangeFuncNested
import Derived.Test.YtbgjanmheagilaaGreatDoorAmHX
import Derived.LoopNIn
import Derived.DefersIn
import Derived.OrdersIn
set_option linter.unusedVariables false
set_option linter.unusedSimpArgs false
namespace Go.Am
open Go Go.RowKit
set_option linter.unusedVariables false
set_option linter.unusedSimpArgs false
variable {μ : Type} {I : MemI μ} {P : Program} {lo : Lim} {w0 : Bs} {E : Env} {H : (Nat → Option Obj) → Prop}

/-- What is known of the functions: X, those that are called as they stand (they have a body); Z, answers of functions without a body; L, answers that are known by a contract. -/
structure Hk where
  X : FuncId → Bool
  Z : FuncId → List Value → Option Value
  L : FuncId → List Value → Option Value
structure Plain (P : Program) (h : Hk) (W0 : World) : Prop where
  x : ∀ f, h.X f = true → ∃ fn, P.funcs[f]? = some fn ∧ (fn.name == "runtime.NumGoroutine") = false ∧ fn.body.isNone = false
  z : ∀ f vs v, h.Z f vs = some v → vs.all (gnd 3) = true ∧ gnd 3 v = true ∧ ∀ w, (callFunc f vs.toArray).run P w = .ok (.value v) w
  l : ∀ f vs v, h.L f vs = some v → vs.all (gnd 3) = true ∧ gnd 3 v = true ∧ ∀ w, Below W0.heap.size W0 w → Calls P f vs.toArray w fun e w' => e = .returned v ∧ Below w.heap.size w w'
theorem ARl.gnd {as cs : Array Value} (h : ARl E as cs) (hg : as.toList.all (gnd 3) = true) : cs = as :=
  VR.arr_eq (E := E) h.1 hg fun a c j ha hc hga => gnd_eq (h.2 a c j ha hc) 3 hga

def builtinA (P : Program) (lo : Lim) (ev : Ev) (o : Oper) (b : Builtin) (args : Array Operand) (ts : Array TypeId) : M I OpRes :=
  match b, args, ts with
  | .append, ⟨[s, x]⟩, ⟨[st, xt]⟩ => arg ev s >>= fun sv => arg ev x >>= fun xv => liftV (appendA P lo st xt sv xv)
  | .copy, ⟨[d, x]⟩, ⟨[dt, _]⟩ => arg ev d >>= fun dv => arg ev x >>= fun xv => liftV (copyA P lo dt dv xv)
  | .len, ⟨[x]⟩, ⟨[t]⟩ => arg ev x >>= fun xv => liftV (lenA P t xv)
  | .cap, ⟨[x]⟩, ⟨[t]⟩ => arg ev x >>= fun xv => liftV (capA P t xv)
  | .recover, _, _ => pure .recover
  | .append, _, _ | .copy, _, _ | .len, _, _ | .cap, _, _ | .clear, _, _ | .close, _, _ | .delete, _, _ | .panic, _, _ | .print, _, _ | .println, _, _ => fail
  | _, _, _ => pureOp P ev o

/-- What a round's frame holds. -/
def roundTmps (ps : List Tmp) (vs : List Value) (ts : Array Value) : Array Value := (ps.zip vs).foldl (fun t (i, v) => t.setIfInBounds i v) ts
theorem zip_fold (ps : Array Tmp) (vs : Array Value) (ts : Array Value) : (ps.zip vs).foldl (fun tmps (t, a) => tmps.setIfInBounds t a) ts = roundTmps ps.toList vs.toList ts := by
  unfold roundTmps
  rw [← Array.foldl_toList, Array.toList_zip]
theorem roundTmps_rel : ∀ (ps : List Tmp) (vs cs : List Value) (ts ts' : Array Value), ARl E ts ts' → LR E vs cs → ARl E (roundTmps ps vs ts) (roundTmps ps cs ts')
  | [], vs, cs, ts, ts', h, hv => by simpa [roundTmps] using h
  | p :: ps, [], cs, ts, ts', h, hv => by
    have : cs = [] := List.eq_nil_of_length_eq_zero hv.1.symm
    subst this
    simpa [roundTmps] using h
  | p :: ps, v :: vs, [], ts, ts', h, hv => by have := hv.1; simp at this
  | p :: ps, v :: vs, c :: cs, ts, ts', h, hv => by
    have h1 : ARl E (ts.setIfInBounds p v) (ts'.setIfInBounds p c) := by
      refine ⟨by simpa using h.1, fun a b j ha hb => ?_⟩
      rw [Array.getElem?_setIfInBounds] at ha hb
      by_cases e : p = j
      · subst e
        rw [if_pos rfl] at ha hb
        split at ha <;> split at hb <;> first | (cases ha; cases hb; exact hv.2 v c 0 rfl rfl) | (cases ha; done) | (cases hb; done)
      · rw [if_neg e] at ha hb
        exact h.2 a b j ha hb
    have h2 : LR E vs cs := ⟨by have := hv.1; simpa using this, fun a b j ha hb => hv.2 a b (j + 1) (by simpa using ha) (by simpa using hb)⟩
    exact roundTmps_rel ps vs cs _ _ h1 h2
def yieldA (k : Nat) (vs : List Value) : M I OpRes := rd k >>= fun o => match o with
  | .loop r => bif Nat.beq vs.length r.params.size then pure (.round k (roundTmps r.params.toList vs r.tmps) r.assign r.body) else fail
  | _ => fail
def callA (X : Hk) (ev : Ev) (fv : Operand) (args : Array Operand) : M I OpRes := match ev fv, evs ev args.toList with
  | some (.func (.func f) first cap), some vs => bif X.X f then pure (.call f (first ++ vs.toArray ++ cap)) else match X.Z f (first ++ vs.toArray ++ cap).toList with
    | some v => pure (.val v)
    | none => fail
  | some (.func (.yield k) _ _), some vs => yieldA k vs
  | _, _ => fail
def deferA (ev : Ev) (fv : Operand) (args : Array Operand) : M I OpRes := match ev fv, evs ev args.toList with
  | some (.func (.func f) first cap), some vs => pure (.defer { target := .fn (.func f) cap, args := first ++ vs.toArray })
  | _, _ => fail

def isStr (P : Program) (t : TypeId) : Bool := match P.underlying t with
  | some .string => true
  | _ => false

def nilCheckA (x : Value) : M I Value := match x with
  | .pointer (some _) => pure x
  | .iface _ _ => pure x
  | .func (.func _) _ _ => pure x
  | _ => fail
def extractA (x : Value) (i : Nat) : M I Value := match x with
  | .tuple vs => match vs[i]? with
    | some v => pure v
    | none => fail
  | _ => fail
def pickA (c a b : Value) : M I Value := match c with
  | .bool true => pure a
  | .bool false => pure b
  | _ => fail
def kindEq : IntKind → IntKind → Bool
  | .i8, .i8 | .i16, .i16 | .i32, .i32 | .i64, .i64 | .u8, .u8 | .u16, .u16 | .u32, .u32 | .u64, .u64 => true
  | _, _ => false
theorem kindEq_eq {j k : IntKind} (h : kindEq j k = true) : j = k := by cases j <;> cases k <;> first | rfl | (simp [kindEq] at h)
/-- Whole numbers. -/
def fastInt (op : BinOp) (k : IntKind) (a b : Int) : Option Value := match op with
  | .add => some (.int k (k.wrap (a + b)))
  | .sub => some (.int k (k.wrap (a - b)))
  | .mul => some (.int k (k.wrap (a * b)))
  | .eql => some (.bool (a == b))
  | .neq => some (.bool (a != b))
  | .lss => some (.bool (decide (a < b)))
  | .leq => some (.bool (decide (a ≤ b)))
  | .gtr => some (.bool (decide (a > b)))
  | .geq => some (.bool (decide (a ≥ b)))
  | _ => none
def fastBin (op : BinOp) (x y : Value) : Option Value := match x, y with
  | .int k a, .int k' b => bif kindEq k k' then fastInt op k a b else none
  | _, _ => none
theorem fastBin_run {op : BinOp} {t : TypeId} {X Y : Operand} {x y v : Value} (h : fastBin op x y = some v) (w : World) : (do eqGuard op t X Y x y; binOp op t x y : Sem Value).run P w = .ok v w ∧ gnd 0 v = true := by
  unfold fastBin at h
  split at h
  · rename_i k a k' b
    cases hk : kindEq k k' with
    | false => rw [hk] at h; cases h
    | true =>
      rw [hk] at h
      have := kindEq_eq hk
      subst this
      simp only [cond_true] at h
      unfold fastInt at h
      split at h <;> cases h <;> exact ⟨by simp [eqGuard, binOp, Op.intArith, Op.intCmp], rfl⟩
  · cases h
def eqNilA (P : Program) (op : BinOp) (t : TypeId) (x y : Value) : M I OpRes := match op with
  | .eql => match eqNil P t x y with
    | some b => pure (.val (.bool b))
    | none => fail
  | .neq => match eqNil P t x y with
    | some b => pure (.val (.bool (!b)))
    | none => fail
  | _ => fail
def binA (P : Program) (ev : Ev) (o : Oper) (op : BinOp) (t : TypeId) (x y : Value) : M I OpRes := match fastBin op x y with
  | some v => pure (.val v)
  | none => bif gnd 3 x && gnd 3 y then pureOp P ev o else eqNilA P op t x y
/-- Whole numbers turned. -/
def convInt (P : Program) (s d : TypeId) (x : Value) : Option Value := match x with
  | .int _ n => match P.underlying s, P.underlying d with
    | some _, some (.int k) => some (.int k (k.wrap n))
    | _, _ => none
  | _ => none
def convB (P : Program) (ev : Ev) (o : Oper) (s d : TypeId) (x : Value) : M I OpRes := bif gnd 3 x then pureOp P ev o else liftV (strA P s d x)
def convA (P : Program) (ev : Ev) (o : Oper) (s d : TypeId) (x : Value) : M I OpRes := match convInt P s d x with
  | some v => pure (.val v)
  | none => convB P ev o s d x

def s1 (ev : Ev) (x : Operand) (f : Value → M I Value) : M I OpRes := arg ev x >>= fun v => liftV (f v)
def s2 (ev : Ev) (x y : Operand) (f : Value → Value → M I Value) : M I OpRes := arg ev x >>= fun v => arg ev y >>= fun u => liftV (f v u)
def sPick (ev : Ev) (c a b : Operand) : M I OpRes := arg ev c >>= fun cv => arg ev a >>= fun av => arg ev b >>= fun bv => liftV (pickA cv av bv)
def sBuild (P : Program) (ev : Ev) (t : TypeId) (ps : Array (Nat × Operand)) : M I OpRes := match evps ev ps.toList with
  | some vs => liftV (buildA P t vs)
  | none => fail
def sBuildSlice (P : Program) (ev : Ev) (t : TypeId) (n : Nat) (ps : Array (Nat × Operand)) : M I OpRes := match evps ev ps.toList with
  | some vs => liftV (buildSliceA P t n vs)
  | none => fail
def sStore (P : Program) (lo : Lim) (ev : Ev) (t : TypeId) (a x : Operand) : M I OpRes := arg ev a >>= fun v => arg ev x >>= fun xv => liftU (storeA P lo t v xv)
def sBin (P : Program) (ev : Ev) (o : Oper) (op : BinOp) (t : TypeId) (x y : Operand) : M I OpRes := arg ev x >>= fun xv => arg ev y >>= fun yv => binA P ev o op t xv yv
def sConv (P : Program) (ev : Ev) (o : Oper) (s d : TypeId) (x : Operand) : M I OpRes := arg ev x >>= fun v => convA P ev o s d v
def sFunc (ev : Ev) (f : FuncId) (first cap : Array Operand) : M I OpRes := match evs ev first.toList, evs ev cap.toList with
  | some fs, some cs => pure (.val (.func (.func f) fs.toArray cs.toArray))
  | _, _ => fail
def sSlice (P : Program) (ev : Ev) (o : Oper) (t : TypeId) (x : Operand) (l h m : Option Operand) : M I OpRes := bif isStr P t then pureOp P ev o else arg ev x >>= fun v => match evo ev l, evo ev h, evo ev m with
  | some lv, some hv, some mv => liftV (sliceA P t v lv hv mv)
  | _, _, _ => fail
def sIndex (P : Program) (ev : Ev) (o : Oper) (t : TypeId) (x i : Operand) : M I OpRes := bif isStr P t then pureOp P ev o else s2 ev x i (indexA P t)
def sUpdate (P : Program) (lo : Lim) (ev : Ev) (t : TypeId) (m k x : Operand) : M I OpRes := arg ev m >>= fun mv => arg ev k >>= fun kv => arg ev x >>= fun xv => liftU (updateA P lo t mv kv xv)
def sCall (P : Program) (X : Hk) (lo : Lim) (ev : Ev) (o : Oper) (c : Call) : M I OpRes := match c.callee with
  | .value f => callA X ev f c.args
  | .builtin b => builtinA P lo ev o b c.args c.argTypes
  | .invoke _ _ => fail
def sDefer (ev : Ev) (c : Call) : M I OpRes := match c.callee with
  | .value f => deferA ev f c.args
  | _ => fail
def retV (v : Value) : M I Value := pure v

def stepOp (P : Program) (X : Hk) (lo : Lim) (ev : Ev) (o : Oper) : M I OpRes := match o.op with
  | .move x | .assign x => s1 ev x retV
  | .pick c a b => sPick ev c a b
  | .alloc t => liftV (allocA P t)
  | .box t x => s1 ev x (boxA t)
  | .build t ps => sBuild P ev t ps
  | .buildSlice t n ps => sBuildSlice P ev t n ps
  | .load t a => s1 ev a (loadA P t)
  | .store t a x => sStore P lo ev t a x
  | .nilCheck x => s1 ev x nilCheckA
  | .binOp op t x y _ => sBin P ev o op t x y
  | .unOp _ _ _ => pureOp P ev o
  | .convert s d x => sConv P ev o s d x
  | .makeInterface t x => s1 ev x (mkIface P t)
  | .makeFunc (.func f) first cap => sFunc ev f first cap
  | .makeMap _ none => liftV makeMapA
  | .makeSlice t l c => s2 ev l c (makeSliceA P t)
  | .slice t x l h m => sSlice P ev o t x l h m
  | .fieldAddr t x f => s1 ev x (fun v => fieldAddrA P t v f)
  | .field t x f => s1 ev x (fun v => fieldA P t v f)
  | .indexAddr t x i => s2 ev x i (indexAddrA P t)
  | .index t x i => sIndex P ev o t x i
  | .lookup t x i ok => s2 ev x i (fun v iv => lookupA P t v iv ok)
  | .mapUpdate t m k x | .insert t m k x => sUpdate P lo ev t m k x
  | .range t x => s1 ev x (rangeA P t)
  | .next it isS => s1 ev it (fun v => nextA lo v isS)
  | .typeAssert x _ t ok => s1 ev x (fun v => assertA P v t ok)
  | .extract t i => s1 ev t (fun v => extractA v i)
  | .call c => sCall P X lo ev o c
  | .defer c => sDefer ev c
  | _ => fail

theorem ARl.append {as bs cs ds : Array Value} (h : ARl E as cs) (k : ARl E bs ds) : ARl E (as ++ bs) (cs ++ ds) := by
  have := (h.lst.append k.lst).arr
  have e : ∀ x y : Array Value, (x.toList ++ y.toList).toArray = x ++ y := fun x y => by apply Array.toList_inj.1; simp
  rwa [e, e] at this

theorem sim_callA {X : Hk} (hX : Plain P X w0.w) {ev : Ev} {ρ : Operand → Value} (hρ : ∀ x v, ev x = some v → VR E v (ρ x)) {fv : Operand} {args : Array Operand} {ts : Array TypeId} {ty : TypeId} :
    Sim P lo w0 E H (callA X ev fv args : M I OpRes) (do let d ← resolve ρ { callee := .value fv, args := args, argTypes := ts } ty; invoke d.target d.args) NR := by
  unfold callA
  split
  · rename_i f first cap vs hf hvs
    cases hx : X.X f with
    | false =>
      simp only [cond_false]
      split
      · rename_i v hz
        obtain ⟨z1, z2, z3⟩ := hX.z f _ v hz
        have hr := hρ _ _ hf
        have ha := evs_arr hρ hvs
        generalize hq : ρ fv = q at hr
        cases hr with
        | @func _ _ _ cs ds g1 g2 g3 g4 =>
          have hA := (ARl.append (ARl.append ⟨g1, g2⟩ ha) ⟨g3, g4⟩)
          have he := hA.gnd (by simpa using z1)
          refine Sim.leaf (a := OpRes.val v) (R := NR) fun E1 g w hE _ _ => ⟨.value v, ?_, gnd_refl E1 3 v z2⟩
          have := z3 w
          rw [show (first ++ vs.toArray ++ cap).toList.toArray = first ++ vs.toArray ++ cap by simp, ← he] at this
          simp [resolve, hq, Deferred.ofValue, invoke]
          simpa using this
      · exact Sim.fail
    | true =>
      simp only [cond_true]
      obtain ⟨fn, h1, h2, h3⟩ := hX.x f hx
      have hr := hρ _ _ hf
      have ha := evs_arr hρ hvs
      generalize hq : ρ fv = q at hr
      cases hr with
      | @func _ _ _ cs ds g1 g2 g3 g4 =>
        refine Sim.leaf fun E1 g w hE _ _ => ⟨.enter f (cs ++ args.map ρ ++ ds), ?_, rfl, ((ARl.append (ARl.append ⟨g1, g2⟩ ha) ⟨g3, g4⟩)).mono hE⟩
        have h3' : fn.body ≠ none := fun e => by rw [e] at h3; cases h3
        have h2' : ¬ fn.name = "runtime.NumGoroutine" := by simpa using h2
        simp [resolve, hq, Deferred.ofValue, invoke, callFunc, h1, h2', h3']
  · rename_i k x1 x2 vs hf hvs
    have hr := hρ _ _ hf
    have ha := evs_arr hρ hvs
    generalize hq : ρ fv = q at hr
    cases hr with
    | @yield _ b q hE0 =>
      unfold yieldA
      refine Sim.rd fun ob => ?_
      cases ob with
      | loop r =>
        simp only
        cases hb : Nat.beq vs.length r.params.size with
        | false => simp only [cond_false]; exact Sim.fail
        | true =>
          simp only [cond_true]
          have hlen := Nat.eq_of_beq_eq_true hb
          refine Sim.leaf fun E1 g w hE hR ⟨_, hg⟩ => ?_
          obtain ⟨b', r', co, h1, h2, h3⟩ := hR.tie _ _ hg
          have hk := hE _ _ hE0
          rw [hk] at h1
          cases h1
          cases h3 with
          | @loop _ y q' g1 g2 g3 g4 g5 g6 g7 g8 =>
            refine ⟨.round b y.fn (roundTmps y.params.toList (args.map ρ).toList y.tmps) y.assign y.body, ?_, g4, g5, ⟨_, hk⟩, ?_⟩
            · have hsz : (args.map ρ).size = y.params.size := by
                rw [g3, ← hlen]
                have := ha.1
                simpa using this.symm
              have hy := run_yield (P := P) h2 hsz
              rw [zip_fold] at hy
              simp only [resolve, hq, Deferred.ofValue, invoke, Sem.run_bind, Sem.run_pure, Result.andThen_ok, Array.empty_append, Array.append_empty]
              exact hy
            · rw [g3]
              exact roundTmps_rel _ _ _ _ _ ⟨g6, g7⟩ ((ha.mono hE).lst)
      | _ => exact Sim.fail
  · exact Sim.fail
theorem sim_deferA {ev : Ev} {ρ : Operand → Value} (hρ : ∀ x v, ev x = some v → VR E v (ρ x)) {fv : Operand} {args : Array Operand} {ts : Array TypeId} {ty : TypeId} :
    Sim P lo w0 E H (deferA ev fv args : M I OpRes) (do pure (.defer (← resolve ρ { callee := .value fv, args := args, argTypes := ts } ty)) : Sem Next) NR := by
  unfold deferA
  split
  · rename_i f first cap vs hf hvs
    have hr := hρ _ _ hf
    have ha := evs_arr hρ hvs
    generalize hq : ρ fv = q at hr
    cases hr with
    | @func _ _ _ cs ds g1 g2 g3 g4 =>
      refine Sim.leaf fun E1 g w hE _ _ => ⟨.defer { target := .fn (.func f) ds, args := cs ++ args.map ρ }, ?_, .inl ⟨f, _, _, rfl, rfl, ARl.mono hE ⟨g3, g4⟩, (ARl.append ⟨g1, g2⟩ ha).mono hE⟩⟩
      simp [resolve, hq, Deferred.ofValue]
  · exact Sim.fail

theorem sim_builtinA {ev : Ev} {ρ : Operand → Value} (hρ : ∀ x v, ev x = some v → VR E v (ρ x)) {o : Oper} {b : Builtin} {args : Array Operand} {ts : Array TypeId} (ho : o.op = .call { callee := .builtin b, args := args, argTypes := ts }) :
    Sim P lo w0 E noH (builtinA P lo ev o b args ts : M I OpRes) (execOp ρ o) NR := by
  have hs : ∀ cs b, o.op ≠ .select cs b := fun cs b e => by rw [ho] at e; cases e
  have he : ∀ (c : Sem Next), (∀ w, (builtin b ts o.type (args.map fun | .const _ => true | _ => false) (args.map ρ)).run P w = c.run P w) → ∀ w, (execOp ρ o).run P w = c.run P w := fun c hc w => by
    rw [← hc w]; unfold execOp; rw [ho]; simp [resolve, invoke]; rfl
  unfold builtinA
  split
  · rename_i s x st xt
    refine Sim.arg hρ fun sv hsv => Sim.arg hρ fun xv hxv => Sim.eqrun (he (do pure (.value (← Builtin.append_ #[st, xt] o.type #[ρ s, ρ x]))) fun w => ?_) (sim_liftV (sim_appendA hsv hxv))
    simp [builtin]
  · rename_i s x st xt
    refine Sim.arg hρ fun sv hsv => Sim.arg hρ fun xv hxv => Sim.eqrun (he (do pure (.value (← Builtin.copy_ #[st, xt] o.type #[ρ s, ρ x]))) fun w => ?_) (sim_liftV (sim_copyA hsv hxv))
    simp [builtin]
  · rename_i x t
    refine Sim.arg hρ fun xv hxv => Sim.eqrun (he (do pure (.value (← Builtin.len_ #[t] o.type #[ρ x]))) fun w => ?_) (sim_liftV (sim_lenA rfl hxv))
    simp [builtin]
  · rename_i x t
    refine Sim.arg hρ fun xv hxv => Sim.eqrun (he (do pure (.value (← Builtin.cap_ #[t] o.type #[ρ x]))) fun w => ?_) (sim_liftV (sim_capA rfl hxv))
    simp [builtin]
  · refine Sim.eqrun (he (pure .recover) fun w => rfl) (Sim.pure fun E1 hE => trivial)
  all_goals first | exact Sim.fail | exact sim_pureOp hρ hs

theorem sim_nilCheckA {x x' : Value} (hx : VR E x x') : Sim P lo w0 E H (nilCheckA x : M I Value) (match x' with
    | .pointer none | .nilIface | .nilFunc => runtimePanic .nilDeref
    | x => pure x : Sem Value) VR := by
  unfold nilCheckA
  split
  · cases hx with
    | ptr h => exact Sim.val ⟨_, fun w => rfl, .ptr h⟩
  · cases hx with
    | iface _ h => exact Sim.val ⟨_, fun w => rfl, .iface _ h⟩
  · cases hx with
    | func h1 h2 h3 h4 => exact Sim.val ⟨_, fun w => rfl, .func h1 h2 h3 h4⟩
  · exact Sim.fail

theorem sim_extractA {x x' : Value} {i : Nat} (hx : VR E x x') : Sim P lo w0 E H (extractA x i : M I Value) (Instr.extract x' i) VR := by
  unfold extractA
  split
  · rename_i vs
    cases hx with
    | tuple h1 h2 =>
      cases hv : vs[i]? with
      | none => simp only [hv]; exact Sim.fail
      | some v =>
        simp only [hv]
        rename_i cs
        have hi : i < cs.size := by have := (Array.getElem?_eq_some_iff.1 hv).1; omega
        exact Sim.val ⟨cs[i], fun w => by simp [Instr.extract, hi], h2 v _ i hv (by simp [hi])⟩
  · exact Sim.fail
theorem sim_pickA {c a b c' a' b' : Value} (hc : VR E c c') (ha : VR E a a') (hb : VR E b b') : Sim P lo w0 E H (pickA c a b : M I Value) (do pure (if ← asBool c' then a' else b') : Sem Value) VR := by
  unfold pickA
  split
  · cases hc; exact Sim.val ⟨a', fun w => by simp [asBool], ha⟩
  · cases hc; exact Sim.val ⟨b', fun w => by simp [asBool], hb⟩
  · exact Sim.fail
theorem sim_binA {ev : Ev} {ρ : Operand → Value} (hρ : ∀ x v, ev x = some v → VR E v (ρ x)) {o : Oper} {op : BinOp} {t yt : TypeId} {x y : Operand} (ho : o.op = .binOp op t x y yt) {xv yv : Value} (hx : VR E xv (ρ x)) (hy : VR E yv (ρ y)) :
    Sim P lo w0 E H (binA P ev o op t xv yv : M I OpRes) (execOp ρ o) NR := by
  have hs : ∀ cs b, o.op ≠ .select cs b := fun cs b e => by rw [ho] at e; cases e
  have he : ∀ (v : Value) (w : World), (do eqGuard op t x y (ρ x) (ρ y); binOp op t (ρ x) (ρ y) : Sem Value).run P w = .ok v w → (execOp ρ o).run P w = .ok (.value v) w := fun v w h => by
    unfold execOp; rw [ho]
    simp only [Sem.run_bind] at h ⊢
    rw [h]; rfl
  unfold binA
  split
  · rename_i v hf
    have h1 : xv = ρ x ∧ yv = ρ y := by
      unfold fastBin at hf
      split at hf
      · constructor
        · generalize ρ x = q at hx; cases hx; rfl
        · generalize ρ y = q at hy; cases hy; rfl
      · cases hf
    rw [h1.1, h1.2] at hf
    exact Sim.leaf (a := OpRes.val v) (R := NR) fun E1 g w hE _ _ => ⟨_, he v w (fastBin_run (X := x) (Y := y) hf w).1, gnd_refl E1 0 v (fastBin_run (P := P) (t := t) (X := x) (Y := y) hf w).2⟩
  · cases hg : (gnd 3 xv && gnd 3 yv) with
    | true => exact sim_pureOp hρ hs
    | false =>
      simp only [cond_false]
      unfold eqNilA
      split
      · split
        · rename_i b hb
          exact Sim.leaf fun E1 g w hE _ _ => ⟨_, he _ w (eqNil_run hb hx hy x y w).1, .bool b⟩
        · exact Sim.fail
      · split
        · rename_i b hb
          exact Sim.leaf fun E1 g w hE _ _ => ⟨_, he _ w (eqNil_run hb hx hy x y w).2, .bool _⟩
        · exact Sim.fail
      · exact Sim.fail

theorem sim_valN {v : Value} {c : Sem Next} (h : ∃ v', (∀ w, c.run P w = .ok (.value v') w) ∧ VR E v v') : Sim P lo w0 E H (liftV (pure v) : M I OpRes) c NR := by
  obtain ⟨v', h1, h2⟩ := h
  exact Sim.congr (m' := pure (.val v)) rfl (Sim.leaf (a := OpRes.val v) (R := NR) fun E1 g w hE _ _ => ⟨.value v', h1 w, h2.mono hE⟩)
theorem isStr_run {t : TypeId} (h : isStr P t = false) : P.underlying t ≠ some .string := fun e => by
  unfold isStr at h; rw [e] at h; cases h

/-- One operation: what the evaluator says of it is what the model does. -/
theorem sim_stepOp {X : Hk} (hX : Plain P X w0.w) {ev : Ev} {ρ : Operand → Value} (hρ : ∀ x v, ev x = some v → VR E v (ρ x)) (o : Oper) :
    Sim P lo w0 E noH (stepOp P X lo ev o : M I OpRes) (execOp ρ o) NR := by
  obtain ⟨dst, op, type, pos, after, guard⟩ := o
  cases op with
  | move x => exact Sim.arg hρ fun v hv => sim_valN ⟨_, fun w => rfl, hv⟩
  | assign x => exact Sim.arg hρ fun v hv => sim_valN ⟨_, fun w => rfl, hv⟩
  | pick c a b =>
    refine Sim.arg hρ fun cv hc => Sim.arg hρ fun av ha => Sim.arg hρ fun bv hb => Sim.eqrun (fun w => ?_) (sim_liftV (sim_pickA hc ha hb))
    simp [execOp]
  | alloc t => exact sim_liftV sim_allocA
  | box t x => exact Sim.arg hρ fun v hv => sim_liftV (sim_boxA hv)
  | build t ps =>
    unfold stepOp sBuild
    simp only
    split
    · rename_i vs hvs
      refine sim_liftV (sim_buildA ?_)
      have := evps_rel hρ _ _ hvs
      rwa [← Array.toList_map] at this
    · exact Sim.fail
  | buildSlice t n ps =>
    unfold stepOp sBuildSlice
    simp only
    split
    · rename_i vs hvs
      refine sim_liftV (sim_buildSliceA ?_)
      have := evps_rel hρ _ _ hvs
      rwa [← Array.toList_map] at this
    · exact Sim.fail
  | insert t m k x => exact Sim.arg hρ fun mv hm => Sim.arg hρ fun kv hk => Sim.arg hρ fun xv hx => sim_liftU (sim_updateA hm hk hx)
  | load t a => exact Sim.arg hρ fun v hv => sim_liftV (sim_loadA hv)
  | store t a x => exact Sim.arg hρ fun v hv => Sim.arg hρ fun xv hx => sim_liftU (sim_storeA hv hx)
  | nilCheck x =>
    refine Sim.arg hρ fun v hv => ?_
    generalize hq : ρ x = q at hv
    unfold nilCheckA
    split
    · cases hv with
      | ptr h => exact sim_valN ⟨_, fun w => by simp [execOp, hq], .ptr h⟩
    · cases hv with
      | iface _ h => exact sim_valN ⟨_, fun w => by simp [execOp, hq], .iface _ h⟩
    · cases hv with
      | func h1 h2 h3 h4 => exact sim_valN ⟨_, fun w => by simp [execOp, hq], .func h1 h2 h3 h4⟩
    · exact fun s a s' hr => by obtain ⟨a1, s1, h1, h2⟩ := bind_run hr; exact (fail_run h1).elim
  | binOp op t x y yt => exact Sim.arg hρ fun xv hx => Sim.arg hρ fun yv hy => sim_binA hρ rfl hx hy
  | unOp op t x => exact sim_pureOp hρ (fun cs b e => by cases e)
  | convert s d x =>
    refine Sim.arg hρ fun v hv => ?_
    unfold convA
    split
    · rename_i u hu
      unfold convInt at hu
      split at hu
      · rename_i k n
        split at hu
        · rename_i sd k' h1 h2
          cases hu
          generalize hq : ρ x = q at hv
          cases hv
          refine Sim.leaf (a := OpRes.val (.int k' (k'.wrap n))) (R := NR) fun E1 g w hE _ _ => ⟨.value (.int k' (k'.wrap n)), ?_, .int _ _⟩
          simp [execOp, hq, convert, run_underlying h1, run_underlying h2, Conv.intToInt]
        · cases hu
      · cases hu
    · unfold convB
      cases hg : gnd 3 v with
      | true => exact sim_pureOp hρ (fun cs b e => by cases e)
      | false => exact sim_liftV (sim_strA hv)
  | makeInterface t x => exact Sim.arg hρ fun v hv => sim_liftV (sim_mkIface hv)
  | makeFunc fn first cap =>
    cases fn with
    | func f =>
      unfold stepOp sFunc
      simp only
      split
      · rename_i fs cs hf hc
        have h1 := evs_arr hρ hf
        have h2 := evs_arr hρ hc
        exact Sim.leaf fun E1 g w hE _ _ => ⟨.value (.func (.func f) (first.map ρ) (cap.map ρ)), by simp [execOp, Instr.makeFunc], .func h1.1 (h1.mono hE).2 h2.1 (h2.mono hE).2⟩
      · exact Sim.fail
    | _ => exact Sim.fail
  | makeMap t r =>
    cases r with
    | none => exact sim_liftV (sim_makeMapA fun w => rfl)
    | some r => exact Sim.fail
  | makeSlice t l c => exact Sim.arg hρ fun lv hl => Sim.arg hρ fun cv hc => sim_liftV (sim_makeSliceA hl hc)
  | slice t x l h m =>
    unfold stepOp sSlice
    simp only
    cases hs : isStr P t with
    | true => exact sim_pureOp hρ (fun cs b e => by cases e)
    | false =>
      refine Sim.arg hρ fun v hv => ?_
      split
      · rename_i lv hv' mv h1 h2 h3
        exact sim_liftV (sim_sliceA hv (evo_rel hρ h1) (evo_rel hρ h2) (evo_rel hρ h3))
      · exact Sim.fail
  | fieldAddr t x f => exact Sim.arg hρ fun v hv => sim_liftV (sim_fieldAddrA hv)
  | field t x f => exact Sim.arg hρ fun v hv => sim_liftV (sim_fieldA hv)
  | indexAddr t x i => exact Sim.arg hρ fun v hv => Sim.arg hρ fun iv hi => sim_liftV (sim_indexAddrA hv hi)
  | index t x i =>
    unfold stepOp sIndex
    simp only
    cases hs : isStr P t with
    | true => exact sim_pureOp hρ (fun cs b e => by cases e)
    | false => exact Sim.arg hρ fun v hv => Sim.arg hρ fun iv hi => sim_liftV (sim_indexA hv hi)
  | lookup t x i ok => exact Sim.arg hρ fun v hv => Sim.arg hρ fun iv hi => sim_liftV (sim_lookupA hv hi)
  | mapUpdate t m k x => exact Sim.arg hρ fun mv hm => Sim.arg hρ fun kv hk => Sim.arg hρ fun xv hx => sim_liftU (sim_updateA hm hk hx)
  | range t x => exact Sim.arg hρ fun v hv => sim_liftV (sim_rangeA hv)
  | next it isS => exact Sim.arg hρ fun v hv => sim_liftV (sim_nextA hv)
  | typeAssert x xT t ok => exact Sim.arg hρ fun v hv => sim_liftV (sim_assertA hv)
  | extract t i => exact Sim.arg hρ fun v hv => sim_liftV (sim_extractA hv)
  | call c =>
    obtain ⟨callee, args, ts⟩ := c
    cases callee with
    | value f => exact sim_callA hX hρ
    | builtin b => exact sim_builtinA hρ rfl
    | invoke r m => exact Sim.fail
  | defer c =>
    obtain ⟨callee, args, ts⟩ := c
    cases callee with
    | value f => exact sim_deferA hρ
    | builtin b => exact Sim.fail
    | invoke r m => exact Sim.fail
  | _ => exact Sim.fail
end Go.Am

/- The abstract evaluator: code and calls. Conditions: none. -/
namespace Go.Am
open Go Go.RowKit
set_option linter.unusedVariables false
set_option linter.unusedSimpArgs false
noncomputable section
variable {μ : Type} {I : MemI μ} {P : Program} {lo : Lim} {w0 : Bs} {E : Env} {H : (Nat → Option Obj) → Prop}

structure AAct where
  n : Nat
  t : Trie Value
  defers : List Deferred

def AAct.val (a : AAct) (i : Nat) : Value := (a.t.get i).getD undef
def evA (lo : Lim) (a : AAct) : Ev
  | .tmp i => some (a.val i)
  | .const v => bif gnd 3 v then some v else none
  | .global g => bif Nat.blt g lo.G then some (.pointer (some ⟨g, 0, none⟩)) else none
  | .func f => some (.func (.func f) #[] #[])
def putA' (a : AAct) (dst : Option Tmp) (v : Value) : M I AAct := match dst with
  | none => pure a
  | some d => bif Nat.blt d a.n && Nat.blt d 4095 then pure ⟨a.n, a.t.set 12 d (some v), a.defers⟩ else fail

structure ActR (E : Env) (a : AAct) (ca : Act) : Prop where
  size : ca.tmps.size = a.n
  val : ∀ i, VR E (a.val i) (ca.tmps.getD i undef)
  len : a.defers.length = ca.defers.length
  defers : ∀ (j : Nat) (d d' : Deferred), a.defers[j]? = some d → ca.defers[j]? = some d' → DR E d d'
theorem DR.mono {E E' : Env} (hE : ∀ k x, E k = some x → E' k = some x) {d d' : Deferred} (h : DR E d d') : DR E' d d' := by
  rcases h with ⟨f, c, c', h1, h2, h3, h4⟩ | ⟨k, b, q, h1, h2, h3⟩
  · exact .inl ⟨f, c, c', h1, h2, h3.mono hE, h4.mono hE⟩
  · exact .inr ⟨k, b, q, h1, h2, hE _ _ h3⟩
theorem ActR.mono {E E' : Env} (hE : ∀ k x, E k = some x → E' k = some x) {a : AAct} {ca : Act} (h : ActR E a ca) : ActR E' a ca :=
  ⟨h.size, fun i => (h.val i).mono hE, h.len, fun j d d' h1 h2 => (h.defers j d d' h1 h2).mono hE⟩
theorem ActR.ev {a : AAct} {ca : Act} (h : ActR E a ca) (hold : ∀ k, k < lo.G → E k = some (k, 0)) : ∀ x v, evA lo a x = some v → VR E v (ca.eval x) := by
  intro x v hv
  cases x with
  | tmp i => simp [evA] at hv; subst hv; exact h.val i
  | const u =>
    cases hg : gnd 3 u with
    | true => simp [evA, hg] at hv; subst hv; exact gnd_refl E 3 u hg
    | false => simp [evA, hg] at hv
  | global g =>
    cases hb : Nat.blt g lo.G with
    | true =>
      simp [evA, hb] at hv; subst hv
      rw [blt_eq] at hb
      exact .ptr (r := 0) (hold g (by simpa using hb))
    | false => simp [evA, hb] at hv
  | func f => simp [evA] at hv; subst hv; exact .func rfl (fun _ _ j h => by simp at h) rfl (fun _ _ j h => by simp at h)
theorem ActR.put {a a' : AAct} {ca : Act} {dst : Option Tmp} {v v' : Value} {s s' : St μ} (h : ActR E a ca) (hv : VR E v v') (hr : (putA' a dst v : M I AAct).run s = some (a', s')) : s' = s ∧ ActR E a' (ca.put dst v') := by
  unfold putA' at hr
  cases dst with
  | none => obtain ⟨rfl, rfl⟩ := pure_run hr; exact ⟨rfl, h⟩
  | some d =>
    cases hb : (Nat.blt d a.n && Nat.blt d 4095) with
    | false => simp only [hb] at hr; exact (fail_run hr).elim
    | true =>
      simp only [hb] at hr
      obtain ⟨rfl, rfl⟩ := pure_run hr
      rw [blt_eq, blt_eq] at hb
      simp only [Bool.and_eq_true, decide_eq_true_eq] at hb
      refine ⟨rfl, ⟨by simp [Act.put, h.size], fun i => ?_, h.len, h.defers⟩⟩
      have hval : AAct.val ⟨a.n, a.t.set 12 d (some v), a.defers⟩ i = if i = d then v else a.val i := by
        unfold AAct.val
        rw [Trie.get_set 12 a.t d i (some v) (by omega)]
        split <;> rfl
      rw [hval]
      by_cases e : i = d
      · subst e
        have hlt : i < ca.tmps.size := by rw [h.size]; exact hb.1
        simp [Act.put, hlt]
        exact hv
      · have := h.val i
        have hne : ¬ (d = i) := fun h => e h.symm
        simp [Act.put, e, Array.getElem?_setIfInBounds, hne] at this ⊢
        exact this

inductive AExit where
  | normal
  | exit (id : Nat)
  | ret
  | panic (v : Value)
def ExR (E : Env) : AExit → Exit → Prop
  | .normal, .normal => True
  | .exit i, .exit j => i = j
  | .ret, .ret => True
  | .panic v, .panic c => ∃ v', c = [{ v := v', recovered := false }] ∧ VR E v v'
  | _, _ => False
inductive AEnd where
  | ret (v : Value)
  | panic (v : Value)
def EnR (E : Env) : AEnd → Ending → Prop
  | .ret v, .returned v' => VR E v v'
  | .panic v, .panicked c => ∃ v', c = [{ v := v', recovered := false }] ∧ VR E v v'
  | _, _ => False

def fillT : List Value → Nat → Trie Value → Trie Value
  | [], _, t => t
  | v :: l, i, t => fillT l (i + 1) (t.set 12 i (some v))

theorem fillT_get : ∀ (l : List Value) (i : Nat) (t : Trie Value) (j : Nat), i + l.length ≤ 4094 → (fillT l i t).get j = if i ≤ j ∧ j < i + l.length then l[j - i]? else t.get j
  | [], i, t, j, h => by simp [fillT]; intro h1 h2; omega
  | v :: l, i, t, j, h => by
    simp only [fillT]
    rw [fillT_get l (i + 1) _ j (by simp at h; omega), Trie.get_set 12 t i j (some v) (by simp at h; omega)]
    simp only [List.length_cons]
    by_cases e : j = i
    · subst e
      rw [if_neg (by omega), if_pos rfl, if_pos (by omega)]; simp
    · rw [if_neg e]
      by_cases e2 : i ≤ j ∧ j < i + (l.length + 1)
      · rw [if_pos e2, if_pos (by omega), show j - i = (j - (i + 1)) + 1 by omega]; simp
      · rw [if_neg e2, if_neg (by omega)]

structure Self (I : MemI μ) where
  code : Option Nat → Code → AAct → M I (AExit × AAct)
  call : FuncId → Array Value → M I AEnd

def yieldedA (ops : Array Oper) (a : AAct) (j : Nat) : Option Bool := match (ops[j]?).bind (·.dst) with
  | some d => bif Nat.blt d a.n then match a.val d with
    | .bool b => some b
    | _ => none
    else none
  | none => none
def wantedA (ops : Array Oper) (a : AAct) (o : Oper) : Bool := match o.guard with
  | none => true
  | some (j, want) => match yieldedA ops a j with
    | some b => bif want then b else !b
    | none => false
theorem wantedA_eq {ops : Array Oper} {a : AAct} {ca : Act} (h : ActR E a ca) (o : Oper) : Region.wanted o (yielded ops ca.tmps) = wantedA ops a o := by
  unfold Region.wanted wantedA
  cases hg : o.guard with
  | none => rfl
  | some jw =>
    obtain ⟨j, want⟩ := jw
    simp only
    have hy : yielded ops ca.tmps j = yieldedA ops a j := by
      unfold yielded yieldedA
      cases hd : (ops[j]?).bind (·.dst) with
      | none => rfl
      | some d =>
        simp only [Option.bind_some, blt_eq, ← h.size]
        have hv := h.val d
        by_cases hlt : d < ca.tmps.size
        · simp only [hlt, decide_true, cond_true]
          rw [Array.getElem?_eq_getElem hlt]
          have : ca.tmps.getD d undef = ca.tmps[d] := by simp [hlt]
          rw [this] at hv
          generalize a.val d = x at hv
          generalize ca.tmps[d] = y at hv
          cases hv <;> rfl
        · simp only [hlt, decide_false, cond_false]
          rw [Array.getElem?_eq_none (Nat.le_of_not_lt hlt)]
    rw [hy]
    cases yieldedA ops a j with
    | none => rfl
    | some b => cases b <;> cases want <;> rfl

def afterCall (a : AAct) (o : Oper) (k : AAct → M I (AExit × AAct)) (e : AEnd) : M I (AExit × AAct) := match e with
  | .ret v => putA' a o.dst v >>= k
  | .panic v => pure (.panic v, a)
/-! ### Rounds -/
def beginA (lo : Lim) (k : Nat) : M I Unit := rd k >>= fun o => match o with
  | .loop r => match r.state with
    | .ready => wr lo k (some (.loop { r with state := .busy }))
    | _ => fail
  | _ => fail
def endRoundA (lo : Lim) (k : Nat) (jump : Option Code) : M I AEnd := rd k >>= fun o => match o with
  | .loop r => wr lo k (some (.loop { r with state := if jump.isNone then .ready else .done, pending := jump })) >>= fun _ => pure (.ret (.bool jump.isNone))
  | _ => fail
def roundC (lo : Lim) (k : Nat) (r : AExit × AAct) : M I AEnd := match r.1 with
  | .normal => endRoundA lo k none
  | .ret => endRoundA lo k (some .ret)
  | .exit id => endRoundA lo k (some (.exit id))
  | .panic _ => fail
def roundB (lo : Lim) (self : Self I) (k : Nat) (body : Code) (r : AExit × AAct) : M I AEnd := match r.1 with
  | .normal => beginA lo k >>= fun _ => self.code (some k) body r.2 >>= roundC lo k
  | _ => fail
/-- A round: the loop's left sides, the body. -/
def roundA (lo : Lim) (self : Self I) (k : Nat) (ts : Array Value) (assign body : Code) : M I AEnd :=
  bif Nat.blt ts.size 4000 then self.code (some k) assign ⟨ts.size, fillT ts.toList 0 .leaf, []⟩ >>= roundB lo self k body else fail
def noDefer (ρ : Option Nat) : Bool := match ρ with
  | none => true
  | some _ => false
def afterOp (lo : Lim) (ρ : Option Nat) (self : Self I) (a : AAct) (o : Oper) (k : AAct → M I (AExit × AAct)) (r : OpRes) : M I (AExit × AAct) := match r with
  | .val v => putA' a o.dst v >>= k
  | .call f args => self.call f args >>= afterCall a o k
  | .defer d => bif noDefer ρ then putA' ⟨a.n, a.t, d :: a.defers⟩ o.dst undef >>= k else fail
  | .round l ts b c => roundA lo self l ts b c >>= afterCall a o k
  | _ => fail
def panicV (a : AAct) (v : Value) : M I (AExit × AAct) := match v with
  | .iface _ _ => pure (.panic v, a)
  | _ => fail
def panicA (lo : Lim) (a : AAct) (x : Operand) : M I (AExit × AAct) := arg (evA lo a) x >>= panicV a
def opB (P : Program) (X : Hk) (lo : Lim) (ρ : Option Nat) (self : Self I) (a : AAct) (o : Oper) (k : AAct → M I (AExit × AAct)) : M I (AExit × AAct) := match o.op with
  | .panic x => panicA lo a x
  | _ => stepOp P X lo (evA lo a) o >>= afterOp lo ρ self a o k
/-- Operations one behind the other. -/
def opsSeq (P : Program) (X : Hk) (lo : Lim) (ρ : Option Nat) (self : Self I) (ops : Array Oper) : List Oper → AAct → M I (AExit × AAct)
  | [], a => pure (.normal, a)
  | o :: rest, a => bif wantedA ops a o then opB P X lo ρ self a o (opsSeq P X lo ρ self ops rest) else putA' a o.dst undef >>= opsSeq P X lo ρ self ops rest

def afterRound (k : AAct → M I (AExit × AAct)) (r : AExit × AAct) : M I (AExit × AAct) := match r with
  | (.normal, a1) => k a1
  | r => pure r
def loopA (self : Self I) (ρ : Option Nat) (c : Code) : Nat → AAct → M I (AExit × AAct)
  | 0, _ => fail
  | m + 1, a => self.code ρ c a >>= afterRound (loopA self ρ c m)

/-! ### What the evaluator's calls and code promise -/
def CallOK (P : Program) (lo : Lim) (w0 : Bs) (call : FuncId → Array Value → M I AEnd) : Prop :=
  ∀ f args s r s', (call f args).run s = some (r, s') → ∀ E g w cargs, Rel P lo w0 E g w → Agree I s s' g → Fresh s s' E → ARl E args cargs →
    Calls P f cargs w fun e w' => ∃ E', Env.Ext E E' s.next s'.next ∧ EnR E' r e ∧ Rel P lo w0 E' (merge I s' g) w'
/-- The fence of the walk: everything may be called; in a round, or not. -/
def fen (ρ : Option Nat) : Fence := { Fence.wide with round := ρ }
def RhoR (E : Env) (ρ ρ' : Option Nat) : Prop := match ρ, ρ' with
  | none, none => True
  | some k, some b => ∃ q, E k = some (b, q)
  | _, _ => False
theorem RhoR.mono {E E' : Env} (hE : ∀ k x, E k = some x → E' k = some x) {ρ ρ' : Option Nat} (h : RhoR E ρ ρ') : RhoR E' ρ ρ' := by
  cases ρ <;> cases ρ' <;> first | exact h | skip
  obtain ⟨q, hq⟩ := h
  exact ⟨q, hE _ _ hq⟩
def CodeP (P : Program) (lo : Lim) (w0 : Bs) (ρ : Option Nat) (m : M I (AExit × AAct)) (a : AAct) (C : Option Nat → (Exit → Act → World → Prop) → Act → World → Prop) : Prop :=
  ∀ s e a' s', m.run s = some ((e, a'), s') → ∀ E g w ca Q ρ', RhoR E ρ ρ' → Rel P lo w0 E g w → Agree I s s' g → Fresh s s' E → ActR E a ca →
    (∀ E' ce ca' w', Env.Ext E E' s.next s'.next → ExR E' e ce → ActR E' a' ca' → Rel P lo w0 E' (merge I s' g) w' → Q ce ca' w') → C ρ' Q ca w
def CodeOK (P : Program) (lo : Lim) (w0 : Bs) (code : Option Nat → Code → AAct → M I (AExit × AAct)) : Prop :=
  ∀ ρ c a, CodeP P lo w0 ρ (code ρ c a) a (fun ρ' Q ca w => c.wpIn (fen ρ') 0 P Q ca w)
theorem fen_depth {ρ' : Option Nat} (h : (fen ρ').depth.isSome = true) : 1 ≤ 0 := by simp [fen, Fence.wide] at h
theorem callsIn_fen {ρ' : Option Nat} {f : FuncId} {args : Array Value} {w : World} {R : Ending → World → Prop} (h : Calls P f args w R) : CallsIn (fen ρ') (0 - 1) P f args w R := callsIn_wide.2 h
theorem calls_fen {f : FuncId} {args : Array Value} {w : World} {R : Ending → World → Prop} (h : CallsIn (fen none) 0 P f args w R) : Calls P f args w R := callsIn_wide.1 h

/-- What follows a step that is done. -/
theorem chain {α : Type} {m : M I α} {a : α} {s s1 s' : St μ} {g : Nat → Option Obj} {E E1 : Env} (h1 : m.run s = some (a, s1)) (h2 : St.Le I s1 s') (hA : Agree I s s' g) (hF : Fresh s s' E) (hx : Env.Ext E E1 s.next s1.next) :
    Agree I s1 s' (merge I s1 g) ∧ Fresh s1 s' E1 ∧ (∀ E', Env.Ext E1 E' s1.next s'.next → Env.Ext E E' s.next s'.next) ∧ merge I s' (merge I s1 g) = merge I s' g :=
  ⟨hA.second (m.le _ _ _ h1) h2, hF.second hx (m.le _ _ _ h1).next, fun E' h => hx.trans h (m.le _ _ _ h1).next h2.next, merge_merge g h2⟩

theorem sem_at {X : Hk} {ev : Ev} {o : Oper} {r : OpRes} {s s1 : St μ} (h : (stepOp P X lo ev o : M I OpRes).run s = some (r, s1)) (hne : ∀ d, r ≠ .defer d) (ρ' : Option Nat) (ρv : Operand → Value) : Oper.semAt ρ' ρv o = execOp ρv o := by
  rw [Oper.semAt_eq]
  intro c hc0
  unfold stepOp at h
  rw [hc0] at h
  simp only [sDefer] at h
  split at h
  · unfold deferA at h
    split at h
    · obtain ⟨h, _⟩ := pure_run h; exact hne _ h
    · exact (fail_run h).elim
  · exact (fail_run h).elim
theorem frame_tmps {E : Env} {ts cs : Array Value} (hsz : ts.size < 4000) (h : ARl E ts cs) : ActR E ⟨ts.size, fillT ts.toList 0 .leaf, []⟩ { tmps := cs, defers := [] } := by
  refine ⟨h.1.symm, fun i => ?_, rfl, fun j d d' h => by simp at h⟩
  unfold AAct.val
  simp only
  rw [fillT_get ts.toList 0 .leaf i (by simp; omega)]
  simp only [Nat.zero_le, true_and, Nat.zero_add, Nat.sub_zero, Array.length_toList]
  by_cases hi : i < ts.size
  · rw [if_pos hi]
    have hi' : i < cs.size := by rw [← h.1]; exact hi
    have := h.2 ts[i] cs[i] i (by simp [hi]) (by simp [hi'])
    simpa [hi, hi'] using this
  · rw [if_neg hi]
    have hi' : ¬ i < cs.size := by rw [← h.1]; exact hi
    have : cs.getD i undef = undef := by simp [hi']
    rw [this]
    exact VR.undef E
theorem putObj_turned {w : World} {b : Nat} {o co : Obj} (h : w.heap[b]? = some o) : Turned b co w (w.putObj b co) :=
  ⟨rfl, rfl, rfl, World.putObj_size, World.putObj_heap_same (Array.getElem?_eq_some_iff.1 h).1, fun i hi => World.putObj_heap_other hi⟩
/-- A record that is read. -/
theorem rd_loop {E : Env} {g : Nat → Option Obj} {w : World} {k b q : Nat} {r : Loop} (hR : Rel P lo w0 E g w) (hg : g k = some (.loop r)) (hk : E k = some (b, q)) :
    ∃ y q', w.heap[b]? = some (.loop y) ∧ y.state = r.state ∧ y.pending = r.pending ∧ y.params = r.params ∧ y.assign = r.assign ∧ y.body = r.body ∧ ARl E r.tmps y.tmps ∧ E r.defers = some (y.defers, q') := by
  obtain ⟨b', r', co, h1, h2, h3⟩ := hR.tie _ _ hg
  rw [hk] at h1
  cases h1
  cases h3 with
  | @loop _ y q' g1 g2 g3 g4 g5 g6 g7 g8 => exact ⟨y, q', h2, g1, g2, g3, g4, g5, ⟨g6, g7⟩, g8⟩
/-- A write to a record, behind its reading. -/
theorem loop_wr {k b q : Nat} {r r' : Loop} {s s1 s' : St μ} {u : Unit} (h1 : (rd k : M I Obj).run s = some (.loop r, s1)) (h2 : (wr lo k (some (.loop r')) : M I Unit).run s1 = some (u, s'))
    {E : Env} {g : Nat → Option Obj} {w : World} (hR : Rel P lo w0 E g w) (hA : Agree I s s' g) (hk : E k = some (b, q)) {y y' : Loop} (hy : w.heap[b]? = some (.loop y)) (ho : ∀ q, OR P E q (.loop r') (.loop y')) :
    s'.next = s.next ∧ Rel P lo w0 E (merge I s' g) (w.putObj b (.loop y')) := by
  obtain ⟨e1, e2, e3, e4, e5⟩ := rd_run h1
  obtain ⟨w1, ⟨o0, w2⟩, w3, w4, w5, w6⟩ := wr_run h2
  have l1 := (rd (I := I) k).le _ _ _ h1
  have l2 := (wr (I := I) lo k (some (.loop r'))).le _ _ _ h2
  have hm : merge I s1 g = g := merge_read (hA.first l2) (fun k => by rw [e4]) (fun k => by rw [e3])
  have hA1 : Agree I s1 s' g := by have := hA.second l1 l2; rwa [hm] at this
  have hg : g k = some (.loop r) := by rw [hA k (by rw [l2.T k e5, Bool.true_or]), e1]
  refine ⟨by rw [w3, e2], ?_⟩
  rw [merge_write hA1 w5 w6]
  exact hR.write hg hk w1 (putObj_turned hy) (ho q)
theorem round_ok {self : Self I} (hcd : CodeOK P lo w0 self.code) {k : Nat} {ts : Array Value} {assign body : Code} {s s' : St μ} {r : AEnd} (hr : (roundA lo self k ts assign body).run s = some (r, s'))
    {E : Env} {g : Nat → Option Obj} {w : World} {b q : Nat} {f : FuncId} {cs : Array Value} {ρ' : Option Nat} (hR : Rel P lo w0 E g w) (hA : Agree I s s' g) (hF : Fresh s s' E) (hk : E k = some (b, q)) (hts : ARl E ts cs) :
    RoundIn (fen ρ') (0 - 1) P b f cs assign body w fun e w' => ∃ E', Env.Ext E E' s.next s'.next ∧ EnR E' r e ∧ Rel P lo w0 E' (merge I s' g) w' := by
  unfold roundA at hr
  cases hsz : Nat.blt ts.size 4000 with
  | false => rw [hsz] at hr; exact (fail_run hr).elim
  | true =>
    rw [hsz, cond_true] at hr
    rw [blt_eq, decide_eq_true_eq] at hsz
    obtain ⟨⟨e1, a1⟩, s1, h1, h2⟩ := bind_run hr
    have hle : St.Le I s1 s' := M.le _ _ _ _ h2
    refine roundIn_of_wpIn (F := fen ρ') trivial ?_
    refine hcd (some k) assign _ s e1 a1 s1 h1 E g w _ _ (some b) ⟨q, hk⟩ hR (hA.first hle) (hF.first hle.next) (frame_tmps hsz hts) fun E1 ce ca1 w1 hx1 he1 ha1 hR1 => ?_
    obtain ⟨hA1, hF1, hX1, hm1⟩ := chain h1 hle hA hF hx1
    unfold roundB at h2
    cases e1 with
    | normal =>
      cases ce <;> simp only [ExR] at he1 <;> first | exact he1.elim | skip
      simp only at h2
      obtain ⟨u, s2, h3, h4⟩ := bind_run h2
      have hle2 : St.Le I s2 s' := M.le _ _ _ _ h4
      unfold beginA at h3
      obtain ⟨ob, s3, h5, h6⟩ := bind_run h3
      have hk1 := hx1.keep _ _ hk
      cases ob with
      | loop x =>
        simp only at h6
        cases hst : x.state with
        | ready =>
          rw [hst] at h6
          simp only at h6
          have hgx : merge I s1 g k = some (.loop x) := by
            obtain ⟨e1', e2', e3', e4', e5'⟩ := rd_run h5
            have l6 := M.le _ _ _ _ h6
            rw [(hA1.first hle2) k (by rw [l6.T k e5', Bool.true_or]), e1']
          obtain ⟨y, q', y0, y1, y2, y3, y4, y5, y6, y7⟩ := rd_loop hR1 hgx hk1
          obtain ⟨n1, hR2⟩ := loop_wr h5 h6 hR1 (hA1.first hle2) hk1 y0 (y' := { y with state := .busy }) (fun q => .loop rfl y2 y3 y4 y5 y6.1 y6.2 y7)
          refine ⟨w1.putObj b (.loop { y with state := .busy }), run_beginRound y0 (by rw [y1, hst]), ?_⟩
          have hx2 : Env.Ext E1 E1 s1.next s2.next := ⟨fun _ _ h => h, fun _ h => .inl h⟩
          obtain ⟨hA2, hF2, hX2, hm2⟩ := chain h3 hle2 hA1 hF1 hx2
          obtain ⟨⟨e2, a2⟩, s4, h7, h8⟩ := bind_run h4
          have hle4 : St.Le I s4 s' := M.le _ _ _ _ h8
          refine hcd (some k) body a1 s2 e2 a2 s4 h7 E1 _ _ ca1 _ (some b) ⟨q, hk1⟩ hR2 (hA2.first hle4) (hF2.first hle4.next) ha1 fun E2 ce2 ca2 w2 hx3 he2 ha2 hR3 => ?_
          obtain ⟨hA3, hF3, hX3, hm3⟩ := chain h7 hle4 hA2 hF2 hx3
          have hk2 := hx3.keep _ _ hk1
          have fin : ∀ (jump : Option Code), (endRoundA lo k jump : M I AEnd).run s4 = some (r, s') → ∃ v w', (Instr.endRound b jump).run P w2 = .ok v w' ∧ ∃ E', Env.Ext E E' s.next s'.next ∧ EnR E' r (.returned v) ∧ Rel P lo w0 E' (merge I s' g) w' := fun jump hj => by
            unfold endRoundA at hj
            obtain ⟨ob2, s5, j1, j2⟩ := bind_run hj
            cases ob2 with
            | loop z =>
              simp only at j2
              obtain ⟨u2, s6, j3, j4⟩ := bind_run j2
              obtain ⟨j5, rfl⟩ := pure_run j4
              subst j5
              have hgz : merge I s4 (merge I s2 (merge I s1 g)) k = some (.loop z) := by
                obtain ⟨e1', e2', e3', e4', e5'⟩ := rd_run j1
                have l6 := M.le _ _ _ _ j3
                rw [hA3 k (by rw [l6.T k e5', Bool.true_or]), e1']
              obtain ⟨y', q2, z0, z1, z2, z3, z4, z5, z6, z7⟩ := rd_loop hR3 hgz hk2
              obtain ⟨n2, hR4⟩ := loop_wr j1 j3 hR3 hA3 hk2 z0 (y' := { y' with state := if jump.isNone then .ready else .done, pending := jump }) (fun q => .loop rfl rfl z3 z4 z5 z6.1 z6.2 z7)
              refine ⟨_, _, run_endRound jump z0, E2, ?_, .bool _, ?_⟩
              · exact hX1 E2 (hX2 E2 (hX3 E2 ⟨fun _ _ h => h, fun _ h => .inl h⟩))
              · rw [hm3, hm2, hm1] at hR4; exact hR4
            | _ => exact (fail_run j2).elim
          cases e2 with
          | normal =>
            cases ce2 <;> simp only [ExR] at he2 <;> first | exact he2.elim | skip
            exact fin none h8
          | ret =>
            cases ce2 <;> simp only [ExR] at he2 <;> first | exact he2.elim | skip
            exact fin (some .ret) h8
          | exit id =>
            cases ce2 <;> simp only [ExR] at he2 <;> first | exact he2.elim | skip
            subst he2
            exact fin (some (.exit id)) h8
          | panic v => exact (fail_run h8).elim
        | _ => rw [hst] at h6; exact (fail_run h6).elim
      | _ => exact (fail_run h6).elim
    | _ => exact (fail_run h2).elim
theorem opsSeq_ok {X : Hk} (hX : Plain P X w0.w) {self : Self I} (hcd : CodeOK P lo w0 self.code) (hc : CallOK P lo w0 self.call) {ops : Array Oper} {ρ : Option Nat} : ∀ (l : List Oper) (a : AAct), CodeP P lo w0 ρ (opsSeq P X lo ρ self ops l a) a (fun ρ' Q ca w => wpListIn (fen ρ') 0 P ops Q l ca w)
  | [], a => by
    intro s e a' s' hr E g w ca Q ρ' hρ hR hA hF ha hQ
    obtain ⟨h1, rfl⟩ := pure_run hr
    cases h1
    exact hQ E .normal ca w (.refl _ _) trivial ha (by rw [merge_read hA (fun _ => rfl) (fun _ => rfl)]; exact hR)
  | o :: rest, a => by
    intro s e a' s' hr E g w ca Q ρ' hρ hR hA hF ha hQ
    have hw := wantedA_eq (ops := ops) ha o
    unfold opsSeq at hr
    unfold wpListIn
    rw [hw]
    cases hwa : wantedA ops a o with
    | false =>
      simp only [hwa, cond_false] at hr
      obtain ⟨a1, s1, h1, h2⟩ := bind_run hr
      obtain ⟨rfl, ha1⟩ := ha.put (VR.undef E) h1
      rw [if_neg (by simp)]
      exact ⟨fun _ _ => trivial, opsSeq_ok hX hcd hc rest a1 _ e a' s' h2 E g w _ Q ρ' hρ hR hA hF ha1 hQ⟩
    | true =>
      simp only [hwa, cond_true] at hr
      rw [if_pos rfl]
      refine ⟨fun _ _ => trivial, ?_⟩
      have hev := ha.ev (lo := lo) hR.old
      by_cases hp : ∃ x, o.op = .panic x
      · obtain ⟨x, hx⟩ := hp
        unfold opB at hr
        rw [hx] at hr
        simp only at hr
        unfold panicA arg at hr
        cases hv : evA lo a x with
        | none => rw [hv] at hr; obtain ⟨_, _, h1, _⟩ := bind_run hr; exact (fail_run h1).elim
        | some v =>
          rw [hv] at hr
          obtain ⟨v1, s1, h1, h2⟩ := bind_run hr
          obtain ⟨rfl, rfl⟩ := pure_run h1
          unfold panicV at h2
          split at h2
          · rename_i t u
            obtain ⟨h3, rfl⟩ := pure_run h2
            cases h3
            have hvr := hev _ _ hv
            generalize hq : ca.eval x = q at hvr
            cases hvr with
            | iface _ hu =>
              rename_i u'
              have hrun : (execOp ca.eval o).run P w = .halt (.panic (.iface t u')) w := by
                unfold execOp; rw [hx]
                simp [hq, Instr.panic]
              rw [Oper.semAt_eq _ _ _ (by rw [hx]; intro c h; cases h), hrun]
              exact hQ E (.panic [{ v := .iface t u', recovered := false }]) ca w (.refl _ _) ⟨_, rfl, .iface t hu⟩ ha (by rw [merge_read hA (fun _ => rfl) (fun _ => rfl)]; exact hR)
          · exact (fail_run h2).elim
      · have hnp : opB P X lo ρ self a o (opsSeq P X lo ρ self ops rest) = (stepOp P X lo (evA lo a) o >>= afterOp lo ρ self a o (opsSeq P X lo ρ self ops rest)) := by
          unfold opB
          split
          · rename_i x hx; exact absurd ⟨x, hx⟩ hp
          · rfl
        rw [hnp] at hr
        obtain ⟨r, s1, h1, h2⟩ := bind_run hr
        have hle2 : St.Le I s1 s' := M.le _ _ _ _ h2
        obtain ⟨E1, nx, w1, hrun, hx1, hnr, hR1⟩ := sim_stepOp (lo := lo) (w0 := w0) (E := E) hX hev o s r s1 h1 E g w (fun _ _ h => h) hR (hA.first hle2) (hF.first hle2.next) trivial
        obtain ⟨hA1, hF1, hX1, hm1⟩ := chain h1 hle2 hA hF hx1
        have ha1 := ha.mono hx1.keep
        have hsem : (∀ d, r ≠ .defer d) → (o.semAt (fen ρ').round ca.eval).run P w = (execOp ca.eval o).run P w := fun hne => by
          rw [Oper.semAt_eq]
          intro c hc0
          have : ∃ d, r = .defer d := by
            have h9 := h1
            unfold stepOp at h9
            rw [hc0] at h9
            simp only [sDefer] at h9
            split at h9
            · unfold deferA at h9
              split at h9
              · obtain ⟨h9, _⟩ := pure_run h9; exact ⟨_, h9⟩
              · exact (fail_run h9).elim
            · exact (fail_run h9).elim
          obtain ⟨d, hd⟩ := this
          exact hne d hd
        cases r with
        | val v =>
          rw [hsem (fun d h => by cases h), hrun]
          obtain ⟨a1, s2, h3, h4⟩ := bind_run h2
          have key : ∀ v', VR E1 v v' → wpListIn (fen ρ') 0 P ops Q rest (ca.put o.dst v') w1 := fun v' hv' => by
            obtain ⟨rfl, ha2⟩ := ha1.put hv' h3
            refine opsSeq_ok hX hcd hc rest a1 _ e a' s' h4 E1 _ w1 _ Q ρ' (hρ.mono hx1.keep) hR1 hA1 hF1 ha2 fun E' ce ca' w' hx' he' ha' hR' => hQ E' ce ca' w' (hX1 E' hx') he' ha' (by rw [hm1] at hR'; exact hR')
          cases nx <;> simp only [NR] at hnr <;> first | exact hnr.elim | skip
          · exact key _ hnr
          · subst hnr; exact key _ (VR.undef E1)
        | call f args =>
          rw [hsem (fun d h => by cases h), hrun]
          cases nx <;> simp only [NR] at hnr <;> first | exact hnr.elim | skip
          rename_i f' cs
          obtain ⟨rfl, hargs⟩ := hnr
          obtain ⟨en, s2, h3, h4⟩ := bind_run h2
          have hle3 : St.Le I s2 s' := M.le _ _ _ _ h4
          have hcall := hc f args s1 en s2 h3 E1 _ w1 cs hR1 (hA1.first hle3) (hF1.first hle3.next) hargs
          rw [Oper.uponIn_enter]
          refine ⟨fen_depth, callsIn_fen (hcall.mono fun e2 w2 ⟨E2, hx2, hen, hR2⟩ => ?_)⟩
          obtain ⟨hA2, hF2, hX2, hm2⟩ := chain h3 hle3 hA1 hF1 hx2
          have ha2 := ha1.mono hx2.keep
          cases en with
          | ret v =>
            cases e2 with
            | panicked c => exact hen.elim
            | outgrown => exact hen.elim
            | returned v' =>
            obtain ⟨a1, s3, h5, h6⟩ := bind_run h4
            obtain ⟨rfl, ha3⟩ := ha2.put hen h5
            refine opsSeq_ok hX hcd hc rest a1 _ e a' s' h6 E2 _ w2 _ Q ρ' ((hρ.mono hx1.keep).mono hx2.keep) hR2 hA2 hF2 ha3 fun E' ce ca' w' hx' he' ha' hR' => hQ E' ce ca' w' (hX1 E' (hX2 E' hx')) he' ha' (by rw [hm2, hm1] at hR'; exact hR')
          | panic v =>
            obtain ⟨h5, rfl⟩ := pure_run h4
            cases h5
            cases e2 with
            | panicked c =>
              have hmm : merge I s' (merge I s1 g) = merge I s' g := hm1
              exact hQ E2 (.panic c) ca w2 (hX1 E2 hx2) hen ha2 (by rw [hmm] at hR2; exact hR2)
            | returned v' => exact hen.elim
            | outgrown => exact hen.elim
        | defer d =>
          unfold afterOp at h2
          simp only at h2
          cases ρ with
          | some l => exact (fail_run h2).elim
          | none =>
          cases ρ' with
          | some l' => exact hρ.elim
          | none =>
          simp only [noDefer, cond_true] at h2
          change Oper.uponIn (fen none) 0 P o ca _ Q ((execOp ca.eval o).run P w)
          rw [hrun]
          cases nx <;> simp only [NR] at hnr <;> first | exact hnr.elim | skip
          rename_i d'
          obtain ⟨a1, s2, h3, h4⟩ := bind_run h2
          have ha2 : ActR E1 ⟨a.n, a.t, d :: a.defers⟩ { ca with defers := d' :: ca.defers } := ⟨ha1.size, ha1.val, by simp [ha1.len], fun j x y hx hy => by
            rcases j with _ | j
            · simp at hx hy; subst hx; subst hy; exact hnr
            · simp at hx hy; exact ha1.defers j x y hx hy⟩
          obtain ⟨rfl, ha3⟩ := ha2.put (VR.undef E1) h3
          refine opsSeq_ok hX hcd hc rest a1 _ e a' s' h4 E1 _ w1 _ Q none trivial hR1 hA1 hF1 ha3 fun E' ce ca' w' hx' he' ha' hR' => hQ E' ce ca' w' (hX1 E' hx') he' ha' (by rw [hm1] at hR'; exact hR')
        | round l ts b c =>
          rw [hsem (fun d h => by cases h), hrun]
          cases nx <;> simp only [NR] at hnr <;> first | exact hnr.elim | skip
          rename_i l' f' cs b' c'
          obtain ⟨rfl, rfl, ⟨q, hq⟩, hargs⟩ := hnr
          obtain ⟨en, s2, h3, h4⟩ := bind_run h2
          have hle3 : St.Le I s2 s' := M.le _ _ _ _ h4
          have hcall := round_ok (ρ' := ρ') (f := f') hcd h3 hR1 (hA1.first hle3) (hF1.first hle3.next) hq hargs
          rw [Oper.uponIn_round]
          refine ⟨fen_depth, (hcall.mono fun e2 w2 ⟨E2, hx2, hen, hR2⟩ => ?_)⟩
          obtain ⟨hA2, hF2, hX2, hm2⟩ := chain h3 hle3 hA1 hF1 hx2
          have ha2 := ha1.mono hx2.keep
          cases en with
          | ret v =>
            cases e2 with
            | panicked c => exact hen.elim
            | outgrown => exact hen.elim
            | returned v' =>
            obtain ⟨a1, s3, h5, h6⟩ := bind_run h4
            obtain ⟨rfl, ha3⟩ := ha2.put hen h5
            refine opsSeq_ok hX hcd hc rest a1 _ e a' s' h6 E2 _ w2 _ Q ρ' ((hρ.mono hx1.keep).mono hx2.keep) hR2 hA2 hF2 ha3 fun E' ce ca' w' hx' he' ha' hR' => hQ E' ce ca' w' (hX1 E' (hX2 E' hx')) he' ha' (by rw [hm2, hm1] at hR'; exact hR')
          | panic v =>
            obtain ⟨h5, rfl⟩ := pure_run h4
            cases h5
            cases e2 with
            | panicked c =>
              have hmm : merge I s' (merge I s1 g) = merge I s' g := hm1
              exact hQ E2 (.panic c) ca w2 (hX1 E2 hx2) hen ha2 (by rw [hmm] at hR2; exact hR2)
            | returned v' => exact hen.elim
            | outgrown => exact hen.elim
        | panic v => exact (fail_run h2).elim
        | recover => exact (fail_run h2).elim
end
end Go.Am

/- The abstract evaluator: a region that draws its order. Conditions: none. -/
namespace Go.Am
open Go Go.RowKit
set_option linter.unusedVariables false
set_option linter.unusedSimpArgs false
noncomputable section
variable {μ : Type} {I : MemI μ} {P : Program} {lo : Lim} {w0 : Bs} {E : Env}

/-- A run with marks of its own. -/
def alone {α : Type} (m : M I α) : M I (α × Nat × Nat) := ⟨fun s => match m.run ⟨s.next, s.mem, 0, 0⟩ with
    | none => none
    | some (a, s') => some ((a, s'.T, s'.W), ⟨s'.next, s'.mem, s.T ||| s'.T, s.W ||| s'.W⟩), fun s a s' h => by
  cases e : m.run ⟨s.next, s.mem, 0, 0⟩ with
  | none => rw [e] at h; cases h
  | some x =>
    obtain ⟨b, s1⟩ := x
    rw [e] at h; cases h
    have hl := m.le _ _ _ e
    refine ⟨hl.next, fun k hk => by simp [Nat.testBit_or, hk], fun k hk => by simp [Nat.testBit_or, hk], fun k hk => ?_⟩
    simp [Nat.testBit_or] at hk
    exact hl.mem k hk.2⟩
theorem alone_run {α : Type} {m : M I α} {s s' : St μ} {a : α} {T W : Nat} (h : (alone m).run s = some ((a, T, W), s')) :
    m.run ⟨s.next, s.mem, 0, 0⟩ = some (a, ⟨s'.next, s'.mem, T, W⟩) ∧ s'.T = s.T ||| T ∧ s'.W = s.W ||| W := by
  simp only [alone] at h
  cases e : m.run ⟨s.next, s.mem, 0, 0⟩ with
  | none => rw [e] at h; cases h
  | some x =>
    obtain ⟨b, s1⟩ := x
    rw [e] at h; cases h
    exact ⟨rfl, rfl, rfl⟩

/-- The slots that an operation looks at, and no others. -/
def evO (lo : Lim) (ops : Array Oper) (o : Oper) (a : AAct) : Ev
  | .tmp t => bif (o.looksAt ops).contains t then some (a.val t) else none
  | x => evA lo a x

def endV (e : AEnd) : M I Value := match e with
  | .ret v => pure v
  | .panic _ => fail
def resV (lo : Lim) (self : Self I) (r : OpRes) : M I Value := match r with
  | .val v => pure v
  | .call f args => self.call f args >>= endV
  | .round l ts b c => roundA lo self l ts b c >>= endV
  | _ => fail
/-- One operation of the region, walked to its value. -/
def oneD (P : Program) (X : Hk) (lo : Lim) (self : Self I) (ops : Array Oper) (o : Oper) (a : AAct) : M I Value :=
  bif wantedA ops a o then stepOp P X lo (evO lo ops o a) o >>= resV lo self else pure undef

/-- What one operation of the region has done. -/
structure Mk where
  T : Nat
  W : Nat

/-- The text's order, with the marks of each. -/
def runD (P : Program) (X : Hk) (lo : Lim) (self : Self I) (ops : Array Oper) : List Oper → AAct → M I (AAct × List Mk)
  | [], a => pure (a, [])
  | o :: rest, a => alone (oneD P X lo self ops o a) >>= fun r => putA' a o.dst r.1 >>= fun a' => runD P X lo self ops rest a' >>= fun q => pure (q.1, ⟨r.2.1, r.2.2⟩ :: q.2)

/-- Two operations do not touch each other. -/
def apartM (ops : Array Oper) (o p : Oper) (x y : Mk) : Bool := o.apart ops p && Nat.beq (x.W &&& (y.T ||| y.W)) 0 && Nat.beq (x.T &&& y.W) 0
/-- What stands ahead of each operation, as bits. -/
def maskOf (acc : List Nat) : List Edge → Nat
  | [] => 0
  | e :: l => bif Region.binds .any e then (maskOf acc l ||| 1 <<< e.on) ||| acc.getD e.on 0 else maskOf acc l
def masks : List Oper → List Nat → List Nat
  | [], acc => acc
  | o :: l, acc => masks l (acc ++ [maskOf acc o.after.toList])
/-- i < j: the one is ahead of the other, or they are apart. -/
def checkD (ops : Array Oper) (bef : List Nat) (ms : List Mk) : Bool :=
  (ms.zipIdx.all fun (y, j) => ms.zipIdx.all fun (x, i) => !Nat.blt i j || (bef.getD j 0).testBit i || match ops[i]?, ops[j]? with
    | some o, some p => apartM ops o p x y
    | _, _ => false) && ops.toList.zipIdx.all fun (o, i) => o.after.all fun e => !Region.binds .any e || Nat.blt e.on i
def drawA (P : Program) (X : Hk) (lo : Lim) (self : Self I) (ops : Array Oper) (a : AAct) : M I (AExit × AAct) :=
  runD P X lo self ops ops.toList a >>= fun q => bif checkD ops (masks ops.toList []) q.2 then pure (.normal, q.1) else fail
/-- Edges and guard look back. -/
def backOK (n i : Nat) (o : Oper) : Bool := (o.after.all fun e => !Region.binds .any e || Nat.blt e.on i) && match o.guard with
  | some (j, _) => Nat.blt j n
  | none => true
/-- The last one, where it stands behind all the others. -/
def lastP (ops : Array Oper) : Option Oper := match ops.back? with
  | some p => bif (ops.toList.zipIdx.all fun (o, i) => backOK ops.pop.size i o) && ((List.range ops.pop.size).all fun i => ((masks ops.toList []).getD ops.pop.size 0).testBit i) then some p else none
  | none => none
def thenL (k : AAct → M I (AExit × AAct)) (r : AExit × AAct) : M I (AExit × AAct) := match r with
  | (.normal, a1) => k a1
  | r => pure r
def drawL (P : Program) (X : Hk) (lo : Lim) (ρ : Option Nat) (self : Self I) (ops : Array Oper) (a : AAct) : M I (AExit × AAct) := match lastP ops with
  | some p => drawA P X lo self ops.pop a >>= thenL (opsSeq P X lo ρ self ops [p])
  | none => drawA P X lo self ops a
end
end Go.Am
