/- The abstract evaluator: one operation. Conditions: none. -/
import Derived.Orders
import Derived.Test.YtbgjanmheagilaaDoorAmGX
import Derived.LoopN
import Derived.Defers
set_option linter.unusedVariables false
set_option linter.unusedSimpArgs false
namespace Go.Am
open Go Go.RowKit
set_option linter.unusedVariables false
set_option linter.unusedSimpArgs false
variable {μ : Type} {I : MemI μ} {P : Program} {lo : Lim} {w0 : Bs} {E : Env} {H : (Nat → Option Obj) → Prop}

/-- How an operation ends. -/
inductive OpRes where
  | val (v : Value)
  | panic (v : Value)
  | call (f : FuncId) (args : Array Value)
  | defer (d : Deferred)
  | recover

def DR (E : Env) (d d' : Deferred) : Prop := ∃ f cap cap', d.target = .fn (.func f) cap ∧ d'.target = .fn (.func f) cap' ∧ ARl E cap cap' ∧ ARl E d.args d'.args
/-- An operation's end against the model's. -/
def NR (E : Env) : OpRes → Next → Prop
  | .val v, .value v' => VR E v v'
  | .val v, .skip => v = undef
  | .call f as, .enter f' cs => f = f' ∧ ARl E as cs
  | .defer d, .defer d' => DR E d d'
  | .recover, .recover => True
  | _, _ => False

abbrev Ev := Operand → Option Value
def evT (ev : Ev) (x : Operand) : Value := (ev x).getD undef

def liftV (m : M I Value) : M I OpRes := m >>= fun v => pure (.val v)
def liftU (m : M I Unit) : M I OpRes := m >>= fun _ => pure (.val undef)
theorem sim_liftV {m : M I Value} {c : Sem Value} (h : Sim P lo w0 E H m c VR) : Sim P lo w0 E H (liftV m) (do pure (.value (← c)) : Sem Next) NR :=
  Sim.bind h fun E1 a b hE hab => Sim.pure fun E2 hE2 => hab.mono hE2
theorem sim_liftU {m : M I Unit} {c : Sem Unit} (h : Sim P lo w0 E H m c (fun _ _ _ => True)) : Sim P lo w0 E H (liftU m) (do c; pure .skip : Sem Next) NR :=
  Sim.bind h fun E1 a b hE hab => Sim.pure fun E2 hE2 => rfl

/-! ### What does not look at the world -/
def gndV (v : Value) : Bool := gnd 3 v
def pureOp (P : Program) (ev : Ev) (o : Oper) : M I OpRes :=
  bif o.op.operands.toList.all (fun x => match ev x with | some v => gnd 3 v | none => false) then
    match pureRun P (execOp (evT ev) o) with
    | some (.value v) => bif gnd 3 v then pure (.val v) else fail
    | _ => fail
  else fail
theorem sim_pureOp {ev : Ev} {ρ : Operand → Value} {o : Oper} (hρ : ∀ x v, ev x = some v → VR E v (ρ x)) (hs : ∀ cs b, o.op ≠ .select cs b) : Sim P lo w0 E H (pureOp P ev o : M I OpRes) (execOp ρ o) NR := by
  unfold pureOp
  cases hb : o.op.operands.toList.all (fun x => match ev x with | some v => gnd 3 v | none => false) with
  | false => exact Sim.fail
  | true =>
    simp only [cond_true]
    have he : execOp (evT ev) o = execOp ρ o := execOp_congr o hs fun x hx => by
      have h1 := List.all_eq_true.1 hb x (by simpa using hx)
      unfold evT
      cases hv : ev x with
      | none => rw [hv] at h1; cases h1
      | some v =>
        rw [hv] at h1
        exact (gnd_eq (hρ x v hv) 3 h1).symm
    split
    · rename_i v hp
      cases hg : gnd 3 v with
      | false => exact Sim.fail
      | true =>
        rw [he] at hp
        exact Sim.leaf fun E1 g w hE _ _ => ⟨_, pureRun_run hp w, gnd_refl E1 3 v hg⟩
    · exact Sim.fail

/-! ### Rows of operands -/
def evs (ev : Ev) : List Operand → Option (List Value)
  | [] => some []
  | x :: xs => match ev x with
    | some v => match evs ev xs with
      | some vs => some (v :: vs)
      | none => none
    | none => none
theorem evs_rel {ev : Ev} {ρ : Operand → Value} (hρ : ∀ x v, ev x = some v → VR E v (ρ x)) : ∀ (xs : List Operand) (vs : List Value), evs ev xs = some vs → LR E vs (xs.map ρ)
  | [], vs, h => by simp [evs] at h; subst h; exact ⟨rfl, fun a c j ha => by simp at ha⟩
  | x :: xs, vs, h => by
    simp only [evs] at h
    split at h
    · rename_i v hv
      split at h
      · rename_i vs' hvs
        cases h
        have ih := evs_rel hρ xs vs' hvs
        refine ⟨by simp [ih.1], fun a c j ha hc => ?_⟩
        rcases j with _ | j
        · simp at ha hc; subst ha; subst hc; exact hρ x v hv
        · simp at ha hc; exact ih.2 a c j ha (by simpa using hc)
      · cases h
    · cases h
theorem LR.arr {as cs : List Value} (h : LR E as cs) : ARl E as.toArray cs.toArray := ⟨by simpa using h.1, fun a c j ha hc => h.2 a c j (by simpa using ha) (by simpa using hc)⟩
theorem ARl.lst {as cs : Array Value} (h : ARl E as cs) : LR E as.toList cs.toList := ⟨by simpa using h.1, fun a c j ha hc => h.2 a c j (by simpa using ha) (by simpa using hc)⟩
theorem evs_arr {ev : Ev} {ρ : Operand → Value} (hρ : ∀ x v, ev x = some v → VR E v (ρ x)) {xs : Array Operand} {vs : List Value} (h : evs ev xs.toList = some vs) : ARl E vs.toArray (xs.map ρ) := by
  have := (evs_rel hρ _ _ h).arr
  rwa [show ((xs.toList.map ρ).toArray : Array Value) = xs.map ρ by rw [← Array.toList_map]] at this
def evps (ev : Ev) : List (Nat × Operand) → Option (List (Nat × Value))
  | [] => some []
  | (i, x) :: xs => match ev x with
    | some v => match evps ev xs with
      | some vs => some ((i, v) :: vs)
      | none => none
    | none => none
theorem evps_rel {ev : Ev} {ρ : Operand → Value} (hρ : ∀ x v, ev x = some v → VR E v (ρ x)) : ∀ (xs : List (Nat × Operand)) (vs : List (Nat × Value)), evps ev xs = some vs → PR E vs (xs.map fun (i, x) => (i, ρ x))
  | [], vs, h => by simp [evps] at h; subst h; trivial
  | (i, x) :: xs, vs, h => by
    simp only [evps] at h
    split at h
    · rename_i v hv
      split at h
      · rename_i vs' hvs
        cases h
        exact ⟨rfl, hρ x v hv, evps_rel hρ xs vs' hvs⟩
      · cases h
    · cases h
def evo (ev : Ev) : Option Operand → Option (Option Value)
  | none => some none
  | some x => match ev x with
    | some v => some (some v)
    | none => none
theorem evo_rel {ev : Ev} {ρ : Operand → Value} (hρ : ∀ x v, ev x = some v → VR E v (ρ x)) {x : Option Operand} {v : Option Value} (h : evo ev x = some v) : OVR E v (x.map ρ) := by
  cases x with
  | none => simp [evo] at h; subst h; trivial
  | some x =>
    simp only [evo] at h
    split at h
    · rename_i u hu; cases h; exact hρ x u hu
    · cases h

/-! ### Texts out of bytes -/
def strA (P : Program) (src dst : TypeId) (x : Value) : M I Value := match P.underlying src, P.underlying dst, x with
  | some (.slice e), some .string, .slice (some ⟨k, o, _⟩) n _ => match P.underlying e with
    | some (.int .u8) => rd k >>= fun ob => match ob with
      | .cells c _ _ => bif Nat.ble (o + n) c.size then match bytesOf ((c.toList.drop o).take n) with
          | some bs => pure (.string ⟨bs.toArray⟩)
          | none => fail
        else fail
      | _ => fail
    | _ => fail
  | _, _, _ => fail
theorem bytesOf_spec : ∀ (l : List Value) (bs : List UInt8), bytesOf l = some bs → ∃ ns : List Int, l = ns.map (Value.int .u8) ∧ bs = ns.map fun n => UInt8.ofNat n.toNat
  | [], bs, h => by simp [bytesOf] at h; subst h; exact ⟨[], rfl, rfl⟩
  | v :: l, bs, h => by
    unfold bytesOf at h
    split at h
    · rename_i h0; cases h0
    · rename_i n l' h0
      cases h0
      split at h
      · rename_i r hr
        cases h
        obtain ⟨ns, rfl, rfl⟩ := bytesOf_spec l r hr
        exact ⟨n :: ns, rfl, rfl⟩
      · cases h
    · cases h
theorem fold_push : ∀ (ns : List Int) (s : ByteArray), ns.foldl (fun r n => r.push (UInt8.ofNat n.toNat)) s = ⟨s.data ++ (ns.map fun n => UInt8.ofNat n.toNat).toArray⟩
  | [], s => by simp
  | n :: ns, s => by
    rw [List.foldl_cons, fold_push ns]
    congr 1
    apply Array.toList_inj.1
    simp [ByteArray.push]
theorem sim_strA {src dst : TypeId} {x x' : Value} (hx : VR E x x') : Sim P lo w0 E H (strA P src dst x : M I Value) (convert src dst x') VR := by
  unfold strA
  split
  · rename_i e k o sp n cp hs hd
    split
    · rename_i he
      have key : ∀ (b r c' : Nat), E k = some (b, r) → Sim P lo w0 E H (rd k >>= fun ob => match ob with
          | .cells c _ _ => bif Nat.ble (o + n) c.size then match bytesOf ((c.toList.drop o).take n) with
              | some bs => (pure (.string ⟨bs.toArray⟩) : M I Value)
              | none => fail
            else fail
          | _ => fail) (convert src dst (.slice (some ⟨b, o, none⟩) n c')) VR := fun b r c' hk => by
        refine Sim.rd fun ob => ?_
        cases ob with
        | cells c e' fr =>
          cases hb : Nat.ble (o + n) c.size with
          | false => simp only [hb]; exact Sim.fail
          | true =>
            have hle := Nat.le_of_ble_eq_true hb
            simp only [hb, cond_true]
            split
            · rename_i bs hbs
              obtain ⟨ns, h1, rfl⟩ := bytesOf_spec _ _ hbs
              refine Sim.leaf fun E1 g w hE hR ⟨_, hg⟩ => ?_
              obtain ⟨cs, fr', h2, h3, _, h4⟩ := hR.cells hg (hE _ _ hk)
              have hseg : (cs.toList.drop o).take n = ns.map (Value.int .u8) := by
                rw [← h1]
                apply List.ext_getElem?
                intro j
                rw [seg_getElem?, seg_getElem?]
                split
                · rename_i hj
                  have hc : c[o + j]? = some c[o + j] := by simp
                  have hc' : cs[o + j]? = some cs[o + j] := by simp
                  have hv := h4 _ _ _ hc hc'
                  rw [hc, hc']
                  have hmem : c[o + j] ∈ (c.toList.drop o).take n := List.mem_of_getElem? (i := j) (by rw [seg_getElem?, if_pos hj, hc])
                  rw [h1] at hmem
                  obtain ⟨m, _, hm⟩ := List.mem_map.1 hmem
                  rw [gnd_eq hv 0 (by rw [← hm]; rfl)]
                · rfl
              have hlen : ((cs.toList.drop o).take n).length = n := by simp; omega
              have hl := run_loadCells_list (P := P) w ⟨b, o, none⟩ ((cs.toList.drop o).take n) (fun j v hj => by
                rw [seg_getElem?] at hj
                split at hj
                · rw [add_lit0, cell_of h2]; exact hj
                · cases hj)
              rw [hlen, hseg] at hl
              refine ⟨_, by rw [run_convert_bytes_string w src dst e _ n c' hs he hd, run_bytesToString w _ n c' ns hl], ?_⟩
              rw [fold_push]
              have : (ByteArray.empty.data ++ (ns.map fun n => UInt8.ofNat n.toNat).toArray) = (ns.map fun n => UInt8.ofNat n.toNat).toArray := by
                show (#[] : Array UInt8) ++ _ = _
                simp
              rw [this]
              exact .string _
            · exact Sim.fail
        | _ => exact Sim.fail
      cases hx with
      | slice _ _ hk => exact key _ _ _ hk
      | wide _ _ hk => exact key _ _ _ hk
    · exact Sim.fail
  · exact Sim.fail
end Go.Am

/- The abstract evaluator: any one operation. Conditions: none. -/
namespace Go.Am
open Go Go.RowKit
set_option linter.unusedVariables false
set_option linter.unusedSimpArgs false
variable {μ : Type} {I : MemI μ} {P : Program} {lo : Lim} {w0 : Bs} {E : Env} {H : (Nat → Option Obj) → Prop}

/-- What is known of the functions: X, those that are called as they stand (they have a body); Z, answers of functions without a body; L, answers that are known by a contract. -/
structure Hk where
  X : FuncId → Bool
  Z : FuncId → List Value → Option Value
  L : FuncId → List Value → Option Value
structure Plain (P : Program) (h : Hk) : Prop where
  x : ∀ f, h.X f = true → ∃ fn, P.funcs[f]? = some fn ∧ (fn.name == "runtime.NumGoroutine") = false ∧ fn.body.isNone = false
  z : ∀ f vs v, h.Z f vs = some v → vs.all (gnd 3) = true ∧ gnd 3 v = true ∧ ∀ w, (callFunc f vs.toArray).run P w = .ok (.value v) w
  l : ∀ f vs v, h.L f vs = some v → vs.all (gnd 3) = true ∧ gnd 3 v = true ∧ ∀ w, Calls P f vs.toArray w fun e w' => e = .returned v ∧ Below w.heap.size w w'
theorem ARl.gnd {as cs : Array Value} (h : ARl E as cs) (hg : as.toList.all (gnd 3) = true) : cs = as :=
  VR.arr_eq (E := E) h.1 hg fun a c j ha hc hga => gnd_eq (h.2 a c j ha hc) 3 hga

def builtinA (P : Program) (lo : Lim) (ev : Ev) (o : Oper) (b : Builtin) (args : Array Operand) (ts : Array TypeId) : M I OpRes :=
  match b, args, ts with
  | .append, ⟨[s, x]⟩, ⟨[st, xt]⟩ => arg ev s >>= fun sv => arg ev x >>= fun xv => liftV (appendA P lo st xt sv xv)
  | .copy, ⟨[d, x]⟩, ⟨[dt, _]⟩ => arg ev d >>= fun dv => arg ev x >>= fun xv => liftV (copyA P lo dt dv xv)
  | .len, ⟨[x]⟩, ⟨[t]⟩ => arg ev x >>= fun xv => liftV (lenA P t xv)
  | .cap, ⟨[x]⟩, ⟨[t]⟩ => arg ev x >>= fun xv => liftV (capA P t xv)
  | .recover, _, _ => pure .recover
  | .append, _, _ | .copy, _, _ | .len, _, _ | .cap, _, _ | .clear, _, _ | .close, _, _ | .delete, _, _ | .panic, _, _ | .print, _, _ | .println, _, _ => fail
  | _, _, _ => pureOp P ev o

def callA (X : Hk) (ev : Ev) (fv : Operand) (args : Array Operand) : M I OpRes := match ev fv, evs ev args.toList with
  | some (.func (.func f) first cap), some vs => bif X.X f then pure (.call f (first ++ vs.toArray ++ cap)) else match X.Z f (first ++ vs.toArray ++ cap).toList with
    | some v => pure (.val v)
    | none => fail
  | _, _ => fail
def deferA (ev : Ev) (fv : Operand) (args : Array Operand) : M I OpRes := match ev fv, evs ev args.toList with
  | some (.func (.func f) first cap), some vs => pure (.defer { target := .fn (.func f) cap, args := first ++ vs.toArray })
  | _, _ => fail

def isStr (P : Program) (t : TypeId) : Bool := match P.underlying t with
  | some .string => true
  | _ => false

def nilCheckA (x : Value) : M I Value := match x with
  | .pointer (some _) => pure x
  | .iface _ _ => pure x
  | .func (.func _) _ _ => pure x
  | _ => fail
def extractA (x : Value) (i : Nat) : M I Value := match x with
  | .tuple vs => match vs[i]? with
    | some v => pure v
    | none => fail
  | _ => fail
def pickA (c a b : Value) : M I Value := match c with
  | .bool true => pure a
  | .bool false => pure b
  | _ => fail
def kindEq : IntKind → IntKind → Bool
  | .i8, .i8 | .i16, .i16 | .i32, .i32 | .i64, .i64 | .u8, .u8 | .u16, .u16 | .u32, .u32 | .u64, .u64 => true
  | _, _ => false
theorem kindEq_eq {j k : IntKind} (h : kindEq j k = true) : j = k := by cases j <;> cases k <;> first | rfl | (simp [kindEq] at h)
/-- Whole numbers. -/
def fastInt (op : BinOp) (k : IntKind) (a b : Int) : Option Value := match op with
  | .add => some (.int k (k.wrap (a + b)))
  | .sub => some (.int k (k.wrap (a - b)))
  | .mul => some (.int k (k.wrap (a * b)))
  | .eql => some (.bool (a == b))
  | .neq => some (.bool (a != b))
  | .lss => some (.bool (decide (a < b)))
  | .leq => some (.bool (decide (a ≤ b)))
  | .gtr => some (.bool (decide (a > b)))
  | .geq => some (.bool (decide (a ≥ b)))
  | _ => none
def fastBin (op : BinOp) (x y : Value) : Option Value := match x, y with
  | .int k a, .int k' b => bif kindEq k k' then fastInt op k a b else none
  | _, _ => none
theorem fastBin_run {op : BinOp} {t : TypeId} {X Y : Operand} {x y v : Value} (h : fastBin op x y = some v) (w : World) : (do eqGuard op t X Y x y; binOp op t x y : Sem Value).run P w = .ok v w ∧ gnd 0 v = true := by
  unfold fastBin at h
  split at h
  · rename_i k a k' b
    cases hk : kindEq k k' with
    | false => rw [hk] at h; cases h
    | true =>
      rw [hk] at h
      have := kindEq_eq hk
      subst this
      simp only [cond_true] at h
      unfold fastInt at h
      split at h <;> cases h <;> exact ⟨by simp [eqGuard, binOp, Op.intArith, Op.intCmp], rfl⟩
  · cases h
def eqNilA (P : Program) (op : BinOp) (t : TypeId) (x y : Value) : M I OpRes := match op with
  | .eql => match eqNil P t x y with
    | some b => pure (.val (.bool b))
    | none => fail
  | .neq => match eqNil P t x y with
    | some b => pure (.val (.bool (!b)))
    | none => fail
  | _ => fail
def binA (P : Program) (ev : Ev) (o : Oper) (op : BinOp) (t : TypeId) (x y : Value) : M I OpRes := match fastBin op x y with
  | some v => pure (.val v)
  | none => bif gnd 3 x && gnd 3 y then pureOp P ev o else eqNilA P op t x y
/-- Whole numbers turned. -/
def convInt (P : Program) (s d : TypeId) (x : Value) : Option Value := match x with
  | .int _ n => match P.underlying s, P.underlying d with
    | some _, some (.int k) => some (.int k (k.wrap n))
    | _, _ => none
  | _ => none
def convB (P : Program) (ev : Ev) (o : Oper) (s d : TypeId) (x : Value) : M I OpRes := bif gnd 3 x then pureOp P ev o else liftV (strA P s d x)
def convA (P : Program) (ev : Ev) (o : Oper) (s d : TypeId) (x : Value) : M I OpRes := match convInt P s d x with
  | some v => pure (.val v)
  | none => convB P ev o s d x

def s1 (ev : Ev) (x : Operand) (f : Value → M I Value) : M I OpRes := arg ev x >>= fun v => liftV (f v)
def s2 (ev : Ev) (x y : Operand) (f : Value → Value → M I Value) : M I OpRes := arg ev x >>= fun v => arg ev y >>= fun u => liftV (f v u)
def sPick (ev : Ev) (c a b : Operand) : M I OpRes := arg ev c >>= fun cv => arg ev a >>= fun av => arg ev b >>= fun bv => liftV (pickA cv av bv)
def sBuild (P : Program) (ev : Ev) (t : TypeId) (ps : Array (Nat × Operand)) : M I OpRes := match evps ev ps.toList with
  | some vs => liftV (buildA P t vs)
  | none => fail
def sBuildSlice (P : Program) (ev : Ev) (t : TypeId) (n : Nat) (ps : Array (Nat × Operand)) : M I OpRes := match evps ev ps.toList with
  | some vs => liftV (buildSliceA P t n vs)
  | none => fail
def sStore (P : Program) (lo : Lim) (ev : Ev) (t : TypeId) (a x : Operand) : M I OpRes := arg ev a >>= fun v => arg ev x >>= fun xv => liftU (storeA P lo t v xv)
def sBin (P : Program) (ev : Ev) (o : Oper) (op : BinOp) (t : TypeId) (x y : Operand) : M I OpRes := arg ev x >>= fun xv => arg ev y >>= fun yv => binA P ev o op t xv yv
def sConv (P : Program) (ev : Ev) (o : Oper) (s d : TypeId) (x : Operand) : M I OpRes := arg ev x >>= fun v => convA P ev o s d v
def sFunc (ev : Ev) (f : FuncId) (first cap : Array Operand) : M I OpRes := match evs ev first.toList, evs ev cap.toList with
  | some fs, some cs => pure (.val (.func (.func f) fs.toArray cs.toArray))
  | _, _ => fail
def sSlice (P : Program) (ev : Ev) (o : Oper) (t : TypeId) (x : Operand) (l h m : Option Operand) : M I OpRes := bif isStr P t then pureOp P ev o else arg ev x >>= fun v => match evo ev l, evo ev h, evo ev m with
  | some lv, some hv, some mv => liftV (sliceA P t v lv hv mv)
  | _, _, _ => fail
def sIndex (P : Program) (ev : Ev) (o : Oper) (t : TypeId) (x i : Operand) : M I OpRes := bif isStr P t then pureOp P ev o else s2 ev x i (indexA P t)
def sUpdate (P : Program) (lo : Lim) (ev : Ev) (t : TypeId) (m k x : Operand) : M I OpRes := arg ev m >>= fun mv => arg ev k >>= fun kv => arg ev x >>= fun xv => liftU (updateA P lo t mv kv xv)
def sCall (P : Program) (X : Hk) (lo : Lim) (ev : Ev) (o : Oper) (c : Call) : M I OpRes := match c.callee with
  | .value f => callA X ev f c.args
  | .builtin b => builtinA P lo ev o b c.args c.argTypes
  | .invoke _ _ => fail
def sDefer (ev : Ev) (c : Call) : M I OpRes := match c.callee with
  | .value f => deferA ev f c.args
  | _ => fail
def retV (v : Value) : M I Value := pure v

def stepOp (P : Program) (X : Hk) (lo : Lim) (ev : Ev) (o : Oper) : M I OpRes := match o.op with
  | .move x | .assign x => s1 ev x retV
  | .pick c a b => sPick ev c a b
  | .alloc t => liftV (allocA P t)
  | .box t x => s1 ev x (boxA t)
  | .build t ps => sBuild P ev t ps
  | .buildSlice t n ps => sBuildSlice P ev t n ps
  | .load t a => s1 ev a (loadA P t)
  | .store t a x => sStore P lo ev t a x
  | .nilCheck x => s1 ev x nilCheckA
  | .binOp op t x y _ => sBin P ev o op t x y
  | .unOp _ _ _ => pureOp P ev o
  | .convert s d x => sConv P ev o s d x
  | .makeInterface t x => s1 ev x (mkIface P t)
  | .makeFunc (.func f) first cap => sFunc ev f first cap
  | .makeMap _ none => liftV makeMapA
  | .makeSlice t l c => s2 ev l c (makeSliceA P t)
  | .slice t x l h m => sSlice P ev o t x l h m
  | .fieldAddr t x f => s1 ev x (fun v => fieldAddrA P t v f)
  | .field t x f => s1 ev x (fun v => fieldA P t v f)
  | .indexAddr t x i => s2 ev x i (indexAddrA P t)
  | .index t x i => sIndex P ev o t x i
  | .lookup t x i ok => s2 ev x i (fun v iv => lookupA P t v iv ok)
  | .mapUpdate t m k x | .insert t m k x => sUpdate P lo ev t m k x
  | .range t x => s1 ev x (rangeA P t)
  | .next it isS => s1 ev it (fun v => nextA lo v isS)
  | .typeAssert x _ t ok => s1 ev x (fun v => assertA P v t ok)
  | .extract t i => s1 ev t (fun v => extractA v i)
  | .call c => sCall P X lo ev o c
  | .defer c => sDefer ev c
  | _ => fail

theorem ARl.append {as bs cs ds : Array Value} (h : ARl E as cs) (k : ARl E bs ds) : ARl E (as ++ bs) (cs ++ ds) := by
  have := (h.lst.append k.lst).arr
  have e : ∀ x y : Array Value, (x.toList ++ y.toList).toArray = x ++ y := fun x y => by apply Array.toList_inj.1; simp
  rwa [e, e] at this

theorem sim_callA {X : Hk} (hX : Plain P X) {ev : Ev} {ρ : Operand → Value} (hρ : ∀ x v, ev x = some v → VR E v (ρ x)) {fv : Operand} {args : Array Operand} {ts : Array TypeId} {ty : TypeId} :
    Sim P lo w0 E H (callA X ev fv args : M I OpRes) (do let d ← resolve ρ { callee := .value fv, args := args, argTypes := ts } ty; invoke d.target d.args) NR := by
  unfold callA
  split
  · rename_i f first cap vs hf hvs
    cases hx : X.X f with
    | false =>
      simp only [cond_false]
      split
      · rename_i v hz
        obtain ⟨z1, z2, z3⟩ := hX.z f _ v hz
        have hr := hρ _ _ hf
        have ha := evs_arr hρ hvs
        generalize hq : ρ fv = q at hr
        cases hr with
        | @func _ _ _ cs ds g1 g2 g3 g4 =>
          have hA := (ARl.append (ARl.append ⟨g1, g2⟩ ha) ⟨g3, g4⟩)
          have he := hA.gnd (by simpa using z1)
          refine Sim.leaf (a := OpRes.val v) (R := NR) fun E1 g w hE _ _ => ⟨.value v, ?_, gnd_refl E1 3 v z2⟩
          have := z3 w
          rw [show (first ++ vs.toArray ++ cap).toList.toArray = first ++ vs.toArray ++ cap by simp, ← he] at this
          simp [resolve, hq, Deferred.ofValue, invoke]
          simpa using this
      · exact Sim.fail
    | true =>
      simp only [cond_true]
      obtain ⟨fn, h1, h2, h3⟩ := hX.x f hx
      have hr := hρ _ _ hf
      have ha := evs_arr hρ hvs
      generalize hq : ρ fv = q at hr
      cases hr with
      | @func _ _ _ cs ds g1 g2 g3 g4 =>
        refine Sim.leaf fun E1 g w hE _ _ => ⟨.enter f (cs ++ args.map ρ ++ ds), ?_, rfl, ((ARl.append (ARl.append ⟨g1, g2⟩ ha) ⟨g3, g4⟩)).mono hE⟩
        have h3' : fn.body ≠ none := fun e => by rw [e] at h3; cases h3
        have h2' : ¬ fn.name = "runtime.NumGoroutine" := by simpa using h2
        simp [resolve, hq, Deferred.ofValue, invoke, callFunc, h1, h2', h3']
  · exact Sim.fail
theorem sim_deferA {ev : Ev} {ρ : Operand → Value} (hρ : ∀ x v, ev x = some v → VR E v (ρ x)) {fv : Operand} {args : Array Operand} {ts : Array TypeId} {ty : TypeId} :
    Sim P lo w0 E H (deferA ev fv args : M I OpRes) (do pure (.defer (← resolve ρ { callee := .value fv, args := args, argTypes := ts } ty)) : Sem Next) NR := by
  unfold deferA
  split
  · rename_i f first cap vs hf hvs
    have hr := hρ _ _ hf
    have ha := evs_arr hρ hvs
    generalize hq : ρ fv = q at hr
    cases hr with
    | @func _ _ _ cs ds g1 g2 g3 g4 =>
      refine Sim.leaf fun E1 g w hE _ _ => ⟨.defer { target := .fn (.func f) ds, args := cs ++ args.map ρ }, ?_, f, _, _, rfl, rfl, ARl.mono hE ⟨g3, g4⟩, (ARl.append ⟨g1, g2⟩ ha).mono hE⟩
      simp [resolve, hq, Deferred.ofValue]
  · exact Sim.fail

theorem sim_builtinA {ev : Ev} {ρ : Operand → Value} (hρ : ∀ x v, ev x = some v → VR E v (ρ x)) {o : Oper} {b : Builtin} {args : Array Operand} {ts : Array TypeId} (ho : o.op = .call { callee := .builtin b, args := args, argTypes := ts }) :
    Sim P lo w0 E noH (builtinA P lo ev o b args ts : M I OpRes) (execOp ρ o) NR := by
  have hs : ∀ cs b, o.op ≠ .select cs b := fun cs b e => by rw [ho] at e; cases e
  have he : ∀ (c : Sem Next), (∀ w, (builtin b ts o.type (args.map fun | .const _ => true | _ => false) (args.map ρ)).run P w = c.run P w) → ∀ w, (execOp ρ o).run P w = c.run P w := fun c hc w => by
    rw [← hc w]; unfold execOp; rw [ho]; simp [resolve, invoke]; rfl
  unfold builtinA
  split
  · rename_i s x st xt
    refine Sim.arg hρ fun sv hsv => Sim.arg hρ fun xv hxv => Sim.eqrun (he (do pure (.value (← Builtin.append_ #[st, xt] o.type #[ρ s, ρ x]))) fun w => ?_) (sim_liftV (sim_appendA hsv hxv))
    simp [builtin]
  · rename_i s x st xt
    refine Sim.arg hρ fun sv hsv => Sim.arg hρ fun xv hxv => Sim.eqrun (he (do pure (.value (← Builtin.copy_ #[st, xt] o.type #[ρ s, ρ x]))) fun w => ?_) (sim_liftV (sim_copyA hsv hxv))
    simp [builtin]
  · rename_i x t
    refine Sim.arg hρ fun xv hxv => Sim.eqrun (he (do pure (.value (← Builtin.len_ #[t] o.type #[ρ x]))) fun w => ?_) (sim_liftV (sim_lenA rfl hxv))
    simp [builtin]
  · rename_i x t
    refine Sim.arg hρ fun xv hxv => Sim.eqrun (he (do pure (.value (← Builtin.cap_ #[t] o.type #[ρ x]))) fun w => ?_) (sim_liftV (sim_capA rfl hxv))
    simp [builtin]
  · refine Sim.eqrun (he (pure .recover) fun w => rfl) (Sim.pure fun E1 hE => trivial)
  all_goals first | exact Sim.fail | exact sim_pureOp hρ hs

theorem sim_nilCheckA {x x' : Value} (hx : VR E x x') : Sim P lo w0 E H (nilCheckA x : M I Value) (match x' with
    | .pointer none | .nilIface | .nilFunc => runtimePanic .nilDeref
    | x => pure x : Sem Value) VR := by
  unfold nilCheckA
  split
  · cases hx with
    | ptr h => exact Sim.val ⟨_, fun w => rfl, .ptr h⟩
  · cases hx with
    | iface _ h => exact Sim.val ⟨_, fun w => rfl, .iface _ h⟩
  · cases hx with
    | func h1 h2 h3 h4 => exact Sim.val ⟨_, fun w => rfl, .func h1 h2 h3 h4⟩
  · exact Sim.fail

theorem sim_extractA {x x' : Value} {i : Nat} (hx : VR E x x') : Sim P lo w0 E H (extractA x i : M I Value) (Instr.extract x' i) VR := by
  unfold extractA
  split
  · rename_i vs
    cases hx with
    | tuple h1 h2 =>
      cases hv : vs[i]? with
      | none => simp only [hv]; exact Sim.fail
      | some v =>
        simp only [hv]
        rename_i cs
        have hi : i < cs.size := by have := (Array.getElem?_eq_some_iff.1 hv).1; omega
        exact Sim.val ⟨cs[i], fun w => by simp [Instr.extract, hi], h2 v _ i hv (by simp [hi])⟩
  · exact Sim.fail
theorem sim_pickA {c a b c' a' b' : Value} (hc : VR E c c') (ha : VR E a a') (hb : VR E b b') : Sim P lo w0 E H (pickA c a b : M I Value) (do pure (if ← asBool c' then a' else b') : Sem Value) VR := by
  unfold pickA
  split
  · cases hc; exact Sim.val ⟨a', fun w => by simp [asBool], ha⟩
  · cases hc; exact Sim.val ⟨b', fun w => by simp [asBool], hb⟩
  · exact Sim.fail
theorem sim_binA {ev : Ev} {ρ : Operand → Value} (hρ : ∀ x v, ev x = some v → VR E v (ρ x)) {o : Oper} {op : BinOp} {t yt : TypeId} {x y : Operand} (ho : o.op = .binOp op t x y yt) {xv yv : Value} (hx : VR E xv (ρ x)) (hy : VR E yv (ρ y)) :
    Sim P lo w0 E H (binA P ev o op t xv yv : M I OpRes) (execOp ρ o) NR := by
  have hs : ∀ cs b, o.op ≠ .select cs b := fun cs b e => by rw [ho] at e; cases e
  have he : ∀ (v : Value) (w : World), (do eqGuard op t x y (ρ x) (ρ y); binOp op t (ρ x) (ρ y) : Sem Value).run P w = .ok v w → (execOp ρ o).run P w = .ok (.value v) w := fun v w h => by
    unfold execOp; rw [ho]
    simp only [Sem.run_bind] at h ⊢
    rw [h]; rfl
  unfold binA
  split
  · rename_i v hf
    have h1 : xv = ρ x ∧ yv = ρ y := by
      unfold fastBin at hf
      split at hf
      · constructor
        · generalize ρ x = q at hx; cases hx; rfl
        · generalize ρ y = q at hy; cases hy; rfl
      · cases hf
    rw [h1.1, h1.2] at hf
    exact Sim.leaf (a := OpRes.val v) (R := NR) fun E1 g w hE _ _ => ⟨_, he v w (fastBin_run (X := x) (Y := y) hf w).1, gnd_refl E1 0 v (fastBin_run (P := P) (t := t) (X := x) (Y := y) hf w).2⟩
  · cases hg : (gnd 3 xv && gnd 3 yv) with
    | true => exact sim_pureOp hρ hs
    | false =>
      simp only [cond_false]
      unfold eqNilA
      split
      · split
        · rename_i b hb
          exact Sim.leaf fun E1 g w hE _ _ => ⟨_, he _ w (eqNil_run hb hx hy x y w).1, .bool b⟩
        · exact Sim.fail
      · split
        · rename_i b hb
          exact Sim.leaf fun E1 g w hE _ _ => ⟨_, he _ w (eqNil_run hb hx hy x y w).2, .bool _⟩
        · exact Sim.fail
      · exact Sim.fail

theorem sim_valN {v : Value} {c : Sem Next} (h : ∃ v', (∀ w, c.run P w = .ok (.value v') w) ∧ VR E v v') : Sim P lo w0 E H (liftV (pure v) : M I OpRes) c NR := by
  obtain ⟨v', h1, h2⟩ := h
  exact Sim.congr (m' := pure (.val v)) rfl (Sim.leaf (a := OpRes.val v) (R := NR) fun E1 g w hE _ _ => ⟨.value v', h1 w, h2.mono hE⟩)
theorem isStr_run {t : TypeId} (h : isStr P t = false) : P.underlying t ≠ some .string := fun e => by
  unfold isStr at h; rw [e] at h; cases h

/-- One operation: what the evaluator says of it is what the model does. -/
theorem sim_stepOp {X : Hk} (hX : Plain P X) {ev : Ev} {ρ : Operand → Value} (hρ : ∀ x v, ev x = some v → VR E v (ρ x)) (o : Oper) :
    Sim P lo w0 E noH (stepOp P X lo ev o : M I OpRes) (execOp ρ o) NR := by
  obtain ⟨dst, op, type, pos, after, guard⟩ := o
  cases op with
  | move x => exact Sim.arg hρ fun v hv => sim_valN ⟨_, fun w => rfl, hv⟩
  | assign x => exact Sim.arg hρ fun v hv => sim_valN ⟨_, fun w => rfl, hv⟩
  | pick c a b =>
    refine Sim.arg hρ fun cv hc => Sim.arg hρ fun av ha => Sim.arg hρ fun bv hb => Sim.eqrun (fun w => ?_) (sim_liftV (sim_pickA hc ha hb))
    simp [execOp]
  | alloc t => exact sim_liftV sim_allocA
  | box t x => exact Sim.arg hρ fun v hv => sim_liftV (sim_boxA hv)
  | build t ps =>
    unfold stepOp sBuild
    simp only
    split
    · rename_i vs hvs
      refine sim_liftV (sim_buildA ?_)
      have := evps_rel hρ _ _ hvs
      rwa [← Array.toList_map] at this
    · exact Sim.fail
  | buildSlice t n ps =>
    unfold stepOp sBuildSlice
    simp only
    split
    · rename_i vs hvs
      refine sim_liftV (sim_buildSliceA ?_)
      have := evps_rel hρ _ _ hvs
      rwa [← Array.toList_map] at this
    · exact Sim.fail
  | insert t m k x => exact Sim.arg hρ fun mv hm => Sim.arg hρ fun kv hk => Sim.arg hρ fun xv hx => sim_liftU (sim_updateA hm hk hx)
  | load t a => exact Sim.arg hρ fun v hv => sim_liftV (sim_loadA hv)
  | store t a x => exact Sim.arg hρ fun v hv => Sim.arg hρ fun xv hx => sim_liftU (sim_storeA hv hx)
  | nilCheck x =>
    refine Sim.arg hρ fun v hv => ?_
    generalize hq : ρ x = q at hv
    unfold nilCheckA
    split
    · cases hv with
      | ptr h => exact sim_valN ⟨_, fun w => by simp [execOp, hq], .ptr h⟩
    · cases hv with
      | iface _ h => exact sim_valN ⟨_, fun w => by simp [execOp, hq], .iface _ h⟩
    · cases hv with
      | func h1 h2 h3 h4 => exact sim_valN ⟨_, fun w => by simp [execOp, hq], .func h1 h2 h3 h4⟩
    · exact fun s a s' hr => by obtain ⟨a1, s1, h1, h2⟩ := bind_run hr; exact (fail_run h1).elim
  | binOp op t x y yt => exact Sim.arg hρ fun xv hx => Sim.arg hρ fun yv hy => sim_binA hρ rfl hx hy
  | unOp op t x => exact sim_pureOp hρ (fun cs b e => by cases e)
  | convert s d x =>
    refine Sim.arg hρ fun v hv => ?_
    unfold convA
    split
    · rename_i u hu
      unfold convInt at hu
      split at hu
      · rename_i k n
        split at hu
        · rename_i sd k' h1 h2
          cases hu
          generalize hq : ρ x = q at hv
          cases hv
          refine Sim.leaf (a := OpRes.val (.int k' (k'.wrap n))) (R := NR) fun E1 g w hE _ _ => ⟨.value (.int k' (k'.wrap n)), ?_, .int _ _⟩
          simp [execOp, hq, convert, run_underlying h1, run_underlying h2, Conv.intToInt]
        · cases hu
      · cases hu
    · unfold convB
      cases hg : gnd 3 v with
      | true => exact sim_pureOp hρ (fun cs b e => by cases e)
      | false => exact sim_liftV (sim_strA hv)
  | makeInterface t x => exact Sim.arg hρ fun v hv => sim_liftV (sim_mkIface hv)
  | makeFunc fn first cap =>
    cases fn with
    | func f =>
      unfold stepOp sFunc
      simp only
      split
      · rename_i fs cs hf hc
        have h1 := evs_arr hρ hf
        have h2 := evs_arr hρ hc
        exact Sim.leaf fun E1 g w hE _ _ => ⟨.value (.func (.func f) (first.map ρ) (cap.map ρ)), by simp [execOp, Instr.makeFunc], .func h1.1 (h1.mono hE).2 h2.1 (h2.mono hE).2⟩
      · exact Sim.fail
    | _ => exact Sim.fail
  | makeMap t r =>
    cases r with
    | none => exact sim_liftV (sim_makeMapA fun w => rfl)
    | some r => exact Sim.fail
  | makeSlice t l c => exact Sim.arg hρ fun lv hl => Sim.arg hρ fun cv hc => sim_liftV (sim_makeSliceA hl hc)
  | slice t x l h m =>
    unfold stepOp sSlice
    simp only
    cases hs : isStr P t with
    | true => exact sim_pureOp hρ (fun cs b e => by cases e)
    | false =>
      refine Sim.arg hρ fun v hv => ?_
      split
      · rename_i lv hv' mv h1 h2 h3
        exact sim_liftV (sim_sliceA hv (evo_rel hρ h1) (evo_rel hρ h2) (evo_rel hρ h3))
      · exact Sim.fail
  | fieldAddr t x f => exact Sim.arg hρ fun v hv => sim_liftV (sim_fieldAddrA hv)
  | field t x f => exact Sim.arg hρ fun v hv => sim_liftV (sim_fieldA hv)
  | indexAddr t x i => exact Sim.arg hρ fun v hv => Sim.arg hρ fun iv hi => sim_liftV (sim_indexAddrA hv hi)
  | index t x i =>
    unfold stepOp sIndex
    simp only
    cases hs : isStr P t with
    | true => exact sim_pureOp hρ (fun cs b e => by cases e)
    | false => exact Sim.arg hρ fun v hv => Sim.arg hρ fun iv hi => sim_liftV (sim_indexA hv hi)
  | lookup t x i ok => exact Sim.arg hρ fun v hv => Sim.arg hρ fun iv hi => sim_liftV (sim_lookupA hv hi)
  | mapUpdate t m k x => exact Sim.arg hρ fun mv hm => Sim.arg hρ fun kv hk => Sim.arg hρ fun xv hx => sim_liftU (sim_updateA hm hk hx)
  | range t x => exact Sim.arg hρ fun v hv => sim_liftV (sim_rangeA hv)
  | next it isS => exact Sim.arg hρ fun v hv => sim_liftV (sim_nextA hv)
  | typeAssert x xT t ok => exact Sim.arg hρ fun v hv => sim_liftV (sim_assertA hv)
  | extract t i => exact Sim.arg hρ fun v hv => sim_liftV (sim_extractA hv)
  | call c =>
    obtain ⟨callee, args, ts⟩ := c
    cases callee with
    | value f => exact sim_callA hX hρ
    | builtin b => exact sim_builtinA hρ rfl
    | invoke r m => exact Sim.fail
  | defer c =>
    obtain ⟨callee, args, ts⟩ := c
    cases callee with
    | value f => exact sim_deferA hρ
    | builtin b => exact Sim.fail
    | invoke r m => exact Sim.fail
  | _ => exact Sim.fail
end Go.Am

/- The abstract evaluator: code and calls. Conditions: none. -/
namespace Go.Am
open Go Go.RowKit
set_option linter.unusedVariables false
set_option linter.unusedSimpArgs false
noncomputable section
variable {μ : Type} {I : MemI μ} {P : Program} {lo : Lim} {w0 : Bs} {E : Env} {H : (Nat → Option Obj) → Prop}

structure AAct where
  n : Nat
  t : Trie Value
  defers : List Deferred

def AAct.val (a : AAct) (i : Nat) : Value := (a.t.get i).getD undef
def evA (lo : Lim) (a : AAct) : Ev
  | .tmp i => some (a.val i)
  | .const v => bif gnd 3 v then some v else none
  | .global g => bif Nat.blt g lo.G then some (.pointer (some ⟨g, 0, none⟩)) else none
  | .func f => some (.func (.func f) #[] #[])
def putA' (a : AAct) (dst : Option Tmp) (v : Value) : M I AAct := match dst with
  | none => pure a
  | some d => bif Nat.blt d a.n && Nat.blt d 4095 then pure ⟨a.n, a.t.set 12 d (some v), a.defers⟩ else fail

structure ActR (E : Env) (a : AAct) (ca : Act) : Prop where
  size : ca.tmps.size = a.n
  val : ∀ i, VR E (a.val i) (ca.tmps.getD i undef)
  len : a.defers.length = ca.defers.length
  defers : ∀ (j : Nat) (d d' : Deferred), a.defers[j]? = some d → ca.defers[j]? = some d' → DR E d d'
theorem DR.mono {E E' : Env} (hE : ∀ k x, E k = some x → E' k = some x) {d d' : Deferred} (h : DR E d d') : DR E' d d' := by
  obtain ⟨f, c, c', h1, h2, h3, h4⟩ := h
  exact ⟨f, c, c', h1, h2, h3.mono hE, h4.mono hE⟩
theorem ActR.mono {E E' : Env} (hE : ∀ k x, E k = some x → E' k = some x) {a : AAct} {ca : Act} (h : ActR E a ca) : ActR E' a ca :=
  ⟨h.size, fun i => (h.val i).mono hE, h.len, fun j d d' h1 h2 => (h.defers j d d' h1 h2).mono hE⟩
theorem ActR.ev {a : AAct} {ca : Act} (h : ActR E a ca) (hold : ∀ k, k < lo.G → E k = some (k, 0)) : ∀ x v, evA lo a x = some v → VR E v (ca.eval x) := by
  intro x v hv
  cases x with
  | tmp i => simp [evA] at hv; subst hv; exact h.val i
  | const u =>
    cases hg : gnd 3 u with
    | true => simp [evA, hg] at hv; subst hv; exact gnd_refl E 3 u hg
    | false => simp [evA, hg] at hv
  | global g =>
    cases hb : Nat.blt g lo.G with
    | true =>
      simp [evA, hb] at hv; subst hv
      rw [blt_eq] at hb
      exact .ptr (r := 0) (hold g (by simpa using hb))
    | false => simp [evA, hb] at hv
  | func f => simp [evA] at hv; subst hv; exact .func rfl (fun _ _ j h => by simp at h) rfl (fun _ _ j h => by simp at h)
theorem ActR.put {a a' : AAct} {ca : Act} {dst : Option Tmp} {v v' : Value} {s s' : St μ} (h : ActR E a ca) (hv : VR E v v') (hr : (putA' a dst v : M I AAct).run s = some (a', s')) : s' = s ∧ ActR E a' (ca.put dst v') := by
  unfold putA' at hr
  cases dst with
  | none => obtain ⟨rfl, rfl⟩ := pure_run hr; exact ⟨rfl, h⟩
  | some d =>
    cases hb : (Nat.blt d a.n && Nat.blt d 4095) with
    | false => simp only [hb] at hr; exact (fail_run hr).elim
    | true =>
      simp only [hb] at hr
      obtain ⟨rfl, rfl⟩ := pure_run hr
      rw [blt_eq, blt_eq] at hb
      simp only [Bool.and_eq_true, decide_eq_true_eq] at hb
      refine ⟨rfl, ⟨by simp [Act.put, h.size], fun i => ?_, h.len, h.defers⟩⟩
      have hval : AAct.val ⟨a.n, a.t.set 12 d (some v), a.defers⟩ i = if i = d then v else a.val i := by
        unfold AAct.val
        rw [Trie.get_set 12 a.t d i (some v) (by omega)]
        split <;> rfl
      rw [hval]
      by_cases e : i = d
      · subst e
        have hlt : i < ca.tmps.size := by rw [h.size]; exact hb.1
        simp [Act.put, hlt]
        exact hv
      · have := h.val i
        have hne : ¬ (d = i) := fun h => e h.symm
        simp [Act.put, e, Array.getElem?_setIfInBounds, hne] at this ⊢
        exact this

inductive AExit where
  | normal
  | exit (id : Nat)
  | ret
  | panic (v : Value)
def ExR (E : Env) : AExit → Exit → Prop
  | .normal, .normal => True
  | .exit i, .exit j => i = j
  | .ret, .ret => True
  | .panic v, .panic c => ∃ v', c = [{ v := v', recovered := false }] ∧ VR E v v'
  | _, _ => False
inductive AEnd where
  | ret (v : Value)
  | panic (v : Value)
def EnR (E : Env) : AEnd → Ending → Prop
  | .ret v, .returned v' => VR E v v'
  | .panic v, .panicked c => ∃ v', c = [{ v := v', recovered := false }] ∧ VR E v v'
  | _, _ => False

structure Self (I : MemI μ) where
  code : Code → AAct → M I (AExit × AAct)
  call : FuncId → Array Value → M I AEnd

def yieldedA (ops : Array Oper) (a : AAct) (j : Nat) : Option Bool := match (ops[j]?).bind (·.dst) with
  | some d => bif Nat.blt d a.n then match a.val d with
    | .bool b => some b
    | _ => none
    else none
  | none => none
def wantedA (ops : Array Oper) (a : AAct) (o : Oper) : Bool := match o.guard with
  | none => true
  | some (j, want) => match yieldedA ops a j with
    | some b => bif want then b else !b
    | none => false
theorem wantedA_eq {ops : Array Oper} {a : AAct} {ca : Act} (h : ActR E a ca) (o : Oper) : Region.wanted o (yielded ops ca.tmps) = wantedA ops a o := by
  unfold Region.wanted wantedA
  cases hg : o.guard with
  | none => rfl
  | some jw =>
    obtain ⟨j, want⟩ := jw
    simp only
    have hy : yielded ops ca.tmps j = yieldedA ops a j := by
      unfold yielded yieldedA
      cases hd : (ops[j]?).bind (·.dst) with
      | none => rfl
      | some d =>
        simp only [Option.bind_some, blt_eq, ← h.size]
        have hv := h.val d
        by_cases hlt : d < ca.tmps.size
        · simp only [hlt, decide_true, cond_true]
          rw [Array.getElem?_eq_getElem hlt]
          have : ca.tmps.getD d undef = ca.tmps[d] := by simp [hlt]
          rw [this] at hv
          generalize a.val d = x at hv
          generalize ca.tmps[d] = y at hv
          cases hv <;> rfl
        · simp only [hlt, decide_false, cond_false]
          rw [Array.getElem?_eq_none (Nat.le_of_not_lt hlt)]
    rw [hy]
    cases yieldedA ops a j with
    | none => rfl
    | some b => cases b <;> cases want <;> rfl

def afterCall (a : AAct) (o : Oper) (k : AAct → M I (AExit × AAct)) (e : AEnd) : M I (AExit × AAct) := match e with
  | .ret v => putA' a o.dst v >>= k
  | .panic v => pure (.panic v, a)
def afterOp (self : Self I) (a : AAct) (o : Oper) (k : AAct → M I (AExit × AAct)) (r : OpRes) : M I (AExit × AAct) := match r with
  | .val v => putA' a o.dst v >>= k
  | .call f args => self.call f args >>= afterCall a o k
  | .defer d => putA' ⟨a.n, a.t, d :: a.defers⟩ o.dst undef >>= k
  | _ => fail
def panicV (a : AAct) (v : Value) : M I (AExit × AAct) := match v with
  | .iface _ _ => pure (.panic v, a)
  | _ => fail
def panicA (lo : Lim) (a : AAct) (x : Operand) : M I (AExit × AAct) := arg (evA lo a) x >>= panicV a
def opB (P : Program) (X : Hk) (lo : Lim) (self : Self I) (a : AAct) (o : Oper) (k : AAct → M I (AExit × AAct)) : M I (AExit × AAct) := match o.op with
  | .panic x => panicA lo a x
  | _ => stepOp P X lo (evA lo a) o >>= afterOp self a o k
/-- Operations one behind the other. -/
def opsSeq (P : Program) (X : Hk) (lo : Lim) (self : Self I) (ops : Array Oper) : List Oper → AAct → M I (AExit × AAct)
  | [], a => pure (.normal, a)
  | o :: rest, a => bif wantedA ops a o then opB P X lo self a o (opsSeq P X lo self ops rest) else putA' a o.dst undef >>= opsSeq P X lo self ops rest

def afterRound (k : AAct → M I (AExit × AAct)) (r : AExit × AAct) : M I (AExit × AAct) := match r with
  | (.normal, a1) => k a1
  | r => pure r
def loopA (self : Self I) (c : Code) : Nat → AAct → M I (AExit × AAct)
  | 0, _ => fail
  | m + 1, a => self.code c a >>= afterRound (loopA self c m)

/-! ### What the evaluator's calls and code promise -/
def CallOK (P : Program) (lo : Lim) (w0 : Bs) (call : FuncId → Array Value → M I AEnd) : Prop :=
  ∀ f args s r s', (call f args).run s = some (r, s') → ∀ E g w cargs, Rel P lo w0 E g w → Agree I s s' g → Fresh s s' E → ARl E args cargs →
    Calls P f cargs w fun e w' => ∃ E', Env.Ext E E' s.next s'.next ∧ EnR E' r e ∧ Rel P lo w0 E' (merge I s' g) w'
def CodeP (P : Program) (lo : Lim) (w0 : Bs) (m : M I (AExit × AAct)) (a : AAct) (C : (Exit → Act → World → Prop) → Act → World → Prop) : Prop :=
  ∀ s e a' s', m.run s = some ((e, a'), s') → ∀ E g w ca Q, Rel P lo w0 E g w → Agree I s s' g → Fresh s s' E → ActR E a ca →
    (∀ E' ce ca' w', Env.Ext E E' s.next s'.next → ExR E' e ce → ActR E' a' ca' → Rel P lo w0 E' (merge I s' g) w' → Q ce ca' w') → C Q ca w
def CodeOK (P : Program) (lo : Lim) (w0 : Bs) (code : Code → AAct → M I (AExit × AAct)) : Prop :=
  ∀ c a, CodeP P lo w0 (code c a) a (fun Q ca w => c.wp P Q ca w)

/-- What follows a step that is done. -/
theorem chain {α : Type} {m : M I α} {a : α} {s s1 s' : St μ} {g : Nat → Option Obj} {E E1 : Env} (h1 : m.run s = some (a, s1)) (h2 : St.Le I s1 s') (hA : Agree I s s' g) (hF : Fresh s s' E) (hx : Env.Ext E E1 s.next s1.next) :
    Agree I s1 s' (merge I s1 g) ∧ Fresh s1 s' E1 ∧ (∀ E', Env.Ext E1 E' s1.next s'.next → Env.Ext E E' s.next s'.next) ∧ merge I s' (merge I s1 g) = merge I s' g :=
  ⟨hA.second (m.le _ _ _ h1) h2, hF.second hx (m.le _ _ _ h1).next, fun E' h => hx.trans h (m.le _ _ _ h1).next h2.next, merge_merge g h2⟩

theorem opsSeq_ok {X : Hk} (hX : Plain P X) {self : Self I} (hc : CallOK P lo w0 self.call) {ops : Array Oper} : ∀ (l : List Oper) (a : AAct), CodeP P lo w0 (opsSeq P X lo self ops l a) a (fun Q ca w => wpList P ops Q l ca w)
  | [], a => by
    intro s e a' s' hr E g w ca Q hR hA hF ha hQ
    obtain ⟨h1, rfl⟩ := pure_run hr
    cases h1
    exact hQ E .normal ca w (.refl _ _) trivial ha (by rw [merge_read hA (fun _ => rfl) (fun _ => rfl)]; exact hR)
  | o :: rest, a => by
    intro s e a' s' hr E g w ca Q hR hA hF ha hQ
    have hw := wantedA_eq (ops := ops) ha o
    unfold opsSeq at hr
    unfold wpList
    rw [hw]
    cases hwa : wantedA ops a o with
    | false =>
      simp only [hwa, cond_false] at hr
      obtain ⟨a1, s1, h1, h2⟩ := bind_run hr
      obtain ⟨rfl, ha1⟩ := ha.put (VR.undef E) h1
      rw [if_neg (by simp)]
      exact opsSeq_ok hX hc rest a1 _ e a' s' h2 E g w _ Q hR hA hF ha1 hQ
    | true =>
      simp only [hwa, cond_true] at hr
      rw [if_pos rfl]
      refine .inl ?_
      have hev := ha.ev (lo := lo) hR.old
      by_cases hp : ∃ x, o.op = .panic x
      · obtain ⟨x, hx⟩ := hp
        unfold opB at hr
        rw [hx] at hr
        simp only at hr
        unfold panicA arg at hr
        cases hv : evA lo a x with
        | none => rw [hv] at hr; obtain ⟨_, _, h1, _⟩ := bind_run hr; exact (fail_run h1).elim
        | some v =>
          rw [hv] at hr
          obtain ⟨v1, s1, h1, h2⟩ := bind_run hr
          obtain ⟨rfl, rfl⟩ := pure_run h1
          unfold panicV at h2
          split at h2
          · rename_i t u
            obtain ⟨h3, rfl⟩ := pure_run h2
            cases h3
            have hvr := hev _ _ hv
            generalize hq : ca.eval x = q at hvr
            cases hvr with
            | iface _ hu =>
              rename_i u'
              have hrun : (execOp ca.eval o).run P w = .halt (.panic (.iface t u')) w := by
                unfold execOp; rw [hx]
                simp [hq, Instr.panic]
              unfold Oper.wp
              rw [hrun]
              exact hQ E (.panic [{ v := .iface t u', recovered := false }]) ca w (.refl _ _) ⟨_, rfl, .iface t hu⟩ ha (by rw [merge_read hA (fun _ => rfl) (fun _ => rfl)]; exact hR)
          · exact (fail_run h2).elim
      · have hnp : opB P X lo self a o (opsSeq P X lo self ops rest) = (stepOp P X lo (evA lo a) o >>= afterOp self a o (opsSeq P X lo self ops rest)) := by
          unfold opB
          split
          · rename_i x hx; exact absurd ⟨x, hx⟩ hp
          · rfl
        rw [hnp] at hr
        obtain ⟨r, s1, h1, h2⟩ := bind_run hr
        have hle2 : St.Le I s1 s' := M.le _ _ _ _ h2
        obtain ⟨E1, nx, w1, hrun, hx1, hnr, hR1⟩ := sim_stepOp (lo := lo) (w0 := w0) (E := E) hX hev o s r s1 h1 E g w (fun _ _ h => h) hR (hA.first hle2) (hF.first hle2.next) trivial
        obtain ⟨hA1, hF1, hX1, hm1⟩ := chain h1 hle2 hA hF hx1
        have ha1 := ha.mono hx1.keep
        unfold Oper.wp
        rw [hrun]
        cases r with
        | val v =>
          obtain ⟨a1, s2, h3, h4⟩ := bind_run h2
          have key : ∀ v', VR E1 v v' → wpList P ops Q rest (ca.put o.dst v') w1 := fun v' hv' => by
            obtain ⟨rfl, ha2⟩ := ha1.put hv' h3
            refine opsSeq_ok hX hc rest a1 _ e a' s' h4 E1 _ w1 _ Q hR1 hA1 hF1 ha2 fun E' ce ca' w' hx' he' ha' hR' => hQ E' ce ca' w' (hX1 E' hx') he' ha' (by rw [hm1] at hR'; exact hR')
          cases nx <;> simp only [NR] at hnr <;> first | exact hnr.elim | skip
          · exact key _ hnr
          · subst hnr; exact key _ (VR.undef E1)
        | call f args =>
          cases nx <;> simp only [NR] at hnr <;> first | exact hnr.elim | skip
          rename_i f' cs
          obtain ⟨rfl, hargs⟩ := hnr
          obtain ⟨en, s2, h3, h4⟩ := bind_run h2
          have hle3 : St.Le I s2 s' := M.le _ _ _ _ h4
          have hcall := hc f args s1 en s2 h3 E1 _ w1 cs hR1 (hA1.first hle3) (hF1.first hle3.next) hargs
          refine hcall.mono fun e2 w2 ⟨E2, hx2, hen, hR2⟩ => ?_
          obtain ⟨hA2, hF2, hX2, hm2⟩ := chain h3 hle3 hA1 hF1 hx2
          have ha2 := ha1.mono hx2.keep
          cases en with
          | ret v =>
            cases e2 with
            | panicked c => exact hen.elim
            | outgrown => exact hen.elim
            | returned v' =>
            obtain ⟨a1, s3, h5, h6⟩ := bind_run h4
            obtain ⟨rfl, ha3⟩ := ha2.put hen h5
            refine opsSeq_ok hX hc rest a1 _ e a' s' h6 E2 _ w2 _ Q hR2 hA2 hF2 ha3 fun E' ce ca' w' hx' he' ha' hR' => hQ E' ce ca' w' (hX1 E' (hX2 E' hx')) he' ha' (by rw [hm2, hm1] at hR'; exact hR')
          | panic v =>
            obtain ⟨h5, rfl⟩ := pure_run h4
            cases h5
            cases e2 with
            | panicked c =>
              have hmm : merge I s' (merge I s1 g) = merge I s' g := hm1
              exact hQ E2 (.panic c) ca w2 (hX1 E2 hx2) hen ha2 (by rw [hmm] at hR2; exact hR2)
            | returned v' => exact hen.elim
            | outgrown => exact hen.elim
        | defer d =>
          cases nx <;> simp only [NR] at hnr <;> first | exact hnr.elim | skip
          rename_i d'
          obtain ⟨a1, s2, h3, h4⟩ := bind_run h2
          have ha2 : ActR E1 ⟨a.n, a.t, d :: a.defers⟩ { ca with defers := d' :: ca.defers } := ⟨ha1.size, ha1.val, by simp [ha1.len], fun j x y hx hy => by
            rcases j with _ | j
            · simp at hx hy; subst hx; subst hy; exact hnr
            · simp at hx hy; exact ha1.defers j x y hx hy⟩
          obtain ⟨rfl, ha3⟩ := ha2.put (VR.undef E1) h3
          refine opsSeq_ok hX hc rest a1 _ e a' s' h4 E1 _ w1 _ Q hR1 hA1 hF1 ha3 fun E' ce ca' w' hx' he' ha' hR' => hQ E' ce ca' w' (hX1 E' hx') he' ha' (by rw [hm1] at hR'; exact hR')
        | panic v => exact (fail_run h2).elim
        | recover => exact (fail_run h2).elim
end
end Go.Am

/- The abstract evaluator: a region that draws its order. Conditions: none. -/
namespace Go.Am
open Go Go.RowKit
set_option linter.unusedVariables false
set_option linter.unusedSimpArgs false
noncomputable section
variable {μ : Type} {I : MemI μ} {P : Program} {lo : Lim} {w0 : Bs} {E : Env}

/-- A run with marks of its own. -/
def alone {α : Type} (m : M I α) : M I (α × Nat × Nat) := ⟨fun s => match m.run ⟨s.next, s.mem, 0, 0⟩ with
    | none => none
    | some (a, s') => some ((a, s'.T, s'.W), ⟨s'.next, s'.mem, s.T ||| s'.T, s.W ||| s'.W⟩), fun s a s' h => by
  cases e : m.run ⟨s.next, s.mem, 0, 0⟩ with
  | none => rw [e] at h; cases h
  | some x =>
    obtain ⟨b, s1⟩ := x
    rw [e] at h; cases h
    have hl := m.le _ _ _ e
    refine ⟨hl.next, fun k hk => by simp [Nat.testBit_or, hk], fun k hk => by simp [Nat.testBit_or, hk], fun k hk => ?_⟩
    simp [Nat.testBit_or] at hk
    exact hl.mem k hk.2⟩
theorem alone_run {α : Type} {m : M I α} {s s' : St μ} {a : α} {T W : Nat} (h : (alone m).run s = some ((a, T, W), s')) :
    m.run ⟨s.next, s.mem, 0, 0⟩ = some (a, ⟨s'.next, s'.mem, T, W⟩) ∧ s'.T = s.T ||| T ∧ s'.W = s.W ||| W := by
  simp only [alone] at h
  cases e : m.run ⟨s.next, s.mem, 0, 0⟩ with
  | none => rw [e] at h; cases h
  | some x =>
    obtain ⟨b, s1⟩ := x
    rw [e] at h; cases h
    exact ⟨rfl, rfl, rfl⟩

/-- The slots that an operation looks at, and no others. -/
def evO (lo : Lim) (ops : Array Oper) (o : Oper) (a : AAct) : Ev
  | .tmp t => bif (o.looksAt ops).contains t then some (a.val t) else none
  | x => evA lo a x

def endV (e : AEnd) : M I Value := match e with
  | .ret v => pure v
  | .panic _ => fail
def resV (self : Self I) (r : OpRes) : M I Value := match r with
  | .val v => pure v
  | .call f args => self.call f args >>= endV
  | _ => fail
/-- One operation of the region, walked to its value. -/
def oneD (P : Program) (X : Hk) (lo : Lim) (self : Self I) (ops : Array Oper) (o : Oper) (a : AAct) : M I Value :=
  bif wantedA ops a o then stepOp P X lo (evO lo ops o a) o >>= resV self else pure undef

/-- What one operation of the region has done. -/
structure Mk where
  T : Nat
  W : Nat

/-- The text's order, with the marks of each. -/
def runD (P : Program) (X : Hk) (lo : Lim) (self : Self I) (ops : Array Oper) : List Oper → AAct → M I (AAct × List Mk)
  | [], a => pure (a, [])
  | o :: rest, a => alone (oneD P X lo self ops o a) >>= fun r => putA' a o.dst r.1 >>= fun a' => runD P X lo self ops rest a' >>= fun q => pure (q.1, ⟨r.2.1, r.2.2⟩ :: q.2)

/-- Two operations do not touch each other. -/
def apartM (ops : Array Oper) (o p : Oper) (x y : Mk) : Bool := o.apart ops p && Nat.beq (x.W &&& (y.T ||| y.W)) 0 && Nat.beq (x.T &&& y.W) 0
/-- What stands ahead of each operation, as bits. -/
def maskOf (acc : List Nat) : List Edge → Nat
  | [] => 0
  | e :: l => bif Region.binds .any e then (maskOf acc l ||| 1 <<< e.on) ||| acc.getD e.on 0 else maskOf acc l
def masks : List Oper → List Nat → List Nat
  | [], acc => acc
  | o :: l, acc => masks l (acc ++ [maskOf acc o.after.toList])
/-- i < j: the one is ahead of the other, or they are apart. -/
def checkD (ops : Array Oper) (bef : List Nat) (ms : List Mk) : Bool :=
  (ms.zipIdx.all fun (y, j) => ms.zipIdx.all fun (x, i) => !Nat.blt i j || (bef.getD j 0).testBit i || match ops[i]?, ops[j]? with
    | some o, some p => apartM ops o p x y
    | _, _ => false) && ops.toList.zipIdx.all fun (o, i) => o.after.all fun e => !Region.binds .any e || Nat.blt e.on i
def drawA (P : Program) (X : Hk) (lo : Lim) (self : Self I) (ops : Array Oper) (a : AAct) : M I (AExit × AAct) :=
  runD P X lo self ops ops.toList a >>= fun q => bif checkD ops (masks ops.toList []) q.2 then pure (.normal, q.1) else fail
/-- Edges and guard look back. -/
def backOK (n i : Nat) (o : Oper) : Bool := (o.after.all fun e => !Region.binds .any e || Nat.blt e.on i) && match o.guard with
  | some (j, _) => Nat.blt j n
  | none => true
/-- The last one, where it stands behind all the others. -/
def lastP (ops : Array Oper) : Option Oper := match ops.back? with
  | some p => bif (ops.toList.zipIdx.all fun (o, i) => backOK ops.pop.size i o) && ((List.range ops.pop.size).all fun i => ((masks ops.toList []).getD ops.pop.size 0).testBit i) then some p else none
  | none => none
def thenL (k : AAct → M I (AExit × AAct)) (r : AExit × AAct) : M I (AExit × AAct) := match r with
  | (.normal, a1) => k a1
  | r => pure r
def drawL (P : Program) (X : Hk) (lo : Lim) (self : Self I) (ops : Array Oper) (a : AAct) : M I (AExit × AAct) := match lastP ops with
  | some p => drawA P X lo self ops.pop a >>= thenL (opsSeq P X lo self ops [p])
  | none => drawA P X lo self ops a
end
end Go.Am

/- The abstract evaluator: it runs. Conditions: none. -/
namespace Go.Am
open Go Go.RowKit
set_option linter.unusedVariables false
set_option linter.unusedSimpArgs false
noncomputable section
variable {μ : Type} {I : MemI μ} {P : Program} {lo : Lim} {w0 : Bs} {E : Env}

def thenA (k : AAct → M I (AExit × AAct)) (r : AExit × AAct) : M I (AExit × AAct) := match r with
  | (.normal, a1) => k a1
  | r => pure r
def inBlockA (id : Nat) (r : AExit × AAct) : M I (AExit × AAct) := match r with
  | (.exit j, a1) => bif Nat.beq j id then pure (.normal, a1) else pure (.exit j, a1)
  | r => pure r
def condA (lo : Lim) (self : Self I) (c : Operand) (x y : Code) (a : AAct) : M I (AExit × AAct) := match evA lo a c with
  | some (.bool b) => bif b then self.code x a else self.code y a
  | _ => fail
def codeStep (P : Program) (X : Hk) (lo : Lim) (self : Self I) : Code → AAct → M I (AExit × AAct)
  | .skip, a => pure (.normal, a)
  | .label _, a => pure (.normal, a)
  | .seq x y, a => self.code x a >>= thenA (self.code y)
  | .cond c x y, a => condA lo self c x y a
  | .block id b, a => self.code b a >>= inBlockA id
  | .loop b, a => loopA self b 1000000 a
  | .scope b, a => self.code b a
  | .exit id, a => pure (.exit id, a)
  | .ret, a => pure (.ret, a)
  | .region _ ops false, a => opsSeq P X lo self ops ops.toList a
  | .region _ ops true, a => drawL P X lo self ops a
  | _, _ => fail

def resL (P : Program) (a : AAct) : List ResultVar → M I (List Value)
  | [] => pure []
  | .tmp t :: l => resL P a l >>= fun vs => pure (a.val t :: vs)
  | .cell x t :: l => loadA P t (a.val x) >>= fun v => resL P a l >>= fun vs => pure (v :: vs)
def resA (P : Program) (fn : Func) (a : AAct) : M I Value := resL P a fn.results.toList >>= fun vs => match vs with
  | [v] => pure v
  | vs => pure (.tuple vs.toArray)

def fillT : List Value → Nat → Trie Value → Trie Value
  | [], _, t => t
  | v :: l, i, t => fillT l (i + 1) (t.set 12 i (some v))

def leaveA (P : Program) (fn : Func) (a : AAct) : M I AEnd := match a.defers with
  | [] => resA P fn a >>= fun v => pure (.ret v)
  | _ => fail
def leaveP (a : AAct) (v : Value) : M I AEnd := match a.defers with
  | [] => pure (.panic v)
  | _ => fail
def bodyA (P : Program) (fn : Func) (r : AExit × AAct) : M I AEnd := match r.1 with
  | .normal => leaveA P fn r.2
  | .ret => leaveA P fn r.2
  | .panic v => leaveP r.2 v
  | _ => fail
def enterA (P : Program) (self : Self I) (args : Array Value) (fn : Func) : M I AEnd := match fn.body with
  | some c => bif Nat.blt args.size 4000 then self.code c ⟨args.size + (fn.ntmps - args.size), fillT args.toList 0 .leaf, []⟩ >>= bodyA P fn else fail
  | none => fail
/-- Calls that are known by a contract: what they do to the abstract memory. -/
abbrev Hook (I : MemI μ) := Option (FuncId → Array Value → Option (M I AEnd))
def bodyStep (P : Program) (X : Hk) (self : Self I) (f : FuncId) (args : Array Value) : M I AEnd := match X.L f args.toList with
  | some v => pure (.ret v)
  | none => match P.funcs[f]? with
    | some fn => enterA P self args fn
    | none => fail
def callStep (P : Program) (X : Hk) (K : Hook I) (self : Self I) (f : FuncId) (args : Array Value) : M I AEnd := match K with
  | none => bodyStep P X self f args
  | some h => match h f args with
    | some m => m
    | none => bodyStep P X self f args

def evalN (P : Program) (X : Hk) (lo : Lim) (K : Hook I) : Nat → Self I
  | 0 => ⟨fun _ _ => fail, fun _ _ => fail⟩
  | n + 1 => ⟨codeStep P X lo (evalN P X lo K n), callStep P X K (evalN P X lo K n)⟩

/-- The empty memory. -/
def st0 (n : Nat) : St (Trie Obj) := ⟨n, .leaf, 0, 0⟩
def runs (P : Program) (X : Hk) (n : Nat) (f : FuncId) (args : Array Value) (p : Value → Bool) : Bool := match ((evalN (I := trieI) P X ⟨0, 0⟩ none n).call f args).run (st0 0) with
  | some (.ret v, _) => p v
  | _ => false
end
end Go.Am
