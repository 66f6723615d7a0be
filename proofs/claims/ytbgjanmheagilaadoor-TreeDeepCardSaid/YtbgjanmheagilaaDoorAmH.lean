/- The abstract evaluator: one operation. Conditions: none. -/
import Derived.Test.YtbgjanmheagilaaDoorAmG
import Derived.Orders
namespace Go.Am
open Go Go.RowKit
set_option linter.unusedVariables false
set_option linter.unusedSimpArgs false
variable {μ : Type} {I : MemI μ} {P : Program} {lo : Lim} {w0 : Bs} {E : Env} {H : (Nat → Option Obj) → Prop}

/-- How an operation ends. -/
inductive OpRes where
  | val (v : Value)
  | panic (v : Value)
  | call (f : FuncId) (args : Array Value)
  | defer (d : Deferred)
  | recover

def DR (E : Env) (d d' : Deferred) : Prop := ∃ f cap cap', d.target = .fn (.func f) cap ∧ d'.target = .fn (.func f) cap' ∧ ARl E cap cap' ∧ ARl E d.args d'.args
/-- An operation's end against the model's. -/
def NR (E : Env) : OpRes → Next → Prop
  | .val v, .value v' => VR E v v'
  | .val v, .skip => v = undef
  | .call f as, .enter f' cs => f = f' ∧ ARl E as cs
  | .defer d, .defer d' => DR E d d'
  | .recover, .recover => True
  | _, _ => False

abbrev Ev := Operand → Option Value
def evT (ev : Ev) (x : Operand) : Value := (ev x).getD undef

def liftV (m : M I Value) : M I OpRes := m >>= fun v => pure (.val v)
def liftU (m : M I Unit) : M I OpRes := m >>= fun _ => pure (.val undef)
theorem sim_liftV {m : M I Value} {c : Sem Value} (h : Sim P lo w0 E H m c VR) : Sim P lo w0 E H (liftV m) (do pure (.value (← c)) : Sem Next) NR :=
  Sim.bind h fun E1 a b hE hab => Sim.pure fun E2 hE2 => hab.mono hE2
theorem sim_liftU {m : M I Unit} {c : Sem Unit} (h : Sim P lo w0 E H m c (fun _ _ _ => True)) : Sim P lo w0 E H (liftU m) (do c; pure .skip : Sem Next) NR :=
  Sim.bind h fun E1 a b hE hab => Sim.pure fun E2 hE2 => rfl

/-! ### What does not look at the world -/
def gndV (v : Value) : Bool := gnd 3 v
def pureOp (P : Program) (ev : Ev) (o : Oper) : M I OpRes :=
  bif o.op.operands.toList.all (fun x => match ev x with | some v => gnd 3 v | none => false) then
    match pureRun P (execOp (evT ev) o) with
    | some (.value v) => bif gnd 3 v then pure (.val v) else fail
    | _ => fail
  else fail
theorem sim_pureOp {ev : Ev} {ρ : Operand → Value} {o : Oper} (hρ : ∀ x v, ev x = some v → VR E v (ρ x)) (hs : ∀ cs b, o.op ≠ .select cs b) : Sim P lo w0 E H (pureOp P ev o : M I OpRes) (execOp ρ o) NR := by
  unfold pureOp
  cases hb : o.op.operands.toList.all (fun x => match ev x with | some v => gnd 3 v | none => false) with
  | false => exact Sim.fail
  | true =>
    simp only [cond_true]
    have he : execOp (evT ev) o = execOp ρ o := execOp_congr o hs fun x hx => by
      have h1 := List.all_eq_true.1 hb x (by simpa using hx)
      unfold evT
      cases hv : ev x with
      | none => rw [hv] at h1; cases h1
      | some v =>
        rw [hv] at h1
        exact (gnd_eq (hρ x v hv) 3 h1).symm
    split
    · rename_i v hp
      cases hg : gnd 3 v with
      | false => exact Sim.fail
      | true =>
        rw [he] at hp
        exact Sim.leaf fun E1 g w hE _ _ => ⟨_, pureRun_run hp w, gnd_refl E1 3 v hg⟩
    · exact Sim.fail

/-! ### Rows of operands -/
def evs (ev : Ev) : List Operand → Option (List Value)
  | [] => some []
  | x :: xs => match ev x with
    | some v => match evs ev xs with
      | some vs => some (v :: vs)
      | none => none
    | none => none
theorem evs_rel {ev : Ev} {ρ : Operand → Value} (hρ : ∀ x v, ev x = some v → VR E v (ρ x)) : ∀ (xs : List Operand) (vs : List Value), evs ev xs = some vs → LR E vs (xs.map ρ)
  | [], vs, h => by simp [evs] at h; subst h; exact ⟨rfl, fun a c j ha => by simp at ha⟩
  | x :: xs, vs, h => by
    simp only [evs] at h
    split at h
    · rename_i v hv
      split at h
      · rename_i vs' hvs
        cases h
        have ih := evs_rel hρ xs vs' hvs
        refine ⟨by simp [ih.1], fun a c j ha hc => ?_⟩
        rcases j with _ | j
        · simp at ha hc; subst ha; subst hc; exact hρ x v hv
        · simp at ha hc; exact ih.2 a c j ha (by simpa using hc)
      · cases h
    · cases h
theorem LR.arr {as cs : List Value} (h : LR E as cs) : ARl E as.toArray cs.toArray := ⟨by simpa using h.1, fun a c j ha hc => h.2 a c j (by simpa using ha) (by simpa using hc)⟩
theorem ARl.lst {as cs : Array Value} (h : ARl E as cs) : LR E as.toList cs.toList := ⟨by simpa using h.1, fun a c j ha hc => h.2 a c j (by simpa using ha) (by simpa using hc)⟩
theorem evs_arr {ev : Ev} {ρ : Operand → Value} (hρ : ∀ x v, ev x = some v → VR E v (ρ x)) {xs : Array Operand} {vs : List Value} (h : evs ev xs.toList = some vs) : ARl E vs.toArray (xs.map ρ) := by
  have := (evs_rel hρ _ _ h).arr
  rwa [show ((xs.toList.map ρ).toArray : Array Value) = xs.map ρ by rw [← Array.toList_map]] at this
def evps (ev : Ev) : List (Nat × Operand) → Option (List (Nat × Value))
  | [] => some []
  | (i, x) :: xs => match ev x with
    | some v => match evps ev xs with
      | some vs => some ((i, v) :: vs)
      | none => none
    | none => none
theorem evps_rel {ev : Ev} {ρ : Operand → Value} (hρ : ∀ x v, ev x = some v → VR E v (ρ x)) : ∀ (xs : List (Nat × Operand)) (vs : List (Nat × Value)), evps ev xs = some vs → PR E vs (xs.map fun (i, x) => (i, ρ x))
  | [], vs, h => by simp [evps] at h; subst h; trivial
  | (i, x) :: xs, vs, h => by
    simp only [evps] at h
    split at h
    · rename_i v hv
      split at h
      · rename_i vs' hvs
        cases h
        exact ⟨rfl, hρ x v hv, evps_rel hρ xs vs' hvs⟩
      · cases h
    · cases h
def evo (ev : Ev) : Option Operand → Option (Option Value)
  | none => some none
  | some x => match ev x with
    | some v => some (some v)
    | none => none
theorem evo_rel {ev : Ev} {ρ : Operand → Value} (hρ : ∀ x v, ev x = some v → VR E v (ρ x)) {x : Option Operand} {v : Option Value} (h : evo ev x = some v) : OVR E v (x.map ρ) := by
  cases x with
  | none => simp [evo] at h; subst h; trivial
  | some x =>
    simp only [evo] at h
    split at h
    · rename_i u hu; cases h; exact hρ x u hu
    · cases h

/-! ### Texts out of bytes -/
def strA (P : Program) (src dst : TypeId) (x : Value) : M I Value := match P.underlying src, P.underlying dst, x with
  | some (.slice e), some .string, .slice (some ⟨k, o, _⟩) n _ => match P.underlying e with
    | some (.int .u8) => rd k >>= fun ob => match ob with
      | .cells c _ _ => bif Nat.ble (o + n) c.size then match bytesOf ((c.toList.drop o).take n) with
          | some bs => pure (.string ⟨bs.toArray⟩)
          | none => fail
        else fail
      | _ => fail
    | _ => fail
  | _, _, _ => fail
theorem bytesOf_spec : ∀ (l : List Value) (bs : List UInt8), bytesOf l = some bs → ∃ ns : List Int, l = ns.map (Value.int .u8) ∧ bs = ns.map fun n => UInt8.ofNat n.toNat
  | [], bs, h => by simp [bytesOf] at h; subst h; exact ⟨[], rfl, rfl⟩
  | v :: l, bs, h => by
    unfold bytesOf at h
    split at h
    · rename_i h0; cases h0
    · rename_i n l' h0
      cases h0
      split at h
      · rename_i r hr
        cases h
        obtain ⟨ns, rfl, rfl⟩ := bytesOf_spec l r hr
        exact ⟨n :: ns, rfl, rfl⟩
      · cases h
    · cases h
theorem fold_push : ∀ (ns : List Int) (s : ByteArray), ns.foldl (fun r n => r.push (UInt8.ofNat n.toNat)) s = ⟨s.data ++ (ns.map fun n => UInt8.ofNat n.toNat).toArray⟩
  | [], s => by simp
  | n :: ns, s => by
    rw [List.foldl_cons, fold_push ns]
    congr 1
    apply Array.toList_inj.1
    simp [ByteArray.push]
theorem sim_strA {src dst : TypeId} {x x' : Value} (hx : VR E x x') : Sim P lo w0 E H (strA P src dst x : M I Value) (convert src dst x') VR := by
  unfold strA
  split
  · rename_i e k o sp n cp hs hd
    split
    · rename_i he
      have key : ∀ (b r c' : Nat), E k = some (b, r) → Sim P lo w0 E H (rd k >>= fun ob => match ob with
          | .cells c _ _ => bif Nat.ble (o + n) c.size then match bytesOf ((c.toList.drop o).take n) with
              | some bs => (pure (.string ⟨bs.toArray⟩) : M I Value)
              | none => fail
            else fail
          | _ => fail) (convert src dst (.slice (some ⟨b, o, none⟩) n c')) VR := fun b r c' hk => by
        refine Sim.rd fun ob => ?_
        cases ob with
        | cells c e' fr =>
          cases hb : Nat.ble (o + n) c.size with
          | false => simp only [hb]; exact Sim.fail
          | true =>
            have hle := Nat.le_of_ble_eq_true hb
            simp only [hb, cond_true]
            split
            · rename_i bs hbs
              obtain ⟨ns, h1, rfl⟩ := bytesOf_spec _ _ hbs
              refine Sim.leaf fun E1 g w hE hR ⟨_, hg⟩ => ?_
              obtain ⟨cs, fr', h2, h3, _, h4⟩ := hR.cells hg (hE _ _ hk)
              have hseg : (cs.toList.drop o).take n = ns.map (Value.int .u8) := by
                rw [← h1]
                apply List.ext_getElem?
                intro j
                rw [seg_getElem?, seg_getElem?]
                split
                · rename_i hj
                  have hc : c[o + j]? = some c[o + j] := by simp
                  have hc' : cs[o + j]? = some cs[o + j] := by simp
                  have hv := h4 _ _ _ hc hc'
                  rw [hc, hc']
                  have hmem : c[o + j] ∈ (c.toList.drop o).take n := List.mem_of_getElem? (i := j) (by rw [seg_getElem?, if_pos hj, hc])
                  rw [h1] at hmem
                  obtain ⟨m, _, hm⟩ := List.mem_map.1 hmem
                  rw [gnd_eq hv 0 (by rw [← hm]; rfl)]
                · rfl
              have hlen : ((cs.toList.drop o).take n).length = n := by simp; omega
              have hl := run_loadCells_list (P := P) w ⟨b, o, none⟩ ((cs.toList.drop o).take n) (fun j v hj => by
                rw [seg_getElem?] at hj
                split at hj
                · rw [add_lit0, cell_of h2]; exact hj
                · cases hj)
              rw [hlen, hseg] at hl
              refine ⟨_, by rw [run_convert_bytes_string w src dst e _ n c' hs he hd, run_bytesToString w _ n c' ns hl], ?_⟩
              rw [fold_push]
              have : (ByteArray.empty.data ++ (ns.map fun n => UInt8.ofNat n.toNat).toArray) = (ns.map fun n => UInt8.ofNat n.toNat).toArray := by
                show (#[] : Array UInt8) ++ _ = _
                simp
              rw [this]
              exact .string _
            · exact Sim.fail
        | _ => exact Sim.fail
      cases hx with
      | slice _ _ hk => exact key _ _ _ hk
      | wide _ _ hk => exact key _ _ _ hk
    · exact Sim.fail
  · exact Sim.fail
end Go.Am
